/- Walks: bytes as small digits (quernref01.Hex), said of bytes. Conditions: as stated. -/
import Derived.Test.YtjaohjlddhjgpaaGreatDoorHx
import Derived.Test.YtjaohjlddhjgpaaGreatDoorEb
namespace Go.Proofs.YtjaohjlddhjgpaaGreatDoor
open Go.RowKit
set_option linter.unusedVariables false
attribute [local go_sem ↓] Go.wp_at_zero Go.wp_at_succ

set_option maxRecDepth 100000 in
theorem c_rhex1 (A : Option Addr) (n c : Nat) (xs : List Int) (w : World) (hr : Reads w w.heap.size 1 A n (u8s xs)) (hn : n ≤ 1048576) (hx : ∀ z ∈ xs, 0 ≤ z ∧ z < 256) :
    Calls Tryz.prog 26 #[.slice A n c] w fun e w' => e = .returned (bstr ((hxs xs).map fun z => UInt8.ofNat z.toNat)) ∧ Below w.heap.size w w' := by
  obtain ⟨i0, hi0, hz0, hz1, hz2⟩ := info_parts u8_info
  have HRD := Lib.hid hr
  have HXL : Hid (xs.length = n) := Lib.hid (by simpa using hr.1)
  have HXB := Lib.hid hx
  clear hr hx
  go_enter Tryz.func26, Tryz.ntmps26
  go_wp2_with fail
  go_loopw [3, 4] (fun vo vi wr => ∃ (i : Nat) (A0 : Option Addr) (c0 : Nat), vo = .slice A0 ((2 * i : Nat)) c0 ∧ vi = .int .i64 i ∧ i ≤ n ∧ Hid (wr.ownsRow w.heap.size 5 1 (.slice A0 (2 * i) c0) (2 * i) (u8s (hxs (xs.take i)))) ∧ Hid (Below w.heap.size w wr)) (fun _ vi _ => n - (intOf vi).toNat)
  case atStart => exact ⟨0, none, 0, rfl, rfl, Nat.zero_le _, ⟨rfl, .inl ⟨rfl, rfl⟩⟩, Below.refl _ _⟩
  case round =>
    obtain ⟨i, A0, c0, rfl, rfl, hi, HO, HB⟩ := hrel
    by_cases hlt : i < n
    · obtain ⟨b, off, hA, hb1, hb2, hcell⟩ := HRD.out.form (by omega)
      subst hA
      have hgx : (u8s xs).getD i undef = .int .u8 (xs.getD i 0) := by
        have := HXL.out
        simp [u8s, List.getD, List.getElem?_eq_getElem (show i < xs.length by omega)]
      have hc1 : wr.cell? ⟨b, off + i, none⟩ = some (.int .u8 (xs.getD i 0)) := by rw [(bcell HB.out).1 _ _ hb2, hcell i hlt, hgx]
      clear hcell hgx
      have HT := Lib.hid (hxs_take xs (i := i) (by rw [HXL.out]; exact hlt))
      have hz := HXB.out (xs.getD i 0) (by
        have := HXL.out
        rw [List.getD, List.getElem?_eq_getElem (show i < xs.length by omega)]
        exact List.getElem_mem _)
      generalize xs.getD i 0 = z at *
      obtain ⟨hzl, hzr⟩ := hz
      obtain ⟨p, hp⟩ : ∃ p : Nat, z / 16 = (p : Int) := ⟨(z / 16).toNat, by omega⟩
      obtain ⟨q, hq⟩ : ∃ q : Nat, z % 16 = (q : Int) := ⟨(z % 16).toNat, by omega⟩
      have hp16 : p < 16 := by omega
      have hq16 : q < 16 := by omega
      have e1 : IntKind.u8.wrap (z.tdiv 16) = (p : Int) := by rw [Int.tdiv_eq_ediv_of_nonneg hzl, hp, IntKind.wrap_u8]; omega
      have e2 : z.tmod 16 = (q : Int) := by rw [Int.tmod_eq_emod_of_nonneg hzl, hq]
      have k1 : (p : Int) < 16 := by omega
      have k2 : (q : Int) < 16 := by omega
      have g1 : ∀ h : p < ({ data := #[48, 49, 50, 51, 52, 53, 54, 55, 56, 57, 97, 98, 99, 100, 101, 102] } : ByteArray).size, (({ data := #[48, 49, 50, 51, 52, 53, 54, 55, 56, 57, 97, 98, 99, 100, 101, 102] } : ByteArray)[p]'h).toNat = (hdg (p : Int)).toNat := hex_at
      have g2 : ∀ h : q < ({ data := #[48, 49, 50, 51, 52, 53, 54, 55, 56, 57, 97, 98, 99, 100, 101, 102] } : ByteArray).size, (({ data := #[48, 49, 50, 51, 52, 53, 54, 55, 56, 57, 97, 98, 99, 100, 101, 102] } : ByteArray)[q]'h).toNat = (hdg (q : Int)).toNat := hex_at
      have r1 := hdg_range hp16
      have r2 := hdg_range hq16
      rw [hp, hq] at HT
      obtain ⟨x, hx⟩ : ∃ x : Nat, hdg (p : Int) = (x : Int) := ⟨(hdg (p : Int)).toNat, by omega⟩
      obtain ⟨y, hy⟩ : ∃ y : Nat, hdg (q : Int) = (y : Int) := ⟨(hdg (q : Int)).toNat, by omega⟩
      rw [hx] at g1 HT r1
      rw [hy] at g2 HT r2
      rw [Int.toNat_natCast] at g1 g2
      clear hp hq hx hy
      go_wp2_with fail
      have HOA : Hid ((wr.alloc (.cells #[.int .u8 (x : Int), .int .u8 (y : Int)] 5)).drew.ownsRow w.heap.size 5 1 (.slice A0 (2 * i) c0) (2 * i) (u8s (hxs (xs.take i)))) := (HO.out.alloc _).drew
      have HBA : Hid (Below w.heap.size w (wr.alloc (.cells #[.int .u8 (x : Int), .int .u8 (y : Int)] 5)).drew) := (HB.out.alloc HB.out.size _).drew
      have HRA : Hid (Reads (wr.alloc (.cells #[.int .u8 (x : Int), .int .u8 (y : Int)] 5)).drew (wr.alloc (.cells #[.int .u8 (x : Int), .int .u8 (y : Int)] 5)).drew.heap.size 1 (some ⟨wr.heap.size, 0, none⟩) 2 [.int .u8 (x : Int), .int .u8 (y : Int)]) := Reads.of_own (World.ownsRow_lit (e := 5) (size := 1) (base := 0) wr #[.int .u8 (x : Int), .int .u8 (y : Int)] 2 (Nat.zero_le _) (by decide) rfl).drew
      have HC1 := Lib.hid hc1
      have HE : Hid (u8s (hxs (xs.take i)) ++ [.int .u8 (x : Int), .int .u8 (y : Int)] = u8s (hxs (xs.take (i + 1)))) := by show _ = _; rw [HT.out]; simp [u8s]
      go_region_held3 (fun W => W.cell? ⟨b, off + i, none⟩ = some (.int .u8 z)) (go_keep) (first | ((refine step_append_any _ rfl (.tmp 11) (.tmp 24) 23 rfl w.heap.size 5 i0 _ 1 1 Tryz.underlying23 hi0 hz0 hz1 hz2 rfl (by omega) (.slice A0 (2 * i) c0) (2 * i) (u8s (hxs (xs.take i))) (by simp [Act.eval]) HOA.out _ (some ⟨wr.heap.size, 0, none⟩) 2 2 [.int .u8 (x : Int), .int .u8 (y : Int)] (by simp [Act.eval]) HRA.out (by simp [Value.oneCell']) (by simp only [maxLen]; omega) (by omega) HBA.out.size ?_); intro v2 w2 hown2 hg2 _; rw [HE.out] at hown2; have HB2 := Lib.hid (below_own HBA.out HOA.out hg2); have hck : w2.cell? ⟨b, off + i, none⟩ = some (.int .u8 z) := (by rw [(bcell HB2.out).1 _ _ hb2, ← (bcell HB.out).1 _ _ hb2]; exact HC1.out); obtain ⟨A2, c2, rfl⟩ := own_slice hown2; have HW2 := Lib.hid hown2; clear hown2 hg2))
      all_goals
        go_wp2_with fail
        go_roundw
        case rel => exact ⟨i + 1, A2, c2, rfl, by go_num, hlt, HW2.out, HB2.out⟩
        case measure => simp [intOf]; omega
    · obtain rfl : i = n := by omega
      have hxe : xs.take i = xs := List.take_of_length_le (by rw [HXL.out]; exact Nat.le_refl _)
      have hcv := conv_own HO.out (fun z hz => hxs_range (xs := xs) HXB.out z (by rw [hxe] at hz; exact hz))
      rw [hxe] at hcv
      go_wp2_with fail
      go_ret
      exact ⟨rfl, HB.out⟩
/-- Bytes as small digits. -/
def hx (l : List UInt8) : List UInt8 := (hxs (l.map fun c => (c.toNat : Int))).map fun z => UInt8.ofNat z.toNat
theorem bys_u8s (l : List UInt8) : u8s (l.map fun c => (c.toNat : Int)) = bys l := by simp [bys]
theorem hx_len (l : List UInt8) : (hx l).length = 2 * l.length := by unfold hx; rw [List.length_map, hxs_len, List.length_map]
theorem nat_u8 (l : List UInt8) : ∀ z ∈ l.map fun c => (c.toNat : Int), 0 ≤ z ∧ z < 256 := by
  intro z hz
  obtain ⟨c, _, rfl⟩ := List.mem_map.1 hz
  have := c.toNat_lt
  omega
theorem c_HexB (A : Option Addr) (n c : Nat) (l : List UInt8) (w : World) (hr : Reads w w.heap.size 1 A n (bys l)) (hn : n ≤ 1048576) :
    Calls Tryz.prog 23 #[.slice A n c] w fun e w' => e = .returned (bstr (hx l)) ∧ Below w.heap.size w w' :=
  c_Hex A n c _ w (by rw [bys_u8s]; exact hr) hn (nat_u8 l)
theorem c_rHexB (A : Option Addr) (n c : Nat) (l : List UInt8) (w : World) (hr : Reads w w.heap.size 1 A n (bys l)) (hn : n ≤ 1048576) :
    Calls Tryz.prog 26 #[.slice A n c] w fun e w' => e = .returned (bstr (hx l)) ∧ Below w.heap.size w w' :=
  c_rhex1 A n c _ w (by rw [bys_u8s]; exact hr) hn (nat_u8 l)
end Go.Proofs.YtjaohjlddhjgpaaGreatDoor
