/- Walk: bytes as small digits, of the reference (quernref02.hex) and of the program (word.Hex). Conditions: as stated. -/
import Derived.Test.YtofcdffcaiajmaaDoorDg
import Derived.Deep.RegionHeld3
import Derived.Deep.RegionLaw
namespace Go.Proofs.YtofcdffcaiajmaaDoor
open Go.RowKit
set_option linter.unusedVariables false
attribute [local go_sem ↓] Go.wp_at_zero Go.wp_at_succ

/-- The digit of a number below 16, as a byte. -/
def hdg (k : Int) : Int := if k < 10 then 48 + k else 87 + k
/-- The digits of bytes. -/
def hxs : List Int → List Int
  | [] => []
  | z :: l => hdg (z / 16) :: hdg (z % 16) :: hxs l
theorem hxs_app : ∀ (a b : List Int), hxs (a ++ b) = hxs a ++ hxs b
  | [], b => rfl
  | z :: l, b => by simp [hxs, hxs_app l b]
theorem hxs_len : ∀ (a : List Int), (hxs a).length = 2 * a.length
  | [] => rfl
  | z :: l => by simp [hxs, hxs_len l]; omega
theorem hxs_take (xs : List Int) {i : Nat} (h : i < xs.length) : hxs (xs.take (i + 1)) = hxs (xs.take i) ++ [hdg (xs.getD i 0 / 16), hdg (xs.getD i 0 % 16)] := by
  rw [List.take_succ_eq_append_getElem h, hxs_app]
  simp [hxs, List.getD, List.getElem?_eq_getElem h]
theorem hex_at {p : Nat} (h : p < ({ data := #[48, 49, 50, 51, 52, 53, 54, 55, 56, 57, 97, 98, 99, 100, 101, 102] } : ByteArray).size) : (({ data := #[48, 49, 50, 51, 52, 53, 54, 55, 56, 57, 97, 98, 99, 100, 101, 102] } : ByteArray)[p]'h).toNat = (hdg (p : Int)).toNat := by
  have h16 : p < 16 := h
  have : ∀ q : Fin 16, (({ data := #[48, 49, 50, 51, 52, 53, 54, 55, 56, 57, 97, 98, 99, 100, 101, 102] } : ByteArray)[q.val]'(q.isLt)).toNat = (hdg (q.val : Int)).toNat := by decide
  exact this ⟨p, h16⟩
theorem hdg_range {p : Nat} (h : p < 16) : 0 ≤ hdg (p : Int) ∧ hdg (p : Int) < 256 := by unfold hdg; split <;> omega
theorem hdg_bd {k : Int} (h : 0 ≤ k ∧ k < 16) : 0 ≤ hdg k ∧ hdg k < 256 := by unfold hdg; split <;> omega
theorem hxs_range : ∀ {xs : List Int}, (∀ z ∈ xs, 0 ≤ z ∧ z < 256) → ∀ y ∈ hxs xs, 0 ≤ y ∧ y < 256
  | [], _, y, hy => by cases hy
  | z :: l, h, y, hy => by
    have hz := h z (List.mem_cons_self)
    simp only [hxs, List.mem_cons] at hy
    rcases hy with rfl | rfl | hy
    · exact hdg_bd (by omega)
    · exact hdg_bd (by omega)
    · exact hxs_range (fun u hu => h u (List.mem_cons_of_mem _ hu)) y hy
theorem conv_nil (w : World) : (convert 24 9 (.slice none 0 0)).run Tryd.prog w = .ok (.string ⟨#[]⟩) w := by kernel_rfl
theorem conv_own {w : World} {base m : Nat} {v : Value} {xs : List Int} (h : w.ownsRow base 5 1 v m (u8s xs)) (hx : ∀ z ∈ xs, 0 ≤ z ∧ z < 256) : (convert 24 9 v).run Tryd.prog w = .ok (bstr (xs.map fun z => UInt8.ofNat z.toNat)) w := by
  have hl : xs.length = m := by simpa using h.1
  rcases h.2 with ⟨rfl, rfl⟩ | ⟨g, cap, cur, rfl, _⟩
  · obtain rfl := List.eq_nil_of_length_eq_zero hl
    exact conv_nil w
  · have := run_convert_bytes_back (P := Tryd.prog) w 24 9 5 ⟨g, 0, none⟩ cap (xs.map fun z => UInt8.ofNat z.toNat) Tryd.underlying24 Tryd.underlying5 Tryd.underlying9 (fun j hj => by
      have hj' : j < xs.length := by simpa using hj
      have hz := hx xs[j] (List.getElem_mem _)
      rw [h.cells rfl j (.int .u8 xs[j]) (by simp [u8s, List.getElem?_eq_getElem hj'])]
      simp only [List.getElem_map]
      congr 2
      have h8 : xs[j].toNat < 256 := by omega
      simp [Nat.mod_eq_of_lt h8]
      omega)
    rw [List.length_map, hl] at this
    exact this
theorem built_u8_2 (x y : Int) : Tryd.prog.builtSlice 5 2 [(0, .int .u8 x), (1, .int .u8 y)] = some #[.int .u8 x, .int .u8 y] := by kernel_rfl
set_option maxRecDepth 100000 in
theorem c_Hex (A : Option Addr) (n c : Nat) (xs : List Int) (w : World) (hr : Reads w w.heap.size 1 A n (u8s xs)) (hn : n ≤ 1048576) (hx : ∀ z ∈ xs, 0 ≤ z ∧ z < 256) :
    Calls Tryd.prog 24 #[.slice A n c] w fun e w' => e = .returned (bstr ((hxs xs).map fun z => UInt8.ofNat z.toNat)) ∧ Below w.heap.size w w' := by
  obtain ⟨i0, hi0, hz0, hz1, hz2⟩ := info_parts u8_info
  have HRD := Lib.hid hr
  have HXL : Hid (xs.length = n) := Lib.hid (by simpa using hr.1)
  have HXB := Lib.hid hx
  clear hr hx
  have hmk : (Instr.makeSlice 24 (.int .i64 0) (.int .i64 (2 * (n : Int)))).run Tryd.prog w = .ok (.slice (some ⟨w.heap.size, 0, none⟩) 0 (2 * n)) (w.alloc (.cells (madeCells (Value.cells (.int .u8 0)) (2 * n * i0.size)) 5)) := by
    rw [show 2 * (n : Int) = ((2 * n : Nat) : Int) from by omega]
    exact run_make_rowN (P := Tryd.prog) 24 5 i0 _ Tryd.underlying24 hi0 hz0 .i64 .i64 0 (2 * n) (Nat.zero_le _) (by rw [hz2]; omega) (by omega) w
  have HOM : Hid ((w.alloc (.cells (madeCells (Value.cells (.int .u8 0)) (2 * n * i0.size)) 5)).ownsRow w.heap.size 5 1 (.slice (some ⟨w.heap.size, 0, none⟩) 0 (2 * n)) 0 []) := World.ownsRow_made w _ (2 * n) (Nat.le_refl _) (by simp only [maxLen]; omega) (by rw [size_madeCells, hz1])
  have HBM : Hid (Below w.heap.size w (w.alloc (.cells (madeCells (Value.cells (.int .u8 0)) (2 * n * i0.size)) 5))) := (Below.refl w.heap.size w).alloc (Nat.le_refl _) _
  generalize w.alloc (.cells (madeCells (Value.cells (.int .u8 0)) (2 * n * i0.size)) 5) = wm at *
  go_enter Tryd.func24, Tryd.ntmps24
  go_wp2_with fail
  go_loopw [3, 12] (fun vo vi wr => ∃ (i : Nat) (A0 : Option Addr) (c0 : Nat), vo = .slice A0 ((2 * i : Nat)) c0 ∧ vi = .int .i64 i ∧ i ≤ n ∧ Hid (wr.ownsRow w.heap.size 5 1 (.slice A0 (2 * i) c0) (2 * i) (u8s (hxs (xs.take i)))) ∧ Hid (Below w.heap.size w wr)) (fun _ vi _ => n - (intOf vi).toNat)
  case atStart => exact ⟨0, _, _, rfl, rfl, Nat.zero_le _, HOM.out, HBM.out⟩
  case round =>
    obtain ⟨i, A0, c0, rfl, rfl, hi, HO, HB⟩ := hrel
    by_cases hlt : i < n
    · obtain ⟨b, off, hA, hb1, hb2, hcell⟩ := HRD.out.form (by omega)
      subst hA
      have hgx : (u8s xs).getD i undef = .int .u8 (xs.getD i 0) := by
        have := HXL.out
        simp [u8s, List.getD, List.getElem?_eq_getElem (show i < xs.length by omega)]
      have hc1 : wr.cell? ⟨b, off + i, none⟩ = some (.int .u8 (xs.getD i 0)) := by rw [(bcell HB.out).1 _ _ hb2, hcell i hlt, hgx]
      clear hcell hgx
      have HT := Lib.hid (hxs_take xs (i := i) (by rw [HXL.out]; exact hlt))
      have hz := HXB.out (xs.getD i 0) (by
        have := HXL.out
        rw [List.getD, List.getElem?_eq_getElem (show i < xs.length by omega)]
        exact List.getElem_mem _)
      generalize xs.getD i 0 = z at *
      obtain ⟨hzl, hzr⟩ := hz
      obtain ⟨p, hp⟩ : ∃ p : Nat, z / 16 = (p : Int) := ⟨(z / 16).toNat, by omega⟩
      obtain ⟨q, hq⟩ : ∃ q : Nat, z % 16 = (q : Int) := ⟨(z % 16).toNat, by omega⟩
      have hp16 : p < 16 := by omega
      have hq16 : q < 16 := by omega
      have e1 : IntKind.u8.wrap (z.tdiv 16) = (p : Int) := by rw [Int.tdiv_eq_ediv_of_nonneg hzl, hp, IntKind.wrap_u8]; omega
      have e2 : z.tmod 16 = (q : Int) := by rw [Int.tmod_eq_emod_of_nonneg hzl, hq]
      have e3 : bits .and .u8 z 15 = (q : Int) := by
        rw [u8_and z 15 hzl hzr (by omega) (by omega)]
        have h := Nat.and_two_pow_sub_one_eq_mod z.toNat 4
        rw [show (2 : Nat) ^ 4 - 1 = (15 : Int).toNat from rfl, show (2 : Nat) ^ 4 = 16 from rfl] at h
        rw [h]
        omega
      have e4 : z / 16 = (p : Int) := hp
      have k1 : (p : Int) < 16 := by omega
      have k2 : (q : Int) < 16 := by omega
      have g1 : ∀ h : p < ({ data := #[48, 49, 50, 51, 52, 53, 54, 55, 56, 57, 97, 98, 99, 100, 101, 102] } : ByteArray).size, (({ data := #[48, 49, 50, 51, 52, 53, 54, 55, 56, 57, 97, 98, 99, 100, 101, 102] } : ByteArray)[p]'h).toNat = (hdg (p : Int)).toNat := hex_at
      have g2 : ∀ h : q < ({ data := #[48, 49, 50, 51, 52, 53, 54, 55, 56, 57, 97, 98, 99, 100, 101, 102] } : ByteArray).size, (({ data := #[48, 49, 50, 51, 52, 53, 54, 55, 56, 57, 97, 98, 99, 100, 101, 102] } : ByteArray)[q]'h).toNat = (hdg (q : Int)).toNat := hex_at
      have r1 := hdg_range hp16
      have r2 := hdg_range hq16
      rw [hp, hq] at HT
      obtain ⟨x, hx⟩ : ∃ x : Nat, hdg (p : Int) = (x : Int) := ⟨(hdg (p : Int)).toNat, by omega⟩
      obtain ⟨y, hy⟩ : ∃ y : Nat, hdg (q : Int) = (y : Int) := ⟨(hdg (q : Int)).toNat, by omega⟩
      rw [hx] at g1 HT r1
      rw [hy] at g2 HT r2
      rw [Int.toNat_natCast] at g1 g2
      clear hp hq hx hy
      go_wp2_with fail
      have HOA : Hid ((wr.alloc (.cells #[.int .u8 (x : Int), .int .u8 (y : Int)] 5)).drew.ownsRow w.heap.size 5 1 (.slice A0 (2 * i) c0) (2 * i) (u8s (hxs (xs.take i)))) := (HO.out.alloc _).drew
      have HBA : Hid (Below w.heap.size w (wr.alloc (.cells #[.int .u8 (x : Int), .int .u8 (y : Int)] 5)).drew) := (HB.out.alloc HB.out.size _).drew
      have HRA : Hid (Reads (wr.alloc (.cells #[.int .u8 (x : Int), .int .u8 (y : Int)] 5)).drew (wr.alloc (.cells #[.int .u8 (x : Int), .int .u8 (y : Int)] 5)).drew.heap.size 1 (some ⟨wr.heap.size, 0, none⟩) 2 [.int .u8 (x : Int), .int .u8 (y : Int)]) := Reads.of_own (World.ownsRow_lit (e := 5) (size := 1) (base := 0) wr #[.int .u8 (x : Int), .int .u8 (y : Int)] 2 (Nat.zero_le _) (by decide) rfl).drew
      have HC1 := Lib.hid hc1
      have HE : Hid (u8s (hxs (xs.take i)) ++ [.int .u8 (x : Int), .int .u8 (y : Int)] = u8s (hxs (xs.take (i + 1)))) := by show _ = _; rw [HT.out]; simp [u8s]
      go_region_held3 (fun W => W.cell? ⟨b, off + i, none⟩ = some (.int .u8 z)) (go_keep) (first | ((refine step_append_any _ rfl (.tmp 16) (.tmp 23) 24 rfl w.heap.size 5 i0 _ 1 1 Tryd.underlying24 hi0 hz0 hz1 hz2 rfl (by omega) (.slice A0 (2 * i) c0) (2 * i) (u8s (hxs (xs.take i))) (by simp [Act.eval]) HOA.out _ (some ⟨wr.heap.size, 0, none⟩) 2 2 [.int .u8 (x : Int), .int .u8 (y : Int)] (by simp [Act.eval]) HRA.out (by simp [Value.oneCell']) (by simp only [maxLen]; omega) (by omega) HBA.out.size ?_); intro v2 w2 hown2 hg2 _; rw [HE.out] at hown2; have HB2 := Lib.hid (below_own HBA.out HOA.out hg2); have hck : w2.cell? ⟨b, off + i, none⟩ = some (.int .u8 z) := (by rw [(bcell HB2.out).1 _ _ hb2, ← (bcell HB.out).1 _ _ hb2]; exact HC1.out); obtain ⟨A2, c2, rfl⟩ := own_slice hown2; have HW2 := Lib.hid hown2; clear hown2 hg2))
      all_goals
        go_wp2_with fail
        go_roundw
        case rel => exact ⟨i + 1, A2, c2, rfl, by go_num, hlt, HW2.out, HB2.out⟩
        case measure => simp [intOf]; omega
    · obtain rfl : i = n := by omega
      have hxe : xs.take i = xs := List.take_of_length_le (by rw [HXL.out]; exact Nat.le_refl _)
      have hcv := conv_own HO.out (fun z hz => hxs_range (xs := xs) HXB.out z (by rw [hxe] at hz; exact hz))
      rw [hxe] at hcv
      go_wp2_with fail
      go_ret
      exact ⟨rfl, HB.out⟩
end Go.Proofs.YtofcdffcaiajmaaDoor
