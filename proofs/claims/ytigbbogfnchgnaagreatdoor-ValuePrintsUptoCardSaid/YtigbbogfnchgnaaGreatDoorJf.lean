/- Walks: bytes as small digits, a text in quotation marks, of the document (quernref01.Hex, quernref23.Quote). Conditions: lengths within the reach. -/
import Derived.Test.YtigbbogfnchgnaaGreatDoorJe
import Derived.Test.YtigbbogfnchgnaaGreatDoorIz
import Derived.Deep.RegionHeld3
import Derived.Deep.RegionLaw
import Derived.Lib.ConvBytes
namespace Go.Proofs.YtigbbogfnchgnaaGreatDoor
open Go.RowKit
set_option linter.unusedVariables false
attribute [local go_sem ↓] Go.wp_at_zero Go.wp_at_succ

/-- The digit of a number below 16, as a byte. -/
def hdg (k : Int) : Int := if k < 10 then 48 + k else 87 + k
/-- The digits of bytes. -/
def hxs : List Int → List Int
  | [] => []
  | z :: l => hdg (z / 16) :: hdg (z % 16) :: hxs l
theorem hxs_app : ∀ (a b : List Int), hxs (a ++ b) = hxs a ++ hxs b
  | [], b => rfl
  | z :: l, b => by simp [hxs, hxs_app l b]
theorem hxs_len : ∀ (a : List Int), (hxs a).length = 2 * a.length
  | [] => rfl
  | z :: l => by simp [hxs, hxs_len l]; omega
theorem hxs_take (xs : List Int) {i : Nat} (h : i < xs.length) : hxs (xs.take (i + 1)) = hxs (xs.take i) ++ [hdg (xs.getD i 0 / 16), hdg (xs.getD i 0 % 16)] := by
  rw [List.take_succ_eq_append_getElem h, hxs_app]
  simp [hxs, List.getD, List.getElem?_eq_getElem h]
theorem hex_at {p : Nat} (h : p < ({ data := #[48, 49, 50, 51, 52, 53, 54, 55, 56, 57, 97, 98, 99, 100, 101, 102] } : ByteArray).size) : (({ data := #[48, 49, 50, 51, 52, 53, 54, 55, 56, 57, 97, 98, 99, 100, 101, 102] } : ByteArray)[p]'h).toNat = (hdg (p : Int)).toNat := by
  have h16 : p < 16 := h
  have : ∀ q : Fin 16, (({ data := #[48, 49, 50, 51, 52, 53, 54, 55, 56, 57, 97, 98, 99, 100, 101, 102] } : ByteArray)[q.val]'(q.isLt)).toNat = (hdg (q.val : Int)).toNat := by decide
  exact this ⟨p, h16⟩
theorem hdg_range {p : Nat} (h : p < 16) : 0 ≤ hdg (p : Int) ∧ hdg (p : Int) < 256 := by unfold hdg; split <;> omega
theorem hdg_bd {k : Int} (h : 0 ≤ k ∧ k < 16) : 0 ≤ hdg k ∧ hdg k < 256 := by unfold hdg; split <;> omega
theorem hxs_range : ∀ {xs : List Int}, (∀ z ∈ xs, 0 ≤ z ∧ z < 256) → ∀ y ∈ hxs xs, 0 ≤ y ∧ y < 256
  | [], _, y, hy => by cases hy
  | z :: l, h, y, hy => by
    have hz := h z (List.mem_cons_self)
    simp only [hxs, List.mem_cons] at hy
    rcases hy with rfl | rfl | hy
    · exact hdg_bd (by omega)
    · exact hdg_bd (by omega)
    · exact hxs_range (fun u hu => h u (List.mem_cons_of_mem _ hu)) y hy
/-- Bytes as a text. -/
abbrev nmT (xs : List Int) : Value := .string (strOfNums xs)
theorem conv_row {w : World} {base m : Nat} {v : Value} {xs : List Int} (h : w.ownsRow base 5 1 v m (u8s xs)) : (convert 36 9 v).run Tryz.prog w = .ok (nmT xs) w := by
  obtain ⟨A, c, rfl, _, hr⟩ := own_reads h
  exact run_conv (P := Tryz.prog) w 36 5 9 Tryz.underlying36 Tryz.underlying5 Tryz.underlying9 hr
theorem txB_nm {xs : List Int} (h : Bts xs) : txB (strOfNums xs) = xs := by
  unfold txB strOfNums
  simp only [List.map_map]
  conv => rhs; rw [← List.map_id xs]
  refine List.map_congr_left fun z hz => ?_
  have := h z hz
  simp only [Function.comp, id_eq, UInt8.toNat_ofNat']
  omega
theorem nm_size (xs : List Int) : (strOfNums xs).size = xs.length := by simp [strOfNums, ByteArray.size]
theorem jb1 (x : Int) : Tryz.prog.builtSlice 5 1 [(0, .int .u8 x)] = some #[.int .u8 x] := by kernel_rfl
theorem jb2 (x y : Int) : Tryz.prog.builtSlice 5 2 [(0, .int .u8 x), (1, .int .u8 y)] = some #[.int .u8 x, .int .u8 y] := by kernel_rfl
theorem jl1 (w : World) (x : Int) : Reads (w.alloc (.cells #[.int .u8 x] 5)) (w.alloc (.cells #[.int .u8 x] 5)).heap.size 1 (some ⟨w.heap.size, 0, none⟩) 1 [.int .u8 x] :=
  Reads.of_own (World.ownsRow_lit (e := 5) (size := 1) (base := 0) w #[.int .u8 x] 1 (Nat.zero_le _) (by decide) rfl)
theorem jl2 (w : World) (x y : Int) : Reads (w.alloc (.cells #[.int .u8 x, .int .u8 y] 5)) (w.alloc (.cells #[.int .u8 x, .int .u8 y] 5)).heap.size 1 (some ⟨w.heap.size, 0, none⟩) 2 [.int .u8 x, .int .u8 y] :=
  Reads.of_own (World.ownsRow_lit (e := 5) (size := 1) (base := 0) w #[.int .u8 x, .int .u8 y] 2 (Nat.zero_le _) (by decide) rfl)
set_option maxRecDepth 100000 in
theorem c_rhex1 (A : Option Addr) (n c : Nat) (xs : List Int) (w : World) (hr : Reads w w.heap.size 1 A n (u8s xs)) (hn : n ≤ 1048576) (hx : ∀ z ∈ xs, 0 ≤ z ∧ z < 256) :
    Calls Tryz.prog 35 #[.slice A n c] w fun e w' => e = .returned (nmT (hxs xs)) ∧ Below w.heap.size w w' := by
  obtain ⟨i0, hi0, hz0, hz1, hz2⟩ := info_parts u8_info8
  have HRD := Lib.hid hr
  have HXL : Hid (xs.length = n) := Lib.hid (by simpa using hr.1)
  have HXB := Lib.hid hx
  clear hr hx
  go_enter Tryz.func35, Tryz.ntmps35
  go_wp2_with fail
  go_loopw [3, 4] (fun vo vi wr => ∃ (i : Nat) (A0 : Option Addr) (c0 : Nat), vo = .slice A0 ((2 * i : Nat)) c0 ∧ vi = .int .i64 i ∧ i ≤ n ∧ Hid (wr.ownsRow w.heap.size 5 1 (.slice A0 (2 * i) c0) (2 * i) (u8s (hxs (xs.take i)))) ∧ Hid (Below w.heap.size w wr)) (fun _ vi _ => n - (intOf vi).toNat)
  case atStart => exact ⟨0, none, 0, rfl, rfl, Nat.zero_le _, ⟨rfl, .inl ⟨rfl, rfl⟩⟩, Below.refl _ _⟩
  case round =>
    obtain ⟨i, A0, c0, rfl, rfl, hi, HO, HB⟩ := hrel
    by_cases hlt : i < n
    · obtain ⟨b, off, hA, hb1, hb2, hcell⟩ := HRD.out.form (by omega)
      subst hA
      have hgx : (u8s xs).getD i undef = .int .u8 (xs.getD i 0) := by
        have := HXL.out
        simp [u8s, List.getD, List.getElem?_eq_getElem (show i < xs.length by omega)]
      have hc1 : wr.cell? ⟨b, off + i, none⟩ = some (.int .u8 (xs.getD i 0)) := by rw [(bcell HB.out).1 _ _ hb2, hcell i hlt, hgx]
      clear hcell hgx
      have HT := Lib.hid (hxs_take xs (i := i) (by rw [HXL.out]; exact hlt))
      have hz := HXB.out (xs.getD i 0) (by
        have := HXL.out
        rw [List.getD, List.getElem?_eq_getElem (show i < xs.length by omega)]
        exact List.getElem_mem _)
      generalize xs.getD i 0 = z at *
      obtain ⟨hzl, hzr⟩ := hz
      obtain ⟨p, hp⟩ : ∃ p : Nat, z / 16 = (p : Int) := ⟨(z / 16).toNat, by omega⟩
      obtain ⟨q, hq⟩ : ∃ q : Nat, z % 16 = (q : Int) := ⟨(z % 16).toNat, by omega⟩
      have hp16 : p < 16 := by omega
      have hq16 : q < 16 := by omega
      have e1 : IntKind.u8.wrap (z.tdiv 16) = (p : Int) := by rw [Int.tdiv_eq_ediv_of_nonneg hzl, hp, IntKind.wrap_u8]; omega
      have e2 : z.tmod 16 = (q : Int) := by rw [Int.tmod_eq_emod_of_nonneg hzl, hq]
      have k1 : (p : Int) < 16 := by omega
      have k2 : (q : Int) < 16 := by omega
      have g1 : ∀ h : p < ({ data := #[48, 49, 50, 51, 52, 53, 54, 55, 56, 57, 97, 98, 99, 100, 101, 102] } : ByteArray).size, (({ data := #[48, 49, 50, 51, 52, 53, 54, 55, 56, 57, 97, 98, 99, 100, 101, 102] } : ByteArray)[p]'h).toNat = (hdg (p : Int)).toNat := hex_at
      have g2 : ∀ h : q < ({ data := #[48, 49, 50, 51, 52, 53, 54, 55, 56, 57, 97, 98, 99, 100, 101, 102] } : ByteArray).size, (({ data := #[48, 49, 50, 51, 52, 53, 54, 55, 56, 57, 97, 98, 99, 100, 101, 102] } : ByteArray)[q]'h).toNat = (hdg (q : Int)).toNat := hex_at
      have r1 := hdg_range hp16
      have r2 := hdg_range hq16
      rw [hp, hq] at HT
      obtain ⟨x, hx⟩ : ∃ x : Nat, hdg (p : Int) = (x : Int) := ⟨(hdg (p : Int)).toNat, by omega⟩
      obtain ⟨y, hy⟩ : ∃ y : Nat, hdg (q : Int) = (y : Int) := ⟨(hdg (q : Int)).toNat, by omega⟩
      rw [hx] at g1 HT r1
      rw [hy] at g2 HT r2
      rw [Int.toNat_natCast] at g1 g2
      clear hp hq hx hy
      go_wp2_with fail
      have HOA : Hid ((wr.alloc (.cells #[.int .u8 (x : Int), .int .u8 (y : Int)] 5)).drew.ownsRow w.heap.size 5 1 (.slice A0 (2 * i) c0) (2 * i) (u8s (hxs (xs.take i)))) := (HO.out.alloc _).drew
      have HBA : Hid (Below w.heap.size w (wr.alloc (.cells #[.int .u8 (x : Int), .int .u8 (y : Int)] 5)).drew) := (HB.out.alloc HB.out.size _).drew
      have HRA : Hid (Reads (wr.alloc (.cells #[.int .u8 (x : Int), .int .u8 (y : Int)] 5)).drew (wr.alloc (.cells #[.int .u8 (x : Int), .int .u8 (y : Int)] 5)).drew.heap.size 1 (some ⟨wr.heap.size, 0, none⟩) 2 [.int .u8 (x : Int), .int .u8 (y : Int)]) := Reads.of_own (World.ownsRow_lit (e := 5) (size := 1) (base := 0) wr #[.int .u8 (x : Int), .int .u8 (y : Int)] 2 (Nat.zero_le _) (by decide) rfl).drew
      have HC1 := Lib.hid hc1
      have HE : Hid (u8s (hxs (xs.take i)) ++ [.int .u8 (x : Int), .int .u8 (y : Int)] = u8s (hxs (xs.take (i + 1)))) := by show _ = _; rw [HT.out]; simp [u8s]
      go_region_held3 (fun W => W.cell? ⟨b, off + i, none⟩ = some (.int .u8 z)) (go_keep) (first | ((refine step_append_any _ rfl (.tmp 11) (.tmp 24) 36 rfl w.heap.size 5 i0 _ 1 1 Tryz.underlying36 hi0 hz0 hz1 hz2 rfl (by omega) (.slice A0 (2 * i) c0) (2 * i) (u8s (hxs (xs.take i))) (by simp [Act.eval]) HOA.out _ (some ⟨wr.heap.size, 0, none⟩) 2 2 [.int .u8 (x : Int), .int .u8 (y : Int)] (by simp [Act.eval]) HRA.out (by simp [Value.oneCell']) (by simp only [maxLen]; omega) (by omega) HBA.out.size ?_); intro v2 w2 hown2 hg2 _; rw [HE.out] at hown2; have HB2 := Lib.hid (below_own HBA.out HOA.out hg2); have hck : w2.cell? ⟨b, off + i, none⟩ = some (.int .u8 z) := (by rw [(bcell HB2.out).1 _ _ hb2, ← (bcell HB.out).1 _ _ hb2]; exact HC1.out); obtain ⟨A2, c2, rfl⟩ := own_slice hown2; have HW2 := Lib.hid hown2; clear hown2 hg2))
      all_goals
        go_wp2_with fail
        go_roundw
        case rel => exact ⟨i + 1, A2, c2, rfl, by go_num, hlt, HW2.out, HB2.out⟩
        case measure => simp [intOf]; omega
    · obtain rfl : i = n := by omega
      have hxe : xs.take i = xs := List.take_of_length_le (by rw [HXL.out]; exact Nat.le_refl _)
      have hcv := conv_row HO.out
      rw [hxe] at hcv
      go_wp2_with fail
      go_ret
      exact ⟨rfl, HB.out⟩
/-- Bytes of the call's own. -/
def OB (W w : World) (A : Option Addr) (c : Nat) (l : List Int) : Prop := w.ownsRow W.heap.size 5 1 (.slice A l.length c) l.length (u8s l) ∧ Below W.heap.size W w
theorem OB.app {W w1 w2 : World} {A : Option Addr} {c k : Nat} {l m : List Int} {v : Value} (hb : Below W.heap.size W w1) (h : w1.ownsRow W.heap.size 5 1 (.slice A l.length c) l.length (u8s l)) (hown : w2.ownsRow W.heap.size 5 1 v (l.length + m.length) (u8s l ++ u8s m)) (hg : w1.grownBy w2 (Value.slice A k c).ownBlock) :
    ∃ A' c', v = .slice A' (l ++ m).length c' ∧ OB W w2 A' c' (l ++ m) := by
  have e : u8s l ++ u8s m = u8s (l ++ m) := by simp [u8s]
  rw [e, ← List.length_append] at hown
  obtain ⟨A', c', rfl⟩ := own_slice hown
  have hg' : w1.grownBy w2 (Value.slice A l.length c).ownBlock := by cases A <;> exact hg
  exact ⟨A', c', rfl, hown, below_own hb h hg'⟩
/-- A byte in quotation marks. -/
def quo1 (c : Int) : List Int := if c = 34 ∨ c = 92 then [92, c] else if c = 10 then [92, 110] else if c < 32 ∨ 126 < c then [92, 120] ++ hxs [c] else [c]
def quoL (l : List Int) : List Int := l.flatMap quo1
def quo (s : ByteArray) : List Int := 34 :: (quoL (txB s) ++ [34])
theorem quo1_len (c : Int) : (quo1 c).length ≤ 4 := by
  unfold quo1
  split
  · simp
  · split
    · simp
    · split
      · simp [hxs]
      · simp
theorem quo1_bts {c : Int} (h : 0 ≤ c ∧ c < 256) : Bts (quo1 c) := by
  unfold quo1
  have h1 : Bts [c] := fun z hz => by rw [List.mem_singleton] at hz; omega
  split
  · intro z hz; simp only [List.mem_cons, List.not_mem_nil, or_false] at hz; omega
  · split
    · intro z hz; simp only [List.mem_cons, List.not_mem_nil, or_false] at hz; omega
    · split
      · exact Bts.app (fun z hz => by simp only [List.mem_cons, List.not_mem_nil, or_false] at hz; omega) (hxs_range h1)
      · exact h1
theorem quoL_len : ∀ l : List Int, (quoL l).length ≤ 4 * l.length
  | [] => Nat.le_refl _
  | c :: l => by
    have h1 := quo1_len c
    have h2 := quoL_len l
    unfold quoL at h2 ⊢
    rw [List.flatMap_cons, List.length_append, List.length_cons]
    omega
theorem quoL_bts : ∀ {l : List Int}, Bts l → Bts (quoL l)
  | [], _ => Bts.nil
  | c :: l, h => by
    have h1 := quo1_bts (h c List.mem_cons_self)
    have h2 := quoL_bts (l := l) fun z hz => h z (List.mem_cons_of_mem _ hz)
    unfold quoL at h2 ⊢
    rw [List.flatMap_cons]
    exact h1.app h2
theorem quo_len (s : ByteArray) : (quo s).length ≤ 4 * s.size + 2 := by
  have := quoL_len (txB s)
  rw [txB_len] at this
  unfold quo
  rw [List.length_cons, List.length_append]
  simp only [List.length_cons, List.length_nil]
  omega
theorem quo_bts (s : ByteArray) : Bts (quo s) := by
  intro z hz
  unfold quo at hz
  rcases List.mem_cons.1 hz with rfl | hz
  · omega
  · rcases List.mem_append.1 hz with hz | hz
    · exact quoL_bts (txB_bts s) z hz
    · rw [List.mem_singleton] at hz; omega
theorem txB_at (s : ByteArray) {i : Nat} (h : i < s.size) : (txB s).take (i + 1) = (txB s).take i ++ [((s[i].toNat : Nat) : Int)] := by
  rw [List.take_succ_eq_append_getElem (by rw [txB_len]; exact h)]
  simp [txB]
  rfl
theorem quoL_at (s : ByteArray) {i : Nat} (h : i < s.size) : 34 :: quoL ((txB s).take (i + 1)) = (34 :: quoL ((txB s).take i)) ++ quo1 ((s[i].toNat : Nat) : Int) := by
  rw [txB_at s h]
  unfold quoL
  rw [List.flatMap_append]
  simp
set_option maxRecDepth 100000 in
set_option maxHeartbeats 4000000 in
theorem c_Quote (s : ByteArray) (hs : s.size ≤ 1048576) (w : World) : Calls Tryz.prog 34 #[.string s] w fun e w' => e = .returned (nmT (quo s)) ∧ Below w.heap.size w w' := by
  obtain ⟨i0, hi0, hz0, hz1, hz2⟩ := info_parts u8_info8
  have HQ : Hid (quo s = (34 :: quoL ((txB s).take s.size)) ++ [34]) := by show _ = _; rw [List.take_of_length_le (by rw [txB_len]; exact Nat.le_refl _)]; rfl
  obtain ⟨QQ, hQQ⟩ : ∃ QQ, quo s = QQ := ⟨_, rfl⟩
  rw [hQQ] at HQ ⊢
  clear hQQ
  have HS0 : Hid (OB w (w.alloc (.cells #[.int .u8 34] 5)) (some ⟨w.heap.size, 0, none⟩) 1 (34 :: quoL ((txB s).take 0))) :=
    ⟨World.ownsRow_lit (e := 5) (size := 1) (base := w.heap.size) w #[.int .u8 34] 1 (Nat.le_refl _) (by decide) rfl, (Below.refl _ _).alloc (Nat.le_refl _) _⟩
  go_enter Tryz.func34, Tryz.ntmps34
  go_wp2_with fail
  generalize w.alloc (.cells #[.int .u8 34] 5) = w0 at *
  go_loopw [3, 4] (fun vb vi wr => ∃ (i : Nat) (A : Option Addr) (c : Nat), vb = .slice A (34 :: quoL ((txB s).take i)).length c ∧ vi = .int .i64 i ∧ i ≤ s.size ∧ Hid (OB w wr A c (34 :: quoL ((txB s).take i)))) (fun _ vi _ => s.size - (intOf vi).toNat)
  case atStart => exact ⟨0, some ⟨w.heap.size, 0, none⟩, 1, rfl, rfl, Nat.zero_le _, HS0⟩
  case round =>
    clear HS0
    obtain ⟨i, A, c, rfl, rfl, hi, HO⟩ := hrel
    have hel : (34 :: quoL ((txB s).take i)).length ≤ 4194305 := by
      have := quoL_len ((txB s).take i)
      rw [List.length_take, txB_len] at this
      rw [List.length_cons]
      omega
    by_cases hlt : i < s.size
    · have HN : Hid (34 :: quoL ((txB s).take (i + 1)) = (34 :: quoL ((txB s).take i)) ++ quo1 ((s[i].toNat : Nat) : Int)) := quoL_at s hlt
      have hz1 : s[i].toNat < 256 := s[i].toNat_lt
      have HZ := Lib.hid hz1
      clear hz1
      generalize hm : 34 :: quoL ((txB s).take i) = l at *
      clear hm
      by_cases hA : s[i].toNat = 34
      · have t34 : (((s[i].toNat : Nat) : Int) == 34) = true := by simp; omega
        have HX : Hid (34 :: quoL ((txB s).take (i + 1)) = l ++ [92, ((s[i].toNat : Nat) : Int)]) := by show _ = _; rw [HN.out]; unfold quo1; rw [if_pos (by omega)]
        clear hA HN
        have HOA : Hid ((wr.alloc (.cells #[.int .u8 92, .int .u8 ((s[i].toNat : Nat) : Int)] 5)).ownsRow w.heap.size 5 1 (.slice A l.length c) l.length (u8s l)) := HO.out.1.alloc _
        have HBA : Hid (Below w.heap.size w (wr.alloc (.cells #[.int .u8 92, .int .u8 ((s[i].toNat : Nat) : Int)] 5))) := HO.out.2.alloc HO.out.2.size _
        have HRA := Lib.hid (jl2 wr 92 ((s[i].toNat : Nat) : Int))
        go_wp2_with (first
          | (refine wpList_buildSliceTo rfl 36 5 2 _ rfl wr.heap.size rfl (some 29) rfl Tryz.underlying36 #[.int .u8 92, .int .u8 ((s[i].toNat : Nat) : Int)] (by exact jb2 _ _) ?_)
          | (at_builtin; refine wpList_append_any _ rfl (.tmp 27) (.tmp 29) 36 rfl w.heap.size 5 i0 _ 1 1 Tryz.underlying36 hi0 hz0 hz1 hz2 rfl (by omega) (.slice A l.length c) l.length (u8s l) rfl HOA.out _ (some ⟨wr.heap.size, 0, none⟩) 2 2 [.int .u8 92, .int .u8 ((s[i].toNat : Nat) : Int)] rfl HRA.out (by simp [Value.oneCell']) (by simp only [maxLen]; omega) (by omega) HBA.out.size ?_; intro v2 w2 hown2 hg2 _; obtain ⟨A', c', rfl, ho2⟩ := OB.app (m := [92, ((s[i].toNat : Nat) : Int)]) HBA.out HOA.out hown2 hg2; have HO2 := Lib.hid ho2; clear ho2 hown2 hg2))
        go_wp2_with fail
        go_roundw
        case rel => exact ⟨i + 1, A', c', by rw [HX.out]; simp, by go_num, hlt, by rw [HX.out]; exact HO2.out⟩
        case measure => simp [intOf]; omega
      by_cases hB : s[i].toNat = 92
      · have t34 : (((s[i].toNat : Nat) : Int) == 34) = false := by simp; omega
        have t92 : (((s[i].toNat : Nat) : Int) == 92) = true := by simp; omega
        have HX : Hid (34 :: quoL ((txB s).take (i + 1)) = l ++ [92, ((s[i].toNat : Nat) : Int)]) := by show _ = _; rw [HN.out]; unfold quo1; rw [if_pos (by omega)]
        clear hA hB HN
        have HOA : Hid ((wr.alloc (.cells #[.int .u8 92, .int .u8 ((s[i].toNat : Nat) : Int)] 5)).ownsRow w.heap.size 5 1 (.slice A l.length c) l.length (u8s l)) := HO.out.1.alloc _
        have HBA : Hid (Below w.heap.size w (wr.alloc (.cells #[.int .u8 92, .int .u8 ((s[i].toNat : Nat) : Int)] 5))) := HO.out.2.alloc HO.out.2.size _
        have HRA := Lib.hid (jl2 wr 92 ((s[i].toNat : Nat) : Int))
        go_wp2_with (first
          | (refine wpList_buildSliceTo rfl 36 5 2 _ rfl wr.heap.size rfl (some 29) rfl Tryz.underlying36 #[.int .u8 92, .int .u8 ((s[i].toNat : Nat) : Int)] (by exact jb2 _ _) ?_)
          | (at_builtin; refine wpList_append_any _ rfl (.tmp 27) (.tmp 29) 36 rfl w.heap.size 5 i0 _ 1 1 Tryz.underlying36 hi0 hz0 hz1 hz2 rfl (by omega) (.slice A l.length c) l.length (u8s l) rfl HOA.out _ (some ⟨wr.heap.size, 0, none⟩) 2 2 [.int .u8 92, .int .u8 ((s[i].toNat : Nat) : Int)] rfl HRA.out (by simp [Value.oneCell']) (by simp only [maxLen]; omega) (by omega) HBA.out.size ?_; intro v2 w2 hown2 hg2 _; obtain ⟨A', c', rfl, ho2⟩ := OB.app (m := [92, ((s[i].toNat : Nat) : Int)]) HBA.out HOA.out hown2 hg2; have HO2 := Lib.hid ho2; clear ho2 hown2 hg2))
        go_wp2_with fail
        go_roundw
        case rel => exact ⟨i + 1, A', c', by rw [HX.out]; simp, by go_num, hlt, by rw [HX.out]; exact HO2.out⟩
        case measure => simp [intOf]; omega
      by_cases hC : s[i].toNat = 10
      · have t34 : (((s[i].toNat : Nat) : Int) == 34) = false := by simp; omega
        have t92 : (((s[i].toNat : Nat) : Int) == 92) = false := by simp; omega
        have t10 : (((s[i].toNat : Nat) : Int) == 10) = true := by simp; omega
        have HX : Hid (34 :: quoL ((txB s).take (i + 1)) = l ++ [92, 110]) := by show _ = _; rw [HN.out]; unfold quo1; rw [if_neg (by omega), if_pos (by omega)]
        clear hA hB hC HN
        have HOA : Hid ((wr.alloc (.cells #[.int .u8 92, .int .u8 110] 5)).ownsRow w.heap.size 5 1 (.slice A l.length c) l.length (u8s l)) := HO.out.1.alloc _
        have HBA : Hid (Below w.heap.size w (wr.alloc (.cells #[.int .u8 92, .int .u8 110] 5))) := HO.out.2.alloc HO.out.2.size _
        have HRA := Lib.hid (jl2 wr 92 110)
        go_wp2_with (first
          | (refine wpList_buildSliceTo rfl 36 5 2 _ rfl wr.heap.size rfl (some 35) rfl Tryz.underlying36 #[.int .u8 92, .int .u8 110] (by exact jb2 _ _) ?_)
          | (at_builtin; refine wpList_append_any _ rfl (.tmp 34) (.tmp 35) 36 rfl w.heap.size 5 i0 _ 1 1 Tryz.underlying36 hi0 hz0 hz1 hz2 rfl (by omega) (.slice A l.length c) l.length (u8s l) rfl HOA.out _ (some ⟨wr.heap.size, 0, none⟩) 2 2 [.int .u8 92, .int .u8 110] rfl HRA.out (by simp [Value.oneCell']) (by simp only [maxLen]; omega) (by omega) HBA.out.size ?_; intro v2 w2 hown2 hg2 _; obtain ⟨A', c', rfl, ho2⟩ := OB.app (m := [92, 110]) HBA.out HOA.out hown2 hg2; have HO2 := Lib.hid ho2; clear ho2 hown2 hg2))
        go_wp2_with fail
        go_roundw
        case rel => exact ⟨i + 1, A', c', by rw [HX.out]; simp, by go_num, hlt, by rw [HX.out]; exact HO2.out⟩
        case measure => simp [intOf]; omega
      by_cases hD : s[i].toNat < 32
      · have t34 : (((s[i].toNat : Nat) : Int) == 34) = false := by simp; omega
        have t92 : (((s[i].toNat : Nat) : Int) == 92) = false := by simp; omega
        have t10 : (((s[i].toNat : Nat) : Int) == 10) = false := by simp; omega
        have hD1 : ((s[i].toNat : Nat) : Int) < 32 := by omega
        have HX : Hid (34 :: quoL ((txB s).take (i + 1)) = (l ++ [92, 120]) ++ hxs [((s[i].toNat : Nat) : Int)]) := by show _ = _; rw [HN.out]; unfold quo1; rw [if_neg (by omega), if_neg (by omega), if_pos (by omega), List.append_assoc]
        have HHB : Hid (∀ z ∈ [((s[i].toNat : Nat) : Int)], 0 ≤ z ∧ z < 256) := fun z hz => by rw [List.mem_singleton] at hz; have := HZ.out; omega
        have HHL : Hid ((hxs [((s[i].toNat : Nat) : Int)]).length = 2) := rfl
        clear hA hB hC hD HN
        have HOA : Hid ((wr.alloc (.cells #[.int .u8 92, .int .u8 120] 5)).ownsRow w.heap.size 5 1 (.slice A l.length c) l.length (u8s l)) := HO.out.1.alloc _
        have HBA : Hid (Below w.heap.size w (wr.alloc (.cells #[.int .u8 92, .int .u8 120] 5))) := HO.out.2.alloc HO.out.2.size _
        have HRA := Lib.hid (jl2 wr 92 120)
        go_upto_region 13 with (first
          | (refine wpList_buildSliceTo rfl 36 5 2 _ rfl wr.heap.size rfl (some 45) rfl Tryz.underlying36 #[.int .u8 92, .int .u8 120] (by exact jb2 _ _) ?_)
          | (at_builtin; refine wpList_append_any _ rfl (.tmp 44) (.tmp 45) 36 rfl w.heap.size 5 i0 _ 1 1 Tryz.underlying36 hi0 hz0 hz1 hz2 rfl (by omega) (.slice A l.length c) l.length (u8s l) rfl HOA.out _ (some ⟨wr.heap.size, 0, none⟩) 2 2 [.int .u8 92, .int .u8 120] rfl HRA.out (by simp [Value.oneCell']) (by simp only [maxLen]; omega) (by omega) HBA.out.size ?_; intro v2 w2 hown2 hg2 _; obtain ⟨A', c', rfl, ho2⟩ := OB.app (m := [92, 120]) HBA.out HOA.out hown2 hg2; have HO2 := Lib.hid ho2; clear ho2 hown2 hg2))
        have HR4 := Lib.hid (jl1 w2 ((s[i].toNat : Nat) : Int))
        have HB4 : Hid (Below w2.heap.size w2 (w2.alloc (.cells #[.int .u8 ((s[i].toNat : Nat) : Int)] 5))) := (Below.refl _ _).alloc (Nat.le_refl _) _
        have HO4 := Lib.hid (own_below HO2.out.1 HB4.out)
        have HX4 := Lib.hid (below_step HO2.out.2 HB4.out)
        go_wp2_with (refine wpList_buildSliceTo rfl 36 5 1 _ rfl w2.heap.size rfl (some 49) rfl Tryz.underlying36 #[.int .u8 ((s[i].toNat : Nat) : Int)] (by exact jb1 _) ?_)
        generalize w2.alloc (.cells #[.int .u8 ((s[i].toNat : Nat) : Int)] 5) = w4 at *
        refine (c_rhex1 _ 1 1 [((s[i].toNat : Nat) : Int)] w4 HR4.out (by omega) HHB.out).mono ?_; rintro e w5 ⟨rfl, hb5⟩
        have HO5 := Lib.hid (own_below HO4.out hb5)
        have HB5 := Lib.hid (below_step HX4.out hb5)
        have HO6 : Hid (w5.ownsRow w.heap.size 5 1 (.slice A' (l.length + 2) c') (l.length + 2) (u8s (l ++ [92, 120]))) := by have := HO5.out; rw [show (l ++ [(92 : Int), 120]).length = l.length + 2 from by simp] at this; exact this
        clear hb5 HR4 HB4 HO4 HX4 HO HOA HBA HRA
        have HSZ : Hid ((strOfNums (hxs [((s[i].toNat : Nat) : Int)])).size = 2) := by show _ = _; rw [nm_size]; exact HHL.out
        have hsz := HSZ.out
        have HTX : Hid (Lib.strCells (strOfNums (hxs [((s[i].toNat : Nat) : Int)])) = u8s (hxs [((s[i].toNat : Nat) : Int)])) := by show _ = _; rw [strCells_u8, txB_nm (hxs_range HHB.out)]
        simp only [nmT]
        generalize hxs [((s[i].toNat : Nat) : Int)] = hh at *
        generalize strOfNums hh = hS at *
        go_wp2_with (at_builtin; refine Lib.wpList_append_own_string _ rfl (.tmp 47) (.tmp 50) 36 9 rfl w.heap.size 5 i0 Tryz.underlying36 Tryz.underlying9 hi0 hz0 hz1 hz2 (.slice A' (l.length + 2) c') (l.length + 2) _ rfl HO6.out hS rfl (by simp only [maxLen]; omega) (by omega) HB5.out.size ?_; intro v6 w6 ho6 hg6 _; rw [HTX.out, HSZ.out, show l.length + 2 + 2 = (l ++ [(92 : Int), 120]).length + hh.length from by rw [HHL.out]; simp] at ho6; obtain ⟨A6, c6, rfl, ho7⟩ := OB.app (m := hh) HB5.out HO5.out ho6 hg6; have HO7 := Lib.hid ho7; clear ho6 hg6 ho7)
        go_roundw
        case rel => exact ⟨i + 1, A6, c6, by rw [HX.out]; have := HHL.out; first | (simp; done) | (simp; omega), by go_num, hlt, by rw [HX.out]; exact HO7.out⟩
        case measure => simp [intOf]; omega
      by_cases hE : 126 < s[i].toNat
      · have t34 : (((s[i].toNat : Nat) : Int) == 34) = false := by simp; omega
        have t92 : (((s[i].toNat : Nat) : Int) == 92) = false := by simp; omega
        have t10 : (((s[i].toNat : Nat) : Int) == 10) = false := by simp; omega
        have hD1 : ¬ ((s[i].toNat : Nat) : Int) < 32 := by omega
        have hE1 : (126 : Int) < ((s[i].toNat : Nat) : Int) := by omega
        have HX : Hid (34 :: quoL ((txB s).take (i + 1)) = (l ++ [92, 120]) ++ hxs [((s[i].toNat : Nat) : Int)]) := by show _ = _; rw [HN.out]; unfold quo1; rw [if_neg (by omega), if_neg (by omega), if_pos (by omega), List.append_assoc]
        have HHB : Hid (∀ z ∈ [((s[i].toNat : Nat) : Int)], 0 ≤ z ∧ z < 256) := fun z hz => by rw [List.mem_singleton] at hz; have := HZ.out; omega
        have HHL : Hid ((hxs [((s[i].toNat : Nat) : Int)]).length = 2) := rfl
        clear hA hB hC hD hE HN
        have HOA : Hid ((wr.alloc (.cells #[.int .u8 92, .int .u8 120] 5)).ownsRow w.heap.size 5 1 (.slice A l.length c) l.length (u8s l)) := HO.out.1.alloc _
        have HBA : Hid (Below w.heap.size w (wr.alloc (.cells #[.int .u8 92, .int .u8 120] 5))) := HO.out.2.alloc HO.out.2.size _
        have HRA := Lib.hid (jl2 wr 92 120)
        go_upto_region 13 with (first
          | (refine wpList_buildSliceTo rfl 36 5 2 _ rfl wr.heap.size rfl (some 45) rfl Tryz.underlying36 #[.int .u8 92, .int .u8 120] (by exact jb2 _ _) ?_)
          | (at_builtin; refine wpList_append_any _ rfl (.tmp 44) (.tmp 45) 36 rfl w.heap.size 5 i0 _ 1 1 Tryz.underlying36 hi0 hz0 hz1 hz2 rfl (by omega) (.slice A l.length c) l.length (u8s l) rfl HOA.out _ (some ⟨wr.heap.size, 0, none⟩) 2 2 [.int .u8 92, .int .u8 120] rfl HRA.out (by simp [Value.oneCell']) (by simp only [maxLen]; omega) (by omega) HBA.out.size ?_; intro v2 w2 hown2 hg2 _; obtain ⟨A', c', rfl, ho2⟩ := OB.app (m := [92, 120]) HBA.out HOA.out hown2 hg2; have HO2 := Lib.hid ho2; clear ho2 hown2 hg2))
        have HR4 := Lib.hid (jl1 w2 ((s[i].toNat : Nat) : Int))
        have HB4 : Hid (Below w2.heap.size w2 (w2.alloc (.cells #[.int .u8 ((s[i].toNat : Nat) : Int)] 5))) := (Below.refl _ _).alloc (Nat.le_refl _) _
        have HO4 := Lib.hid (own_below HO2.out.1 HB4.out)
        have HX4 := Lib.hid (below_step HO2.out.2 HB4.out)
        go_wp2_with (refine wpList_buildSliceTo rfl 36 5 1 _ rfl w2.heap.size rfl (some 49) rfl Tryz.underlying36 #[.int .u8 ((s[i].toNat : Nat) : Int)] (by exact jb1 _) ?_)
        generalize w2.alloc (.cells #[.int .u8 ((s[i].toNat : Nat) : Int)] 5) = w4 at *
        refine (c_rhex1 _ 1 1 [((s[i].toNat : Nat) : Int)] w4 HR4.out (by omega) HHB.out).mono ?_; rintro e w5 ⟨rfl, hb5⟩
        have HO5 := Lib.hid (own_below HO4.out hb5)
        have HB5 := Lib.hid (below_step HX4.out hb5)
        have HO6 : Hid (w5.ownsRow w.heap.size 5 1 (.slice A' (l.length + 2) c') (l.length + 2) (u8s (l ++ [92, 120]))) := by have := HO5.out; rw [show (l ++ [(92 : Int), 120]).length = l.length + 2 from by simp] at this; exact this
        clear hb5 HR4 HB4 HO4 HX4 HO HOA HBA HRA
        have HSZ : Hid ((strOfNums (hxs [((s[i].toNat : Nat) : Int)])).size = 2) := by show _ = _; rw [nm_size]; exact HHL.out
        have hsz := HSZ.out
        have HTX : Hid (Lib.strCells (strOfNums (hxs [((s[i].toNat : Nat) : Int)])) = u8s (hxs [((s[i].toNat : Nat) : Int)])) := by show _ = _; rw [strCells_u8, txB_nm (hxs_range HHB.out)]
        simp only [nmT]
        generalize hxs [((s[i].toNat : Nat) : Int)] = hh at *
        generalize strOfNums hh = hS at *
        go_wp2_with (at_builtin; refine Lib.wpList_append_own_string _ rfl (.tmp 47) (.tmp 50) 36 9 rfl w.heap.size 5 i0 Tryz.underlying36 Tryz.underlying9 hi0 hz0 hz1 hz2 (.slice A' (l.length + 2) c') (l.length + 2) _ rfl HO6.out hS rfl (by simp only [maxLen]; omega) (by omega) HB5.out.size ?_; intro v6 w6 ho6 hg6 _; rw [HTX.out, HSZ.out, show l.length + 2 + 2 = (l ++ [(92 : Int), 120]).length + hh.length from by rw [HHL.out]; simp] at ho6; obtain ⟨A6, c6, rfl, ho7⟩ := OB.app (m := hh) HB5.out HO5.out ho6 hg6; have HO7 := Lib.hid ho7; clear ho6 hg6 ho7)
        go_roundw
        case rel => exact ⟨i + 1, A6, c6, by rw [HX.out]; have := HHL.out; first | (simp; done) | (simp; omega), by go_num, hlt, by rw [HX.out]; exact HO7.out⟩
        case measure => simp [intOf]; omega
      have t34 : (((s[i].toNat : Nat) : Int) == 34) = false := by simp; omega
      have t92 : (((s[i].toNat : Nat) : Int) == 92) = false := by simp; omega
      have t10 : (((s[i].toNat : Nat) : Int) == 10) = false := by simp; omega
      have hD1 : ¬ ((s[i].toNat : Nat) : Int) < 32 := by omega
      have hE1 : ¬ (126 : Int) < ((s[i].toNat : Nat) : Int) := by omega
      have HX : Hid (34 :: quoL ((txB s).take (i + 1)) = l ++ [((s[i].toNat : Nat) : Int)]) := by show _ = _; rw [HN.out]; unfold quo1; rw [if_neg (by omega), if_neg (by omega), if_neg (by omega)]
      clear hA hB hC hD hE HN
      have HOA : Hid ((wr.alloc (.cells #[.int .u8 ((s[i].toNat : Nat) : Int)] 5)).ownsRow w.heap.size 5 1 (.slice A l.length c) l.length (u8s l)) := HO.out.1.alloc _
      have HBA : Hid (Below w.heap.size w (wr.alloc (.cells #[.int .u8 ((s[i].toNat : Nat) : Int)] 5))) := HO.out.2.alloc HO.out.2.size _
      have HRA := Lib.hid (jl1 wr ((s[i].toNat : Nat) : Int))
      go_wp2_with (first
        | (refine wpList_buildSliceTo rfl 36 5 1 _ rfl wr.heap.size rfl (some 18) rfl Tryz.underlying36 #[.int .u8 ((s[i].toNat : Nat) : Int)] (by exact jb1 _) ?_)
        | (at_builtin; refine wpList_append_any _ rfl (.tmp 16) (.tmp 18) 36 rfl w.heap.size 5 i0 _ 1 1 Tryz.underlying36 hi0 hz0 hz1 hz2 rfl (by omega) (.slice A l.length c) l.length (u8s l) rfl HOA.out _ (some ⟨wr.heap.size, 0, none⟩) 1 1 [.int .u8 ((s[i].toNat : Nat) : Int)] rfl HRA.out (by simp [Value.oneCell']) (by simp only [maxLen]; omega) (by omega) HBA.out.size ?_; intro v2 w2 hown2 hg2 _; obtain ⟨A', c', rfl, ho2⟩ := OB.app (m := [((s[i].toNat : Nat) : Int)]) HBA.out HOA.out hown2 hg2; have HO2 := Lib.hid ho2; clear ho2 hown2 hg2))
      go_wp2_with fail
      go_roundw
      case rel => exact ⟨i + 1, A', c', by rw [HX.out]; simp, by go_num, hlt, by rw [HX.out]; exact HO2.out⟩
      case measure => simp [intOf]; omega
    · obtain rfl : i = s.size := by omega
      generalize hm : 34 :: quoL ((txB s).take s.size) = l at *
      clear hm
      have HX := HQ
      have HOA : Hid ((wr.alloc (.cells #[.int .u8 34] 5)).ownsRow w.heap.size 5 1 (.slice A l.length c) l.length (u8s l)) := HO.out.1.alloc _
      have HBA : Hid (Below w.heap.size w (wr.alloc (.cells #[.int .u8 34] 5))) := HO.out.2.alloc HO.out.2.size _
      have HRA := Lib.hid (jl1 wr 34)
      go_wp2_with (first
        | (refine wpList_buildSliceTo rfl 36 5 1 _ rfl wr.heap.size rfl (some 53) rfl Tryz.underlying36 #[.int .u8 34] (by exact jb1 _) ?_)
        | (at_builtin; refine wpList_append_any _ rfl (.tmp 52) (.tmp 53) 36 rfl w.heap.size 5 i0 _ 1 1 Tryz.underlying36 hi0 hz0 hz1 hz2 rfl (by omega) (.slice A l.length c) l.length (u8s l) rfl HOA.out _ (some ⟨wr.heap.size, 0, none⟩) 1 1 [.int .u8 34] rfl HRA.out (by simp [Value.oneCell']) (by simp only [maxLen]; omega) (by omega) HBA.out.size ?_; intro v2 w2 hown2 hg2 _; obtain ⟨A', c', rfl, ho2⟩ := OB.app (m := [34]) HBA.out HOA.out hown2 hg2; have HO2 := Lib.hid ho2; have hcv := conv_row ho2.1; rw [show (l ++ [(34 : Int)]).length = l.length + 1 from by simp] at hcv; clear ho2 hown2 hg2))
      go_ret
      exact ⟨by rw [HX.out]; rfl, HO2.out.2⟩
end Go.Proofs.YtigbbogfnchgnaaGreatDoor
