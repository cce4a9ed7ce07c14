/- Walk: bytes out of their small digits (word.UnHex of what word.Hex says). Conditions: lengths within the reach. Plain words: the words of a line of parameters, how the line is cut into them, and what they say one after the other (no walk). Conditions: none. Walks: a number and bytes out of a word of a line, a word cut at its sign, a line cut into words (param's reader). Conditions: as stated. Walks: the fields' names as a row (param.names); a word laid into its field (param's reader: set). Conditions: as stated. Walk: a word laid into its field (param's reader: set). Conditions: as stated. Walk: all words of a line, one after the other (param's reader: words). Conditions: as stated. Walk: a line of parameters read (param's reader: read). Conditions: as stated. Walk: param.Read at a line that Show has printed. Conditions: as stated. Walk: the law ParamBack. Conditions: the library's table of tens as laid. -/
import Derived.Test.YtofcdffcaiajmaaDoorHx
import Derived.Test.YtofcdffcaiajmaaDoorGet
import Derived.Deep.DrawnRows
import Derived.Deep.RegionHeld3
import Derived.Test.YtofcdffcaiajmaaDoorSw
import Derived.Lib.SplitLaws
import Derived.Lib.AtoiAllCases
import Derived.Test.YtofcdffcaiajmaaDoorLq
import Derived.Lib.AtoiErrMem
import Derived.BigCall
import Derived.BigGuard
import Derived.BigQuiet
import Derived.StillTailTactics
import Derived.Deep.DeepCutAuto
import Derived.Outline
import Derived.Deep.MidRow
import Derived.Laws.CopyRow
import Derived.Test.YtofcdffcaiajmaaDoorSm
import Derived.Defers
import Derived.DefersIn
import Derived.Recover
import Derived.Test.YtofcdffcaiajmaaDoorAlv
import Derived.Test.YtofcdffcaiajmaaDoorDecA
import Derived.Test.YtofcdffcaiajmaaDoorLaw
import Derived.Test.YtofcdffcaiajmaaDoorWd
import Derived.OpenShut
namespace Go.Proofs.YtofcdffcaiajmaaDoor
open Go.RowKit
set_option linter.unusedVariables false
attribute [local go_sem ↓] Go.wp_at_zero Go.wp_at_succ

/-- The small digits of bytes. -/
def hxB (xs : List Int) : List UInt8 := (hxs xs).map fun z => UInt8.ofNat z.toNat
theorem hxB_len (xs : List Int) : (hxB xs).length = 2 * xs.length := by unfold hxB; rw [List.length_map, hxs_len]
theorem hxs_get : ∀ (xs : List Int) (j : Nat), j < xs.length → (hxs xs)[2 * j]? = some (hdg (xs.getD j 0 / 16)) ∧ (hxs xs)[2 * j + 1]? = some (hdg (xs.getD j 0 % 16))
  | [], j, h => by simp at h
  | z :: l, 0, h => by simp [hxs]
  | z :: l, j + 1, h => by
    have := hxs_get l j (by simpa using h)
    rw [show 2 * (j + 1) = 2 * j + 1 + 1 by omega]
    simpa [hxs] using this
/-- A digit's worth. -/
def hxq (xs : List Int) (i : Nat) : Int := if i % 2 = 0 then xs.getD (i / 2) 0 / 16 else xs.getD (i / 2) 0 % 16
theorem getD_mem {xs : List Int} {j : Nat} (h : j < xs.length) : xs.getD j 0 ∈ xs := by
  rw [List.getD, List.getElem?_eq_getElem h]; exact List.getElem_mem _
theorem hxq_bd {xs : List Int} (h : ∀ z ∈ xs, 0 ≤ z ∧ z < 256) {i : Nat} (hi : i < 2 * xs.length) : 0 ≤ hxq xs i ∧ hxq xs i < 16 := by
  have := h _ (getD_mem (xs := xs) (j := i / 2) (by omega))
  unfold hxq
  split <;> omega
theorem hxB_at {xs : List Int} (h : ∀ z ∈ xs, 0 ≤ z ∧ z < 256) {i : Nat} (hi : i < 2 * xs.length) (h' : i < (⟨(hxB xs).toArray⟩ : ByteArray).size) : (((⟨(hxB xs).toArray⟩ : ByteArray)[i].toNat : Nat) : Int) = hdg (hxq xs i) := by
  have hg := hxs_get xs (i / 2) (by omega)
  have hb := hxq_bd h hi
  have hr := hdg_bd hb
  have e : (hxB xs)[i]? = some (UInt8.ofNat (hdg (hxq xs i)).toNat) := by
    unfold hxB hxq
    rw [List.getElem?_map]
    by_cases he : i % 2 = 0
    · rw [if_pos he, show i = 2 * (i / 2) by omega, show 2 * (i / 2) / 2 = i / 2 by omega, hg.1]; rfl
    · rw [if_neg he, show i = 2 * (i / 2) + 1 by omega, show (2 * (i / 2) + 1) / 2 = i / 2 by omega, hg.2]; rfl
  have e2 : (⟨(hxB xs).toArray⟩ : ByteArray)[i] = UInt8.ofNat (hdg (hxq xs i)).toNat := by
    have hl : i < (hxB xs).length := by rw [hxB_len]; exact hi
    rw [List.getElem?_eq_getElem hl] at e
    exact Option.some.inj e
  rw [e2, UInt8.toNat_ofNat']
  omega
/-- What stands after so many digits. -/
def uiI (xs : List Int) (i : Nat) : List Int := if i % 2 = 0 then xs.take (i / 2) else xs.take (i / 2) ++ [xs.getD (i / 2) 0 / 16 * 16]
theorem uiI_len {xs : List Int} {i : Nat} (hi : i ≤ 2 * xs.length) : (uiI xs i).length = (i + 1) / 2 := by
  unfold uiI
  split <;> simp <;> omega
theorem uiI_even {xs : List Int} {i : Nat} (hi : i < 2 * xs.length) (he : i % 2 = 0) : uiI xs (i + 1) = uiI xs i ++ [hxq xs i * 16] := by
  unfold uiI hxq
  rw [if_pos he, if_pos he, if_neg (by omega), show (i + 1) / 2 = i / 2 by omega]
theorem uiI_odd {xs : List Int} {i : Nat} (hi : i < 2 * xs.length) (he : ¬ i % 2 = 0) : (uiI xs i).getD (i / 2) 0 = hxq xs (i - 1) * 16 ∧ uiI xs (i + 1) = (uiI xs i).set (i / 2) (hxq xs (i - 1) * 16 + hxq xs i) := by
  unfold uiI hxq
  have hl : (xs.take (i / 2)).length = i / 2 := by rw [List.length_take]; omega
  rw [if_neg he, if_neg he, if_pos (by omega), if_pos (by omega), show (i + 1) / 2 = i / 2 + 1 by omega, show (i - 1) / 2 = i / 2 by omega]
  constructor
  · rw [List.getD, List.getElem?_append_right (by omega), hl]; simp
  · rw [List.set_append_right _ _ (by omega), hl]
    simp only [Nat.sub_self, List.set_cons_zero]
    rw [List.take_succ_eq_append_getElem (by omega), show xs.getD (i / 2) 0 / 16 * 16 + xs.getD (i / 2) 0 % 16 = xs.getD (i / 2) 0 by omega, List.getD, List.getElem?_eq_getElem (by omega)]
    rfl
theorem uiI_all (xs : List Int) : uiI xs (2 * xs.length) = xs := by
  unfold uiI
  rw [if_pos (by omega), show 2 * xs.length / 2 = xs.length by omega, List.take_of_length_le (Nat.le_refl _)]
theorem or_digI : ∀ x y : Fin 16, bits BinOp.or .u8 (((x.val : Nat) : Int) * 16) ((y.val : Nat) : Int) = ((x.val : Nat) : Int) * 16 + ((y.val : Nat) : Int) := by decide
theorem own_setI {w : World} {B : Nat} {A : Option Addr} {n c : Nat} {l : List Int} (h : w.ownsRow B 5 1 (.slice A n c) n (u8s l)) (j : Nat) (hj : j < n) (z : Int) :
    ∃ g, A = some ⟨g, 0, none⟩ ∧ B ≤ g ∧ w.cell? ⟨g, j, none⟩ = some (.int .u8 (l.getD j 0)) ∧ w.frozen? ⟨g, j, none⟩ = false ∧ (w.setCell ⟨g, j, none⟩ (.int .u8 z)).ownsRow B 5 1 (.slice A n c) n (u8s (l.set j z)) := by
  obtain ⟨g, cap, hv, hg1, hg2⟩ := own_form h (by omega)
  injection hv with hv _ hv2
  subst hv; subst hv2
  have hl : l.length = n := by have := h.1; simpa using this
  have hc : w.cell? ⟨g, j, none⟩ = some (.int .u8 (l.getD j 0)) := by
    rw [h.cellAt j (by omega)]
    simp [List.getD, u8s, List.getElem?_eq_getElem (show j < l.length by omega)]
  have h1 := (h.stored j (.int .u8 z)).1
  rw [show (u8s l).set j (.int .u8 z) = u8s (l.set j z) by simp [u8s, List.map_set]] at h1
  exact ⟨g, rfl, hg1, hc, h.frozenAt j, h1⟩
theorem reads_litI (w : World) (x : Int) : Reads (w.alloc (.cells #[.int .u8 x] 5)) (w.alloc (.cells #[.int .u8 x] 5)).heap.size 1 (some ⟨w.heap.size, 0, none⟩) 1 [.int .u8 x] :=
  Reads.of_own (World.ownsRow_lit (e := 5) (size := 1) (base := 0) w #[.int .u8 x] 1 (Nat.zero_le _) (by decide) rfl)
theorem builtI (y : Int) : Tryd.prog.builtSlice 5 1 [(0, .int .u8 y)] = some #[.int .u8 y] := by kernel_rfl
theorem c_digitH (q : Int) (h0 : 0 ≤ q) (h1 : q < 16) (w : World) : Calls Tryd.prog 70 #[.int .u8 (hdg q)] w fun e w' => e = .returned (.tuple #[.int .u8 q, .bool true]) ∧ w' = w := by
  by_cases h : q < 10
  · have e : hdg q = 48 + q := if_pos h
    have a1 : (48 : Int) ≤ hdg q := by omega
    have a2 : hdg q ≤ 57 := by omega
    generalize hdg q = c at *
    go_enter Tryd.func70, Tryd.ntmps70
    go_wp2
    go_ret2
    exact ⟨by first | rfl | (simp; omega), rfl⟩
  · have e : hdg q = 87 + q := if_neg h
    have a0 : (48 : Int) ≤ hdg q := by omega
    have a1 : ¬ hdg q ≤ 57 := by omega
    have a2 : (97 : Int) ≤ hdg q := by omega
    have a4 : hdg q ≤ 102 := by omega
    generalize hdg q = c at *
    go_enter Tryd.func70, Tryd.ntmps70
    go_wp2
    go_ret2
    exact ⟨by first | rfl | (simp; omega), rfl⟩
set_option maxRecDepth 100000 in
set_option maxHeartbeats 2000000 in
theorem c_UnHexI (xs : List Int) (hx : ∀ z ∈ xs, 0 ≤ z ∧ z < 256) (hn : xs.length ≤ 100000) (w : World) :
    Calls Tryd.prog 62 #[bstr (hxB xs)] w fun e w' => ∃ A c, e = .returned (.tuple #[.slice A xs.length c, .int .i64 0, .int .i64 0]) ∧ w'.ownsRow w.heap.size 5 1 (.slice A xs.length c) xs.length (u8s xs) ∧ Below w.heap.size w w' := by
  obtain ⟨i0, hi0, hz0, hz1, hz2⟩ := info_parts u8_info
  have hsz : (⟨(hxB xs).toArray⟩ : ByteArray).size = 2 * xs.length := hxB_len xs
  have HD : Hid (∀ i, (h : i < (⟨(hxB xs).toArray⟩ : ByteArray).size) → ∀ W, Calls Tryd.prog 70 #[.int .u8 ((⟨(hxB xs).toArray⟩ : ByteArray)[i].toNat : Int)] W fun e w' => e = .returned (.tuple #[.int .u8 (hxq xs i), .bool true]) ∧ W = w') := fun i h W => by
    rw [hxB_at hx (by omega) h]
    have hb := hxq_bd hx (i := i) (by omega)
    exact (c_digitH _ hb.1 hb.2 W).mono fun _ _ ⟨h1, h2⟩ => ⟨h1, h2.symm⟩
  have HV : Hid (∀ i, i < 2 * xs.length → i % 2 = 0 → uiI xs (i + 1) = uiI xs i ++ [hxq xs i * 16]) := fun i h he => uiI_even h he
  have HV2 : Hid (∀ i, i < 2 * xs.length → ¬ i % 2 = 0 → (uiI xs i).getD (i / 2) 0 = hxq xs (i - 1) * 16 ∧ uiI xs (i + 1) = (uiI xs i).set (i / 2) (hxq xs (i - 1) * 16 + hxq xs i)) := fun i h he => uiI_odd h he
  have HQ : Hid (∀ i, i < 2 * xs.length → 0 ≤ hxq xs i ∧ hxq xs i < 16) := fun i h => hxq_bd hx h
  have HE := Lib.hid (uiI_all xs)
  have HL0 : Hid (∀ i, i ≤ 2 * xs.length → (uiI xs i).length = (i + 1) / 2) := fun i h => uiI_len h
  show Calls _ _ #[.string ⟨(hxB xs).toArray⟩] _ _
  generalize (⟨(hxB xs).toArray⟩ : ByteArray) = s at *
  have HSZ := Lib.hid hsz
  have hs : s.size ≤ 1000000 := by omega
  clear hx hsz
  go_enter Tryd.func62, Tryd.ntmps62
  go_wp2_with fail
  go_loopw [5, 11] (fun vb vi wr => ∃ (i : Nat) (A : Option Addr) (c : Nat) (l : List Int), vb = .slice A l.length c ∧ vi = .int .i64 i ∧ i ≤ s.size ∧ l.length = (i + 1) / 2 ∧ Hid (l = uiI xs i) ∧ Hid (wr.ownsRow w.heap.size 5 1 (.slice A l.length c) l.length (u8s l)) ∧ Hid (Below w.heap.size w wr)) (fun _ vi _ => s.size - (intOf vi).toNat)
  case atStart => exact ⟨0, none, 0, [], rfl, rfl, Nat.zero_le _, rfl, rfl, World.ownsRow_nil _ _ _ _, Below.refl _ _⟩
  case round =>
    obtain ⟨i, A, c, l, rfl, rfl, hi, hll, HL, HO, HB⟩ := hrel
    have hll2 : l.length ≤ i := by omega
    have hsz := HSZ.out
    by_cases hlt : i < s.size
    · have hd := Lib.hid (HD.out i hlt)
      have hq := HQ.out i (by omega)
      by_cases hev : i % 2 = 0
      · have HX := Lib.hid (HV.out i (by omega) hev)
        rw [← HL.out] at HX
        have hm2 : (((i : Int) % 2) == 0) = true := by simp; omega
        have HN : Hid (l.length + 1 = (i + 1 + 1) / 2) := by show _ = _; omega
        generalize hxq xs i = x at *
        obtain ⟨hq1, hq2⟩ := hq
        have HOA : Hid ((wr.alloc (.cells #[.int .u8 (x * 16)] 5)).ownsRow w.heap.size 5 1 (.slice A l.length c) l.length (u8s l)) := HO.out.alloc _
        have HBA : Hid (Below w.heap.size w (wr.alloc (.cells #[.int .u8 (x * 16)] 5))) := HB.out.alloc HB.out.size _
        have HRA := Lib.hid (reads_litI wr (x * 16))
        clear HD HV HV2 HL hev hll HQ HL0 hsz
        go_wp2_with (first
          | (go_at_call 70; refine (hd.out _).mono ?_; rintro e w' ⟨rfl, rfl⟩)
          | (refine wpList_buildSliceTo rfl 24 5 1 _ rfl wr.heap.size rfl (some 30) rfl Tryd.underlying24 #[.int .u8 (x * 16)] (by exact builtI _) ?_)
          | (at_builtin; refine wpList_append_any _ rfl (.tmp 27) (.tmp 30) 24 rfl w.heap.size 5 i0 _ 1 1 Tryd.underlying24 hi0 hz0 hz1 hz2 rfl (by omega) (.slice A l.length c) l.length (u8s l) rfl HOA.out _ (some ⟨wr.heap.size, 0, none⟩) 1 1 [.int .u8 (x * 16)] rfl HRA.out (by simp [Value.oneCell']) (by simp only [maxLen]; omega) (by omega) HBA.out.size ?_; intro v2 w2 hown2 hg2 _; obtain ⟨A', c', rfl⟩ := own_slice hown2; have HO2 : Hid (w2.ownsRow w.heap.size 5 1 (.slice A' (l ++ [x * 16]).length c') (l ++ [x * 16]).length (u8s (l ++ [x * 16]))) := (by show World.ownsRow _ _ _ _ _ _ _; rw [List.length_append]; simpa [u8s] using hown2); have HB2 := Lib.hid (below_own HBA.out HOA.out hg2); clear hown2 hg2))
        go_wp2_with fail
        go_roundw
        case rel => exact ⟨i + 1, A', c', l ++ [x * 16], by simp, by go_num, hlt, by rw [List.length_append]; exact HN.out, HX.out.symm, HO2, HB2⟩
        case measure => simp [intOf]; omega
      · obtain ⟨hx0, hx1⟩ := HV2.out i (by omega) hev
        rw [← HL.out] at hx0 hx1
        have HX := Lib.hid hx1
        have hm2 : (((i : Int) % 2) == 0) = false := by simp; omega
        have hq3 : (i : Int) / 2 = ((i / 2 : Nat) : Int) := by omega
        have hj : i / 2 < l.length := by omega
        have hq' := HQ.out (i - 1) (by omega)
        generalize hxq xs i = y at *
        generalize hxq xs (i - 1) = x at *
        obtain ⟨g, rfl, hg, hc, hf, ho2⟩ := own_setI HO.out (i / 2) hj (x * 16 + y)
        rw [hx0] at hc
        have HN : Hid ((l.set (i / 2) (x * 16 + y)).length = (i + 1 + 1) / 2) := by show _ = _; rw [List.length_set]; omega
        obtain ⟨x', rfl⟩ : ∃ x' : Nat, x = (x' : Int) := ⟨x.toNat, by omega⟩
        obtain ⟨y', rfl⟩ : ∃ y' : Nat, y = (y' : Int) := ⟨y.toNat, by omega⟩
        have hor := or_digI ⟨x', by omega⟩ ⟨y', by omega⟩
        simp only at hor
        clear HD HV HV2 HL hx0 hx1 HQ HL0
        have HO2 := Lib.hid ho2
        have HOR := Lib.hid hor
        clear ho2 hor
        generalize i / 2 = k at *
        clear hev hll hsz
        go_wp2_with (go_at_call 70; refine (hd.out _).mono ?_; rintro e w' ⟨rfl, rfl⟩)
        rw [HOR.out]
        go_roundw
        case rel => exact ⟨i + 1, some ⟨g, 0, none⟩, c, l.set k (x' * 16 + y'), by simp, by go_num, hlt, HN.out, HX.out.symm, by rw [List.length_set]; exact HO2.out, HB.out.setCell hg _⟩
        case measure => simp [intOf]; omega
    · obtain rfl : i = s.size := by omega
      have hm2 : (((s.size : Int) % 2) == 1) = false := by simp; omega
      have hlx : l = xs := by rw [HL.out, hsz]; exact HE.out
      subst hlx
      clear HL HD HV HV2 HQ HL0 HE hsz
      go_wp2_with fail
      go_ret3
      exact ⟨A, c, by rfl, HO.out, HB.out⟩
end Go.Proofs.YtofcdffcaiajmaaDoor
namespace Go.Proofs.YtofcdffcaiajmaaDoor
open Go.RowKit
set_option linter.unusedVariables false

/-- What a field's word says. -/
def txt (q : Pm) (i : Nat) : List UInt8 := if i < 9 then Lib.decDigits (fv q i).toNat else if i = 9 then hxB q.s else hxB q.t
/-- Is it printed? -/
def prt (k : Int) (q : Pm) (i : Nat) : Bool := if i < 9 then decide (fv q i ≠ fv (plainP (kmost k) 0) i) else if i = 9 then decide (q.s ≠ []) else decide (q.t ≠ [])
def wrd (q : Pm) (i : Nat) : List UInt8 := fname i ++ 61 :: txt q i
/-- The words from a field on, of so many fields. -/
def wds (k : Int) (q : Pm) : Nat → Nat → List (List UInt8)
  | _, 0 => []
  | i, n + 1 => (if prt k q i = true then [wrd q i] else []) ++ wds k q (i + 1) n
/-- The words from a field on. -/
abbrev wdf (k : Int) (q : Pm) (i : Nat) : List (List UInt8) := wds k q i (11 - i)
theorem fpart_w (k : Int) (q : Pm) (i : Nat) (h : i < 9) : fpart k q i = (if prt k q i = true then [wrd q i] else []).flatMap (32 :: ·) := by
  unfold fpart prt wrd txt
  rw [if_pos h, if_pos h]
  by_cases he : fv q i = fv (plainP (kmost k) 0) i
  · rw [if_pos he]; simp [he]
  · rw [if_neg he]; simp [he]
theorem bpart_s (k : Int) (q : Pm) : bpart 9 q.s = (if prt k q 9 = true then [wrd q 9] else []).flatMap (32 :: ·) := by
  have e1 : prt k q 9 = decide (q.s ≠ []) := rfl
  have e2 : txt q 9 = hxB q.s := rfl
  unfold bpart wrd
  rw [e1, e2]
  by_cases he : q.s = []
  · rw [if_pos he]; simp [he]
  · rw [if_neg he]; simp [he, hxB]
theorem bpart_t (k : Int) (q : Pm) : bpart 10 q.t = (if prt k q 10 = true then [wrd q 10] else []).flatMap (32 :: ·) := by
  have e1 : prt k q 10 = decide (q.t ≠ []) := rfl
  have e2 : txt q 10 = hxB q.t := rfl
  unfold bpart wrd
  rw [e1, e2]
  by_cases he : q.t = []
  · rw [if_pos he]; simp [he]
  · rw [if_neg he]; simp [he, hxB]
theorem pline_w (k : Int) (q : Pm) : pline k q = (if k = 2 then [50, 115] else [50, 98]) ++ (wdf k q 0).flatMap (32 :: ·) := by
  unfold pline
  rw [bpart_s k, bpart_t k]
  simp only [fparts, wdf, wds, List.flatMap_append, List.append_assoc, List.nil_append, List.append_nil]
  rw [fpart_w k q 0 (by decide), fpart_w k q 1 (by decide), fpart_w k q 2 (by decide), fpart_w k q 3 (by decide), fpart_w k q 4 (by decide), fpart_w k q 5 (by decide), fpart_w k q 6 (by decide), fpart_w k q 7 (by decide), fpart_w k q 8 (by decide)]
theorem fname_no (i : Nat) (hi : i < 11) : ∀ c ∈ fname i, c ≠ 32 ∧ c ≠ 61 := by
  have : i = 0 ∨ i = 1 ∨ i = 2 ∨ i = 3 ∨ i = 4 ∨ i = 5 ∨ i = 6 ∨ i = 7 ∨ i = 8 ∨ i = 9 ∨ i = 10 := by omega
  rcases this with rfl | rfl | rfl | rfl | rfl | rfl | rfl | rfl | rfl | rfl | rfl <;> decide
theorem hdg_no : ∀ q : Fin 16, UInt8.ofNat (hdg ((q.val : Nat) : Int)).toNat ≠ 32 := by decide
theorem hxB_no {xs : List Int} (h : ∀ z ∈ xs, 0 ≤ z ∧ z < 256) : ∀ c ∈ hxB xs, c ≠ 32 := by
  induction xs with
  | nil => intro c hc; cases hc
  | cons z l ih =>
    have hz := h z List.mem_cons_self
    intro c hc
    have e : hxB (z :: l) = UInt8.ofNat (hdg (z / 16)).toNat :: UInt8.ofNat (hdg (z % 16)).toNat :: hxB l := rfl
    rw [e] at hc
    rcases List.mem_cons.1 hc with rfl | hc
    · have := hdg_no ⟨(z / 16).toNat, by omega⟩
      simp only at this
      rwa [show (((z / 16).toNat : Nat) : Int) = z / 16 by omega] at this
    rcases List.mem_cons.1 hc with rfl | hc
    · have := hdg_no ⟨(z % 16).toNat, by omega⟩
      simp only at this
      rwa [show (((z % 16).toNat : Nat) : Int) = z % 16 by omega] at this
    · exact ih (fun y hy => h y (List.mem_cons_of_mem _ hy)) c hc
/-- A decimal digit. -/
abbrev dgP (c : UInt8) : Prop := 48 ≤ c.toNat ∧ c.toNat ≤ 57
theorem dec_dig (u : Nat) : (∀ c ∈ Lib.decDigits u, dgP c) ∧ (Lib.decDigits u).foldl (fun a c => 10 * a + (c.toNat - 48)) 0 = u ∧ 0 < (Lib.decDigits u).length ∧ (0 < u → (Lib.decDigits u)[0]? ≠ some 48) := by
  induction u using Nat.strongRecOn with
  | _ u ih =>
    have hb : ∀ k, k < 10 → (UInt8.ofNat (48 + k)).toNat = 48 + k := fun k hk => by simp; omega
    by_cases h : u < 10
    · rw [dig_small h]
      refine ⟨?_, ?_, by simp, ?_⟩
      · intro c hc
        rw [List.mem_singleton.1 hc]
        show 48 ≤ _ ∧ _ ≤ 57
        rw [hb u h]; omega
      · show 10 * 0 + ((UInt8.ofNat (48 + u)).toNat - 48) = u
        rw [hb u h]; omega
      · intro h0 hc
        have h1 : UInt8.ofNat (48 + u) = 48 := by simpa using hc
        have h2 := congrArg UInt8.toNat h1
        rw [hb u h] at h2
        have : (48 : UInt8).toNat = 48 := rfl
        omega
    · rw [dig_big (by omega)]
      obtain ⟨i1, i2, i3, i4⟩ := ih (u / 10) (by omega)
      refine ⟨?_, ?_, by simp, ?_⟩
      · intro c hc
        rcases List.mem_append.1 hc with hc | hc
        · exact i1 c hc
        · rw [List.mem_singleton.1 hc]
          show 48 ≤ _ ∧ _ ≤ 57
          rw [hb (u % 10) (by omega)]; omega
      · rw [List.foldl_append, i2]
        show 10 * (u / 10) + ((UInt8.ofNat (48 + u % 10)).toNat - 48) = u
        rw [hb (u % 10) (by omega)]; omega
      · intro _ hc
        rw [List.getElem?_append_left i3] at hc
        exact i4 (by omega) hc
theorem dec_zero {u : Nat} (h : 1 < (Lib.decDigits u).length) : (Lib.decDigits u)[0]? ≠ some 48 := by
  refine (dec_dig u).2.2.2 (Nat.pos_of_ne_zero ?_)
  rintro rfl
  rw [dig_small (by decide)] at h
  simp at h
theorem dec_parse (u : Nat) (hu : u < 18446744073709551616) : Lib.parseUint10 0 (Lib.decDigits u) = .ok u := by
  have key : ∀ (l : List UInt8) (acc : Nat), acc < 18446744073709551616 → (∀ c ∈ l, dgP c) → l.foldl (fun a c => 10 * a + (c.toNat - 48)) acc < 18446744073709551616 → Lib.parseUint10 acc l = .ok (l.foldl (fun a c => 10 * a + (c.toNat - 48)) acc) := by
    intro l
    induction l with
    | nil => intro acc _ _ _; rfl
    | cons c l ih =>
      intro acc ha hd hV
      have hc := hd c List.mem_cons_self
      have hm : ∀ (l : List UInt8) (a : Nat), a ≤ l.foldl (fun a c => 10 * a + (c.toNat - 48)) a := by
        intro l
        induction l with
        | nil => intro a; exact Nat.le_refl _
        | cons c l ih => intro a; exact Nat.le_trans (by omega) (ih (10 * a + (c.toNat - 48)))
      have h2 := hm l (10 * acc + (c.toNat - 48))
      have hV2 : l.foldl (fun a c => 10 * a + (c.toNat - 48)) (10 * acc + (c.toNat - 48)) < 18446744073709551616 := hV
      unfold Lib.parseUint10
      rw [if_pos hc, if_neg (by omega), if_neg (by omega), Nat.mul_comm acc 10]
      exact ih _ (by omega) (fun d hd' => hd d (List.mem_cons_of_mem _ hd')) hV2
  have h := key (Lib.decDigits u) 0 (by decide) (dec_dig u).1 (by rw [(dec_dig u).2.1]; exact hu)
  rw [(dec_dig u).2.1] at h
  exact h
theorem wrd_no {q : Pm} (hs : ∀ z ∈ q.s, 0 ≤ z ∧ z < 256) (ht : ∀ z ∈ q.t, 0 ≤ z ∧ z < 256) (i : Nat) (hi : i < 11) : ∀ c ∈ wrd q i, c ≠ 32 := by
  intro c hc
  unfold wrd txt at hc
  rcases List.mem_append.1 hc with h | h
  · exact (fname_no i hi c h).1
  rcases List.mem_cons.1 h with rfl | h
  · decide
  split at h
  · have := (dec_dig _).1 c h
    rintro rfl
    exact absurd this (by decide)
  split at h
  · exact hxB_no hs c h
  · exact hxB_no ht c h
theorem wds_mem {k : Int} {q : Pm} : ∀ (n i : Nat), ∀ x ∈ wds k q i n, ∃ j, i ≤ j ∧ j < i + n ∧ x = wrd q j
  | 0, i, x, h => by cases h
  | n + 1, i, x, h => by
    unfold wds at h
    rcases List.mem_append.1 h with h | h
    · split at h
      · exact ⟨i, Nat.le_refl _, by omega, List.mem_singleton.1 h⟩
      · cases h
    · obtain ⟨j, h1, h2, h3⟩ := wds_mem n (i + 1) x h
      exact ⟨j, by omega, by omega, h3⟩
theorem idx_one {a b : List UInt8} {c : UInt8} (h : ∀ x ∈ a, x ≠ c) : Lib.index (a ++ c :: b) [c] = (a.length : Int) := by
  refine Lib.index_first (by simp) (by simp [Lib.occAt]) (fun j hj => ?_)
  unfold Lib.occAt
  rw [List.drop_append_of_le_length (by omega), List.drop_eq_getElem_cons hj, List.cons_append]
  have := h a[j] (List.getElem_mem hj)
  have h3 : (c == a[j]) = false := by simpa using Ne.symm this
  simp only [List.isPrefixOf, h3, Bool.false_and]
theorem idx_no {a : List UInt8} {c : UInt8} (h : ∀ x ∈ a, x ≠ c) : Lib.index a [c] = -1 := by
  refine Lib.index_none (fun j hj => ?_)
  unfold Lib.occAt
  rcases Nat.lt_or_ge j a.length with h2 | h2
  · rw [List.drop_eq_getElem_cons h2]
    have := h a[j] (List.getElem_mem h2)
    have h3 : (c == a[j]) = false := by simpa using Ne.symm this
    simp only [List.isPrefixOf, h3, Bool.false_and]
  · rw [List.drop_of_length_le h2]; rfl
theorem split_w : ∀ (l : List (List UInt8)) (a : List UInt8), (∀ c ∈ a, c ≠ 32) → (∀ x ∈ l, ∀ c ∈ x, c ≠ 32) → Lib.count (a ++ l.flatMap (32 :: ·)) [32] = l.length ∧ Lib.splitK [32] 0 l.length (a ++ l.flatMap (32 :: ·)) = a :: l
  | [], a, ha, _ => by
    simp only [List.flatMap_nil, List.append_nil, List.length_nil]
    exact ⟨Lib.count_miss (idx_no ha), rfl⟩
  | b :: l, a, ha, hl => by
    have e : a ++ (b :: l).flatMap (32 :: ·) = a ++ 32 :: (b ++ l.flatMap (32 :: ·)) := by simp
    have hi : Lib.index (a ++ 32 :: (b ++ l.flatMap (32 :: ·))) [32] = (a.length : Int) := idx_one ha
    have hd : (a ++ 32 :: (b ++ l.flatMap (32 :: ·))).drop (a.length + 1) = b ++ l.flatMap (32 :: ·) := by
      rw [List.drop_append]; simp
    obtain ⟨h1, h2⟩ := split_w l b (hl b List.mem_cons_self) (fun x hx => hl x (List.mem_cons_of_mem _ hx))
    rw [e]
    constructor
    · rw [Lib.count_hit (by simp) hi]
      show 1 + Lib.count ((a ++ 32 :: (b ++ l.flatMap (32 :: ·))).drop (a.length + 1)) [32] = _
      rw [hd, h1, List.length_cons]; omega
    · rw [List.length_cons, Lib.splitK, hi]
      have hm : (((a.length : Nat) : Int) == -1) = false := by rw [beq_eq_false_iff_ne]; omega
      rw [hm]
      simp only [Bool.false_eq_true, if_false, Int.toNat_natCast, Nat.add_zero, List.take_left, List.length_cons, List.length_nil, Nat.zero_add]
      rw [hd, h2]
theorem split_B {s : ByteArray} {a : List UInt8} {l : List (List UInt8)} (hs : s.data.toList = a ++ l.flatMap (32 :: ·)) (ha : ∀ c ∈ a, c ≠ 32) (hl : ∀ x ∈ l, ∀ c ∈ x, c ≠ 32) : Lib.countB s ⟨#[32]⟩ = l.length ∧ (Lib.splitB ⟨#[32]⟩ 0 l.length s).map Value.string = (a :: l).map fun x => bstr x := by
  obtain ⟨h1, h2⟩ := split_w l a ha hl
  rw [← hs] at h1 h2
  refine ⟨h1, ?_⟩
  have h3 := Lib.splitB_data ⟨#[32]⟩ 0 l.length s
  rw [show (⟨#[32]⟩ : ByteArray).data.toList = [32] from rfl, h2] at h3
  rw [← h3, List.map_map]
  refine List.map_congr_left fun x _ => ?_
  rfl
theorem cut_w {a b : List UInt8} (h : ∀ x ∈ a, x ≠ 61) : Lib.cut (a ++ 61 :: b) [61] = (a, b, true) := by
  unfold Lib.cut
  rw [idx_one h, if_pos (by omega)]
  simp only [Int.toNat_natCast, List.take_left, List.length_cons, List.length_nil, Nat.zero_add]
  rw [List.drop_append]
  simp
/-- Parameters of which the first fields are known (leaf and xof stand beside). -/
def mixP (k : Int) (q : Pm) (i : Nat) : Pm := ⟨if 0 < i then q.d else kmost k, if 1 < i then q.key else 0, if 2 < i then q.fo else 1, if 3 < i then q.de else 1, 0, if 5 < i then q.off else 0, 0, if 7 < i then q.nd else 0, if 8 < i then q.inn else 0, if 9 < i then q.s else [], if 10 < i then q.t else []⟩
def mixL (q : Pm) (i : Nat) : Int := if 4 < i then q.leaf else 0
def mixX (q : Pm) (i : Nat) : Int := if 6 < i then q.xof else 0
theorem mix_zero (k : Int) (q : Pm) : mixP k q 0 = plainP (kmost k) 0 := rfl
theorem mix_skip {k : Int} {q : Pm} {i : Nat} (hi : i < 11) (h : prt k q i = false) : mixP k q (i + 1) = mixP k q i ∧ mixL q (i + 1) = mixL q i ∧ mixX q (i + 1) = mixX q i := by
  have : i = 0 ∨ i = 1 ∨ i = 2 ∨ i = 3 ∨ i = 4 ∨ i = 5 ∨ i = 6 ∨ i = 7 ∨ i = 8 ∨ i = 9 ∨ i = 10 := by omega
  rcases this with rfl | rfl | rfl | rfl | rfl | rfl | rfl | rfl | rfl | rfl | rfl <;> (simp [prt, fv, plainP] at h; simp [mixP, mixL, mixX, h])
/-- The next word that is printed. -/
theorem wdf_next {k : Int} {q : Pm} : ∀ (n i : Nat), i + n = 11 → ∀ {x : List UInt8} {l : List (List UInt8)}, wds k q i n = x :: l → ∃ j, i ≤ j ∧ j < 11 ∧ x = wrd q j ∧ l = wdf k q (j + 1) ∧ mixP k q j = mixP k q i ∧ mixL q j = mixL q i ∧ mixX q j = mixX q i
  | 0, i, hn, x, l, h => by cases h
  | n + 1, i, hn, x, l, h => by
    unfold wds at h
    cases hp : prt k q i with
    | true =>
      rw [hp] at h
      simp only [if_true, List.singleton_append, List.cons.injEq] at h
      exact ⟨i, Nat.le_refl _, by omega, h.1.symm, by rw [← h.2]; show _ = wds k q (i + 1) (11 - (i + 1)); rw [show 11 - (i + 1) = n by omega], rfl, rfl, rfl⟩
    | false =>
      rw [hp] at h
      simp only [Bool.false_eq_true, if_false, List.nil_append] at h
      obtain ⟨j, h1, h2, h3, h4, h5, h6, h7⟩ := wdf_next n (i + 1) (by omega) h
      obtain ⟨e1, e2, e3⟩ := mix_skip (by omega) hp
      exact ⟨j, by omega, h2, h3, h4, h5.trans e1, h6.trans e2, h7.trans e3⟩
theorem wdf_none {k : Int} {q : Pm} : ∀ (n i : Nat), i + n = 11 → wds k q i n = [] → mixP k q 11 = mixP k q i ∧ mixL q 11 = mixL q i ∧ mixX q 11 = mixX q i
  | 0, i, hn, h => by
    obtain rfl : i = 11 := by omega
    exact ⟨rfl, rfl, rfl⟩
  | n + 1, i, hn, h => by
    unfold wds at h
    cases hp : prt k q i with
    | true => rw [hp] at h; simp at h
    | false =>
      rw [hp] at h
      simp only [Bool.false_eq_true, if_false, List.nil_append] at h
      obtain ⟨h5, h6, h7⟩ := wdf_none n (i + 1) (by omega) h
      obtain ⟨e1, e2, e3⟩ := mix_skip (by omega) hp
      exact ⟨h5.trans e1, h6.trans e2, h7.trans e3⟩
theorem mix_all (k : Int) (q : Pm) : { mixP k q 11 with leaf := mixL q 11, xof := mixX q 11 } = q := rfl
end Go.Proofs.YtofcdffcaiajmaaDoor
namespace Go.Proofs.YtofcdffcaiajmaaDoor
open Go.RowKit Go.Shelf
set_option linter.unusedVariables false
attribute [local go_sem ↓] Go.wp_at_zero Go.wp_at_succ

theorem c_capped (v : Int) (h0 : 0 ≤ v) (h1 : v ≤ 255) (w : World) : Calls Tryd.prog 54 #[.int .u64 v] w fun e w' => e = .returned (.int .i64 v) ∧ w' = w := by
  have e1 : min v 2147483647 = v := by omega
  have e2 : v ≤ 2147483647 := by omega
  go_enter Tryd.func54, Tryd.ntmps54
  go_wp2
  go_ret
  exact ⟨by first | rfl | (rw [e1]) | (simp [e1]), rfl⟩
theorem c_PU (u : Nat) (hu : u < 18446744073709551616) (w : World) : Calls Tryd.prog 55 #[bstr (Lib.decDigits u), .int .i64 10, .int .i64 64] w fun e w' => e = .returned (.tuple #[.int .u64 (u : Int), .nilIface]) ∧ Below w.heap.size w w' := by
  have hl := dig_len20 hu
  have hp := (dec_dig u).2.2.1
  have H : Hid (∀ W, Calls Tryd.prog 63 #[bstr (Lib.decDigits u), .int .i64 10, .int .i64 64] W fun e w' => e = .returned (.tuple #[.int .u64 (u : Int), .nilIface]) ∧ Below W.heap.size W w') := fun W => by
    refine (Any.internal_strconv_ParseUint_10_b64 lays287 ⟨(Lib.decDigits u).toArray⟩ (by show (Lib.decDigits u).length ≠ 0; omega) (by show (Lib.decDigits u).length ≤ _; omega) W).mono ?_
    rintro e w' ⟨h1, h2⟩
    have e0 : (⟨(Lib.decDigits u).toArray⟩ : ByteArray).data.toList = Lib.decDigits u := rfl
    rw [e0, dec_parse u hu] at h1
    rw [h2]
    exact ⟨h1, Lib.bytesWorld_below _ _ _⟩
  generalize Lib.decDigits u = l at *
  go_enter Tryd.func55, Tryd.ntmps55
  go_wp2_with (go_at_call 63; refine (H.out _).mono ?_; rintro e w1 ⟨rfl, hb1⟩)
  go_ret2
  exact ⟨rfl, hb1⟩
set_option maxRecDepth 100000 in
set_option maxHeartbeats 2000000 in
theorem c_number (g : Nat) (a : Int) (u : Nat) (hu : u < 18446744073709551616) (w : World) : Calls Tryd.prog 43 #[.pointer (some ⟨g, 0, none⟩), .int .i64 a, bstr (Lib.decDigits u)] w fun e w' => e = .returned (.int .u64 (u : Int)) ∧ Below w.heap.size w w' := by
  have H := Lib.hid (fun W => c_PU u hu W)
  have hl := dig_len20 hu
  obtain ⟨hd, _, hp, _⟩ := dec_dig u
  have hz := dec_zero (u := u)
  generalize Lib.decDigits u = l at *
  have hem : l.isEmpty = false := by rw [List.isEmpty_eq_false_iff]; rintro rfl; simp at hp
  have hne : ¬ l = [] := by rintro rfl; simp at hp
  have HD : Hid (∀ i (h : i < (⟨l.toArray⟩ : ByteArray).size), 48 ≤ (⟨l.toArray⟩ : ByteArray)[i].toNat ∧ (⟨l.toArray⟩ : ByteArray)[i].toNat ≤ 57) := fun i h => hd _ (List.getElem_mem (l := l) h)
  have HZ : Hid (1 < l.length → ∀ h : 0 < (⟨l.toArray⟩ : ByteArray).size, (⟨l.toArray⟩ : ByteArray)[0].toNat ≠ 48) := fun h1 h e => by
    refine hz h1 ?_
    rw [List.getElem?_eq_getElem (show 0 < l.length by omega)]
    exact congrArg some (UInt8.toNat_inj.1 e)
  have hsz : (⟨l.toArray⟩ : ByteArray).size = l.length := rfl
  have hnl : (⟨l.toArray⟩ : ByteArray).toList.isEmpty = false := by rw [Lib.toList_data]; exact hem
  have hnl2 : ¬ (⟨l.toArray⟩ : ByteArray).toList = [] := by rw [Lib.toList_data]; exact hne
  rw [← hsz] at hp hl HZ
  have HW : Hid (∀ W, Calls Tryd.prog 55 #[.string ⟨l.toArray⟩, .int .i64 10, .int .i64 64] W fun e w' => e = .returned (.tuple #[.int .u64 (u : Int), .nilIface]) ∧ Below W.heap.size W w') := H
  clear hd hz hem hne hsz H
  show Calls _ _ #[.pointer (some ⟨g, 0, none⟩), .int .i64 a, .string ⟨l.toArray⟩] _ _
  generalize (⟨l.toArray⟩ : ByteArray) = s at *
  by_cases h1 : 1 < s.size
  all_goals
    first
      | (have b0 : ((((s[0]'hp).toNat : Nat) : Int) == 48) = false := by
          rw [beq_eq_false_iff_ne]; have := HZ.out h1 hp; omega
         have c1 : (1 : Int) < (s.size : Int) := by omega)
      | (have c1 : ¬ (1 : Int) < (s.size : Int) := by omega)
    clear HZ h1
    go_enter Tryd.func43, Tryd.ntmps43
    go_wp2_with fail
    go_loopw [27] (fun v wr => ∃ k : Nat, v = .int .i64 (k : Int) ∧ k ≤ s.size ∧ wr = w) (fun v _ => s.size - (intOf v).toNat)
    case atStart => exact ⟨0, rfl, Nat.zero_le _, rfl⟩
    case round =>
      obtain ⟨k, rfl, hk, rfl⟩ := hrel
      by_cases hlt : k < s.size
      · obtain ⟨d1, d2⟩ := HD.out k hlt
        have e1 : ¬ ((s[k].toNat : Nat) : Int) < 48 := by omega
        have e2 : ¬ (57 : Int) < ((s[k].toNat : Nat) : Int) := by omega
        clear HD
        go_wp2_with fail
        go_roundw
        case rel => exact ⟨k + 1, by go_num, hlt, trivial⟩
        case measure => simp [intOf]; omega
      · clear HD
        go_wp2_with (go_at_call 55; refine (HW.out _).mono ?_; rintro e w1 ⟨rfl, hb1⟩)
        go_ret
        exact ⟨rfl, hb1⟩
set_option maxRecDepth 100000 in
set_option maxHeartbeats 1000000 in
theorem c_pairs (g : Nat) (a : Int) (xs : List Int) (hx : ∀ z ∈ xs, 0 ≤ z ∧ z < 256) (hn : xs.length ≤ 1000) (w : World) : Calls Tryd.prog 53 #[.pointer (some ⟨g, 0, none⟩), .int .i64 a, bstr (hxB xs)] w fun e w' => ∃ A c, e = .returned (.slice A xs.length c) ∧ w'.ownsRow w.heap.size 5 1 (.slice A xs.length c) xs.length (u8s xs) ∧ Below w.heap.size w w' := by
  have HU := Lib.hid (fun W => c_UnHexI xs hx (by omega) W)
  have HH : Hid (∀ A c W, Reads W W.heap.size 1 A xs.length (u8s xs) → Calls Tryd.prog 24 #[.slice A xs.length c] W fun e w' => e = .returned (bstr (hxB xs)) ∧ Below W.heap.size W w') := fun A c W h => c_Hex A xs.length c xs W h (by omega) hx
  clear hx
  generalize hxB xs = d at *
  go_enter Tryd.func53, Tryd.ntmps53
  go_wp2_with fail
  refine (HU.out _).mono ?_
  rintro e w1 ⟨A, c, rfl, ho1, hb1⟩
  have HO1 := Lib.hid ho1
  have HB1 := Lib.hid hb1
  clear ho1 hb1
  go_wp2_with (go_at_call 24; refine (HH.out A c _ (Reads.of_own HO1.out)).mono ?_; rintro e w2 ⟨rfl, hb2⟩; have HO2 := Lib.hid (own_below HO1.out hb2); have HB2 := Lib.hid (below_step HB1.out hb2); clear hb2)
  go_ret
  exact ⟨A, c, rfl, HO2.out, HB2.out⟩
theorem idxB (l : List UInt8) (c : UInt8) : Lib.indexByte l c = Lib.index l [c] := by
  induction l with
  | nil => rfl
  | cons b l ih =>
    unfold Lib.indexByte Lib.index
    rw [ih]
    by_cases h : b = c
    · subst h; simp [List.isPrefixOf]
    · have h1 : (b == c) = false := by simpa using h
      have h2 : (c == b) = false := by simpa using Ne.symm h
      simp only [List.isPrefixOf, h1, h2, Bool.false_and, Bool.false_eq_true, if_false]
theorem c_sIdx (t : ByteArray) (c : UInt8) (w : World) : Calls Tryd.prog 61 #[.string t, .string ⟨#[c]⟩] w fun e w' => e = .returned (.int .i64 (Lib.index t.data.toList [c])) ∧ w' = w := by
  rw [← idxB]
  exact Any.stringslite_Index_one { lays146 with } t c w
theorem c_Idx (t : ByteArray) (c : UInt8) (w : World) : Calls Tryd.prog 51 #[.string t, .string ⟨#[c]⟩] w fun e w' => e = .returned (.int .i64 (Lib.index t.data.toList [c])) ∧ w' = w := by
  rw [← idxB]
  exact Any.strings_Index_one { lays146 with } t c w
theorem c_Cnt (t : ByteArray) (c : UInt8) (w : World) : Calls Tryd.prog 50 #[.string t, .string ⟨#[c]⟩] w fun e w' => e = .returned (.int .i64 (Lib.countB t ⟨#[c]⟩)) ∧ w' = w := by
  refine (Any.strings_Count_one { lays146 with } t c w).mono fun e w' ⟨he, hw⟩ => ⟨?_, hw⟩
  rw [he]
  show _ = Ending.returned (Value.int .i64 ((Lib.count t.data.toList [c] : Nat) : Int))
  rw [Lib.count_one]
  rfl
theorem ba_eqQ {B : ByteArray} {l : List UInt8} (h : B.data.toList = l) : B = ⟨l.toArray⟩ := by subst h; simp
set_option maxRecDepth 100000 in
theorem c_Cut61 (a b : List UInt8) (ha : ∀ x ∈ a, x ≠ 61) (hn : a.length + b.length ≤ 1000000) (w : World) : Calls Tryd.prog 40 #[bstr (a ++ 61 :: b), .string ⟨#[61]⟩] w fun e w' => e = .returned (.tuple #[bstr a, bstr b, .bool true]) ∧ Below w.heap.size w w' := by
  have HI : Hid (∀ W, Calls Tryd.prog 61 #[.string ⟨(a ++ 61 :: b).toArray⟩, .string ⟨#[61]⟩] W fun e w' => e = .returned (.int .i64 (a.length : Int)) ∧ W = w') := fun W => (c_sIdx ⟨(a ++ 61 :: b).toArray⟩ 61 W).mono fun _ _ ⟨h1, h2⟩ => ⟨by rw [h1]; show Ending.returned (.int .i64 (Lib.index (a ++ 61 :: b) [61])) = _; rw [idx_one ha], h2.symm⟩
  have hsz : (⟨(a ++ 61 :: b).toArray⟩ : ByteArray).size = a.length + b.length + 1 := by show (a ++ 61 :: b).length = _; simp; omega
  have HS1 : Hid ((⟨(a ++ 61 :: b).toArray⟩ : ByteArray).extract 0 a.length = ⟨a.toArray⟩) := ba_eqQ (by
    rw [Lib.extract_data]
    show ((a ++ 61 :: b).drop 0).take (a.length - 0) = a
    simp)
  have HS2 : Hid ((⟨(a ++ 61 :: b).toArray⟩ : ByteArray).extract (a.length + 1) (⟨(a ++ 61 :: b).toArray⟩ : ByteArray).size = ⟨b.toArray⟩) := ba_eqQ (by
    rw [Lib.extract_data, hsz]
    show ((a ++ 61 :: b).drop (a.length + 1)).take (a.length + b.length + 1 - (a.length + 1)) = b
    rw [show (a ++ 61 :: b).drop (a.length + 1) = b by rw [List.drop_append]; simp]
    exact List.take_of_length_le (by omega))
  show Calls _ _ #[.string ⟨(a ++ 61 :: b).toArray⟩, .string ⟨#[61]⟩] _ _
  have g0 : a.length < (⟨(a ++ 61 :: b).toArray⟩ : ByteArray).size := by omega
  have g3 : (⟨(a ++ 61 :: b).toArray⟩ : ByteArray).size ≤ 1000001 := by omega
  clear hsz ha hn
  generalize (⟨(a ++ 61 :: b).toArray⟩ : ByteArray) = t at *
  generalize a.length = k at *
  have g1 : (k : Int) + 1 ≤ (t.size : Int) := by omega
  have g2 : (k : Int) ≤ (t.size : Int) := by omega
  have HC : Hid (∀ W, Calls Tryd.prog 52 #[.string t, .string ⟨#[61]⟩] W fun e w' => e = .returned (.tuple #[bstr a, bstr b, .bool true]) ∧ Below W.heap.size W w') := fun W => by
    clear g0
    go_enter Tryd.func52, Tryd.ntmps52
    go_wp2_with (go_at_call 61; refine (HI.out _).mono ?_; rintro e w' ⟨rfl, rfl⟩)
    go_quiet (fail)
    go_wp2_with fail
    go_ret3
    exact ⟨by show Ending.returned (.tuple #[.string (t.extract 0 k), .string (t.extract (k + 1) t.size), .bool true]) = _; rw [HS1.out, HS2.out], below_drewN (Below.refl _ _) _⟩
  go_enter Tryd.func40, Tryd.ntmps40
  go_wp2_with (go_at_call 52; refine (HC.out _).mono ?_; rintro e w1 ⟨rfl, hb⟩)
  go_ret3
  exact ⟨rfl, hb⟩
set_option maxRecDepth 100000 in
set_option maxHeartbeats 1000000 in
theorem c_Split32 (a : List UInt8) (l : List (List UInt8)) (ha : ∀ c ∈ a, c ≠ 32) (hl : ∀ x ∈ l, ∀ c ∈ x, c ≠ 32) (hn : (a ++ l.flatMap (32 :: ·)).length ≤ 1000000) (w : World) : Calls Tryd.prog 31 #[bstr (a ++ l.flatMap (32 :: ·)), .string ⟨#[32]⟩] w fun e w' => e = .returned (.slice (some ⟨w.heap.size, 0, none⟩) (l.length + 1) (l.length + 1)) ∧ Blk w' w.heap.size 9 ((a :: l).map fun x => bstr x).toArray ∧ Below w.heap.size w w' := by
  obtain ⟨e1, e2⟩ := split_B (s := ⟨(a ++ l.flatMap (32 :: ·)).toArray⟩) rfl ha hl
  have hsz : (⟨(a ++ l.flatMap (32 :: ·)).toArray⟩ : ByteArray).size = (a ++ l.flatMap (32 :: ·)).length := rfl
  have hcl : l.length ≤ (a ++ l.flatMap (32 :: ·)).length := by
    rw [List.length_append]
    have : ∀ l : List (List UInt8), l.length ≤ (l.flatMap (32 :: ·)).length := by
      intro l
      induction l with
      | nil => exact Nat.le_refl _
      | cons x l ih => simp only [List.flatMap_cons, List.length_append, List.length_cons]; omega
    have := this l
    omega
  have hlen : ((a :: l).map fun x => bstr x).length = l.length + 1 := by simp
  rw [← e2, List.length_map] at hlen
  have c := Any.strings_genSplit_core (P := Tryd.prog) { lays146 with } (by kernel_rfl) ⟨(a ++ l.flatMap (32 :: ·)).toArray⟩ ⟨#[32]⟩ 0 (-1) (l.length + 1) w (by omega) (by decide) (Nat.zero_le _)
    (fun x cs hx => c_Idx x 32 _) (c_Cnt _ 32 w) (by decide) (by decide) (by rw [if_pos (by decide), e1]; omega)
  rw [Nat.add_sub_cancel, hlen] at c
  have e3 : Lib.cellsOf (Lib.splitB ⟨#[32]⟩ 0 l.length ⟨(a ++ l.flatMap (32 :: ·)).toArray⟩) (l.length + 1) = ((a :: l).map fun x => bstr x).toArray := by
    rw [← e2, ← hlen]; exact Lib.cellsOf_full _
  rw [e3] at c
  have HC := Lib.hid c
  clear c e1 e2 hsz hlen e3
  generalize ((a :: l).map fun x => bstr x).toArray = cs at *
  generalize (a ++ l.flatMap (32 :: ·)) = s at *
  go_enter Tryd.func31, Tryd.ntmps31
  go_wp2_with (go_at_call 39; refine HC.out.mono ?_; rintro e w' ⟨rfl, hw⟩)
  go_ret
  exact ⟨rfl, Blk.new _ _ _, (Below.refl w.heap.size w).alloc (Nat.le_refl _) _⟩
end Go.Proofs.YtofcdffcaiajmaaDoor
namespace Go.Proofs.YtofcdffcaiajmaaDoor
open Go.RowKit Go.Shelf
set_option linter.unusedVariables false
attribute [local go_sem ↓] Go.wp_at_zero Go.wp_at_succ

theorem str_info : (Tryd.prog.info? 9).map (fun i => (i.zero, i.size, i.bytes)) = some (some (.string ByteArray.empty), 1, 16) := by kernel_rfl
/-- The first names. -/
def nms (n : Nat) : List Value := (List.range n).map fun i => bstr (fname i)
theorem nms_len (n : Nat) : (nms n).length = n := by simp [nms]
theorem nms_succ (n : Nat) : nms (n + 1) = nms n ++ [bstr (fname n)] := by simp [nms, List.range_succ]
theorem nms_get {n i : Nat} (h : i < n) : (nms n)[i]? = some (bstr (fname i)) := by simp [nms, h]
theorem own_baseQ {w : World} {base base' n size : Nat} {e : TypeId} {v : Value} {xs : List Value} (h : w.ownsRow base e size v n xs) (hb : base' ≤ base) : w.ownsRow base' e size v n xs := by
  refine ⟨h.1, ?_⟩
  rcases h.2 with h2 | ⟨g, cap, cur, h3, hge, h4⟩
  · exact .inl h2
  · exact .inr ⟨g, cap, cur, h3, Nat.le_trans hb hge, h4⟩
theorem own_neQ {w : World} {base n size g : Nat} {e : TypeId} {v : Value} {xs : List Value} (h : w.ownsRow base e size v n xs) (hg : g < base) : some g ≠ v.ownBlock := by
  rcases h.2 with ⟨rfl, _⟩ | ⟨g', cap, cur, rfl, hge, _⟩
  · simp [Value.ownBlock]
  · intro e
    have : g = g' := by simpa [Value.ownBlock] using e
    omega
theorem reads_str1 (w : World) (x : ByteArray) : Reads (w.alloc (.cells #[.string x] 9)) (w.alloc (.cells #[.string x] 9)).heap.size 1 (some ⟨w.heap.size, 0, none⟩) 1 [.string x] :=
  Reads.of_own (World.ownsRow_lit (e := 9) (size := 1) (base := 0) w #[.string x] 1 (Nat.zero_le _) (by decide) rfl)
theorem reads_str2 (w : World) (x y : ByteArray) : Reads (w.alloc (.cells #[.string x, .string y] 9)) (w.alloc (.cells #[.string x, .string y] 9)).heap.size 1 (some ⟨w.heap.size, 0, none⟩) 2 [.string x, .string y] :=
  Reads.of_own (World.ownsRow_lit (e := 9) (size := 1) (base := 0) w #[.string x, .string y] 2 (Nat.zero_le _) (by decide) rfl)
theorem built_str1 (x : ByteArray) : Tryd.prog.builtSlice 9 1 [(0, .string x)] = some #[.string x] := by kernel_rfl
theorem built_str2 (x y : ByteArray) : Tryd.prog.builtSlice 9 2 [(0, .string x), (1, .string y)] = some #[.string x, .string y] := by kernel_rfl
set_option maxRecDepth 100000 in
set_option maxHeartbeats 2000000 in
theorem c_names (k : Int) (hk : k = 1 ∨ k = 2) (w : World) : Calls Tryd.prog 41 #[.int .i64 k] w fun e w' => ∃ A c, e = .returned (.slice A 11 c) ∧ w'.ownsRow w.heap.size 9 1 (.slice A 11 c) 11 (nms 11) ∧ Below w.heap.size w w' := by
  obtain ⟨i0, hi0, hz0, hz1, hz2⟩ := info_parts str_info
  have HR := Lib.hid (fun W => c_rows k hk W)
  have HKK := Lib.hid hk
  clear hk
  go_enter Tryd.func41, Tryd.ntmps41
  go_wp2_with fail
  refine (HR.out _).mono ?_
  rintro e w1 ⟨rfl, hR, hb1⟩
  have HRW := Lib.hid hR
  have HB1 := Lib.hid hb1
  have hl1 := hR.lt
  clear hR hb1 HR
  go_wp2_with fail
  go_loopw [3, 9] (fun vs vi wr => ∃ (i : Nat) (A : Option Addr) (c : Nat), i ≤ 9 ∧ vi = .int .i64 i ∧ vs = .slice A i c ∧ Hid (wr.ownsRow (w.heap.size + 1) 9 1 (.slice A i c) i (nms i)) ∧ Hid (Blk wr w.heap.size 50 (rowsArr k)) ∧ Hid (Below w.heap.size w wr)) (fun _ vi _ => 9 - (intOf vi).toNat)
  case atStart => exact ⟨0, none, 0, by omega, rfl, rfl, World.ownsRow_nil _ _ _ _, HRW, HB1⟩
  case round =>
    obtain ⟨i, A, c, hi, rfl, rfl, HO, HRr, HB⟩ := hrel
    by_cases hlt : i < 9
    · obtain ⟨r0, r1, r2, r3, r4⟩ := row_at k HKK.out i hlt
      have c0 := (HRr.out.cell _).trans r0
      have c1 := (HRr.out.cell _).trans r1
      have c2 := (HRr.out.cell _).trans r2
      have c3 := (HRr.out.cell _).trans r3
      have c4 := (HRr.out.cell _).trans r4
      rw [rname_f i hlt] at c3
      have HRC := Lib.hid (Blk.new wr 50 #[.int .i64 ((i : Int) + 1), .int .i64 (fatN k i : Nat), .int .i64 (fszN k i : Nat), .string ⟨(fname i).toArray⟩, .int .i64 (rwhy ((i : Int) + 1))])
      have HOA : Hid (((wr.alloc (.cells #[.int .i64 ((i : Int) + 1), .int .i64 (fatN k i : Nat), .int .i64 (fszN k i : Nat), .string ⟨(fname i).toArray⟩, .int .i64 (rwhy ((i : Int) + 1))] 50)).alloc (.cells #[.string ⟨(fname i).toArray⟩] 9)).ownsRow (w.heap.size + 1) 9 1 (.slice A i c) i (nms i)) := (HO.out.alloc _).alloc _
      have HRA := Lib.hid (reads_str1 (wr.alloc (.cells #[.int .i64 ((i : Int) + 1), .int .i64 (fatN k i : Nat), .int .i64 (fszN k i : Nat), .string ⟨(fname i).toArray⟩, .int .i64 (rwhy ((i : Int) + 1))] 50)) ⟨(fname i).toArray⟩)
      have HBA : Hid (Below w.heap.size w ((wr.alloc (.cells #[.int .i64 ((i : Int) + 1), .int .i64 (fatN k i : Nat), .int .i64 (fszN k i : Nat), .string ⟨(fname i).toArray⟩, .int .i64 (rwhy ((i : Int) + 1))] 50)).alloc (.cells #[.string ⟨(fname i).toArray⟩] 9))) := (HB.out.alloc HB.out.size _).alloc (by have := HB.out.size; simp; omega) _
      have HRX : Hid (Blk ((wr.alloc (.cells #[.int .i64 ((i : Int) + 1), .int .i64 (fatN k i : Nat), .int .i64 (fszN k i : Nat), .string ⟨(fname i).toArray⟩, .int .i64 (rwhy ((i : Int) + 1))] 50)).alloc (.cells #[.string ⟨(fname i).toArray⟩] 9)) w.heap.size 50 (rowsArr k)) := (HRr.out.alloc _).alloc _
      have HN : Hid (nms (i + 1) = nms i ++ [.string ⟨(fname i).toArray⟩]) := nms_succ i
      clear r0 r1 r2 r3 r4
      generalize hx : (⟨(fname i).toArray⟩ : ByteArray) = x at *
      clear hx
      have hz4 : (wr.alloc (.cells #[.int .i64 ((i : Int) + 1), .int .i64 (fatN k i : Nat), .int .i64 (fszN k i : Nat), .string x, .int .i64 (rwhy ((i : Int) + 1))] 50)).heap.size = wr.heap.size + 1 := by simp
      have hz5 : w.heap.size + 1 ≤ ((wr.alloc (.cells #[.int .i64 ((i : Int) + 1), .int .i64 (fatN k i : Nat), .int .i64 (fszN k i : Nat), .string x, .int .i64 (rwhy ((i : Int) + 1))] 50)).alloc (.cells #[.string x] 9)).heap.size := by have := HB.out.size; simp; omega
      go_wp2_with (first
        | (refine wpList_buildSliceTo rfl 69 9 1 _ rfl (wr.heap.size + 1) hz4 (some 16) rfl Tryd.underlying69 #[.string x] (by exact built_str1 _) ?_)
        | (at_builtin; refine wpList_append_any _ rfl (.tmp 13) (.tmp 16) 69 rfl (w.heap.size + 1) 9 i0 _ 1 16 Tryd.underlying69 hi0 hz0 hz1 hz2 rfl (by omega) (.slice A i c) i (nms i) rfl HOA.out _ (some ⟨wr.heap.size + 1, 0, none⟩) 1 1 [.string x] rfl (by have h := HRA.out; rw [hz4] at h; exact h) (by simp [Value.oneCell']) (by simp only [maxLen]; omega) (by omega) hz5 ?_; intro v2 w2 hown2 hg2 _; rw [← HN.out] at hown2; obtain ⟨A2, c2, rfl⟩ := own_slice hown2; have HO2 := Lib.hid hown2; have HRR := Lib.hid (HRX.out.grown hg2 (own_neQ HOA.out (Nat.lt_succ_self _))); have HB2 := Lib.hid (HBA.out.grown hg2 (by omega) (fun g e => Nat.le_of_lt (Nat.lt_of_not_le fun h => own_neQ HOA.out (Nat.lt_succ_of_le h) e.symm))); clear hown2 hg2))
      go_wp2_with fail
      go_roundw
      case rel => exact ⟨i + 1, A2, c2, by omega, by go_num, rfl, HO2, HRR, HB2⟩
      case measure => simp [intOf]; omega
    · obtain rfl : i = 9 := by omega
      have HOA : Hid ((wr.alloc (.cells #[.string ⟨#[115, 97, 108, 116]⟩, .string ⟨#[112, 101, 114, 115, 111, 110, 97, 108]⟩] 9)).ownsRow (w.heap.size + 1) 9 1 (.slice A 9 c) 9 (nms 9)) := HO.out.alloc _
      have HRA := Lib.hid (reads_str2 wr ⟨#[115, 97, 108, 116]⟩ ⟨#[112, 101, 114, 115, 111, 110, 97, 108]⟩)
      have HBA : Hid (Below w.heap.size w (wr.alloc (.cells #[.string ⟨#[115, 97, 108, 116]⟩, .string ⟨#[112, 101, 114, 115, 111, 110, 97, 108]⟩] 9))) := HB.out.alloc HB.out.size _
      have HN : Hid (nms 11 = nms 9 ++ [.string ⟨#[115, 97, 108, 116]⟩, .string ⟨#[112, 101, 114, 115, 111, 110, 97, 108]⟩]) := rfl
      have hz5 : w.heap.size + 1 ≤ (wr.alloc (.cells #[.string ⟨#[115, 97, 108, 116]⟩, .string ⟨#[112, 101, 114, 115, 111, 110, 97, 108]⟩] 9)).heap.size := by have := HB.out.size; simp; omega
      go_wp2_with (first
        | (refine wpList_buildSliceTo rfl 69 9 2 _ rfl wr.heap.size rfl (some 20) rfl Tryd.underlying69 #[.string ⟨#[115, 97, 108, 116]⟩, .string ⟨#[112, 101, 114, 115, 111, 110, 97, 108]⟩] (by exact built_str2 _ _) ?_)
        | (at_builtin; refine wpList_append_any _ rfl (.tmp 19) (.tmp 20) 69 rfl (w.heap.size + 1) 9 i0 _ 1 16 Tryd.underlying69 hi0 hz0 hz1 hz2 rfl (by omega) (.slice A 9 c) 9 (nms 9) rfl HOA.out _ (some ⟨wr.heap.size, 0, none⟩) 2 2 [.string ⟨#[115, 97, 108, 116]⟩, .string ⟨#[112, 101, 114, 115, 111, 110, 97, 108]⟩] rfl HRA.out (by simp [Value.oneCell']) (by simp only [maxLen]; omega) (by omega) hz5 ?_; intro v2 w2 hown2 hg2 _; rw [← HN.out] at hown2; obtain ⟨A2, c2, rfl⟩ := own_slice hown2; have HO2 := Lib.hid hown2; have HB2 := Lib.hid (HBA.out.grown hg2 (by omega) (fun g e => Nat.le_of_lt (Nat.lt_of_not_le fun h => own_neQ HOA.out (Nat.lt_succ_of_le h) e.symm))); clear hown2 hg2))
      go_ret
      exact ⟨A2, c2, rfl, own_baseQ HO2.out (Nat.le_succ _), HB2.out⟩
end Go.Proofs.YtofcdffcaiajmaaDoor
namespace Go.Proofs.YtofcdffcaiajmaaDoor
open Go.RowKit Go.Shelf
set_option linter.unusedVariables false
attribute [local go_sem ↓] Go.wp_at_zero Go.wp_at_succ

/-- The cells of a reader. -/
abbrev rrC (t : ByteArray) (k : Int) (p : Pm) (sa : Option Addr) (sc : Nat) (ta : Option Addr) (tc : Nat) (c : Nat → Int) : Array Value := #[.string t, .int .i64 k, .int .i64 p.d, .int .i64 p.key, .int .i64 p.fo, .int .i64 p.de, .int .u32 p.leaf, .int .u64 p.off, .int .u32 p.xof, .int .i64 p.nd, .int .i64 p.inn, .slice sa p.s.length sc, .slice ta p.t.length tc, .int .i64 (c 0), .int .i64 (c 1), .int .i64 (c 2), .int .i64 (c 3), .int .i64 (c 4), .int .i64 (c 5), .int .i64 (c 6), .int .i64 (c 7), .int .i64 (c 8), .int .i64 (c 9), .int .i64 (c 10), .int .i64 (c 11)]
/-- What a reader holds. -/
def RSt (g : Nat) (t : ByteArray) (k : Int) (p : Pm) (W : World) : Prop := ∃ sa sc ta tc c, Blk W g 65 (rrC t k p sa sc ta tc c) ∧ W.ownsRow (g + 1) 5 1 (.slice sa p.s.length sc) p.s.length (u8s p.s) ∧ W.ownsRow (g + 1) 5 1 (.slice ta p.t.length tc) p.t.length (u8s p.t)
theorem RSt.lt {g : Nat} {t : ByteArray} {k : Int} {p : Pm} {W : World} (h : RSt g t k p W) : g < W.heap.size := by
  obtain ⟨_, _, _, _, _, hB, _⟩ := h
  exact hB.lt
theorem RSt.below {g : Nat} {t : ByteArray} {k : Int} {p : Pm} {W W' : World} (h : RSt g t k p W) (hb : Below W.heap.size W W') : RSt g t k p W' := by
  obtain ⟨sa, sc, ta, tc, c, hB, hs, ht⟩ := h
  exact ⟨sa, sc, ta, tc, c, hB.below hb hB.lt, own_below hs hb, own_below ht hb⟩
/-- What set answers. -/
def SetIs (g : Nat) (t : ByteArray) (k : Int) (p : Pm) (W : World) (e : Ending) (w' : World) : Prop := e = .returned (.tuple #[]) ∧ RSt g t k p w' ∧ W.grownBy w' (some g)
set_option maxRecDepth 100000 in
set_option maxHeartbeats 2000000 in
theorem c_set_0 (g : Nat) (t : ByteArray) (k : Int) (q : Pm) (a : Int) (h0 : 0 ≤ q.d) (h1 : q.d < 256) (W : World) (h : RSt g t k (mixP k q 0) W) :
    Calls Tryd.prog 42 #[.pointer (some ⟨g, 0, none⟩), .int .i64 1, .int .i64 a, bstr (txt q 0)] W (SetIs g t k (mixP k q 1) W) := by
  obtain ⟨sa, sc, ta, tc, c, hB, hs, ht⟩ := h
  have e1 : mixP k q 0 = ⟨kmost k, 0, 1, 1, 0, 0, 0, 0, 0, [], []⟩ := rfl
  have e2 : mixP k q 1 = ⟨q.d, 0, 1, 1, 0, 0, 0, 0, 0, [], []⟩ := rfl
  rw [e1] at hB hs ht
  rw [e2]
  clear e1 e2
  have hB1 : Blk (W.setCell ⟨g, 14, none⟩ (.int .i64 a)) g 65 (rrC t k ⟨kmost k, 0, 1, 1, 0, 0, 0, 0, 0, [], []⟩ sa sc ta tc (fun j => if j = 1 then a else c j)) := hB.set_ 14 (.int .i64 a)
  have hg1 := grown_setCell W g 14 (.int .i64 a)
  obtain ⟨u, hu⟩ : ∃ u : Nat, q.d = (u : Int) := ⟨q.d.toNat, by omega⟩
  have ht0 : txt q 0 = Lib.decDigits u := by show Lib.decDigits q.d.toNat = _; rw [hu, Int.toNat_natCast]
  rw [ht0]
  rw [hu] at h0 h1
  have HN := Lib.hid (fun W => c_number g a u (by omega) W)
  have HC := Lib.hid (fun W => (c_capped (u : Int) h0 (by omega) W).mono fun _ _ ⟨h1, h2⟩ => (⟨h1, h2.symm⟩ : _ ∧ W = _))
  clear ht0
  generalize Lib.decDigits u = d at *
  have c1 : W.cell? ⟨g, 14, none⟩ = some (.int .i64 (c 1)) := hB.cell 14
  have f1 := hB.frozen 14
  have HB1 := Lib.hid hB1
  have HG1 := Lib.hid hg1
  have HS1 := Lib.hid (own_far hs hg1 (Nat.lt_succ_self g))
  have HT1 := Lib.hid (own_far ht hg1 (Nat.lt_succ_self g))
  have hgl := hB1.lt
  clear hB hs ht hB1 hg1
  go_enter Tryd.func42, Tryd.ntmps42
  go_wp2_with (first | (go_at_call 43; refine (HN.out _).mono ?_; rintro e w2 ⟨rfl, hb2⟩; have HB2 := Lib.hid (HB1.out.below hb2 HB1.out.lt); have HG2 := Lib.hid (only_trans HG1.out (only_of_below hb2 (some g))); have HS2 := Lib.hid (own_below HS1.out hb2); have HT2 := Lib.hid (own_below HT1.out hb2); have c2 := HB2.out.cell 2; have f2 := HB2.out.frozen 2; clear hb2) | (go_at_call 54; refine (HC.out _).mono ?_; rintro e w3 ⟨rfl, rfl⟩))
  go_end0
  have hB3 := HB2.out.set_ 2 (.int .i64 (u : Int))
  have hg3 := grown_setCell w2 g 2 (.int .i64 (u : Int))
  rw [hu]
  exact ⟨rfl, ⟨sa, sc, ta, tc, (fun j => if j = 1 then a else c j), hB3, own_far HS2.out hg3 (Nat.lt_succ_self g), own_far HT2.out hg3 (Nat.lt_succ_self g)⟩, only_trans HG2.out hg3⟩
set_option maxRecDepth 100000 in
set_option maxHeartbeats 2000000 in
theorem c_set_1 (g : Nat) (t : ByteArray) (k : Int) (q : Pm) (a : Int) (h0 : 0 ≤ q.key) (h1 : q.key < 256) (W : World) (h : RSt g t k (mixP k q 1) W) :
    Calls Tryd.prog 42 #[.pointer (some ⟨g, 0, none⟩), .int .i64 2, .int .i64 a, bstr (txt q 1)] W (SetIs g t k (mixP k q 2) W) := by
  obtain ⟨sa, sc, ta, tc, c, hB, hs, ht⟩ := h
  have e1 : mixP k q 1 = ⟨q.d, 0, 1, 1, 0, 0, 0, 0, 0, [], []⟩ := rfl
  have e2 : mixP k q 2 = ⟨q.d, q.key, 1, 1, 0, 0, 0, 0, 0, [], []⟩ := rfl
  rw [e1] at hB hs ht
  rw [e2]
  clear e1 e2
  have hB1 : Blk (W.setCell ⟨g, 15, none⟩ (.int .i64 a)) g 65 (rrC t k ⟨q.d, 0, 1, 1, 0, 0, 0, 0, 0, [], []⟩ sa sc ta tc (fun j => if j = 2 then a else c j)) := hB.set_ 15 (.int .i64 a)
  have hg1 := grown_setCell W g 15 (.int .i64 a)
  obtain ⟨u, hu⟩ : ∃ u : Nat, q.key = (u : Int) := ⟨q.key.toNat, by omega⟩
  have ht0 : txt q 1 = Lib.decDigits u := by show Lib.decDigits q.key.toNat = _; rw [hu, Int.toNat_natCast]
  rw [ht0]
  rw [hu] at h0 h1
  have HN := Lib.hid (fun W => c_number g a u (by omega) W)
  have HC := Lib.hid (fun W => (c_capped (u : Int) h0 (by omega) W).mono fun _ _ ⟨h1, h2⟩ => (⟨h1, h2.symm⟩ : _ ∧ W = _))
  clear ht0
  generalize Lib.decDigits u = d at *
  have c1 : W.cell? ⟨g, 15, none⟩ = some (.int .i64 (c 2)) := hB.cell 15
  have f1 := hB.frozen 15
  have HB1 := Lib.hid hB1
  have HG1 := Lib.hid hg1
  have HS1 := Lib.hid (own_far hs hg1 (Nat.lt_succ_self g))
  have HT1 := Lib.hid (own_far ht hg1 (Nat.lt_succ_self g))
  have hgl := hB1.lt
  clear hB hs ht hB1 hg1
  go_enter Tryd.func42, Tryd.ntmps42
  go_wp2_with (first | (go_at_call 43; refine (HN.out _).mono ?_; rintro e w2 ⟨rfl, hb2⟩; have HB2 := Lib.hid (HB1.out.below hb2 HB1.out.lt); have HG2 := Lib.hid (only_trans HG1.out (only_of_below hb2 (some g))); have HS2 := Lib.hid (own_below HS1.out hb2); have HT2 := Lib.hid (own_below HT1.out hb2); have c2 := HB2.out.cell 3; have f2 := HB2.out.frozen 3; clear hb2) | (go_at_call 54; refine (HC.out _).mono ?_; rintro e w3 ⟨rfl, rfl⟩))
  go_end0
  have hB3 := HB2.out.set_ 3 (.int .i64 (u : Int))
  have hg3 := grown_setCell w2 g 3 (.int .i64 (u : Int))
  rw [hu]
  exact ⟨rfl, ⟨sa, sc, ta, tc, (fun j => if j = 2 then a else c j), hB3, own_far HS2.out hg3 (Nat.lt_succ_self g), own_far HT2.out hg3 (Nat.lt_succ_self g)⟩, only_trans HG2.out hg3⟩
set_option maxRecDepth 100000 in
set_option maxHeartbeats 2000000 in
theorem c_set_2 (g : Nat) (t : ByteArray) (k : Int) (q : Pm) (a : Int) (h0 : 0 ≤ q.fo) (h1 : q.fo < 256) (W : World) (h : RSt g t k (mixP k q 2) W) :
    Calls Tryd.prog 42 #[.pointer (some ⟨g, 0, none⟩), .int .i64 3, .int .i64 a, bstr (txt q 2)] W (SetIs g t k (mixP k q 3) W) := by
  obtain ⟨sa, sc, ta, tc, c, hB, hs, ht⟩ := h
  have e1 : mixP k q 2 = ⟨q.d, q.key, 1, 1, 0, 0, 0, 0, 0, [], []⟩ := rfl
  have e2 : mixP k q 3 = ⟨q.d, q.key, q.fo, 1, 0, 0, 0, 0, 0, [], []⟩ := rfl
  rw [e1] at hB hs ht
  rw [e2]
  clear e1 e2
  have hB1 : Blk (W.setCell ⟨g, 16, none⟩ (.int .i64 a)) g 65 (rrC t k ⟨q.d, q.key, 1, 1, 0, 0, 0, 0, 0, [], []⟩ sa sc ta tc (fun j => if j = 3 then a else c j)) := hB.set_ 16 (.int .i64 a)
  have hg1 := grown_setCell W g 16 (.int .i64 a)
  obtain ⟨u, hu⟩ : ∃ u : Nat, q.fo = (u : Int) := ⟨q.fo.toNat, by omega⟩
  have ht0 : txt q 2 = Lib.decDigits u := by show Lib.decDigits q.fo.toNat = _; rw [hu, Int.toNat_natCast]
  rw [ht0]
  rw [hu] at h0 h1
  have HN := Lib.hid (fun W => c_number g a u (by omega) W)
  have HC := Lib.hid (fun W => (c_capped (u : Int) h0 (by omega) W).mono fun _ _ ⟨h1, h2⟩ => (⟨h1, h2.symm⟩ : _ ∧ W = _))
  clear ht0
  generalize Lib.decDigits u = d at *
  have c1 : W.cell? ⟨g, 16, none⟩ = some (.int .i64 (c 3)) := hB.cell 16
  have f1 := hB.frozen 16
  have HB1 := Lib.hid hB1
  have HG1 := Lib.hid hg1
  have HS1 := Lib.hid (own_far hs hg1 (Nat.lt_succ_self g))
  have HT1 := Lib.hid (own_far ht hg1 (Nat.lt_succ_self g))
  have hgl := hB1.lt
  clear hB hs ht hB1 hg1
  go_enter Tryd.func42, Tryd.ntmps42
  go_wp2_with (first | (go_at_call 43; refine (HN.out _).mono ?_; rintro e w2 ⟨rfl, hb2⟩; have HB2 := Lib.hid (HB1.out.below hb2 HB1.out.lt); have HG2 := Lib.hid (only_trans HG1.out (only_of_below hb2 (some g))); have HS2 := Lib.hid (own_below HS1.out hb2); have HT2 := Lib.hid (own_below HT1.out hb2); have c2 := HB2.out.cell 4; have f2 := HB2.out.frozen 4; clear hb2) | (go_at_call 54; refine (HC.out _).mono ?_; rintro e w3 ⟨rfl, rfl⟩))
  go_end0
  have hB3 := HB2.out.set_ 4 (.int .i64 (u : Int))
  have hg3 := grown_setCell w2 g 4 (.int .i64 (u : Int))
  rw [hu]
  exact ⟨rfl, ⟨sa, sc, ta, tc, (fun j => if j = 3 then a else c j), hB3, own_far HS2.out hg3 (Nat.lt_succ_self g), own_far HT2.out hg3 (Nat.lt_succ_self g)⟩, only_trans HG2.out hg3⟩
set_option maxRecDepth 100000 in
set_option maxHeartbeats 2000000 in
theorem c_set_3 (g : Nat) (t : ByteArray) (k : Int) (q : Pm) (a : Int) (h0 : 0 ≤ q.de) (h1 : q.de < 256) (W : World) (h : RSt g t k (mixP k q 3) W) :
    Calls Tryd.prog 42 #[.pointer (some ⟨g, 0, none⟩), .int .i64 4, .int .i64 a, bstr (txt q 3)] W (SetIs g t k (mixP k q 4) W) := by
  obtain ⟨sa, sc, ta, tc, c, hB, hs, ht⟩ := h
  have e1 : mixP k q 3 = ⟨q.d, q.key, q.fo, 1, 0, 0, 0, 0, 0, [], []⟩ := rfl
  have e2 : mixP k q 4 = ⟨q.d, q.key, q.fo, q.de, 0, 0, 0, 0, 0, [], []⟩ := rfl
  rw [e1] at hB hs ht
  rw [e2]
  clear e1 e2
  have hB1 : Blk (W.setCell ⟨g, 17, none⟩ (.int .i64 a)) g 65 (rrC t k ⟨q.d, q.key, q.fo, 1, 0, 0, 0, 0, 0, [], []⟩ sa sc ta tc (fun j => if j = 4 then a else c j)) := hB.set_ 17 (.int .i64 a)
  have hg1 := grown_setCell W g 17 (.int .i64 a)
  obtain ⟨u, hu⟩ : ∃ u : Nat, q.de = (u : Int) := ⟨q.de.toNat, by omega⟩
  have ht0 : txt q 3 = Lib.decDigits u := by show Lib.decDigits q.de.toNat = _; rw [hu, Int.toNat_natCast]
  rw [ht0]
  rw [hu] at h0 h1
  have HN := Lib.hid (fun W => c_number g a u (by omega) W)
  have HC := Lib.hid (fun W => (c_capped (u : Int) h0 (by omega) W).mono fun _ _ ⟨h1, h2⟩ => (⟨h1, h2.symm⟩ : _ ∧ W = _))
  clear ht0
  generalize Lib.decDigits u = d at *
  have c1 : W.cell? ⟨g, 17, none⟩ = some (.int .i64 (c 4)) := hB.cell 17
  have f1 := hB.frozen 17
  have HB1 := Lib.hid hB1
  have HG1 := Lib.hid hg1
  have HS1 := Lib.hid (own_far hs hg1 (Nat.lt_succ_self g))
  have HT1 := Lib.hid (own_far ht hg1 (Nat.lt_succ_self g))
  have hgl := hB1.lt
  clear hB hs ht hB1 hg1
  go_enter Tryd.func42, Tryd.ntmps42
  go_wp2_with (first | (go_at_call 43; refine (HN.out _).mono ?_; rintro e w2 ⟨rfl, hb2⟩; have HB2 := Lib.hid (HB1.out.below hb2 HB1.out.lt); have HG2 := Lib.hid (only_trans HG1.out (only_of_below hb2 (some g))); have HS2 := Lib.hid (own_below HS1.out hb2); have HT2 := Lib.hid (own_below HT1.out hb2); have c2 := HB2.out.cell 5; have f2 := HB2.out.frozen 5; clear hb2) | (go_at_call 54; refine (HC.out _).mono ?_; rintro e w3 ⟨rfl, rfl⟩))
  go_end0
  have hB3 := HB2.out.set_ 5 (.int .i64 (u : Int))
  have hg3 := grown_setCell w2 g 5 (.int .i64 (u : Int))
  rw [hu]
  exact ⟨rfl, ⟨sa, sc, ta, tc, (fun j => if j = 4 then a else c j), hB3, own_far HS2.out hg3 (Nat.lt_succ_self g), own_far HT2.out hg3 (Nat.lt_succ_self g)⟩, only_trans HG2.out hg3⟩
set_option maxRecDepth 100000 in
set_option maxHeartbeats 2000000 in
theorem c_set_4 (g : Nat) (t : ByteArray) (k : Int) (q : Pm) (a : Int) (h0 : 0 ≤ q.leaf) (h1 : q.leaf < 18446744073709551616) (W : World) (h : RSt g t k (mixP k q 4) W) :
    Calls Tryd.prog 42 #[.pointer (some ⟨g, 0, none⟩), .int .i64 5, .int .i64 a, bstr (txt q 4)] W (SetIs g t k (mixP k q 5) W) := by
  obtain ⟨sa, sc, ta, tc, c, hB, hs, ht⟩ := h
  have e1 : mixP k q 4 = ⟨q.d, q.key, q.fo, q.de, 0, 0, 0, 0, 0, [], []⟩ := rfl
  have e2 : mixP k q 5 = ⟨q.d, q.key, q.fo, q.de, 0, 0, 0, 0, 0, [], []⟩ := rfl
  rw [e1] at hB hs ht
  rw [e2]
  clear e1 e2
  have hB1 : Blk (W.setCell ⟨g, 18, none⟩ (.int .i64 a)) g 65 (rrC t k ⟨q.d, q.key, q.fo, q.de, 0, 0, 0, 0, 0, [], []⟩ sa sc ta tc (fun j => if j = 5 then a else c j)) := hB.set_ 18 (.int .i64 a)
  have hg1 := grown_setCell W g 18 (.int .i64 a)
  obtain ⟨u, hu⟩ : ∃ u : Nat, q.leaf = (u : Int) := ⟨q.leaf.toNat, by omega⟩
  have ht0 : txt q 4 = Lib.decDigits u := by show Lib.decDigits q.leaf.toNat = _; rw [hu, Int.toNat_natCast]
  rw [ht0]
  rw [hu] at h0 h1
  have HN := Lib.hid (fun W => c_number g a u (by omega) W)
  clear ht0
  generalize Lib.decDigits u = d at *
  have c1 : W.cell? ⟨g, 18, none⟩ = some (.int .i64 (c 5)) := hB.cell 18
  have f1 := hB.frozen 18
  have HB1 := Lib.hid hB1
  have HG1 := Lib.hid hg1
  have HS1 := Lib.hid (own_far hs hg1 (Nat.lt_succ_self g))
  have HT1 := Lib.hid (own_far ht hg1 (Nat.lt_succ_self g))
  have hgl := hB1.lt
  clear hB hs ht hB1 hg1
  go_enter Tryd.func42, Tryd.ntmps42
  go_wp2_with (first | (go_at_call 43; refine (HN.out _).mono ?_; rintro e w2 ⟨rfl, hb2⟩; have HB2 := Lib.hid (HB1.out.below hb2 HB1.out.lt); have HG2 := Lib.hid (only_trans HG1.out (only_of_below hb2 (some g))); have HS2 := Lib.hid (own_below HS1.out hb2); have HT2 := Lib.hid (own_below HT1.out hb2); clear hb2))
  go_end0
  exact ⟨rfl, ⟨sa, sc, ta, tc, (fun j => if j = 5 then a else c j), HB2.out, HS2.out, HT2.out⟩, HG2.out⟩
set_option maxRecDepth 100000 in
set_option maxHeartbeats 2000000 in
theorem c_set_5 (g : Nat) (t : ByteArray) (k : Int) (q : Pm) (a : Int) (h0 : 0 ≤ q.off) (h1 : q.off < 18446744073709551616) (W : World) (h : RSt g t k (mixP k q 5) W) :
    Calls Tryd.prog 42 #[.pointer (some ⟨g, 0, none⟩), .int .i64 6, .int .i64 a, bstr (txt q 5)] W (SetIs g t k (mixP k q 6) W) := by
  obtain ⟨sa, sc, ta, tc, c, hB, hs, ht⟩ := h
  have e1 : mixP k q 5 = ⟨q.d, q.key, q.fo, q.de, 0, 0, 0, 0, 0, [], []⟩ := rfl
  have e2 : mixP k q 6 = ⟨q.d, q.key, q.fo, q.de, 0, q.off, 0, 0, 0, [], []⟩ := rfl
  rw [e1] at hB hs ht
  rw [e2]
  clear e1 e2
  have hB1 : Blk (W.setCell ⟨g, 19, none⟩ (.int .i64 a)) g 65 (rrC t k ⟨q.d, q.key, q.fo, q.de, 0, 0, 0, 0, 0, [], []⟩ sa sc ta tc (fun j => if j = 6 then a else c j)) := hB.set_ 19 (.int .i64 a)
  have hg1 := grown_setCell W g 19 (.int .i64 a)
  obtain ⟨u, hu⟩ : ∃ u : Nat, q.off = (u : Int) := ⟨q.off.toNat, by omega⟩
  have ht0 : txt q 5 = Lib.decDigits u := by show Lib.decDigits q.off.toNat = _; rw [hu, Int.toNat_natCast]
  rw [ht0]
  rw [hu] at h0 h1
  have HN := Lib.hid (fun W => c_number g a u (by omega) W)
  clear ht0
  generalize Lib.decDigits u = d at *
  have c1 : W.cell? ⟨g, 19, none⟩ = some (.int .i64 (c 6)) := hB.cell 19
  have f1 := hB.frozen 19
  have HB1 := Lib.hid hB1
  have HG1 := Lib.hid hg1
  have HS1 := Lib.hid (own_far hs hg1 (Nat.lt_succ_self g))
  have HT1 := Lib.hid (own_far ht hg1 (Nat.lt_succ_self g))
  have hgl := hB1.lt
  clear hB hs ht hB1 hg1
  go_enter Tryd.func42, Tryd.ntmps42
  go_wp2_with (first | (go_at_call 43; refine (HN.out _).mono ?_; rintro e w2 ⟨rfl, hb2⟩; have HB2 := Lib.hid (HB1.out.below hb2 HB1.out.lt); have HG2 := Lib.hid (only_trans HG1.out (only_of_below hb2 (some g))); have HS2 := Lib.hid (own_below HS1.out hb2); have HT2 := Lib.hid (own_below HT1.out hb2); have c2 := HB2.out.cell 7; have f2 := HB2.out.frozen 7; clear hb2))
  go_end0
  have hB3 := HB2.out.set_ 7 (.int .u64 (u : Int))
  have hg3 := grown_setCell w2 g 7 (.int .u64 (u : Int))
  rw [hu]
  exact ⟨rfl, ⟨sa, sc, ta, tc, (fun j => if j = 6 then a else c j), hB3, own_far HS2.out hg3 (Nat.lt_succ_self g), own_far HT2.out hg3 (Nat.lt_succ_self g)⟩, only_trans HG2.out hg3⟩
set_option maxRecDepth 100000 in
set_option maxHeartbeats 2000000 in
theorem c_set_6 (g : Nat) (t : ByteArray) (k : Int) (q : Pm) (a : Int) (h0 : 0 ≤ q.xof) (h1 : q.xof < 18446744073709551616) (W : World) (h : RSt g t k (mixP k q 6) W) :
    Calls Tryd.prog 42 #[.pointer (some ⟨g, 0, none⟩), .int .i64 7, .int .i64 a, bstr (txt q 6)] W (SetIs g t k (mixP k q 7) W) := by
  obtain ⟨sa, sc, ta, tc, c, hB, hs, ht⟩ := h
  have e1 : mixP k q 6 = ⟨q.d, q.key, q.fo, q.de, 0, q.off, 0, 0, 0, [], []⟩ := rfl
  have e2 : mixP k q 7 = ⟨q.d, q.key, q.fo, q.de, 0, q.off, 0, 0, 0, [], []⟩ := rfl
  rw [e1] at hB hs ht
  rw [e2]
  clear e1 e2
  have hB1 : Blk (W.setCell ⟨g, 20, none⟩ (.int .i64 a)) g 65 (rrC t k ⟨q.d, q.key, q.fo, q.de, 0, q.off, 0, 0, 0, [], []⟩ sa sc ta tc (fun j => if j = 7 then a else c j)) := hB.set_ 20 (.int .i64 a)
  have hg1 := grown_setCell W g 20 (.int .i64 a)
  obtain ⟨u, hu⟩ : ∃ u : Nat, q.xof = (u : Int) := ⟨q.xof.toNat, by omega⟩
  have ht0 : txt q 6 = Lib.decDigits u := by show Lib.decDigits q.xof.toNat = _; rw [hu, Int.toNat_natCast]
  rw [ht0]
  rw [hu] at h0 h1
  have HN := Lib.hid (fun W => c_number g a u (by omega) W)
  clear ht0
  generalize Lib.decDigits u = d at *
  have c1 : W.cell? ⟨g, 20, none⟩ = some (.int .i64 (c 7)) := hB.cell 20
  have f1 := hB.frozen 20
  have HB1 := Lib.hid hB1
  have HG1 := Lib.hid hg1
  have HS1 := Lib.hid (own_far hs hg1 (Nat.lt_succ_self g))
  have HT1 := Lib.hid (own_far ht hg1 (Nat.lt_succ_self g))
  have hgl := hB1.lt
  clear hB hs ht hB1 hg1
  go_enter Tryd.func42, Tryd.ntmps42
  go_wp2_with (first | (go_at_call 43; refine (HN.out _).mono ?_; rintro e w2 ⟨rfl, hb2⟩; have HB2 := Lib.hid (HB1.out.below hb2 HB1.out.lt); have HG2 := Lib.hid (only_trans HG1.out (only_of_below hb2 (some g))); have HS2 := Lib.hid (own_below HS1.out hb2); have HT2 := Lib.hid (own_below HT1.out hb2); clear hb2))
  go_end0
  exact ⟨rfl, ⟨sa, sc, ta, tc, (fun j => if j = 7 then a else c j), HB2.out, HS2.out, HT2.out⟩, HG2.out⟩
set_option maxRecDepth 100000 in
set_option maxHeartbeats 2000000 in
theorem c_set_7 (g : Nat) (t : ByteArray) (k : Int) (q : Pm) (a : Int) (h0 : 0 ≤ q.nd) (h1 : q.nd < 256) (W : World) (h : RSt g t k (mixP k q 7) W) :
    Calls Tryd.prog 42 #[.pointer (some ⟨g, 0, none⟩), .int .i64 8, .int .i64 a, bstr (txt q 7)] W (SetIs g t k (mixP k q 8) W) := by
  obtain ⟨sa, sc, ta, tc, c, hB, hs, ht⟩ := h
  have e1 : mixP k q 7 = ⟨q.d, q.key, q.fo, q.de, 0, q.off, 0, 0, 0, [], []⟩ := rfl
  have e2 : mixP k q 8 = ⟨q.d, q.key, q.fo, q.de, 0, q.off, 0, q.nd, 0, [], []⟩ := rfl
  rw [e1] at hB hs ht
  rw [e2]
  clear e1 e2
  have hB1 : Blk (W.setCell ⟨g, 21, none⟩ (.int .i64 a)) g 65 (rrC t k ⟨q.d, q.key, q.fo, q.de, 0, q.off, 0, 0, 0, [], []⟩ sa sc ta tc (fun j => if j = 8 then a else c j)) := hB.set_ 21 (.int .i64 a)
  have hg1 := grown_setCell W g 21 (.int .i64 a)
  obtain ⟨u, hu⟩ : ∃ u : Nat, q.nd = (u : Int) := ⟨q.nd.toNat, by omega⟩
  have ht0 : txt q 7 = Lib.decDigits u := by show Lib.decDigits q.nd.toNat = _; rw [hu, Int.toNat_natCast]
  rw [ht0]
  rw [hu] at h0 h1
  have HN := Lib.hid (fun W => c_number g a u (by omega) W)
  have HC := Lib.hid (fun W => (c_capped (u : Int) h0 (by omega) W).mono fun _ _ ⟨h1, h2⟩ => (⟨h1, h2.symm⟩ : _ ∧ W = _))
  clear ht0
  generalize Lib.decDigits u = d at *
  have c1 : W.cell? ⟨g, 21, none⟩ = some (.int .i64 (c 8)) := hB.cell 21
  have f1 := hB.frozen 21
  have HB1 := Lib.hid hB1
  have HG1 := Lib.hid hg1
  have HS1 := Lib.hid (own_far hs hg1 (Nat.lt_succ_self g))
  have HT1 := Lib.hid (own_far ht hg1 (Nat.lt_succ_self g))
  have hgl := hB1.lt
  clear hB hs ht hB1 hg1
  go_enter Tryd.func42, Tryd.ntmps42
  go_wp2_with (first | (go_at_call 43; refine (HN.out _).mono ?_; rintro e w2 ⟨rfl, hb2⟩; have HB2 := Lib.hid (HB1.out.below hb2 HB1.out.lt); have HG2 := Lib.hid (only_trans HG1.out (only_of_below hb2 (some g))); have HS2 := Lib.hid (own_below HS1.out hb2); have HT2 := Lib.hid (own_below HT1.out hb2); have c2 := HB2.out.cell 9; have f2 := HB2.out.frozen 9; clear hb2) | (go_at_call 54; refine (HC.out _).mono ?_; rintro e w3 ⟨rfl, rfl⟩))
  go_end0
  have hB3 := HB2.out.set_ 9 (.int .i64 (u : Int))
  have hg3 := grown_setCell w2 g 9 (.int .i64 (u : Int))
  rw [hu]
  exact ⟨rfl, ⟨sa, sc, ta, tc, (fun j => if j = 8 then a else c j), hB3, own_far HS2.out hg3 (Nat.lt_succ_self g), own_far HT2.out hg3 (Nat.lt_succ_self g)⟩, only_trans HG2.out hg3⟩
set_option maxRecDepth 100000 in
set_option maxHeartbeats 2000000 in
theorem c_set_8 (g : Nat) (t : ByteArray) (k : Int) (q : Pm) (a : Int) (h0 : 0 ≤ q.inn) (h1 : q.inn < 256) (W : World) (h : RSt g t k (mixP k q 8) W) :
    Calls Tryd.prog 42 #[.pointer (some ⟨g, 0, none⟩), .int .i64 9, .int .i64 a, bstr (txt q 8)] W (SetIs g t k (mixP k q 9) W) := by
  obtain ⟨sa, sc, ta, tc, c, hB, hs, ht⟩ := h
  have e1 : mixP k q 8 = ⟨q.d, q.key, q.fo, q.de, 0, q.off, 0, q.nd, 0, [], []⟩ := rfl
  have e2 : mixP k q 9 = ⟨q.d, q.key, q.fo, q.de, 0, q.off, 0, q.nd, q.inn, [], []⟩ := rfl
  rw [e1] at hB hs ht
  rw [e2]
  clear e1 e2
  have hB1 : Blk (W.setCell ⟨g, 22, none⟩ (.int .i64 a)) g 65 (rrC t k ⟨q.d, q.key, q.fo, q.de, 0, q.off, 0, q.nd, 0, [], []⟩ sa sc ta tc (fun j => if j = 9 then a else c j)) := hB.set_ 22 (.int .i64 a)
  have hg1 := grown_setCell W g 22 (.int .i64 a)
  obtain ⟨u, hu⟩ : ∃ u : Nat, q.inn = (u : Int) := ⟨q.inn.toNat, by omega⟩
  have ht0 : txt q 8 = Lib.decDigits u := by show Lib.decDigits q.inn.toNat = _; rw [hu, Int.toNat_natCast]
  rw [ht0]
  rw [hu] at h0 h1
  have HN := Lib.hid (fun W => c_number g a u (by omega) W)
  have HC := Lib.hid (fun W => (c_capped (u : Int) h0 (by omega) W).mono fun _ _ ⟨h1, h2⟩ => (⟨h1, h2.symm⟩ : _ ∧ W = _))
  clear ht0
  generalize Lib.decDigits u = d at *
  have c1 : W.cell? ⟨g, 22, none⟩ = some (.int .i64 (c 9)) := hB.cell 22
  have f1 := hB.frozen 22
  have HB1 := Lib.hid hB1
  have HG1 := Lib.hid hg1
  have HS1 := Lib.hid (own_far hs hg1 (Nat.lt_succ_self g))
  have HT1 := Lib.hid (own_far ht hg1 (Nat.lt_succ_self g))
  have hgl := hB1.lt
  clear hB hs ht hB1 hg1
  go_enter Tryd.func42, Tryd.ntmps42
  go_wp2_with (first | (go_at_call 43; refine (HN.out _).mono ?_; rintro e w2 ⟨rfl, hb2⟩; have HB2 := Lib.hid (HB1.out.below hb2 HB1.out.lt); have HG2 := Lib.hid (only_trans HG1.out (only_of_below hb2 (some g))); have HS2 := Lib.hid (own_below HS1.out hb2); have HT2 := Lib.hid (own_below HT1.out hb2); have c2 := HB2.out.cell 10; have f2 := HB2.out.frozen 10; clear hb2) | (go_at_call 54; refine (HC.out _).mono ?_; rintro e w3 ⟨rfl, rfl⟩))
  go_end0
  have hB3 := HB2.out.set_ 10 (.int .i64 (u : Int))
  have hg3 := grown_setCell w2 g 10 (.int .i64 (u : Int))
  rw [hu]
  exact ⟨rfl, ⟨sa, sc, ta, tc, (fun j => if j = 9 then a else c j), hB3, own_far HS2.out hg3 (Nat.lt_succ_self g), own_far HT2.out hg3 (Nat.lt_succ_self g)⟩, only_trans HG2.out hg3⟩
set_option maxRecDepth 100000 in
set_option maxHeartbeats 2000000 in
theorem c_set_9 (g : Nat) (t : ByteArray) (k : Int) (q : Pm) (a : Int) (hx : ∀ z ∈ q.s, 0 ≤ z ∧ z < 256) (hn : q.s.length ≤ 1000) (W : World) (h : RSt g t k (mixP k q 9) W) :
    Calls Tryd.prog 42 #[.pointer (some ⟨g, 0, none⟩), .int .i64 10, .int .i64 a, bstr (txt q 9)] W (SetIs g t k (mixP k q 10) W) := by
  obtain ⟨sa, sc, ta, tc, c, hB, hs, ht⟩ := h
  have e1 : mixP k q 9 = ⟨q.d, q.key, q.fo, q.de, 0, q.off, 0, q.nd, q.inn, [], []⟩ := rfl
  have e2 : mixP k q 10 = ⟨q.d, q.key, q.fo, q.de, 0, q.off, 0, q.nd, q.inn, q.s, []⟩ := rfl
  rw [e1] at hB hs ht
  rw [e2]
  clear e1 e2
  have hB1 : Blk (W.setCell ⟨g, 23, none⟩ (.int .i64 a)) g 65 (rrC t k ⟨q.d, q.key, q.fo, q.de, 0, q.off, 0, q.nd, q.inn, [], []⟩ sa sc ta tc (fun j => if j = 10 then a else c j)) := hB.set_ 23 (.int .i64 a)
  have hg1 := grown_setCell W g 23 (.int .i64 a)
  have ht0 : txt q 9 = hxB q.s := rfl
  rw [ht0]
  have HN := Lib.hid (fun W => c_pairs g a q.s hx hn W)
  clear ht0 hx
  generalize hxB q.s = d at *
  have c1 : W.cell? ⟨g, 23, none⟩ = some (.int .i64 (c 10)) := hB.cell 23
  have f1 := hB.frozen 23
  have HB1 := Lib.hid hB1
  have HG1 := Lib.hid hg1
  have HS1 := Lib.hid (own_far hs hg1 (Nat.lt_succ_self g))
  have HT1 := Lib.hid (own_far ht hg1 (Nat.lt_succ_self g))
  have hgl := hB1.lt
  clear hB hs ht hB1 hg1
  go_enter Tryd.func42, Tryd.ntmps42
  go_wp2_with (first | (go_at_call 53; refine (HN.out _).mono ?_; rintro e w2 ⟨A, cc, rfl, ho2, hb2⟩; have HB2 := Lib.hid (HB1.out.below hb2 HB1.out.lt); have HG2 := Lib.hid (only_trans HG1.out (only_of_below hb2 (some g))); have HS2 := Lib.hid (own_below HS1.out hb2); have HT2 := Lib.hid (own_below HT1.out hb2); have c2 := HB2.out.cell 11; have f2 := HB2.out.frozen 11; have HO2 := Lib.hid (own_base ho2 (Nat.succ_le_of_lt hgl)); clear ho2; clear hb2))
  go_end0
  have hB3 := HB2.out.set_ 11 (.slice A q.s.length cc)
  have hg3 := grown_setCell w2 g 11 (.slice A q.s.length cc)
  exact ⟨rfl, ⟨A, cc, ta, tc, (fun j => if j = 10 then a else c j), hB3, own_far HO2.out hg3 (Nat.lt_succ_self g), own_far HT2.out hg3 (Nat.lt_succ_self g)⟩, only_trans HG2.out hg3⟩
set_option maxRecDepth 100000 in
set_option maxHeartbeats 2000000 in
theorem c_set_10 (g : Nat) (t : ByteArray) (k : Int) (q : Pm) (a : Int) (hx : ∀ z ∈ q.t, 0 ≤ z ∧ z < 256) (hn : q.t.length ≤ 1000) (W : World) (h : RSt g t k (mixP k q 10) W) :
    Calls Tryd.prog 42 #[.pointer (some ⟨g, 0, none⟩), .int .i64 11, .int .i64 a, bstr (txt q 10)] W (SetIs g t k (mixP k q 11) W) := by
  obtain ⟨sa, sc, ta, tc, c, hB, hs, ht⟩ := h
  have e1 : mixP k q 10 = ⟨q.d, q.key, q.fo, q.de, 0, q.off, 0, q.nd, q.inn, q.s, []⟩ := rfl
  have e2 : mixP k q 11 = ⟨q.d, q.key, q.fo, q.de, 0, q.off, 0, q.nd, q.inn, q.s, q.t⟩ := rfl
  rw [e1] at hB hs ht
  rw [e2]
  clear e1 e2
  have hB1 : Blk (W.setCell ⟨g, 24, none⟩ (.int .i64 a)) g 65 (rrC t k ⟨q.d, q.key, q.fo, q.de, 0, q.off, 0, q.nd, q.inn, q.s, []⟩ sa sc ta tc (fun j => if j = 11 then a else c j)) := hB.set_ 24 (.int .i64 a)
  have hg1 := grown_setCell W g 24 (.int .i64 a)
  have ht0 : txt q 10 = hxB q.t := rfl
  rw [ht0]
  have HN := Lib.hid (fun W => c_pairs g a q.t hx hn W)
  clear ht0 hx
  generalize hxB q.t = d at *
  have c1 : W.cell? ⟨g, 24, none⟩ = some (.int .i64 (c 11)) := hB.cell 24
  have f1 := hB.frozen 24
  have HB1 := Lib.hid hB1
  have HG1 := Lib.hid hg1
  have HS1 := Lib.hid (own_far hs hg1 (Nat.lt_succ_self g))
  have HT1 := Lib.hid (own_far ht hg1 (Nat.lt_succ_self g))
  have hgl := hB1.lt
  clear hB hs ht hB1 hg1
  go_enter Tryd.func42, Tryd.ntmps42
  go_wp2_with (first | (go_at_call 53; refine (HN.out _).mono ?_; rintro e w2 ⟨A, cc, rfl, ho2, hb2⟩; have HB2 := Lib.hid (HB1.out.below hb2 HB1.out.lt); have HG2 := Lib.hid (only_trans HG1.out (only_of_below hb2 (some g))); have HS2 := Lib.hid (own_below HS1.out hb2); have HT2 := Lib.hid (own_below HT1.out hb2); have c2 := HB2.out.cell 12; have f2 := HB2.out.frozen 12; have HO2 := Lib.hid (own_base ho2 (Nat.succ_le_of_lt hgl)); clear ho2; clear hb2))
  go_end0
  have hB3 := HB2.out.set_ 12 (.slice A q.t.length cc)
  have hg3 := grown_setCell w2 g 12 (.slice A q.t.length cc)
  exact ⟨rfl, ⟨sa, sc, A, cc, (fun j => if j = 11 then a else c j), hB3, own_far HS2.out hg3 (Nat.lt_succ_self g), own_far HO2.out hg3 (Nat.lt_succ_self g)⟩, only_trans HG2.out hg3⟩
theorem c_set (g : Nat) (t : ByteArray) (k : Int) (q : Pm) (a : Int) (i : Nat) (hi : i < 11) (hc : chkP k q = 0) (ho : PmOk q) (hs : ∀ z ∈ q.s, 0 ≤ z ∧ z < 256) (ht : ∀ z ∈ q.t, 0 ≤ z ∧ z < 256) (W : World) (h : RSt g t k (mixP k q i) W) :
    Calls Tryd.prog 42 #[.pointer (some ⟨g, 0, none⟩), .int .i64 ((i : Int) + 1), .int .i64 a, bstr (txt q i)] W (SetIs g t k (mixP k q (i + 1)) W) := by
  obtain ⟨hk, ⟨a1, a2⟩, ⟨b1, b2⟩, ⟨d1, d2⟩, ⟨e1, e2⟩, ⟨g1, g2⟩, ⟨m1, m2⟩, l1, l2⟩ := chk_ok hc
  obtain ⟨n1, n2⟩ := ho.leaf
  obtain ⟨o1, o2⟩ := ho.off
  obtain ⟨x1, x2⟩ := ho.xof
  have hkm : 0 ≤ kmost k ∧ kmost k ≤ 64 := by rcases hk with rfl | rfl <;> decide
  have : i = 0 ∨ i = 1 ∨ i = 2 ∨ i = 3 ∨ i = 4 ∨ i = 5 ∨ i = 6 ∨ i = 7 ∨ i = 8 ∨ i = 9 ∨ i = 10 := by omega
  rcases this with rfl | rfl | rfl | rfl | rfl | rfl | rfl | rfl | rfl | rfl | rfl
  · exact c_set_0 g t k q a (by omega) (by omega) W h
  · exact c_set_1 g t k q a (by omega) (by omega) W h
  · exact c_set_2 g t k q a (by omega) (by omega) W h
  · exact c_set_3 g t k q a (by omega) (by omega) W h
  · exact c_set_4 g t k q a (by omega) (by omega) W h
  · exact c_set_5 g t k q a (by omega) (by omega) W h
  · exact c_set_6 g t k q a (by omega) (by omega) W h
  · exact c_set_7 g t k q a (by omega) (by omega) W h
  · exact c_set_8 g t k q a (by omega) (by omega) W h
  · exact c_set_9 g t k q a hs (by omega) W h
  · exact c_set_10 g t k q a ht (by omega) W h
end Go.Proofs.YtofcdffcaiajmaaDoor
namespace Go.Proofs.YtofcdffcaiajmaaDoor
open Go.RowKit Go.Shelf
set_option linter.unusedVariables false
attribute [local go_sem ↓] Go.wp_at_zero Go.wp_at_succ

/-- A field's name as a text. -/
def nmB (i : Nat) : ByteArray := ⟨(fname i).toArray⟩
theorem fname_inj : ∀ a b : Fin 11, (fname a.val == fname b.val) = decide (a.val = b.val) := by decide
theorem nmB_eq {a b : Nat} (ha : a < 11) (hb : b < 11) : ((nmB a).toList == (nmB b).toList) = decide (a = b) := by
  unfold nmB
  rw [Lib.toList_data, Lib.toList_data]
  exact fname_inj ⟨a, ha⟩ ⟨b, hb⟩
/-- Which field the names tell, as far as they were looked at. -/
def fdv (m z : Nat) : Int := if m < z then (m : Int) + 1 else 0
theorem fdv_hit (m : Nat) : fdv m (m + 1) = (m : Int) + 1 := if_pos (Nat.lt_succ_self m)
theorem fdv_miss {m z : Nat} (h : z ≠ m) : fdv m (z + 1) = fdv m z := by
  unfold fdv
  by_cases h2 : m < z
  · rw [if_pos h2, if_pos (by omega)]
  · rw [if_neg h2, if_neg (by omega)]
theorem fdv_all {m : Nat} (h : m < 11) : fdv m 11 = (m : Int) + 1 := if_pos h
theorem mixL_ne {q : Pm} {m : Nat} (h : m ≠ 4) : mixL q (m + 1) = mixL q m := by
  unfold mixL
  by_cases h2 : 4 < m
  · rw [if_pos h2, if_pos (by omega)]
  · rw [if_neg h2, if_neg (by omega)]
theorem mixX_ne {q : Pm} {m : Nat} (h : m ≠ 6) : mixX q (m + 1) = mixX q m := by
  unfold mixX
  by_cases h2 : 6 < m
  · rw [if_pos h2, if_pos (by omega)]
  · rw [if_neg h2, if_neg (by omega)]
theorem rr_cell1 {W : World} {g : Nat} {t : ByteArray} {k : Int} {p : Pm} (h : RSt g t k p W) : W.cell? ⟨g, 1, none⟩ = some (.int .i64 k) := by
  obtain ⟨sa, sc, ta, tc, c, hB, _⟩ := h
  exact hB.cell 1
theorem wrd_len {q : Pm} (hl : ∀ i, 0 ≤ fv q i ∧ fv q i < 18446744073709551616) (hs : q.s.length ≤ 1000) (ht : q.t.length ≤ 1000) (i : Nat) (hi : i < 11) : (fname i).length + (txt q i).length ≤ 3000 := by
  have h1 : (fname i).length ≤ 8 := by
    have : i = 0 ∨ i = 1 ∨ i = 2 ∨ i = 3 ∨ i = 4 ∨ i = 5 ∨ i = 6 ∨ i = 7 ∨ i = 8 ∨ i = 9 ∨ i = 10 := by omega
    rcases this with rfl | rfl | rfl | rfl | rfl | rfl | rfl | rfl | rfl | rfl | rfl <;> decide
  unfold txt
  split
  · have := dig_len20 (u := (fv q i).toNat) (by have := hl i; omega)
    omega
  split
  · rw [hxB_len]; omega
  · rw [hxB_len]; omega
set_option maxRecDepth 100000 in
set_option maxHeartbeats 8000000 in
theorem c_words (g : Nat) (t : ByteArray) (k : Int) (q : Pm) (A0 : Option Addr) (gl off n cap : Nat) (a0 : Int) (hA : 0 < n → A0 = some ⟨gl, off, none⟩) (hc : chkP k q = 0) (ho : PmOk q) (hs : ∀ z ∈ q.s, 0 ≤ z ∧ z < 256) (ht : ∀ z ∈ q.t, 0 ≤ z ∧ z < 256) (W : World) (h : RSt g t k (mixP k q 0) W)
    (hn : (wdf k q 0).length = n) (hgl : gl < W.heap.size) (hne : gl ≠ g) (hcell : ∀ j x, (wdf k q 0)[j]? = some x → W.cell? ⟨gl, off + j, none⟩ = some (bstr x)) (hcap : n ≤ cap) (hn2 : n ≤ 11) :
    Calls Tryd.prog 32 #[.pointer (some ⟨g, 0, none⟩), .slice A0 n cap, .int .i64 a0] W fun e w' => e = .returned (.tuple #[.int .u64 (mixL q 11), .int .u64 (mixX q 11)]) ∧ RSt g t k (mixP k q 11) w' ∧ W.grownBy w' (some g) := by
  have hk := (chk_ok hc).1
  have hsl := (chk_ok hc).2.2.2.2.2.2.2
  have hkm : 0 ≤ kmost k ∧ kmost k ≤ 64 := by rcases hk with rfl | rfl <;> decide
  have HSET : Hid (∀ (i : Nat) (a : Int) W, i < 11 → RSt g t k (mixP k q i) W → Calls Tryd.prog 42 #[.pointer (some ⟨g, 0, none⟩), .int .i64 ((i : Int) + 1), .int .i64 a, bstr (txt q i)] W (SetIs g t k (mixP k q (i + 1)) W)) := fun i a W hi h => c_set g t k q a i hi hc ho hs ht W h
  have HNUM : Hid (∀ (i : Nat) (a : Int) W, i < 9 → Calls Tryd.prog 43 #[.pointer (some ⟨g, 0, none⟩), .int .i64 a, bstr (txt q i)] W fun e w' => e = .returned (.int .u64 (fv q i)) ∧ Below W.heap.size W w') := fun i a W hi => by
    have hb := fv_bd hc ho i
    have h := c_number g a (fv q i).toNat (by omega) W
    rw [show (((fv q i).toNat : Nat) : Int) = fv q i by omega] at h
    have e : txt q i = Lib.decDigits (fv q i).toNat := if_pos hi
    rw [e]
    exact h
  have HCUT : Hid (∀ (i : Nat) W, i < 11 → Calls Tryd.prog 40 #[bstr (wrd q i), .string ⟨#[61]⟩] W fun e w' => e = .returned (.tuple #[.string (nmB i), bstr (txt q i), .bool true]) ∧ Below W.heap.size W w') := fun i W hi => by
    have hl := wrd_len (q := q) (fv_bd hc ho) (by omega) (by omega) i hi
    exact c_Cut61 (fname i) (txt q i) (fun c hc => (fname_no i hi c hc).2) (by omega) W
  have HWL : Hid (∀ i, i < 11 → (wrd q i).length ≤ 4000) := fun i hi => by
    have hl := wrd_len (q := q) (fv_bd hc ho) (by omega) (by omega) i hi
    unfold wrd
    simp only [List.length_append, List.length_cons]
    omega
  have HNM := Lib.hid (fun W => c_names k hk W)
  have HCELL := Lib.hid hcell
  have HST := Lib.hid h
  have HWN := Lib.hid hn
  clear hc ho hs ht h hcell hk hsl hkm hn
  go_enter Tryd.func32, Tryd.ntmps32
  go_wp2_with fail
  go_loopw [2, 6, 7, 8, 19] (fun va vl vx vn vi wr => ∃ (j i : Nat) (a : Int), va = .int .i64 a ∧ vl = .int .u64 (mixL q i) ∧ vx = .int .u64 (mixX q i) ∧ vn = .int .i64 (i : Int) ∧ vi = .int .i64 (j : Int) ∧ j ≤ n ∧ i ≤ 11 ∧ Hid ((wdf k q 0).drop j = wdf k q i) ∧ Hid (RSt g t k (mixP k q i) wr) ∧ Hid (W.grownBy wr (some g))) (fun _ _ _ _ vi _ => n - (intOf vi).toNat)
  case atStart => exact ⟨0, 0, a0, rfl, rfl, rfl, rfl, rfl, Nat.zero_le _, by omega, rfl, HST, Lib.hid (World.grownBy.refl W _)⟩
  case round =>
    obtain ⟨j, i, a, rfl, rfl, rfl, rfl, rfl, hj, hi, HD, HS, HG⟩ := hrel
    by_cases hlt : j < n
    · obtain rfl := hA (by omega)
      clear hA
      obtain ⟨x, hx⟩ : ∃ x, (wdf k q 0)[j]? = some x := ⟨_, List.getElem?_eq_getElem (by rw [HWN.out]; exact hlt)⟩
      have hd2 : (wdf k q 0).drop j = x :: (wdf k q 0).drop (j + 1) := by
        obtain ⟨hjl, hxe⟩ := List.getElem?_eq_some_iff.1 hx
        rw [List.drop_eq_getElem_cons hjl, hxe]
      have hd3 := hd2.symm.trans HD.out
      obtain ⟨m, hm1, hm2, hm3, hm4, hm5, hm6, hm7⟩ := wdf_next (11 - i) i (by omega) hd3.symm
      have hcx := (HG.out.cell (HCELL.out j x hx) (by intro e; exact hne (by injection e)))
      rw [hm3] at hcx
      have HD2 : Hid ((wdf k q 0).drop (j + 1) = wdf k q (m + 1)) := hm4
      rw [← hm5] at HS
      rw [← hm6, ← hm7]
      have k1 := rr_cell1 HS.out
      have HCT := Lib.hid (fun W => HCUT.out m W hm2)
      have HSE := Lib.hid (fun a W h => HSET.out m a W hm2 h)
      have HNU := Lib.hid (fun h a W => HNUM.out m a W h)
      have him : (i : Int) ≤ (m : Int) := by omega
      clear hd2 hd3 hx HD hm3 hm4 hm5 hm6 hm7 HCELL HCUT HSET HNUM HWN HST
      have hxl := HWL.out m hm2
      generalize hxw : wrd q m = xw at *
      generalize txt q m = tx at *
      clear hxw
      go_wp2_with fail
      refine (HCT.out _).mono ?_
      rintro e w2 ⟨rfl, hb2⟩
      have HS2 := Lib.hid (HS.out.below hb2)
      have HG2 := Lib.hid (only_trans HG.out (only_of_below hb2 (some g)))
      have k2 := rr_cell1 HS2.out
      clear hb2 HS HG k1 hcx HCT
      go_wp2_with fail
      refine (HNM.out _).mono ?_
      rintro e w3 ⟨A, c, rfl, ho3, hb3⟩
      have HS3 := Lib.hid (HS2.out.below hb3)
      have HG3 := Lib.hid (only_trans HG2.out (only_of_below hb3 (some g)))
      obtain ⟨gA, cap3, hv3, _, _⟩ := own_form ho3 (by omega)
      injection hv3 with hv3 _ _
      subst hv3
      have hcA : Hid (∀ z, z < 11 → w3.cell? ⟨gA, z, none⟩ = some (.string (nmB z))) := fun z hz => by
        have := ho3.cells (g := gA) rfl z _ (nms_get hz)
        rw [show ((⟨gA, 0, none⟩ : Addr).add z) = ⟨gA, z, none⟩ from (by
          rcases Nat.eq_zero_or_pos z with rfl | hz0
          · rfl
          · unfold Addr.add; rw [if_neg (by omega)]; simp)] at this
        exact this
      clear hb3 HS2 HG2 k2 HNM ho3
      go_wp2_with fail
      go_loopw [14, 35] (fun vf vi wr2 => ∃ z : Nat, vf = .int .i64 (fdv m z) ∧ vi = .int .i64 (z : Int) ∧ z ≤ 11 ∧ wr2 = w3) (fun _ vi _ => 11 - (intOf vi).toNat)
      case atStart => exact ⟨0, rfl, rfl, by omega, rfl⟩
      case round =>
        obtain ⟨z, rfl, rfl, hz, rfl⟩ := hrel
        by_cases hz2 : z < 11
        · have cz := hcA.out z hz2
          have hq := nmB_eq hz2 hm2
          by_cases hzm : z = m
          · subst hzm
            have hf := fdv_hit z
            rw [decide_eq_true rfl] at hq
            clear hcA HSE HNU HS3 HG3 HD2
            go_wp2_with fail
            go_roundw
            case rel => exact ⟨z + 1, by rw [hf], by go_num, by omega, trivial⟩
            case measure => simp [intOf]; omega
          · have hf := fdv_miss hzm
            rw [decide_eq_false hzm] at hq
            clear hcA HSE HNU HS3 HG3 HD2
            go_wp2_with fail
            go_roundw
            case rel => exact ⟨z + 1, by rw [hf], by go_num, by omega, trivial⟩
            case measure => simp [intOf]; omega
        · obtain rfl : z = 11 := by omega
          have hf := fdv_all hm2
          have hne0 : (((m : Int) + 1) == 0) = false := by simp; omega
          clear hcA hz2 hz
          rw [hf]
          clear hf
          go_wp2_with fail
          refine (HSE.out _ _ HS3.out).mono ?_
          rintro e w4 ⟨rfl, hs4, hg4⟩
          have HS4 := Lib.hid hs4
          have HG4 := Lib.hid (only_trans HG3.out hg4)
          clear hs4 hg4 HS3 HG3 HSE
          by_cases hm4 : m = 4
          · subst hm4
            go_wp2_with (go_at_call 43; refine (HNU.out (by decide) _ _).mono ?_; rintro e w5 ⟨rfl, hb5⟩; have HS5 := Lib.hid (HS4.out.below hb5); have HG5 := Lib.hid (only_trans HG4.out (only_of_below hb5 (some g))); clear hb5)
            go_roundw
            case rel => exact ⟨j + 1, 5, _, rfl, rfl, rfl, by go_num, by go_num, by omega, by omega, HD2, HS5, HG5⟩
            case measure => simp [intOf]; omega
          by_cases hm6 : m = 6
          · subst hm6
            go_wp2_with (go_at_call 43; refine (HNU.out (by decide) _ _).mono ?_; rintro e w5 ⟨rfl, hb5⟩; have HS5 := Lib.hid (HS4.out.below hb5); have HG5 := Lib.hid (only_trans HG4.out (only_of_below hb5 (some g))); clear hb5)
            go_roundw
            case rel => exact ⟨j + 1, 7, _, rfl, rfl, rfl, by go_num, by go_num, by omega, by omega, HD2, HS5, HG5⟩
            case measure => simp [intOf]; omega
          have t5 : (((m : Int) + 1) == 5) = false := by simp; omega
          have t7 : (((m : Int) + 1) == 7) = false := by simp; omega
          have e5 := mixL_ne (q := q) hm4
          have e7 := mixX_ne (q := q) hm6
          rw [← e5, ← e7]
          clear hm4 hm6 e5 e7 HNU
          go_wp2_with fail
          go_roundw
          case rel => exact ⟨j + 1, m + 1, _, rfl, rfl, rfl, by go_num, by go_num, by omega, by omega, HD2, HS4, HG4⟩
          case measure => simp [intOf]; omega
    · obtain rfl : j = n := by omega
      have hd0 : wds k q i (11 - i) = [] := by
        refine (show (wdf k q 0).drop j = wds k q i (11 - i) from HD.out).symm.trans ?_
        exact List.drop_eq_nil_of_le (by rw [HWN.out]; exact Nat.le_refl _)
      obtain ⟨e1, e2, e3⟩ := wdf_none (11 - i) i (by omega) hd0
      rw [← e2, ← e3]
      rw [← e1] at HS
      clear HD hd0 e1 e2 e3 HSET HNUM HCUT HNM HCELL HST hA
      go_wp2_with fail
      go_ret2
      exact ⟨rfl, HS.out, HG.out⟩
end Go.Proofs.YtofcdffcaiajmaaDoor
namespace Go.Proofs.YtofcdffcaiajmaaDoor
open Go.RowKit Go.Shelf
set_option linter.unusedVariables false
attribute [local go_sem ↓] Go.wp_at_zero Go.wp_at_succ

/-- A store of a struct into the middle of a block: the world behind it by what is known of it. -/
theorem wpList_store_midB {P : Program} {ops : Array Oper} {rest : List Oper} {o : Oper} {a : Act} {w : World} {Q : Exit → Act → World → Prop} (hgd : o.guard = none) (ty : TypeId) (x y : Operand) (ho : o.op = .store ty x y) (hdst : o.dst = none)
    (g off : Nat) (cs' : Array Value) (hx : a.eval x = .pointer (some ⟨g, off, none⟩)) (hy : a.eval y = .agg cs') {t : TypeId} {cs : Array Value} (hg : Blk w g t cs) (hi : (P.info? ty).map (·.size) = some cs'.size) (hs : off + cs'.size ≤ cs.size) (h1' : cs'.toList.all (·.oneCell') = true)
    (cs2 : Array Value) (hcs : (cs.toList.take off ++ cs'.toList ++ cs.toList.drop (off + cs'.size)).toArray = cs2)
    (h : ∀ w', Blk w' g t cs2 → w.grownBy w' (some g) → w'.heap.size = w.heap.size → wpList P ops Q rest a w') : wpList P ops Q (o :: rest) a w := by
  have hst := run_storeCells_at (P := P) g off t cs'.toList 0 cs w hg (by simpa using hs) (fun v hv => List.all_eq_true.1 h1' v hv)
  simp only [Nat.add_zero, Array.length_toList] at hst
  rw [hcs] at hst
  have hsv : (storeVar ty ⟨g, off, none⟩ (.agg cs')).run P w = .ok () (w.setRow g cs2) := by
    cases hq : P.info? ty with
    | none => simp [hq] at hi
    | some i =>
      have hz : cs'.size = i.size := by simp [hq] at hi; omega
      simp [storeVar, sizeOf, typeInfo, hq, Value.cells, hz, hst]
  refine wpList_plain hgd fun _ hK => ?_
  unfold Oper.wp execOp
  simp only [ho, hx, hy, Instr.storeAt, Instr.sureAddr, Sem.run_bind, Sem.run_pure, Result.andThen_ok, hsv]
  have := hK _ _ (h (w.setRow g cs2) (hg.setRow cs2) (only_setRow w g cs2) (by simp))
  simpa [Oper.upon, Act.put, hdst] using this
theorem Blk.range {w : World} {g : Nat} {t : TypeId} {cs : Array Value} (h : Blk w g t cs) (off : Nat) (l : List Value) (hl : ∀ j v, l[j]? = some v → cs[off + j]? = some v) : w.rangeAt g off l := fun j v hv => (h.cell (off + j)).trans (hl j v hv)
theorem pline_len {k : Int} {q : Pm} (hl : ∀ i, 0 ≤ fv q i ∧ fv q i < 18446744073709551616) (hs : q.s.length ≤ 16) (ht : q.t.length ≤ 16) : (pline k q).length ≤ 512 := by
  have h1 := fparts_len (k := k) hl 9 (Nat.le_refl _)
  have h2 : (bpart 9 q.s).length ≤ 40 := by
    unfold bpart
    split
    · simp
    · simp only [List.length_append, List.length_cons, List.length_nil, List.length_map, hxs_len, show (fname 9).length = 4 from rfl]; omega
  have h3 : (bpart 10 q.t).length ≤ 50 := by
    unfold bpart
    split
    · simp
    · simp only [List.length_append, List.length_cons, List.length_nil, List.length_map, hxs_len, show (fname 10).length = 8 from rfl]; omega
  unfold pline
  simp only [List.length_append]
  have h4 : (if k = 2 then ([50, 115] : List UInt8) else [50, 98]).length = 2 := by split <;> rfl
  omega
theorem wds_len (k : Int) (q : Pm) : ∀ (n i : Nat), (wds k q i n).length ≤ n
  | 0, _ => Nat.le_refl _
  | n + 1, i => by
    have := wds_len k q n (i + 1)
    unfold wds
    rw [List.length_append]
    have : (if prt k q i = true then [wrd q i] else []).length ≤ 1 := by split <;> simp
    omega
set_option maxRecDepth 100000 in
set_option maxHeartbeats 8000000 in
theorem c_read (g : Nat) (k : Int) (q : Pm) (c0 : Nat → Int) (hc : chkP k q = 0) (ho : PmOk q) (hs : ∀ z ∈ q.s, 0 ≤ z ∧ z < 256) (ht : ∀ z ∈ q.t, 0 ≤ z ∧ z < 256) (W : World) (hB : Blk W g 65 (rrC ⟨(pline k q).toArray⟩ 0 Pm.zero none 0 none 0 c0)) :
    Calls Tryd.prog 26 #[.pointer (some ⟨g, 0, none⟩)] W fun e w' => e = .returned (.tuple #[]) ∧ RSt g ⟨(pline k q).toArray⟩ k q w' ∧ W.grownBy w' (some g) := by
  have hk := (chk_ok hc).1
  have hsl := (chk_ok hc).2.2.2.2.2.2.2
  have hkm : 0 ≤ kmost k ∧ kmost k ≤ 64 := by rcases hk with rfl | rfl <;> decide
  have hln : (⟨(pline k q).toArray⟩ : ByteArray).size ≤ 512 := pline_len (k := k) (fv_bd hc ho) (by omega) (by omega)
  have hwn := wds_len k q 11 0
  have hpw := pline_w k q
  have HSP : Hid (∀ W, Calls Tryd.prog 31 #[.string ⟨(pline k q).toArray⟩, .string ⟨#[32]⟩] W fun e w' => e = .returned (.slice (some ⟨W.heap.size, 0, none⟩) ((wdf k q 0).length + 1) ((wdf k q 0).length + 1)) ∧ Blk w' W.heap.size 9 (((if k = 2 then [50, 115] else [50, 98]) :: wdf k q 0).map fun x => bstr x).toArray ∧ Below W.heap.size W w') := fun W => by
    have h := c_Split32 (if k = 2 then [50, 115] else [50, 98]) (wdf k q 0) (by split <;> decide) (fun x hx => by
      obtain ⟨j, _, hj, rfl⟩ := wds_mem 11 0 x hx
      exact wrd_no hs ht j (by omega)) (by rw [← hpw]; exact Nat.le_trans hln (by decide)) W
    rw [← hpw] at h
    exact h
  have HWO : Hid (∀ (A0 : Option Addr) (gl n cap : Nat) (a0 : Int) W, (0 < n → A0 = some ⟨gl, 1, none⟩) → RSt g ⟨(pline k q).toArray⟩ k (mixP k q 0) W → (wdf k q 0).length = n → gl < W.heap.size → gl ≠ g → (∀ j x, (wdf k q 0)[j]? = some x → W.cell? ⟨gl, 1 + j, none⟩ = some (bstr x)) → n ≤ cap → n ≤ 11 →
      Calls Tryd.prog 32 #[.pointer (some ⟨g, 0, none⟩), .slice A0 n cap, .int .i64 a0] W fun e w' => e = .returned (.tuple #[.int .u64 (mixL q 11), .int .u64 (mixX q 11)]) ∧ RSt g ⟨(pline k q).toArray⟩ k (mixP k q 11) w' ∧ W.grownBy w' (some g)) :=
    fun A0 gl n cap a0 W hA h h1 h2 h3 h4 h5 h6 => c_words g _ k q A0 gl 1 n cap a0 hA hc ho hs ht W h h1 h2 h3 h4 h5 h6
  have HUS := Lib.hid (fun W => c_usual k hk W)
  have HCK : Hid (∀ sa sc ta tc W, Calls Tryd.prog 5 #[.int .i64 k, pvS q sa sc ta tc] W fun e w' => e = .returned (.int .i64 0) ∧ Below W.heap.size W w') := fun sa sc ta tc W => by
    have h := c_CheckP k q sa sc ta tc W
    rw [hc] at h
    exact h
  obtain ⟨n1, n2⟩ := ho.leaf
  obtain ⟨x1, x2⟩ := ho.xof
  have hL : mixL q 11 = q.leaf := rfl
  have hX : mixX q 11 = q.xof := rfl
  have hP : mixP k q 11 = { q with leaf := 0, xof := 0 } := rfl
  rw [hL, hX] at HWO
  clear hc ho hs ht hsl hkm hpw hL hX
  have hwl : (wdf k q 0).length ≤ 11 := hwn
  generalize (⟨(pline k q).toArray⟩ : ByteArray) = tx at *
  obtain ⟨n, hn⟩ : ∃ n, (wdf k q 0).length = n := ⟨_, rfl⟩
  have HWN := Lib.hid hn
  rw [hn] at HSP hwl
  clear hwn hn
  have HMX := Lib.hid (mix_zero k q)
  generalize hml : wdf k q 0 = ws at *
  have c_0 := hB.cell 0
  have c_1 := hB.cell 1
  have f_1 := hB.frozen 1
  have HB0 := Lib.hid hB
  have hgl0 := hB.lt
  clear hB
  rcases hk with rfl | rfl
  · go_enter Tryd.func26, Tryd.ntmps26
    go_wp2_with fail
    refine (HSP.out _).mono ?_
    rintro e w1 ⟨rfl, hB1, hb1⟩
    have HB1 := Lib.hid hB1
    have K1 := Lib.hid (HB0.out.below hb1 hgl0)
    have d0 := hB1.cell 0
    have c1 := K1.out.cell 1
    have f1 := K1.out.frozen 1
    clear hB1 c_0 c_1 f_1 HSP HB0
    simp at d0
    go_wp2_with fail
    refine (HUS.out _).mono ?_
    rintro e w2 ⟨rfl, hb2⟩
    have K2 : Hid (Blk w2 g 65 (rrC tx 1 Pm.zero none 0 none 0 c0)) := (K1.out.set_ 1 (.int .i64 1)).below hb2 (by simpa using K1.out.lt)
    have B2 := Lib.hid ((HB1.out.far (Nat.ne_of_gt hgl0) (.int .i64 1) (p := ⟨g, 1, none⟩)).below hb2 (by simpa using HB1.out.lt))
    have G2 := Lib.hid (only_trans (only_trans (only_of_below hb1 (some g)) (grown_setCell w1 g 1 (.int .i64 1))) (only_of_below hb2 (some g)))
    clear hb1 hb2 HUS HB1 K1 c1 f1
    have hlt2 := K2.out.lt
    simp only [pvS, pv, plainP]
    go_wp2_with (refine wpList_store_midB rfl 26 (.tmp 41) (.tmp 39) rfl rfl g 2 _ rfl rfl K2.out (by kernel_rfl) (by simp [rrC]) rfl (rrC tx 1 (plainP (kmost 1) 0) none 0 none 0 c0) (by rfl) ?_; intro w3 hB3 hg3 hz3)
    have HS3 : Hid (RSt g tx 1 (mixP 1 q 0) w3) := by
      rw [HMX.out]
      exact ⟨none, 0, none, 0, c0, hB3, World.ownsRow_nil _ _ _ _, World.ownsRow_nil _ _ _ _⟩
    have B3 := Lib.hid (B2.out.grown hg3 (by intro e; injection e with e; omega))
    have G3 := Lib.hid (only_trans G2.out hg3)
    clear K2 B2 G2 hB3 hg3 hz3 hlt2
    have d3 := B3.out.cell 0
    simp at d3
    clear d0
    have HW : Hid (∀ a0, Calls Tryd.prog 32 #[.pointer (some ⟨g, 0, none⟩), .slice (if n = 0 then some ⟨W.heap.size, 0, none⟩ else some ⟨W.heap.size, 1, none⟩) n n, .int .i64 a0] w3.drew fun e w' => e = .returned (.tuple #[.int .u64 q.leaf, .int .u64 q.xof]) ∧ RSt g tx 1 (mixP 1 q 11) w' ∧ w3.drew.grownBy w' (some g)) := fun a0 => HWO.out _ W.heap.size n n a0 w3.drew (fun h => if_neg (by omega)) (HS3.out.below (Below.refl _ _).drew) HWN.out B3.out.lt (Nat.ne_of_gt hgl0) (fun j x hx => by
      have h := B3.out.drew.cell (1 + j)
      rw [h]
      simp only [List.map_cons, List.getElem?_toArray]
      rw [Nat.add_comm 1 j, List.getElem?_cons_succ, List.getElem?_map, hx]
      rfl) (Nat.le_refl _) hwl
    have d3' : w3.drew.cell? ⟨W.heap.size, 0, none⟩ = some (bstr [50, 98]) := d3
    have B4 := Lib.hid B3.out.drew
    have G4 := Lib.hid (only_drew G3.out)
    clear HWO HS3 B3 G3 HWN HMX hml
    have q1 : (1 : Int) ≤ (n : Int) + 1 := by omega
    have q2 : (0 : Int) ≤ (n : Int) := by omega
    by_cases hn0 : n = 0
    all_goals
      first | (rw [if_pos hn0] at HW; subst hn0) | (rw [if_neg hn0] at HW)
      go_region_held3 (fun V => V.cell? ⟨W.heap.size, 0, none⟩ = some (bstr [50, 98])) (go_keep) (first | (go_at_call 32; refine (HW.out _).mono ?_; rintro e w5 ⟨rfl, hs5, hg5⟩; have d5 := World.grownBy.cell hg5 d3' (by intro e; have e2 : W.heap.size = g := Option.some.inj e; omega); have HS5 := Lib.hid hs5; have G5 := Lib.hid (only_trans G4.out hg5); clear hs5 hg5))
      clear HW G4 B4 d3 d3' q1 q2 d5
      obtain ⟨sa, sc, ta, tc, c, hB5, hs5, ht5⟩ := HS5.out
      rw [hP] at hB5 hs5 ht5
      have l1 : ¬ (4294967295 : Int) < q.leaf := by omega
      have l2 : ¬ (4294967295 : Int) < q.xof := by omega
      have p1 := hB5.cell 6
      have p2 := hB5.frozen 6
      have p3 := hB5.cell 8
      have p4 := hB5.frozen 8
      have hg6 : w5.grownBy ((w5.setCell ⟨g, 6, none⟩ (.int .u32 q.leaf)).setCell ⟨g, 8, none⟩ (.int .u32 q.xof)) (some g) := only_trans (grown_setCell w5 g 6 (.int .u32 q.leaf)) (grown_setCell (w5.setCell ⟨g, 6, none⟩ (.int .u32 q.leaf)) g 8 (.int .u32 q.xof))
      have K6 : Hid (Blk ((w5.setCell ⟨g, 6, none⟩ (.int .u32 q.leaf)).setCell ⟨g, 8, none⟩ (.int .u32 q.xof)) g 65 (rrC tx 1 q sa sc ta tc c)) := (hB5.set_ 6 (.int .u32 q.leaf)).set_ 8 (.int .u32 q.xof)
      have S6 := Lib.hid (own_far hs5 hg6 (Nat.lt_succ_self g))
      have T6 := Lib.hid (own_far ht5 hg6 (Nat.lt_succ_self g))
      have G6 := Lib.hid (only_trans G5.out hg6)
      clear hB5 hs5 ht5 HS5 G5 hg6 hP
      go_wp2_with fail
      clear p1 p2 p3 p4 l1 l2
      generalize ((w5.setCell ⟨g, 6, none⟩ (.int .u32 q.leaf)).setCell ⟨g, 8, none⟩ (.int .u32 q.xof)) = w6 at *
      have r1 := K6.out.cell 1
      have r2 := K6.out.cell 2
      have r3 := K6.out.cell 3
      have r4 := K6.out.cell 4
      have r5 := K6.out.cell 5
      have r6 := K6.out.cell 6
      have r7 := K6.out.cell 7
      have r8 := K6.out.cell 8
      have r9 := K6.out.cell 9
      have r10 := K6.out.cell 10
      have r11 := K6.out.cell 11
      have r12 := K6.out.cell 12
      have HK := Lib.hid (HCK.out sa sc ta tc)
      simp only [pvS, pv] at HK
      go_region_held3 (fun V => V.cell? ⟨g, 1, none⟩ = some (.int .i64 1) ∧ V.cell? ⟨g, 2, none⟩ = some (.int .i64 q.d) ∧ V.cell? ⟨g, 3, none⟩ = some (.int .i64 q.key) ∧ V.cell? ⟨g, 4, none⟩ = some (.int .i64 q.fo) ∧ V.cell? ⟨g, 5, none⟩ = some (.int .i64 q.de) ∧ V.cell? ⟨g, 6, none⟩ = some (.int .u32 q.leaf) ∧ V.cell? ⟨g, 7, none⟩ = some (.int .u64 q.off) ∧ V.cell? ⟨g, 8, none⟩ = some (.int .u32 q.xof) ∧ V.cell? ⟨g, 9, none⟩ = some (.int .i64 q.nd) ∧ V.cell? ⟨g, 10, none⟩ = some (.int .i64 q.inn) ∧ V.cell? ⟨g, 11, none⟩ = some (.slice sa q.s.length sc) ∧ V.cell? ⟨g, 12, none⟩ = some (.slice ta q.t.length tc)) (go_keep) (first | (go_at_call 5; refine (HK.out _).mono ?_; rintro e w7 ⟨rfl, hb7⟩; have K7 := Lib.hid (K6.out.drew.below hb7 (by simpa using K6.out.lt)); have S7 := Lib.hid (own_below S6.out.drew hb7); have T7 := Lib.hid (own_below T6.out.drew hb7); have G7 := Lib.hid (only_trans (only_drew G6.out) (only_of_below hb7 (some g))); have s1 := K7.out.cell 1; have s2 := K7.out.cell 2; have s3 := K7.out.cell 3; have s4 := K7.out.cell 4; have s5 := K7.out.cell 5; have s6 := K7.out.cell 6; have s7 := K7.out.cell 7; have s8 := K7.out.cell 8; have s9 := K7.out.cell 9; have s10 := K7.out.cell 10; have s11 := K7.out.cell 11; have s12 := K7.out.cell 12))
      clear HK K6 S6 T6 G6
      go_wp2_with fail
      go_end0
      exact ⟨rfl, ⟨sa, sc, ta, tc, c, K7.out, S7.out, T7.out⟩, G7.out⟩
  · go_enter Tryd.func26, Tryd.ntmps26
    go_wp2_with fail
    refine (HSP.out _).mono ?_
    rintro e w1 ⟨rfl, hB1, hb1⟩
    have HB1 := Lib.hid hB1
    have K1 := Lib.hid (HB0.out.below hb1 hgl0)
    have d0 := hB1.cell 0
    have c1 := K1.out.cell 1
    have f1 := K1.out.frozen 1
    clear hB1 c_0 c_1 f_1 HSP HB0
    simp at d0
    go_wp2_with fail
    refine (HUS.out _).mono ?_
    rintro e w2 ⟨rfl, hb2⟩
    have K2 : Hid (Blk w2 g 65 (rrC tx 2 Pm.zero none 0 none 0 c0)) := (K1.out.set_ 1 (.int .i64 2)).below hb2 (by simpa using K1.out.lt)
    have B2 := Lib.hid ((HB1.out.far (Nat.ne_of_gt hgl0) (.int .i64 2) (p := ⟨g, 1, none⟩)).below hb2 (by simpa using HB1.out.lt))
    have G2 := Lib.hid (only_trans (only_trans (only_of_below hb1 (some g)) (grown_setCell w1 g 1 (.int .i64 2))) (only_of_below hb2 (some g)))
    clear hb1 hb2 HUS HB1 K1 c1 f1
    have hlt2 := K2.out.lt
    simp only [pvS, pv, plainP]
    go_wp2_with (refine wpList_store_midB rfl 26 (.tmp 41) (.tmp 39) rfl rfl g 2 _ rfl rfl K2.out (by kernel_rfl) (by simp [rrC]) rfl (rrC tx 2 (plainP (kmost 2) 0) none 0 none 0 c0) (by rfl) ?_; intro w3 hB3 hg3 hz3)
    have HS3 : Hid (RSt g tx 2 (mixP 2 q 0) w3) := by
      rw [HMX.out]
      exact ⟨none, 0, none, 0, c0, hB3, World.ownsRow_nil _ _ _ _, World.ownsRow_nil _ _ _ _⟩
    have B3 := Lib.hid (B2.out.grown hg3 (by intro e; injection e with e; omega))
    have G3 := Lib.hid (only_trans G2.out hg3)
    clear K2 B2 G2 hB3 hg3 hz3 hlt2
    have d3 := B3.out.cell 0
    simp at d3
    clear d0
    have HW : Hid (∀ a0, Calls Tryd.prog 32 #[.pointer (some ⟨g, 0, none⟩), .slice (if n = 0 then some ⟨W.heap.size, 0, none⟩ else some ⟨W.heap.size, 1, none⟩) n n, .int .i64 a0] w3.drew fun e w' => e = .returned (.tuple #[.int .u64 q.leaf, .int .u64 q.xof]) ∧ RSt g tx 2 (mixP 2 q 11) w' ∧ w3.drew.grownBy w' (some g)) := fun a0 => HWO.out _ W.heap.size n n a0 w3.drew (fun h => if_neg (by omega)) (HS3.out.below (Below.refl _ _).drew) HWN.out B3.out.lt (Nat.ne_of_gt hgl0) (fun j x hx => by
      have h := B3.out.drew.cell (1 + j)
      rw [h]
      simp only [List.map_cons, List.getElem?_toArray]
      rw [Nat.add_comm 1 j, List.getElem?_cons_succ, List.getElem?_map, hx]
      rfl) (Nat.le_refl _) hwl
    have d3' : w3.drew.cell? ⟨W.heap.size, 0, none⟩ = some (bstr [50, 115]) := d3
    have B4 := Lib.hid B3.out.drew
    have G4 := Lib.hid (only_drew G3.out)
    clear HWO HS3 B3 G3 HWN HMX hml
    have q1 : (1 : Int) ≤ (n : Int) + 1 := by omega
    have q2 : (0 : Int) ≤ (n : Int) := by omega
    by_cases hn0 : n = 0
    all_goals
      first | (rw [if_pos hn0] at HW; subst hn0) | (rw [if_neg hn0] at HW)
      go_region_held3 (fun V => V.cell? ⟨W.heap.size, 0, none⟩ = some (bstr [50, 115])) (go_keep) (first | (go_at_call 32; refine (HW.out _).mono ?_; rintro e w5 ⟨rfl, hs5, hg5⟩; have d5 := World.grownBy.cell hg5 d3' (by intro e; have e2 : W.heap.size = g := Option.some.inj e; omega); have HS5 := Lib.hid hs5; have G5 := Lib.hid (only_trans G4.out hg5); clear hs5 hg5))
      clear HW G4 B4 d3 d3' q1 q2 d5
      obtain ⟨sa, sc, ta, tc, c, hB5, hs5, ht5⟩ := HS5.out
      rw [hP] at hB5 hs5 ht5
      have l1 : ¬ (4294967295 : Int) < q.leaf := by omega
      have l2 : ¬ (4294967295 : Int) < q.xof := by omega
      have p1 := hB5.cell 6
      have p2 := hB5.frozen 6
      have p3 := hB5.cell 8
      have p4 := hB5.frozen 8
      have hg6 : w5.grownBy ((w5.setCell ⟨g, 6, none⟩ (.int .u32 q.leaf)).setCell ⟨g, 8, none⟩ (.int .u32 q.xof)) (some g) := only_trans (grown_setCell w5 g 6 (.int .u32 q.leaf)) (grown_setCell (w5.setCell ⟨g, 6, none⟩ (.int .u32 q.leaf)) g 8 (.int .u32 q.xof))
      have K6 : Hid (Blk ((w5.setCell ⟨g, 6, none⟩ (.int .u32 q.leaf)).setCell ⟨g, 8, none⟩ (.int .u32 q.xof)) g 65 (rrC tx 2 q sa sc ta tc c)) := (hB5.set_ 6 (.int .u32 q.leaf)).set_ 8 (.int .u32 q.xof)
      have S6 := Lib.hid (own_far hs5 hg6 (Nat.lt_succ_self g))
      have T6 := Lib.hid (own_far ht5 hg6 (Nat.lt_succ_self g))
      have G6 := Lib.hid (only_trans G5.out hg6)
      clear hB5 hs5 ht5 HS5 G5 hg6 hP
      go_wp2_with fail
      clear p1 p2 p3 p4 l1 l2
      generalize ((w5.setCell ⟨g, 6, none⟩ (.int .u32 q.leaf)).setCell ⟨g, 8, none⟩ (.int .u32 q.xof)) = w6 at *
      have r1 := K6.out.cell 1
      have r2 := K6.out.cell 2
      have r3 := K6.out.cell 3
      have r4 := K6.out.cell 4
      have r5 := K6.out.cell 5
      have r6 := K6.out.cell 6
      have r7 := K6.out.cell 7
      have r8 := K6.out.cell 8
      have r9 := K6.out.cell 9
      have r10 := K6.out.cell 10
      have r11 := K6.out.cell 11
      have r12 := K6.out.cell 12
      have HK := Lib.hid (HCK.out sa sc ta tc)
      simp only [pvS, pv] at HK
      go_region_held3 (fun V => V.cell? ⟨g, 1, none⟩ = some (.int .i64 2) ∧ V.cell? ⟨g, 2, none⟩ = some (.int .i64 q.d) ∧ V.cell? ⟨g, 3, none⟩ = some (.int .i64 q.key) ∧ V.cell? ⟨g, 4, none⟩ = some (.int .i64 q.fo) ∧ V.cell? ⟨g, 5, none⟩ = some (.int .i64 q.de) ∧ V.cell? ⟨g, 6, none⟩ = some (.int .u32 q.leaf) ∧ V.cell? ⟨g, 7, none⟩ = some (.int .u64 q.off) ∧ V.cell? ⟨g, 8, none⟩ = some (.int .u32 q.xof) ∧ V.cell? ⟨g, 9, none⟩ = some (.int .i64 q.nd) ∧ V.cell? ⟨g, 10, none⟩ = some (.int .i64 q.inn) ∧ V.cell? ⟨g, 11, none⟩ = some (.slice sa q.s.length sc) ∧ V.cell? ⟨g, 12, none⟩ = some (.slice ta q.t.length tc)) (go_keep) (first | (go_at_call 5; refine (HK.out _).mono ?_; rintro e w7 ⟨rfl, hb7⟩; have K7 := Lib.hid (K6.out.drew.below hb7 (by simpa using K6.out.lt)); have S7 := Lib.hid (own_below S6.out.drew hb7); have T7 := Lib.hid (own_below T6.out.drew hb7); have G7 := Lib.hid (only_trans (only_drew G6.out) (only_of_below hb7 (some g))); have s1 := K7.out.cell 1; have s2 := K7.out.cell 2; have s3 := K7.out.cell 3; have s4 := K7.out.cell 4; have s5 := K7.out.cell 5; have s6 := K7.out.cell 6; have s7 := K7.out.cell 7; have s8 := K7.out.cell 8; have s9 := K7.out.cell 9; have s10 := K7.out.cell 10; have s11 := K7.out.cell 11; have s12 := K7.out.cell 12))
      clear HK K6 S6 T6 G6
      go_wp2_with fail
      go_end0
      exact ⟨rfl, ⟨sa, sc, ta, tc, c, K7.out, S7.out, T7.out⟩, G7.out⟩
end Go.Proofs.YtofcdffcaiajmaaDoor
namespace Go.Proofs.YtofcdffcaiajmaaDoor
open Go.RowKit Go.Shelf
set_option linter.unusedVariables false
attribute [local go_sem ↓] Go.wp_at_zero Go.wp_at_succ

theorem step_load_mid {P : Program} {ops : Array Oper} {o : Oper} {a : Act} {w : World} {K : Act → World → Prop} {Q : Exit → Act → World → Prop} {E : Prop} (hgd : o.guard = none) (ty : TypeId) (x : Operand) (ho : o.op = .load ty x)
    (b off : Nat) (hx : a.eval x = .pointer (some ⟨b, off, none⟩)) (cs : List Value) (d : TypeDesc) (hc : w.rangeAt b off cs) (hu : P.underlying ty = some d) (hd : d.isRow = true) (hi : (P.info? ty).map (·.size) = some cs.length)
    (h : K (a.put o.dst (.agg cs.toArray)) w) : if Region.wanted o (yielded ops a.tmps) = true then Oper.wp P o a w K Q else E := by
  have hw : Region.wanted o (yielded ops a.tmps) = true := by simp [Region.wanted, hgd]
  rw [if_pos hw]
  exact wp_load_mid ty x ho b off hx cs d hc hu hd hi h
/-- What is deferred finds no panic. -/
theorem c_Read1 (a b c d : Value) (w : World) :
    CallsD Tryd.prog 25 #[a, b, c, d] .returning w fun e u' w' => u' = .returning ∧ (e = .returned (.tuple #[]) ∧ w' = w) := by
  refine callsD_of_wpS Tryd.func25 rfl fun c₀ cs hu => ?_
  apply wpS_seq
  apply wpS_region
  simp [wpOpsS, go_sem, recoverD, hu, Tryd.ntmps25, Exit.thenS]
  apply wpS_seq
  apply wpS_region
  simp [wpOpsS, go_sem, recoverD, hu, Exit.thenS]
  refine wpS_cond (t := false) (by simp [Act.eval]) ?_
  simp only [Bool.false_eq_true, if_false]
  refine wpS_of_wp (wp_skip ?_)
  cases c₀
  simp_all [bodyPostS, results, Tryd.results25]
theorem rr_range {W : World} {g : Nat} {t : ByteArray} {k : Int} {q : Pm} {sa : Option Addr} {sc : Nat} {ta : Option Addr} {tc : Nat} {c : Nat → Int} (h : Blk W g 65 (rrC t k q sa sc ta tc c)) : W.rangeAt g 2 [.int .i64 q.d, .int .i64 q.key, .int .i64 q.fo, .int .i64 q.de, .int .u32 q.leaf, .int .u64 q.off, .int .u32 q.xof, .int .i64 q.nd, .int .i64 q.inn, .slice sa q.s.length sc, .slice ta q.t.length tc] := fun j v hj => by
  have h1 := (List.getElem?_eq_some_iff.1 hj).1
  have h2 := h.cell (2 + j)
  simp at h1
  rw [h2]
  have : j = 0 ∨ j = 1 ∨ j = 2 ∨ j = 3 ∨ j = 4 ∨ j = 5 ∨ j = 6 ∨ j = 7 ∨ j = 8 ∨ j = 9 ∨ j = 10 := by omega
  rcases this with rfl | rfl | rfl | rfl | rfl | rfl | rfl | rfl | rfl | rfl | rfl <;> exact hj
set_option maxRecDepth 100000 in
set_option maxHeartbeats 2000000 in
theorem c_Read (k : Int) (q : Pm) (hc : chkP k q = 0) (ho : PmOk q) (hs : ∀ z ∈ q.s, 0 ≤ z ∧ z < 256) (ht : ∀ z ∈ q.t, 0 ≤ z ∧ z < 256) (w : World) :
    Calls Tryd.prog 11 #[bstr (pline k q)] w fun e w' => ∃ sa sc ta tc, e = .returned (.tuple #[.int .i64 k, pvS q.norm sa sc ta tc, .int .i64 0, .int .i64 0]) ∧ w'.ownsRow w.heap.size 5 1 (.slice sa q.norm.s.length sc) q.norm.s.length (u8s q.norm.s) ∧ w'.ownsRow w.heap.size 5 1 (.slice ta q.norm.t.length tc) q.norm.t.length (u8s q.norm.t) ∧ Below w.heap.size w w' := by
  suffices H : ∀ R : Ending → World → Prop, Hid (∀ sa sc ta tc w', w'.ownsRow w.heap.size 5 1 (.slice sa q.norm.s.length sc) q.norm.s.length (u8s q.norm.s) → w'.ownsRow w.heap.size 5 1 (.slice ta q.norm.t.length tc) q.norm.t.length (u8s q.norm.t) → Below w.heap.size w w' → R (.returned (.tuple #[.int .i64 k, pvS q.norm sa sc ta tc, .int .i64 0, .int .i64 0])) w') → Calls Tryd.prog 11 #[bstr (pline k q)] w R from
    H _ (fun sa sc ta tc w' h1 h2 h3 => ⟨sa, sc, ta, tc, rfl, h1, h2, h3⟩)
  intro R HR
  have hsl := (chk_ok hc).2.2.2.2.2.2.2
  have hk := (chk_ok hc).1
  have hkm : 0 ≤ kmost k ∧ kmost k ≤ 64 := by rcases hk with rfl | rfl <;> decide
  have HRD := Lib.hid (fun g c0 W hB => c_read g k q c0 hc ho hs ht W hB)
  have HNO : Hid (∀ sa sc ta tc W, RdP W q sa sc ta tc → Calls Tryd.prog 20 #[pvS q sa sc ta tc] W (GivesQ W q.norm)) := fun sa sc ta tc W h => c_normal q sa sc ta tc W h
  have HLS : Hid (q.s.length ≤ 1000 ∧ q.t.length ≤ 1000) := by show _ ∧ _; omega
  clear hc ho hs ht hsl hk hkm
  generalize pline k q = pl at *
  have HB0 := Lib.hid ((((Blk.new w 30 #[.int .i64 0]).alloc (.cells #[.int .i64 0, .int .i64 0, .int .i64 0, .int .i64 0, .int .u32 0, .int .u64 0, .int .u32 0, .int .i64 0, .int .i64 0, .slice none 0 0, .slice none 0 0] 26)).alloc (.cells #[.int .i64 0] 3)).alloc (.cells #[.int .i64 0] 28))
  have HB1 := Lib.hid (((Blk.new (w.alloc (.cells #[.int .i64 0] 30)) 26 #[.int .i64 0, .int .i64 0, .int .i64 0, .int .i64 0, .int .u32 0, .int .u64 0, .int .u32 0, .int .i64 0, .int .i64 0, .slice none 0 0, .slice none 0 0]).alloc (.cells #[.int .i64 0] 3)).alloc (.cells #[.int .i64 0] 28))
  have HB2 := Lib.hid ((Blk.new ((w.alloc (.cells #[.int .i64 0] 30)).alloc (.cells #[.int .i64 0, .int .i64 0, .int .i64 0, .int .i64 0, .int .u32 0, .int .u64 0, .int .u32 0, .int .i64 0, .int .i64 0, .slice none 0 0, .slice none 0 0] 26)) 3 #[.int .i64 0]).alloc (.cells #[.int .i64 0] 28))
  have HB3 := Lib.hid (Blk.new (((w.alloc (.cells #[.int .i64 0] 30)).alloc (.cells #[.int .i64 0, .int .i64 0, .int .i64 0, .int .i64 0, .int .u32 0, .int .u64 0, .int .u32 0, .int .i64 0, .int .i64 0, .slice none 0 0, .slice none 0 0] 26)).alloc (.cells #[.int .i64 0] 3)) 28 #[.int .i64 0])
  have HBW : Hid (Below w.heap.size w ((((w.alloc (.cells #[.int .i64 0] 30)).alloc (.cells #[.int .i64 0, .int .i64 0, .int .i64 0, .int .i64 0, .int .u32 0, .int .u64 0, .int .u32 0, .int .i64 0, .int .i64 0, .slice none 0 0, .slice none 0 0] 26)).alloc (.cells #[.int .i64 0] 3)).alloc (.cells #[.int .i64 0] 28))) := ((((Below.refl w.heap.size w).alloc (Nat.le_refl _) _).alloc (by simp) _).alloc (by simp; omega) _).alloc (by simp; omega) _
  go_enter_defers Tryd.func11, Tryd.ntmps11
  go_wp2_with fail
  have hz4 : (((((w.alloc (.cells #[.int .i64 0] 30)).alloc (.cells #[.int .i64 0, .int .i64 0, .int .i64 0, .int .i64 0, .int .u32 0, .int .u64 0, .int .u32 0, .int .i64 0, .int .i64 0, .slice none 0 0, .slice none 0 0] 26)).alloc (.cells #[.int .i64 0] 3)).alloc (.cells #[.int .i64 0] 28)) : World).heap.size = w.heap.size + 1 + 1 + 1 + 1 := by simp
  simp only [World.size_alloc] at HB1 HB2 HB3
  generalize ((((w.alloc (.cells #[.int .i64 0] 30)).alloc (.cells #[.int .i64 0, .int .i64 0, .int .i64 0, .int .i64 0, .int .u32 0, .int .u64 0, .int .u32 0, .int .i64 0, .int .i64 0, .slice none 0 0, .slice none 0 0] 26)).alloc (.cells #[.int .i64 0] 3)).alloc (.cells #[.int .i64 0] 28)) = w4 at *
  have HBR := Lib.hid (Blk.new w4 65 (rrC ⟨pl.toArray⟩ 0 Pm.zero none 0 none 0 (fun _ => 0)))
  rw [← hz4]
  refine (HRD.out w4.heap.size (fun _ => 0) _ HBR.out).mono ?_
  rintro e w6 ⟨rfl, hS6, hg6⟩
  have hzw : w.heap.size + 4 ≤ w4.heap.size := by omega
  have J0 := Lib.hid ((HB0.out.alloc _).grown hg6 (by intro e; have e2 : w.heap.size = w4.heap.size := Option.some.inj e; omega))
  have J1 := Lib.hid ((HB1.out.alloc _).grown hg6 (by intro e; have e2 : w.heap.size + 1 = w4.heap.size := Option.some.inj e; omega))
  have J2 := Lib.hid ((HB2.out.alloc _).grown hg6 (by intro e; have e2 : w.heap.size + 1 + 1 = w4.heap.size := Option.some.inj e; omega))
  have J3 := Lib.hid ((HB3.out.alloc _).grown hg6 (by intro e; have e2 : w.heap.size + 1 + 1 + 1 = w4.heap.size := Option.some.inj e; omega))
  have HB := Lib.hid ((HBW.out.alloc HBW.out.size (.cells (rrC ⟨pl.toArray⟩ 0 Pm.zero none 0 none 0 (fun _ => 0)) 65)).grown hg6 (by simp; omega) (fun x e => by have e2 : w4.heap.size = x := Option.some.inj e; omega))
  obtain ⟨sa, sc, ta, tc, c, hG, hs6, ht6⟩ := hS6
  have HG := Lib.hid hG
  have hr := own_rd hs6 ht6 (by have := HLS.out.1; omega) (by have := HLS.out.2; omega)
  clear hG hs6 ht6 hg6 HB0 HB1 HB2 HB3 HBW HBR HRD
  clear hz4
  generalize w4.heap.size = g at *
  go_wp2_with fail
  refine wp_region_noPanic ?_
  refine wp_region_any (by kernel_rfl) ?_
  try (change wpAny _ _ _ _ _ _ _ (World.drew _))
  replace HG := Lib.hid HG.out.drew
  replace J0 := Lib.hid J0.out.drew
  replace J1 := Lib.hid J1.out.drew
  replace J2 := Lib.hid J2.out.drew
  replace J3 := Lib.hid J3.out.drew
  replace HB := Lib.hid HB.out.drew
  replace hr := hr.step (Below.refl _ _).drew
  generalize w6.drew = w7 at *
  refine wpAny_take (i := 0) (v := .pointer (some ⟨g, 0, none⟩)) rfl (by kernel_rfl) (by kernel_rfl) (by kernel_rfl) (fun _ _ _ h => h) (Or.inl ⟨by rfl, fun w => by go_simp⟩) ?_
  refine wpAny_take (i := 1) (v := .pointer (some ⟨g, 0, none⟩)) rfl (by kernel_rfl) (by kernel_rfl) (by kernel_rfl) (fun _ _ _ h => h) (Or.inl ⟨by rfl, fun w => by go_simp⟩) ?_
  refine wpAny_take (i := 2) (v := .pointer (some ⟨g, 1, none⟩)) rfl (by kernel_rfl) (by kernel_rfl) (by kernel_rfl) (fun _ _ _ h => h) (Or.inl ⟨by rfl, fun w => by go_simp⟩) ?_
  refine wpAny_take (i := 4) (v := .pointer (some ⟨g, 0, none⟩)) rfl (by kernel_rfl) (by kernel_rfl) (by kernel_rfl) (fun _ _ _ h => h) (Or.inl ⟨by rfl, fun w => by go_simp⟩) ?_
  refine wpAny_take (i := 5) (v := .pointer (some ⟨g, 0, none⟩)) rfl (by kernel_rfl) (by kernel_rfl) (by kernel_rfl) (fun _ _ _ h => h) (Or.inl ⟨by rfl, fun w => by go_simp⟩) ?_
  refine wpAny_take (i := 6) (v := .pointer (some ⟨g, 2, none⟩)) rfl (by kernel_rfl) (by kernel_rfl) (by kernel_rfl) (fun _ _ _ h => h) (Or.inl ⟨by rfl, fun w => by go_simp⟩) ?_
  refine wpAny_ready (rs := [3, 7]) (by kernel_rfl) (by simp) ?_
  refine AllReady.cons rfl (fun K hK => ?_) ?_
  · have c1 := HG.out.cell 1
    go_simp
    clear c1
    refine hK _ _ ?_
    clear hK K
    refine wpAny_ready (rs := [7]) (by kernel_rfl) (by simp) ?_
    refine AllReady.cons rfl (fun K hK => ?_) ?_
    · refine step_load_mid rfl 26 (.tmp 19) rfl g 2 rfl [.int .i64 q.d, .int .i64 q.key, .int .i64 q.fo, .int .i64 q.de, .int .u32 q.leaf, .int .u64 q.off, .int .u32 q.xof, .int .i64 q.nd, .int .i64 q.inn, .slice sa q.s.length sc, .slice ta q.t.length tc] _ (rr_range HG.out) Tryd.underlying26 rfl (by kernel_rfl) ?_
      refine hK _ _ ?_
      clear hK K
      refine wpAny_ready (rs := [8]) (by kernel_rfl) (by simp) ?_
      refine AllReady.cons rfl (fun K hK => ?_) ?_
      · have hgsz := HG.out.lt
        go_simp
        refine (HNO.out _ _ _ _ _ hr).mono ?_
        rintro e yw1 ⟨sa2, sc2, ta2, tc2, rfl, o1, o2, hb⟩
        have HO1 := Lib.hid (own_base o1 (Nat.succ_le_of_lt hgsz))
        have HO2 := Lib.hid (own_base o2 (Nat.succ_le_of_lt hgsz))
        replace HG := Lib.hid (HG.out.below hb HG.out.lt)
        replace J0 := Lib.hid (J0.out.below hb J0.out.lt)
        replace J1 := Lib.hid (J1.out.below hb J1.out.lt)
        replace J2 := Lib.hid (J2.out.below hb J2.out.lt)
        replace J3 := Lib.hid (J3.out.below hb J3.out.lt)
        replace HB := Lib.hid (HB.out.trans (hb.mono HB.out.size))
        clear o1 o2 hb hgsz hr
        go_simp
        refine hK _ _ ?_
        clear hK K
        refine wpAny_ready (rs := [9]) (by kernel_rfl) (by simp) ?_
        refine AllReady.cons rfl (fun K hK => ?_) ?_
        · have e0 := J0.out.cell 0
          have f0 := J0.out.frozen 0
          go_simp
          clear e0 f0
          have J1q := Lib.hid (J1.out.far (p := ⟨w.heap.size, 0, none⟩) (by simp only; omega) (.int .i64 k))
          have J2q := Lib.hid (J2.out.far (p := ⟨w.heap.size, 0, none⟩) (by simp only; omega) (.int .i64 k))
          have J3q := Lib.hid (J3.out.far (p := ⟨w.heap.size, 0, none⟩) (by simp only; omega) (.int .i64 k))
          have J0q := Lib.hid (J0.out.set_ 0 (.int .i64 k))
          have HO1q := Lib.hid (own_far HO1.out (grown_setCell yw1 w.heap.size 0 (.int .i64 k)) (by omega))
          have HO2q := Lib.hid (own_far HO2.out (grown_setCell yw1 w.heap.size 0 (.int .i64 k)) (by omega))
          have HBq := Lib.hid (HB.out.setCell (p := ⟨w.heap.size, 0, none⟩) (by simp only; omega) (.int .i64 k))
          clear J1 J2 J3 J0 HO1 HO2 HB
          have J1 := J1q
          clear J1q
          have J2 := J2q
          clear J2q
          have J3 := J3q
          clear J3q
          have J0 := J0q
          clear J0q
          have HO1 := HO1q
          clear HO1q
          have HO2 := HO2q
          clear HO2q
          have HB := HBq
          clear HBq
          generalize (yw1.setCell ⟨w.heap.size, 0, none⟩ (.int .i64 k)) = zw2 at *
          refine hK _ _ ?_
          clear hK K
          refine wpAny_ready (rs := [10]) (by kernel_rfl) (by simp) ?_
          refine AllReady.cons rfl (fun K hK => ?_) ?_
          · refine step_storeB rfl 26 (.tmp 3) (.tmp 21) rfl rfl (w.heap.size + 1) _ rfl rfl J1.out (by kernel_rfl) rfl rfl ?_
            intro zw3 hJ1 hgr _
            replace J0 := Lib.hid (J0.out.grown hgr (by intro e; have e2 : w.heap.size = w.heap.size + 1 := Option.some.inj e; omega))
            replace J2 := Lib.hid (J2.out.grown hgr (by intro e; have e2 : (w.heap.size + 1 + 1) = w.heap.size + 1 := Option.some.inj e; omega))
            replace J3 := Lib.hid (J3.out.grown hgr (by intro e; have e2 : (w.heap.size + 1 + 1 + 1) = w.heap.size + 1 := Option.some.inj e; omega))
            replace J1 := Lib.hid hJ1
            replace HO1 := Lib.hid (own_far HO1.out hgr (by omega))
            replace HO2 := Lib.hid (own_far HO2.out hgr (by omega))
            replace HB := Lib.hid (HB.out.grown hgr HB.out.size (fun x e => by have e2 : w.heap.size + 1 = x := Option.some.inj e; omega))
            clear hJ1 hgr
            refine hK _ _ ?_
            clear hK K
            refine wpAny_ready (rs := [11]) (by kernel_rfl) (by simp) ?_
            refine AllReady.cons rfl (fun K hK => ?_) ?_
            · have e0 := J2.out.cell 0
              have f0 := J2.out.frozen 0
              go_simp
              clear e0 f0
              have J0q := Lib.hid (J0.out.far (p := ⟨(w.heap.size + 1 + 1), 0, none⟩) (by simp only; omega) (.int .i64 0))
              have J1q := Lib.hid (J1.out.far (p := ⟨(w.heap.size + 1 + 1), 0, none⟩) (by simp only; omega) (.int .i64 0))
              have J3q := Lib.hid (J3.out.far (p := ⟨(w.heap.size + 1 + 1), 0, none⟩) (by simp only; omega) (.int .i64 0))
              have J2q := Lib.hid (J2.out.set_ 0 (.int .i64 0))
              have HO1q := Lib.hid (own_far HO1.out (grown_setCell zw3 (w.heap.size + 1 + 1) 0 (.int .i64 0)) (by omega))
              have HO2q := Lib.hid (own_far HO2.out (grown_setCell zw3 (w.heap.size + 1 + 1) 0 (.int .i64 0)) (by omega))
              have HBq := Lib.hid (HB.out.setCell (p := ⟨(w.heap.size + 1 + 1), 0, none⟩) (by simp only; omega) (.int .i64 0))
              clear J0 J1 J3 J2 HO1 HO2 HB
              have J0 := J0q
              clear J0q
              have J1 := J1q
              clear J1q
              have J3 := J3q
              clear J3q
              have J2 := J2q
              clear J2q
              have HO1 := HO1q
              clear HO1q
              have HO2 := HO2q
              clear HO2q
              have HB := HBq
              clear HBq
              generalize (zw3.setCell ⟨(w.heap.size + 1 + 1), 0, none⟩ (.int .i64 0)) = zw4 at *
              refine hK _ _ ?_
              clear hK K
              refine wpAny_ready (rs := [12]) (by kernel_rfl) (by simp) ?_
              refine AllReady.cons rfl (fun K hK => ?_) ?_
              · have e0 := J3.out.cell 0
                have f0 := J3.out.frozen 0
                go_simp
                clear e0 f0
                have J0q := Lib.hid (J0.out.far (p := ⟨(w.heap.size + 1 + 1 + 1), 0, none⟩) (by simp only; omega) (.int .i64 0))
                have J1q := Lib.hid (J1.out.far (p := ⟨(w.heap.size + 1 + 1 + 1), 0, none⟩) (by simp only; omega) (.int .i64 0))
                have J2q := Lib.hid (J2.out.far (p := ⟨(w.heap.size + 1 + 1 + 1), 0, none⟩) (by simp only; omega) (.int .i64 0))
                have J3q := Lib.hid (J3.out.set_ 0 (.int .i64 0))
                have HO1q := Lib.hid (own_far HO1.out (grown_setCell zw4 (w.heap.size + 1 + 1 + 1) 0 (.int .i64 0)) (by omega))
                have HO2q := Lib.hid (own_far HO2.out (grown_setCell zw4 (w.heap.size + 1 + 1 + 1) 0 (.int .i64 0)) (by omega))
                have HBq := Lib.hid (HB.out.setCell (p := ⟨(w.heap.size + 1 + 1 + 1), 0, none⟩) (by simp only; omega) (.int .i64 0))
                clear J0 J1 J2 J3 HO1 HO2 HB
                have J0 := J0q
                clear J0q
                have J1 := J1q
                clear J1q
                have J2 := J2q
                clear J2q
                have J3 := J3q
                clear J3q
                have HO1 := HO1q
                clear HO1q
                have HO2 := HO2q
                clear HO2q
                have HB := HBq
                clear HBq
                generalize (zw4.setCell ⟨(w.heap.size + 1 + 1 + 1), 0, none⟩ (.int .i64 0)) = zw5 at *
                refine hK _ _ ?_
                clear hK K
                refine wpAny_done (by kernel_rfl) ?_ _
                refine NoPanic.normal ?_
                go_wp2_with fail
                refine leaves_cons (f := 25) (args := #[.pointer (some ⟨w.heap.size, 0, none⟩), .pointer (some ⟨w.heap.size + 1, 0, none⟩), .pointer (some ⟨w.heap.size + 1 + 1, 0, none⟩), .pointer (some ⟨w.heap.size + 1 + 1 + 1, 0, none⟩)]) (by simp) (by simp [go_sem]) ?_
                refine (c_Read1 _ _ _ _ _).mono ?_
                rintro e u w9 ⟨rfl, rfl, rfl⟩
                have h0 := J0.out.cell 0
                have h2 := J2.out.cell 0
                have h3 := J3.out.cell 0
                have n0 := J1.out.cell 0
                have n1 := J1.out.cell 1
                have n2 := J1.out.cell 2
                have n3 := J1.out.cell 3
                have n4 := J1.out.cell 4
                have n5 := J1.out.cell 5
                have n6 := J1.out.cell 6
                have n7 := J1.out.cell 7
                have n8 := J1.out.cell 8
                have n9 := J1.out.cell 9
                have n10 := J1.out.cell 10
                have HF := HR.out sa2 sc2 ta2 tc2 w9 (own_base HO1.out (by omega)) (own_base HO2.out (by omega)) HB.out
                clear HR HG J0 J1 J2 J3 HO1 HO2 HB
                simp [Leaves, settle, results, Tryd.results11, go_sem, h0, h2, h3, n0, n1, n2, n3, n4, n5, n6, n7, n8, n9, n10]
                exact HF
              exact AllReady.nil
            exact AllReady.nil
          exact AllReady.nil
        exact AllReady.nil
      exact AllReady.nil
    exact AllReady.nil
  refine AllReady.cons rfl (fun K hK => ?_) ?_
  · refine step_load_mid rfl 26 (.tmp 19) rfl g 2 rfl [.int .i64 q.d, .int .i64 q.key, .int .i64 q.fo, .int .i64 q.de, .int .u32 q.leaf, .int .u64 q.off, .int .u32 q.xof, .int .i64 q.nd, .int .i64 q.inn, .slice sa q.s.length sc, .slice ta q.t.length tc] _ (rr_range HG.out) Tryd.underlying26 rfl (by kernel_rfl) ?_
    refine hK _ _ ?_
    clear hK K
    refine wpAny_ready (rs := [3, 8]) (by kernel_rfl) (by simp) ?_
    refine AllReady.cons rfl (fun K hK => ?_) ?_
    · have c1 := HG.out.cell 1
      go_simp
      clear c1
      refine hK _ _ ?_
      clear hK K
      refine wpAny_ready (rs := [8]) (by kernel_rfl) (by simp) ?_
      refine AllReady.cons rfl (fun K hK => ?_) ?_
      · have hgsz := HG.out.lt
        go_simp
        refine (HNO.out _ _ _ _ _ hr).mono ?_
        rintro e yw1 ⟨sa2, sc2, ta2, tc2, rfl, o1, o2, hb⟩
        have HO1 := Lib.hid (own_base o1 (Nat.succ_le_of_lt hgsz))
        have HO2 := Lib.hid (own_base o2 (Nat.succ_le_of_lt hgsz))
        replace HG := Lib.hid (HG.out.below hb HG.out.lt)
        replace J0 := Lib.hid (J0.out.below hb J0.out.lt)
        replace J1 := Lib.hid (J1.out.below hb J1.out.lt)
        replace J2 := Lib.hid (J2.out.below hb J2.out.lt)
        replace J3 := Lib.hid (J3.out.below hb J3.out.lt)
        replace HB := Lib.hid (HB.out.trans (hb.mono HB.out.size))
        clear o1 o2 hb hgsz hr
        go_simp
        refine hK _ _ ?_
        clear hK K
        refine wpAny_ready (rs := [9]) (by kernel_rfl) (by simp) ?_
        refine AllReady.cons rfl (fun K hK => ?_) ?_
        · have e0 := J0.out.cell 0
          have f0 := J0.out.frozen 0
          go_simp
          clear e0 f0
          have J1q := Lib.hid (J1.out.far (p := ⟨w.heap.size, 0, none⟩) (by simp only; omega) (.int .i64 k))
          have J2q := Lib.hid (J2.out.far (p := ⟨w.heap.size, 0, none⟩) (by simp only; omega) (.int .i64 k))
          have J3q := Lib.hid (J3.out.far (p := ⟨w.heap.size, 0, none⟩) (by simp only; omega) (.int .i64 k))
          have J0q := Lib.hid (J0.out.set_ 0 (.int .i64 k))
          have HO1q := Lib.hid (own_far HO1.out (grown_setCell yw1 w.heap.size 0 (.int .i64 k)) (by omega))
          have HO2q := Lib.hid (own_far HO2.out (grown_setCell yw1 w.heap.size 0 (.int .i64 k)) (by omega))
          have HBq := Lib.hid (HB.out.setCell (p := ⟨w.heap.size, 0, none⟩) (by simp only; omega) (.int .i64 k))
          clear J1 J2 J3 J0 HO1 HO2 HB
          have J1 := J1q
          clear J1q
          have J2 := J2q
          clear J2q
          have J3 := J3q
          clear J3q
          have J0 := J0q
          clear J0q
          have HO1 := HO1q
          clear HO1q
          have HO2 := HO2q
          clear HO2q
          have HB := HBq
          clear HBq
          generalize (yw1.setCell ⟨w.heap.size, 0, none⟩ (.int .i64 k)) = zw2 at *
          refine hK _ _ ?_
          clear hK K
          refine wpAny_ready (rs := [10]) (by kernel_rfl) (by simp) ?_
          refine AllReady.cons rfl (fun K hK => ?_) ?_
          · refine step_storeB rfl 26 (.tmp 3) (.tmp 21) rfl rfl (w.heap.size + 1) _ rfl rfl J1.out (by kernel_rfl) rfl rfl ?_
            intro zw3 hJ1 hgr _
            replace J0 := Lib.hid (J0.out.grown hgr (by intro e; have e2 : w.heap.size = w.heap.size + 1 := Option.some.inj e; omega))
            replace J2 := Lib.hid (J2.out.grown hgr (by intro e; have e2 : (w.heap.size + 1 + 1) = w.heap.size + 1 := Option.some.inj e; omega))
            replace J3 := Lib.hid (J3.out.grown hgr (by intro e; have e2 : (w.heap.size + 1 + 1 + 1) = w.heap.size + 1 := Option.some.inj e; omega))
            replace J1 := Lib.hid hJ1
            replace HO1 := Lib.hid (own_far HO1.out hgr (by omega))
            replace HO2 := Lib.hid (own_far HO2.out hgr (by omega))
            replace HB := Lib.hid (HB.out.grown hgr HB.out.size (fun x e => by have e2 : w.heap.size + 1 = x := Option.some.inj e; omega))
            clear hJ1 hgr
            refine hK _ _ ?_
            clear hK K
            refine wpAny_ready (rs := [11]) (by kernel_rfl) (by simp) ?_
            refine AllReady.cons rfl (fun K hK => ?_) ?_
            · have e0 := J2.out.cell 0
              have f0 := J2.out.frozen 0
              go_simp
              clear e0 f0
              have J0q := Lib.hid (J0.out.far (p := ⟨(w.heap.size + 1 + 1), 0, none⟩) (by simp only; omega) (.int .i64 0))
              have J1q := Lib.hid (J1.out.far (p := ⟨(w.heap.size + 1 + 1), 0, none⟩) (by simp only; omega) (.int .i64 0))
              have J3q := Lib.hid (J3.out.far (p := ⟨(w.heap.size + 1 + 1), 0, none⟩) (by simp only; omega) (.int .i64 0))
              have J2q := Lib.hid (J2.out.set_ 0 (.int .i64 0))
              have HO1q := Lib.hid (own_far HO1.out (grown_setCell zw3 (w.heap.size + 1 + 1) 0 (.int .i64 0)) (by omega))
              have HO2q := Lib.hid (own_far HO2.out (grown_setCell zw3 (w.heap.size + 1 + 1) 0 (.int .i64 0)) (by omega))
              have HBq := Lib.hid (HB.out.setCell (p := ⟨(w.heap.size + 1 + 1), 0, none⟩) (by simp only; omega) (.int .i64 0))
              clear J0 J1 J3 J2 HO1 HO2 HB
              have J0 := J0q
              clear J0q
              have J1 := J1q
              clear J1q
              have J3 := J3q
              clear J3q
              have J2 := J2q
              clear J2q
              have HO1 := HO1q
              clear HO1q
              have HO2 := HO2q
              clear HO2q
              have HB := HBq
              clear HBq
              generalize (zw3.setCell ⟨(w.heap.size + 1 + 1), 0, none⟩ (.int .i64 0)) = zw4 at *
              refine hK _ _ ?_
              clear hK K
              refine wpAny_ready (rs := [12]) (by kernel_rfl) (by simp) ?_
              refine AllReady.cons rfl (fun K hK => ?_) ?_
              · have e0 := J3.out.cell 0
                have f0 := J3.out.frozen 0
                go_simp
                clear e0 f0
                have J0q := Lib.hid (J0.out.far (p := ⟨(w.heap.size + 1 + 1 + 1), 0, none⟩) (by simp only; omega) (.int .i64 0))
                have J1q := Lib.hid (J1.out.far (p := ⟨(w.heap.size + 1 + 1 + 1), 0, none⟩) (by simp only; omega) (.int .i64 0))
                have J2q := Lib.hid (J2.out.far (p := ⟨(w.heap.size + 1 + 1 + 1), 0, none⟩) (by simp only; omega) (.int .i64 0))
                have J3q := Lib.hid (J3.out.set_ 0 (.int .i64 0))
                have HO1q := Lib.hid (own_far HO1.out (grown_setCell zw4 (w.heap.size + 1 + 1 + 1) 0 (.int .i64 0)) (by omega))
                have HO2q := Lib.hid (own_far HO2.out (grown_setCell zw4 (w.heap.size + 1 + 1 + 1) 0 (.int .i64 0)) (by omega))
                have HBq := Lib.hid (HB.out.setCell (p := ⟨(w.heap.size + 1 + 1 + 1), 0, none⟩) (by simp only; omega) (.int .i64 0))
                clear J0 J1 J2 J3 HO1 HO2 HB
                have J0 := J0q
                clear J0q
                have J1 := J1q
                clear J1q
                have J2 := J2q
                clear J2q
                have J3 := J3q
                clear J3q
                have HO1 := HO1q
                clear HO1q
                have HO2 := HO2q
                clear HO2q
                have HB := HBq
                clear HBq
                generalize (zw4.setCell ⟨(w.heap.size + 1 + 1 + 1), 0, none⟩ (.int .i64 0)) = zw5 at *
                refine hK _ _ ?_
                clear hK K
                refine wpAny_done (by kernel_rfl) ?_ _
                refine NoPanic.normal ?_
                go_wp2_with fail
                refine leaves_cons (f := 25) (args := #[.pointer (some ⟨w.heap.size, 0, none⟩), .pointer (some ⟨w.heap.size + 1, 0, none⟩), .pointer (some ⟨w.heap.size + 1 + 1, 0, none⟩), .pointer (some ⟨w.heap.size + 1 + 1 + 1, 0, none⟩)]) (by simp) (by simp [go_sem]) ?_
                refine (c_Read1 _ _ _ _ _).mono ?_
                rintro e u w9 ⟨rfl, rfl, rfl⟩
                have h0 := J0.out.cell 0
                have h2 := J2.out.cell 0
                have h3 := J3.out.cell 0
                have n0 := J1.out.cell 0
                have n1 := J1.out.cell 1
                have n2 := J1.out.cell 2
                have n3 := J1.out.cell 3
                have n4 := J1.out.cell 4
                have n5 := J1.out.cell 5
                have n6 := J1.out.cell 6
                have n7 := J1.out.cell 7
                have n8 := J1.out.cell 8
                have n9 := J1.out.cell 9
                have n10 := J1.out.cell 10
                have HF := HR.out sa2 sc2 ta2 tc2 w9 (own_base HO1.out (by omega)) (own_base HO2.out (by omega)) HB.out
                clear HR HG J0 J1 J2 J3 HO1 HO2 HB
                simp [Leaves, settle, results, Tryd.results11, go_sem, h0, h2, h3, n0, n1, n2, n3, n4, n5, n6, n7, n8, n9, n10]
                exact HF
              exact AllReady.nil
            exact AllReady.nil
          exact AllReady.nil
        exact AllReady.nil
      exact AllReady.nil
    refine AllReady.cons rfl (fun K hK => ?_) ?_
    · have hgsz := HG.out.lt
      go_simp
      refine (HNO.out _ _ _ _ _ hr).mono ?_
      rintro e yw1 ⟨sa2, sc2, ta2, tc2, rfl, o1, o2, hb⟩
      have HO1 := Lib.hid (own_base o1 (Nat.succ_le_of_lt hgsz))
      have HO2 := Lib.hid (own_base o2 (Nat.succ_le_of_lt hgsz))
      replace HG := Lib.hid (HG.out.below hb HG.out.lt)
      replace J0 := Lib.hid (J0.out.below hb J0.out.lt)
      replace J1 := Lib.hid (J1.out.below hb J1.out.lt)
      replace J2 := Lib.hid (J2.out.below hb J2.out.lt)
      replace J3 := Lib.hid (J3.out.below hb J3.out.lt)
      replace HB := Lib.hid (HB.out.trans (hb.mono HB.out.size))
      clear o1 o2 hb hgsz hr
      go_simp
      refine hK _ _ ?_
      clear hK K
      refine wpAny_ready (rs := [3]) (by kernel_rfl) (by simp) ?_
      refine AllReady.cons rfl (fun K hK => ?_) ?_
      · have c1 := HG.out.cell 1
        go_simp
        clear c1
        refine hK _ _ ?_
        clear hK K
        refine wpAny_ready (rs := [9]) (by kernel_rfl) (by simp) ?_
        refine AllReady.cons rfl (fun K hK => ?_) ?_
        · have e0 := J0.out.cell 0
          have f0 := J0.out.frozen 0
          go_simp
          clear e0 f0
          have J1q := Lib.hid (J1.out.far (p := ⟨w.heap.size, 0, none⟩) (by simp only; omega) (.int .i64 k))
          have J2q := Lib.hid (J2.out.far (p := ⟨w.heap.size, 0, none⟩) (by simp only; omega) (.int .i64 k))
          have J3q := Lib.hid (J3.out.far (p := ⟨w.heap.size, 0, none⟩) (by simp only; omega) (.int .i64 k))
          have J0q := Lib.hid (J0.out.set_ 0 (.int .i64 k))
          have HO1q := Lib.hid (own_far HO1.out (grown_setCell yw1 w.heap.size 0 (.int .i64 k)) (by omega))
          have HO2q := Lib.hid (own_far HO2.out (grown_setCell yw1 w.heap.size 0 (.int .i64 k)) (by omega))
          have HBq := Lib.hid (HB.out.setCell (p := ⟨w.heap.size, 0, none⟩) (by simp only; omega) (.int .i64 k))
          clear J1 J2 J3 J0 HO1 HO2 HB
          have J1 := J1q
          clear J1q
          have J2 := J2q
          clear J2q
          have J3 := J3q
          clear J3q
          have J0 := J0q
          clear J0q
          have HO1 := HO1q
          clear HO1q
          have HO2 := HO2q
          clear HO2q
          have HB := HBq
          clear HBq
          generalize (yw1.setCell ⟨w.heap.size, 0, none⟩ (.int .i64 k)) = zw2 at *
          refine hK _ _ ?_
          clear hK K
          refine wpAny_ready (rs := [10]) (by kernel_rfl) (by simp) ?_
          refine AllReady.cons rfl (fun K hK => ?_) ?_
          · refine step_storeB rfl 26 (.tmp 3) (.tmp 21) rfl rfl (w.heap.size + 1) _ rfl rfl J1.out (by kernel_rfl) rfl rfl ?_
            intro zw3 hJ1 hgr _
            replace J0 := Lib.hid (J0.out.grown hgr (by intro e; have e2 : w.heap.size = w.heap.size + 1 := Option.some.inj e; omega))
            replace J2 := Lib.hid (J2.out.grown hgr (by intro e; have e2 : (w.heap.size + 1 + 1) = w.heap.size + 1 := Option.some.inj e; omega))
            replace J3 := Lib.hid (J3.out.grown hgr (by intro e; have e2 : (w.heap.size + 1 + 1 + 1) = w.heap.size + 1 := Option.some.inj e; omega))
            replace J1 := Lib.hid hJ1
            replace HO1 := Lib.hid (own_far HO1.out hgr (by omega))
            replace HO2 := Lib.hid (own_far HO2.out hgr (by omega))
            replace HB := Lib.hid (HB.out.grown hgr HB.out.size (fun x e => by have e2 : w.heap.size + 1 = x := Option.some.inj e; omega))
            clear hJ1 hgr
            refine hK _ _ ?_
            clear hK K
            refine wpAny_ready (rs := [11]) (by kernel_rfl) (by simp) ?_
            refine AllReady.cons rfl (fun K hK => ?_) ?_
            · have e0 := J2.out.cell 0
              have f0 := J2.out.frozen 0
              go_simp
              clear e0 f0
              have J0q := Lib.hid (J0.out.far (p := ⟨(w.heap.size + 1 + 1), 0, none⟩) (by simp only; omega) (.int .i64 0))
              have J1q := Lib.hid (J1.out.far (p := ⟨(w.heap.size + 1 + 1), 0, none⟩) (by simp only; omega) (.int .i64 0))
              have J3q := Lib.hid (J3.out.far (p := ⟨(w.heap.size + 1 + 1), 0, none⟩) (by simp only; omega) (.int .i64 0))
              have J2q := Lib.hid (J2.out.set_ 0 (.int .i64 0))
              have HO1q := Lib.hid (own_far HO1.out (grown_setCell zw3 (w.heap.size + 1 + 1) 0 (.int .i64 0)) (by omega))
              have HO2q := Lib.hid (own_far HO2.out (grown_setCell zw3 (w.heap.size + 1 + 1) 0 (.int .i64 0)) (by omega))
              have HBq := Lib.hid (HB.out.setCell (p := ⟨(w.heap.size + 1 + 1), 0, none⟩) (by simp only; omega) (.int .i64 0))
              clear J0 J1 J3 J2 HO1 HO2 HB
              have J0 := J0q
              clear J0q
              have J1 := J1q
              clear J1q
              have J3 := J3q
              clear J3q
              have J2 := J2q
              clear J2q
              have HO1 := HO1q
              clear HO1q
              have HO2 := HO2q
              clear HO2q
              have HB := HBq
              clear HBq
              generalize (zw3.setCell ⟨(w.heap.size + 1 + 1), 0, none⟩ (.int .i64 0)) = zw4 at *
              refine hK _ _ ?_
              clear hK K
              refine wpAny_ready (rs := [12]) (by kernel_rfl) (by simp) ?_
              refine AllReady.cons rfl (fun K hK => ?_) ?_
              · have e0 := J3.out.cell 0
                have f0 := J3.out.frozen 0
                go_simp
                clear e0 f0
                have J0q := Lib.hid (J0.out.far (p := ⟨(w.heap.size + 1 + 1 + 1), 0, none⟩) (by simp only; omega) (.int .i64 0))
                have J1q := Lib.hid (J1.out.far (p := ⟨(w.heap.size + 1 + 1 + 1), 0, none⟩) (by simp only; omega) (.int .i64 0))
                have J2q := Lib.hid (J2.out.far (p := ⟨(w.heap.size + 1 + 1 + 1), 0, none⟩) (by simp only; omega) (.int .i64 0))
                have J3q := Lib.hid (J3.out.set_ 0 (.int .i64 0))
                have HO1q := Lib.hid (own_far HO1.out (grown_setCell zw4 (w.heap.size + 1 + 1 + 1) 0 (.int .i64 0)) (by omega))
                have HO2q := Lib.hid (own_far HO2.out (grown_setCell zw4 (w.heap.size + 1 + 1 + 1) 0 (.int .i64 0)) (by omega))
                have HBq := Lib.hid (HB.out.setCell (p := ⟨(w.heap.size + 1 + 1 + 1), 0, none⟩) (by simp only; omega) (.int .i64 0))
                clear J0 J1 J2 J3 HO1 HO2 HB
                have J0 := J0q
                clear J0q
                have J1 := J1q
                clear J1q
                have J2 := J2q
                clear J2q
                have J3 := J3q
                clear J3q
                have HO1 := HO1q
                clear HO1q
                have HO2 := HO2q
                clear HO2q
                have HB := HBq
                clear HBq
                generalize (zw4.setCell ⟨(w.heap.size + 1 + 1 + 1), 0, none⟩ (.int .i64 0)) = zw5 at *
                refine hK _ _ ?_
                clear hK K
                refine wpAny_done (by kernel_rfl) ?_ _
                refine NoPanic.normal ?_
                go_wp2_with fail
                refine leaves_cons (f := 25) (args := #[.pointer (some ⟨w.heap.size, 0, none⟩), .pointer (some ⟨w.heap.size + 1, 0, none⟩), .pointer (some ⟨w.heap.size + 1 + 1, 0, none⟩), .pointer (some ⟨w.heap.size + 1 + 1 + 1, 0, none⟩)]) (by simp) (by simp [go_sem]) ?_
                refine (c_Read1 _ _ _ _ _).mono ?_
                rintro e u w9 ⟨rfl, rfl, rfl⟩
                have h0 := J0.out.cell 0
                have h2 := J2.out.cell 0
                have h3 := J3.out.cell 0
                have n0 := J1.out.cell 0
                have n1 := J1.out.cell 1
                have n2 := J1.out.cell 2
                have n3 := J1.out.cell 3
                have n4 := J1.out.cell 4
                have n5 := J1.out.cell 5
                have n6 := J1.out.cell 6
                have n7 := J1.out.cell 7
                have n8 := J1.out.cell 8
                have n9 := J1.out.cell 9
                have n10 := J1.out.cell 10
                have HF := HR.out sa2 sc2 ta2 tc2 w9 (own_base HO1.out (by omega)) (own_base HO2.out (by omega)) HB.out
                clear HR HG J0 J1 J2 J3 HO1 HO2 HB
                simp [Leaves, settle, results, Tryd.results11, go_sem, h0, h2, h3, n0, n1, n2, n3, n4, n5, n6, n7, n8, n9, n10]
                exact HF
              exact AllReady.nil
            exact AllReady.nil
          exact AllReady.nil
        exact AllReady.nil
      exact AllReady.nil
    exact AllReady.nil
  exact AllReady.nil
end Go.Proofs.YtofcdffcaiajmaaDoor
namespace Go.Proofs.YtofcdffcaiajmaaDoor
open Go.RowKit
set_option linter.unusedVariables false
attribute [local go_sem ↓] Go.wp_at_zero Go.wp_at_succ

theorem u8_wfB {xs : List Int} (h : ∀ z ∈ xs, (Lit.int .u8 z).wf = true) : ∀ z ∈ xs, 0 ≤ z ∧ z < 256 := fun z hz => by have := bounds_u8 (h z hz); omega
theorem trim_trim (xs : List Int) : trim (trim xs) = trim xs := trim_ext fun i => trim_getD xs i
theorem norm_norm (p : Pm) : p.norm.norm = p.norm := by
  unfold Pm.norm
  simp only [trim_trim]
set_option maxRecDepth 100000 in
set_option maxHeartbeats 4000000 in
theorem L_Back (W : World) (k : Int) (p : Pm) (sa : Option Addr) (sc : Nat) (ta : Option Addr) (tc : Nat) (h : RdP W p sa sc ta tc) (ho : PmOk p) (hs : ∀ z ∈ p.s, 0 ≤ z ∧ z < 256) (ht : ∀ z ∈ p.t, 0 ≤ z ∧ z < 256) (htab : Lib.TabIs Tryd.prog W "internal/strconv.uint64pow10" .u64 Lib.pow10Tab) :
    Calls Tryd.prog 3 #[.int .i64 k, pvS p sa sc ta tc] W fun e W' => e = .returned (.bool true) ∧ Below W.heap.size W W' := by
  have hb0 := (Below.refl W.heap.size W).alloc (Nat.le_refl _) (.cells (pvC p sa sc ta tc) 26)
  have hB0 := Blk.new W 26 (pvC p sa sc ta tc)
  have h0 := h.step hb0
  have HTB : Hid (∀ w, Below W.heap.size W w → Lib.TabIs Tryd.prog w "internal/strconv.uint64pow10" .u64 Lib.pow10Tab) := fun w hb => Lib.tabBelow_of_tabIs htab w hb
  have HAV := Lib.hid (fun w => c_alive w)
  have HCP : Hid (∀ w, RdP w p sa sc ta tc → Calls Tryd.prog 6 #[pvS p sa sc ta tc] w (GivesQ w p)) := fun w h => c_copied p sa sc ta tc w h
  have HCK : Hid (∀ sa sc ta tc w, Calls Tryd.prog 5 #[.int .i64 k, pvS p sa sc ta tc] w (fun e w' => e = .returned (.int .i64 (chkP k p)) ∧ Below w.heap.size w w')) := fun sa sc ta tc w => c_CheckP k p sa sc ta tc w
  have bs := h.bs
  have bt := h.bt
  have K0 := Lib.hid hB0
  have B0 := Lib.hid hb0
  clear hB0 hb0 h htab
  by_cases hc : chkP k p = 0
  · -- MAIN
    have HCK0 : Hid (∀ sa sc ta tc w, Calls Tryd.prog 5 #[.int .i64 k, pvS p sa sc ta tc] w (fun e w' => e = .returned (.int .i64 0) ∧ Below w.heap.size w w')) := by rw [← hc]; exact HCK
    have HEN : Hid (∀ sa sc ta tc w, RdP w p sa sc ta tc → Calls Tryd.prog 7 #[.int .i64 k, pvS p sa sc ta tc] w fun e w' => ∃ A c, e = .returned (.tuple #[.slice A (encB k p).length c, .int .i64 0]) ∧ w'.ownsRow w.heap.size 5 1 (.slice A (encB k p).length c) (encB k p).length (u8s (encB k p)) ∧ Below w.heap.size w w') := fun sa sc ta tc w h => by
      have h2 := c_Encode k p sa sc ta tc w h ho
      unfold EncGives at h2
      rw [hc, show encA k p = encB k p from if_pos hc] at h2
      exact h2
    have hdec := dec_enc hc ho (p.xof != 0) (by simp)
    have HDE : Hid (∀ A c w, (encB k p).length ≤ c → Reads w w.heap.size 1 A (encB k p).length (u8s (encB k p)) → Calls Tryd.prog 8 #[.int .i64 k, .slice A (encB k p).length c, .bool (p.xof != 0)] w (GivesP w p.norm 0)) := fun A c w hl hr => by
      have h2 := c_Decode k A c (encB k p) (p.xof != 0) w (by rw [encB_len hc]; unfold ksz; split <;> omega) hl hr (encB_bd hs ht)
      rw [hdec.1, hdec.2] at h2
      exact h2
    have hsm : smB k p p.norm = true ∧ smE k p p.norm = 0 := by
      have e1 : smE k p p.norm = 0 := by unfold smE; rw [if_neg (fun h => h hc)]; exact norm_chk hc
      exact ⟨by unfold smB; rw [e1, norm_norm]; simp, e1⟩
    have HSA : Hid (∀ sa1 sc1 ta1 tc1 sa2 sc2 ta2 tc2 w, RdP w p sa1 sc1 ta1 tc1 → RdP w p.norm sa2 sc2 ta2 tc2 → Calls Tryd.prog 9 #[.int .i64 k, pvS p sa1 sc1 ta1 tc1, pvS p.norm sa2 sc2 ta2 tc2] w fun e w' => e = .returned (.tuple #[.bool true, .int .i64 0]) ∧ Below w.heap.size w w') := fun sa1 sc1 ta1 tc1 sa2 sc2 ta2 tc2 w h1 h2 => by
      have h3 := c_Same k p p.norm sa1 sa2 ta1 ta2 sc1 sc2 tc1 tc2 w h1 h2 hs ht (trim_mem hs) (trim_mem ht)
      rw [hsm.1, hsm.2] at h3
      exact h3
    have HSH : Hid (∀ sa sc ta tc w, RdP w p sa sc ta tc → Lib.TabIs Tryd.prog w "internal/strconv.uint64pow10" .u64 Lib.pow10Tab → Calls Tryd.prog 10 #[.int .i64 k, pvS p sa sc ta tc] w fun e w' => e = .returned (.tuple #[bstr (pline k p.norm), .int .i64 0]) ∧ Below w.heap.size w w') := fun sa sc ta tc w h hb => by
      have h2 := c_Show k p sa sc ta tc w h ho hb hs ht
      rw [hc, if_pos rfl] at h2
      exact h2
    have HRE : Hid (∀ w, Calls Tryd.prog 11 #[bstr (pline k p.norm)] w fun e w' => ∃ sa sc ta tc, e = .returned (.tuple #[.int .i64 k, pvS p.norm sa sc ta tc, .int .i64 0, .int .i64 0]) ∧ w'.ownsRow w.heap.size 5 1 (.slice sa p.norm.s.length sc) p.norm.s.length (u8s p.norm.s) ∧ w'.ownsRow w.heap.size 5 1 (.slice ta p.norm.t.length tc) p.norm.t.length (u8s p.norm.t) ∧ Below w.heap.size w w') := fun w => by
      have h2 := c_Read k p.norm (norm_chk hc) (norm_ok ho) (trim_mem hs) (trim_mem ht) w
      rw [norm_norm] at h2
      exact h2
    have HCN : Hid (∀ sa sc ta tc w, RdP w p.norm sa sc ta tc → Calls Tryd.prog 6 #[pvS p.norm sa sc ta tc] w (GivesQ w p.norm)) := fun sa sc ta tc w h => c_copied p.norm sa sc ta tc w h
    have HAL : Hid (∀ sa1 sc1 ta1 tc1 sa2 sc2 ta2 tc2 w, RdP w p.norm sa1 sc1 ta1 tc1 → RdP w p.norm sa2 sc2 ta2 tc2 → Calls Tryd.prog 12 #[pvS p.norm sa1 sc1 ta1 tc1, pvS p.norm sa2 sc2 ta2 tc2] w fun e w' => e = .returned (.bool true) ∧ Below w.heap.size w w') := fun sa1 sc1 ta1 tc1 sa2 sc2 ta2 tc2 w h1 h2 => by
      have h3 := c_lalike p.norm p.norm sa1 sa2 ta1 ta2 sc1 sc2 tc1 tc2 w h1 h2
      rw [decide_eq_true rfl] at h3
      exact h3
    have nb1 : p.norm.s.length ≤ 140737488351232 := Nat.le_trans (trim_le p.s) bs
    have nb2 : p.norm.t.length ≤ 140737488351232 := Nat.le_trans (trim_le p.t) bt
    clear hdec hsm ho hs ht HCK hc
    have HP := K0
    have hp := h0
    have HB := B0
    clear K0 h0 B0
    simp only [pvS, pv] at *
    generalize p.norm = N at *
    generalize pline k N = PL at *
    generalize encB k p = EB at *
    go_enter Tryd.func3, Tryd.ntmps3
    go_wp2_with fail
    refine (HAV.out _).mono ?_
    rintro e w1 ⟨rfl, hb⟩
    replace HP := Lib.hid (HP.out.below hb HP.out.lt)
    replace hp := hp.step hb
    replace HB := Lib.hid (HB.out.trans (hb.mono HB.out.size))
    clear hb
    go_wp2_with (refine wpList_load_row rfl 26 (.tmp 3) rfl W.heap.size rfl 26 _ (0, 0) _ HP.out Tryd.underlying26 rfl (by kernel_rfl) ?_)
    refine (HCP.out _ hp).mono ?_
    rintro e w2 ⟨sa1, sc1, ta1, tc1, rfl, o1, o2, hb⟩
    replace HP := Lib.hid (HP.out.below hb HP.out.lt)
    replace hp := hp.step hb
    replace HB := Lib.hid (HB.out.trans (hb.mono HB.out.size))
    clear hb o1 o2
    go_wp2_with fail
    refine (HCK0.out _ _ _ _ _).mono ?_
    rintro e w3 ⟨rfl, hb⟩
    replace HP := Lib.hid (HP.out.below hb HP.out.lt)
    replace hp := hp.step hb
    replace HB := Lib.hid (HB.out.trans (hb.mono HB.out.size))
    clear hb
    go_wp2_with (refine wpList_load_row rfl 26 (.tmp 3) rfl W.heap.size rfl 26 _ (0, 0) _ HP.out Tryd.underlying26 rfl (by kernel_rfl) ?_)
    refine (HCP.out _ hp).mono ?_
    rintro e w4 ⟨sa1, sc1, ta1, tc1, rfl, o1, o2, hb⟩
    replace HP := Lib.hid (HP.out.below hb HP.out.lt)
    replace hp := hp.step hb
    replace HB := Lib.hid (HB.out.trans (hb.mono HB.out.size))
    have hr := own_rd o1 o2 bs bt
    clear hb o1 o2
    go_wp2_with fail
    refine (HEN.out _ _ _ _ _ hr).mono ?_
    rintro e w5 ⟨A, cA, rfl, oe, hb⟩
    clear hr
    replace HP := Lib.hid (HP.out.below hb HP.out.lt)
    replace hp := hp.step hb
    replace HB := Lib.hid (HB.out.trans (hb.mono HB.out.size))
    obtain ⟨A2, cA2, eA, hlA, hre⟩ := own_reads oe
    cases eA
    clear hb oe
    have x6 := HP.out.cell 6
    go_wp2_with fail
    refine (HDE.out _ _ _ hlA hre).mono ?_
    rintro e w6 ⟨sa2, sc2, ta2, tc2, rfl, o1, o2, hb⟩
    clear x6 hre hlA
    simp only [pvS, pv]
    have hb' := hb.alloc hb.size (.cells (pvC N sa2 sc2 ta2 tc2) 26)
    replace HP := Lib.hid (HP.out.below hb' HP.out.lt)
    replace hp := hp.step hb'
    replace HB := Lib.hid (HB.out.trans (hb'.mono HB.out.size))
    have HQ := Lib.hid (Blk.new w6 26 (pvC N sa2 sc2 ta2 tc2))
    have hq := (own_rd o1 o2 nb1 nb2).step ((Below.refl _ w6).alloc (Nat.le_refl _) (.cells (pvC N sa2 sc2 ta2 tc2) 26))
    have zw6 : w6.heap.size = w6.heap.size := rfl
    clear hb hb' o1 o2 zw6
    go_upto_region 9 with fail
    go_cut [9, 10] (fun s9 s10 wx => (s9 = .bool true ∧ s10 = .int .i64 0) ∧ Blk wx W.heap.size 26 (pvC p sa sc ta tc) ∧ Blk wx w6.heap.size 26 (pvC N sa2 sc2 ta2 tc2) ∧ RdP wx p sa sc ta tc ∧ RdP wx N sa2 sc2 ta2 tc2 ∧ Below W.heap.size W wx)
    case first =>
      refine wp_region_any (by kernel_rfl) ?_
      try (change wpAny _ _ _ _ _ _ _ (World.drew _))
      replace HP := Lib.hid HP.out.drew
      replace hp := hp.step (Below.refl _ _).drew
      replace HB := Lib.hid HB.out.drew
      replace HQ := Lib.hid HQ.out.drew
      replace hq := hq.step (Below.refl _ _).drew
      refine wpAny_take (i := 0) (v := .int .i64 k) rfl (by kernel_rfl) (by kernel_rfl) (by kernel_rfl) (fun _ _ _ h => h) (Or.inl ⟨by rfl, fun w => by go_simp⟩) ?_
      refine wpAny_ready (rs := [1, 3]) (by kernel_rfl) (by simp) ?_
      refine AllReady.cons rfl (fun K hK => ?_) ?_
      · refine step_load_row rfl 26 (.tmp 3) rfl W.heap.size rfl HP.out _ Tryd.underlying26 rfl (by kernel_rfl) ?_
        refine hK _ _ ?_
        clear hK K
        refine wpAny_ready (rs := [2, 3]) (by kernel_rfl) (by simp) ?_
        refine AllReady.cons rfl (fun K hK => ?_) ?_
        · go_simp
          refine (HCP.out _ hp).mono ?_
          rintro e w7 ⟨sa4, sc4, ta4, tc4, rfl, o1, o2, hb⟩
          replace HP := Lib.hid (HP.out.below hb HP.out.lt)
          replace hp := hp.step hb
          replace HB := Lib.hid (HB.out.trans (hb.mono HB.out.size))
          replace HQ := Lib.hid (HQ.out.below hb HQ.out.lt)
          replace hq := hq.step hb
          have hr := own_rd o1 o2 bs bt
          clear hb o1 o2
          go_simp
          refine hK _ _ ?_
          clear hK K
          refine wpAny_ready (rs := [3]) (by kernel_rfl) (by simp) ?_
          refine AllReady.cons rfl (fun K hK => ?_) ?_
          · refine step_load_row rfl 26 (.tmp 7) rfl w6.heap.size rfl HQ.out _ Tryd.underlying26 rfl (by kernel_rfl) ?_
            refine hK _ _ ?_
            clear hK K
            refine wpAny_ready (rs := [4]) (by kernel_rfl) (by simp) ?_
            refine AllReady.cons rfl (fun K hK => ?_) ?_
            · go_simp
              refine (HCN.out _ _ _ _ _ hq).mono ?_
              rintro e w8 ⟨sa5, sc5, ta5, tc5, rfl, o1, o2, hb⟩
              replace HP := Lib.hid (HP.out.below hb HP.out.lt)
              replace hp := hp.step hb
              replace HB := Lib.hid (HB.out.trans (hb.mono HB.out.size))
              replace HQ := Lib.hid (HQ.out.below hb HQ.out.lt)
              replace hq := hq.step hb
              replace hr := hr.step hb
              have hs2 := own_rd o1 o2 nb1 nb2
              clear hb o1 o2
              go_simp
              refine hK _ _ ?_
              clear hK K
              refine wpAny_ready (rs := [5]) (by kernel_rfl) (by simp) ?_
              refine AllReady.cons rfl (fun K hK => ?_) ?_
              · go_simp
                refine (HSA.out _ _ _ _ _ _ _ _ _ hr hs2).mono ?_
                rintro e w9 ⟨rfl, hb⟩
                replace HP := Lib.hid (HP.out.below hb HP.out.lt)
                replace hp := hp.step hb
                replace HB := Lib.hid (HB.out.trans (hb.mono HB.out.size))
                replace HQ := Lib.hid (HQ.out.below hb HQ.out.lt)
                replace hq := hq.step hb
                replace hr := hr.step hb
                replace hs2 := hs2.step hb
                clear hb
                go_simp
                refine hK _ _ ?_
                clear hK K
                refine wpAny_ready (rs := [6]) (by kernel_rfl) (by simp) ?_
                refine AllReady.cons rfl (fun K hK => ?_) ?_
                · go_simp
                  refine hK _ _ ?_
                  clear hK K
                  refine wpAny_ready (rs := [7, 8]) (by kernel_rfl) (by simp) ?_
                  refine AllReady.cons rfl (fun K hK => ?_) ?_
                  · go_simp
                    refine hK _ _ ?_
                    clear hK K
                    refine wpAny_ready (rs := [8, 9]) (by kernel_rfl) (by simp) ?_
                    refine AllReady.cons rfl (fun K hK => ?_) ?_
                    · go_simp
                      refine hK _ _ ?_
                      clear hK K
                      refine wpAny_ready (rs := [9]) (by kernel_rfl) (by simp) ?_
                      refine AllReady.cons rfl (fun K hK => ?_) ?_
                      · go_simp
                        refine hK _ _ ?_
                        clear hK K
                        refine wpAny_ready (rs := [10]) (by kernel_rfl) (by simp) ?_
                        refine AllReady.cons rfl (fun K hK => ?_) ?_
                        · go_simp
                          refine hK _ _ ?_
                          clear hK K
                          refine wpAny_done (by kernel_rfl) ?_ _
                          go_wp2_with fail
                          go_meet
                          exact ⟨⟨rfl, rfl⟩, HP.out, HQ.out, hp, hq, HB.out⟩
                        exact AllReady.nil
                      exact AllReady.nil
                    refine AllReady.cons rfl (fun K hK => ?_) ?_
                    · go_simp
                      refine hK _ _ ?_
                      clear hK K
                      refine wpAny_ready (rs := [8]) (by kernel_rfl) (by simp) ?_
                      refine AllReady.cons rfl (fun K hK => ?_) ?_
                      · go_simp
                        refine hK _ _ ?_
                        clear hK K
                        refine wpAny_ready (rs := [10]) (by kernel_rfl) (by simp) ?_
                        refine AllReady.cons rfl (fun K hK => ?_) ?_
                        · go_simp
                          refine hK _ _ ?_
                          clear hK K
                          refine wpAny_done (by kernel_rfl) ?_ _
                          go_wp2_with fail
                          go_meet
                          exact ⟨⟨rfl, rfl⟩, HP.out, HQ.out, hp, hq, HB.out⟩
                        exact AllReady.nil
                      exact AllReady.nil
                    exact AllReady.nil
                  refine AllReady.cons rfl (fun K hK => ?_) ?_
                  · go_simp
                    refine hK _ _ ?_
                    clear hK K
                    refine wpAny_ready (rs := [7]) (by kernel_rfl) (by simp) ?_
                    refine AllReady.cons rfl (fun K hK => ?_) ?_
                    · go_simp
                      refine hK _ _ ?_
                      clear hK K
                      refine wpAny_ready (rs := [9]) (by kernel_rfl) (by simp) ?_
                      refine AllReady.cons rfl (fun K hK => ?_) ?_
                      · go_simp
                        refine hK _ _ ?_
                        clear hK K
                        refine wpAny_ready (rs := [10]) (by kernel_rfl) (by simp) ?_
                        refine AllReady.cons rfl (fun K hK => ?_) ?_
                        · go_simp
                          refine hK _ _ ?_
                          clear hK K
                          refine wpAny_done (by kernel_rfl) ?_ _
                          go_wp2_with fail
                          go_meet
                          exact ⟨⟨rfl, rfl⟩, HP.out, HQ.out, hp, hq, HB.out⟩
                        exact AllReady.nil
                      exact AllReady.nil
                    exact AllReady.nil
                  exact AllReady.nil
                exact AllReady.nil
              exact AllReady.nil
            exact AllReady.nil
          exact AllReady.nil
        refine AllReady.cons rfl (fun K hK => ?_) ?_
        · refine step_load_row rfl 26 (.tmp 7) rfl w6.heap.size rfl HQ.out _ Tryd.underlying26 rfl (by kernel_rfl) ?_
          refine hK _ _ ?_
          clear hK K
          refine wpAny_ready (rs := [2]) (by kernel_rfl) (by simp) ?_
          refine AllReady.cons rfl (fun K hK => ?_) ?_
          · go_simp
            refine (HCP.out _ hp).mono ?_
            rintro e w7 ⟨sa4, sc4, ta4, tc4, rfl, o1, o2, hb⟩
            replace HP := Lib.hid (HP.out.below hb HP.out.lt)
            replace hp := hp.step hb
            replace HB := Lib.hid (HB.out.trans (hb.mono HB.out.size))
            replace HQ := Lib.hid (HQ.out.below hb HQ.out.lt)
            replace hq := hq.step hb
            have hr := own_rd o1 o2 bs bt
            clear hb o1 o2
            go_simp
            refine hK _ _ ?_
            clear hK K
            refine wpAny_ready (rs := [4]) (by kernel_rfl) (by simp) ?_
            refine AllReady.cons rfl (fun K hK => ?_) ?_
            · go_simp
              refine (HCN.out _ _ _ _ _ hq).mono ?_
              rintro e w8 ⟨sa5, sc5, ta5, tc5, rfl, o1, o2, hb⟩
              replace HP := Lib.hid (HP.out.below hb HP.out.lt)
              replace hp := hp.step hb
              replace HB := Lib.hid (HB.out.trans (hb.mono HB.out.size))
              replace HQ := Lib.hid (HQ.out.below hb HQ.out.lt)
              replace hq := hq.step hb
              replace hr := hr.step hb
              have hs2 := own_rd o1 o2 nb1 nb2
              clear hb o1 o2
              go_simp
              refine hK _ _ ?_
              clear hK K
              refine wpAny_ready (rs := [5]) (by kernel_rfl) (by simp) ?_
              refine AllReady.cons rfl (fun K hK => ?_) ?_
              · go_simp
                refine (HSA.out _ _ _ _ _ _ _ _ _ hr hs2).mono ?_
                rintro e w9 ⟨rfl, hb⟩
                replace HP := Lib.hid (HP.out.below hb HP.out.lt)
                replace hp := hp.step hb
                replace HB := Lib.hid (HB.out.trans (hb.mono HB.out.size))
                replace HQ := Lib.hid (HQ.out.below hb HQ.out.lt)
                replace hq := hq.step hb
                replace hr := hr.step hb
                replace hs2 := hs2.step hb
                clear hb
                go_simp
                refine hK _ _ ?_
                clear hK K
                refine wpAny_ready (rs := [6]) (by kernel_rfl) (by simp) ?_
                refine AllReady.cons rfl (fun K hK => ?_) ?_
                · go_simp
                  refine hK _ _ ?_
                  clear hK K
                  refine wpAny_ready (rs := [7, 8]) (by kernel_rfl) (by simp) ?_
                  refine AllReady.cons rfl (fun K hK => ?_) ?_
                  · go_simp
                    refine hK _ _ ?_
                    clear hK K
                    refine wpAny_ready (rs := [8, 9]) (by kernel_rfl) (by simp) ?_
                    refine AllReady.cons rfl (fun K hK => ?_) ?_
                    · go_simp
                      refine hK _ _ ?_
                      clear hK K
                      refine wpAny_ready (rs := [9]) (by kernel_rfl) (by simp) ?_
                      refine AllReady.cons rfl (fun K hK => ?_) ?_
                      · go_simp
                        refine hK _ _ ?_
                        clear hK K
                        refine wpAny_ready (rs := [10]) (by kernel_rfl) (by simp) ?_
                        refine AllReady.cons rfl (fun K hK => ?_) ?_
                        · go_simp
                          refine hK _ _ ?_
                          clear hK K
                          refine wpAny_done (by kernel_rfl) ?_ _
                          go_wp2_with fail
                          go_meet
                          exact ⟨⟨rfl, rfl⟩, HP.out, HQ.out, hp, hq, HB.out⟩
                        exact AllReady.nil
                      exact AllReady.nil
                    refine AllReady.cons rfl (fun K hK => ?_) ?_
                    · go_simp
                      refine hK _ _ ?_
                      clear hK K
                      refine wpAny_ready (rs := [8]) (by kernel_rfl) (by simp) ?_
                      refine AllReady.cons rfl (fun K hK => ?_) ?_
                      · go_simp
                        refine hK _ _ ?_
                        clear hK K
                        refine wpAny_ready (rs := [10]) (by kernel_rfl) (by simp) ?_
                        refine AllReady.cons rfl (fun K hK => ?_) ?_
                        · go_simp
                          refine hK _ _ ?_
                          clear hK K
                          refine wpAny_done (by kernel_rfl) ?_ _
                          go_wp2_with fail
                          go_meet
                          exact ⟨⟨rfl, rfl⟩, HP.out, HQ.out, hp, hq, HB.out⟩
                        exact AllReady.nil
                      exact AllReady.nil
                    exact AllReady.nil
                  refine AllReady.cons rfl (fun K hK => ?_) ?_
                  · go_simp
                    refine hK _ _ ?_
                    clear hK K
                    refine wpAny_ready (rs := [7]) (by kernel_rfl) (by simp) ?_
                    refine AllReady.cons rfl (fun K hK => ?_) ?_
                    · go_simp
                      refine hK _ _ ?_
                      clear hK K
                      refine wpAny_ready (rs := [9]) (by kernel_rfl) (by simp) ?_
                      refine AllReady.cons rfl (fun K hK => ?_) ?_
                      · go_simp
                        refine hK _ _ ?_
                        clear hK K
                        refine wpAny_ready (rs := [10]) (by kernel_rfl) (by simp) ?_
                        refine AllReady.cons rfl (fun K hK => ?_) ?_
                        · go_simp
                          refine hK _ _ ?_
                          clear hK K
                          refine wpAny_done (by kernel_rfl) ?_ _
                          go_wp2_with fail
                          go_meet
                          exact ⟨⟨rfl, rfl⟩, HP.out, HQ.out, hp, hq, HB.out⟩
                        exact AllReady.nil
                      exact AllReady.nil
                    exact AllReady.nil
                  exact AllReady.nil
                exact AllReady.nil
              exact AllReady.nil
            exact AllReady.nil
          exact AllReady.nil
        exact AllReady.nil
      refine AllReady.cons rfl (fun K hK => ?_) ?_
      · refine step_load_row rfl 26 (.tmp 7) rfl w6.heap.size rfl HQ.out _ Tryd.underlying26 rfl (by kernel_rfl) ?_
        refine hK _ _ ?_
        clear hK K
        refine wpAny_ready (rs := [1]) (by kernel_rfl) (by simp) ?_
        refine AllReady.cons rfl (fun K hK => ?_) ?_
        · refine step_load_row rfl 26 (.tmp 3) rfl W.heap.size rfl HP.out _ Tryd.underlying26 rfl (by kernel_rfl) ?_
          refine hK _ _ ?_
          clear hK K
          refine wpAny_ready (rs := [2]) (by kernel_rfl) (by simp) ?_
          refine AllReady.cons rfl (fun K hK => ?_) ?_
          · go_simp
            refine (HCP.out _ hp).mono ?_
            rintro e w7 ⟨sa4, sc4, ta4, tc4, rfl, o1, o2, hb⟩
            replace HP := Lib.hid (HP.out.below hb HP.out.lt)
            replace hp := hp.step hb
            replace HB := Lib.hid (HB.out.trans (hb.mono HB.out.size))
            replace HQ := Lib.hid (HQ.out.below hb HQ.out.lt)
            replace hq := hq.step hb
            have hr := own_rd o1 o2 bs bt
            clear hb o1 o2
            go_simp
            refine hK _ _ ?_
            clear hK K
            refine wpAny_ready (rs := [4]) (by kernel_rfl) (by simp) ?_
            refine AllReady.cons rfl (fun K hK => ?_) ?_
            · go_simp
              refine (HCN.out _ _ _ _ _ hq).mono ?_
              rintro e w8 ⟨sa5, sc5, ta5, tc5, rfl, o1, o2, hb⟩
              replace HP := Lib.hid (HP.out.below hb HP.out.lt)
              replace hp := hp.step hb
              replace HB := Lib.hid (HB.out.trans (hb.mono HB.out.size))
              replace HQ := Lib.hid (HQ.out.below hb HQ.out.lt)
              replace hq := hq.step hb
              replace hr := hr.step hb
              have hs2 := own_rd o1 o2 nb1 nb2
              clear hb o1 o2
              go_simp
              refine hK _ _ ?_
              clear hK K
              refine wpAny_ready (rs := [5]) (by kernel_rfl) (by simp) ?_
              refine AllReady.cons rfl (fun K hK => ?_) ?_
              · go_simp
                refine (HSA.out _ _ _ _ _ _ _ _ _ hr hs2).mono ?_
                rintro e w9 ⟨rfl, hb⟩
                replace HP := Lib.hid (HP.out.below hb HP.out.lt)
                replace hp := hp.step hb
                replace HB := Lib.hid (HB.out.trans (hb.mono HB.out.size))
                replace HQ := Lib.hid (HQ.out.below hb HQ.out.lt)
                replace hq := hq.step hb
                replace hr := hr.step hb
                replace hs2 := hs2.step hb
                clear hb
                go_simp
                refine hK _ _ ?_
                clear hK K
                refine wpAny_ready (rs := [6]) (by kernel_rfl) (by simp) ?_
                refine AllReady.cons rfl (fun K hK => ?_) ?_
                · go_simp
                  refine hK _ _ ?_
                  clear hK K
                  refine wpAny_ready (rs := [7, 8]) (by kernel_rfl) (by simp) ?_
                  refine AllReady.cons rfl (fun K hK => ?_) ?_
                  · go_simp
                    refine hK _ _ ?_
                    clear hK K
                    refine wpAny_ready (rs := [8, 9]) (by kernel_rfl) (by simp) ?_
                    refine AllReady.cons rfl (fun K hK => ?_) ?_
                    · go_simp
                      refine hK _ _ ?_
                      clear hK K
                      refine wpAny_ready (rs := [9]) (by kernel_rfl) (by simp) ?_
                      refine AllReady.cons rfl (fun K hK => ?_) ?_
                      · go_simp
                        refine hK _ _ ?_
                        clear hK K
                        refine wpAny_ready (rs := [10]) (by kernel_rfl) (by simp) ?_
                        refine AllReady.cons rfl (fun K hK => ?_) ?_
                        · go_simp
                          refine hK _ _ ?_
                          clear hK K
                          refine wpAny_done (by kernel_rfl) ?_ _
                          go_wp2_with fail
                          go_meet
                          exact ⟨⟨rfl, rfl⟩, HP.out, HQ.out, hp, hq, HB.out⟩
                        exact AllReady.nil
                      exact AllReady.nil
                    refine AllReady.cons rfl (fun K hK => ?_) ?_
                    · go_simp
                      refine hK _ _ ?_
                      clear hK K
                      refine wpAny_ready (rs := [8]) (by kernel_rfl) (by simp) ?_
                      refine AllReady.cons rfl (fun K hK => ?_) ?_
                      · go_simp
                        refine hK _ _ ?_
                        clear hK K
                        refine wpAny_ready (rs := [10]) (by kernel_rfl) (by simp) ?_
                        refine AllReady.cons rfl (fun K hK => ?_) ?_
                        · go_simp
                          refine hK _ _ ?_
                          clear hK K
                          refine wpAny_done (by kernel_rfl) ?_ _
                          go_wp2_with fail
                          go_meet
                          exact ⟨⟨rfl, rfl⟩, HP.out, HQ.out, hp, hq, HB.out⟩
                        exact AllReady.nil
                      exact AllReady.nil
                    exact AllReady.nil
                  refine AllReady.cons rfl (fun K hK => ?_) ?_
                  · go_simp
                    refine hK _ _ ?_
                    clear hK K
                    refine wpAny_ready (rs := [7]) (by kernel_rfl) (by simp) ?_
                    refine AllReady.cons rfl (fun K hK => ?_) ?_
                    · go_simp
                      refine hK _ _ ?_
                      clear hK K
                      refine wpAny_ready (rs := [9]) (by kernel_rfl) (by simp) ?_
                      refine AllReady.cons rfl (fun K hK => ?_) ?_
                      · go_simp
                        refine hK _ _ ?_
                        clear hK K
                        refine wpAny_ready (rs := [10]) (by kernel_rfl) (by simp) ?_
                        refine AllReady.cons rfl (fun K hK => ?_) ?_
                        · go_simp
                          refine hK _ _ ?_
                          clear hK K
                          refine wpAny_done (by kernel_rfl) ?_ _
                          go_wp2_with fail
                          go_meet
                          exact ⟨⟨rfl, rfl⟩, HP.out, HQ.out, hp, hq, HB.out⟩
                        exact AllReady.nil
                      exact AllReady.nil
                    exact AllReady.nil
                  exact AllReady.nil
                exact AllReady.nil
              exact AllReady.nil
            exact AllReady.nil
          exact AllReady.nil
        exact AllReady.nil
      exact AllReady.nil
    case rest =>
      obtain ⟨⟨rfl, rfl⟩, hP, hQ, hp1, hq1, hB⟩ := hcut
      clear HP HQ HB hp hq
      have HP := Lib.hid hP
      have HQ := Lib.hid hQ
      have HB := Lib.hid hB
      have hp := hp1
      have hq := hq1
      clear hP hQ hB hp1 hq1
      go_wp2_with (refine wpList_load_row rfl 26 (.tmp 3) rfl W.heap.size rfl 26 _ (0, 0) _ HP.out Tryd.underlying26 rfl (by kernel_rfl) ?_)
      refine (HCP.out _ hp).mono ?_
      rintro e w7 ⟨sa6, sc6, ta6, tc6, rfl, o1, o2, hb⟩
      replace HP := Lib.hid (HP.out.below hb HP.out.lt)
      replace hp := hp.step hb
      replace HB := Lib.hid (HB.out.trans (hb.mono HB.out.size))
      replace HQ := Lib.hid (HQ.out.below hb HQ.out.lt)
      replace hq := hq.step hb
      have hr := own_rd o1 o2 bs bt
      clear hb o1 o2
      go_wp2_with fail
      refine (HSH.out _ _ _ _ _ hr (HTB.out _ HB.out)).mono ?_
      rintro e w8 ⟨rfl, hb⟩
      clear hr
      replace HP := Lib.hid (HP.out.below hb HP.out.lt)
      replace hp := hp.step hb
      replace HB := Lib.hid (HB.out.trans (hb.mono HB.out.size))
      replace HQ := Lib.hid (HQ.out.below hb HQ.out.lt)
      replace hq := hq.step hb
      clear hb
      go_wp2_with fail
      refine (HRE.out _).mono ?_
      rintro e w9 ⟨sa7, sc7, ta7, tc7, rfl, o1, o2, hb⟩
      simp only [pvS, pv]
      have hb' := hb.alloc hb.size (.cells (pvC N sa7 sc7 ta7 tc7) 26)
      replace HP := Lib.hid (HP.out.below hb' HP.out.lt)
      replace hp := hp.step hb'
      replace HB := Lib.hid (HB.out.trans (hb'.mono HB.out.size))
      replace HQ := Lib.hid (HQ.out.below hb' HQ.out.lt)
      replace hq := hq.step hb'
      have HR := Lib.hid (Blk.new w9 26 (pvC N sa7 sc7 ta7 tc7))
      have hx := (own_rd o1 o2 nb1 nb2).step ((Below.refl _ w9).alloc (Nat.le_refl _) (.cells (pvC N sa7 sc7 ta7 tc7) 26))
      have zw9 : w9.heap.size = w9.heap.size := rfl
      clear hb hb' o1 o2 zw9
      go_wp2_with (first | (refine wpList_load_row rfl 26 (.tmp 13) rfl w9.heap.size rfl 26 _ (0, 0) _ HR.out Tryd.underlying26 rfl (by kernel_rfl) ?_) | (refine wpList_load_row rfl 26 (.tmp 7) rfl w6.heap.size rfl 26 _ (0, 0) _ HQ.out Tryd.underlying26 rfl (by kernel_rfl) ?_))
      refine (HAL.out _ _ _ _ _ _ _ _ _ hx hq).mono ?_
      rintro e w10 ⟨rfl, hb⟩
      replace HP := Lib.hid (HP.out.below hb HP.out.lt)
      replace hp := hp.step hb
      replace HB := Lib.hid (HB.out.trans (hb.mono HB.out.size))
      replace HQ := Lib.hid (HQ.out.below hb HQ.out.lt)
      replace hq := hq.step hb
      replace HR := Lib.hid (HR.out.below hb HR.out.lt)
      replace hx := hx.step hb
      clear hb
      go_wp2_with fail
      go_ret
      exact ⟨rfl, HB.out⟩
  · have hne : (chkP k p != 0) = true := by simpa using hc
    clear HTB ho hs ht
    generalize chkP k p = E at *
    simp only [pvS, pv]
    go_enter Tryd.func3, Tryd.ntmps3
    go_wp2_with fail
    refine (HAV.out _).mono ?_
    rintro e w1 ⟨rfl, hb1⟩
    have h1 := h0.step hb1
    have K1 := Lib.hid (K0.out.below hb1 (by simp))
    have B1 := Lib.hid (below_step B0.out hb1)
    clear hb1 h0 HAV
    go_wp2_with (refine wpList_load_row rfl 26 (.tmp 3) rfl W.heap.size rfl 26 _ (0, 0) _ K1.out Tryd.underlying26 rfl (by kernel_rfl) ?_)
    refine (HCP.out _ h1).mono ?_
    rintro e w2 ⟨sa1, sc1, ta1, tc1, rfl, o1, o2, hb2⟩
    have B2 := Lib.hid (below_step B1.out hb2)
    clear hb2 o1 o2 h1 K1
    go_wp2_with fail
    refine (HCK.out _ _ _ _ _).mono ?_
    rintro e w3 ⟨rfl, hb3⟩
    have B3 := Lib.hid (below_step B2.out hb3)
    clear hb3
    go_wp2
    go_ret
    exact ⟨rfl, B3.out⟩
theorem l_ParamBack (W : World) (htab : Lib.TabIs Tryd.prog W "internal/strconv.uint64pow10" .u64 Lib.pow10Tab) (k : Int) (wk : (Lit.int .i64 k).wf = true) (d : Int) (wd : (Lit.int .i64 d).wf = true) (key : Int) (wkey : (Lit.int .i64 key).wf = true) (fo : Int) (wfo : (Lit.int .i64 fo).wf = true) (de : Int) (wde : (Lit.int .i64 de).wf = true)
    (leaf : Int) (wleaf : (Lit.int .u32 leaf).wf = true) (off : Int) (woff : (Lit.int .u64 off).wf = true) (xof : Int) (wxof : (Lit.int .u32 xof).wf = true) (nd : Int) (wnd : (Lit.int .i64 nd).wf = true) (inn : Int) (winn : (Lit.int .i64 inn).wf = true)
    (sa : Option Addr) (sn sc : Nat) (xs : List Int) (hr : RdInts W .u8 1 sa sn sc xs) (ta : Option Addr) (tn tc : Nat) (ys : List Int) (hr' : RdInts W .u8 1 ta tn tc ys) :
    Calls Tryd.prog 3 #[.int .i64 k, .agg #[.int .i64 d, .int .i64 key, .int .i64 fo, .int .i64 de, .int .u32 leaf, .int .u64 off, .int .u32 xof, .int .i64 nd, .int .i64 inn, .slice sa sn sc, .slice ta tn tc]] W fun e W' => e = .returned (.bool true) ∧ Below W.heap.size W W' := by
  obtain ⟨hc, hm, hwf, hrd⟩ := hr
  obtain ⟨hc', hm', hwf', hrd'⟩ := hr'
  have hl : xs.length = sn := by simpa using hrd.1
  have hl' : ys.length = tn := by simpa using hrd'.1
  subst hl; subst hl'
  have b1 := bounds_u32 wleaf
  have b2 := bounds_u64 woff
  have b3 := bounds_u32 wxof
  exact L_Back W k ⟨d, key, fo, de, leaf, off, xof, nd, inn, xs, ys⟩ sa sc ta tc ⟨hc, hc', by simp only; omega, by simp only; omega, hrd, hrd'⟩ ⟨by simp only; omega, by simp only; omega, by simp only; omega⟩ (u8_wfB hwf) (u8_wfB hwf') htab
end Go.Proofs.YtofcdffcaiajmaaDoor
