/- Walks: the text of 0.1 (strings.Cut, strings.Replace, float.Text at that one input), and the call that the laws ask first. Conditions: the library's tables read as they were laid. What a laid table of rows of two words says of its cells. Conditions: none. The law that sums do not hang on the order and that a mean lies between, walked behind a call that is alive. Conditions: at most 1048576 floats. The law that sums do not hang on the order, at any memory that bears the library's tables. Conditions: at most 1048576 floats. -/
import Derived.Test.YtcohidjaehdbnaaGreatDoorM1
import Derived.Test.YtcohidjaehdbnaaGreatDoorLv
import Derived.Test.YtcohidjaehdbnaaGreatDoorHb
import Derived.BigQuiet
import Derived.Lib.AtoiErrMem
import Derived.Lib.LaidTab
import Derived.ChangeArms
import Derived.Test.YtcohidjaehdbnaaGreatDoorHf
import Derived.Test.YtcohidjaehdbnaaGreatDoorGu
import Derived.Test.YtcohidjaehdbnaaGreatDoorFz
import Derived.Test.YtcohidjaehdbnaaGreatDoorSrt
import Derived.Deep.RegionHeld3
import Derived.IntWalk
import Derived.Test.YtcohidjaehdbnaaGreatDoorLfs
namespace Go.Proofs.YtcohidjaehdbnaaGreatDoor
open Go.RowKit Go.Shelf
set_option linter.unusedVariables false
attribute [local go_sem ↓] Go.wp_at_zero Go.wp_at_succ

theorem c_IdxE (w : World) : Calls Tryz.prog 68 #[bstr [49, 101, 45, 48, 49], .string ⟨#[101]⟩] w fun e w' => e = .returned (.int .i64 1) ∧ w = w' := by
  refine (Any.stringslite_Index_one lays219 ⟨#[49, 101, 45, 48, 49]⟩ 101 w).mono fun e w' ⟨h1, h2⟩ => ⟨?_, h2.symm⟩
  rw [h1]
  have : Lib.indexByte (⟨#[49, 101, 45, 48, 49]⟩ : ByteArray).data.toList 101 = 1 := by decide +kernel
  rw [this]
theorem c_CntP (w : World) : Calls Tryz.prog 50 #[bstr [49], .string ⟨#[46]⟩] w fun e w' => e = .returned (.int .i64 0) ∧ w = w' := by
  refine (Any.strings_Count_one lays138 ⟨#[49]⟩ 46 w).mono fun e w' ⟨h1, h2⟩ => ⟨?_, h2.symm⟩
  rw [h1]
  have : Lib.countByte (⟨#[49]⟩ : ByteArray).data.toList 46 = 0 := by decide +kernel
  rw [this]; rfl
theorem c_Rep0 (w : World) : Calls Tryz.prog 34 #[.string ⟨#[48]⟩, .int .i64 0] w fun e w' => e = .returned (.string ⟨#[]⟩) ∧ w = w' :=
  (Any.strings_Repeat_zero lays105 ⟨#[48]⟩ w).mono fun e w' ⟨h1, h2⟩ => ⟨h1, h2.symm⟩
theorem c_AtoiM (w : World) : Calls Tryz.prog 31 #[bstr [45, 48, 49]] w fun e w' => e = .returned (.tuple #[.int .i64 (-1), .nilIface]) ∧ Below w.heap.size w w' := by
  refine (Any.strconv_Atoi lays172 ⟨#[45, 48, 49]⟩ (-1) (by decide) (by decide +kernel) w).mono ?_
  rintro e w' ⟨rfl, t, rfl⟩
  exact ⟨rfl, Lib.bytesWorld_below _ _ _⟩
theorem c_CutE (w : World) : Calls Tryz.prog 30 #[bstr [49, 101, 45, 48, 49], .string ⟨#[101]⟩] w fun e w' => e = .returned (.tuple #[bstr [49], bstr [45, 48, 49], .bool true]) ∧ Below w.heap.size w w' := by
  have HI := Lib.hid c_IdxE
  have e1 : (⟨#[49, 101, 45, 48, 49]⟩ : ByteArray).extract 0 1 = ⟨#[49]⟩ := by decide +kernel
  have e2 : (⟨#[49, 101, 45, 48, 49]⟩ : ByteArray).extract 2 5 = ⟨#[45, 48, 49]⟩ := by decide +kernel
  have hsz : (⟨#[49, 101, 45, 48, 49]⟩ : ByteArray).size = 5 := rfl
  have HC : Hid (∀ W, Calls Tryz.prog 47 #[bstr [49, 101, 45, 48, 49], .string ⟨#[101]⟩] W fun e w' => e = .returned (.tuple #[bstr [49], bstr [45, 48, 49], .bool true]) ∧ Below W.heap.size W w') := fun W => by
    go_enter Tryz.func47, Tryz.ntmps47
    go_wp2_with (go_at_call 68; refine (HI.out _).mono ?_; rintro e w' ⟨rfl, rfl⟩)
    go_quiet (fail)
    go_wp2_with fail
    go_ret3
    exact ⟨by first | rfl | (show Ending.returned (.tuple #[.string ((⟨#[49, 101, 45, 48, 49]⟩ : ByteArray).extract 0 1), .string ((⟨#[49, 101, 45, 48, 49]⟩ : ByteArray).extract 2 5), .bool true]) = _; rw [e1, e2]), below_drewN (Below.refl _ _) _⟩
  go_enter Tryz.func30, Tryz.ntmps30
  go_wp2_with (go_at_call 47; refine (HC.out _).mono ?_; rintro e w1 ⟨rfl, hb⟩)
  go_ret3
  exact ⟨rfl, hb⟩
theorem c_ReplP (w : World) : Calls Tryz.prog 32 #[bstr [49], .string ⟨#[46]⟩, .string ⟨#[]⟩, .int .i64 1] w fun e w' => e = .returned (bstr [49]) ∧ w = w' := by
  have HI := Lib.hid c_CntP
  go_enter Tryz.func32, Tryz.ntmps32
  go_wp2_with fail
  refine (HI.out _).mono ?_; rintro e w' ⟨rfl, rfl⟩
  go_wp2
  go_ret
  exact ⟨rfl, rfl⟩
set_option maxRecDepth 100000 in
theorem c_Text1 (w : World) (ht : Tab w) : Calls Tryz.prog 14 #[.float .f64 4591870180066957722] w fun e w' => e = .returned (bstr [48, 46, 49]) ∧ Below w.heap.size w w' := by
  have HCl := Lib.hid (c_Class 4591870180066957722 (by decide) w)
  rw [show fclass 4591870180066957722 = 5 from by decide +kernel, show fneg 4591870180066957722 = false from by decide +kernel] at HCl
  have HF := Lib.hid (c_FF w ht)
  clear ht
  go_enter Tryz.func14, Tryz.ntmps14
  go_wp2_with fail
  refine HCl.out.mono ?_; rintro e w' ⟨rfl, rfl⟩
  go_wp2_with fail
  refine HF.out.mono ?_; rintro e w1 ⟨rfl, hb1⟩
  have HB1 := Lib.hid hb1
  clear hb1
  go_wp2_with fail
  refine (c_CutE _).mono ?_; rintro e w2 ⟨rfl, hb2⟩
  have HB2 := Lib.hid (HB1.out.trans (hb2.mono HB1.out.size))
  clear hb2
  go_wp2_with fail
  refine (c_AtoiM _).mono ?_; rintro e w3 ⟨rfl, hb3⟩
  have HB3 := Lib.hid (HB2.out.trans (hb3.mono HB2.out.size))
  clear hb3
  go_wp2_with fail
  refine (c_ReplP _).mono ?_; rintro e w4 ⟨rfl, rfl⟩
  go_wp2_with fail
  refine (c_Rep0 _).mono ?_; rintro e w4 ⟨rfl, rfl⟩
  go_wp2
  go_ret
  exact ⟨rfl, HB3.out⟩
theorem c_alive (w : World) (ht : Tab w) : Alive w := by
  have HF := Lib.hid (c_Text1 w ht)
  unfold Alive
  go_enter Tryz.func6, Tryz.ntmps6
  go_wp2_with fail
  refine HF.out.mono ?_; rintro e w1 ⟨rfl, hb1⟩
  have HB1 := Lib.hid hb1
  clear hb1
  go_wp2
  go_ret
  exact ⟨rfl, HB1.out⟩
end Go.Proofs.YtcohidjaehdbnaaGreatDoor
namespace Go.Proofs.YtcohidjaehdbnaaGreatDoor
open Go.RowKit Go.Lib
set_option linter.unusedVariables false

theorem cell_of_rows {H : Type} {enc : TypeId × Value → H} {P : Program} {w : World} {base : Nat} {sp : Nat → Bool} {held : Bool} {fuel : Nat} {t e : TypeId} {n : Nat} {f0 f1 : Field} {cs : List Value} {ds : List (DataW H)} {p : List MemPlace}
    (ht : P.underlying t = some (.array n e)) (he : P.underlying e = some (.struct #[f0, f1])) (hce : P.cellsOf e = 2)
    (o0 : f0.offset = 0) (o1 : f1.offset = 1) (u0 : P.underlying f0.type = some (.int .u64)) (u1 : P.underlying f1.type = some (.int .u64)) (c0 : P.cellsOf f0.type = 1) (c1 : P.cellsOf f1.type = 1)
    (h : DataW.trod enc P w base sp held fuel t cs = some (.agg ds, p)) {i : Nat} {x y : Int} (hi : ds[i]? = some (.agg [.lit (.int .u64 x), .lit (.int .u64 y)])) :
    cs[i * 2]? = some (.int .u64 x) ∧ cs[i * 2 + 1]? = some (.int .u64 y) := by
  cases fuel with
  | zero => simp [DataW.trod] at h
  | succ fuel =>
    simp only [DataW.trod, ht, hce] at h
    split at h
    · rename_i hl
      obtain ⟨xs, hm, hx⟩ := Option.map_eq_some_iff.1 h
      have hxs : xs.map (·.1) = ds := by
        have := congrArg Prod.fst hx
        simpa using this
      have hxl : xs.length = n := by simpa using mapM_length hm
      have hin : i < n := by
        have h1 : i < ds.length := (List.getElem?_eq_some_iff.1 hi).1
        rw [← hxs, List.length_map] at h1
        omega
      obtain ⟨b, hb, hf⟩ := mapM_at hm i i (by simp [hin])
      have hb1 : b.1 = .agg [.lit (.int .u64 x), .lit (.int .u64 y)] := by
        rw [← hxs, List.getElem?_map, hb] at hi
        simpa using hi
      obtain ⟨ys, m, _, rfl, hl2, hyl, hfs⟩ := DataW.trod_struct he hf
      have hys : ys.map (·.1) = [.lit (.int .u64 x), .lit (.int .u64 y)] := by simpa using hb1
      have hy2 : ys.length = 2 := by have := congrArg List.length hys; simpa using this
      have g0 := hfs 0 f0 rfl
      have g1 := hfs 1 f1 rfl
      rw [o0, c0] at g0
      rw [o1, c1] at g1
      rw [List.getElem?_eq_getElem (show 0 < ys.length by omega)] at g0
      rw [List.getElem?_eq_getElem (show 1 < ys.length by omega)] at g1
      obtain ⟨v0, e0, q0, _⟩ := DataW.trod_int u0 g0
      obtain ⟨v1, e1, q1, _⟩ := DataW.trod_int u1 g1
      have k0 : (ys.map (·.1))[0]? = some (DataW.lit (.int .u64 v0)) := by
        rw [List.getElem?_map, List.getElem?_eq_getElem (show 0 < ys.length by omega), q0]; rfl
      have k1 : (ys.map (·.1))[1]? = some (DataW.lit (.int .u64 v1)) := by
        rw [List.getElem?_map, List.getElem?_eq_getElem (show 1 < ys.length by omega), q1]; rfl
      rw [hys] at k0 k1
      simp only [List.getElem?_cons_zero, List.getElem?_cons_succ, Option.some.injEq, DataW.lit.injEq, Lit.int.injEq, true_and] at k0 k1
      subst k0 k1
      constructor
      · have := congrArg (·[0]?) e0
        simpa [List.getElem?_take, List.getElem?_drop] using this
      · have := congrArg (·[0]?) e1
        simpa [List.getElem?_take, List.getElem?_drop, Nat.add_comm] using this
    · cases h
/-- From the row's condition to the table's two cells: the table stands first on the list. -/
theorem rows_of_head {P : Program} {W : World} {name : String} {ds : List (DataW Unit)} {rest : List (String × DataW Unit)} {g : Nat} {t e : TypeId} {n : Nat} {f0 f1 : Field}
    (hg : P.globalNamed name = some g) (hty : (P.globals[g]?).map (·.type) = some t) (ht : P.underlying t = some (.array n e)) (he : P.underlying e = some (.struct #[f0, f1])) (hce : P.cellsOf e = 2)
    (o0 : f0.offset = 0) (o1 : f1.offset = 1) (u0 : P.underlying f0.type = some (.int .u64)) (u1 : P.underlying f1.type = some (.int .u64)) (c0 : P.cellsOf f0.type = 1) (c1 : P.cellsOf f1.type = 1)
    (h : laidMet P ((name, .agg ds) :: rest) W) {i : Nat} {x y : Int} (hi : ds[i]? = some (.agg [.lit (.int .u64 x), .lit (.int .u64 y)])) :
    W.cell? ⟨g, i * 2, none⟩ = some (.int .u64 x) ∧ W.cell? ⟨g, i * 2 + 1, none⟩ = some (.int .u64 y) := by
  obtain ⟨ps, ⟨g', t', cs, fuel, p, q, hg', ht', hvar, hd, _, _⟩, _⟩ := h
  obtain rfl := Option.some.inj (hg.symm.trans hg')
  obtain rfl := Option.some.inj (hty.symm.trans ht')
  obtain ⟨h1, h2⟩ := cell_of_rows ht he hce o0 o1 u0 u1 c0 c1 hd hi
  constructor
  · rw [World.var?_cell hg hvar]; simpa using h1
  · rw [World.var?_cell hg hvar]; simpa using h2
end Go.Proofs.YtcohidjaehdbnaaGreatDoor
namespace Go.Proofs.YtcohidjaehdbnaaGreatDoor
open Go.RowKit
set_option linter.unusedVariables false
theorem run_store_float {P : Program} {w : World} {a : Addr} {m : Mode} (k : FloatKind) (b : Nat) : (store a (.float k b) m).run P w = stored P w a (.float k b) m := run_store P w a _ m rfl
attribute [local go_sem ↓] Go.wp_at_zero Go.wp_at_succ
attribute [local go_sem] run_store_float

/-- The first i floats of the list turned by k. -/
def rot (xs : List Nat) (k i : Nat) : List Nat := (List.range i).map fun j => xs.getD ((j + k % xs.length) % xs.length) 0
theorem rot_succ (xs : List Nat) (k i : Nat) : rot xs k (i + 1) = rot xs k i ++ [xs.getD ((i + k % xs.length) % xs.length) 0] := by
  unfold rot
  rw [List.range_succ, List.map_append]; rfl
theorem rot_perm (xs : List Nat) (k : Nat) : (rot xs k xs.length).Perm xs := by
  rcases Nat.eq_zero_or_pos xs.length with h0 | h0
  · have : xs = [] := List.eq_nil_of_length_eq_zero h0
    subst this; exact List.Perm.refl _
  · have hr : k % xs.length < xs.length := Nat.mod_lt _ h0
    have e : rot xs k xs.length = xs.drop (k % xs.length) ++ xs.take (k % xs.length) := by
      unfold rot
      generalize k % xs.length = r at *
      refine List.ext_getElem (by simp; omega) fun i h1 h2 => ?_
      have hi : i < xs.length := by simpa using h1
      rw [List.getElem_map, List.getElem_range, List.getElem_append]
      split
      · rename_i h3
        rw [List.length_drop] at h3
        rw [Nat.mod_eq_of_lt (by omega), List.getElem_drop]
        simp [List.getD, Nat.add_comm i r, List.getElem?_eq_getElem (show r + i < xs.length by omega)]
      · rename_i h3
        rw [List.length_drop] at h3
        have e2 : (i + r) % xs.length = i + r - xs.length := by
          rw [Nat.mod_eq_sub_mod (by omega), Nat.mod_eq_of_lt (by omega)]
        rw [e2, List.getElem_take]
        have e3 : i - (xs.drop r).length = i + r - xs.length := by rw [List.length_drop]; omega
        simp only [e3]
        simp [List.getD, List.getElem?_eq_getElem (show i + r - xs.length < xs.length by omega)]
    rw [e]
    exact List.perm_append_comm.trans (by rw [List.take_append_drop])
theorem own_swapped {w : World} {B g n cap : Nat} {xs : List Nat} (h : w.ownsRow B 24 1 (.slice (some ⟨g, 0, none⟩) n cap) n (f64s xs)) (i j : Nat) : ((w.setCell ⟨g, i, none⟩ (.float .f64 (xs.getD j 0))).setCell ⟨g, j, none⟩ (.float .f64 (xs.getD i 0))).ownsRow B 24 1 (.slice (some ⟨g, 0, none⟩) n cap) n (f64s (sw xs i j)) ∧ w.grownBy ((w.setCell ⟨g, i, none⟩ (.float .f64 (xs.getD j 0))).setCell ⟨g, j, none⟩ (.float .f64 (xs.getD i 0))) (some g) := by
  have h1 := World.ownsRow.stored h i (.float .f64 (xs.getD j 0))
  have h2 := World.ownsRow.stored h1.1 j (.float .f64 (xs.getD i 0))
  refine ⟨?_, only_trans h1.2 h2.2⟩
  have e : ((f64s xs).set i (.float .f64 (xs.getD j 0))).set j (.float .f64 (xs.getD i 0)) = f64s (sw xs i j) := by unfold sw f64s; rw [List.map_set, List.map_set]
  rw [e] at h2
  exact h2.1
theorem own_cellF {w : World} {B g n cap : Nat} {xs : List Nat} (h : w.ownsRow B 24 1 (.slice (some ⟨g, 0, none⟩) n cap) n (f64s xs)) {i : Nat} (hi : i < n) : w.cell? ⟨g, i, none⟩ = some (.float .f64 (xs.getD i 0)) := by
  have hl : xs.length = n := by have := h.1; simpa using this
  rw [World.ownsRow.cellAt h i (by omega)]
  simp [List.getD, List.getElem?_eq_getElem (show i < xs.length by omega)]
theorem over_lt64 {l : List Nat} {n b : Nat} (h : IsOver l n b) : b < 18446744073709551616 := by
  have sl : ∀ {r : Nat} (s : Bool), r ≤ 9218868437227405312 → sgnd r s < 18446744073709551616 := fun s h => by unfold sgnd; cases s <;> simp <;> omega
  by_cases h1 : (hasNan l || hasPlus l && hasLess l) = true
  · rw [h.none_ h1]; decide
  · have h1' : (hasNan l || hasPlus l && hasLess l) = false := by simpa using h1
    by_cases h2 : (hasPlus l || hasLess l) = true
    · rw [h.inf_ h1' h2]; exact sl _ (by decide)
    · have h3 : (hasNan l || hasPlus l || hasLess l) = false := by
        revert h1' h2
        cases hasNan l <;> cases hasPlus l <;> cases hasLess l <;> simp
      by_cases h4 : totN l = 0
      · rw [h.nought h3 h4]; exact sl _ (by decide)
      · obtain ⟨r, hr, e⟩ := h.some_ h3 h4
        rw [e]; exact sl _ hr.cap
theorem le_num {a b : Nat} (ha : a < 18446744073709551616) (hb : b < 18446744073709551616) (na : fnan a = false) (nb : fnan b = false) (h : fval a ≤ fval b) : FloatKind.f64.format.order a b = some .lt ∨ FloatKind.f64.format.order a b = some .eq := by
  show Ieee.double.order a b = some .lt ∨ Ieee.double.order a b = some .eq
  rw [order_num ha hb na nb]
  rcases Int.lt_or_eq_of_le h with k | k
  · left; rw [Int.compare_eq_lt.2 k]
  · right; rw [Int.compare_eq_eq.2 k]
theorem ge_num {a b : Nat} (ha : a < 18446744073709551616) (hb : b < 18446744073709551616) (na : fnan a = false) (nb : fnan b = false) (h : fval b ≤ fval a) : FloatKind.f64.format.order a b = some .gt ∨ FloatKind.f64.format.order a b = some .eq := by
  show Ieee.double.order a b = some .gt ∨ Ieee.double.order a b = some .eq
  rw [order_num ha hb na nb]
  rcases Int.lt_or_eq_of_le h with k | k
  · left; rw [Int.compare_eq_gt.2 k]
  · right; rw [Int.compare_eq_eq.2 k.symm]
theorem run_minf {a b : Nat} (ha : a < 18446744073709551616) (hb : b < 18446744073709551616) (na : fnan a = false) (nb : fnan b = false) : ∃ r, (r = a ∨ r = b) ∧ fval r ≤ fval a ∧ fval r ≤ fval b ∧ ∀ W, (Builtin.min_ #[24, 24] 24 #[.float .f64 a, .float .f64 b]).run Tryz.prog W = .ok (.float .f64 r) W := by
  have ho : FloatKind.f64.format.order a b = some (compare (fval a) (fval b)) := order_num ha hb na nb
  rcases Int.lt_trichotomy (fval a) (fval b) with h | h | h
  · rw [Int.compare_eq_lt.2 h] at ho
    exact ⟨a, .inl rfl, Int.le_refl _, by omega, fun W => by simp [Builtin.min_, Builtin.min2, ho]⟩
  · rw [Int.compare_eq_eq.2 h] at ho
    by_cases hs : (FloatKind.f64.decode a).neg = true
    · exact ⟨a, .inl rfl, Int.le_refl _, by omega, fun W => by simp [Builtin.min_, Builtin.min2, ho, hs]⟩
    · exact ⟨b, .inr rfl, by omega, Int.le_refl _, fun W => by simp [Builtin.min_, Builtin.min2, ho, hs]⟩
  · rw [Int.compare_eq_gt.2 h] at ho
    exact ⟨b, .inr rfl, by omega, Int.le_refl _, fun W => by simp [Builtin.min_, Builtin.min2, ho]⟩
theorem run_maxf {a b : Nat} (ha : a < 18446744073709551616) (hb : b < 18446744073709551616) (na : fnan a = false) (nb : fnan b = false) : ∃ r, (r = a ∨ r = b) ∧ fval a ≤ fval r ∧ fval b ≤ fval r ∧ ∀ W, (Builtin.max_ #[24, 24] 24 #[.float .f64 a, .float .f64 b]).run Tryz.prog W = .ok (.float .f64 r) W := by
  have ho : FloatKind.f64.format.order a b = some (compare (fval a) (fval b)) := order_num ha hb na nb
  rcases Int.lt_trichotomy (fval a) (fval b) with h | h | h
  · rw [Int.compare_eq_lt.2 h] at ho
    exact ⟨b, .inr rfl, by omega, Int.le_refl _, fun W => by simp [Builtin.max_, Builtin.max2, ho]⟩
  · rw [Int.compare_eq_eq.2 h] at ho
    by_cases hs : (FloatKind.f64.decode a).neg = true
    · exact ⟨b, .inr rfl, by omega, Int.le_refl _, fun W => by simp [Builtin.max_, Builtin.max2, ho, hs]⟩
    · exact ⟨a, .inl rfl, Int.le_refl _, by omega, fun W => by simp [Builtin.max_, Builtin.max2, ho, hs]⟩
  · rw [Int.compare_eq_gt.2 h] at ho
    exact ⟨a, .inl rfl, Int.le_refl _, by omega, fun W => by simp [Builtin.max_, Builtin.max2, ho]⟩
theorem mean_one {l : List Nat} {b c : Nat} (h : IsMean l b) (k : IsMean l c) : b = c := by
  by_cases hl : l = []
  · rw [h.1 hl, k.1 hl]
  · exact (h.2 hl).one (List.length_pos_iff.2 hl) (k.2 hl)
theorem Fown_step {w V V' : World} {v : Value} {n : Nat} {zs : List Nat} (h : Fown w v n zs V) (hb : Below V.heap.size V V') : Fown w v n zs V' := ⟨own_below h.1 hb, h.2.trans (hb.mono h.2.size)⟩
theorem reads_at {w V : World} {A : Option Addr} {n : Nat} {xs : List Nat} (h : Reads w w.heap.size 1 A n (f64s xs)) (hb : Below w.heap.size w V) : Reads V V.heap.size 1 A n (f64s xs) := (h.below hb).more hb.size
set_option maxRecDepth 100000 in
set_option maxHeartbeats 4000000 in
theorem l_FloatShuffled (A : Option Addr) (n c : Nat) (xs : List Nat) (k : Int) (w : World) (hrd : Reads w w.heap.size 1 A n (f64s xs)) (hbx : Bit xs) (hn : n ≤ 1048576) (hk63 : k ≤ 9223372036854775807) (hal : Alive w) :
    Calls Tryz.prog 4 #[.slice A n c, .int .i64 k] w fun e w' => e = .returned (.bool true) ∧ Below w.heap.size w w' := by
  obtain ⟨i0, hi0, hz0, hz1, hz2⟩ := info_parts f64_info
  have hxl : xs.length = n := by simpa using hrd.1
  obtain ⟨K, hK⟩ : ∃ K : Nat, K = k.toNat := ⟨_, rfl⟩
  have HXL := Lib.hid hxl
  have HRD := Lib.hid hrd
  have HXB := Lib.hid hbx
  have hal' := Lib.hid hal
  clear hal hrd hxl hbx
  by_cases hk : k < 0
  all_goals
    have HK := Lib.hid hK
    clear hK
    go_enter Tryz.func4, Tryz.ntmps4
    go_wp2_with fail
    refine hal'.out.mono ?_; rintro e w1 ⟨rfl, hb1⟩
    have HB1 := Lib.hid hb1
    clear hb1 hal'
    go_wp2_with fail
    go_loopw [5, 6] (fun va vi wr => ∃ (i : Nat) (A0 : Option Addr) (c0 : Nat), va = .slice A0 i c0 ∧ vi = .int .i64 i ∧ i ≤ n ∧ Hid (Fown w (.slice A0 i c0) i (rot xs K i) wr)) (fun _ vi _ => n - (intOf vi).toNat)
    case atStart => exact ⟨0, none, 0, rfl, rfl, Nat.zero_le _, ⟨⟨rfl, .inl ⟨rfl, rfl⟩⟩, HB1.out⟩⟩
    case round =>
      obtain ⟨i, A0, c0, rfl, rfl, hi, HO⟩ := hrel
      by_cases hlt : i < n
      · obtain ⟨q, hq⟩ : ∃ q, q = (i + K % n) % n := ⟨_, rfl⟩
        have hqn : q < n := by rw [hq]; exact Nat.mod_lt _ (by omega)
        obtain ⟨b, off, hA, hb1, hb2, hcell⟩ := (HRD.out.step HO.out.2).form (by omega)
        subst hA
        have hc1 := hcell q hqn
        have hgx : (f64s xs).getD q undef = .float .f64 (xs.getD q 0) := by
          have := HXL.out
          simp [f64s, List.getD, List.getElem?_eq_getElem (show q < xs.length by omega)]
        rw [hgx] at hc1
        have HRS := Lib.hid (rot_succ xs K i)
        rw [HXL.out, ← hq] at HRS
        obtain ⟨r, hr⟩ : ∃ r, r = K % n := ⟨_, rfl⟩
        rw [← hr] at hq
        have hrn : r < n := by rw [hr]; exact Nat.mod_lt _ (by omega)
        have E1 : ∀ kk : Int, kk = (K : Int) → kk.tmod (n : Int) = (r : Int) := fun kk h => by rw [h, Int.tmod_eq_emod_of_nonneg (by omega), hr]; rfl
        first
          | have e1 := E1 0 (by have := HK.out; omega)
          | have e1 := E1 k (by have := HK.out; omega)
        clear E1
        have e2 : ((i : Int) + (r : Int)).tmod (n : Int) = (q : Int) := by rw [Int.tmod_eq_emod_of_nonneg (by omega), hq]; rfl
        have e3 : ((n : Int) == 0) = false := by rw [beq_eq_false_iff_ne]; omega
        have e4 : ¬ (n : Int) = 0 := by omega
        have dlt : (i : Int) < (n : Int) := by omega
        clear hcell hgx hq hr
        generalize xs.getD q 0 = x at *
        have HOA := Lib.hid (HO.out.1.alloc (.cells #[.float .f64 x] 24))
        have HBA : Hid (Below w.heap.size w (wr.alloc (.cells #[.float .f64 x] 24))) := HO.out.2.alloc HO.out.2.size _
        have HRA := Lib.hid (reads_one wr 24 (.float .f64 x))
        have HE : Hid (f64s (rot xs K i) ++ [.float .f64 x] = f64s (rot xs K (i + 1))) := by show _ = _; rw [HRS.out]; simp [f64s]
        go_wp2_with (at_builtin; refine wpList_append_any _ rfl (.tmp 22) (.tmp 35) _ rfl w.heap.size 24 i0 _ 1 8 Tryz.underlying30 hi0 hz0 hz1 hz2 rfl (by omega) _ i (f64s (rot xs K i)) rfl HOA.out _ _ 1 1 [.float .f64 x] rfl HRA.out (by simp [Value.oneCell']) (by simp only [maxLen]; omega) (by omega) HBA.out.size ?_; intro v2 w2 hown2 hg2 _; rw [HE.out] at hown2; have HB2 := Lib.hid (below_own HBA.out HOA.out hg2); obtain ⟨A2, c2, rfl⟩ := own_slice hown2; have HW2 := Lib.hid hown2; clear hown2 hg2 HOA HBA HRA HE)
        go_roundw
        case rel => exact ⟨i + 1, A2, c2, rfl, by go_num, hlt, HW2.out, HB2.out⟩
        case measure => simp [intOf]; omega
      · obtain rfl : i = n := by omega
        have HP0 : Hid ((rot xs K i).Perm xs) := by have := rot_perm xs K; rw [HXL.out] at this; exact this
        have HO0 : Hid (Fown w (.slice A0 i c0) i (rot xs K i) wr) := HO.out
        clear HO
        generalize rot xs K i = ys at *
        generalize hwo : wr = wo at *
        clear hwo hi hlt
        go_wp2_with fail
        go_loopw [7] (fun vi wr => ∃ (j : Nat) (zs : List Nat), vi = .int .i64 j ∧ j ≤ i + 1 ∧ Hid (zs.Perm xs ∧ zs.length = i) ∧ Hid (Fown w (.slice A0 i c0) i zs wr)) (fun vi _ => i + 1 - (intOf vi).toNat)
        case atStart => exact ⟨0, ys, rfl, Nat.zero_le _, ⟨HP0.out, HP0.out.length_eq.trans HXL.out⟩, HO0.out⟩
        case round =>
          obtain ⟨j, zs, rfl, hj, HZ, HO⟩ := hrel
          by_cases hj1 : j + 1 < i
          · obtain ⟨g, cap, hv, hgb, hgl⟩ := own_form HO.out.1 (by omega)
            injection hv with hv1 hv2 hv3
            subst hv1
            subst hv3
            obtain ⟨x, HX0⟩ : ∃ x, Hid (zs.getD j 0 = x) := ⟨_, rfl⟩
            obtain ⟨y, HY0⟩ : ∃ x, Hid (zs.getD (j + 1) 0 = x) := ⟨_, rfl⟩
            have hc1 : wr.cell? ⟨g, j, none⟩ = some (.float .f64 x) := HX0.out ▸ own_cellF HO.out.1 (i := j) (by omega)
            have hc2 : wr.cell? ⟨g, j + 1, none⟩ = some (.float .f64 y) := HY0.out ▸ own_cellF HO.out.1 (i := j + 1) (by omega)
            have hf1 := World.ownsRow.frozenAt HO.out.1 (j)
            have hf2 := World.ownsRow.frozenAt HO.out.1 (j + 1)
            have HSW : Hid (((wr.setCell ⟨g, j, none⟩ (.float .f64 y)).setCell ⟨g, j + 1, none⟩ (.float .f64 x)).ownsRow w.heap.size 24 1 (.slice (some ⟨g, 0, none⟩) i c0) i (f64s (sw zs j (j + 1))) ∧ wr.grownBy ((wr.setCell ⟨g, j, none⟩ (.float .f64 y)).setCell ⟨g, j + 1, none⟩ (.float .f64 x)) (some g)) := by rw [← HX0.out, ← HY0.out]; exact own_swapped HO.out.1 j (j + 1)
            have HZ2 : Hid ((sw zs j (j + 1)).Perm xs ∧ (sw zs j (j + 1)).length = i) := ⟨(sw_perm zs _ _ (by have := HZ.out.2; omega) (by have := HZ.out.2; omega)).trans HZ.out.1, (sw_len _ _ _).trans HZ.out.2⟩
            have hne : ¬ j = j + 1 := by omega
            have hne2 : ¬ j + 1 = j := by omega
            have d1 : (j : Int) + 1 < (i : Int) := by omega
            have d2 : (j : Int) < (i : Int) := by omega
            have d0 : (0 : Int) ≤ (j : Int) + 1 := by omega
            have hc3 : wr.drew.cell? ⟨g, j, none⟩ = some (.float .f64 x) := hc1
            have hc4 : wr.drew.cell? ⟨g, j + 1, none⟩ = some (.float .f64 y) := hc2
            have hf3 : wr.drew.frozen? ⟨g, j, none⟩ = false := hf1
            have hf4 : wr.drew.frozen? ⟨g, j + 1, none⟩ = false := hf2
            go_wp2_with fail
            have e1 : IntKind.i64.wrap ((j : Int) + 1) = (j : Int) + 1 := IntWalk.i64_in _ (by omega)
            have e2 : ((j : Int) + 1).toNat = j + 1 := by omega
            go_region
            have HW2 : Hid (((wr.setCell ⟨g, j, none⟩ (.float .f64 y)).setCell ⟨g, j + 1, none⟩ (.float .f64 x)).drew.ownsRow w.heap.size 24 1 (.slice (some ⟨g, 0, none⟩) i c0) i (f64s (sw zs j (j + 1)))) := HSW.out.1.drew
            have HB2 : Hid (Below w.heap.size w ((wr.setCell ⟨g, j, none⟩ (.float .f64 y)).setCell ⟨g, j + 1, none⟩ (.float .f64 x)).drew) := (below_own HO.out.2 HO.out.1 HSW.out.2).drew
            clear e1 e2 hc1 hc2 hf1 hf2 hc3 hc4 hf3 hf4 HSW HO HO0 hne hne2
            generalize ((wr.setCell ⟨g, j, none⟩ (.float .f64 y)).setCell ⟨g, j + 1, none⟩ (.float .f64 x)).drew = w2 at *
            go_wp2_with fail
            go_roundw
            case rel => exact ⟨j + 2, sw zs j (j + 1), by go_num, by omega, HZ2.out, HW2.out, HB2.out⟩
            case measure => simp [intOf]; omega
          · have dj : ¬ (j : Int) + 1 < (i : Int) := by omega
            have HZP := Lib.hid HZ.out.1
            have HZB : Hid (Bit zs) := fun z hz => HXB.out z (HZ.out.1.mem_iff.1 hz)
            go_wp2_with fail
            refine (c_Sum A i c xs wr (reads_at HRD.out HO.out.2) HXB.out (by omega)).mono ?_; rintro e v1 ⟨b1, rfl, hs1, hbv1⟩
            have HQ1 := Lib.hid (Fown_step HO.out hbv1)
            have HS1 := Lib.hid hs1
            clear hs1 hbv1
            go_wp2_with fail
            refine (c_Sum A0 i c0 zs v1 (Reads.of_own HQ1.out.1) HZB.out (by omega)).mono ?_; rintro e v2 ⟨b2, rfl, hs2, hbv2⟩
            have HQ2 := Lib.hid (Fown_step HQ1.out hbv2)
            have HS2 := Lib.hid hs2
            clear hs2 hbv2
            have hsm2 : ((fone b1 : Int) == (fone b2 : Int)) = true := by rw [HS1.out.one (by decide) (over_perm HZP.out HS2.out)]; simp
            go_wp2_with fail
            refine (c_SameV hsm2 _).mono ?_; rintro e v' ⟨rfl, rfl⟩
            clear hsm2
            go_wp2_with fail
            refine (c_Mean A i c xs v2 (reads_at HRD.out HQ2.out.2) HXB.out (by omega)).mono ?_; rintro e v3 ⟨b3, rfl, hs3, hbv3⟩
            have HQ3 := Lib.hid (Fown_step HQ2.out hbv3)
            have HS3 := Lib.hid hs3
            clear hs3 hbv3
            go_wp2_with fail
            refine (c_Mean A0 i c0 zs v3 (Reads.of_own HQ3.out.1) HZB.out (by omega)).mono ?_; rintro e v4 ⟨b4, rfl, hs4, hbv4⟩
            have HQ4 := Lib.hid (Fown_step HQ3.out hbv4)
            have HS4 := Lib.hid hs4
            clear hs4 hbv4
            have hsm4 : ((fone b3 : Int) == (fone b4 : Int)) = true := by rw [mean_one HS3.out (mean_perm HZP.out HS4.out)]; simp
            go_wp2_with fail
            refine (c_SameV hsm4 _).mono ?_; rintro e v' ⟨rfl, rfl⟩
            clear hsm4
            go_wp2_with fail
            refine (c_Spread A i c xs v4 (reads_at HRD.out HQ4.out.2) HXB.out (by omega)).mono ?_; rintro e v5 ⟨b5, rfl, hs5, hbv5⟩
            have HQ5 := Lib.hid (Fown_step HQ4.out hbv5)
            have HS5 := Lib.hid hs5
            clear hs5 hbv5
            go_wp2_with fail
            refine (c_Spread A0 i c0 zs v5 (Reads.of_own HQ5.out.1) HZB.out (by omega)).mono ?_; rintro e v6 ⟨b6, rfl, hs6, hbv6⟩
            have HQ6 := Lib.hid (Fown_step HQ5.out hbv6)
            have HS6 := Lib.hid hs6
            clear hs6 hbv6
            have hsm6 : ((fone b5 : Int) == (fone b6 : Int)) = true := by rw [HS5.out.one (spread_perm HZP.out HS6.out)]; simp
            go_wp2_with fail
            refine (c_SameV hsm6 _).mono ?_; rintro e v' ⟨rfl, rfl⟩
            clear hsm6
            go_wp2_with fail
            refine (c_Mean A i c xs v6 (reads_at HRD.out HQ6.out.2) HXB.out (by omega)).mono ?_; rintro e v7 ⟨b7, rfl, hs7, hbv7⟩
            have HQ7 := Lib.hid (Fown_step HQ6.out hbv7)
            have HS7 := Lib.hid hs7
            clear hs7 hbv7
            have hne7 : (FloatKind.f64.format.order b7 b7 != some .eq) = fnan b7 := order_neq b7
            rcases Nat.eq_zero_or_pos i with h0 | h0
            · have hx0 : xs = [] := List.eq_nil_of_length_eq_zero (HXL.out.trans h0)
              have hb7 : b7 = 9221120237041090560 := HS7.out.1 hx0
              have hnn : (FloatKind.f64.format.order b7 b7 != some .eq) = true := by rw [hne7, hb7]; decide +kernel
              have z0 : ((i : Int) == 0) = true := by rw [beq_iff_eq]; omega
              have z1 : ¬ (0 : Int) < (i : Int) := by omega
              clear hne7 hb7
              go_wp2_with fail
              go_ret
              exact ⟨rfl, HQ7.out.2⟩
            · have z0 : ((i : Int) == 0) = false := by rw [beq_eq_false_iff_ne]; omega
              have z1 : (0 : Int) < (i : Int) := by omega
              rcases hnan : fnan b7 with _ | _
              · rw [hnan] at hne7
                obtain ⟨b, off, hA, hb1, hb2, hcell⟩ := (HRD.out.step HQ7.out.2).form (by omega)
                subst hA
                have hcx : ∀ q, q < i → v7.cell? ⟨b, off + q, none⟩ = some (.float .f64 (xs.getD q 0)) := fun q hq => by
                  have h1 := hcell q hq
                  have h2 : (f64s xs).getD q undef = .float .f64 (xs.getD q 0) := by
                    have := HXL.out
                    simp [f64s, List.getD, List.getElem?_eq_getElem (show q < xs.length by omega)]
                  rw [h2] at h1
                  exact h1
                have HCX := Lib.hid hcx
                have hc0 : v7.cell? ⟨b, off, none⟩ = some (.float .f64 (xs.getD 0 0)) := hcx 0 h0
                have HNN : Hid (∀ z ∈ xs, fnan z = false) := fun z hz => by
                  have h1 := mean_num (l := xs) (by rintro rfl; exact absurd hz (by simp)) HS7.out hnan
                  have h2 : hasNan xs = false := by revert h1; cases hasNan xs <;> simp
                  have := List.any_eq_false.1 h2 z hz
                  simpa using this
                have HM0 : Hid (xs.getD 0 0 ∈ xs) := getD_mem (by rw [HXL.out]; exact h0)
                clear hcell hcx
                generalize xs.getD 0 0 = x0 at *
                go_wp2_with fail
                go_region
                have HB8 : Hid (Below w.heap.size w v7.drew) := HQ7.out.2.drew
                have HC8 : Hid (∀ q, q < i → v7.drew.cell? ⟨b, off + q, none⟩ = some (.float .f64 (xs.getD q 0))) := HCX.out
                clear hc0 HCX
                generalize v7.drew = v8 at *
                go_wp2_with fail
                go_loopw [9, 10, 11] (fun vl vh vi wr => ∃ (q lo hi : Nat), vl = .float .f64 lo ∧ vh = .float .f64 hi ∧ vi = .int .i64 q ∧ q ≤ i ∧ Hid (lo ∈ xs ∧ hi ∈ xs ∧ ∀ z ∈ xs.take q, fval lo ≤ fval z ∧ fval z ≤ fval hi) ∧ wr = v8) (fun _ _ vi _ => i - (intOf vi).toNat)
                case atStart => exact ⟨0, x0, x0, rfl, rfl, rfl, Nat.zero_le _, ⟨HM0.out, HM0.out, fun z hz => by simp at hz⟩, rfl⟩
                case round =>
                  obtain ⟨q, lo, hi, rfl, rfl, rfl, hq, HI, rfl⟩ := hrel
                  by_cases hqi : q < i
                  · have hc1 := HC8.out q hqi
                    have hx1 : Hid (xs.getD q 0 ∈ xs) := getD_mem (by rw [HXL.out]; exact hqi)
                    have HT := Lib.hid (take_one xs (i := q) (by rw [HXL.out]; exact hqi))
                    generalize xs.getD q 0 = x at *
                    have dq : (q : Int) < (i : Int) := by omega
                    obtain ⟨lo2, hl1, hl2, hl3, hmin⟩ := run_minf (HXB.out lo HI.out.1) (HXB.out x hx1.out) (HNN.out lo HI.out.1) (HNN.out x hx1.out)
                    obtain ⟨hi2, hh1, hh2, hh3, hmax⟩ := run_maxf (HXB.out hi HI.out.2.1) (HXB.out x hx1.out) (HNN.out hi HI.out.2.1) (HNN.out x hx1.out)
                    have HI2 : Hid (lo2 ∈ xs ∧ hi2 ∈ xs ∧ ∀ z ∈ xs.take (q + 1), fval lo2 ≤ fval z ∧ fval z ≤ fval hi2) := by
                      refine ⟨?_, ?_, fun z hz => ?_⟩
                      · rcases hl1 with e | e <;> rw [e]
                        · exact HI.out.1
                        · exact hx1.out
                      · rcases hh1 with e | e <;> rw [e]
                        · exact HI.out.2.1
                        · exact hx1.out
                      · rw [HT.out, List.mem_append, List.mem_singleton] at hz
                        rcases hz with hz | hz
                        · have := HI.out.2.2 z hz; omega
                        · rw [hz]; omega
                    clear hl1 hl2 hl3 hh1 hh2 hh3 HI
                    go_wp2_with fail
                    go_roundw
                    case rel => exact ⟨q + 1, lo2, hi2, rfl, rfl, by go_num, hqi, HI2.out, (by first | trivial | rfl)⟩
                    case measure => simp [intOf]; omega
                  · obtain rfl : q = i := by omega
                    have HI3 : Hid (∀ z ∈ xs, fval lo ≤ fval z ∧ fval z ≤ fval hi) := fun z hz => HI.out.2.2 z (by rw [List.take_of_length_le (by rw [HXL.out]; exact Nat.le_refl _)]; exact hz)
                    have hxne : xs ≠ [] := by rintro rfl; have := HXL.out; simp at this; omega
                    have HMB := mean_between hxne HS7.out hnan HI.out.1 HI.out.2.1 (fun z hz => (HI3.out z hz).1) (fun z hz => (HI3.out z hz).2)
                    have hb64 : b7 < 18446744073709551616 := over_lt64 (HS7.out.2 hxne)
                    have HL1 := Lib.hid (le_num (HXB.out lo HI.out.1) hb64 (HNN.out lo HI.out.1) hnan HMB.1)
                    have HL2 := Lib.hid (le_num hb64 (HXB.out hi HI.out.2.1) hnan (HNN.out hi HI.out.2.1) HMB.2)
                    clear HMB hb64
                    have hle1 := HL1.out
                    have hle2 := HL2.out
                    have hle1b : (FloatKind.f64.format.order lo b7 == some .lt || FloatKind.f64.format.order lo b7 == some .eq) = true := by rcases HL1.out with e | e <;> rw [e] <;> rfl
                    have hle2b : (FloatKind.f64.format.order b7 hi == some .lt || FloatKind.f64.format.order b7 hi == some .eq) = true := by rcases HL2.out with e | e <;> rw [e] <;> rfl
                    go_wp2_with fail
                    refine (c_Spread _ q c xs wr (reads_at HRD.out HB8.out) HXB.out (by omega)).mono ?_; rintro e v9 ⟨b8, rfl, hs8, hbv8⟩
                    have HB9 := Lib.hid (HB8.out.trans (hbv8.mono HB8.out.size))
                    have HS8 := Lib.hid hs8
                    clear hs8 hbv8
                    go_wp2_with fail
                    refine (c_Spread _ q c xs v9 (reads_at HRD.out HB9.out) HXB.out (by omega)).mono ?_; rintro e v10 ⟨b9, rfl, hs9, hbv9⟩
                    have HB10 := Lib.hid (HB9.out.trans (hbv9.mono HB9.out.size))
                    obtain rfl := HS8.out.one hs9
                    clear hs9 hbv9
                    have hne8 : (FloatKind.f64.format.order b8 b8 != some .eq) = fnan b8 := order_neq b8
                    rcases spread_ge HS8.out with hn8 | ⟨hn8, hl8, hg8⟩
                    · rw [hn8] at hne8
                      go_wp2_with fail
                      go_ret
                      exact ⟨by first | rfl | exact congrArg (fun t => Ending.returned (Value.bool t)) hle2b | exact congrArg (fun t => Ending.returned (Value.bool t)) hne8 | (simp [hle1, hle2, hne8]; done), HB10.out⟩
                    · rw [hn8] at hne8
                      have HGE := Lib.hid (ge_num (b := 0) hl8 (by decide) hn8 (by decide +kernel) (Int.le_trans (Int.le_of_eq (by decide +kernel : fval 0 = 0)) hg8))
                      clear hl8 hg8
                      go_wp2_with fail
                      refine (c_Spread _ q c xs v10 (reads_at HRD.out HB10.out) HXB.out (by omega)).mono ?_; rintro e v11 ⟨b10, rfl, hs10, hbv10⟩
                      have HB11 := Lib.hid (HB10.out.trans (hbv10.mono HB10.out.size))
                      obtain rfl := HS8.out.one hs10
                      clear hs10 hbv10
                      have hge := HGE.out
                      have hgeb : (FloatKind.f64.format.order b8 0 == some .gt || FloatKind.f64.format.order b8 0 == some .eq) = true := by rcases HGE.out with e | e <;> rw [e] <;> rfl
                      go_wp2_with fail
                      go_ret
                      exact ⟨by first | rfl | exact congrArg (fun t => Ending.returned (Value.bool t)) hgeb | (simp [hge]; done), HB11.out⟩
              · rw [hnan] at hne7
                go_wp2_with fail
                go_ret
                exact ⟨rfl, HQ7.out.2⟩
end Go.Proofs.YtcohidjaehdbnaaGreatDoor
namespace Go.Proofs.YtcohidjaehdbnaaGreatDoor
open Go.RowKit
set_option linter.unusedVariables false

theorem wf_i64k {k : Int} (h : (Lit.int .i64 k).wf = true) : -9223372036854775808 ≤ k ∧ k ≤ 9223372036854775807 := by
  have := of_decide_eq_true (show decide (-9223372036854775808 ≤ k ∧ k ≤ 9223372036854775807) = true from by simpa [Lit.wf, IntKind.min, IntKind.max, IntKind.signed, IntKind.bits] using h)
  exact this
theorem l_FloatShuffledT (W : World) (ht : Tab W) (A : Option Addr) (n c : Nat) (xs : List Nat) (h : RdFloats W A n c xs) (k : Int) (wk : (Lit.int .i64 k).wf = true) (hn : n ≤ 1048576) :
    Calls Tryz.prog 4 #[.slice A n c, .int .i64 k] W fun e w' => e = .returned (.bool true) ∧ Below W.heap.size W w' :=
  l_FloatShuffled A n c xs k W h.2.2.2 h.2.2.1 hn (wf_i64k wk).2 (c_alive W ht)
end Go.Proofs.YtcohidjaehdbnaaGreatDoor
