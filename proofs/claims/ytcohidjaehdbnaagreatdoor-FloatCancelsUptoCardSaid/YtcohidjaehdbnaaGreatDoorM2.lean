/- Walks: the text of 0.1 (strings.Cut, strings.Replace, float.Text at that one input), and the call that the laws ask first. Conditions: the library's tables read as they were laid. What a laid table of rows of two words says of its cells. Conditions: none. The law that floats and their negatives cancel, walked behind a call that is alive. Conditions: at most 1048576 floats. The law that floats and their negatives cancel, at any memory that bears the library's tables. Conditions: at most 1048576 floats. -/
import Derived.Test.YtcohidjaehdbnaaGreatDoorM1
import Derived.Test.YtcohidjaehdbnaaGreatDoorLv
import Derived.Test.YtcohidjaehdbnaaGreatDoorHb
import Derived.BigQuiet
import Derived.Lib.AtoiErrMem
import Derived.Lib.LaidTab
import Derived.ChangeArms
import Derived.Test.YtcohidjaehdbnaaGreatDoorHc
import Derived.Test.YtcohidjaehdbnaaGreatDoorGu
import Derived.Test.YtcohidjaehdbnaaGreatDoorFz
import Derived.Test.YtcohidjaehdbnaaGreatDoorLfs
namespace Go.Proofs.YtcohidjaehdbnaaGreatDoor
open Go.RowKit Go.Shelf
set_option linter.unusedVariables false
attribute [local go_sem ↓] Go.wp_at_zero Go.wp_at_succ

theorem c_IdxE (w : World) : Calls Tryz.prog 68 #[bstr [49, 101, 45, 48, 49], .string ⟨#[101]⟩] w fun e w' => e = .returned (.int .i64 1) ∧ w = w' := by
  refine (Any.stringslite_Index_one lays219 ⟨#[49, 101, 45, 48, 49]⟩ 101 w).mono fun e w' ⟨h1, h2⟩ => ⟨?_, h2.symm⟩
  rw [h1]
  have : Lib.indexByte (⟨#[49, 101, 45, 48, 49]⟩ : ByteArray).data.toList 101 = 1 := by decide +kernel
  rw [this]
theorem c_CntP (w : World) : Calls Tryz.prog 50 #[bstr [49], .string ⟨#[46]⟩] w fun e w' => e = .returned (.int .i64 0) ∧ w = w' := by
  refine (Any.strings_Count_one lays138 ⟨#[49]⟩ 46 w).mono fun e w' ⟨h1, h2⟩ => ⟨?_, h2.symm⟩
  rw [h1]
  have : Lib.countByte (⟨#[49]⟩ : ByteArray).data.toList 46 = 0 := by decide +kernel
  rw [this]; rfl
theorem c_Rep0 (w : World) : Calls Tryz.prog 34 #[.string ⟨#[48]⟩, .int .i64 0] w fun e w' => e = .returned (.string ⟨#[]⟩) ∧ w = w' :=
  (Any.strings_Repeat_zero lays105 ⟨#[48]⟩ w).mono fun e w' ⟨h1, h2⟩ => ⟨h1, h2.symm⟩
theorem c_AtoiM (w : World) : Calls Tryz.prog 31 #[bstr [45, 48, 49]] w fun e w' => e = .returned (.tuple #[.int .i64 (-1), .nilIface]) ∧ Below w.heap.size w w' := by
  refine (Any.strconv_Atoi lays172 ⟨#[45, 48, 49]⟩ (-1) (by decide) (by decide +kernel) w).mono ?_
  rintro e w' ⟨rfl, t, rfl⟩
  exact ⟨rfl, Lib.bytesWorld_below _ _ _⟩
theorem c_CutE (w : World) : Calls Tryz.prog 30 #[bstr [49, 101, 45, 48, 49], .string ⟨#[101]⟩] w fun e w' => e = .returned (.tuple #[bstr [49], bstr [45, 48, 49], .bool true]) ∧ Below w.heap.size w w' := by
  have HI := Lib.hid c_IdxE
  have e1 : (⟨#[49, 101, 45, 48, 49]⟩ : ByteArray).extract 0 1 = ⟨#[49]⟩ := by decide +kernel
  have e2 : (⟨#[49, 101, 45, 48, 49]⟩ : ByteArray).extract 2 5 = ⟨#[45, 48, 49]⟩ := by decide +kernel
  have hsz : (⟨#[49, 101, 45, 48, 49]⟩ : ByteArray).size = 5 := rfl
  have HC : Hid (∀ W, Calls Tryz.prog 47 #[bstr [49, 101, 45, 48, 49], .string ⟨#[101]⟩] W fun e w' => e = .returned (.tuple #[bstr [49], bstr [45, 48, 49], .bool true]) ∧ Below W.heap.size W w') := fun W => by
    go_enter Tryz.func47, Tryz.ntmps47
    go_wp2_with (go_at_call 68; refine (HI.out _).mono ?_; rintro e w' ⟨rfl, rfl⟩)
    go_quiet (fail)
    go_wp2_with fail
    go_ret3
    exact ⟨by first | rfl | (show Ending.returned (.tuple #[.string ((⟨#[49, 101, 45, 48, 49]⟩ : ByteArray).extract 0 1), .string ((⟨#[49, 101, 45, 48, 49]⟩ : ByteArray).extract 2 5), .bool true]) = _; rw [e1, e2]), below_drewN (Below.refl _ _) _⟩
  go_enter Tryz.func30, Tryz.ntmps30
  go_wp2_with (go_at_call 47; refine (HC.out _).mono ?_; rintro e w1 ⟨rfl, hb⟩)
  go_ret3
  exact ⟨rfl, hb⟩
theorem c_ReplP (w : World) : Calls Tryz.prog 32 #[bstr [49], .string ⟨#[46]⟩, .string ⟨#[]⟩, .int .i64 1] w fun e w' => e = .returned (bstr [49]) ∧ w = w' := by
  have HI := Lib.hid c_CntP
  go_enter Tryz.func32, Tryz.ntmps32
  go_wp2_with fail
  refine (HI.out _).mono ?_; rintro e w' ⟨rfl, rfl⟩
  go_wp2
  go_ret
  exact ⟨rfl, rfl⟩
set_option maxRecDepth 100000 in
theorem c_Text1 (w : World) (ht : Tab w) : Calls Tryz.prog 14 #[.float .f64 4591870180066957722] w fun e w' => e = .returned (bstr [48, 46, 49]) ∧ Below w.heap.size w w' := by
  have HCl := Lib.hid (c_Class 4591870180066957722 (by decide) w)
  rw [show fclass 4591870180066957722 = 5 from by decide +kernel, show fneg 4591870180066957722 = false from by decide +kernel] at HCl
  have HF := Lib.hid (c_FF w ht)
  clear ht
  go_enter Tryz.func14, Tryz.ntmps14
  go_wp2_with fail
  refine HCl.out.mono ?_; rintro e w' ⟨rfl, rfl⟩
  go_wp2_with fail
  refine HF.out.mono ?_; rintro e w1 ⟨rfl, hb1⟩
  have HB1 := Lib.hid hb1
  clear hb1
  go_wp2_with fail
  refine (c_CutE _).mono ?_; rintro e w2 ⟨rfl, hb2⟩
  have HB2 := Lib.hid (HB1.out.trans (hb2.mono HB1.out.size))
  clear hb2
  go_wp2_with fail
  refine (c_AtoiM _).mono ?_; rintro e w3 ⟨rfl, hb3⟩
  have HB3 := Lib.hid (HB2.out.trans (hb3.mono HB2.out.size))
  clear hb3
  go_wp2_with fail
  refine (c_ReplP _).mono ?_; rintro e w4 ⟨rfl, rfl⟩
  go_wp2_with fail
  refine (c_Rep0 _).mono ?_; rintro e w4 ⟨rfl, rfl⟩
  go_wp2
  go_ret
  exact ⟨rfl, HB3.out⟩
theorem c_alive (w : World) (ht : Tab w) : Alive w := by
  have HF := Lib.hid (c_Text1 w ht)
  unfold Alive
  go_enter Tryz.func6, Tryz.ntmps6
  go_wp2_with fail
  refine HF.out.mono ?_; rintro e w1 ⟨rfl, hb1⟩
  have HB1 := Lib.hid hb1
  clear hb1
  go_wp2
  go_ret
  exact ⟨rfl, HB1.out⟩
end Go.Proofs.YtcohidjaehdbnaaGreatDoor
namespace Go.Proofs.YtcohidjaehdbnaaGreatDoor
open Go.RowKit Go.Lib
set_option linter.unusedVariables false

theorem cell_of_rows {H : Type} {enc : TypeId × Value → H} {P : Program} {w : World} {base : Nat} {sp : Nat → Bool} {held : Bool} {fuel : Nat} {t e : TypeId} {n : Nat} {f0 f1 : Field} {cs : List Value} {ds : List (DataW H)} {p : List MemPlace}
    (ht : P.underlying t = some (.array n e)) (he : P.underlying e = some (.struct #[f0, f1])) (hce : P.cellsOf e = 2)
    (o0 : f0.offset = 0) (o1 : f1.offset = 1) (u0 : P.underlying f0.type = some (.int .u64)) (u1 : P.underlying f1.type = some (.int .u64)) (c0 : P.cellsOf f0.type = 1) (c1 : P.cellsOf f1.type = 1)
    (h : DataW.trod enc P w base sp held fuel t cs = some (.agg ds, p)) {i : Nat} {x y : Int} (hi : ds[i]? = some (.agg [.lit (.int .u64 x), .lit (.int .u64 y)])) :
    cs[i * 2]? = some (.int .u64 x) ∧ cs[i * 2 + 1]? = some (.int .u64 y) := by
  cases fuel with
  | zero => simp [DataW.trod] at h
  | succ fuel =>
    simp only [DataW.trod, ht, hce] at h
    split at h
    · rename_i hl
      obtain ⟨xs, hm, hx⟩ := Option.map_eq_some_iff.1 h
      have hxs : xs.map (·.1) = ds := by
        have := congrArg Prod.fst hx
        simpa using this
      have hxl : xs.length = n := by simpa using mapM_length hm
      have hin : i < n := by
        have h1 : i < ds.length := (List.getElem?_eq_some_iff.1 hi).1
        rw [← hxs, List.length_map] at h1
        omega
      obtain ⟨b, hb, hf⟩ := mapM_at hm i i (by simp [hin])
      have hb1 : b.1 = .agg [.lit (.int .u64 x), .lit (.int .u64 y)] := by
        rw [← hxs, List.getElem?_map, hb] at hi
        simpa using hi
      obtain ⟨ys, m, _, rfl, hl2, hyl, hfs⟩ := DataW.trod_struct he hf
      have hys : ys.map (·.1) = [.lit (.int .u64 x), .lit (.int .u64 y)] := by simpa using hb1
      have hy2 : ys.length = 2 := by have := congrArg List.length hys; simpa using this
      have g0 := hfs 0 f0 rfl
      have g1 := hfs 1 f1 rfl
      rw [o0, c0] at g0
      rw [o1, c1] at g1
      rw [List.getElem?_eq_getElem (show 0 < ys.length by omega)] at g0
      rw [List.getElem?_eq_getElem (show 1 < ys.length by omega)] at g1
      obtain ⟨v0, e0, q0, _⟩ := DataW.trod_int u0 g0
      obtain ⟨v1, e1, q1, _⟩ := DataW.trod_int u1 g1
      have k0 : (ys.map (·.1))[0]? = some (DataW.lit (.int .u64 v0)) := by
        rw [List.getElem?_map, List.getElem?_eq_getElem (show 0 < ys.length by omega), q0]; rfl
      have k1 : (ys.map (·.1))[1]? = some (DataW.lit (.int .u64 v1)) := by
        rw [List.getElem?_map, List.getElem?_eq_getElem (show 1 < ys.length by omega), q1]; rfl
      rw [hys] at k0 k1
      simp only [List.getElem?_cons_zero, List.getElem?_cons_succ, Option.some.injEq, DataW.lit.injEq, Lit.int.injEq, true_and] at k0 k1
      subst k0 k1
      constructor
      · have := congrArg (·[0]?) e0
        simpa [List.getElem?_take, List.getElem?_drop] using this
      · have := congrArg (·[0]?) e1
        simpa [List.getElem?_take, List.getElem?_drop, Nat.add_comm] using this
    · cases h
/-- From the row's condition to the table's two cells: the table stands first on the list. -/
theorem rows_of_head {P : Program} {W : World} {name : String} {ds : List (DataW Unit)} {rest : List (String × DataW Unit)} {g : Nat} {t e : TypeId} {n : Nat} {f0 f1 : Field}
    (hg : P.globalNamed name = some g) (hty : (P.globals[g]?).map (·.type) = some t) (ht : P.underlying t = some (.array n e)) (he : P.underlying e = some (.struct #[f0, f1])) (hce : P.cellsOf e = 2)
    (o0 : f0.offset = 0) (o1 : f1.offset = 1) (u0 : P.underlying f0.type = some (.int .u64)) (u1 : P.underlying f1.type = some (.int .u64)) (c0 : P.cellsOf f0.type = 1) (c1 : P.cellsOf f1.type = 1)
    (h : laidMet P ((name, .agg ds) :: rest) W) {i : Nat} {x y : Int} (hi : ds[i]? = some (.agg [.lit (.int .u64 x), .lit (.int .u64 y)])) :
    W.cell? ⟨g, i * 2, none⟩ = some (.int .u64 x) ∧ W.cell? ⟨g, i * 2 + 1, none⟩ = some (.int .u64 y) := by
  obtain ⟨ps, ⟨g', t', cs, fuel, p, q, hg', ht', hvar, hd, _, _⟩, _⟩ := h
  obtain rfl := Option.some.inj (hg.symm.trans hg')
  obtain rfl := Option.some.inj (hty.symm.trans ht')
  obtain ⟨h1, h2⟩ := cell_of_rows ht he hce o0 o1 u0 u1 c0 c1 hd hi
  constructor
  · rw [World.var?_cell hg hvar]; simpa using h1
  · rw [World.var?_cell hg hvar]; simpa using h2
end Go.Proofs.YtcohidjaehdbnaaGreatDoor
namespace Go.Proofs.YtcohidjaehdbnaaGreatDoor
open Go.RowKit
set_option linter.unusedVariables false
attribute [local go_sem ↓] Go.wp_at_zero Go.wp_at_succ

theorem run_negf (x : Nat) (W : World) : (Op.unary UnOp.neg (.float .f64 x)).run Tryz.prog W = .ok (.float .f64 (fopp x)) W := by kernel_rfl
theorem built2f (x y : Nat) : Tryz.prog.builtSlice 24 2 [(0, .float .f64 x), (1, .float .f64 y)] = some #[.float .f64 x, .float .f64 y] := by kernel_rfl
theorem run_sub_some {x y z : Nat} (h : Ieee.double.sub x y = some z) (w : World) : (binOp BinOp.sub 24 (.float .f64 x) (.float .f64 y)).run Tryz.prog w = .ok (.float .f64 z) w := by
  have h2 : FloatKind.f64.format.sub x y = some z := h
  simp [binOp, Op.floatArith, h2]
theorem run_sub_none {x y : Nat} (h : Ieee.double.sub x y = none) (w : World) : ∃ z, fnan z = true ∧ (binOp BinOp.sub 24 (.float .f64 x) (.float .f64 y)).run Tryz.prog w = .ok (.float .f64 z) w.drew := by
  have h2 : FloatKind.f64.format.sub x y = none := h
  refine ⟨_, nan_cut (w.tape w.drawn (.nanBits .f64 x y)), ?_⟩
  simp [binOp, Op.floatArith, h2, choose]
  rfl
theorem pairs_take {xs : List Nat} {i : Nat} (h : i < xs.length) : pairs (xs.take (i + 1)) = pairs (xs.take i) ++ [fopp (xs.getD i 0), xs.getD i 0] := by
  rw [take_one xs h, pairs_app]; rfl
theorem fin_take {xs : List Nat} {i : Nat} (h : i < xs.length) : (xs.take (i + 1)).all ffin = ((xs.take i).all ffin && ffin (xs.getD i 0)) := by
  rw [take_one xs h, List.all_append]; simp
theorem c_SumOne {A : Option Addr} {c x : Nat} (hx : x < 18446744073709551616) {w : World} (h : Reads w w.heap.size 1 A 1 (f64s [x])) :
    Calls Tryz.prog 11 #[.slice A 1 c] w fun e w' => e = .returned (.float .f64 (fone x)) ∧ Below w.heap.size w w' :=
  (c_Sum A 1 c [x] w h (by intro z hz; rw [List.mem_singleton] at hz; omega) (by decide)).mono fun e w' ⟨b, h1, h2, h3⟩ => ⟨by rw [h1, over_one hx h2], h3⟩
theorem c_MeanOne {A : Option Addr} {c x : Nat} (hx : x < 18446744073709551616) {w : World} (h : Reads w w.heap.size 1 A 1 (f64s [x])) :
    Calls Tryz.prog 12 #[.slice A 1 c] w fun e w' => e = .returned (.float .f64 (fone x)) ∧ Below w.heap.size w w' :=
  (c_Mean A 1 c [x] w h (by intro z hz; rw [List.mem_singleton] at hz; omega) (by decide)).mono fun e w' ⟨b, h1, h2, h3⟩ => ⟨by rw [h1, over_one hx (h2.2 (by simp))], h3⟩
theorem c_SpreadOne {A : Option Addr} {c x : Nat} (hx : x < 18446744073709551616) (hf : ffin x = true) {w : World} (h : Reads w w.heap.size 1 A 1 (f64s [x])) :
    Calls Tryz.prog 13 #[.slice A 1 c] w fun e w' => e = .returned (.float .f64 0) ∧ Below w.heap.size w w' :=
  (c_Spread A 1 c [x] w h (by intro z hz; rw [List.mem_singleton] at hz; omega) (by decide)).mono fun e w' ⟨b, h1, h2, h3⟩ => ⟨by rw [h1, spread_one hf h2], h3⟩
theorem one_oneC (b : Nat) : fone (fone b) = fone b := by
  rcases h : fnan b with _ | _
  · rw [fone_no h, fone_no h]
  · rw [fone_yes h]; exact fone_yes (by decide +kernel)
theorem c_SameOne (x : Nat) (w : World) : Calls Tryz.prog 9 #[.float .f64 (fone x), .float .f64 x] w fun e w' => e = .returned (.bool true) ∧ w = w' :=
  c_SameV (by rw [one_oneC]; simp) w
set_option maxRecDepth 100000 in
set_option maxHeartbeats 4000000 in
theorem l_FloatCancels (A : Option Addr) (n c : Nat) (xs : List Nat) (w : World) (hrd : Reads w w.heap.size 1 A n (f64s xs)) (hbx : Bit xs) (hn : n ≤ 1048576) (hal : Alive w) :
    Calls Tryz.prog 5 #[.slice A n c] w fun e w' => e = .returned (.bool true) ∧ Below w.heap.size w w' := by
  obtain ⟨i0, hi0, hz0, hz1, hz2⟩ := info_parts f64_info
  have hxl : xs.length = n := by simpa using hrd.1
  have HXL := Lib.hid hxl
  have HRD := Lib.hid hrd
  have HXB := Lib.hid hbx
  have hal' := Lib.hid hal
  clear hal hrd hxl hbx
  go_enter Tryz.func5, Tryz.ntmps5
  go_wp2_with fail
  refine hal'.out.mono ?_; rintro e w1 ⟨rfl, hb1⟩
  have HB1 := Lib.hid hb1
  clear hb1 hal'
  go_wp2_with fail
  go_loopw [3, 4, 5] (fun va vf vi wr => ∃ (i : Nat) (A0 : Option Addr) (c0 : Nat), va = .slice A0 (2 * i) c0 ∧ vf = .bool ((xs.take i).all ffin) ∧ vi = .int .i64 i ∧ i ≤ n ∧ Hid (Fown w (.slice A0 (2 * i) c0) (2 * i) (pairs (xs.take i)) wr)) (fun _ _ vi _ => n - (intOf vi).toNat)
  case atStart => exact ⟨0, none, 0, rfl, rfl, rfl, Nat.zero_le _, ⟨⟨rfl, .inl ⟨rfl, rfl⟩⟩, HB1.out⟩⟩
  case round =>
    obtain ⟨i, A0, c0, rfl, rfl, rfl, hi, HO⟩ := hrel
    by_cases hlt : i < n
    · obtain ⟨b, off, hA, hb1, hb2, hcell⟩ := (HRD.out.step HO.out.2).form (by omega)
      subst hA
      have hc1 := hcell i hlt
      have hgx : (f64s xs).getD i undef = .float .f64 (xs.getD i 0) := by
        have := HXL.out
        simp [f64s, List.getD, List.getElem?_eq_getElem (show i < xs.length by omega)]
      rw [hgx] at hc1
      have HPT := Lib.hid (pairs_take (xs := xs) (i := i) (by rw [HXL.out]; exact hlt))
      have HFT := Lib.hid (fin_take (xs := xs) (i := i) (by rw [HXL.out]; exact hlt))
      have HXI := Lib.hid (HXB.out.get i)
      have hbw : b < w.heap.size := by
        obtain ⟨ad, e, h, _⟩ := HRD.out.2 (by omega)
        injection e with e
        subst e
        exact h
      have HC0 : Hid (w.cell? ⟨b, off + i, none⟩ = some (.float .f64 (xs.getD i 0))) := by
        show _ = _
        rw [← HO.out.2.cell hbw]; exact hc1
      clear hcell hgx
      generalize xs.getD i 0 = x at *
      generalize (xs.take i).all ffin = f at *
      rcases f with _ | _ <;> rcases hf : ffin x with _ | _
      · have HN := Lib.hid (run_negf x)
        go_wp2_with fail
        go_region
        all_goals
          have hneg : ∀ W, (Op.unary UnOp.neg (.float .f64 x)).run Tryz.prog W = .ok (.float .f64 (fopp x)) W := HN.out
          go_wp2_with fail
          have HOA : Hid ((wr.drew.alloc (.cells #[.float .f64 (fopp x), .float .f64 x] 24)).drew.ownsRow w.heap.size 24 1 (.slice A0 (2 * i) c0) (2 * i) (f64s (pairs (xs.take i)))) := (HO.out.1.drew.alloc _).drew
          have HBA : Hid (Below w.heap.size w (wr.drew.alloc (.cells #[.float .f64 (fopp x), .float .f64 x] 24)).drew) := (HO.out.2.drew.alloc HO.out.2.drew.size _).drew
          have HRA : Hid (Reads (wr.drew.alloc (.cells #[.float .f64 (fopp x), .float .f64 x] 24)).drew (wr.drew.alloc (.cells #[.float .f64 (fopp x), .float .f64 x] 24)).drew.heap.size 1 (some ⟨wr.heap.size, 0, none⟩) 2 [.float .f64 (fopp x), .float .f64 x]) := Reads.of_own (World.ownsRow_lit (e := 24) (size := 1) (base := 0) wr.drew #[.float .f64 (fopp x), .float .f64 x] 2 (Nat.zero_le _) (by decide) rfl).drew
          have HC1 := Lib.hid hc1
          have HE : Hid (f64s (pairs (xs.take i)) ++ [.float .f64 (fopp x), .float .f64 x] = f64s (pairs (xs.take (i + 1)))) := by show _ = _; rw [HPT.out]; simp [f64s]
          go_region_held3 (fun W => W.cell? ⟨b, off + i, none⟩ = some (.float .f64 x)) (go_keep) (first | ((refine step_append_any _ rfl (.tmp 28) (.tmp 38) 30 rfl w.heap.size 24 i0 _ 1 8 Tryz.underlying30 hi0 hz0 hz1 hz2 rfl (by omega) (.slice A0 (2 * i) c0) (2 * i) (f64s (pairs (xs.take i))) (by simp [Act.eval]) HOA.out _ (some ⟨wr.heap.size, 0, none⟩) 2 2 [.float .f64 (fopp x), .float .f64 x] (by simp [Act.eval]) HRA.out (by simp [Value.oneCell']) (by simp only [maxLen]; omega) (by omega) HBA.out.size ?_); intro v2 w2 hown2 hg2 _; rw [HE.out] at hown2; have HB2 := Lib.hid (below_own HBA.out HOA.out hg2); have hck : w2.cell? ⟨b, off + i, none⟩ = some (.float .f64 x) := (HB2.out.cell hbw).trans HC0.out; obtain ⟨A2, c2, rfl⟩ := own_slice hown2; have HW2 := Lib.hid hown2; clear hown2 hg2))
          all_goals
            have HR1 := Lib.hid (Reads.of_own (World.ownsRow_lit (e := 24) (size := 1) (base := 0) w2 #[.float .f64 x] 1 (Nat.zero_le _) (by decide) rfl) : Reads (w2.alloc (.cells #[.float .f64 x] 24)) _ 1 (some ⟨w2.heap.size, 0, none⟩) 1 [.float .f64 x])
            have HB2A : Hid (Below w.heap.size w (w2.alloc (.cells #[.float .f64 x] 24))) := HB2.out.alloc HB2.out.size _
            have hl2 : b < w2.heap.size := Nat.lt_of_lt_of_le hbw HB2.out.size
            clear HOA HBA HRA HE
            go_wp2_with (at_builtin; refine wpList_append_any _ rfl (.tmp 40) (.tmp 45) 30 rfl w.heap.size 24 i0 _ 1 8 Tryz.underlying30 hi0 hz0 hz1 hz2 rfl (by omega) (.slice none 0 0) 0 [] rfl (World.ownsRow_nil _ _ _ _) _ (some ⟨w2.heap.size, 0, none⟩) 1 1 [.float .f64 x] rfl HR1.out (by simp [Value.oneCell']) (by simp only [maxLen]; omega) (by omega) HB2A.out.size ?_; intro v3 w3 hown3 hg3 _; obtain ⟨g3, c3, rfl, _, hl3⟩ := own_form hown3 (by omega); have HR3 : Hid (Reads w3 w3.heap.size 1 (some ⟨g3, 0, none⟩) 1 (f64s [x])) := Reads.of_own hown3; have HW3 := Lib.hid (own_none (HW2.out.alloc _) hg3); have HB3 : Hid (Below w.heap.size w w3) := HB2A.out.trans ((below_of_grown hg3).mono HB2A.out.size); have hck3 : w3.cell? ⟨b, off + i, none⟩ = some (.float .f64 x) := (HB3.out.cell hbw).trans HC0.out; clear hown3 hg3 hck HW2 HR1 HB2A)
            have HS := Lib.hid (c_SumOne (c := c3) HXI.out (w := w3.drew) HR3.out)
            have HSM := Lib.hid (c_SameOne x)
            go_region_held3 (fun W => W.cell? ⟨b, off + i, none⟩ = some (.float .f64 x)) (go_keep) (first
              | (go_at_call 11; first | ((with_reducible refine HS.out.mono ?_); rintro e w4 ⟨rfl, hb4⟩; have HB4 := Lib.hid (HB3.out.drew.trans (hb4.mono HB3.out.drew.size)); have hck4 : w4.cell? ⟨b, off + i, none⟩ = some (.float .f64 x) := (HB4.out.cell hbw).trans HC0.out; have HR4 : Hid (Reads w4 w4.heap.size 1 (some ⟨g3, 0, none⟩) 1 (f64s [x])) := (HR3.out.drew.below hb4).more hb4.size; have HW4 := Lib.hid (own_below HW3.out.drew hb4); have HM := Lib.hid (c_MeanOne (c := c3) HXI.out HR4.out); clear hb4))
              | (go_at_call 9; first | ((with_reducible refine (HSM.out _).mono ?_); rintro e w' ⟨rfl, rfl⟩))
              | (go_at_call 12; first | ((with_reducible refine HM.out.mono ?_); rintro e w5 ⟨rfl, hb5⟩; have HB5 := Lib.hid (HB4.out.trans (hb5.mono HB4.out.size)); have hck5 : w5.cell? ⟨b, off + i, none⟩ = some (.float .f64 x) := (HB5.out.cell hbw).trans HC0.out; have HR5 : Hid (Reads w5 w5.heap.size 1 (some ⟨g3, 0, none⟩) 1 (f64s [x])) := (HR4.out.below hb5).more hb5.size; have HW5 := Lib.hid (own_below HW4.out hb5); clear hb5)))
            all_goals
              obtain ⟨z2, hz2, hsub2⟩ := run_sub_none (sub_non HXI.out hf) w5.drew
              have hze2 : (FloatKind.f64.format.order z2 0 == some .eq) = false := by
                show (Ieee.double.order z2 0 == some .eq) = false
                rw [order_nan_l hz2]; rfl
              have HW6 : Hid (w5.drew.drew.ownsRow w.heap.size 24 1 (.slice A2 (2 * i + 2) c2) (2 * i + 2) (f64s (pairs (xs.take (i + 1))))) := HW5.out.drew.drew
              have HB6 : Hid (Below w.heap.size w w5.drew.drew) := HB5.out.drew.drew
              go_wp2_with fail
              go_region
              all_goals
                go_wp2_with fail
                go_roundw
                case rel => exact ⟨i + 1, A2, c2, rfl, by rw [HFT.out, hf]; rfl, by go_num, hlt, HW6.out, HB6.out⟩
                case measure => simp [intOf]; omega
      · have hsub : ∀ W, (binOp BinOp.sub 24 (.float .f64 x) (.float .f64 x)).run Tryz.prog W = .ok (.float .f64 0) W := fun W => run_sub_some (sub_fin HXI.out hf) W
        have h00 : (FloatKind.f64.format.order 0 0 == some .eq) = true := by decide +kernel
        have HN := Lib.hid (run_negf x)
        go_wp2_with fail
        go_region
        all_goals
          have hneg : ∀ W, (Op.unary UnOp.neg (.float .f64 x)).run Tryz.prog W = .ok (.float .f64 (fopp x)) W := HN.out
          go_wp2_with fail
          have HOA : Hid ((wr.drew.alloc (.cells #[.float .f64 (fopp x), .float .f64 x] 24)).drew.ownsRow w.heap.size 24 1 (.slice A0 (2 * i) c0) (2 * i) (f64s (pairs (xs.take i)))) := (HO.out.1.drew.alloc _).drew
          have HBA : Hid (Below w.heap.size w (wr.drew.alloc (.cells #[.float .f64 (fopp x), .float .f64 x] 24)).drew) := (HO.out.2.drew.alloc HO.out.2.drew.size _).drew
          have HRA : Hid (Reads (wr.drew.alloc (.cells #[.float .f64 (fopp x), .float .f64 x] 24)).drew (wr.drew.alloc (.cells #[.float .f64 (fopp x), .float .f64 x] 24)).drew.heap.size 1 (some ⟨wr.heap.size, 0, none⟩) 2 [.float .f64 (fopp x), .float .f64 x]) := Reads.of_own (World.ownsRow_lit (e := 24) (size := 1) (base := 0) wr.drew #[.float .f64 (fopp x), .float .f64 x] 2 (Nat.zero_le _) (by decide) rfl).drew
          have HC1 := Lib.hid hc1
          have HE : Hid (f64s (pairs (xs.take i)) ++ [.float .f64 (fopp x), .float .f64 x] = f64s (pairs (xs.take (i + 1)))) := by show _ = _; rw [HPT.out]; simp [f64s]
          go_region_held3 (fun W => W.cell? ⟨b, off + i, none⟩ = some (.float .f64 x)) (go_keep) (first | ((refine step_append_any _ rfl (.tmp 28) (.tmp 38) 30 rfl w.heap.size 24 i0 _ 1 8 Tryz.underlying30 hi0 hz0 hz1 hz2 rfl (by omega) (.slice A0 (2 * i) c0) (2 * i) (f64s (pairs (xs.take i))) (by simp [Act.eval]) HOA.out _ (some ⟨wr.heap.size, 0, none⟩) 2 2 [.float .f64 (fopp x), .float .f64 x] (by simp [Act.eval]) HRA.out (by simp [Value.oneCell']) (by simp only [maxLen]; omega) (by omega) HBA.out.size ?_); intro v2 w2 hown2 hg2 _; rw [HE.out] at hown2; have HB2 := Lib.hid (below_own HBA.out HOA.out hg2); have hck : w2.cell? ⟨b, off + i, none⟩ = some (.float .f64 x) := (HB2.out.cell hbw).trans HC0.out; obtain ⟨A2, c2, rfl⟩ := own_slice hown2; have HW2 := Lib.hid hown2; clear hown2 hg2))
          all_goals
            have HR1 := Lib.hid (Reads.of_own (World.ownsRow_lit (e := 24) (size := 1) (base := 0) w2 #[.float .f64 x] 1 (Nat.zero_le _) (by decide) rfl) : Reads (w2.alloc (.cells #[.float .f64 x] 24)) _ 1 (some ⟨w2.heap.size, 0, none⟩) 1 [.float .f64 x])
            have HB2A : Hid (Below w.heap.size w (w2.alloc (.cells #[.float .f64 x] 24))) := HB2.out.alloc HB2.out.size _
            have hl2 : b < w2.heap.size := Nat.lt_of_lt_of_le hbw HB2.out.size
            clear HOA HBA HRA HE
            go_wp2_with (at_builtin; refine wpList_append_any _ rfl (.tmp 40) (.tmp 45) 30 rfl w.heap.size 24 i0 _ 1 8 Tryz.underlying30 hi0 hz0 hz1 hz2 rfl (by omega) (.slice none 0 0) 0 [] rfl (World.ownsRow_nil _ _ _ _) _ (some ⟨w2.heap.size, 0, none⟩) 1 1 [.float .f64 x] rfl HR1.out (by simp [Value.oneCell']) (by simp only [maxLen]; omega) (by omega) HB2A.out.size ?_; intro v3 w3 hown3 hg3 _; obtain ⟨g3, c3, rfl, _, hl3⟩ := own_form hown3 (by omega); have HR3 : Hid (Reads w3 w3.heap.size 1 (some ⟨g3, 0, none⟩) 1 (f64s [x])) := Reads.of_own hown3; have HW3 := Lib.hid (own_none (HW2.out.alloc _) hg3); have HB3 : Hid (Below w.heap.size w w3) := HB2A.out.trans ((below_of_grown hg3).mono HB2A.out.size); have hck3 : w3.cell? ⟨b, off + i, none⟩ = some (.float .f64 x) := (HB3.out.cell hbw).trans HC0.out; clear hown3 hg3 hck HW2 HR1 HB2A)
            have HS := Lib.hid (c_SumOne (c := c3) HXI.out (w := w3.drew) HR3.out)
            have HSM := Lib.hid (c_SameOne x)
            go_region_held3 (fun W => W.cell? ⟨b, off + i, none⟩ = some (.float .f64 x)) (go_keep) (first
              | (go_at_call 11; first | ((with_reducible refine HS.out.mono ?_); rintro e w4 ⟨rfl, hb4⟩; have HB4 := Lib.hid (HB3.out.drew.trans (hb4.mono HB3.out.drew.size)); have hck4 : w4.cell? ⟨b, off + i, none⟩ = some (.float .f64 x) := (HB4.out.cell hbw).trans HC0.out; have HR4 : Hid (Reads w4 w4.heap.size 1 (some ⟨g3, 0, none⟩) 1 (f64s [x])) := (HR3.out.drew.below hb4).more hb4.size; have HW4 := Lib.hid (own_below HW3.out.drew hb4); have HM := Lib.hid (c_MeanOne (c := c3) HXI.out HR4.out); clear hb4))
              | (go_at_call 9; first | ((with_reducible refine (HSM.out _).mono ?_); rintro e w' ⟨rfl, rfl⟩))
              | (go_at_call 12; first | ((with_reducible refine HM.out.mono ?_); rintro e w5 ⟨rfl, hb5⟩; have HB5 := Lib.hid (HB4.out.trans (hb5.mono HB4.out.size)); have hck5 : w5.cell? ⟨b, off + i, none⟩ = some (.float .f64 x) := (HB5.out.cell hbw).trans HC0.out; have HR5 : Hid (Reads w5 w5.heap.size 1 (some ⟨g3, 0, none⟩) 1 (f64s [x])) := (HR4.out.below hb5).more hb5.size; have HW5 := Lib.hid (own_below HW4.out hb5); clear hb5)))
            all_goals
              have HSP := Lib.hid (c_SpreadOne (c := c3) HXI.out hf (w := w5.drew) HR5.out.drew)
              have hnn : (FloatKind.f64.format.order 0 0 != some .eq) = false := by decide +kernel
              go_wp2_with fail
              go_region_held3 (fun W => W.cell? ⟨b, off + i, none⟩ = some (.float .f64 x)) (go_keep) (first
                | (go_at_call 13; first | ((with_reducible refine HSP.out.mono ?_); rintro e w6 ⟨rfl, hb6⟩; have HB6 := Lib.hid (HB5.out.drew.trans (hb6.mono HB5.out.drew.size)); have hck6 : w6.cell? ⟨b, off + i, none⟩ = some (.float .f64 x) := (HB6.out.cell hbw).trans HC0.out; have HW6 := Lib.hid (own_below HW5.out.drew hb6); clear hb6)))
              all_goals
                go_wp2_with fail
                go_roundw
                case rel => exact ⟨i + 1, A2, c2, rfl, by rw [HFT.out, hf]; rfl, by go_num, hlt, HW6.out, HB6.out⟩
                case measure => simp [intOf]; omega
      · obtain ⟨z, hz, hsub⟩ := run_sub_none (sub_non HXI.out hf) wr.drew
        have hze : (FloatKind.f64.format.order z 0 == some .eq) = false := by
          show (Ieee.double.order z 0 == some .eq) = false
          rw [order_nan_l hz]; rfl
        have HN := Lib.hid (run_negf x)
        go_wp2_with fail
        go_region
        all_goals
          have hneg : ∀ W, (Op.unary UnOp.neg (.float .f64 x)).run Tryz.prog W = .ok (.float .f64 (fopp x)) W := HN.out
          clear hsub
          go_wp2_with fail
          have HOA : Hid ((wr.drew.drew.alloc (.cells #[.float .f64 (fopp x), .float .f64 x] 24)).drew.ownsRow w.heap.size 24 1 (.slice A0 (2 * i) c0) (2 * i) (f64s (pairs (xs.take i)))) := (HO.out.1.drew.drew.alloc _).drew
          have HBA : Hid (Below w.heap.size w (wr.drew.drew.alloc (.cells #[.float .f64 (fopp x), .float .f64 x] 24)).drew) := (HO.out.2.drew.drew.alloc HO.out.2.drew.drew.size _).drew
          have HRA : Hid (Reads (wr.drew.drew.alloc (.cells #[.float .f64 (fopp x), .float .f64 x] 24)).drew (wr.drew.drew.alloc (.cells #[.float .f64 (fopp x), .float .f64 x] 24)).drew.heap.size 1 (some ⟨wr.heap.size, 0, none⟩) 2 [.float .f64 (fopp x), .float .f64 x]) := Reads.of_own (World.ownsRow_lit (e := 24) (size := 1) (base := 0) wr.drew.drew #[.float .f64 (fopp x), .float .f64 x] 2 (Nat.zero_le _) (by decide) rfl).drew
          have HC1 := Lib.hid hc1
          have HE : Hid (f64s (pairs (xs.take i)) ++ [.float .f64 (fopp x), .float .f64 x] = f64s (pairs (xs.take (i + 1)))) := by show _ = _; rw [HPT.out]; simp [f64s]
          go_region_held3 (fun W => W.cell? ⟨b, off + i, none⟩ = some (.float .f64 x)) (go_keep) (first | ((refine step_append_any _ rfl (.tmp 28) (.tmp 38) 30 rfl w.heap.size 24 i0 _ 1 8 Tryz.underlying30 hi0 hz0 hz1 hz2 rfl (by omega) (.slice A0 (2 * i) c0) (2 * i) (f64s (pairs (xs.take i))) (by simp [Act.eval]) HOA.out _ (some ⟨wr.heap.size, 0, none⟩) 2 2 [.float .f64 (fopp x), .float .f64 x] (by simp [Act.eval]) HRA.out (by simp [Value.oneCell']) (by simp only [maxLen]; omega) (by omega) HBA.out.size ?_); intro v2 w2 hown2 hg2 _; rw [HE.out] at hown2; have HB2 := Lib.hid (below_own HBA.out HOA.out hg2); have hck : w2.cell? ⟨b, off + i, none⟩ = some (.float .f64 x) := (HB2.out.cell hbw).trans HC0.out; obtain ⟨A2, c2, rfl⟩ := own_slice hown2; have HW2 := Lib.hid hown2; clear hown2 hg2))
          all_goals
            have HR1 := Lib.hid (Reads.of_own (World.ownsRow_lit (e := 24) (size := 1) (base := 0) w2 #[.float .f64 x] 1 (Nat.zero_le _) (by decide) rfl) : Reads (w2.alloc (.cells #[.float .f64 x] 24)) _ 1 (some ⟨w2.heap.size, 0, none⟩) 1 [.float .f64 x])
            have HB2A : Hid (Below w.heap.size w (w2.alloc (.cells #[.float .f64 x] 24))) := HB2.out.alloc HB2.out.size _
            have hl2 : b < w2.heap.size := Nat.lt_of_lt_of_le hbw HB2.out.size
            clear HOA HBA HRA HE
            go_wp2_with (at_builtin; refine wpList_append_any _ rfl (.tmp 40) (.tmp 45) 30 rfl w.heap.size 24 i0 _ 1 8 Tryz.underlying30 hi0 hz0 hz1 hz2 rfl (by omega) (.slice none 0 0) 0 [] rfl (World.ownsRow_nil _ _ _ _) _ (some ⟨w2.heap.size, 0, none⟩) 1 1 [.float .f64 x] rfl HR1.out (by simp [Value.oneCell']) (by simp only [maxLen]; omega) (by omega) HB2A.out.size ?_; intro v3 w3 hown3 hg3 _; obtain ⟨g3, c3, rfl, _, hl3⟩ := own_form hown3 (by omega); have HR3 : Hid (Reads w3 w3.heap.size 1 (some ⟨g3, 0, none⟩) 1 (f64s [x])) := Reads.of_own hown3; have HW3 := Lib.hid (own_none (HW2.out.alloc _) hg3); have HB3 : Hid (Below w.heap.size w w3) := HB2A.out.trans ((below_of_grown hg3).mono HB2A.out.size); have hck3 : w3.cell? ⟨b, off + i, none⟩ = some (.float .f64 x) := (HB3.out.cell hbw).trans HC0.out; clear hown3 hg3 hck HW2 HR1 HB2A)
            have HS := Lib.hid (c_SumOne (c := c3) HXI.out (w := w3.drew) HR3.out)
            have HSM := Lib.hid (c_SameOne x)
            go_region_held3 (fun W => W.cell? ⟨b, off + i, none⟩ = some (.float .f64 x)) (go_keep) (first
              | (go_at_call 11; first | ((with_reducible refine HS.out.mono ?_); rintro e w4 ⟨rfl, hb4⟩; have HB4 := Lib.hid (HB3.out.drew.trans (hb4.mono HB3.out.drew.size)); have hck4 : w4.cell? ⟨b, off + i, none⟩ = some (.float .f64 x) := (HB4.out.cell hbw).trans HC0.out; have HR4 : Hid (Reads w4 w4.heap.size 1 (some ⟨g3, 0, none⟩) 1 (f64s [x])) := (HR3.out.drew.below hb4).more hb4.size; have HW4 := Lib.hid (own_below HW3.out.drew hb4); have HM := Lib.hid (c_MeanOne (c := c3) HXI.out HR4.out); clear hb4))
              | (go_at_call 9; first | ((with_reducible refine (HSM.out _).mono ?_); rintro e w' ⟨rfl, rfl⟩))
              | (go_at_call 12; first | ((with_reducible refine HM.out.mono ?_); rintro e w5 ⟨rfl, hb5⟩; have HB5 := Lib.hid (HB4.out.trans (hb5.mono HB4.out.size)); have hck5 : w5.cell? ⟨b, off + i, none⟩ = some (.float .f64 x) := (HB5.out.cell hbw).trans HC0.out; have HR5 : Hid (Reads w5 w5.heap.size 1 (some ⟨g3, 0, none⟩) 1 (f64s [x])) := (HR4.out.below hb5).more hb5.size; have HW5 := Lib.hid (own_below HW4.out hb5); clear hb5)))
            all_goals
              obtain ⟨z2, hz2, hsub2⟩ := run_sub_none (sub_non HXI.out hf) w5.drew
              have hze2 : (FloatKind.f64.format.order z2 0 == some .eq) = false := by
                show (Ieee.double.order z2 0 == some .eq) = false
                rw [order_nan_l hz2]; rfl
              have HW6 : Hid (w5.drew.drew.ownsRow w.heap.size 24 1 (.slice A2 (2 * i + 2) c2) (2 * i + 2) (f64s (pairs (xs.take (i + 1))))) := HW5.out.drew.drew
              have HB6 : Hid (Below w.heap.size w w5.drew.drew) := HB5.out.drew.drew
              go_wp2_with fail
              go_region
              all_goals
                go_wp2_with fail
                go_roundw
                case rel => exact ⟨i + 1, A2, c2, rfl, by rw [HFT.out, hf]; rfl, by go_num, hlt, HW6.out, HB6.out⟩
                case measure => simp [intOf]; omega
      · have hsub : ∀ W, (binOp BinOp.sub 24 (.float .f64 x) (.float .f64 x)).run Tryz.prog W = .ok (.float .f64 0) W := fun W => run_sub_some (sub_fin HXI.out hf) W
        have h00 : (FloatKind.f64.format.order 0 0 == some .eq) = true := by decide +kernel
        have HN := Lib.hid (run_negf x)
        go_wp2_with fail
        go_region
        all_goals
          have hneg : ∀ W, (Op.unary UnOp.neg (.float .f64 x)).run Tryz.prog W = .ok (.float .f64 (fopp x)) W := HN.out
          go_wp2_with fail
          have HOA : Hid ((wr.drew.alloc (.cells #[.float .f64 (fopp x), .float .f64 x] 24)).drew.ownsRow w.heap.size 24 1 (.slice A0 (2 * i) c0) (2 * i) (f64s (pairs (xs.take i)))) := (HO.out.1.drew.alloc _).drew
          have HBA : Hid (Below w.heap.size w (wr.drew.alloc (.cells #[.float .f64 (fopp x), .float .f64 x] 24)).drew) := (HO.out.2.drew.alloc HO.out.2.drew.size _).drew
          have HRA : Hid (Reads (wr.drew.alloc (.cells #[.float .f64 (fopp x), .float .f64 x] 24)).drew (wr.drew.alloc (.cells #[.float .f64 (fopp x), .float .f64 x] 24)).drew.heap.size 1 (some ⟨wr.heap.size, 0, none⟩) 2 [.float .f64 (fopp x), .float .f64 x]) := Reads.of_own (World.ownsRow_lit (e := 24) (size := 1) (base := 0) wr.drew #[.float .f64 (fopp x), .float .f64 x] 2 (Nat.zero_le _) (by decide) rfl).drew
          have HC1 := Lib.hid hc1
          have HE : Hid (f64s (pairs (xs.take i)) ++ [.float .f64 (fopp x), .float .f64 x] = f64s (pairs (xs.take (i + 1)))) := by show _ = _; rw [HPT.out]; simp [f64s]
          go_region_held3 (fun W => W.cell? ⟨b, off + i, none⟩ = some (.float .f64 x)) (go_keep) (first | ((refine step_append_any _ rfl (.tmp 28) (.tmp 38) 30 rfl w.heap.size 24 i0 _ 1 8 Tryz.underlying30 hi0 hz0 hz1 hz2 rfl (by omega) (.slice A0 (2 * i) c0) (2 * i) (f64s (pairs (xs.take i))) (by simp [Act.eval]) HOA.out _ (some ⟨wr.heap.size, 0, none⟩) 2 2 [.float .f64 (fopp x), .float .f64 x] (by simp [Act.eval]) HRA.out (by simp [Value.oneCell']) (by simp only [maxLen]; omega) (by omega) HBA.out.size ?_); intro v2 w2 hown2 hg2 _; rw [HE.out] at hown2; have HB2 := Lib.hid (below_own HBA.out HOA.out hg2); have hck : w2.cell? ⟨b, off + i, none⟩ = some (.float .f64 x) := (HB2.out.cell hbw).trans HC0.out; obtain ⟨A2, c2, rfl⟩ := own_slice hown2; have HW2 := Lib.hid hown2; clear hown2 hg2))
          all_goals
            have HR1 := Lib.hid (Reads.of_own (World.ownsRow_lit (e := 24) (size := 1) (base := 0) w2 #[.float .f64 x] 1 (Nat.zero_le _) (by decide) rfl) : Reads (w2.alloc (.cells #[.float .f64 x] 24)) _ 1 (some ⟨w2.heap.size, 0, none⟩) 1 [.float .f64 x])
            have HB2A : Hid (Below w.heap.size w (w2.alloc (.cells #[.float .f64 x] 24))) := HB2.out.alloc HB2.out.size _
            have hl2 : b < w2.heap.size := Nat.lt_of_lt_of_le hbw HB2.out.size
            clear HOA HBA HRA HE
            go_wp2_with (at_builtin; refine wpList_append_any _ rfl (.tmp 40) (.tmp 45) 30 rfl w.heap.size 24 i0 _ 1 8 Tryz.underlying30 hi0 hz0 hz1 hz2 rfl (by omega) (.slice none 0 0) 0 [] rfl (World.ownsRow_nil _ _ _ _) _ (some ⟨w2.heap.size, 0, none⟩) 1 1 [.float .f64 x] rfl HR1.out (by simp [Value.oneCell']) (by simp only [maxLen]; omega) (by omega) HB2A.out.size ?_; intro v3 w3 hown3 hg3 _; obtain ⟨g3, c3, rfl, _, hl3⟩ := own_form hown3 (by omega); have HR3 : Hid (Reads w3 w3.heap.size 1 (some ⟨g3, 0, none⟩) 1 (f64s [x])) := Reads.of_own hown3; have HW3 := Lib.hid (own_none (HW2.out.alloc _) hg3); have HB3 : Hid (Below w.heap.size w w3) := HB2A.out.trans ((below_of_grown hg3).mono HB2A.out.size); have hck3 : w3.cell? ⟨b, off + i, none⟩ = some (.float .f64 x) := (HB3.out.cell hbw).trans HC0.out; clear hown3 hg3 hck HW2 HR1 HB2A)
            have HS := Lib.hid (c_SumOne (c := c3) HXI.out (w := w3.drew) HR3.out)
            have HSM := Lib.hid (c_SameOne x)
            go_region_held3 (fun W => W.cell? ⟨b, off + i, none⟩ = some (.float .f64 x)) (go_keep) (first
              | (go_at_call 11; first | ((with_reducible refine HS.out.mono ?_); rintro e w4 ⟨rfl, hb4⟩; have HB4 := Lib.hid (HB3.out.drew.trans (hb4.mono HB3.out.drew.size)); have hck4 : w4.cell? ⟨b, off + i, none⟩ = some (.float .f64 x) := (HB4.out.cell hbw).trans HC0.out; have HR4 : Hid (Reads w4 w4.heap.size 1 (some ⟨g3, 0, none⟩) 1 (f64s [x])) := (HR3.out.drew.below hb4).more hb4.size; have HW4 := Lib.hid (own_below HW3.out.drew hb4); have HM := Lib.hid (c_MeanOne (c := c3) HXI.out HR4.out); clear hb4))
              | (go_at_call 9; first | ((with_reducible refine (HSM.out _).mono ?_); rintro e w' ⟨rfl, rfl⟩))
              | (go_at_call 12; first | ((with_reducible refine HM.out.mono ?_); rintro e w5 ⟨rfl, hb5⟩; have HB5 := Lib.hid (HB4.out.trans (hb5.mono HB4.out.size)); have hck5 : w5.cell? ⟨b, off + i, none⟩ = some (.float .f64 x) := (HB5.out.cell hbw).trans HC0.out; have HR5 : Hid (Reads w5 w5.heap.size 1 (some ⟨g3, 0, none⟩) 1 (f64s [x])) := (HR4.out.below hb5).more hb5.size; have HW5 := Lib.hid (own_below HW4.out hb5); clear hb5)))
            all_goals
              have HSP := Lib.hid (c_SpreadOne (c := c3) HXI.out hf (w := w5.drew) HR5.out.drew)
              have hnn : (FloatKind.f64.format.order 0 0 != some .eq) = false := by decide +kernel
              go_wp2_with fail
              go_region_held3 (fun W => W.cell? ⟨b, off + i, none⟩ = some (.float .f64 x)) (go_keep) (first
                | (go_at_call 13; first | ((with_reducible refine HSP.out.mono ?_); rintro e w6 ⟨rfl, hb6⟩; have HB6 := Lib.hid (HB5.out.drew.trans (hb6.mono HB5.out.drew.size)); have hck6 : w6.cell? ⟨b, off + i, none⟩ = some (.float .f64 x) := (HB6.out.cell hbw).trans HC0.out; have HW6 := Lib.hid (own_below HW5.out.drew hb6); clear hb6)))
              all_goals
                go_wp2_with fail
                go_roundw
                case rel => exact ⟨i + 1, A2, c2, rfl, by rw [HFT.out, hf]; rfl, by go_num, hlt, HW6.out, HB6.out⟩
                case measure => simp [intOf]; omega
    · obtain rfl : i = n := by omega
      have hxe : xs.take i = xs := List.take_of_length_le (by rw [HXL.out]; exact Nat.le_refl _)
      have HO2 : Hid (Fown w (.slice A0 (2 * i) c0) (2 * i) (pairs xs) wr) := by
        have := HO.out
        rw [hxe] at this
        exact this
      rw [hxe]
      rcases hfin : xs.all ffin with _ | _
      · go_wp2_with fail
        go_ret
        exact ⟨rfl, HO2.out.2⟩
      · have HPB : Hid (Bit (pairs xs)) := fun z hz => by
          obtain ⟨x, hx, e | e⟩ := pairs_mem hz
          · rw [e]; exact fopp_lt (HXB.out x hx)
          · rw [e]; exact HXB.out x hx
        have HS := Lib.hid (c_Sum A0 (2 * i) c0 (pairs xs) wr (Reads.of_own HO2.out.1) HPB.out (by omega))
        have HF : Hid (∀ z ∈ xs, ffin z = true) := fun z hz => List.all_eq_true.1 hfin z hz
        go_wp2_with fail
        refine HS.out.mono ?_; rintro e w2 ⟨b2, rfl, h2, hb2⟩
        have HB2 := Lib.hid (HO2.out.2.trans (hb2.mono HO2.out.2.size))
        have hz : (FloatKind.f64.format.order b2 0 == some .eq) = true := by
          rcases pairs_nought HXB.out HF.out h2 with e | e <;> rw [e] <;> decide +kernel
        clear h2 hb2
        go_wp2_with fail
        go_ret
        exact ⟨rfl, HB2.out⟩
end Go.Proofs.YtcohidjaehdbnaaGreatDoor
namespace Go.Proofs.YtcohidjaehdbnaaGreatDoor
open Go.RowKit
set_option linter.unusedVariables false

theorem l_FloatCancelsT (W : World) (ht : Tab W) (A : Option Addr) (n c : Nat) (xs : List Nat) (h : RdFloats W A n c xs) (hn : n ≤ 1048576) :
    Calls Tryz.prog 5 #[.slice A n c] W fun e w' => e = .returned (.bool true) ∧ Below W.heap.size W w' :=
  l_FloatCancels A n c xs W h.2.2.2 h.2.2.1 hn (c_alive W ht)
end Go.Proofs.YtcohidjaehdbnaaGreatDoor
