/- What the laid table of powers says of its cells; the law of the shortest text of a float, at any memory that bears the library's tables. Conditions: as stated. -/
import Derived.Test.YthoifpapdefheaaGreatDoorXp
import Derived.Lib.LaidTab
import Derived.ChangeArms
namespace Go.Proofs.YthoifpapdefheaaGreatDoor
open Go.RowKit Go.Lib
set_option linter.unusedVariables false

theorem cell_of_rows {H : Type} {enc : TypeId × Value → H} {P : Program} {w : World} {base : Nat} {sp : Nat → Bool} {held : Bool} {fuel : Nat} {t e : TypeId} {n : Nat} {f0 f1 : Field} {cs : List Value} {ds : List (DataW H)} {p : List MemPlace}
    (ht : P.underlying t = some (.array n e)) (he : P.underlying e = some (.struct #[f0, f1])) (hce : P.cellsOf e = 2)
    (o0 : f0.offset = 0) (o1 : f1.offset = 1) (u0 : P.underlying f0.type = some (.int .u64)) (u1 : P.underlying f1.type = some (.int .u64)) (c0 : P.cellsOf f0.type = 1) (c1 : P.cellsOf f1.type = 1)
    (h : DataW.trod enc P w base sp held fuel t cs = some (.agg ds, p)) {i : Nat} {x y : Int} (hi : ds[i]? = some (.agg [.lit (.int .u64 x), .lit (.int .u64 y)])) :
    cs[i * 2]? = some (.int .u64 x) ∧ cs[i * 2 + 1]? = some (.int .u64 y) := by
  cases fuel with
  | zero => simp [DataW.trod] at h
  | succ fuel =>
    simp only [DataW.trod, ht, hce] at h
    split at h
    · rename_i hl
      obtain ⟨xs, hm, hx⟩ := Option.map_eq_some_iff.1 h
      have hxs : xs.map (·.1) = ds := by
        have := congrArg Prod.fst hx
        simpa using this
      have hxl : xs.length = n := by simpa using mapM_length hm
      have hin : i < n := by
        have h1 : i < ds.length := (List.getElem?_eq_some_iff.1 hi).1
        rw [← hxs, List.length_map] at h1
        omega
      obtain ⟨b, hb, hf⟩ := mapM_at hm i i (by simp [hin])
      have hb1 : b.1 = .agg [.lit (.int .u64 x), .lit (.int .u64 y)] := by
        rw [← hxs, List.getElem?_map, hb] at hi
        simpa using hi
      obtain ⟨ys, m, _, rfl, hl2, hyl, hfs⟩ := DataW.trod_struct he hf
      have hys : ys.map (·.1) = [.lit (.int .u64 x), .lit (.int .u64 y)] := by simpa using hb1
      have hy2 : ys.length = 2 := by have := congrArg List.length hys; simpa using this
      have g0 := hfs 0 f0 rfl
      have g1 := hfs 1 f1 rfl
      rw [o0, c0] at g0
      rw [o1, c1] at g1
      rw [List.getElem?_eq_getElem (show 0 < ys.length by omega)] at g0
      rw [List.getElem?_eq_getElem (show 1 < ys.length by omega)] at g1
      obtain ⟨v0, e0, q0, _⟩ := DataW.trod_int u0 g0
      obtain ⟨v1, e1, q1, _⟩ := DataW.trod_int u1 g1
      have k0 : (ys.map (·.1))[0]? = some (DataW.lit (.int .u64 v0)) := by
        rw [List.getElem?_map, List.getElem?_eq_getElem (show 0 < ys.length by omega), q0]; rfl
      have k1 : (ys.map (·.1))[1]? = some (DataW.lit (.int .u64 v1)) := by
        rw [List.getElem?_map, List.getElem?_eq_getElem (show 1 < ys.length by omega), q1]; rfl
      rw [hys] at k0 k1
      simp only [List.getElem?_cons_zero, List.getElem?_cons_succ, Option.some.injEq, DataW.lit.injEq, Lit.int.injEq, true_and] at k0 k1
      subst k0 k1
      constructor
      · have := congrArg (·[0]?) e0
        simpa [List.getElem?_take, List.getElem?_drop] using this
      · have := congrArg (·[0]?) e1
        simpa [List.getElem?_take, List.getElem?_drop, Nat.add_comm] using this
    · cases h
/-- From the row's condition to the table's two cells: the table stands first on the list. -/
theorem rows_of_head {P : Program} {W : World} {name : String} {ds : List (DataW Unit)} {rest : List (String × DataW Unit)} {g : Nat} {t e : TypeId} {n : Nat} {f0 f1 : Field}
    (hg : P.globalNamed name = some g) (hty : (P.globals[g]?).map (·.type) = some t) (ht : P.underlying t = some (.array n e)) (he : P.underlying e = some (.struct #[f0, f1])) (hce : P.cellsOf e = 2)
    (o0 : f0.offset = 0) (o1 : f1.offset = 1) (u0 : P.underlying f0.type = some (.int .u64)) (u1 : P.underlying f1.type = some (.int .u64)) (c0 : P.cellsOf f0.type = 1) (c1 : P.cellsOf f1.type = 1)
    (h : laidMet P ((name, .agg ds) :: rest) W) {i : Nat} {x y : Int} (hi : ds[i]? = some (.agg [.lit (.int .u64 x), .lit (.int .u64 y)])) :
    W.cell? ⟨g, i * 2, none⟩ = some (.int .u64 x) ∧ W.cell? ⟨g, i * 2 + 1, none⟩ = some (.int .u64 y) := by
  obtain ⟨ps, ⟨g', t', cs, fuel, p, q, hg', ht', hvar, hd, _, _⟩, _⟩ := h
  obtain rfl := Option.some.inj (hg.symm.trans hg')
  obtain rfl := Option.some.inj (hty.symm.trans ht')
  obtain ⟨h1, h2⟩ := cell_of_rows ht he hce o0 o1 u0 u1 c0 c1 hd hi
  constructor
  · rw [World.var?_cell hg hvar]; simpa using h1
  · rw [World.var?_cell hg hvar]; simpa using h2
def rowAt (i : Nat) : Nat × Nat := (hiN ((i : Int) - 348), loN ((i : Int) - 348))
set_option maxRecDepth 100000 in
theorem rows_pinned : Go.Pinned.pow10Rows = (List.range 696).map rowAt := by decide +kernel
theorem row_pinned (i : Nat) (h : i < 696) : (Go.Pinned.pow10Rows.map fun x => (DataW.agg [.lit (.int .u64 x.1), .lit (.int .u64 x.2)] : DataW Unit))[i]? = some (.agg [.lit (.int .u64 ((hiN ((i : Int) - 348) : Nat) : Int)), .lit (.int .u64 ((loN ((i : Int) - 348) : Nat) : Int))]) := by
  rw [rows_pinned, List.map_map, List.getElem?_map, List.getElem?_range h]
  rfl
theorem l_FloatTextsT (W : World) (ht : TabS W) (x1 : Int) (w1 : (Lit.int .u64 x1).wf = true) :
    Calls Tryz.prog 3 #[.int .u64 x1] W fun e w' => e = .returned (.bool true) ∧ Below W.heap.size W w' := by
  have h' : 0 ≤ x1 ∧ x1 ≤ 18446744073709551615 := of_decide_eq_true (show decide (0 ≤ x1 ∧ x1 ≤ 18446744073709551615) = true from by simpa [Lit.wf, IntKind.min, IntKind.max, IntKind.signed, IntKind.bits] using w1)
  obtain ⟨b, rfl⟩ : ∃ b : Nat, x1 = (b : Int) := ⟨x1.toNat, by omega⟩
  have hb : b < 18446744073709551616 := by omega
  have k1 := call_frombits b
  have HT := Lib.hid (c_TextI b hb W ht)
  have HR := Lib.hid (fun V => c_rText b hb V)
  clear h' hb ht w1
  unfold TxR at HR
  generalize txtF b = T at *
  go_enter Tryz.func3, Tryz.ntmps3
  go_wp2_with fail
  refine HT.out.mono ?_; rintro e w1 ⟨rfl, hb1⟩
  have HB1 := Lib.hid hb1
  clear hb1
  go_wp2_with fail
  refine (HR.out _).mono ?_; rintro e w2 ⟨rfl, hb2⟩
  have HB2 := Lib.hid (HB1.out.trans (hb2.mono HB1.out.size))
  clear hb2
  go_wp2
  go_ret
  exact ⟨by first | rfl | simp, HB2.out⟩
end Go.Proofs.YthoifpapdefheaaGreatDoor
