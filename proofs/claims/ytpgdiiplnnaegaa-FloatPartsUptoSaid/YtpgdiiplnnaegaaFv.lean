/- Words and a walk: floats as cells, two ranges of a row of floats changed about (slices.swapRangeCmpFunc). Conditions: as stated. -/
import Derived.Test.YtpgdiiplnnaegaaSrt
import Derived.Test.YtpgdiiplnnaegaaMem2
import Derived.Test.YtpgdiiplnnaegaaFw1
import Derived.WalkKit
import Derived.BigRegion
import Derived.BigQuiet
import Derived.Deep.QuietTactic
import Derived.Deep.RegionHeld3
import Derived.Deep.DrawnRows
import Derived.Lib.Hide
import Derived.IntWalk
import Derived.Outline
namespace Go.Proofs.Ytpgdiiplnnaegaa
open Go.RowKit
set_option linter.unusedVariables false
theorem run_store_float {P : Program} {w : World} {a : Addr} {m : Mode} (k : FloatKind) (b : Nat) : (store a (.float k b) m).run P w = stored P w a (.float k b) m := run_store P w a _ m rfl
attribute [local go_sem ↓] Go.wp_at_zero Go.wp_at_succ
attribute [local go_sem] run_store_float

/-- Floats as cells. -/
abbrev f64s (xs : List Nat) : List Value := xs.map (Value.float .f64)
/-- The comparison that is handed in. -/
abbrev cmpV : Value := .func (.func 11) #[] #[]
theorem f64_info : (Try.prog.info? 23).map (fun i => (i.zero, i.size, i.bytes)) = some (some (.float .f64 0), 1, 8) := by kernel_rfl
theorem f64s_one (xs : List Nat) : ∀ u ∈ f64s xs, u.oneCell' = true := by intro u hu; obtain ⟨z, _, rfl⟩ := List.mem_map.1 hu; rfl
abbrev Frow (w : World) (B g n cap : Nat) (xs : List Nat) : Prop := w.ownsRow B 23 1 (.slice (some ⟨g, 0, none⟩) n cap) n (f64s xs)
/-- What a function leaves that changes a row of floats about. -/
def Left (B g n cap : Nat) (w : World) (R : List Nat → Prop) (e : Ending) (w' : World) : Prop := e = .returned (.tuple #[]) ∧ ∃ ys, R ys ∧ Frow w' B g n cap ys ∧ w.grownBy w' (some g)
theorem Frow.len {w : World} {B g n cap : Nat} {xs : List Nat} (h : Frow w B g n cap xs) : xs.length = n := by have := h.1; simpa using this
theorem Frow.cell {w : World} {B g n cap : Nat} {xs : List Nat} (h : Frow w B g n cap xs) {i : Nat} (hi : i < n) : w.cell? ⟨g, i, none⟩ = some (.float .f64 (xs.getD i 0)) := by
  have hl := h.len
  rw [World.ownsRow.cellAt h i (by omega)]
  simp [List.getD, List.getElem?_eq_getElem (show i < xs.length by omega)]
theorem Frow.swapped {w : World} {B g n cap : Nat} {xs : List Nat} (h : Frow w B g n cap xs) (i j : Nat) : Frow ((w.setCell ⟨g, i, none⟩ (.float .f64 (xs.getD j 0))).setCell ⟨g, j, none⟩ (.float .f64 (xs.getD i 0))) B g n cap (sw xs i j) ∧ w.grownBy ((w.setCell ⟨g, i, none⟩ (.float .f64 (xs.getD j 0))).setCell ⟨g, j, none⟩ (.float .f64 (xs.getD i 0))) (some g) := by
  have h1 := World.ownsRow.stored h i (.float .f64 (xs.getD j 0))
  have h2 := World.ownsRow.stored h1.1 j (.float .f64 (xs.getD i 0))
  refine ⟨?_, only_trans h1.2 h2.2⟩
  have e : ((f64s xs).set i (.float .f64 (xs.getD j 0))).set j (.float .f64 (xs.getD i 0)) = f64s (sw xs i j) := by unfold sw f64s; rw [List.map_set, List.map_set]
  rw [e] at h2
  exact h2.1
set_option maxRecDepth 100000 in
set_option maxHeartbeats 1000000 in
theorem c_swr (B g n cap : Nat) (xs : List Nat) (a b m : Nat) (w : World) (h : Frow w B g n cap xs) (hn : n ≤ 140737488355328) (hab : a + m ≤ b) (hb : b + m ≤ n) :
    Calls Try.prog 90 #[.slice (some ⟨g, 0, none⟩) n cap, .int .i64 a, .int .i64 b, .int .i64 m, cmpV] w (Left B g n cap w fun ys => Swr xs a b m ys ∧ ys.Perm xs) := by
  have HXL := Lib.hid h.len
  have HR := Lib.hid h
  clear h
  go_enter Try.func90, Try.ntmps90
  go_wp2
  go_loopw [10] (fun i wr => ∃ (j : Nat) (ys : List Nat), j ≤ m ∧ i = .int .i64 j ∧ Swr xs a b j ys ∧ ys.Perm xs ∧ Frow wr B g n cap ys ∧ w.grownBy wr (some g)) (fun i _ => m - (intOf i).toNat)
  case atStart => exact ⟨0, xs, Nat.zero_le _, rfl, Swr.zero _ _ _, List.Perm.refl _, HR.out, World.grownBy.refl _ _⟩
  case round =>
    obtain ⟨j, ys, hj, rfl, hs, hp, hrow, hg⟩ := hrel
    by_cases hlt : j < m
    · have HSW := Lib.hid (hrow.swapped (a + j) (b + j))
      have hc1 := hrow.cell (i := a + j) (by omega)
      have hc2 := hrow.cell (i := b + j) (by omega)
      have hf1 := World.ownsRow.frozenAt hrow (a + j)
      have hf2 := World.ownsRow.frozenAt hrow (b + j)
      have HS : Hid (Swr xs a b (j + 1) (sw ys (a + j) (b + j)) ∧ (sw ys (a + j) (b + j)).Perm xs) := ⟨hs.step hlt hab (by rw [HXL.out]; omega), (sw_perm ys _ _ (by rw [hs.1, HXL.out]; omega) (by rw [hs.1, HXL.out]; omega)).trans hp⟩
      have HG := Lib.hid hg
      clear hs hp hrow hg
      generalize sw ys (a + j) (b + j) = zs at *
      generalize ys.getD (a + j) 0 = x at *
      generalize ys.getD (b + j) 0 = y at *
      have d1 : (0 : Int) ≤ (a : Int) + (j : Int) := by omega
      have d2 : (a : Int) + (j : Int) < (n : Int) := by omega
      have d3 : (0 : Int) ≤ (b : Int) + (j : Int) := by omega
      have d4 : (b : Int) + (j : Int) < (n : Int) := by omega
      have hne : a + j ≠ b + j := by omega
      have hne' : ¬ b = a := by omega
      have hne2 : ¬ a = b := by omega
      go_wp2_with fail
      have e1 : IntKind.i64.wrap ((a : Int) + (j : Int)) = (a : Int) + (j : Int) := IntWalk.i64_in _ (by omega)
      have e2 : IntKind.i64.wrap ((b : Int) + (j : Int)) = (b : Int) + (j : Int) := IntWalk.i64_in _ (by omega)
      have e3 : ((a : Int) + (j : Int)).toNat = a + j := by omega
      have e4 : ((b : Int) + (j : Int)).toNat = b + j := by omega
      go_region
      have hW2 : Frow ((wr.setCell ⟨g, a + j, none⟩ (.float .f64 y)).setCell ⟨g, b + j, none⟩ (.float .f64 x)).drew B g n cap zs := HSW.out.1.drew
      have hG2 : w.grownBy ((wr.setCell ⟨g, a + j, none⟩ (.float .f64 y)).setCell ⟨g, b + j, none⟩ (.float .f64 x)).drew (some g) := only_drew (only_trans HG.out HSW.out.2)
      clear e1 e2 e3 e4 hc1 hc2 hf1 hf2 HSW HG
      generalize ((wr.setCell ⟨g, a + j, none⟩ (.float .f64 y)).setCell ⟨g, b + j, none⟩ (.float .f64 x)).drew = w2 at *
      have HW2 := Lib.hid hW2
      have HG2 := Lib.hid hG2
      clear hW2 hG2
      go_wp2_with fail
      go_roundw
      case rel => exact ⟨j + 1, zs, by omega, by go_num, HS.out.1, HS.out.2, HW2.out, HG2.out⟩
      case measure => simp [intOf]; omega
    · obtain rfl : j = m := by omega
      have HG := Lib.hid hg
      have HS := Lib.hid hs
      have HP := Lib.hid hp
      have HW := Lib.hid hrow
      clear hs hp hrow hg
      go_wp2
      go_end0
      exact ⟨rfl, ys, ⟨HS.out, HP.out⟩, HW.out, HG.out⟩
end Go.Proofs.Ytpgdiiplnnaegaa
