/- Walks: the scale of a float's print at any input (strconv: prescale), and what memory must bear. Conditions: the library's tables read as they were laid. -/
import Derived.Test.YthoifpapdefheaaGreatDoorXg
import Derived.Test.YthoifpapdefheaaGreatDoorXf
import Derived.Lib.AppendIntMem
namespace Go.Proofs.YthoifpapdefheaaGreatDoor
open Go.RowKit
set_option linter.unusedVariables false

theorem hiN_pos (p : Int) : 0 < hiN p := by
  have h1 := (hilo p).1
  have h2 := pm_lo p
  have h3 := n0N_pos p
  rcases Nat.eq_zero_or_pos (pmN p) with e | e
  · rw [e, Nat.zero_mul] at h2; omega
  · omega
/-- What uscale says is small. -/
theorem uAt_lt {m z c : Nat} (h1 : m < 9218868437227405312) (hz : 11 ≤ z) (hz2 : z ≤ 63) (hc0 : 0 < c) (hc : c * 2 ^ (z - 2) < 18446744073709551616) (hcM : c ≤ 36028797018963970) : uAt m z (c * 2 ^ (z - 2)) < 4611686018427387904 := by
  rw [(uAt_eq h1 hz hz2 hc0 hc).1]
  have hk := (kOkM h1).slim
  have hd := dlM_12 m
  have hD := d4N_pos (mexp m) (pM m)
  have hu := (ur_cmp (N := 4 * (c * w4N (mexp m) (pM m))) hD 2305843009213693952).1
  refine (hu.2 ?_)
  have e1 : 3 * w4N (mexp m) (pM m) ≤ (2 + dlM m) * w4N (mexp m) (pM m) := Nat.mul_le_mul_right _ (by omega)
  have e2 : c * w4N (mexp m) (pM m) ≤ 36028797018963970 * w4N (mexp m) (pM m) := Nat.mul_le_mul_right _ hcM
  omega
/-- What a print asks of memory: the table of powers, the table of tens. -/
structure TabS (w : World) : Prop where
  row : ∀ i : Nat, i < 696 → w.cell? ⟨8, i * 2, none⟩ = some (.int .u64 ((hiN ((i : Int) - 348) : Nat) : Int)) ∧ w.cell? ⟨8, i * 2 + 1, none⟩ = some (.int .u64 ((loN ((i : Int) - 348) : Nat) : Int))
  hg : 8 < w.heap.size
  tab : Lib.TabIs Tryz.prog w "internal/strconv.uint64pow10" .u64 Lib.pow10Tab
theorem TabS.below {w w' : World} (h : TabS w) (hb : Below w.heap.size w w') : TabS w' :=
  ⟨fun i hi => ⟨(hb.cell h.hg).trans (h.row i hi).1, (hb.cell h.hg).trans (h.row i hi).2⟩, Nat.lt_of_lt_of_le h.hg hb.size, Lib.tabBelow_of_tabIs h.tab w' hb⟩
set_option maxRecDepth 100000 in
theorem c_prescaleI (g : Nat) (a b c : Value) (e p lp : Int) (i H L : Nat) (w : World) (hi : (i : Int) = p + 348) (hi2 : i < 696) (he : -2000 ≤ e) (he2 : e ≤ 2000) (hl : -2000 ≤ lp) (hl2 : lp ≤ 2000)
    (h0 : w.cell? ⟨8, i * 2, none⟩ = some (.int .u64 (H : Int))) (h1 : w.cell? ⟨8, i * 2 + 1, none⟩ = some (.int .u64 (L : Int))) (hk : Blk w g 128 #[a, b, c]) (hg : 8 < g) :
    Calls Tryz.prog 96 #[.pointer (some ⟨g, 0, none⟩), .int .i64 e, .int .i64 p, .int .i64 lp] w fun x w' => x = .returned (.tuple #[]) ∧ Blk w' g 128 #[.int .u64 (H : Int), .int .u64 (L : Int), .int .i64 (-(e + lp + 3))] ∧ Below g w w' := by
  have f0 := hk.frozen 0
  have f1 := hk.frozen 1
  have f2 := hk.frozen 2
  have k0 : w.cell? ⟨g, 0, none⟩ = some a := hk.cell 0
  have k1 : w.cell? ⟨g, 1, none⟩ = some b := hk.cell 1
  have k2 : w.cell? ⟨g, 2, none⟩ = some c := hk.cell 2
  have HK := Lib.hid hk
  have s1 : IntKind.i64.wrap (p + 348) = (i : Int) := by rw [IntWalk.i64_in _ (by omega)]; omega
  have s2 : IntKind.i64.wrap (e + lp) = e + lp := IntWalk.i64_in _ (by omega)
  have s3 : IntKind.i64.wrap (e + lp + 3) = e + lp + 3 := IntWalk.i64_in _ (by omega)
  have s4 : IntKind.i64.wrap (-(e + lp + 3)) = -(e + lp + 3) := IntWalk.i64_in _ (by omega)
  clear hk hi he he2 hl hl2
  go_enter Tryz.func96, Tryz.ntmps96
  go_wp2_with fail
  go_end0
  exact ⟨rfl, ((HK.out.set_ 0 _).set_ 1 _).set_ 2 _, (((Below.refl g w).setCell (Nat.le_refl _) _).setCell (Nat.le_refl _) _).setCell (Nat.le_refl _) _⟩
end Go.Proofs.YthoifpapdefheaaGreatDoor
