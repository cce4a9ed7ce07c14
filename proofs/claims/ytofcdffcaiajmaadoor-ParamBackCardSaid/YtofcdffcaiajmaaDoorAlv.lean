/- Walks: param.Encode on any parameters; quernlaw02.alive. Conditions: as stated. -/
import Derived.Test.YtofcdffcaiajmaaDoorEn2
namespace Go.Proofs.YtofcdffcaiajmaaDoor
open Go.RowKit
set_option linter.unusedVariables false

def encA (k : Int) (p : Pm) : List Int := if chkP k p = 0 then encB k p else []
/-- What both Encodes hand back. -/
def EncGives (w : World) (k : Int) (p : Pm) (e : Ending) (w' : World) : Prop :=
  ∃ A c, e = .returned (.tuple #[.slice A (encA k p).length c, .int .i64 (chkP k p)]) ∧ w'.ownsRow w.heap.size 5 1 (.slice A (encA k p).length c) (encA k p).length (u8s (encA k p)) ∧ Below w.heap.size w w'
theorem encB_len {k : Int} {p : Pm} (h0 : chkP k p = 0) : (encB k p).length = ksz k := by
  have h := (chk_ok h0).2.2.2.2.2.2.2
  have hk := (chk_ok h0).1
  have e : kmost k / 4 = (ksl k : Int) := by rcases hk with rfl | rfl <;> rfl
  rw [e] at h
  have h4 := (ksz_bd k).2.2
  unfold encB
  have h9 := encN_len k p 9
  have h1 : (blit (encN k p 9) (2 * ksl k) p.s).length = ksz k := by rw [blit_len (by omega), h9]
  rw [blit_len (by omega), h1]
theorem encA_le (k : Int) (p : Pm) : (encA k p).length ≤ 64 := by
  unfold encA
  split
  · rename_i h; rw [encB_len h]; exact (ksz_bd k).1
  · simp
set_option maxRecDepth 100000 in
theorem c_Encode (k : Int) (p : Pm) (sa : Option Addr) (sc : Nat) (ta : Option Addr) (tc : Nat) (w : World) (h : RdP w p sa sc ta tc) (ho : PmOk p) :
    Calls Tryd.prog 7 #[.int .i64 k, pvS p sa sc ta tc] w (EncGives w k p) := by
  by_cases h0 : chkP k p = 0
  · refine (c_Encode_ok k p sa sc ta tc w h ho h0).mono ?_
    rintro e w' ⟨A, c, rfl, h1, h2⟩
    have hl : (encA k p).length = ksz k := by unfold encA; rw [if_pos h0, encB_len h0]
    have he : encA k p = encB k p := if_pos h0
    refine ⟨A, c, ?_, ?_, h2⟩
    · rw [hl, h0]
    · rw [hl, he]; exact h1
  · have hC := c_CheckP k p sa sc ta tc
    have he : encA k p = [] := if_neg h0
    have HG : Hid (∀ w', Below w.heap.size w w' → EncGives w k p (.returned (.tuple #[.slice none 0 0, .int .i64 (chkP k p)])) w') := fun w' hb => ⟨none, 0, by rw [he]; rfl, by rw [he]; exact World.ownsRow_nil _ _ _ _, hb⟩
    have hne : (chkP k p != 0) = true := by simpa using h0
    generalize chkP k p = E at *
    have HC := Lib.hid hC
    clear hC h0 he
    simp only [pvS, pv]
    go_enter Tryd.func7, Tryd.ntmps7
    go_wp2_with fail
    refine (HC.out _).mono ?_
    rintro e w1 ⟨rfl, hb1⟩
    go_wp2_with fail
    go_ret2
    exact HG.out _ (((Below.refl _ _).alloc (Nat.le_refl _) _).trans (hb1.mono (by simp)))
def palive : Pm := ⟨64, 0, 1, 1, 0, 0, 0, 0, 0, [], []⟩
theorem palive_chk : chkP 1 palive = 0 := by decide +kernel
theorem palive_enc : (encB 1 palive)[0]? = some 64 ∧ (encB 1 palive)[2]? = some 1 ∧ (encB 1 palive)[3]? = some 1 := by decide +kernel
set_option maxRecDepth 100000 in
theorem c_alive (w : World) : Calls Tryd.prog 4 #[] w fun e w' => e = .returned (.bool true) ∧ Below w.heap.size w w' := by
  have hE := c_Encode_ok 1 palive none 0 none 0 w ⟨Nat.le_refl _, Nat.le_refl _, by simp [palive], by simp [palive], Reads.none_, Reads.none_⟩ ⟨by simp [palive], by simp [palive], by simp [palive]⟩ palive_chk
  obtain ⟨v0, v2, v3⟩ := palive_enc
  have HE := Lib.hid hE
  have c0 : Hid ((u8s (encB 1 palive))[0]? = some (.int .u8 64)) := by show (u8s (encB 1 palive))[0]? = _; rw [List.getElem?_map, v0]; rfl
  have c2 : Hid ((u8s (encB 1 palive))[2]? = some (.int .u8 1)) := by show (u8s (encB 1 palive))[2]? = _; rw [List.getElem?_map, v2]; rfl
  have c3 : Hid ((u8s (encB 1 palive))[3]? = some (.int .u8 1)) := by show (u8s (encB 1 palive))[3]? = _; rw [List.getElem?_map, v3]; rfl
  clear hE v0 v2 v3
  go_enter Tryd.func4, Tryd.ntmps4
  go_wp2_with fail
  refine HE.out.mono ?_
  rintro e w1 ⟨A, c, rfl, ho, hb⟩
  obtain ⟨g, cap, hv, hg1, hg2⟩ := own_form ho (by decide)
  injection hv with hv _ hv2
  subst hv; subst hv2
  have d0 : w1.cell? ⟨g, 0, none⟩ = some (.int .u8 64) := (ho.cellAt 0 (by decide)).trans c0.out
  have d2 : w1.cell? ⟨g, 2, none⟩ = some (.int .u8 1) := (ho.cellAt 2 (by decide)).trans c2.out
  have d3 : w1.cell? ⟨g, 3, none⟩ = some (.int .u8 1) := (ho.cellAt 3 (by decide)).trans c3.out
  have hk : ksz 1 = 64 := rfl
  rw [hk]
  have HB := Lib.hid hb
  clear hb ho hk
  go_wp2_with fail
  go_ret
  exact ⟨rfl, HB.out⟩
end Go.Proofs.YtofcdffcaiajmaaDoor
