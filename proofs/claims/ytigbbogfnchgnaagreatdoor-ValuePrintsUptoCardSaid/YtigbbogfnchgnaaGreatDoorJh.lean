/- Walk: a value's text (quernref23.Print). Conditions: the value as it reads, its bulk at most 1048576. -/
import Derived.Test.YtigbbogfnchgnaaGreatDoorJg
namespace Go.Proofs.YtigbbogfnchgnaaGreatDoor
open Go.RowKit
set_option linter.unusedVariables false
attribute [local go_sem ↓] Go.wp_at_zero Go.wp_at_succ

/-- What Print tells. -/
noncomputable def prS (v : Val) : ByteArray × Int :=
  if chk fone v = 0 then (if 4194304 < (tld v).length then (⟨#[]⟩, 2) else (strOfNums (tld v), 0)) else (⟨#[]⟩, chk fone v)
def PrE (w : World) (r : ByteArray × Int) (e : Ending) (w' : World) : Prop := e = .returned (.tuple #[.string r.1, .int .i64 r.2]) ∧ Below w.heap.size w w'
set_option maxRecDepth 100000 in
set_option maxHeartbeats 1000000 in
theorem c_rPrint (v : Val) (cs : List Value) (w : World) (h : RV w v cs) : Calls Tryz.prog 5 #[.agg cs.toArray] w (PrE w (prS v)) := by
  have HR := Lib.hid h.row
  have HB0 : Hid (Below w.heap.size w (w.alloc (.cells cs.toArray 26))) := (Below.refl w.heap.size w).alloc (Nat.le_refl _) _
  have HX0 := Lib.hid (Box.new w cs)
  have HV0 := Lib.hid (h.step HB0.out)
  have HRC := Lib.hid (fun W hr => c_rCheck v cs W hr)
  have HP : Hid (prS v = if chk fone v = 0 then (if 4194304 < (tld v).length then (⟨#[]⟩, 2) else (strOfNums (tld v), 0)) else (⟨#[]⟩, chk fone v)) := rfl
  have HOK : Hid (chk fone v = 0 → okV v) := fun hc => okV_chk hc
  have HLN : Hid (okV v → (tld v).length ≤ 125829120) := fun ho => by have := tld_len v h.wf ho; have := h.bd; omega
  have HWF := Lib.hid h.wf
  have HBD := Lib.hid h.bd
  obtain ⟨E, hE⟩ : ∃ E, chk fone v = E := ⟨_, rfl⟩
  obtain ⟨PS_, hPS⟩ : ∃ P, prS v = P := ⟨_, rfl⟩
  rw [hE] at HRC HP HOK
  rw [hPS] at HP ⊢
  clear hE hPS h
  go_enter Tryz.func5, Tryz.ntmps5
  go_upto_region 1 with fail
  generalize w.alloc (.cells cs.toArray 26) = w0 at *
  go_wp2_with (refine wpList_load_row rfl 26 (.tmp 1) rfl w.heap.size rfl 26 _ (0, 0) _ HX0.out.blk Tryz.underlying26 rfl HR.out ?_)
  refine (HRC.out _ HV0.out).mono ?_; rintro e w1 ⟨rfl, hb1⟩
  have HX1 := Lib.hid (HX0.out.step hb1)
  have HV1 := Lib.hid (HV0.out.step hb1)
  have HB1 := Lib.hid (HB0.out.trans (hb1.mono HB0.out.size))
  clear hb1
  by_cases h0 : E = 0
  · have t0 : (E != 0) = false := by simpa using h0
    have HOV := Lib.hid (HOK.out h0)
    have HL := Lib.hid (HLN.out HOV.out)
    have HP2 : Hid (PS_ = if 4194304 < (tld v).length then (⟨#[]⟩, 2) else (strOfNums (tld v), 0)) := HP.out.trans (if_pos h0)
    subst h0
    have HTD := Lib.hid (c_told v cs w1 w1.heap.size none 0 0 [] HV1.out.rd HWF.out HBD.out HOV.out (Nat.le_refl _) (World.ownsRow_nil _ _ _ _) (by have := HL.out; omega))
    generalize tld v = TL at *
    go_wp2_with (refine wpList_load_row rfl 26 (.tmp 1) rfl w.heap.size rfl 26 _ (0, 0) _ HX1.out.blk Tryz.underlying26 rfl HR.out ?_)
    refine (HTD.out).mono ?_; rintro e w2 ⟨v2, rfl, ha2⟩
    have HB2 : Hid (Below w.heap.size w w2) := HB1.out.trans ((ha2.kp.below (Nat.le_refl _) (Nat.le_refl _)).mono HB1.out.size)
    have HO2 := Lib.hid ha2.own
    obtain ⟨A2, c2, hv2⟩ := own_slice ha2.own
    subst hv2
    clear ha2 HTD
    have hl := HL.out
    by_cases hlen : 4194304 < TL.length
    · have HP3 : Hid (PS_ = (⟨#[]⟩, 2)) := HP2.out.trans (if_pos hlen)
      go_wp2_with fail
      go_ret2
      exact ⟨by rw [HP3.out]; rfl, HB2.out⟩
    · have HP3 : Hid (PS_ = (strOfNums TL, 0)) := HP2.out.trans (if_neg hlen)
      have hcv := conv_row HO2.out
      rw [List.nil_append] at hcv
      go_wp2_with fail
      go_ret2
      exact ⟨by rw [HP3.out]; rfl, HB2.out⟩
  · have t0 : (E != 0) = true := by simpa using h0
    have HP2 : Hid (PS_ = (⟨#[]⟩, E)) := HP.out.trans (if_neg h0)
    go_wp2_with fail
    go_ret2
    exact ⟨by rw [HP2.out]; rfl, HB1.out⟩
end Go.Proofs.YtigbbogfnchgnaaGreatDoor
