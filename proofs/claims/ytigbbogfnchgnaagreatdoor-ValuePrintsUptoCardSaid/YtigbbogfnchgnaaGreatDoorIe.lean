/- Walks: a value's text (value.Print); the law ValuePrints. Conditions: the value as it reads, its bulk at most 1048576; the library's tables. -/
import Derived.Test.YtigbbogfnchgnaaGreatDoorId
import Derived.Test.YtigbbogfnchgnaaGreatDoorJh
import Derived.Test.YtigbbogfnchgnaaGreatDoorM1
import Derived.Test.YtigbbogfnchgnaaGreatDoorM9
namespace Go.Proofs.YtigbbogfnchgnaaGreatDoor
open Go.RowKit
set_option linter.unusedVariables false
attribute [local go_sem ↓] Go.wp_at_zero Go.wp_at_succ

theorem tld_bts : ∀ v : Val, Bts (tld v) := by
  refine Val.ind fun v ih => ?_
  rw [tld_eq]
  have key : ∀ (m : Bool) (l : List Val) (o : Bool) (ns : List ByteArray), (∀ w ∈ l, w ∈ v.its) → Bts (tldL m o l ns) := by
    intro m l
    induction l with
    | nil => intro o ns _; rw [tldL]; exact Bts.nil
    | cons w l il =>
      intro o ns hw
      rw [tldL]
      refine Bts.app ?_ (Bts.app ?_ (Bts.app (ih w (hw w List.mem_cons_self)) (il false ns.tail (fun x hx => hw x (List.mem_cons_of_mem _ hx)))))
      · cases o
        · exact bts_lit rfl
        · exact Bts.nil
      · cases m
        · exact Bts.nil
        · exact (quo_bts _).app (bts_lit rfl)
  unfold tldK
  split
  · exact bts_lit rfl
  split
  · split <;> exact bts_lit rfl
  split
  · exact bI_bts _
  split
  · exact (bts_lit rfl).app (bI_bts _)
  split
  · exact quo_bts _
  split
  · exact (bts_lit rfl).app (hxs_range (txB_bts _))
  split
  · exact (bts_lit rfl).app (hxs_range (txB_bts _))
  · refine ((?_ : Bts _).app (key _ _ _ _ fun _ h => h)).app ?_ <;> split <;> exact bts_lit rfl
set_option maxRecDepth 100000 in
set_option maxHeartbeats 1000000 in
theorem c_Print (v : Val) (cs : List Value) (w : World) (h : RV w v cs) (ht : TabS w) : Calls Tryz.prog 4 #[.agg cs.toArray] w (PrE w (prS v)) := by
  have HR := Lib.hid h.row
  have HB0 : Hid (Below w.heap.size w (w.alloc (.cells cs.toArray 26))) := (Below.refl w.heap.size w).alloc (Nat.le_refl _) _
  have HX0 := Lib.hid (Box.new w cs)
  have HV0 := Lib.hid (h.step HB0.out)
  have HT := Lib.hid ht
  have HRC := Lib.hid (fun W hr => c_Check v cs W hr)
  have HP : Hid (prS v = if chk fone v = 0 then (if 4194304 < (tld v).length then (⟨#[]⟩, 2) else (strOfNums (tld v), 0)) else (⟨#[]⟩, chk fone v)) := rfl
  have HOK : Hid (chk fone v = 0 → okV v) := fun hc => okV_chk hc
  have HLN : Hid (okV v → (tld v).length ≤ 125829120) := fun ho => by have := tld_len v h.wf ho; have := h.bd; omega
  have HBT : Hid (okV v → Bts (tld v)) := fun _ => tld_bts v
  have HWF := Lib.hid h.wf
  have HBD := Lib.hid h.bd
  obtain ⟨E, hE⟩ : ∃ E, chk fone v = E := ⟨_, rfl⟩
  obtain ⟨PS_, hPS⟩ : ∃ P, prS v = P := ⟨_, rfl⟩
  rw [hE] at HRC HP HOK
  rw [hPS] at HP ⊢
  clear hE hPS h ht
  go_enter Tryz.func4, Tryz.ntmps4
  go_upto_region 1 with fail
  generalize w.alloc (.cells cs.toArray 26) = w0 at *
  go_wp2_with (refine wpList_load_row rfl 26 (.tmp 1) rfl w.heap.size rfl 26 _ (0, 0) _ HX0.out.blk Tryz.underlying26 rfl HR.out ?_)
  refine (HRC.out _ HV0.out).mono ?_; rintro e w1 ⟨rfl, hb1⟩
  have HX1 := Lib.hid (HX0.out.step hb1)
  have HV1 := Lib.hid (HV0.out.step hb1)
  have HB1 := Lib.hid (HB0.out.trans (hb1.mono HB0.out.size))
  clear hb1 HX0 HV0
  by_cases h0 : E = 0
  · have t0 : (E != 0) = false := by simpa using h0
    have HOV := Lib.hid (HOK.out h0)
    have HL := Lib.hid (HLN.out HOV.out)
    have HBS := Lib.hid (HBT.out HOV.out)
    have HP2 : Hid (PS_ = if 4194304 < (tld v).length then (⟨#[]⟩, 2) else (strOfNums (tld v), 0)) := HP.out.trans (if_pos h0)
    subst h0
    have HB2 : Hid (Below w1.heap.size w1 (w1.alloc (.cells #[.pointer none, .slice none 0 0] 38))) := (Below.refl w1.heap.size w1).alloc (Nat.le_refl _) _
    have HX2 := Lib.hid (HX1.out.step HB2.out)
    have HWR := Lib.hid (c_write v cs (w1.alloc (.cells #[.pointer none, .slice none 0 0] 38)) w1.heap.size w1.heap.size [] (RdV.below HV1.out.rd HB2.out) HWF.out HBD.out HOV.out (fun W hW => HT.out.below (HB1.out.trans ((HB2.out.trans hW).mono HB1.out.size))) HB2.out.size (isBI_new w1) (by have := HL.out; show 0 + (tld v).length ≤ _; omega))
    rw [List.nil_append] at HWR
    generalize tld v = TL at *
    go_upto_region 5 with fail
    generalize w1.alloc (.cells #[.pointer none, .slice none 0 0] 38) = w2 at *
    go_wp2_with (refine wpList_load_row rfl 26 (.tmp 1) rfl w.heap.size rfl 26 _ (0, 0) _ HX2.out.blk Tryz.underlying26 rfl HR.out ?_)
    refine HWR.out.mono ?_; rintro e w3 ⟨rfl, hk3⟩
    have HI3 := Lib.hid hk3.1
    have HS3 : Hid (w1.heap.size ≤ w3.heap.size) := Nat.le_trans HB2.out.size hk3.2.1.size
    have HB3 : Hid (Below w.heap.size w w3) := HB1.out.trans ((HB2.out.trans hk3.2.1).mono HB1.out.size)
    clear hk3 HWR HX2
    go_wp2_with fail
    refine (c_LenI w1.heap.size w1.heap.size TL w3 HI3.out).mono ?_; rintro e w4 ⟨rfl, rfl⟩
    have hl := HL.out
    by_cases hlen : 4194304 < TL.length
    · have HP3 : Hid (PS_ = (⟨#[]⟩, 2)) := HP2.out.trans (if_pos hlen)
      go_wp2_with fail
      go_ret2
      exact ⟨by rw [HP3.out]; rfl, HB3.out⟩
    · have HP3 : Hid (PS_ = (strOfNums TL, 0)) := HP2.out.trans (if_neg hlen)
      have HST := Lib.hid (c_StrI w1.heap.size w1.heap.size TL w3 HI3.out HBS.out HS3.out)
      unfold nmT at HST
      generalize strOfNums TL = S at *
      go_wp2_with fail
      refine HST.out.mono ?_; rintro e w5 ⟨rfl, hb5⟩
      have HB5 : Hid (Below w.heap.size w w5) := HB3.out.trans (hb5.mono HB1.out.size)
      clear hb5
      go_wp2_with fail
      go_ret2
      exact ⟨by rw [HP3.out]; rfl, HB5.out⟩
  · have t0 : (E != 0) = true := by simpa using h0
    have HP2 : Hid (PS_ = (⟨#[]⟩, E)) := HP.out.trans (if_neg h0)
    go_wp2_with fail
    go_ret2
    exact ⟨by rw [HP2.out]; rfl, HB1.out⟩
set_option maxRecDepth 100000 in
set_option maxHeartbeats 1000000 in
theorem l_ValuePrints (w : World) (ht : TabS w) (v : Val) (cs : List Value) (h : RV w v cs) : Calls Tryz.prog 3 #[.agg cs.toArray] w fun e w' => e = .returned (.bool true) ∧ Below w.heap.size w w' := by
  have HR := Lib.hid h.row
  have HB0 : Hid (Below w.heap.size w (w.alloc (.cells cs.toArray 26))) := (Below.refl w.heap.size w).alloc (Nat.le_refl _) _
  have HX0 := Lib.hid (Box.new w cs)
  have HRV := Lib.hid h
  have HT := Lib.hid ht
  have HP1 : Hid (∀ W, RV W v cs → TabS W → Calls Tryz.prog 4 #[.agg cs.toArray] W (PrE W (prS v))) := fun W hr hT => c_Print v cs W hr hT
  have HP2 : Hid (∀ W, RV W v cs → Calls Tryz.prog 5 #[.agg cs.toArray] W (PrE W (prS v))) := fun W hr => c_rPrint v cs W hr
  have HAW : Hid (∀ W, Calls Tryz.prog 6 #[] W fun e w' => e = .returned (.bool true) ∧ Below W.heap.size W w') := fun W => c_awake W
  unfold PrE at HP1 HP2
  generalize (prS v).1 = S at *
  generalize (prS v).2 = E at *
  clear h ht
  go_enter Tryz.func3, Tryz.ntmps3
  go_upto_region 1 with fail
  generalize w.alloc (.cells cs.toArray 26) = w0 at *
  go_wp2_with (refine wpList_load_row rfl 26 (.tmp 1) rfl w.heap.size rfl 26 _ (0, 0) _ HX0.out.blk Tryz.underlying26 rfl HR.out ?_)
  refine (HP1.out _ (HRV.out.step HB0.out) (HT.out.below HB0.out)).mono ?_; rintro e w1 ⟨rfl, hb1⟩
  have HX1 := Lib.hid (HX0.out.step hb1)
  have HB1 := Lib.hid (HB0.out.trans (hb1.mono HB0.out.size))
  clear hb1 HX0 HB0
  go_wp2_with (refine wpList_load_row rfl 26 (.tmp 1) rfl w.heap.size rfl 26 _ (0, 0) _ HX1.out.blk Tryz.underlying26 rfl HR.out ?_)
  refine (HP2.out _ (HRV.out.step HB1.out)).mono ?_; rintro e w2 ⟨rfl, hb2⟩
  have HB2 := Lib.hid (HB1.out.trans (hb2.mono HB1.out.size))
  clear hb2 HX1 HB1
  go_wp2_with fail
  refine (HAW.out _).mono ?_; rintro e w3 ⟨rfl, hb3⟩
  have HB3 := Lib.hid (HB2.out.trans (hb3.mono HB2.out.size))
  clear hb3
  go_wp2_with fail
  go_ret
  exact ⟨by first | rfl | simp, HB3.out⟩
end Go.Proofs.YtigbbogfnchgnaaGreatDoor
