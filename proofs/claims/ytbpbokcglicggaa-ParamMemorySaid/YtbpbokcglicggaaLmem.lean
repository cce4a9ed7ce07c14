/- Walk: the law ParamMemory. Conditions: none. -/
import Derived.Test.YtbpbokcglicggaaLw
import Derived.Test.YtbpbokcglicggaaDecA
import Derived.Test.YtbpbokcglicggaaSpo
import Derived.BigQuiet
import Derived.Deep.QuietTactic
namespace Go.Proofs.Ytbpbokcglicggaa
open Go.RowKit
set_option linter.unusedVariables false

theorem wown_below {B : Nat} {w w' : World} {v : Value} {n : Nat} (h : WOwn B w v n) (hb : Below w.heap.size w w') : WOwn B w' v n := by
  obtain ⟨xs, h⟩ := h
  exact ⟨xs, own_below h hb⟩
theorem wown_of {B base : Nat} {w : World} {v : Value} {n : Nat} {xs : List Int} (h : w.ownsRow base 5 1 v n (u8s xs)) (hb : B ≤ base) : WOwn B w v n := ⟨xs, own_base h hb⟩
theorem reads_pre {w : World} {B : Nat} {A : Option Addr} {n m : Nat} {xs ys : List Int} (h : Reads w B 1 A n (u8s (xs ++ ys))) (hl : xs.length = m) : Reads w B 1 A m (u8s xs) := by
  have hn : xs.length + ys.length = n := by have := h.1; simpa using this
  refine ⟨by simpa using hl, fun h0 => ?_⟩
  obtain ⟨ad, e, hb, hc⟩ := h.2 (by omega)
  refine ⟨ad, e, hb, fun j u hu => hc j u ?_⟩
  have hj : j < (u8s xs).length := by
    rcases Nat.lt_or_ge j (u8s xs).length with h | h
    · exact h
    · rw [List.getElem?_eq_none h] at hu; cases hu
  have e2 : u8s (xs ++ ys) = u8s xs ++ u8s ys := by simp [u8s]
  rw [e2, List.getElem?_append_left hj]
  exact hu
set_option maxRecDepth 100000 in
set_option maxHeartbeats 8000000 in
theorem L_Memory (W : World) (p : Pm) (sa : Option Addr) (sc : Nat) (ta : Option Addr) (tc : Nat) (h : RdP W p sa sc ta tc) (ho : PmOk p) (hs : ∀ z ∈ p.s, 0 ≤ z ∧ z < 256) (ht : ∀ z ∈ p.t, 0 ≤ z ∧ z < 256)
    (k : Int) (A : Option Addr) (n c : Nat) (xs : List Int) (hsc : p.s.length ≤ sc) (htc : p.t.length ≤ tc) (hrd : Reads W W.heap.size 1 A n (u8s xs)) (hnc : n ≤ c) (hn : n ≤ 140737488351232) (hns : p.s.length ≤ 140737488351232) (hnt : p.t.length ≤ 140737488351232) (hx : ∀ z ∈ xs, 0 ≤ z ∧ z < 256) (f o V : Int) (hV0 : 0 ≤ V) (hV1 : V < 18446744073709551616) :
    Calls Try.prog 11 #[pvS p sa sc ta tc, .agg #[.int .i64 k, .slice A n c, .int .i64 f, .int .i64 o, .int .u64 V]] W fun e W' => e = .returned (.bool true) ∧ Below W.heap.size W W' := by
  have hl : xs.length = n := by simpa using hrd.1
  obtain ⟨ns, hns'⟩ : ∃ ns, p.s.length = ns := ⟨_, rfl⟩
  obtain ⟨nt, hnt'⟩ : ∃ nt, p.t.length = nt := ⟨_, rfl⟩
  have HB := Lib.hid (((Below.refl W.heap.size W).alloc (Nat.le_refl _) (.cells (pvC p sa sc ta tc) 31)).alloc (by simp) (.cells #[.int .i64 k, .slice A n c, .int .i64 f, .int .i64 o, .int .u64 V] 49))
  have HP := Lib.hid ((Blk.new W 31 (pvC p sa sc ta tc)).alloc (.cells #[.int .i64 k, .slice A n c, .int .i64 f, .int .i64 o, .int .u64 V] 49))
  have hQ0 := Blk.new (W.alloc (.cells (pvC p sa sc ta tc) 31)) 49 #[.int .i64 k, .slice A n c, .int .i64 f, .int .i64 o, .int .u64 V]
  simp only [World.size_alloc] at hQ0
  have HF := Lib.hid hQ0
  clear hQ0
  have hp := h.step HB.out
  have hbk := hrd.step HB.out
  clear h hrd
  have HAL : Hid (∀ w, Calls Try.prog 37 #[] w (fun e w' => e = .returned (.bool true) ∧ Below w.heap.size w w')) := c_alive
  have HWd : Hid (∀ A n c xs w, Reads w w.heap.size 1 A n (u8s xs) → n ≤ 140737488351232 → Calls Try.prog 40 #[.slice A n c] w (OwnBytes w (wideL xs))) := fun A n c xs w h hn => c_wide A n c xs w h hn
  have HKp : Hid (∀ A A' n c n' c' xs w, Reads w w.heap.size 1 A n (u8s (wideL xs)) → Reads w w.heap.size 1 A' n' (u8s xs) → n' ≤ 140737488351232 → Calls Try.prog 42 #[.slice A n c, .slice A' n' c'] w (fun e w' => e = .returned (.bool true) ∧ Below w.heap.size w w')) := fun A A' n c n' c' xs w h h' hn => c_kept A A' n c n' c' xs w h h' hn
  obtain ⟨X, hX⟩ : ∃ X, (p.xof != 0) = X := ⟨_, rfl⟩
  have HNo : Hid (∀ sa sc ta tc w, RdP w p sa sc ta tc → Calls Try.prog 22 #[.int .i64 k, pv p.d p.key p.fo p.de p.leaf p.off p.xof p.nd p.inn (.slice sa ns sc) (.slice ta nt tc)] w (GivesP w (nrm k p) (chkP k p))) := fun sa sc ta tc w h => by rw [← hns', ← hnt']; exact c_Normal k p sa sc ta tc w h
  have HE1 : Hid (∀ sa sc ta tc w, RdP w p sa sc ta tc → Calls Try.prog 33 #[.int .i64 k, pv p.d p.key p.fo p.de p.leaf p.off p.xof p.nd p.inn (.slice sa ns sc) (.slice ta nt tc)] w (EncGives w k p)) := fun sa sc ta tc w h => by rw [← hns', ← hnt']; exact c_Encode k p sa sc ta tc w h ho
  have HE2 : Hid (∀ sa sc ta tc w, RdP w p sa sc ta tc → Calls Try.prog 34 #[.int .i64 k, pv p.d p.key p.fo p.de p.leaf p.off p.xof p.nd p.inn (.slice sa ns sc) (.slice ta nt tc)] w (EncGives w k p)) := fun sa sc ta tc w h => by rw [← hns', ← hnt']; exact c_rEncode k p sa sc ta tc w h ho
  have HD1 : Hid (∀ A c w, n ≤ c → Reads w w.heap.size 1 A n (u8s xs) → Calls Try.prog 31 #[.int .i64 k, .slice A n c, .bool X] w (GivesP w (decA k xs X) (decE k xs X))) := fun A c w h1 h2 => by
    have := c_Decode k A c xs X w (by omega) (by omega) (by rw [hl]; exact h2) hx
    rw [hl] at this
    exact this
  have HD2 : Hid (∀ A c w, n ≤ c → Reads w w.heap.size 1 A n (u8s xs) → Calls Try.prog 32 #[.int .i64 k, .slice A n c, .bool X] w (GivesP w (decA k xs X) (decE k xs X))) := fun A c w h1 h2 => by
    have := c_rDecode k A c xs X w (by omega) (by omega) (by rw [hl]; exact h2) hx
    rw [hl] at this
    exact this
  have HP1 : Hid (∀ A c w, Reads w w.heap.size 1 A n (u8s xs) → Calls Try.prog 28 #[.int .i64 k, .slice A n c, .int .i64 f, .int .u64 V] w (PutGives w k f n xs V)) := fun A c w h => c_Put k f A n c xs w V h (by omega) hx hV0 hV1
  have HP2 : Hid (∀ A c w, Reads w w.heap.size 1 A n (u8s xs) → Calls Try.prog 29 #[.int .i64 k, .slice A n c, .int .i64 f, .int .u64 V] w (PutGives w k f n xs V)) := fun A c w h => c_rPut k f A n c xs w V h (by omega) hx hV0 hV1
  have lN := nrm_len k p
  have lE := encA_le k p
  have lD := decA_len (k := k) (xs := xs) (ext := X)
  have lP := pans_len k f n xs V
  unfold EncGives at HE1 HE2
  unfold PutGives OwnB at HP1 HP2
  clear ho hs ht hx
  generalize nrm k p = N at *
  generalize chkP k p = E at *
  generalize encA k p = Z at *
  generalize decA k xs X = D at *
  generalize decE k xs X = DE at *
  generalize pans k f n xs V = Y at *
  generalize perr k f n V = PE at *
  obtain ⟨bN1, bN2⟩ : N.s.length ≤ 140737488351232 ∧ N.t.length ≤ 140737488351232 := ⟨by omega, by omega⟩
  obtain ⟨bD1, bD2⟩ : D.s.length ≤ 140737488351232 ∧ D.t.length ≤ 140737488351232 := ⟨by omega, by omega⟩
  have bY : Y.length ≤ 140737488351232 := by omega
  have bZ : Z.length ≤ 140737488351232 := by omega
  clear lN lE lD lP
  have HXL := Lib.hid hl
  clear hl
  have HNS := Lib.hid hns'
  have HNT := Lib.hid hnt'
  rw [hns'] at hns hsc
  rw [hnt'] at hnt htc
  have hpv : pvC p sa sc ta tc = #[.int .i64 p.d, .int .i64 p.key, .int .i64 p.fo, .int .i64 p.de, .int .u32 p.leaf, .int .u64 p.off, .int .u32 p.xof, .int .i64 p.nd, .int .i64 p.inn, .slice sa ns sc, .slice ta nt tc] := by rw [← hns', ← hnt']
  have hrs0 := hp.rs
  have hrt0 := hp.rt
  rw [hns'] at hrs0
  rw [hnt'] at hrt0
  simp only [pvS, pv]
  rw [hns', hnt']
  rw [hpv] at HP HB HF hrs0 hrt0 hbk
  clear hns' hnt' hpv hp
  go_enter Try.func11, Try.ntmps11
  go_wp2_with fail
  refine (HAL.out _).mono ?_
  rintro e w1 ⟨rfl, hb⟩
  replace HP := Lib.hid (HP.out.below hb HP.out.lt)
  replace HF := Lib.hid (HF.out.below hb HF.out.lt)
  replace hrs0 := hrs0.step hb
  replace hrt0 := hrt0.step hb
  replace hbk := hbk.step hb
  replace HB := Lib.hid (HB.out.trans (hb.mono HB.out.size))
  clear hb
  have q0 : w1.cell? ⟨W.heap.size + 1, 0, none⟩ = some (.int .i64 k) := HF.out.cell 0
  have q1 : w1.cell? ⟨W.heap.size + 1, 1, none⟩ = some (.slice A n c) := HF.out.cell 1
  have q2 : w1.cell? ⟨W.heap.size + 1, 2, none⟩ = some (.int .i64 f) := HF.out.cell 2
  have q3 : w1.cell? ⟨W.heap.size + 1, 3, none⟩ = some (.int .i64 o) := HF.out.cell 3
  have q4 : w1.cell? ⟨W.heap.size + 1, 4, none⟩ = some (.int .u64 V) := HF.out.cell 4
  go_wp2_with fail
  go_quiet (fail)
  replace HP := Lib.hid (HP.out.drewN nq)
  replace HF := Lib.hid (HF.out.drewN nq)
  replace hrs0 := hrs0.step (below_drewN (Below.refl _ _) nq)
  replace hrt0 := hrt0.step (below_drewN (Below.refl _ _) nq)
  replace hbk := hbk.step (below_drewN (Below.refl _ _) nq)
  replace HB := Lib.hid (below_drewN HB.out nq)
  generalize w1.drewN nq = wq at *
  clear q0 q1 q2 q3 q4
  go_upto_region 4 with fail
  go_cut [9, 10, 11] (fun s9 s10 s11 wx => ∃ As cs At ct Af cf, s9 = .slice As (ns + 70) cs ∧ s10 = .slice At (nt + 70) ct ∧ s11 = .slice Af (n + 70) cf ∧ (ns + 70 ≤ cs ∧ nt + 70 ≤ ct ∧ n + 70 ≤ cf) ∧ Reads wx wx.heap.size 1 As (ns + 70) (u8s (wideL p.s)) ∧ Reads wx wx.heap.size 1 At (nt + 70) (u8s (wideL p.t)) ∧ Reads wx wx.heap.size 1 Af (n + 70) (u8s (wideL xs)) ∧ Blk wx W.heap.size 31 #[.int .i64 p.d, .int .i64 p.key, .int .i64 p.fo, .int .i64 p.de, .int .u32 p.leaf, .int .u64 p.off, .int .u32 p.xof, .int .i64 p.nd, .int .i64 p.inn, .slice sa ns sc, .slice ta nt tc] ∧ Reads wx wx.heap.size 1 sa ns (u8s p.s) ∧ Reads wx wx.heap.size 1 ta nt (u8s p.t) ∧ Reads wx wx.heap.size 1 A n (u8s xs) ∧ Below W.heap.size W wx)
  case first =>
    refine wp_region_any (by kernel_rfl) ?_
    try (change wpAny _ _ _ _ _ _ _ (World.drew _))
    replace HP := Lib.hid HP.out.drew
    replace HF := Lib.hid HF.out.drew
    replace hrs0 := hrs0.step (Below.refl _ _).drew
    replace hrt0 := hrt0.step (Below.refl _ _).drew
    replace hbk := hbk.step (Below.refl _ _).drew
    replace HB := Lib.hid HB.out.drew
    refine wpAny_take (i := 0) (v := .pointer (some ⟨W.heap.size, 9, none⟩)) rfl (by kernel_rfl) (by kernel_rfl) (by kernel_rfl) (fun _ _ _ h => h) (Or.inl ⟨by rfl, fun w => by go_simp⟩) ?_
    refine wpAny_take (i := 3) (v := .pointer (some ⟨W.heap.size, 10, none⟩)) rfl (by kernel_rfl) (by kernel_rfl) (by kernel_rfl) (fun _ _ _ h => h) (Or.inl ⟨by rfl, fun w => by go_simp⟩) ?_
    refine wpAny_take (i := 6) (v := .slice A n c) rfl (by kernel_rfl) (by kernel_rfl) (by kernel_rfl) (fun _ _ _ h => h) (Or.inl ⟨by rfl, fun w => by go_simp⟩) ?_
    refine wpAny_ready (rs := [1, 4]) (by kernel_rfl) (by simp) ?_
    refine AllReady.cons rfl (fun K hK => ?_) ?_
    · have qq := HP.out.cell 9
      go_simp
      clear qq
      refine hK _ _ ?_
      clear hK K
      refine wpAny_ready (rs := [2, 4]) (by kernel_rfl) (by simp) ?_
      refine AllReady.cons rfl (fun K hK => ?_) ?_
      · go_simp
        refine (HWd.out sa ns sc p.s _ hrs0 (by omega)).mono ?_
        rintro e w2 ⟨v, rfl, ow, hb⟩
        replace HP := Lib.hid (HP.out.below hb HP.out.lt)
        replace HF := Lib.hid (HF.out.below hb HF.out.lt)
        replace hrs0 := hrs0.step hb
        replace hrt0 := hrt0.step hb
        replace hbk := hbk.step hb
        replace HB := Lib.hid (HB.out.trans (hb.mono HB.out.size))
        obtain ⟨As, cs, rfl, hcs, rS⟩ := own_reads ow
        rw [wideL_len, HNS.out] at hcs rS
        clear hb ow
        rw [wideL_len, HNS.out]
        go_simp
        refine hK _ _ ?_
        clear hK K
        refine wpAny_ready (rs := [4]) (by kernel_rfl) (by simp) ?_
        refine AllReady.cons rfl (fun K hK => ?_) ?_
        · have qq := HP.out.cell 10
          go_simp
          clear qq
          refine hK _ _ ?_
          clear hK K
          refine wpAny_ready (rs := [5]) (by kernel_rfl) (by simp) ?_
          refine AllReady.cons rfl (fun K hK => ?_) ?_
          · go_simp
            refine (HWd.out ta nt tc p.t _ hrt0 (by omega)).mono ?_
            rintro e w3 ⟨v, rfl, ow, hb⟩
            replace HP := Lib.hid (HP.out.below hb HP.out.lt)
            replace HF := Lib.hid (HF.out.below hb HF.out.lt)
            replace hrs0 := hrs0.step hb
            replace hrt0 := hrt0.step hb
            replace hbk := hbk.step hb
            replace HB := Lib.hid (HB.out.trans (hb.mono HB.out.size))
            replace rS := rS.step hb
            obtain ⟨At, ct, rfl, hct, rT⟩ := own_reads ow
            rw [wideL_len, HNT.out] at hct rT
            clear hb ow
            rw [wideL_len, HNT.out]
            go_simp
            refine hK _ _ ?_
            clear hK K
            refine wpAny_ready (rs := [7]) (by kernel_rfl) (by simp) ?_
            refine AllReady.cons rfl (fun K hK => ?_) ?_
            · go_simp
              refine (HWd.out A n c xs _ hbk (by omega)).mono ?_
              rintro e w4 ⟨v, rfl, ow, hb⟩
              replace HP := Lib.hid (HP.out.below hb HP.out.lt)
              replace HF := Lib.hid (HF.out.below hb HF.out.lt)
              replace hrs0 := hrs0.step hb
              replace hrt0 := hrt0.step hb
              replace hbk := hbk.step hb
              replace HB := Lib.hid (HB.out.trans (hb.mono HB.out.size))
              replace rS := rS.step hb
              replace rT := rT.step hb
              obtain ⟨Af, cf, rfl, hcf, rF⟩ := own_reads ow
              rw [wideL_len, HXL.out] at hcf rF
              clear hb ow
              rw [wideL_len, HXL.out]
              go_simp
              refine hK _ _ ?_
              clear hK K
              refine wpAny_ready (rs := [8]) (by kernel_rfl) (by simp) ?_
              refine AllReady.cons rfl (fun K hK => ?_) ?_
              · go_simp
                refine hK _ _ ?_
                clear hK K
                refine wpAny_ready (rs := [9]) (by kernel_rfl) (by simp) ?_
                refine AllReady.cons rfl (fun K hK => ?_) ?_
                · go_simp
                  refine hK _ _ ?_
                  clear hK K
                  refine wpAny_ready (rs := [10]) (by kernel_rfl) (by simp) ?_
                  refine AllReady.cons rfl (fun K hK => ?_) ?_
                  · go_simp
                    refine hK _ _ ?_
                    clear hK K
                    refine wpAny_done (by kernel_rfl) ?_ _
                    go_wp2_with fail
                    go_meet
                    exact ⟨As, cs, At, ct, Af, cf, rfl, rfl, rfl, ⟨hcs, hct, hcf⟩, rS, rT, rF, HP.out, hrs0, hrt0, hbk, HB.out⟩
                  exact AllReady.nil
                exact AllReady.nil
              exact AllReady.nil
            exact AllReady.nil
          exact AllReady.nil
        exact AllReady.nil
      refine AllReady.cons rfl (fun K hK => ?_) ?_
      · have qq := HP.out.cell 10
        go_simp
        clear qq
        refine hK _ _ ?_
        clear hK K
        refine wpAny_ready (rs := [2]) (by kernel_rfl) (by simp) ?_
        refine AllReady.cons rfl (fun K hK => ?_) ?_
        · go_simp
          refine (HWd.out sa ns sc p.s _ hrs0 (by omega)).mono ?_
          rintro e w2 ⟨v, rfl, ow, hb⟩
          replace HP := Lib.hid (HP.out.below hb HP.out.lt)
          replace HF := Lib.hid (HF.out.below hb HF.out.lt)
          replace hrs0 := hrs0.step hb
          replace hrt0 := hrt0.step hb
          replace hbk := hbk.step hb
          replace HB := Lib.hid (HB.out.trans (hb.mono HB.out.size))
          obtain ⟨As, cs, rfl, hcs, rS⟩ := own_reads ow
          rw [wideL_len, HNS.out] at hcs rS
          clear hb ow
          rw [wideL_len, HNS.out]
          go_simp
          refine hK _ _ ?_
          clear hK K
          refine wpAny_ready (rs := [5]) (by kernel_rfl) (by simp) ?_
          refine AllReady.cons rfl (fun K hK => ?_) ?_
          · go_simp
            refine (HWd.out ta nt tc p.t _ hrt0 (by omega)).mono ?_
            rintro e w3 ⟨v, rfl, ow, hb⟩
            replace HP := Lib.hid (HP.out.below hb HP.out.lt)
            replace HF := Lib.hid (HF.out.below hb HF.out.lt)
            replace hrs0 := hrs0.step hb
            replace hrt0 := hrt0.step hb
            replace hbk := hbk.step hb
            replace HB := Lib.hid (HB.out.trans (hb.mono HB.out.size))
            replace rS := rS.step hb
            obtain ⟨At, ct, rfl, hct, rT⟩ := own_reads ow
            rw [wideL_len, HNT.out] at hct rT
            clear hb ow
            rw [wideL_len, HNT.out]
            go_simp
            refine hK _ _ ?_
            clear hK K
            refine wpAny_ready (rs := [7]) (by kernel_rfl) (by simp) ?_
            refine AllReady.cons rfl (fun K hK => ?_) ?_
            · go_simp
              refine (HWd.out A n c xs _ hbk (by omega)).mono ?_
              rintro e w4 ⟨v, rfl, ow, hb⟩
              replace HP := Lib.hid (HP.out.below hb HP.out.lt)
              replace HF := Lib.hid (HF.out.below hb HF.out.lt)
              replace hrs0 := hrs0.step hb
              replace hrt0 := hrt0.step hb
              replace hbk := hbk.step hb
              replace HB := Lib.hid (HB.out.trans (hb.mono HB.out.size))
              replace rS := rS.step hb
              replace rT := rT.step hb
              obtain ⟨Af, cf, rfl, hcf, rF⟩ := own_reads ow
              rw [wideL_len, HXL.out] at hcf rF
              clear hb ow
              rw [wideL_len, HXL.out]
              go_simp
              refine hK _ _ ?_
              clear hK K
              refine wpAny_ready (rs := [8]) (by kernel_rfl) (by simp) ?_
              refine AllReady.cons rfl (fun K hK => ?_) ?_
              · go_simp
                refine hK _ _ ?_
                clear hK K
                refine wpAny_ready (rs := [9]) (by kernel_rfl) (by simp) ?_
                refine AllReady.cons rfl (fun K hK => ?_) ?_
                · go_simp
                  refine hK _ _ ?_
                  clear hK K
                  refine wpAny_ready (rs := [10]) (by kernel_rfl) (by simp) ?_
                  refine AllReady.cons rfl (fun K hK => ?_) ?_
                  · go_simp
                    refine hK _ _ ?_
                    clear hK K
                    refine wpAny_done (by kernel_rfl) ?_ _
                    go_wp2_with fail
                    go_meet
                    exact ⟨As, cs, At, ct, Af, cf, rfl, rfl, rfl, ⟨hcs, hct, hcf⟩, rS, rT, rF, HP.out, hrs0, hrt0, hbk, HB.out⟩
                  exact AllReady.nil
                exact AllReady.nil
              exact AllReady.nil
            exact AllReady.nil
          exact AllReady.nil
        exact AllReady.nil
      exact AllReady.nil
    refine AllReady.cons rfl (fun K hK => ?_) ?_
    · have qq := HP.out.cell 10
      go_simp
      clear qq
      refine hK _ _ ?_
      clear hK K
      refine wpAny_ready (rs := [1]) (by kernel_rfl) (by simp) ?_
      refine AllReady.cons rfl (fun K hK => ?_) ?_
      · have qq := HP.out.cell 9
        go_simp
        clear qq
        refine hK _ _ ?_
        clear hK K
        refine wpAny_ready (rs := [2]) (by kernel_rfl) (by simp) ?_
        refine AllReady.cons rfl (fun K hK => ?_) ?_
        · go_simp
          refine (HWd.out sa ns sc p.s _ hrs0 (by omega)).mono ?_
          rintro e w2 ⟨v, rfl, ow, hb⟩
          replace HP := Lib.hid (HP.out.below hb HP.out.lt)
          replace HF := Lib.hid (HF.out.below hb HF.out.lt)
          replace hrs0 := hrs0.step hb
          replace hrt0 := hrt0.step hb
          replace hbk := hbk.step hb
          replace HB := Lib.hid (HB.out.trans (hb.mono HB.out.size))
          obtain ⟨As, cs, rfl, hcs, rS⟩ := own_reads ow
          rw [wideL_len, HNS.out] at hcs rS
          clear hb ow
          rw [wideL_len, HNS.out]
          go_simp
          refine hK _ _ ?_
          clear hK K
          refine wpAny_ready (rs := [5]) (by kernel_rfl) (by simp) ?_
          refine AllReady.cons rfl (fun K hK => ?_) ?_
          · go_simp
            refine (HWd.out ta nt tc p.t _ hrt0 (by omega)).mono ?_
            rintro e w3 ⟨v, rfl, ow, hb⟩
            replace HP := Lib.hid (HP.out.below hb HP.out.lt)
            replace HF := Lib.hid (HF.out.below hb HF.out.lt)
            replace hrs0 := hrs0.step hb
            replace hrt0 := hrt0.step hb
            replace hbk := hbk.step hb
            replace HB := Lib.hid (HB.out.trans (hb.mono HB.out.size))
            replace rS := rS.step hb
            obtain ⟨At, ct, rfl, hct, rT⟩ := own_reads ow
            rw [wideL_len, HNT.out] at hct rT
            clear hb ow
            rw [wideL_len, HNT.out]
            go_simp
            refine hK _ _ ?_
            clear hK K
            refine wpAny_ready (rs := [7]) (by kernel_rfl) (by simp) ?_
            refine AllReady.cons rfl (fun K hK => ?_) ?_
            · go_simp
              refine (HWd.out A n c xs _ hbk (by omega)).mono ?_
              rintro e w4 ⟨v, rfl, ow, hb⟩
              replace HP := Lib.hid (HP.out.below hb HP.out.lt)
              replace HF := Lib.hid (HF.out.below hb HF.out.lt)
              replace hrs0 := hrs0.step hb
              replace hrt0 := hrt0.step hb
              replace hbk := hbk.step hb
              replace HB := Lib.hid (HB.out.trans (hb.mono HB.out.size))
              replace rS := rS.step hb
              replace rT := rT.step hb
              obtain ⟨Af, cf, rfl, hcf, rF⟩ := own_reads ow
              rw [wideL_len, HXL.out] at hcf rF
              clear hb ow
              rw [wideL_len, HXL.out]
              go_simp
              refine hK _ _ ?_
              clear hK K
              refine wpAny_ready (rs := [8]) (by kernel_rfl) (by simp) ?_
              refine AllReady.cons rfl (fun K hK => ?_) ?_
              · go_simp
                refine hK _ _ ?_
                clear hK K
                refine wpAny_ready (rs := [9]) (by kernel_rfl) (by simp) ?_
                refine AllReady.cons rfl (fun K hK => ?_) ?_
                · go_simp
                  refine hK _ _ ?_
                  clear hK K
                  refine wpAny_ready (rs := [10]) (by kernel_rfl) (by simp) ?_
                  refine AllReady.cons rfl (fun K hK => ?_) ?_
                  · go_simp
                    refine hK _ _ ?_
                    clear hK K
                    refine wpAny_done (by kernel_rfl) ?_ _
                    go_wp2_with fail
                    go_meet
                    exact ⟨As, cs, At, ct, Af, cf, rfl, rfl, rfl, ⟨hcs, hct, hcf⟩, rS, rT, rF, HP.out, hrs0, hrt0, hbk, HB.out⟩
                  exact AllReady.nil
                exact AllReady.nil
              exact AllReady.nil
            exact AllReady.nil
          exact AllReady.nil
        exact AllReady.nil
      exact AllReady.nil
    exact AllReady.nil
  case rest =>
    obtain ⟨As, cs, At, ct, Af, cf, rfl, rfl, rfl, ⟨hcs, hct, hcf⟩, rS, rT, rF, hK2, hrs, hrt, hbk2, hB⟩ := hcut
    clear HP HF hrs0 hrt0 hbk HB
    obtain ⟨w3, rfl⟩ : ∃ w3 : World, w3 = wc := ⟨_, rfl⟩
    have hlt2 := hK2.lt
    have HK2 := Lib.hid hK2
    clear hK2
    go_upto_region 6 with (refine wpList_load_row rfl 31 (.tmp 2) rfl W.heap.size rfl 31 _ (0, 0) _ HK2.out Try.underlying31 rfl (by kernel_rfl) ?_)
    replace rS := rS.alloc (Nat.le_refl _) (.cells #[.int .i64 p.d, .int .i64 p.key, .int .i64 p.fo, .int .i64 p.de, .int .u32 p.leaf, .int .u64 p.off, .int .u32 p.xof, .int .i64 p.nd, .int .i64 p.inn, .slice sa ns sc, .slice ta nt tc] 31)
    replace rT := rT.alloc (Nat.le_refl _) (.cells #[.int .i64 p.d, .int .i64 p.key, .int .i64 p.fo, .int .i64 p.de, .int .u32 p.leaf, .int .u64 p.off, .int .u32 p.xof, .int .i64 p.nd, .int .i64 p.inn, .slice sa ns sc, .slice ta nt tc] 31)
    replace rF := rF.alloc (Nat.le_refl _) (.cells #[.int .i64 p.d, .int .i64 p.key, .int .i64 p.fo, .int .i64 p.de, .int .u32 p.leaf, .int .u64 p.off, .int .u32 p.xof, .int .i64 p.nd, .int .i64 p.inn, .slice sa ns sc, .slice ta nt tc] 31)
    replace hrs := hrs.alloc (Nat.le_refl _) (.cells #[.int .i64 p.d, .int .i64 p.key, .int .i64 p.fo, .int .i64 p.de, .int .u32 p.leaf, .int .u64 p.off, .int .u32 p.xof, .int .i64 p.nd, .int .i64 p.inn, .slice sa ns sc, .slice ta nt tc] 31)
    replace hrt := hrt.alloc (Nat.le_refl _) (.cells #[.int .i64 p.d, .int .i64 p.key, .int .i64 p.fo, .int .i64 p.de, .int .u32 p.leaf, .int .u64 p.off, .int .u32 p.xof, .int .i64 p.nd, .int .i64 p.inn, .slice sa ns sc, .slice ta nt tc] 31)
    replace hbk2 := hbk2.alloc (Nat.le_refl _) (.cells #[.int .i64 p.d, .int .i64 p.key, .int .i64 p.fo, .int .i64 p.de, .int .u32 p.leaf, .int .u64 p.off, .int .u32 p.xof, .int .i64 p.nd, .int .i64 p.inn, .slice sa ns sc, .slice ta nt tc] 31)
    have K2 := HK2.out.alloc (.cells #[.int .i64 p.d, .int .i64 p.key, .int .i64 p.fo, .int .i64 p.de, .int .u32 p.leaf, .int .u64 p.off, .int .u32 p.xof, .int .i64 p.nd, .int .i64 p.inn, .slice sa ns sc, .slice ta nt tc] 31)
    have K12 := Blk.new w3 31 #[.int .i64 p.d, .int .i64 p.key, .int .i64 p.fo, .int .i64 p.de, .int .u32 p.leaf, .int .u64 p.off, .int .u32 p.xof, .int .i64 p.nd, .int .i64 p.inn, .slice sa ns sc, .slice ta nt tc]
    have hB4 := hB.alloc hB.size (.cells #[.int .i64 p.d, .int .i64 p.key, .int .i64 p.fo, .int .i64 p.de, .int .u32 p.leaf, .int .u64 p.off, .int .u32 p.xof, .int .i64 p.nd, .int .i64 p.inn, .slice sa ns sc, .slice ta nt tc] 31)
    have hBz := hB.size
    clear HK2 hB
    generalize w3.alloc (.cells #[.int .i64 p.d, .int .i64 p.key, .int .i64 p.fo, .int .i64 p.de, .int .u32 p.leaf, .int .u64 p.off, .int .u32 p.xof, .int .i64 p.nd, .int .i64 p.inn, .slice sa ns sc, .slice ta nt tc] 31) = w4 at *
    generalize w3.heap.size = g12 at *
    have f9 : w4.cell? ⟨W.heap.size, 9, none⟩ = some (.slice sa ns sc) := K2.cell 9
    have f10 : w4.cell? ⟨W.heap.size, 10, none⟩ = some (.slice ta nt tc) := K2.cell 10
    have j9 : w4.cell? ⟨g12, 9, none⟩ = some (.slice sa ns sc) := K12.cell 9
    have j10 : w4.cell? ⟨g12, 10, none⟩ = some (.slice ta nt tc) := K12.cell 10
    have i9 := K12.frozen 9
    have i10 := K12.frozen 10
    have hne : W.heap.size ≠ g12 := by omega
    have hne2 : g12 ≠ W.heap.size := by omega
    have e1 : (ns : Int) ≤ ↑cs := by omega
    have e2 : (nt : Int) ≤ ↑ct := by omega
    have e3 : (n : Int) ≤ ↑cf := by omega
    have hlt12 := K12.lt
    have HKa := Lib.hid K2
    have HKb := Lib.hid K12
    have HB4 := Lib.hid hB4
    clear K2 K12 hB4
    go_upto_region 9 with fail
    have Kz2 := (HKa.out.far (p := ⟨g12, 9, none⟩) hne (.slice As ns cs)).far (p := ⟨g12, 10, none⟩) hne (.slice At nt ct)
    have Kz12 := (HKb.out.set_ 9 (.slice As ns cs)).set_ 10 (.slice At nt ct)
    have hBw := (HB4.out.setCell (p := ⟨g12, 9, none⟩) (by simp only; omega) (.slice As ns cs)).setCell (p := ⟨g12, 10, none⟩) (by simp only; omega) (.slice At nt ct)
    replace rS := ((rS.setCell (p := ⟨g12, 9, none⟩) (Nat.le_refl _) (.slice As ns cs)).setCell (p := ⟨g12, 10, none⟩) (Nat.le_refl _) (.slice At nt ct)).more (B' := ((w4.setCell ⟨g12, 9, none⟩ (.slice As ns cs)).setCell ⟨g12, 10, none⟩ (.slice At nt ct)).heap.size) (by simp; omega)
    replace rT := ((rT.setCell (p := ⟨g12, 9, none⟩) (Nat.le_refl _) (.slice As ns cs)).setCell (p := ⟨g12, 10, none⟩) (Nat.le_refl _) (.slice At nt ct)).more (B' := ((w4.setCell ⟨g12, 9, none⟩ (.slice As ns cs)).setCell ⟨g12, 10, none⟩ (.slice At nt ct)).heap.size) (by simp; omega)
    replace rF := ((rF.setCell (p := ⟨g12, 9, none⟩) (Nat.le_refl _) (.slice As ns cs)).setCell (p := ⟨g12, 10, none⟩) (Nat.le_refl _) (.slice At nt ct)).more (B' := ((w4.setCell ⟨g12, 9, none⟩ (.slice As ns cs)).setCell ⟨g12, 10, none⟩ (.slice At nt ct)).heap.size) (by simp; omega)
    replace hrs := ((hrs.setCell (p := ⟨g12, 9, none⟩) (Nat.le_refl _) (.slice As ns cs)).setCell (p := ⟨g12, 10, none⟩) (Nat.le_refl _) (.slice At nt ct)).more (B' := ((w4.setCell ⟨g12, 9, none⟩ (.slice As ns cs)).setCell ⟨g12, 10, none⟩ (.slice At nt ct)).heap.size) (by simp; omega)
    replace hrt := ((hrt.setCell (p := ⟨g12, 9, none⟩) (Nat.le_refl _) (.slice As ns cs)).setCell (p := ⟨g12, 10, none⟩) (Nat.le_refl _) (.slice At nt ct)).more (B' := ((w4.setCell ⟨g12, 9, none⟩ (.slice As ns cs)).setCell ⟨g12, 10, none⟩ (.slice At nt ct)).heap.size) (by simp; omega)
    replace hbk2 := ((hbk2.setCell (p := ⟨g12, 9, none⟩) (Nat.le_refl _) (.slice As ns cs)).setCell (p := ⟨g12, 10, none⟩) (Nat.le_refl _) (.slice At nt ct)).more (B' := ((w4.setCell ⟨g12, 9, none⟩ (.slice As ns cs)).setCell ⟨g12, 10, none⟩ (.slice At nt ct)).heap.size) (by simp; omega)
    clear f9 f10 j9 j10 i9 i10 HKa HKb HB4
    generalize (w4.setCell ⟨g12, 9, none⟩ (.slice As ns cs)).setCell ⟨g12, 10, none⟩ (.slice At nt ct) = wz at *
    have HK2 : Hid (∀ w', Below wz.heap.size wz w' → Blk w' W.heap.size 31 #[.int .i64 p.d, .int .i64 p.key, .int .i64 p.fo, .int .i64 p.de, .int .u32 p.leaf, .int .u64 p.off, .int .u32 p.xof, .int .i64 p.nd, .int .i64 p.inn, .slice sa ns sc, .slice ta nt tc]) := fun w' hb => Kz2.below hb Kz2.lt
    have HK12 : Hid (∀ w', Below wz.heap.size wz w' → Blk w' g12 31 #[.int .i64 p.d, .int .i64 p.key, .int .i64 p.fo, .int .i64 p.de, .int .u32 p.leaf, .int .u64 p.off, .int .u32 p.xof, .int .i64 p.nd, .int .i64 p.inn, .slice As ns cs, .slice At nt ct]) := fun w' hb => Kz12.below hb Kz12.lt
    have HRP : Hid (∀ w', Below wz.heap.size wz w' → RdP w' p sa sc ta tc) := fun w' hb => ⟨by rw [HNS.out]; exact hsc, by rw [HNT.out]; exact htc, by rw [HNS.out]; omega, by rw [HNT.out]; omega, by rw [HNS.out]; exact hrs.step hb, by rw [HNT.out]; exact hrt.step hb⟩
    have HRQ : Hid (∀ w', Below wz.heap.size wz w' → RdP w' p As cs At ct) := fun w' hb => ⟨by rw [HNS.out]; omega, by rw [HNT.out]; omega, by rw [HNS.out]; omega, by rw [HNT.out]; omega, by rw [HNS.out]; exact reads_pre (rS.step hb) HNS.out, by rw [HNT.out]; exact reads_pre (rT.step hb) HNT.out⟩
    have HRS : Hid (∀ w', Below wz.heap.size wz w' → Reads w' w'.heap.size 1 As (ns + 70) (u8s (wideL p.s)) ∧ Reads w' w'.heap.size 1 sa ns (u8s p.s)) := fun w' hb => ⟨rS.step hb, hrs.step hb⟩
    have HRT : Hid (∀ w', Below wz.heap.size wz w' → Reads w' w'.heap.size 1 At (nt + 70) (u8s (wideL p.t)) ∧ Reads w' w'.heap.size 1 ta nt (u8s p.t)) := fun w' hb => ⟨rT.step hb, hrt.step hb⟩
    have HRF : Hid (∀ w', Below wz.heap.size wz w' → Reads w' w'.heap.size 1 Af (n + 70) (u8s (wideL xs)) ∧ Reads w' w'.heap.size 1 A n (u8s xs) ∧ Reads w' w'.heap.size 1 Af n (u8s xs)) := fun w' hb => ⟨rF.step hb, hbk2.step hb, reads_pre (rF.step hb) HXL.out⟩
    have HBW : Hid (∀ w', Below wz.heap.size wz w' → Below W.heap.size W w') := fun w' hb => hBw.trans (hb.mono hBw.size)
    have HZ := Lib.hid (Below.refl wz.heap.size wz)
    clear Kz2 Kz12 hBw rS rT rF hrs hrt hbk2 e1 e2 e3 hlt12 hlt2 hBz
    go_wp2_with (refine wpList_load_row rfl 31 (.tmp 12) rfl g12 rfl 31 _ (0, 0) _ (HK12.out _ HZ.out) Try.underlying31 rfl (by kernel_rfl) ?_)
    refine (HNo.out _ _ _ _ _ (HRQ.out _ HZ.out)).mono ?_
    rintro e w2 ⟨sn1, cn1, tn1, dn1, rfl, o1, o2, hb⟩
    have oN1 := wown_of (B := wz.heap.size) o1 HZ.out.size
    have oN2 := wown_of (B := wz.heap.size) o2 HZ.out.size
    simp only [pvS, pv]
    have hb' := hb.alloc hb.size (.cells (pvC N sn1 cn1 tn1 dn1) 31)
    replace HZ := Lib.hid (HZ.out.trans (hb'.mono HZ.out.size))
    have KN := Lib.hid (Blk.new w2 31 (pvC N sn1 cn1 tn1 dn1))
    replace oN1 := wown_below oN1 ((Below.refl _ w2).alloc (Nat.le_refl _) (.cells (pvC N sn1 cn1 tn1 dn1) 31))
    replace oN2 := wown_below oN2 ((Below.refl _ w2).alloc (Nat.le_refl _) (.cells (pvC N sn1 cn1 tn1 dn1) 31))
    clear hb hb' o1 o2
    go_wp2_with (refine wpList_load_row rfl 31 (.tmp 12) rfl g12 rfl 31 _ (0, 0) _ (HK12.out _ HZ.out) Try.underlying31 rfl (by kernel_rfl) ?_)
    refine (HE1.out _ _ _ _ _ (HRQ.out _ HZ.out)).mono ?_
    rintro e w3 ⟨A1, c1, rfl, o1, hb⟩
    have oA := wown_of (B := wz.heap.size) o1 HZ.out.size
    replace HZ := Lib.hid (HZ.out.trans (hb.mono HZ.out.size))
    replace KN := Lib.hid (KN.out.below hb KN.out.lt)
    replace oN1 := wown_below oN1 hb
    replace oN2 := wown_below oN2 hb
    clear hb o1
    have x6 := (HK2.out _ HZ.out).cell 6
    go_wp2_with fail
    refine (HD1.out _ _ _ (by omega) (HRF.out _ HZ.out).2.2).mono ?_
    rintro e w4 ⟨sm1, cm1, tm1, dm1, rfl, o1, o2, hb⟩
    have oM1 := wown_of (B := wz.heap.size) o1 HZ.out.size
    have oM2 := wown_of (B := wz.heap.size) o2 HZ.out.size
    clear x6
    simp only [pvS, pv]
    have hb' := hb.alloc hb.size (.cells (pvC D sm1 cm1 tm1 dm1) 31)
    replace HZ := Lib.hid (HZ.out.trans (hb'.mono HZ.out.size))
    replace KN := Lib.hid (KN.out.below hb' KN.out.lt)
    replace oN1 := wown_below oN1 hb'
    replace oN2 := wown_below oN2 hb'
    replace oA := wown_below oA hb'
    have KM := Lib.hid (Blk.new w4 31 (pvC D sm1 cm1 tm1 dm1))
    replace oM1 := wown_below oM1 ((Below.refl _ w4).alloc (Nat.le_refl _) (.cells (pvC D sm1 cm1 tm1 dm1) 31))
    replace oM2 := wown_below oM2 ((Below.refl _ w4).alloc (Nat.le_refl _) (.cells (pvC D sm1 cm1 tm1 dm1) 31))
    clear hb hb' o1 o2
    go_wp2_with fail
    refine (HP1.out _ _ _ (HRF.out _ HZ.out).2.2).mono ?_
    rintro e w5 ⟨v1, rfl, o1, hb⟩
    have oC := wown_of (B := wz.heap.size) o1 HZ.out.size
    replace HZ := Lib.hid (HZ.out.trans (hb.mono HZ.out.size))
    replace KN := Lib.hid (KN.out.below hb KN.out.lt)
    replace oN1 := wown_below oN1 hb
    replace oN2 := wown_below oN2 hb
    replace oA := wown_below oA hb
    replace KM := Lib.hid (KM.out.below hb KM.out.lt)
    replace oM1 := wown_below oM1 hb
    replace oM2 := wown_below oM2 hb
    clear hb o1
    have xx := KN.out.cell 9
    go_wp2_with fail
    refine (c_spoil wz.heap.size _ _ _ oN1 (by omega) HZ.out.size).mono ?_
    rintro e w6 ⟨rfl, hq⟩
    clear xx
    replace HZ := Lib.hid (HZ.out.trans hq.below)
    replace KN := Lib.hid (hq.blk _ _ _ (by decide) KN.out)
    replace oN1 := hq.own _ _ oN1
    replace oN2 := hq.own _ _ oN2
    replace oA := hq.own _ _ oA
    replace KM := Lib.hid (hq.blk _ _ _ (by decide) KM.out)
    replace oM1 := hq.own _ _ oM1
    replace oM2 := hq.own _ _ oM2
    replace oC := hq.own _ _ oC
    clear hq
    have xx := KN.out.cell 10
    go_wp2_with fail
    refine (c_spoil wz.heap.size _ _ _ oN2 (by omega) HZ.out.size).mono ?_
    rintro e w7 ⟨rfl, hq⟩
    clear xx
    replace HZ := Lib.hid (HZ.out.trans hq.below)
    replace KN := Lib.hid (hq.blk _ _ _ (by decide) KN.out)
    replace oN1 := hq.own _ _ oN1
    replace oN2 := hq.own _ _ oN2
    replace oA := hq.own _ _ oA
    replace KM := Lib.hid (hq.blk _ _ _ (by decide) KM.out)
    replace oM1 := hq.own _ _ oM1
    replace oM2 := hq.own _ _ oM2
    replace oC := hq.own _ _ oC
    clear hq
    go_wp2_with fail
    refine (c_spoil wz.heap.size _ _ _ oA (by omega) HZ.out.size).mono ?_
    rintro e w8 ⟨rfl, hq⟩
    replace HZ := Lib.hid (HZ.out.trans hq.below)
    replace KN := Lib.hid (hq.blk _ _ _ (by decide) KN.out)
    replace oN1 := hq.own _ _ oN1
    replace oN2 := hq.own _ _ oN2
    replace oA := hq.own _ _ oA
    replace KM := Lib.hid (hq.blk _ _ _ (by decide) KM.out)
    replace oM1 := hq.own _ _ oM1
    replace oM2 := hq.own _ _ oM2
    replace oC := hq.own _ _ oC
    clear hq
    have xx := KM.out.cell 9
    go_wp2_with fail
    refine (c_spoil wz.heap.size _ _ _ oM1 (by omega) HZ.out.size).mono ?_
    rintro e w9 ⟨rfl, hq⟩
    clear xx
    replace HZ := Lib.hid (HZ.out.trans hq.below)
    replace KN := Lib.hid (hq.blk _ _ _ (by decide) KN.out)
    replace oN1 := hq.own _ _ oN1
    replace oN2 := hq.own _ _ oN2
    replace oA := hq.own _ _ oA
    replace KM := Lib.hid (hq.blk _ _ _ (by decide) KM.out)
    replace oM1 := hq.own _ _ oM1
    replace oM2 := hq.own _ _ oM2
    replace oC := hq.own _ _ oC
    clear hq
    have xx := KM.out.cell 10
    go_wp2_with fail
    refine (c_spoil wz.heap.size _ _ _ oM2 (by omega) HZ.out.size).mono ?_
    rintro e w10 ⟨rfl, hq⟩
    clear xx
    replace HZ := Lib.hid (HZ.out.trans hq.below)
    replace KN := Lib.hid (hq.blk _ _ _ (by decide) KN.out)
    replace oN1 := hq.own _ _ oN1
    replace oN2 := hq.own _ _ oN2
    replace oA := hq.own _ _ oA
    replace KM := Lib.hid (hq.blk _ _ _ (by decide) KM.out)
    replace oM1 := hq.own _ _ oM1
    replace oM2 := hq.own _ _ oM2
    replace oC := hq.own _ _ oC
    clear hq
    go_wp2_with fail
    refine (c_spoil wz.heap.size _ _ _ oC (by omega) HZ.out.size).mono ?_
    rintro e w11 ⟨rfl, hq⟩
    replace HZ := Lib.hid (HZ.out.trans hq.below)
    replace KN := Lib.hid (hq.blk _ _ _ (by decide) KN.out)
    replace oN1 := hq.own _ _ oN1
    replace oN2 := hq.own _ _ oN2
    replace oA := hq.own _ _ oA
    replace KM := Lib.hid (hq.blk _ _ _ (by decide) KM.out)
    replace oM1 := hq.own _ _ oM1
    replace oM2 := hq.own _ _ oM2
    replace oC := hq.own _ _ oC
    clear hq
    clear KN KM oN1 oN2 oA oM1 oM2 oC
    have xx := (HK2.out _ HZ.out).cell 9
    go_wp2_with fail
    refine (HKp.out _ _ _ _ _ _ p.s _ (HRS.out _ HZ.out).1 (HRS.out _ HZ.out).2 (by omega)).mono ?_
    rintro e w12 ⟨rfl, hb⟩
    replace HZ := Lib.hid (HZ.out.trans (hb.mono HZ.out.size))
    clear hb xx
    have xx := (HK2.out _ HZ.out).cell 10
    go_wp2_with fail
    refine (HKp.out _ _ _ _ _ _ p.t _ (HRT.out _ HZ.out).1 (HRT.out _ HZ.out).2 (by omega)).mono ?_
    rintro e w13 ⟨rfl, hb⟩
    replace HZ := Lib.hid (HZ.out.trans (hb.mono HZ.out.size))
    clear hb xx
    go_wp2_with fail
    refine (HKp.out _ _ _ _ _ _ xs _ (HRF.out _ HZ.out).1 (HRF.out _ HZ.out).2.1 (by omega)).mono ?_
    rintro e w14 ⟨rfl, hb⟩
    replace HZ := Lib.hid (HZ.out.trans (hb.mono HZ.out.size))
    clear hb
    go_wp2_with (refine wpList_load_row rfl 31 (.tmp 12) rfl g12 rfl 31 _ (0, 0) _ (HK12.out _ HZ.out) Try.underlying31 rfl (by kernel_rfl) ?_)
    refine (HE1.out _ _ _ _ _ (HRQ.out _ HZ.out)).mono ?_
    rintro e w15 ⟨Aq, cq, rfl, oq, hb⟩
    obtain ⟨Aq', cq', eq, _, rb⟩ := own_reads oq
    injection eq with eq _ eq'
    subst eq; subst eq'
    replace HZ := Lib.hid (HZ.out.trans (hb.mono HZ.out.size))
    clear hb oq
    go_wp2_with (refine wpList_load_row rfl 31 (.tmp 2) rfl W.heap.size rfl 31 _ (0, 0) _ (HK2.out _ HZ.out) Try.underlying31 rfl (by kernel_rfl) ?_)
    refine (HE2.out _ _ _ _ _ (HRP.out _ HZ.out)).mono ?_
    rintro e w16 ⟨Aq, cq, rfl, oq, hb⟩
    obtain ⟨Aq', cq', eq, _, rw1⟩ := own_reads oq
    injection eq with eq _ eq'
    subst eq; subst eq'
    replace HZ := Lib.hid (HZ.out.trans (hb.mono HZ.out.size))
    replace rb := rb.step hb
    clear hb oq
    have x6 := (HK2.out _ HZ.out).cell 6
    go_wp2_with fail
    refine (HD1.out _ _ _ (by omega) (HRF.out _ HZ.out).2.2).mono ?_
    rintro e w17 ⟨sx1, cx1, tx1, dx1, rfl, o1, o2, hb⟩
    clear x6
    simp only [pvS, pv]
    have hb' := hb.alloc hb.size (.cells (pvC D sx1 cx1 tx1 dx1) 31)
    replace HZ := Lib.hid (HZ.out.trans (hb'.mono HZ.out.size))
    replace rb := rb.step hb'
    replace rw1 := rw1.step hb'
    have KX := Lib.hid (Blk.new w17 31 (pvC D sx1 cx1 tx1 dx1))
    have hX1 := (own_rd o1 o2 bD1 bD2).step ((Below.refl _ w17).alloc (Nat.le_refl _) (.cells (pvC D sx1 cx1 tx1 dx1) 31))
    have zw17 : w17.heap.size = w17.heap.size := rfl
    clear hb hb' o1 o2 zw17
    have x6 := (HK2.out _ HZ.out).cell 6
    go_wp2_with fail
    refine (HD2.out _ _ _ hnc (HRF.out _ HZ.out).2.1).mono ?_
    rintro e w18 ⟨sy1, cy1, ty1, dy1, rfl, o1, o2, hb⟩
    clear x6
    simp only [pvS, pv]
    have hb' := hb.alloc hb.size (.cells (pvC D sy1 cy1 ty1 dy1) 31)
    replace HZ := Lib.hid (HZ.out.trans (hb'.mono HZ.out.size))
    replace rb := rb.step hb'
    replace rw1 := rw1.step hb'
    replace KX := Lib.hid (KX.out.below hb' KX.out.lt)
    replace hX1 := hX1.step hb'
    have KY := Lib.hid (Blk.new w18 31 (pvC D sy1 cy1 ty1 dy1))
    have hY1 := (own_rd o1 o2 bD1 bD2).step ((Below.refl _ w18).alloc (Nat.le_refl _) (.cells (pvC D sy1 cy1 ty1 dy1) 31))
    have zw18 : w18.heap.size = w18.heap.size := rfl
    clear hb hb' o1 o2 zw18
    go_wp2_with fail
    refine (HP1.out _ _ _ (HRF.out _ HZ.out).2.2).mono ?_
    rintro e w19 ⟨v, rfl, oq, hb⟩
    obtain ⟨Aq, cq, rfl, _, rz⟩ := own_reads oq
    replace HZ := Lib.hid (HZ.out.trans (hb.mono HZ.out.size))
    replace rb := rb.step hb
    replace rw1 := rw1.step hb
    replace KX := Lib.hid (KX.out.below hb KX.out.lt)
    replace hX1 := hX1.step hb
    replace KY := Lib.hid (KY.out.below hb KY.out.lt)
    replace hY1 := hY1.step hb
    clear hb oq
    go_wp2_with fail
    refine (HP2.out _ _ _ (HRF.out _ HZ.out).2.1).mono ?_
    rintro e w20 ⟨v, rfl, oq, hb⟩
    obtain ⟨Aq, cq, rfl, _, ru⟩ := own_reads oq
    replace HZ := Lib.hid (HZ.out.trans (hb.mono HZ.out.size))
    replace rb := rb.step hb
    replace rw1 := rw1.step hb
    replace KX := Lib.hid (KX.out.below hb KX.out.lt)
    replace hX1 := hX1.step hb
    replace KY := Lib.hid (KY.out.below hb KY.out.lt)
    replace hY1 := hY1.step hb
    replace rz := rz.step hb
    clear hb oq
    go_wp2_with fail
    refine (c_same _ _ _ _ _ _ Z Z _ _ rb rw1 bZ).mono ?_
    rintro e w21 ⟨rfl, hb⟩
    rw [decide_eq_true rfl]
    clear rb rw1
    replace HZ := Lib.hid (HZ.out.trans (hb.mono HZ.out.size))
    replace KX := Lib.hid (KX.out.below hb KX.out.lt)
    replace hX1 := hX1.step hb
    replace KY := Lib.hid (KY.out.below hb KY.out.lt)
    replace hY1 := hY1.step hb
    replace rz := rz.step hb
    replace ru := ru.step hb
    clear hb
    go_wp2_with (first | (refine wpList_load_rowG (by rfl) 31 (.tmp 26) rfl w17.heap.size rfl 31 _ (0, 0) _ KX.out Try.underlying31 rfl (by kernel_rfl) ?_) | (refine wpList_load_rowG (by rfl) 31 (.tmp 28) rfl w18.heap.size rfl 31 _ (0, 0) _ KY.out Try.underlying31 rfl (by kernel_rfl) ?_))
    refine (c_lalike D D _ _ _ _ _ _ _ _ _ hX1 hY1).mono ?_
    rintro e w22 ⟨rfl, hb⟩
    rw [decide_eq_true rfl]
    clear KX KY hX1 hY1
    replace HZ := Lib.hid (HZ.out.trans (hb.mono HZ.out.size))
    replace rz := rz.step hb
    replace ru := ru.step hb
    clear hb
    go_wp2_with fail
    refine (c_same _ _ _ _ _ _ Y Y _ _ rz ru bY).mono ?_
    rintro e w23 ⟨rfl, hb⟩
    rw [decide_eq_true rfl]
    clear rz ru
    replace HZ := Lib.hid (HZ.out.trans (hb.mono HZ.out.size))
    clear hb
    go_wp2_with fail
    go_ret
    exact ⟨rfl, HBW.out _ HZ.out⟩
theorem l_ParamMemory (W : World) (d : Int) (wd : (Lit.int .i64 d).wf = true) (key : Int) (wkey : (Lit.int .i64 key).wf = true) (fo : Int) (wfo : (Lit.int .i64 fo).wf = true) (de : Int) (wde : (Lit.int .i64 de).wf = true)
    (leaf : Int) (wleaf : (Lit.int .u32 leaf).wf = true) (off : Int) (woff : (Lit.int .u64 off).wf = true) (xof : Int) (wxof : (Lit.int .u32 xof).wf = true) (nd : Int) (wnd : (Lit.int .i64 nd).wf = true) (inn : Int) (winn : (Lit.int .i64 inn).wf = true)
    (sa : Option Addr) (sn sc : Nat) (xs : List Int) (hr : RdInts W .u8 1 sa sn sc xs) (ta : Option Addr) (tn tc : Nat) (ys : List Int) (hr' : RdInts W .u8 1 ta tn tc ys)
    (k : Int) (wk : (Lit.int .i64 k).wf = true) (A : Option Addr) (n c : Nat) (zs : List Int) (hz : RdInts W .u8 1 A n c zs) (f : Int) (wf : (Lit.int .i64 f).wf = true) (o : Int) (wo : (Lit.int .i64 o).wf = true) (v : Int) (wv : (Lit.int .u64 v).wf = true) :
    Calls Try.prog 11 #[.agg #[.int .i64 d, .int .i64 key, .int .i64 fo, .int .i64 de, .int .u32 leaf, .int .u64 off, .int .u32 xof, .int .i64 nd, .int .i64 inn, .slice sa sn sc, .slice ta tn tc], .agg #[.int .i64 k, .slice A n c, .int .i64 f, .int .i64 o, .int .u64 v]] W fun e W' => e = .returned (.bool true) ∧ Below W.heap.size W W' := by
  obtain ⟨e1, e2, h1, b1, b2⟩ := RdP_of (d := d) (key := key) (fo := fo) (de := de) (leaf := leaf) (off := off) (xof := xof) (nd := nd) (inn := inn) hr hr'
  subst e1; subst e2
  obtain ⟨hc, hm, hwf, hrd⟩ := hz
  obtain ⟨hc1, hm1, _, _⟩ := hr
  obtain ⟨hc2, hm2, _, _⟩ := hr'
  have hv := bounds_u64 wv
  exact L_Memory W ⟨d, key, fo, de, leaf, off, xof, nd, inn, xs, ys⟩ sa sc ta tc h1 (PmOk_of wleaf woff wxof) b1 b2 k A n c zs hc1 hc2 hrd hc (by omega) (by simp only; omega) (by simp only; omega) (u8_wf hwf) f o v hv.1 (by omega)
end Go.Proofs.Ytbpbokcglicggaa
