/- Walk: the int of a value's text at any text ((*value.text).int). Conditions: an int in decimal stands there, no digit behind it. -/
import Derived.Test.YtacnoedhpamdmaaGreatDoorKk
namespace Go.Proofs.YtacnoedhpamdmaaGreatDoor
open Go.RowKit Go.Shelf
set_option linter.unusedVariables false
set_option linter.unusedSimpArgs false
attribute [local go_sem ↓] Go.wp_at_zero Go.wp_at_succ

theorem ext_rest {S : ByteArray} {a : Nat} {d r : List UInt8} (h : rest S a = d ++ r) : (S.extract a (a + d.length)).data.toList = d := by
  unfold rest at h
  rw [ByteArray.data_extract, Array.toList_extract, List.extract_eq_take_drop]
  rw [h, Nat.add_sub_cancel_left, List.take_left]
theorem c_PIG {T : ByteArray} {z : Int} (hT : T.data.toList = Go.Lib.itoa z) (h1 : -9223372036854775808 ≤ z) (h2 : z < 9223372036854775808) (w : World) : Calls Tryz.prog 122 #[.string T, .int .i64 10, .int .i64 64] w fun e w' => e = .returned (.tuple #[.int .i64 z, .nilIface]) ∧ Below w.heap.size w w' := by
  have hlen : T.size = (Go.Lib.itoa z).length := by rw [← hT]; simp
  have hl := itoa_len h1 h2
  have H : Hid (∀ W, Calls Tryz.prog 138 #[.string T, .int .i64 10, .int .i64 64] W fun e w' => e = .returned (.tuple #[.int .i64 z, .nilIface]) ∧ Below W.heap.size W w') := fun W => by
    refine (Any.internal_strconv_ParseInt_10_at64 lays247 T (by omega) (by omega) W).mono ?_
    rintro e w' ⟨h3, h4⟩
    rw [hT, parse_itoa h1 h2] at h3
    refine ⟨h3, ?_⟩
    rcases h4 with rfl | ⟨t, rfl⟩
    · exact Below.refl _ _
    · exact Lib.bytesWorld_below _ _ _
  clear hT hlen hl h1 h2
  go_enter Tryz.func122, Tryz.ntmps122
  go_wp2_with (go_at_call 138; refine (H.out _).mono ?_; rintro e w1 ⟨rfl, hb1⟩)
  go_ret2
  exact ⟨rfl, hb1⟩
set_option maxRecDepth 100000 in
set_option maxHeartbeats 4000000 in
theorem c_intG (S : ByteArray) (a g : Nat) (z : Int) (r : List UInt8) (w : World) (hB : Blk w g 79 (TxC S a)) (hS : S.size ≤ 1099511627776) (hr : rest S a = Go.Lib.itoa z ++ r) (hn : noDg r) (h1 : -9223372036854775808 ≤ z) (h2 : z < 9223372036854775808) :
    Calls Tryz.prog 104 #[.pointer (some ⟨g, 0, none⟩)] w fun e w' => e = .returned (.int .i64 z) ∧ Blk w' g 79 (TxC S (a + (Go.Lib.itoa z).length)) ∧ w.grownBy w' (some g) := by
  obtain ⟨T, HTX0⟩ : ∃ T, Hid (S.extract a (a + (Go.Lib.itoa z).length) = T) := ⟨_, Lib.hid rfl⟩
  have hTd : T.data.toList = Go.Lib.itoa z := by rw [← HTX0.out]; exact ext_rest hr
  have HPI : Hid (∀ W, Calls Tryz.prog 122 #[.string T, .int .i64 10, .int .i64 64] W fun e w' => e = .returned (.tuple #[.int .i64 z, .nilIface]) ∧ Below W.heap.size W w') := fun W => c_PIG hTd h1 h2 W
  have HNE : Hid ((T.toList == [45, 48]) = false) := by
    show _ = _
    rw [ByteArray.toList_eq, hTd]
    simp only [beq_eq_false_iff_ne, ne_eq]
    unfold Go.Lib.itoa
    split
    · intro e
      injection e with _ e
      have := dg_zero e
      omega
    · intro e
      have := dg_all z.toNat 45 (by rw [e]; exact List.mem_cons_self)
      simp at this
  have HPK : Hid (∀ W k, Blk W g 79 (TxC S k) → ∀ (h : k < S.size), Calls Tryz.prog 102 #[.pointer (some ⟨g, 0, none⟩)] W fun e w' => e = .returned (.int .u8 ((S[k]'h).toNat : Int)) ∧ ∃ q, w' = W.drewN q) := fun W k hk h => c_peekG S k g W hk h
  have HNS0 : Hid (a + (Go.Lib.itoa z).length ≤ S.size) := by
    have hl : (rest S a).length = S.data.toList.length - a := by unfold rest; rw [List.length_drop]
    rw [hr, List.length_append] at hl
    have h3 := (itoa_len h1 h2).1
    have h4 : S.data.toList.length = S.size := by rw [Array.length_toList]; rfl
    show _ ≤ _
    omega
  have HND := Lib.hid hn
  have HK := Lib.hid hB
  have c0 : w.cell? ⟨g, 0, none⟩ = some (.string S) := hB.cell 0
  have c1 : w.cell? ⟨g, 1, none⟩ = some (.int .i64 (a : Int)) := hB.cell 1
  have f1 := hB.frozen 1
  obtain ⟨N, HN0⟩ : ∃ N, Hid (a + (Go.Lib.itoa z).length = N) := ⟨_, Lib.hid rfl⟩
  rw [HN0.out] at HTX0 HNS0 ⊢
  clear hB hn hTd
  by_cases hz : z < 0
  · have HR : Hid (rest S (a + 1) = Go.Lib.decDigits z.natAbs ++ r) := by
      unfold Go.Lib.itoa at hr
      rw [if_pos hz] at hr
      exact rest_cons hr
    have HN : Hid (a + 1 + (Go.Lib.decDigits z.natAbs).length = N) := by
      have := HN0.out
      unfold Go.Lib.itoa at this
      rw [if_pos hz, List.length_cons] at this
      show _ = _
      omega
    obtain ⟨hal, hax⟩ := rest_hd (show rest S a = 45 :: (Go.Lib.decDigits z.natAbs ++ r) by rw [hr]; unfold Go.Lib.itoa; rw [if_pos hz]; rfl)
    have HTX := HTX0
    have HNS := HNS0
    have HFA : Hid (a ≤ a + 1) := Nat.le_succ a
    clear hr h1 h2 hz HTX0 HNS0 HN0
    generalize z.natAbs = u at *
    go_enter Tryz.func104, Tryz.ntmps104
    go_wp2_with fail
    refine (HPK.out w a HK.out hal).mono ?_
    rintro e w1 ⟨rfl, q, rfl⟩
    rw [hax hal]
    have HBf : Hid (Blk ((w.drewN q).setCell ⟨g, 1, none⟩ (.int .i64 ((a : Int) + 1))) g 79 (TxC S (a + 1))) := (HK.out.drewN q).set_ 1 _
    have HGf : Hid (w.grownBy ((w.drewN q).setCell ⟨g, 1, none⟩ (.int .i64 ((a : Int) + 1))) (some g)) := only_setCell (only_drewN (World.grownBy.refl w _) q) (.inl rfl) _
    have e45 : ((45 : UInt8).toNat : Int) = 45 := rfl
    rw [e45]
    clear hax HK
    go_upto_region 4 with fail
    generalize hw2 : (w.drewN q).setCell ⟨g, 1, none⟩ (.int .i64 ((a : Int) + 1)) = w2 at *
    clear c0 c1 f1
    have c0 : w2.cell? ⟨g, 0, none⟩ = some (.string S) := HBf.out.cell 0
    have c1 : w2.cell? ⟨g, 1, none⟩ = some (.int .i64 ((a + 1 : Nat) : Int)) := HBf.out.cell 1
    obtain ⟨f, hf⟩ : ∃ f, a + 1 = f := ⟨_, rfl⟩
    rw [hf] at HR HN HFA HBf c1
    clear hf hw2
    go_wp2_with fail
    have hN : f + (Go.Lib.decDigits u).length = N := HN.out
    have hdl : 0 < (Go.Lib.decDigits u).length := List.length_pos_iff.2 (dg_ne u)
    have HDH := Lib.hid hdl
    clear hdl
    go_loopw [] (fun wr => ∃ (p : Nat) (q : List UInt8), Hid (p + q.length = N ∧ rest S p = q ++ r ∧ (∀ c ∈ q, 48 ≤ c.toNat ∧ c.toNat ≤ 57) ∧ (p = f ∨ (f < p ∧ (q ≠ [] → ∀ h, (S[f]'h).toNat ≠ 48)))) ∧ Hid (Blk wr g 79 (TxC S p)) ∧ Hid (w.grownBy wr (some g))) (fun wr => N - txPos wr g)
    case atStart => exact ⟨f, Go.Lib.decDigits u, ⟨hN, HR.out, dg_all u, .inl rfl⟩, HBf, HGf⟩
    case round =>
      obtain ⟨p, q, HQ, HBr, HGr⟩ := hrel
      clear c0 c1
      have c0 : wr.cell? ⟨g, 0, none⟩ = some (.string S) := HBr.out.cell 0
      have c1 : wr.cell? ⟨g, 1, none⟩ = some (.int .i64 (p : Int)) := HBr.out.cell 1
      have f1 := HBr.out.frozen 1
      cases q with
      | nil =>
        obtain rfl : p = N := by have := HQ.out.1; simpa using this
        have HPF : Hid (((p : Int) == (f : Int)) = false) := by
          have := HDH.out
          show _ = _
          simp; omega
        have hpa : a ≤ p := by have := HFA.out; omega
        have hps : p ≤ S.size := HNS.out
        have HEX : Hid (S.extract a p = T) := HTX.out
        cases r with
        | nil =>
          have hlt : ¬ p < S.size := by have := rest_nil HQ.out.2.1; omega
          go_wp2_with fail
          go_quiet (fail)
          have hpf := HPF.out
          have hex := HEX.out
          have hne := HNE.out
          go_wp2_with fail
          go_quiet (fail)
          go_wp2_with fail
          have kl := HBr.out.lt
          generalize hV5 : (wr.drewN _).drewN _ = w5
          obtain ⟨n5, hW5⟩ : ∃ n, w5 = wr.drewN n := ⟨_, hV5.symm.trans (World.drewN_drewN _ _ _)⟩
          clear hV5
          have K5 : Hid (Blk w5 g 79 (TxC S p)) := by rw [hW5]; exact HBr.out.drewN _
          have G5 : Hid (w.grownBy w5 (some g)) := by rw [hW5]; exact only_drewN HGr.out _
          clear hW5 c0 c1 HBr HGr
          have c0 : w5.cell? ⟨g, 0, none⟩ = some (.string S) := K5.out.cell 0
          have c1 : w5.cell? ⟨g, 1, none⟩ = some (.int .i64 (p : Int)) := K5.out.cell 1
          have hglt : g < w5.heap.size := K5.out.lt
          go_region_held3 (fun V => V.cell? ⟨g, 0, none⟩ = some (.string S) ∧ V.cell? ⟨g, 1, none⟩ = some (.int .i64 (p : Int))) (first | go_keep | (refine ⟨?_, ?_⟩ <;> assumption)) ((go_at_call 122; refine (HPI.out _).mono ?_; rintro x w6 ⟨rfl, hb6⟩; have l0 := (hb6.cell (p := ⟨g, 0, none⟩) hglt).trans c0; have l1 := (hb6.cell (p := ⟨g, 1, none⟩) hglt).trans c1))
          go_wp2_with fail
          go_ret
          exact ⟨rfl, K5.out.below (B := w5.heap.size) ⟨hb6.os, hb6.tape, hb6.output, hb6.size, hb6.block⟩ hglt, Lib.grownBy_below G5.out ⟨hb6.os, hb6.tape, hb6.output, hb6.size, hb6.block⟩⟩
        | cons x t =>
          obtain ⟨hpl, hx⟩ := rest_hd (show rest S p = x :: t from HQ.out.2.1)
          have hx2 : ∀ h, ((S[p]'h).toNat) = x.toNat := fun h => by rw [hx]
          have hnd := HND.out x t rfl
          clear hx
          generalize x.toNat = y at *
          rcases hnd with hy | hy
          · have d1 : decide ((48 : Int) ≤ (y : Int)) = false := by simp; omega
            have hy2 := Lib.hid hy
            clear hy
            go_wp2_with fail
            go_quiet (fail)
            have hpf := HPF.out
            have hex := HEX.out
            have hne := HNE.out
            go_wp2_with fail
            go_quiet (fail)
            go_wp2_with fail
            have kl := HBr.out.lt
            generalize hV5 : (wr.drewN _).drewN _ = w5
            obtain ⟨n5, hW5⟩ : ∃ n, w5 = wr.drewN n := ⟨_, hV5.symm.trans (World.drewN_drewN _ _ _)⟩
            clear hV5
            have K5 : Hid (Blk w5 g 79 (TxC S p)) := by rw [hW5]; exact HBr.out.drewN _
            have G5 : Hid (w.grownBy w5 (some g)) := by rw [hW5]; exact only_drewN HGr.out _
            clear hW5 c0 c1 HBr HGr
            have c0 : w5.cell? ⟨g, 0, none⟩ = some (.string S) := K5.out.cell 0
            have c1 : w5.cell? ⟨g, 1, none⟩ = some (.int .i64 (p : Int)) := K5.out.cell 1
            have hglt : g < w5.heap.size := K5.out.lt
            go_region_held3 (fun V => V.cell? ⟨g, 0, none⟩ = some (.string S) ∧ V.cell? ⟨g, 1, none⟩ = some (.int .i64 (p : Int))) (first | go_keep | (refine ⟨?_, ?_⟩ <;> assumption)) ((go_at_call 122; refine (HPI.out _).mono ?_; rintro x w6 ⟨rfl, hb6⟩; have l0 := (hb6.cell (p := ⟨g, 0, none⟩) hglt).trans c0; have l1 := (hb6.cell (p := ⟨g, 1, none⟩) hglt).trans c1))
            go_wp2_with fail
            go_ret
            exact ⟨rfl, K5.out.below (B := w5.heap.size) ⟨hb6.os, hb6.tape, hb6.output, hb6.size, hb6.block⟩ hglt, Lib.grownBy_below G5.out ⟨hb6.os, hb6.tape, hb6.output, hb6.size, hb6.block⟩⟩
          · have d1 : decide ((48 : Int) ≤ (y : Int)) = true := by simp; omega
            have d2 : decide ((y : Int) ≤ 57) = false := by simp; omega
            have hy2 := Lib.hid hy
            clear hy
            go_wp2_with fail
            go_quiet (fail)
            have hpf := HPF.out
            have hex := HEX.out
            have hne := HNE.out
            go_wp2_with fail
            go_quiet (fail)
            go_wp2_with fail
            have kl := HBr.out.lt
            generalize hV5 : (wr.drewN _).drewN _ = w5
            obtain ⟨n5, hW5⟩ : ∃ n, w5 = wr.drewN n := ⟨_, hV5.symm.trans (World.drewN_drewN _ _ _)⟩
            clear hV5
            have K5 : Hid (Blk w5 g 79 (TxC S p)) := by rw [hW5]; exact HBr.out.drewN _
            have G5 : Hid (w.grownBy w5 (some g)) := by rw [hW5]; exact only_drewN HGr.out _
            clear hW5 c0 c1 HBr HGr
            have c0 : w5.cell? ⟨g, 0, none⟩ = some (.string S) := K5.out.cell 0
            have c1 : w5.cell? ⟨g, 1, none⟩ = some (.int .i64 (p : Int)) := K5.out.cell 1
            have hglt : g < w5.heap.size := K5.out.lt
            go_region_held3 (fun V => V.cell? ⟨g, 0, none⟩ = some (.string S) ∧ V.cell? ⟨g, 1, none⟩ = some (.int .i64 (p : Int))) (first | go_keep | (refine ⟨?_, ?_⟩ <;> assumption)) ((go_at_call 122; refine (HPI.out _).mono ?_; rintro x w6 ⟨rfl, hb6⟩; have l0 := (hb6.cell (p := ⟨g, 0, none⟩) hglt).trans c0; have l1 := (hb6.cell (p := ⟨g, 1, none⟩) hglt).trans c1))
            go_wp2_with fail
            go_ret
            exact ⟨rfl, K5.out.below (B := w5.heap.size) ⟨hb6.os, hb6.tape, hb6.output, hb6.size, hb6.block⟩ hglt, Lib.grownBy_below G5.out ⟨hb6.os, hb6.tape, hb6.output, hb6.size, hb6.block⟩⟩
      | cons x q =>
        obtain ⟨hpl, hx⟩ := rest_hd (show rest S p = x :: (q ++ r) from HQ.out.2.1)
        have hx2 : ∀ h, ((S[p]'h).toNat) = x.toNat := fun h => by rw [hx]
        have hxd := HQ.out.2.2.1 x List.mem_cons_self
        have HQ2 : Hid (p + 1 + q.length = N ∧ rest S (p + 1) = q ++ r ∧ (∀ c ∈ q, 48 ≤ c.toNat ∧ c.toNat ≤ 57) ∧ (p + 1 = f ∨ (f < p + 1 ∧ (q ≠ [] → ∀ h, (S[f]'h).toNat ≠ 48)))) := by
          refine ⟨by have := HQ.out.1; rw [List.length_cons] at this; omega, rest_cons (show rest S p = x :: (q ++ r) from HQ.out.2.1), fun c hc => HQ.out.2.2.1 c (List.mem_cons_of_mem _ hc), .inr ?_⟩
          rcases HQ.out.2.2.2 with rfl | ⟨h1, h2⟩
          · refine ⟨by omega, fun hq h => ?_⟩
            rw [hx]
            have hr2 := HR.out
            rw [show rest S p = (x :: q) ++ r from HQ.out.2.1] at hr2
            have hd : x :: q = Go.Lib.decDigits u := by
              have hl := HQ.out.1
              exact List.append_inj_left hr2 (by omega)
            exact dg_head u x q hd.symm hq
          · exact ⟨by omega, fun _ => h2 (by simp)⟩
        have hpN : p + 1 ≤ N := by have := HQ2.out.1; omega
        have hps : p + 1 ≤ S.size := by omega
        have hst := HQ.out.2.2.2
        have HND2 := Lib.hid hxd
        clear hx hxd
        generalize x.toNat = y at *
        have d1 : decide ((48 : Int) ≤ (y : Int)) = true := by have := HND2.out.1; simp; omega
        have d2 : decide ((y : Int) ≤ 57) = true := by have := HND2.out.2; simp; omega
        rcases hst with rfl | ⟨hfp, hf48⟩
        · go_wp2_with fail
          go_quiet (fail)
          go_wp2_with fail
          have K2 : Blk ((wr.drewN nq).setCell ⟨g, 1, none⟩ (.int .i64 ((p : Int) + 1))) g 79 (TxC S (p + 1)) := (HBr.out.drewN nq).set_ 1 _
          have m1 : txPos ((wr.drewN nq).setCell ⟨g, 1, none⟩ (.int .i64 ((p : Int) + 1))) g = p + 1 := by unfold txPos; rw [K2.cell 1]; simp
          have m2 : txPos wr g = p := by unfold txPos; rw [HBr.out.cell 1]; simp
          go_roundw
          case rel => exact ⟨p + 1, q, HQ2, K2, only_setCell (only_drewN HGr.out nq) (.inl rfl) _⟩
          case measure => rw [m1, m2]; omega
        · have hfl : f < S.size := by omega
          obtain ⟨y0, hy0⟩ : ∃ y0, ∀ h, (S[f]'h).toNat = y0 := ⟨(S[f]'hfl).toNat, fun _ => rfl⟩
          have hy48 : ((y0 : Int) != 48) = true := by
            have := hf48 (by simp) hfl
            rw [hy0] at this
            simp; omega
          have hpf : ((p : Int) == (f : Int)) = false := by simp; omega
          clear hf48
          go_wp2_with fail
          go_quiet (fail)
          go_wp2_with fail
          have K2 : Blk ((wr.drewN nq).setCell ⟨g, 1, none⟩ (.int .i64 ((p : Int) + 1))) g 79 (TxC S (p + 1)) := (HBr.out.drewN nq).set_ 1 _
          have m1 : txPos ((wr.drewN nq).setCell ⟨g, 1, none⟩ (.int .i64 ((p : Int) + 1))) g = p + 1 := by unfold txPos; rw [K2.cell 1]; simp
          have m2 : txPos wr g = p := by unfold txPos; rw [HBr.out.cell 1]; simp
          go_roundw
          case rel => exact ⟨p + 1, q, HQ2, K2, only_setCell (only_drewN HGr.out nq) (.inl rfl) _⟩
          case measure => rw [m1, m2]; omega
  · have HR : Hid (rest S a = Go.Lib.decDigits z.toNat ++ r) := by
      unfold Go.Lib.itoa at hr
      rw [if_neg hz] at hr
      exact hr
    have HN : Hid (a + (Go.Lib.decDigits z.toNat).length = N) := by
      have := HN0.out
      unfold Go.Lib.itoa at this
      rw [if_neg hz] at this
      exact this
    obtain ⟨x0, hal, hax, hx0⟩ : ∃ x0 : UInt8, ∃ hal : a < S.size, (∀ h, (S[a]'h) = x0) ∧ 48 ≤ x0.toNat := by
      have hr2 := HR.out
      cases hd : Go.Lib.decDigits z.toNat with
      | nil => exact absurd hd (dg_ne _)
      | cons c t =>
        rw [hd] at hr2
        obtain ⟨h3, h4⟩ := rest_hd (show rest S a = c :: (t ++ r) from hr2)
        exact ⟨c, h3, h4, (dg_all z.toNat c (by rw [hd]; exact List.mem_cons_self)).1⟩
    have HTX := HTX0
    have HNS := HNS0
    have HFA : Hid (a ≤ a) := Nat.le_refl a
    have hx45 : ((x0.toNat : Int) == 45) = false := by simp; omega
    clear hr h1 h2 hz HTX0 HNS0 HN0 hx0
    generalize z.toNat = u at *
    go_enter Tryz.func104, Tryz.ntmps104
    go_wp2_with fail
    refine (HPK.out w a HK.out hal).mono ?_
    rintro e w1 ⟨rfl, q, rfl⟩
    rw [hax hal]
    generalize x0.toNat = y0 at *
    have HBf : Hid (Blk (w.drewN q) g 79 (TxC S a)) := HK.out.drewN q
    have HGf : Hid (w.grownBy (w.drewN q) (some g)) := only_drewN (World.grownBy.refl w _) q
    clear hax HK
    go_wp2_with fail
    have hN : a + (Go.Lib.decDigits u).length = N := HN.out
    have hdl : 0 < (Go.Lib.decDigits u).length := List.length_pos_iff.2 (dg_ne u)
    have HDH := Lib.hid hdl
    clear hdl
    go_loopw [] (fun wr => ∃ (p : Nat) (q : List UInt8), Hid (p + q.length = N ∧ rest S p = q ++ r ∧ (∀ c ∈ q, 48 ≤ c.toNat ∧ c.toNat ≤ 57) ∧ (p = a ∨ (a < p ∧ (q ≠ [] → ∀ h, (S[a]'h).toNat ≠ 48)))) ∧ Hid (Blk wr g 79 (TxC S p)) ∧ Hid (w.grownBy wr (some g))) (fun wr => N - txPos wr g)
    case atStart => exact ⟨a, Go.Lib.decDigits u, ⟨hN, HR.out, dg_all u, .inl rfl⟩, HBf, HGf⟩
    case round =>
      obtain ⟨p, q, HQ, HBr, HGr⟩ := hrel
      clear c0 c1
      have c0 : wr.cell? ⟨g, 0, none⟩ = some (.string S) := HBr.out.cell 0
      have c1 : wr.cell? ⟨g, 1, none⟩ = some (.int .i64 (p : Int)) := HBr.out.cell 1
      have f1 := HBr.out.frozen 1
      cases q with
      | nil =>
        obtain rfl : p = N := by have := HQ.out.1; simpa using this
        have HPF : Hid (((p : Int) == (a : Int)) = false) := by
          have := HDH.out
          show _ = _
          simp; omega
        have hpa : a ≤ p := by have := HFA.out; omega
        have hps : p ≤ S.size := HNS.out
        have HEX : Hid (S.extract a p = T) := HTX.out
        cases r with
        | nil =>
          have hlt : ¬ p < S.size := by have := rest_nil HQ.out.2.1; omega
          go_wp2_with fail
          go_quiet (fail)
          have hpf := HPF.out
          have hex := HEX.out
          have hne := HNE.out
          go_wp2_with fail
          go_quiet (fail)
          go_wp2_with fail
          have kl := HBr.out.lt
          generalize hV5 : (wr.drewN _).drewN _ = w5
          obtain ⟨n5, hW5⟩ : ∃ n, w5 = wr.drewN n := ⟨_, hV5.symm.trans (World.drewN_drewN _ _ _)⟩
          clear hV5
          have K5 : Hid (Blk w5 g 79 (TxC S p)) := by rw [hW5]; exact HBr.out.drewN _
          have G5 : Hid (w.grownBy w5 (some g)) := by rw [hW5]; exact only_drewN HGr.out _
          clear hW5 c0 c1 HBr HGr
          have c0 : w5.cell? ⟨g, 0, none⟩ = some (.string S) := K5.out.cell 0
          have c1 : w5.cell? ⟨g, 1, none⟩ = some (.int .i64 (p : Int)) := K5.out.cell 1
          have hglt : g < w5.heap.size := K5.out.lt
          go_region_held3 (fun V => V.cell? ⟨g, 0, none⟩ = some (.string S) ∧ V.cell? ⟨g, 1, none⟩ = some (.int .i64 (p : Int))) (first | go_keep | (refine ⟨?_, ?_⟩ <;> assumption)) ((go_at_call 122; refine (HPI.out _).mono ?_; rintro x w6 ⟨rfl, hb6⟩; have l0 := (hb6.cell (p := ⟨g, 0, none⟩) hglt).trans c0; have l1 := (hb6.cell (p := ⟨g, 1, none⟩) hglt).trans c1))
          go_wp2_with fail
          go_ret
          exact ⟨rfl, K5.out.below (B := w5.heap.size) ⟨hb6.os, hb6.tape, hb6.output, hb6.size, hb6.block⟩ hglt, Lib.grownBy_below G5.out ⟨hb6.os, hb6.tape, hb6.output, hb6.size, hb6.block⟩⟩
        | cons x t =>
          obtain ⟨hpl, hx⟩ := rest_hd (show rest S p = x :: t from HQ.out.2.1)
          have hx2 : ∀ h, ((S[p]'h).toNat) = x.toNat := fun h => by rw [hx]
          have hnd := HND.out x t rfl
          clear hx
          generalize x.toNat = y at *
          rcases hnd with hy | hy
          · have d1 : decide ((48 : Int) ≤ (y : Int)) = false := by simp; omega
            have hy2 := Lib.hid hy
            clear hy
            go_wp2_with fail
            go_quiet (fail)
            have hpf := HPF.out
            have hex := HEX.out
            have hne := HNE.out
            go_wp2_with fail
            go_quiet (fail)
            go_wp2_with fail
            have kl := HBr.out.lt
            generalize hV5 : (wr.drewN _).drewN _ = w5
            obtain ⟨n5, hW5⟩ : ∃ n, w5 = wr.drewN n := ⟨_, hV5.symm.trans (World.drewN_drewN _ _ _)⟩
            clear hV5
            have K5 : Hid (Blk w5 g 79 (TxC S p)) := by rw [hW5]; exact HBr.out.drewN _
            have G5 : Hid (w.grownBy w5 (some g)) := by rw [hW5]; exact only_drewN HGr.out _
            clear hW5 c0 c1 HBr HGr
            have c0 : w5.cell? ⟨g, 0, none⟩ = some (.string S) := K5.out.cell 0
            have c1 : w5.cell? ⟨g, 1, none⟩ = some (.int .i64 (p : Int)) := K5.out.cell 1
            have hglt : g < w5.heap.size := K5.out.lt
            go_region_held3 (fun V => V.cell? ⟨g, 0, none⟩ = some (.string S) ∧ V.cell? ⟨g, 1, none⟩ = some (.int .i64 (p : Int))) (first | go_keep | (refine ⟨?_, ?_⟩ <;> assumption)) ((go_at_call 122; refine (HPI.out _).mono ?_; rintro x w6 ⟨rfl, hb6⟩; have l0 := (hb6.cell (p := ⟨g, 0, none⟩) hglt).trans c0; have l1 := (hb6.cell (p := ⟨g, 1, none⟩) hglt).trans c1))
            go_wp2_with fail
            go_ret
            exact ⟨rfl, K5.out.below (B := w5.heap.size) ⟨hb6.os, hb6.tape, hb6.output, hb6.size, hb6.block⟩ hglt, Lib.grownBy_below G5.out ⟨hb6.os, hb6.tape, hb6.output, hb6.size, hb6.block⟩⟩
          · have d1 : decide ((48 : Int) ≤ (y : Int)) = true := by simp; omega
            have d2 : decide ((y : Int) ≤ 57) = false := by simp; omega
            have hy2 := Lib.hid hy
            clear hy
            go_wp2_with fail
            go_quiet (fail)
            have hpf := HPF.out
            have hex := HEX.out
            have hne := HNE.out
            go_wp2_with fail
            go_quiet (fail)
            go_wp2_with fail
            have kl := HBr.out.lt
            generalize hV5 : (wr.drewN _).drewN _ = w5
            obtain ⟨n5, hW5⟩ : ∃ n, w5 = wr.drewN n := ⟨_, hV5.symm.trans (World.drewN_drewN _ _ _)⟩
            clear hV5
            have K5 : Hid (Blk w5 g 79 (TxC S p)) := by rw [hW5]; exact HBr.out.drewN _
            have G5 : Hid (w.grownBy w5 (some g)) := by rw [hW5]; exact only_drewN HGr.out _
            clear hW5 c0 c1 HBr HGr
            have c0 : w5.cell? ⟨g, 0, none⟩ = some (.string S) := K5.out.cell 0
            have c1 : w5.cell? ⟨g, 1, none⟩ = some (.int .i64 (p : Int)) := K5.out.cell 1
            have hglt : g < w5.heap.size := K5.out.lt
            go_region_held3 (fun V => V.cell? ⟨g, 0, none⟩ = some (.string S) ∧ V.cell? ⟨g, 1, none⟩ = some (.int .i64 (p : Int))) (first | go_keep | (refine ⟨?_, ?_⟩ <;> assumption)) ((go_at_call 122; refine (HPI.out _).mono ?_; rintro x w6 ⟨rfl, hb6⟩; have l0 := (hb6.cell (p := ⟨g, 0, none⟩) hglt).trans c0; have l1 := (hb6.cell (p := ⟨g, 1, none⟩) hglt).trans c1))
            go_wp2_with fail
            go_ret
            exact ⟨rfl, K5.out.below (B := w5.heap.size) ⟨hb6.os, hb6.tape, hb6.output, hb6.size, hb6.block⟩ hglt, Lib.grownBy_below G5.out ⟨hb6.os, hb6.tape, hb6.output, hb6.size, hb6.block⟩⟩
      | cons x q =>
        obtain ⟨hpl, hx⟩ := rest_hd (show rest S p = x :: (q ++ r) from HQ.out.2.1)
        have hx2 : ∀ h, ((S[p]'h).toNat) = x.toNat := fun h => by rw [hx]
        have hxd := HQ.out.2.2.1 x List.mem_cons_self
        have HQ2 : Hid (p + 1 + q.length = N ∧ rest S (p + 1) = q ++ r ∧ (∀ c ∈ q, 48 ≤ c.toNat ∧ c.toNat ≤ 57) ∧ (p + 1 = a ∨ (a < p + 1 ∧ (q ≠ [] → ∀ h, (S[a]'h).toNat ≠ 48)))) := by
          refine ⟨by have := HQ.out.1; rw [List.length_cons] at this; omega, rest_cons (show rest S p = x :: (q ++ r) from HQ.out.2.1), fun c hc => HQ.out.2.2.1 c (List.mem_cons_of_mem _ hc), .inr ?_⟩
          rcases HQ.out.2.2.2 with rfl | ⟨h1, h2⟩
          · refine ⟨by omega, fun hq h => ?_⟩
            rw [hx]
            have hr2 := HR.out
            rw [show rest S p = (x :: q) ++ r from HQ.out.2.1] at hr2
            have hd : x :: q = Go.Lib.decDigits u := by
              have hl := HQ.out.1
              exact List.append_inj_left hr2 (by omega)
            exact dg_head u x q hd.symm hq
          · exact ⟨by omega, fun _ => h2 (by simp)⟩
        have hpN : p + 1 ≤ N := by have := HQ2.out.1; omega
        have hps : p + 1 ≤ S.size := by omega
        have hst := HQ.out.2.2.2
        have HND2 := Lib.hid hxd
        clear hx hxd
        generalize x.toNat = y at *
        have d1 : decide ((48 : Int) ≤ (y : Int)) = true := by have := HND2.out.1; simp; omega
        have d2 : decide ((y : Int) ≤ 57) = true := by have := HND2.out.2; simp; omega
        rcases hst with rfl | ⟨hfp, hf48⟩
        · go_wp2_with fail
          go_quiet (fail)
          go_wp2_with fail
          have K2 : Blk ((wr.drewN nq).setCell ⟨g, 1, none⟩ (.int .i64 ((p : Int) + 1))) g 79 (TxC S (p + 1)) := (HBr.out.drewN nq).set_ 1 _
          have m1 : txPos ((wr.drewN nq).setCell ⟨g, 1, none⟩ (.int .i64 ((p : Int) + 1))) g = p + 1 := by unfold txPos; rw [K2.cell 1]; simp
          have m2 : txPos wr g = p := by unfold txPos; rw [HBr.out.cell 1]; simp
          go_roundw
          case rel => exact ⟨p + 1, q, HQ2, K2, only_setCell (only_drewN HGr.out nq) (.inl rfl) _⟩
          case measure => rw [m1, m2]; omega
        · have hfl : a < S.size := by omega
          obtain ⟨y0, hy0⟩ : ∃ y0, ∀ h, (S[a]'h).toNat = y0 := ⟨(S[a]'hfl).toNat, fun _ => rfl⟩
          have hy48 : ((y0 : Int) != 48) = true := by
            have := hf48 (by simp) hfl
            rw [hy0] at this
            simp; omega
          have hpf : ((p : Int) == (a : Int)) = false := by simp; omega
          clear hf48
          go_wp2_with fail
          go_quiet (fail)
          go_wp2_with fail
          have K2 : Blk ((wr.drewN nq).setCell ⟨g, 1, none⟩ (.int .i64 ((p : Int) + 1))) g 79 (TxC S (p + 1)) := (HBr.out.drewN nq).set_ 1 _
          have m1 : txPos ((wr.drewN nq).setCell ⟨g, 1, none⟩ (.int .i64 ((p : Int) + 1))) g = p + 1 := by unfold txPos; rw [K2.cell 1]; simp
          have m2 : txPos wr g = p := by unfold txPos; rw [HBr.out.cell 1]; simp
          go_roundw
          case rel => exact ⟨p + 1, q, HQ2, K2, only_setCell (only_drewN HGr.out nq) (.inl rfl) _⟩
          case measure => rw [m1, m2]; omega
end Go.Proofs.YtacnoedhpamdmaaGreatDoor
