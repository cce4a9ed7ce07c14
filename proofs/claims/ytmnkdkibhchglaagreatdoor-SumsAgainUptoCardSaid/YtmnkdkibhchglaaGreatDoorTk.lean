/- Walk of a line's reader: how many bytes the digest has (reader.bits). Conditions: lengths within the reach; the library's two errors as laid. -/
import Derived.Test.YtmnkdkibhchglaaGreatDoorTj
import Derived.Deep.CutBlock
import Derived.Deep.DeepCutAuto
namespace Go.Proofs.YtmnkdkibhchglaaGreatDoor
open Go.RowKit
set_option linter.unusedVariables false
attribute [local go_sem ↓] Go.wp_at_zero Go.wp_at_succ

theorem dP_toNat (c : UInt8) : dP c = true ↔ (48 : Int) ≤ (c.toNat : Int) ∧ (c.toNat : Int) ≤ 57 := by
  simp only [dP, Bool.and_eq_true, decide_eq_true_eq]; omega
theorem bitS_no {s : ByteArray} {i most : Nat} (h : s.data.toList[i]? ≠ some 45) : bitS s i most = .inr (i, most) := by unfold bitS; rw [if_neg h]
theorem bitS_bad {s : ByteArray} {i most : Nat} (h : s.data.toList[i]? = some 45) (hb : digN s (i + 1) = 0 ∨ s.data.toList[i + 1]? = some 48 ∨ dval ((s.data.toList.drop (i + 1)).take (digN s (i + 1))) % 8 ≠ 0 ∨ 8 * most < dval ((s.data.toList.drop (i + 1)).take (digN s (i + 1)))) : bitS s i most = .inl (i + 1) := by unfold bitS; rw [if_pos h, if_pos hb]
theorem bitS_ok {s : ByteArray} {i most : Nat} (h : s.data.toList[i]? = some 45) (hb : ¬ (digN s (i + 1) = 0 ∨ s.data.toList[i + 1]? = some 48 ∨ dval ((s.data.toList.drop (i + 1)).take (digN s (i + 1))) % 8 ≠ 0 ∨ 8 * most < dval ((s.data.toList.drop (i + 1)).take (digN s (i + 1))))) : bitS s i most = .inr (i + 1 + digN s (i + 1), dval ((s.data.toList.drop (i + 1)).take (digN s (i + 1))) / 8) := by unfold bitS; rw [if_pos h, if_neg hb]
theorem bitS_le {s : ByteArray} {i most j n : Nat} (hi : i ≤ s.size) (h : bitS s i most = .inr (j, n)) : i ≤ j ∧ j ≤ s.size ∧ n ≤ most := by
  unfold bitS at h
  split at h
  · rename_i h45
    have hlt : i < s.size := by
      rcases Nat.lt_or_ge i s.size with h1 | h1
      · exact h1
      · rw [ba_none s i h1] at h45; cases h45
    split at h
    · cases h
    · rename_i hn
      cases h
      have := digN_le s (i + 1)
      omega
  · cases h
    omega
theorem bit_tail {s : ByteArray} {i : Nat} (hd : digN s (i + 1) ≠ 0) : i + 1 < s.size := by
  have := digN_le s (i + 1)
  omega
set_option maxRecDepth 100000 in
set_option maxHeartbeats 2000000 in
theorem c_bits (s : ByteArray) (i b most : Nat) (hm : most ≤ 64) (mk : Bool) (a : Int) (nm : ByteArray) (D : Option Addr) (n c : Nat) (st : Bool) (w : World) (hB : Blk w b 69 (rdC s i mk a nm D n c st)) (hs : s.size ≤ 1000000) (hi : i ≤ s.size) (he : Errs w) (hb6 : 6 < b) :
    Calls Tryz.prog 64 #[.pointer (some ⟨b, 0, none⟩), .int .i64 (most : Int)] w fun e w' => ∃ v x, e = .returned (.tuple #[.int .i64 v, x]) ∧ w.grownBy w' (some b) ∧
      ((∃ j k, bitS s i most = .inr (j, k) ∧ v = (k : Int) ∧ x = .nilIface ∧ Blk w' b 69 (rdC s j mk a nm D n c st)) ∨ (∃ j, bitS s i most = .inl j ∧ FltE w' w.heap.size x j)) := by
  have c0 : w.cell? ⟨b, 0, none⟩ = some (.string s) := hB.cell 0
  have c1 : w.cell? ⟨b, 1, none⟩ = some (.int .i64 (i : Int)) := hB.cell 1
  have f1 := hB.frozen 1
  have HK := Lib.hid hB
  have hbl := hB.lt
  have HER := Lib.hid he
  clear hB he
  by_cases hlt : i < s.size
  · have h0 := ba_get s i hlt
    by_cases h45 : s[i] = 45
    · have b45 : ((s[i].toNat : Int) != 45) = false := by rw [h45]; rfl
      rw [h45] at h0
      have t0 : decide ((s.size : Int) ≤ (i : Int)) = false := by rw [decide_eq_false_iff_not]; omega
      have HBAD := Lib.hid (bitS_bad (most := most) h0)
      have HOKK := Lib.hid (bitS_ok (most := most) h0)
      have HBD := Lib.hid (fun W => c_bad b (i + 1) W)
      have HGO : Hid (∀ m, (h : i + 1 + m < s.size) → m ≤ digN s (i + 1) → dP s[i + 1 + m] = true → m + 1 ≤ digN s (i + 1)) := fun m h hm hb => digN_go s (i + 1) m h hm hb
      have HST : Hid (∀ m, (h : i + 1 + m < s.size) → m ≤ digN s (i + 1) → dP s[i + 1 + m] = false → digN s (i + 1) = m) := fun m h hm hb => digN_stop s (i + 1) m h hm hb
      have HEN : Hid (∀ m, s.size ≤ i + 1 + m → m ≤ digN s (i + 1) → digN s (i + 1) = m) := fun m h hm => digN_end s (i + 1) m h hm
      clear h45 h0
      go_enter Tryz.func64, Tryz.ntmps64
      go_wp2_with fail
      go_quiet (fail)
      generalize hw2 : w.drewN nq = w2 at *
      have d1 : w2.cell? ⟨b, 1, none⟩ = some (.int .i64 (i : Int)) := by rw [← hw2]; exact c1
      have e1 : w2.frozen? ⟨b, 1, none⟩ = false := by rw [← hw2]; exact f1
      have HG2 : Hid (w.grownBy (w2.setCell ⟨b, 1, none⟩ (.int .i64 ((i + 1 : Nat) : Int))) (some b)) := by rw [← hw2]; exact only_setCell (only_drewN (World.grownBy.refl w _) nq) (.inl rfl) _
      have HK2 : Hid (Blk (w2.setCell ⟨b, 1, none⟩ (.int .i64 ((i + 1 : Nat) : Int))) b 69 (rdC s (i + 1) mk a nm D n c st)) := by rw [← hw2]; exact HK.out.drewN nq |>.set_ 1 _
      clear hw2
      have ec : ((i + 1 : Nat) : Int) = (i : Int) + 1 := rfl
      rw [ec] at HG2 HK2
      go_upto_block 0 with fail
      generalize w2.setCell ⟨b, 1, none⟩ (.int .i64 ((i : Int) + 1)) = w3 at *
      have k0 : w3.cell? ⟨b, 0, none⟩ = some (.string s) := HK2.out.cell 0
      have k1 : w3.cell? ⟨b, 1, none⟩ = some (.int .i64 ((i : Int) + 1)) := HK2.out.cell 1
      clear c0 c1 f1 d1 e1 b45
      have ej : (i : Int) + 1 = ((i + 1 : Nat) : Int) := rfl
      rw [ej] at k1 ⊢
      have hj : i + 1 ≤ s.size := hlt
      clear ej ec HK
      generalize hji : i + 1 = j at *
      have HJ := Lib.hid hji
      clear hji
      have hNs := digN_le s j
      have hdl : ((s.data.toList.drop j).take (digN s j)).length = digN s j := by rw [List.length_take, drop_len]; omega
      have hdd : ∀ c ∈ (s.data.toList.drop j).take (digN s j), dP c = true := cnt_take dP (s.data.toList.drop j)
      have hel := ext_list s j (digN s j)
      generalize digN s j = N at *
      have HNS : Hid (N ≤ s.size - j) := hNs
      have hjN : j + N ≤ s.size := by omega
      clear hNs
      have tN : decide (s.size ≤ i) = false := by rw [decide_eq_false_iff_not]; omega
      simp only [tN]
      go_cut [6] (fun v6 wx => v6 = .int .i64 ((j + N : Nat) : Int) ∧ w3 = wx)
      case first =>
        clear HBAD HOKK hdl hdd hel
        go_wp2_with fail
        go_loopg [6] (s.size - j) (fun g v6 wx => w3 = wx ∧ ∃ m : Nat, j + m ≤ s.size ∧ g = s.size - (j + m) ∧ v6 = .int .i64 ((j + m : Nat) : Int) ∧ Hid (m ≤ N))
        case atStart => exact ⟨rfl, 0, hj, rfl, rfl, Nat.zero_le _⟩
        case round =>
          obtain ⟨rfl, m, hm1, rfl, rfl, HM⟩ := hrel
          by_cases hl2 : j + m < s.size
          · have t1 : ((j + m : Nat) : Int) < (s.size : Int) := by omega
            have hcd := dP_toNat s[j + m]
            by_cases hd : dP s[j + m] = true
            · obtain ⟨p1, p2⟩ := hcd.1 hd
              have HM' := Lib.hid (HGO.out m hl2 HM.out hd)
              clear hcd hd HGO HST HEN
              go_wp2_with fail
              go_roundg (s.size - (j + (m + 1)))
              case measure => omega
              case rel => exact ⟨rfl, m + 1, by omega, rfl, by go_num, HM'.out⟩
            · have hno : ¬ ((48 : Int) ≤ (s[j + m].toNat : Int) ∧ (s[j + m].toNat : Int) ≤ 57) := fun h => hd (hcd.2 h)
              have HM' := Lib.hid (HST.out m hl2 HM.out (by simpa using hd))
              clear hcd hd HGO HST HEN
              by_cases p1 : (48 : Int) ≤ (s[j + m].toNat : Int)
              · have p2 : ¬ (s[j + m].toNat : Int) ≤ 57 := fun h => hno ⟨p1, h⟩
                clear hno
                go_wp2_with fail
                go_meet
                exact ⟨by rw [HM'.out]; go_num, rfl⟩
              · clear hno
                go_wp2_with fail
                go_meet
                exact ⟨by rw [HM'.out]; go_num, rfl⟩
          · have t1 : ¬ ((j + m : Nat) : Int) < (s.size : Int) := by omega
            have HM' := Lib.hid (HEN.out m (by omega) HM.out)
            clear HGO HST HEN
            go_wp2_with fail
            go_meet
            exact ⟨by rw [HM'.out]; go_num, rfl⟩
      case rest =>
        obtain ⟨rfl, rfl⟩ := hcut
        clear HGO HST HEN
        have hb3 := HK2.out.lt
        have g1 : (0 : Int) ≤ (j : Int) := by omega
        have g2 : (j : Int) ≤ (j : Int) + (N : Int) := by omega
        have g3 : (j : Int) + (N : Int) ≤ (s.size : Int) := by omega
        have HE3 : Hid (Errs w3.drew) := HER.out.grown (only_drew HG2.out) (fun _ h => by injection h with h; omega)
        have hsz : (s.extract j (j + N)).size ≤ 1000000 := by rw [ByteArray.size_extract]; omega
        rw [← hel] at hdd hdl HBAD HOKK
        have HDD := Lib.hid hdd
        have HDL := Lib.hid hdl
        clear hel hdd hdl
        by_cases hbad : (s.extract j (j + N)).data.toList = [] ∨ 9223372036854775808 ≤ dval (s.extract j (j + N)).data.toList
        · have HA := Lib.hid (c_Atoi_bad (s.extract j (j + N)) hsz HDD.out hbad w3.drew HE3.out)
          have HR := Lib.hid (HBAD.out (by
            rcases hbad with h | h
            · left
              have := HDL.out
              rw [h] at this
              exact this.symm
            · exact .inr (.inr (.inr (by omega)))))
          clear hbad HBAD HOKK HDD HDL
          go_wp2_with fail
          go_region_held3 (fun V => V.cell? ⟨b, 0, none⟩ = some (.string s) ∧ V.cell? ⟨b, 1, none⟩ = some (.int .i64 (j : Int))) (first | go_keep | (refine ⟨?_, ?_⟩ <;> assumption)) ((go_at_call 81; refine (HA.out).mono ?_; rintro x w5 ⟨v, te, pe, rfl, hb5⟩; have l0 := (hb5.cell (p := ⟨b, 0, none⟩) hb3).trans k0; have l1 := (hb5.cell (p := ⟨b, 1, none⟩) hb3).trans k1))
          rename _ ∧ _ => hh
          clear hh
          have HG5 : Hid (w.grownBy w5 (some b)) := Lib.grownBy_below HG2.out ⟨hb5.os, hb5.tape, hb5.output, hb5.size, hb5.block⟩
          have HK5 : Hid (Blk w5 b 69 (rdC s j mk a nm D n c st)) := HK2.out.below (B := w3.heap.size) ⟨hb5.os, hb5.tape, hb5.output, hb5.size, hb5.block⟩ hb3
          clear hb5 k0 k1
          go_wp2_with fail
          go_quiet (fail)
          generalize hw6 : w5.drewN nq = w6 at *
          have m1 : w6.cell? ⟨b, 1, none⟩ = some (.int .i64 (j : Int)) := by rw [← hw6]; exact l1
          have HG6 : Hid (w.grownBy w6 (some b)) := by rw [← hw6]; exact only_drewN HG5.out _
          have hz6 : w.heap.size ≤ w6.heap.size := HG6.out.size
          clear hw6 l0 l1
          go_wp2_with fail
          refine (HBD.out _).mono ?_
          rintro e w7 ⟨x, rfl, hx, hb7⟩
          have HX : Hid (FltE w7 w.heap.size x j) := by
            obtain ⟨F, q1, q2, q3⟩ := hx
            exact ⟨F, q1, by omega, q3⟩
          have HG7 : Hid (w.grownBy w7 (some b)) := Lib.grownBy_below HG6.out hb7
          clear hx hb7
          go_wp2_with fail
          go_ret2
          exact ⟨_, _, rfl, HG7.out, .inr ⟨j, HR.out, HX.out⟩⟩
        · have h0 : (s.extract j (j + N)).data.toList ≠ [] := fun h => hbad (.inl h)
          have hd63 : dval (s.extract j (j + N)).data.toList < 9223372036854775808 := by
            rcases Nat.lt_or_ge (dval (s.extract j (j + N)).data.toList) 9223372036854775808 with h | h
            · exact h
            · exact absurd (.inr h) hbad
          have HA := Lib.hid (c_Atoi_ok (s.extract j (j + N)) hsz HDD.out h0 hd63 w3.drew)
          have hN0 : N ≠ 0 := fun h => by
            have := HDL.out
            exact h0 (List.eq_nil_of_length_eq_zero (by omega))
          have hjs : j < s.size := by omega
          have hsj := ba_get s j hjs
          have b48 := u8_beq s[j] 48 48 rfl
          rw [hsj] at HBAD HOKK
          generalize dval (s.extract j (j + N)).data.toList = dv at *
          have HB2 : Hid (s[j] = 48 ∨ dv % 8 ≠ 0 ∨ 8 * most < dv → bitS s i most = .inl j) := fun h => HBAD.out (.inr (h.imp (fun h => by rw [h]) id))
          have HO2 : Hid (¬ (s[j] = 48 ∨ dv % 8 ≠ 0 ∨ 8 * most < dv) → bitS s i most = .inr (j + N, dv / 8)) := fun h => HOKK.out (fun h2 => by
            rcases h2 with h2 | h2 | h2
            · exact hN0 h2
            · exact h (.inl (Option.some.inj h2))
            · exact h (.inr h2))
          clear hbad HBAD HOKK HDD HDL h0 hsj
          go_wp2_with fail
          go_region_held3 (fun V => V.cell? ⟨b, 0, none⟩ = some (.string s) ∧ V.cell? ⟨b, 1, none⟩ = some (.int .i64 (j : Int))) (first | go_keep | (refine ⟨?_, ?_⟩ <;> assumption)) ((go_at_call 81; refine (HA.out).mono ?_; rintro x w5 ⟨rfl, hb5⟩; have l0 := (hb5.cell (p := ⟨b, 0, none⟩) hb3).trans k0; have l1 := (hb5.cell (p := ⟨b, 1, none⟩) hb3).trans k1))
          rename _ ∧ _ => hh
          clear hh
          have HG5 : Hid (w.grownBy w5 (some b)) := Lib.grownBy_below HG2.out ⟨hb5.os, hb5.tape, hb5.output, hb5.size, hb5.block⟩
          have HK5 : Hid (Blk w5 b 69 (rdC s j mk a nm D n c st)) := HK2.out.below (B := w3.heap.size) ⟨hb5.os, hb5.tape, hb5.output, hb5.size, hb5.block⟩ hb3
          clear hb5 k0 k1
          by_cases q1 : s[j] = 48
          · rw [decide_eq_true q1] at b48
            have HR := Lib.hid (HB2.out (.inl q1))
            clear q1 HB2 HO2
            go_wp2_with fail
            go_quiet (fail)
            generalize hw6 : w5.drewN nq = w6 at *
            have m1 : w6.cell? ⟨b, 1, none⟩ = some (.int .i64 (j : Int)) := by rw [← hw6]; exact l1
            have HG6 : Hid (w.grownBy w6 (some b)) := by rw [← hw6]; exact only_drewN HG5.out _
            have hz6 : w.heap.size ≤ w6.heap.size := HG6.out.size
            clear hw6 l0 l1
            go_wp2_with fail
            refine (HBD.out _).mono ?_
            rintro e w7 ⟨x, rfl, hx, hb7⟩
            have HX : Hid (FltE w7 w.heap.size x j) := by
              obtain ⟨F, q1, q2, q3⟩ := hx
              exact ⟨F, q1, by omega, q3⟩
            have HG7 : Hid (w.grownBy w7 (some b)) := Lib.grownBy_below HG6.out hb7
            clear hx hb7
            go_wp2_with fail
            go_ret2
            exact ⟨_, _, rfl, HG7.out, .inr ⟨j, HR.out, HX.out⟩⟩
          · rw [decide_eq_false q1] at b48
            by_cases q2 : dv % 8 = 0
            · have e8 : ((dv : Int) % 8 != 0) = false := by simp; omega
              by_cases q3 : 8 * most < dv
              · have e9 : decide ((dv : Int) ≤ 8 * (most : Int)) = false := by rw [decide_eq_false_iff_not]; omega
                have e10 : 8 * (most : Int) < (dv : Int) := by omega
                have HR := Lib.hid (HB2.out (.inr (.inr q3)))
                clear q1 HB2 HO2 q2
                go_wp2_with fail
                go_quiet (fail)
                generalize hw6 : w5.drewN nq = w6 at *
                have m1 : w6.cell? ⟨b, 1, none⟩ = some (.int .i64 (j : Int)) := by rw [← hw6]; exact l1
                have HG6 : Hid (w.grownBy w6 (some b)) := by rw [← hw6]; exact only_drewN HG5.out _
                have hz6 : w.heap.size ≤ w6.heap.size := HG6.out.size
                clear hw6 l0 l1
                go_wp2_with fail
                refine (HBD.out _).mono ?_
                rintro e w7 ⟨x, rfl, hx, hb7⟩
                have HX : Hid (FltE w7 w.heap.size x j) := by
                  obtain ⟨F, q1, q2, q3⟩ := hx
                  exact ⟨F, q1, by omega, q3⟩
                have HG7 : Hid (w.grownBy w7 (some b)) := Lib.grownBy_below HG6.out hb7
                clear hx hb7
                go_wp2_with fail
                go_ret2
                exact ⟨_, _, rfl, HG7.out, .inr ⟨j, HR.out, HX.out⟩⟩
              · have e9 : ¬ 8 * (most : Int) < (dv : Int) := by omega
                have HR := Lib.hid (HO2.out (fun h => by
                  rcases h with h | h | h
                  · exact q1 h
                  · exact h q2
                  · exact q3 h))
                clear q1 HB2 HO2 q2 q3
                go_wp2_with fail
                go_quiet (fail)
                generalize hw6 : w5.drewN nq = w6 at *
                have m1 : w6.cell? ⟨b, 1, none⟩ = some (.int .i64 (j : Int)) := by rw [← hw6]; exact l1
                have n1 : w6.frozen? ⟨b, 1, none⟩ = false := by rw [← hw6]; exact HK5.out.frozen 1
                have HG6 : Hid (w.grownBy w6 (some b)) := by rw [← hw6]; exact only_drewN HG5.out _
                have HK6 : Hid (Blk w6 b 69 (rdC s j mk a nm D n c st)) := by rw [← hw6]; exact HK5.out.drewN nq
                clear hw6 l0 l1
                go_wp2_with fail
                go_ret2
                exact ⟨_, _, rfl, only_setCell HG6.out (.inl rfl) _, .inl ⟨j + N, dv / 8, HR.out, by omega, rfl, HK6.out.set_ 1 _⟩⟩
            · have e8 : ((dv : Int) % 8 != 0) = true := by simp; omega
              have HR := Lib.hid (HB2.out (.inr (.inl q2)))
              clear q1 HB2 HO2 q2
              go_wp2_with fail
              go_quiet (fail)
              generalize hw6 : w5.drewN nq = w6 at *
              have m1 : w6.cell? ⟨b, 1, none⟩ = some (.int .i64 (j : Int)) := by rw [← hw6]; exact l1
              have HG6 : Hid (w.grownBy w6 (some b)) := by rw [← hw6]; exact only_drewN HG5.out _
              have hz6 : w.heap.size ≤ w6.heap.size := HG6.out.size
              clear hw6 l0 l1
              go_wp2_with fail
              refine (HBD.out _).mono ?_
              rintro e w7 ⟨x, rfl, hx, hb7⟩
              have HX : Hid (FltE w7 w.heap.size x j) := by
                obtain ⟨F, q1, q2, q3⟩ := hx
                exact ⟨F, q1, by omega, q3⟩
              have HG7 : Hid (w.grownBy w7 (some b)) := Lib.grownBy_below HG6.out hb7
              clear hx hb7
              go_wp2_with fail
              go_ret2
              exact ⟨_, _, rfl, HG7.out, .inr ⟨j, HR.out, HX.out⟩⟩
    · have b45 : ((s[i].toNat : Int) != 45) = true := by
        have := u8_beq s[i] 45 45 rfl
        rw [decide_eq_false h45] at this
        show (!_) = true
        rw [this]; rfl
      have t0 : ¬ (s.size : Int) ≤ (i : Int) := by omega
      have HN : Hid (bitS s i most = .inr (i, most)) := bitS_no (by rw [h0]; intro h; exact h45 (Option.some.inj h))
      clear h45 h0
      go_enter Tryz.func64, Tryz.ntmps64
      go_wp2_with fail
      go_quiet (fail)
      go_wp2_with fail
      go_ret2
      exact ⟨_, _, rfl, only_drewN (World.grownBy.refl w _) nq, .inl ⟨i, most, HN.out, rfl, rfl, HK.out.drewN nq⟩⟩
  · have t0 : (s.size : Int) ≤ (i : Int) := by omega
    have HN : Hid (bitS s i most = .inr (i, most)) := bitS_no (by rw [ba_none s i (by omega)]; intro h; cases h)
    go_enter Tryz.func64, Tryz.ntmps64
    go_wp2_with fail
    go_quiet (fail)
    go_wp2_with fail
    go_ret2
    exact ⟨_, _, rfl, only_drewN (World.grownBy.refl w _) nq, .inl ⟨i, most, HN.out, rfl, rfl, HK.out.drewN nq⟩⟩
end Go.Proofs.YtmnkdkibhchglaaGreatDoor
