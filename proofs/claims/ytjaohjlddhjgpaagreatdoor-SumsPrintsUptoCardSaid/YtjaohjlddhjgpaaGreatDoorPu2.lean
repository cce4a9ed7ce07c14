/- Walk: a list of entries printed, of the reference (quernref26.Print). Conditions: at most 1048576 entries. -/
import Derived.Test.YtjaohjlddhjgpaaGreatDoorPt
import Derived.Lib.AppendStr
namespace Go.Proofs.YtjaohjlddhjgpaaGreatDoor
open Go.RowKit
set_option linter.unusedVariables false
attribute [local go_sem ↓] Go.wp_at_zero Go.wp_at_succ

set_option maxRecDepth 100000 in
set_option maxHeartbeats 4000000 in
theorem c_rPrint (tg : Bool) (A : Option Addr) (es : List Ent) (k cap : Nat) (hk : es.length = k) (w : World) (h : RdL w A es) (hn : k ≤ 1048576) :
    Calls Tryz.prog 13 #[.slice A k cap, .bool tg] w fun x w' => PrnIs tg es x ∧ Below w.heap.size w w' := by
  obtain ⟨i0, hi0, hz0, hz1, hz2⟩ := info_parts u8_info
  have HE := Lib.hid h
  clear h
  go_enter Tryz.func13, Tryz.ntmps13
  go_wp2_with fail
  go_loopw [6, 7] (fun vb vi wr => ∃ (i : Nat) (B : Option Addr) (cb : Nat), vb = .slice B (lnsS tg (es.take i)).length cb ∧ vi = .int .i64 i ∧ i ≤ k ∧ Hid (∀ x ∈ es.take i, rightS x.e = true) ∧ Hid (OwnB w wr B cb (lnsS tg (es.take i)))) (fun _ vi _ => k - (intOf vi).toNat)
  case atStart => exact ⟨0, none, 0, by simp [lnsS], rfl, Nat.zero_le _, Lib.hid (by simp), Lib.hid (by simpa [lnsS] using ownB_nil w)⟩
  case round =>
    obtain ⟨i, B, cb, rfl, rfl, hi, HOK, HO⟩ := hrel
    by_cases hlt : i < k
    · obtain ⟨ad, hA, hadb, hcells⟩ := HE.out.row (by omega)
      subst hA
      obtain ⟨x, hx⟩ : ∃ x, es[i]? = some x := ⟨_, List.getElem?_eq_getElem (by omega)⟩
      have hxm := List.mem_of_getElem? hx
      have HCW : Hid (∀ W, Below w.heap.size w W → ∀ j u, (smC x.e x.D x.n x.c).toList[j]? = some u → W.cell? ((ad.add (i * 4)).add j) = some u) := fun W hb j u hu => (hb.cell (by rw [block_of_add, block_of_add]; exact hadb)).trans (hcells i _ hx j u hu)
      obtain ⟨hrx, hnx⟩ := HE.out.rds x hxm
      have htk : es.take (i + 1) = es.take i ++ [x] := by rw [List.take_add_one, hx]; rfl
      have HOF : Hid (rightS x.e = false → okS es = false) := fun h => by
        unfold okS
        rw [Bool.eq_false_iff]
        intro h2
        rw [List.all_eq_true.1 h2 x hxm] at h
        cases h
      have HLN : Hid (rightS x.e = true → (lnS tg x.e).length ≤ 9000) := ln_len tg
      have HTL : Hid ((lnsS tg (es.take i)).length ≤ 9001 * 1048576) := by
        have := lns_len tg _ HOK.out
        rw [List.length_take] at this
        show _ ≤ _
        have h2 : min i es.length ≤ 1048576 := by omega
        have := Nat.mul_le_mul_left 9001 h2
        omega
      have HNX : Hid (rightS x.e = true → (∀ y ∈ es.take (i + 1), rightS y.e = true) ∧ lnsS tg (es.take (i + 1)) = lnsS tg (es.take i) ++ lnS tg x.e ++ [10]) := fun hr => by
        rw [htk]
        refine ⟨fun y hy => ?_, by rw [lns_snoc, List.append_assoc]⟩
        rcases List.mem_append.1 hy with h | h
        · exact HOK.out y h
        · rw [List.mem_singleton.1 h]; exact hr
      clear hxm htk hx hcells
      obtain ⟨e, D, n, c⟩ := x
      simp only at HCW hrx hnx HOF HLN HNX
      have HPL : Hid (∀ W, Below w.heap.size w W → Calls Tryz.prog 9 #[smV e D n c] W fun x w' => LineIs (rightS e) (plainS e) x ∧ Below W.heap.size W w') := fun W hb => c_rPlain e D n c W (hrx.step hb) hnx
      have HTG : Hid (∀ W, Below w.heap.size w W → Calls Tryz.prog 11 #[smV e D n c] W fun x w' => LineIs (rightS e) (tagS e) x ∧ Below W.heap.size W w') := fun W hb => c_rTagged e D n c W (hrx.step hb) hnx
      have HLS : Hid (lnS tg e = if tg then tagS e else plainS e) := rfl
      unfold LineIs at HPL HTG
      clear hrx hnx
      generalize lnS tg e = ln at *
      generalize plainS e = pl at *
      generalize tagS e = tl at *
      generalize rightS e = rt at *
      generalize lnsS tg (es.take i) = l at *
      have HB := Lib.hid HO.out.2
      rcases tg with _ | _
      · rcases rt with _ | _
        · have HPL2 : Hid (∀ W, Below w.heap.size w W → Calls Tryz.prog 9 #[.agg #[.int .i64 e.a, .string e.nm, .slice D n c, .bool e.st]] W fun x w' => x = .returned (.tuple #[bstr [], .int .i64 1]) ∧ Below W.heap.size W w') := HPL
          have HTG2 : Hid (∀ W, Below w.heap.size w W → Calls Tryz.prog 11 #[.agg #[.int .i64 e.a, .string e.nm, .slice D n c, .bool e.st]] W fun x w' => x = .returned (.tuple #[bstr [], .int .i64 1]) ∧ Below W.heap.size W w') := HTG
          clear HPL HTG
          have HOF2 := Lib.hid (HOF.out rfl)
          clear HLN HNX HOF HTL
          obtain rfl : ln = pl := HLS.out
          clear HLS
          go_wp2_with (refine wpList_load_any rfl 25 (.tmp 19) rfl (ad.add (i * 4)) rfl (smC e D n c).toList _ (HCW.out _ HB.out) Tryz.underlying25 rfl (by kernel_rfl) ?_)
          refine (HPL2.out _ HB.out).mono ?_
          rintro x w5 ⟨rfl, hb5⟩
          have HB5 := Lib.hid (below_step HB.out hb5)
          have HO5 := Lib.hid (own_below HO.out.1 hb5)
          clear hb5 HO HB HPL2
          clear HTG2
          go_wp2_with fail
          go_ret2
          exact ⟨by unfold PrnIs; rw [HOF2.out]; rfl, HB5.out⟩
        · have HPL2 : Hid (∀ W, Below w.heap.size w W → Calls Tryz.prog 9 #[.agg #[.int .i64 e.a, .string e.nm, .slice D n c, .bool e.st]] W fun x w' => x = .returned (.tuple #[bstr pl, .int .i64 0]) ∧ Below W.heap.size W w') := HPL
          have HTG2 : Hid (∀ W, Below w.heap.size w W → Calls Tryz.prog 11 #[.agg #[.int .i64 e.a, .string e.nm, .slice D n c, .bool e.st]] W fun x w' => x = .returned (.tuple #[bstr tl, .int .i64 0]) ∧ Below W.heap.size W w') := HTG
          clear HPL HTG
          have hll := HLN.out rfl
          have HNX2 := Lib.hid (HNX.out rfl)
          have htl := HTL.out
          clear HLN HNX HOF HTL
          obtain rfl : ln = pl := HLS.out
          clear HLS
          go_wp2_with (refine wpList_load_any rfl 25 (.tmp 19) rfl (ad.add (i * 4)) rfl (smC e D n c).toList _ (HCW.out _ HB.out) Tryz.underlying25 rfl (by kernel_rfl) ?_)
          refine (HPL2.out _ HB.out).mono ?_
          rintro x w5 ⟨rfl, hb5⟩
          have HB5 := Lib.hid (below_step HB.out hb5)
          have HO5 := Lib.hid (own_below HO.out.1 hb5)
          clear hb5 HO HB HPL2
          clear HTG2
          go_wp2_with (first | (at_builtin; (refine Lib.wpList_append_own_string _ rfl (.tmp 36) (.tmp 37) 23 9 rfl w.heap.size 5 i0 Tryz.underlying23 Tryz.underlying9 hi0 hz0 hz1 hz2 (.slice B l.length cb) l.length (bys l) rfl HO5.out ⟨ln.toArray⟩ rfl (by show l.length + ln.length ≤ _; simp only [maxLen]; omega) (by show l.length + ln.length ≤ _; omega) HB5.out.size ?_); intro v7 w7 hown7 hg7 _; obtain ⟨A7, c7, rfl, ho7⟩ := ownB_app (m := ln) HB5.out HO5.out (by exact hown7) hg7; have HO7 := Lib.hid ho7; clear ho7 hown7 hg7; have hl7 : (l ++ ln).length ≤ 10000000000 := (by rw [List.length_append]; omega); generalize l ++ ln = l7 at *; have HOA : Hid ((w7.alloc (.cells #[.int .u8 10] 5)).ownsRow w.heap.size 5 1 (.slice A7 l7.length c7) l7.length (bys l7)) := HO7.out.1.alloc _; have HBA : Hid (Below w.heap.size w (w7.alloc (.cells #[.int .u8 10] 5))) := HO7.out.2.alloc HO7.out.2.size _; have HRA := Lib.hid (reads_lit1 w7 10); skip) | (refine wpList_buildSliceTo rfl 23 5 1 _ rfl w7.heap.size rfl (some 40) rfl Tryz.underlying23 #[.int .u8 10] (by exact built1 _) ?_) | (at_builtin; refine wpList_append_any _ rfl (.tmp 39) (.tmp 40) 23 rfl w.heap.size 5 i0 _ 1 1 Tryz.underlying23 hi0 hz0 hz1 hz2 rfl (by omega) (.slice A7 l7.length c7) l7.length (bys l7) rfl HOA.out _ (some ⟨w7.heap.size, 0, none⟩) 1 1 [.int .u8 10] rfl HRA.out (by simp [Value.oneCell']) (by simp only [maxLen]; omega) (by omega) HBA.out.size ?_; intro v8 w8 hown8 hg8 _; obtain ⟨A8, c8, rfl, ho8⟩ := ownB_app (m := [10]) HBA.out HOA.out hown8 hg8; have HO8 := Lib.hid ho8; clear ho8 hown8 hg8))
          go_wp2_with fail
          go_roundw
          case rel => exact ⟨i + 1, A8, c8, by rw [HNX2.out.2, List.length_append]; rfl, by go_num, by omega, Lib.hid HNX2.out.1, Lib.hid (by rw [HNX2.out.2]; exact HO8.out)⟩
          case measure => simp [intOf]; omega
      · rcases rt with _ | _
        · have HPL2 : Hid (∀ W, Below w.heap.size w W → Calls Tryz.prog 9 #[.agg #[.int .i64 e.a, .string e.nm, .slice D n c, .bool e.st]] W fun x w' => x = .returned (.tuple #[bstr [], .int .i64 1]) ∧ Below W.heap.size W w') := HPL
          have HTG2 : Hid (∀ W, Below w.heap.size w W → Calls Tryz.prog 11 #[.agg #[.int .i64 e.a, .string e.nm, .slice D n c, .bool e.st]] W fun x w' => x = .returned (.tuple #[bstr [], .int .i64 1]) ∧ Below W.heap.size W w') := HTG
          clear HPL HTG
          have HOF2 := Lib.hid (HOF.out rfl)
          clear HLN HNX HOF HTL
          obtain rfl : ln = tl := HLS.out
          clear HLS
          go_wp2_with (refine wpList_load_any rfl 25 (.tmp 19) rfl (ad.add (i * 4)) rfl (smC e D n c).toList _ (HCW.out _ HB.out) Tryz.underlying25 rfl (by kernel_rfl) ?_)
          refine (HPL2.out _ HB.out).mono ?_
          rintro x w5 ⟨rfl, hb5⟩
          have HB5 := Lib.hid (below_step HB.out hb5)
          have HO5 := Lib.hid (own_below HO.out.1 hb5)
          clear hb5 HO HB HPL2
          go_wp2_with (refine wpList_load_any rfl 25 (.tmp 28) rfl (ad.add (i * 4)) rfl (smC e D n c).toList _ (HCW.out _ HB5.out) Tryz.underlying25 rfl (by kernel_rfl) ?_)
          refine (HTG2.out _ HB5.out).mono ?_
          rintro x w6 ⟨rfl, hb6⟩
          have HB6 := Lib.hid (below_step HB5.out hb6)
          have HO6 := Lib.hid (own_below HO5.out hb6)
          clear hb6 HO5 HB5 HTG2
          go_wp2_with fail
          go_ret2
          exact ⟨by unfold PrnIs; rw [HOF2.out]; rfl, HB6.out⟩
        · have HPL2 : Hid (∀ W, Below w.heap.size w W → Calls Tryz.prog 9 #[.agg #[.int .i64 e.a, .string e.nm, .slice D n c, .bool e.st]] W fun x w' => x = .returned (.tuple #[bstr pl, .int .i64 0]) ∧ Below W.heap.size W w') := HPL
          have HTG2 : Hid (∀ W, Below w.heap.size w W → Calls Tryz.prog 11 #[.agg #[.int .i64 e.a, .string e.nm, .slice D n c, .bool e.st]] W fun x w' => x = .returned (.tuple #[bstr tl, .int .i64 0]) ∧ Below W.heap.size W w') := HTG
          clear HPL HTG
          have hll := HLN.out rfl
          have HNX2 := Lib.hid (HNX.out rfl)
          have htl := HTL.out
          clear HLN HNX HOF HTL
          obtain rfl : ln = tl := HLS.out
          clear HLS
          go_wp2_with (refine wpList_load_any rfl 25 (.tmp 19) rfl (ad.add (i * 4)) rfl (smC e D n c).toList _ (HCW.out _ HB.out) Tryz.underlying25 rfl (by kernel_rfl) ?_)
          refine (HPL2.out _ HB.out).mono ?_
          rintro x w5 ⟨rfl, hb5⟩
          have HB5 := Lib.hid (below_step HB.out hb5)
          have HO5 := Lib.hid (own_below HO.out.1 hb5)
          clear hb5 HO HB HPL2
          go_wp2_with (refine wpList_load_any rfl 25 (.tmp 28) rfl (ad.add (i * 4)) rfl (smC e D n c).toList _ (HCW.out _ HB5.out) Tryz.underlying25 rfl (by kernel_rfl) ?_)
          refine (HTG2.out _ HB5.out).mono ?_
          rintro x w6 ⟨rfl, hb6⟩
          have HB6 := Lib.hid (below_step HB5.out hb6)
          have HO6 := Lib.hid (own_below HO5.out hb6)
          clear hb6 HO5 HB5 HTG2
          go_wp2_with (first | (at_builtin; (refine Lib.wpList_append_own_string _ rfl (.tmp 36) (.tmp 37) 23 9 rfl w.heap.size 5 i0 Tryz.underlying23 Tryz.underlying9 hi0 hz0 hz1 hz2 (.slice B l.length cb) l.length (bys l) rfl HO6.out ⟨ln.toArray⟩ rfl (by show l.length + ln.length ≤ _; simp only [maxLen]; omega) (by show l.length + ln.length ≤ _; omega) HB6.out.size ?_); intro v7 w7 hown7 hg7 _; obtain ⟨A7, c7, rfl, ho7⟩ := ownB_app (m := ln) HB6.out HO6.out (by exact hown7) hg7; have HO7 := Lib.hid ho7; clear ho7 hown7 hg7; have hl7 : (l ++ ln).length ≤ 10000000000 := (by rw [List.length_append]; omega); generalize l ++ ln = l7 at *; have HOA : Hid ((w7.alloc (.cells #[.int .u8 10] 5)).ownsRow w.heap.size 5 1 (.slice A7 l7.length c7) l7.length (bys l7)) := HO7.out.1.alloc _; have HBA : Hid (Below w.heap.size w (w7.alloc (.cells #[.int .u8 10] 5))) := HO7.out.2.alloc HO7.out.2.size _; have HRA := Lib.hid (reads_lit1 w7 10); skip) | (refine wpList_buildSliceTo rfl 23 5 1 _ rfl w7.heap.size rfl (some 40) rfl Tryz.underlying23 #[.int .u8 10] (by exact built1 _) ?_) | (at_builtin; refine wpList_append_any _ rfl (.tmp 39) (.tmp 40) 23 rfl w.heap.size 5 i0 _ 1 1 Tryz.underlying23 hi0 hz0 hz1 hz2 rfl (by omega) (.slice A7 l7.length c7) l7.length (bys l7) rfl HOA.out _ (some ⟨w7.heap.size, 0, none⟩) 1 1 [.int .u8 10] rfl HRA.out (by simp [Value.oneCell']) (by simp only [maxLen]; omega) (by omega) HBA.out.size ?_; intro v8 w8 hown8 hg8 _; obtain ⟨A8, c8, rfl, ho8⟩ := ownB_app (m := [10]) HBA.out HOA.out hown8 hg8; have HO8 := Lib.hid ho8; clear ho8 hown8 hg8))
          go_wp2_with fail
          go_roundw
          case rel => exact ⟨i + 1, A8, c8, by rw [HNX2.out.2, List.length_append]; rfl, by go_num, by omega, Lib.hid HNX2.out.1, Lib.hid (by rw [HNX2.out.2]; exact HO8.out)⟩
          case measure => simp [intOf]; omega
    · obtain rfl : i = k := by omega
      have htk : es.take i = es := List.take_of_length_le (by omega)
      have HOK2 : Hid (okS es = true) := List.all_eq_true.2 (by have := HOK.out; rw [htk] at this; exact this)
      rw [htk] at HO ⊢
      clear htk HOK
      have HPI : Hid (PrnIs tg es (.returned (.tuple #[bstr (lnsS tg es), .int .i64 0]))) := by show PrnIs _ _ _; unfold PrnIs; rw [HOK2.out]; rfl
      generalize lnsS tg es = l at *
      have hcv := conv_bys HO.out.1
      go_wp2_with fail
      go_ret2
      exact ⟨HPI.out, HO.out.2⟩
end Go.Proofs.YtjaohjlddhjgpaaGreatDoor
