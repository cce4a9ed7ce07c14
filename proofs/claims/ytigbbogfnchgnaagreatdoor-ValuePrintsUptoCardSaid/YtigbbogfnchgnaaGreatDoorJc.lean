/- Walks of the document's arithmetic for a float's text: what its first digit is worth, the rung of digits, a number in base ten, noughts (quernref22's worth, reads, digits, noughts). Conditions: as stated. -/
import Derived.Test.YtigbbogfnchgnaaGreatDoorJb
import Derived.Laws.IdiomStrings
namespace Go.Proofs.YtigbbogfnchgnaaGreatDoor
open Go.RowKit
set_option linter.unusedVariables false
attribute [local go_sem ↓] Go.wp_at_zero Go.wp_at_succ

/-- A step and the gap that is left. -/
def Stp (s t : Nat) : Prop := ∃ j, j ≤ 10 ∧ s = 2 ^ j / 2 ∧ t = 2 ^ j
theorem Stp.start : Stp 512 1024 := ⟨10, by decide, by decide, by decide⟩
theorem Stp.next {s t : Nat} (h : Stp s t) (h0 : 0 < s) : t = 2 * s ∧ Stp (s / 2) s ∧ s ≤ 512 := by
  obtain ⟨j, hj, rfl, rfl⟩ := h
  cases j with
  | zero => simp at h0
  | succ j =>
    have e : 2 ^ (j + 1) / 2 = 2 ^ j := by rw [Nat.pow_succ]; omega
    rw [e]
    have h9 : 2 ^ j ≤ 2 ^ 9 := Nat.pow_le_pow_right (by decide) (by omega)
    exact ⟨by rw [Nat.pow_succ]; omega, ⟨j, by omega, rfl, rfl⟩, by simpa using h9⟩
theorem Stp.last {t : Nat} (h : Stp 0 t) : t = 1 := by
  obtain ⟨j, hj, h0, rfl⟩ := h
  cases j with
  | zero => rfl
  | succ j =>
    have := Nat.pow_pos (n := j) (show 0 < 2 by decide)
    rw [Nat.pow_succ] at h0
    omega
/-- What holds ahead of a round of the search for what the first digit is worth. -/
structure WorS (N D : Nat) (x : Int) (s t : Nat) : Prop where
  lo : geT N D x
  hi : ¬ geT N D (x + t)
  st : Stp s t
theorem WorS.up {N D : Nat} {x : Int} {s t : Nat} (h : WorS N D x s t) (h0 : 0 < s) (hg : D * tenN (x + s).toNat ≤ N * tenN (-(x + s)).toNat) : WorS N D (x + s) (s / 2) s := by
  obtain ⟨e, h1, _⟩ := h.st.next h0
  refine ⟨hg, ?_, h1⟩
  have := h.hi
  rw [show x + (t : Int) = x + s + s from by omega] at this
  exact this
theorem WorS.stay {N D : Nat} {x : Int} {s t : Nat} (h : WorS N D x s t) (h0 : 0 < s) (hg : N * tenN (-(x + s)).toNat < D * tenN (x + s).toNat) : WorS N D x (s / 2) s := by
  obtain ⟨e, h1, _⟩ := h.st.next h0
  exact ⟨h.lo, fun hx => by unfold geT at hx; omega, h1⟩
theorem WorS.done {N D : Nat} {x : Int} {t : Nat} (h : WorS N D x 0 t) : IsX N D x := by
  have ht := h.st.last
  subst ht
  exact ⟨h.lo, h.hi⟩
/-- The answer of worth. -/
def WorR (N D : Nat) (w : World) (e : Ending) (w' : World) : Prop := ∃ x : Int, e = .returned (.int .i64 x) ∧ IsX N D x ∧ -330 ≤ x ∧ x ≤ 693 ∧ Below w.heap.size w w'
set_option maxRecDepth 100000 in
set_option maxHeartbeats 1000000 in
theorem c_rworth (A A' : Option Addr) (c c' : Nat) (l m : List Nat) (N D : Nat) (w : World) (h : IsN w w.heap.size .u32 4294967296 A c l N) (h' : IsN w w.heap.size .u32 4294967296 A' c' m D) (hN : N < ntxt) (hD : D < ntxt) (h1 : geT N D (-330)) (h2 : ¬ geT N D 694) :
    Calls Tryz.prog 57 #[.slice A l.length c, .slice A' m.length c'] w (WorR N D w) := by
  have HI := Lib.hid h
  have HI' := Lib.hid h'
  have HN := Lib.hid hN
  have HD := Lib.hid hD
  have HW : Hid (WorS N D (-330) 512 1024) := ⟨h1, h2, .start⟩
  clear h h' hN hD h1 h2
  obtain ⟨n, hL⟩ : ∃ n, l.length = n := ⟨_, rfl⟩
  obtain ⟨n', hL'⟩ : ∃ n', m.length = n' := ⟨_, rfl⟩
  rw [hL, hL']
  have HL := Lib.hid hL
  have HL' := Lib.hid hL'
  clear hL hL'
  go_enter Tryz.func57, Tryz.ntmps57
  go_wp2_with fail
  go_loopw [5, 6] (fun vx vs wr => ∃ (x : Int) (s t : Nat), vx = .int .i64 x ∧ vs = .int .i64 (s : Int) ∧ -330 ≤ x ∧ x + t ≤ 694 ∧ Hid (WorS N D x s t) ∧ Hid (Below w.heap.size w wr)) (fun _ vs _ => (intOf vs).toNat)
  case atStart => exact ⟨-330, 512, 1024, rfl, rfl, by decide, by decide, HW, Below.refl _ _⟩
  case round =>
    clear HW
    obtain ⟨x, s, t, rfl, rfl, hx1, hx2, HS, HB⟩ := hrel
    by_cases h0 : 0 < s
    · obtain ⟨ht, hst, hs5⟩ := HS.out.st.next h0
      have hsI : (0 : Int) < (s : Int) := by omega
      have hq : (s : Int) / 2 = ((s / 2 : Nat) : Int) := by omega
      have hhs : s / 2 < s := by omega
      have hx3 : x + s + s ≤ 694 := by omega
      have HUP : Hid (D * tenN (x + s).toNat ≤ N * tenN (-(x + s)).toNat → WorS N D (x + s) (s / 2) s) := HS.out.up h0
      have HST : Hid (N * tenN (-(x + s)).toNat < D * tenN (x + s).toNat → WorS N D x (s / 2) s) := HS.out.stay h0
      obtain ⟨s2, hs2⟩ : ∃ s2, s / 2 = s2 := ⟨_, rfl⟩
      rw [hs2] at hq hhs HUP HST
      clear hs2 ht hst HS
      have hsc := c_rscaled (-(x + s)) A A' c c' l m N D wr (HI.out.below HB.out) (HI'.out.below HB.out) (by omega) (by omega) HN.out HD.out
      rw [show -(-(x + (s : Int))) = x + s from by omega, HL.out, HL'.out] at hsc
      have HSC := Lib.hid hsc
      have HB1 : Hid (N * tenN (-(x + s)).toNat < nsml ∧ D * tenN (x + s).toNat < nsml) := ⟨ntxt_ten HN.out (by omega), ntxt_ten HD.out (by omega)⟩
      clear hsc
      generalize N * tenN (-(x + s)).toNat = X at *
      generalize D * tenN (x + s).toNat = Y at *
      obtain ⟨R, hR⟩ : ∃ R, ncmp X Y = R := ⟨_, rfl⟩
      have HRR := Lib.hid hR
      have HZ : Hid (0 ≤ R → Y ≤ X) := fun hr => by
        rcases Nat.lt_or_ge X Y with hl | hl
        · rw [ncmp_lt hl] at hR; omega
        · exact hl
      have HZ2 : Hid (R < 0 → X < Y) := fun hr => (ncmp_neg X Y).1 (by omega)
      clear hR
      by_cases hr : 0 ≤ R
      · have HW2 := Lib.hid (HUP.out (HZ.out hr))
        clear HUP HST HZ HZ2
        go_wp2_with fail
        refine (HSC.out).mono ?_; rintro e1 w1 ⟨A1, c1, l1, A2, c2, l2, rfl, h1, h2, hb1⟩
        have hcc := c_rcmp A1 A2 c1 c2 l1 l2 _ _ w1 _ h1 h2 (by have := len_big h1.lb (by decide) (nsml_big HB1.out.1); omega) (by have := len_big h2.lb (by decide) (nsml_big HB1.out.2); omega)
        rw [HRR.out] at hcc
        have HCC := Lib.hid hcc
        have HB2 := Lib.hid (below_step HB.out hb1)
        clear hcc h1 h2 hb1 HSC
        go_wp2_with fail
        refine (HCC.out).mono ?_; rintro e2 w2 ⟨rfl, hb2⟩
        have HB3 := Lib.hid (below_step HB2.out hb2)
        clear hb2 HCC HB HB2
        go_wp2_with fail
        go_roundw
        case rel => exact ⟨x + s, s2, s, rfl, by go_num, by omega, by omega, HW2, HB3⟩
        case measure => simp [intOf]; omega
      · have HW2 := Lib.hid (HST.out (HZ2.out (by omega)))
        clear HUP HST HZ HZ2
        go_wp2_with fail
        refine (HSC.out).mono ?_; rintro e1 w1 ⟨A1, c1, l1, A2, c2, l2, rfl, h1, h2, hb1⟩
        have hcc := c_rcmp A1 A2 c1 c2 l1 l2 _ _ w1 _ h1 h2 (by have := len_big h1.lb (by decide) (nsml_big HB1.out.1); omega) (by have := len_big h2.lb (by decide) (nsml_big HB1.out.2); omega)
        rw [HRR.out] at hcc
        have HCC := Lib.hid hcc
        have HB2 := Lib.hid (below_step HB.out hb1)
        clear hcc h1 h2 hb1 HSC
        go_wp2_with fail
        refine (HCC.out).mono ?_; rintro e2 w2 ⟨rfl, hb2⟩
        have HB3 := Lib.hid (below_step HB2.out hb2)
        clear hb2 HCC HB HB2
        go_wp2_with fail
        go_roundw
        case rel => exact ⟨x, s2, s, rfl, by go_num, by omega, by omega, HW2, HB3⟩
        case measure => simp [intOf]; omega
    · obtain rfl : s = 0 := by omega
      have HX := Lib.hid HS.out.done
      have ht : t = 1 := HS.out.st.last
      have hx3 : x ≤ 693 := by omega
      clear ht HS hx2
      go_wp2_with fail
      go_ret
      exact ⟨x, rfl, HX.out, hx1, hx3, HB.out⟩
theorem c_rreads (d : Nat) (e : Int) (hd : d < 18446744073709551616) (he1 : -1500 ≤ e) (he2 : e ≤ 1500) (w : World) :
    Calls Tryz.prog 60 #[.int .u64 (d : Int), .int .i64 e] w fun x w' => x = .returned (.int .u64 ((rdN d e : Nat) : Int)) ∧ Below w.heap.size w w' := by
  have HC1 : Hid (∀ W, Calls Tryz.prog 63 #[.int .u64 1] W (NewN .u32 4294967296 1 W)) := fun W => c_from 1 (by decide) W
  have HS1 : Hid (1 < ntxt) := word_txt (by decide)
  have HSD := Lib.hid (word_txt hd)
  have HE1 : Hid (d * tenN e.toNat < nsml) := ntxt_ten (word_txt hd) (by omega)
  have HE2 : Hid (1 * tenN (-e).toNat < nsml) := ntxt_ten (word_txt (by decide)) (by omega)
  have HP : Hid (0 < 1 * tenN (-e).toNat) := by show _ < _; rw [Nat.one_mul]; exact tenN_pos _
  have HR : Hid (∀ r, Near (d * tenN e.toNat * 2 ^ K74) (1 * tenN (-e).toNat) r → rdN d e = r) := fun r hr => by
    unfold rdN
    rw [Nat.one_mul] at hr
    exact nearB_eq (tenN_pos _) hr
  have HSC : Hid (∀ (A A' : Option Addr) (c c' : Nat) (l m : List Nat) (W : World), IsN W W.heap.size .u32 4294967296 A c l d → IsN W W.heap.size .u32 4294967296 A' c' m 1 → Calls Tryz.prog 58 #[.slice A l.length c, .slice A' m.length c', .int .i64 e] W (QuoR (d * tenN e.toNat) (1 * tenN (-e).toNat) W)) :=
    fun A A' c c' l m W h h' => c_rscaled e A A' c c' l m d 1 W h h' he1 he2 HSD.out HS1.out
  generalize d * tenN e.toNat = X at *
  generalize 1 * tenN (-e).toNat = Y at *
  obtain ⟨q, hq⟩ : ∃ q, rdN d e = q := ⟨_, rfl⟩
  rw [hq] at HR ⊢
  clear hq
  go_enter Tryz.func60, Tryz.ntmps60
  go_wp2_with fail
  refine (c_from d hd _).mono ?_; rintro e1 w1 ⟨A1, c1, l1, rfl, h1, hb1⟩
  have HB1 := Lib.hid hb1
  have H1 := Lib.hid h1
  clear h1 hb1
  go_wp2_with fail
  refine (HC1.out _).mono ?_; rintro e2 w2 ⟨A2, c2, l2, rfl, h2, hb2⟩
  have HB2 := Lib.hid (below_step HB1.out hb2)
  have H2 := Lib.hid h2
  have H3 := Lib.hid (H1.out.below hb2)
  clear h2 hb2 H1 HB1
  go_wp2_with fail
  refine (HSC.out _ _ _ _ _ _ _ H3.out H2.out).mono ?_; rintro e3 w3 ⟨A3, c3, l3, A4, c4, l4, rfl, h3, h4, hb3⟩
  have HB3 := Lib.hid (below_step HB2.out hb3)
  have H4 := Lib.hid h3
  have H5 := Lib.hid h4
  clear h3 h4 hb3 H2 H3 HB2 HSC
  go_wp2_with fail
  refine (c_nearest _ _ _ _ _ _ _ _ _ H4.out H5.out HE1.out HE2.out HP.out).mono ?_; rintro e4 w4 ⟨r, rfl, hr, hb4⟩
  have HQ := Lib.hid (HR.out r hr)
  have HB4 := Lib.hid (below_step HB3.out hb4)
  clear hr hb4
  go_wp2_with fail
  go_ret
  exact ⟨by rw [HQ.out]; rfl, HB4.out⟩
theorem cutd (k : Nat) (h : k < 10) : ((⟨#[48, 49, 50, 51, 52, 53, 54, 55, 56, 57]⟩ : ByteArray).extract k (k + 1)) = ⟨[UInt8.ofNat (48 + k)].toArray⟩ := by
  have : k = 0 ∨ k = 1 ∨ k = 2 ∨ k = 3 ∨ k = 4 ∨ k = 5 ∨ k = 6 ∨ k = 7 ∨ k = 8 ∨ k = 9 := by omega
  rcases this with rfl | rfl | rfl | rfl | rfl | rfl | rfl | rfl | rfl | rfl <;> rfl
/-- Bytes as a text. -/
abbrev btx (l : List UInt8) : Value := .string ⟨l.toArray⟩
theorem btx_add (a b : List UInt8) : Value.string ((⟨a.toArray⟩ : ByteArray) ++ ⟨b.toArray⟩) = btx (a ++ b) := by rw [ByteArray.mk_append_mk]
theorem ddg_big {u : Nat} (h : 10 ≤ u) : Lib.decDigits u = Lib.decDigits (u / 10) ++ [UInt8.ofNat (48 + u % 10)] := by rw [Lib.decDigits, dif_neg (by omega)]
theorem ddg_small {u : Nat} (h : u < 10) : Lib.decDigits u = [UInt8.ofNat (48 + u)] := by rw [Lib.decDigits, dif_pos h]
set_option maxRecDepth 100000 in
theorem c_xdigits : ∀ (v : Nat), v < 18446744073709551616 → ∀ (w : World), Calls Tryz.prog 47 #[.int .u64 (v : Int)] w fun e w' => e = .returned (btx (Lib.decDigits v)) ∧ ∃ k, w' = w.drewN k := by
  intro v
  induction v using Nat.strongRecOn with
  | _ v ih =>
  intro hv w
  by_cases h10 : v < 10
  · have HD : Hid (Lib.decDigits v = [UInt8.ofNat (48 + v)]) := ddg_small h10
    have hcut := cutd v h10
    generalize UInt8.ofNat (48 + v) = ch at *
    have g1 : (v : Int) < 10 := by omega
    go_enter Tryz.func47, Tryz.ntmps47
    go_wp2_with fail
    go_ret
    exact ⟨by rw [HD.out]; rfl, 0, rfl⟩
  · have HD : Hid (Lib.decDigits v = Lib.decDigits (v / 10) ++ [UInt8.ofNat (48 + v % 10)]) := ddg_big (by omega)
    have hcut := cutd (v % 10) (by omega)
    have HI : Hid (∀ W, Calls Tryz.prog 47 #[.int .u64 ((v : Int) / 10)] W fun e w' => e = .returned (btx (Lib.decDigits (v / 10))) ∧ ∃ k, w' = W.drewN k) := fun W => by
      have := ih (v / 10) (by omega) (by omega) W
      rwa [show ((v / 10 : Nat) : Int) = (v : Int) / 10 by omega] at this
    have hl : (Lib.decDigits (v / 10)).length ≤ 20 := lenD_20 (by omega)
    clear ih
    generalize UInt8.ofNat (48 + v % 10) = ch at *
    have g1 : ¬ (v : Int) < 10 := by omega
    have hm : (Int.tmod (v : Int) 10) = ((v % 10 : Nat) : Int) := by rw [Int.tmod_eq_emod_of_nonneg (by omega)]; omega
    have hq : (Int.tdiv (v : Int) 10) = (v : Int) / 10 := by rw [Int.tdiv_eq_ediv_of_nonneg (by omega)]
    go_enter Tryz.func47, Tryz.ntmps47
    go_wp2_with fail
    have ht : (⟨#[48, 49, 50, 51, 52, 53, 54, 55, 56, 57]⟩ : ByteArray).size = 10 := rfl
    generalize (⟨#[48, 49, 50, 51, 52, 53, 54, 55, 56, 57]⟩ : ByteArray) = T at *
    go_quiet ((go_at_call 47; exact Calls.quiet_of (HI.out _)))
    go_wp2_with fail
    go_ret
    exact ⟨by rw [HD.out, ← btx_add]; rfl, _, rfl⟩
set_option maxRecDepth 100000 in
theorem c_noughts (n : Nat) (hn : n ≤ 1000000) (w : World) : Calls Tryz.prog 48 #[.int .i64 (n : Int)] w fun e w' => e = .returned (btx (List.replicate n 48)) ∧ w = w' := by
  go_enter Tryz.func48, Tryz.ntmps48
  go_wp2_with fail
  go_loop [3, 4] (fun vs vi => ∃ i : Nat, vi = .int .i64 i ∧ i ≤ n ∧ vs = btx (List.replicate i 48)) (fun _ vi => n - (intOf vi).toNat)
  case atStart => exact ⟨0, rfl, Nat.zero_le _, rfl⟩
  case round =>
    obtain ⟨i, rfl, hi, rfl⟩ := hrel
    by_cases hlt : i < n
    · have HA : Hid (Value.string ((⟨(List.replicate i 48).toArray⟩ : ByteArray) ++ ⟨#[48]⟩) = btx (List.replicate (i + 1) 48)) := by
        show _ = _
        rw [List.replicate_succ', ← btx_add]
      have hl : (List.replicate i (48 : UInt8)).length = i := by simp
      generalize List.replicate i (48 : UInt8) = L at *
      have HL := Lib.hid hl
      have hl2 : L.length ≤ 1000000 := by omega
      clear hl
      go_wp2_with fail
      go_round
      case rel => exact ⟨i + 1, by go_num, hlt, HA.out⟩
      case measure => simp [intOf]; omega
    · go_wp2_with fail
      go_ret
      exact ⟨by rw [show n = i from by omega]; rfl, rfl⟩
end Go.Proofs.YtigbbogfnchgnaaGreatDoor
