/- The law of parts of a sorted list of floats: both answers agree, and the given list stays as it was. Conditions: the list has at most 2^20 floats. -/
import Derived.Test.YtpgdiiplnnaegaaFt
namespace Go.Proofs.Ytpgdiiplnnaegaa
open Go.RowKit
set_option linter.unusedVariables false
attribute [local go_sem ↓] Go.wp_at_zero Go.wp_at_succ
attribute [local go_sem] run_store_float

theorem parts_same {n : Nat} {xs : List Nat} {num den : Int} {x y : Nat} {e f : Int} (hn : n ≤ 1048576) (hx : Bit xs) (hl : xs.length = n) (h : PartOf n xs num den x e) (k : PartOf n xs num den y f) : e = f ∧ x = fone y := by
  rcases h with ⟨hb, rfl, rfl⟩ | ⟨hb, rfl, zs, h1, h2, rfl⟩
  · rcases k with ⟨_, rfl, rfl⟩ | ⟨hb', _⟩
    · exact ⟨rfl, by decide +kernel⟩
    · exact absurd hb hb'
  · rcases k with ⟨hb', _⟩ | ⟨_, rfl, us, k1, k2, rfl⟩
    · exact absurd hb' hb
    · refine ⟨rfl, ?_⟩
      have hi := (pidx_facts hn hb).2.2
      generalize pidx n num den = i at *
      have hzl : zs.length = n := by have := h1.length_eq; rw [List.length_map] at this; omega
      have hul : us.length = n := by have := k1.length_eq; rw [List.length_map] at this; omega
      have hm := up_unique (K := fkey) (h1.trans k1.symm) (by rw [hzl]; exact h2) (by rw [hul]; exact k2)
      have e : (zs.map fkey).getD i 0 = (us.map fkey).getD i 0 := by rw [hm]
      have e1 : (zs.map fkey).getD i 0 = fkey (zs.getD i 0) := by simp [List.getD, List.getElem?_eq_getElem (show i < zs.length by omega)]
      have e2 : (us.map fkey).getD i 0 = fkey (us.getD i 0) := by simp [List.getD, List.getElem?_eq_getElem (show i < us.length by omega)]
      rw [e1, e2] at e
      have hz : zs.getD i 0 ∈ xs.map fone := h1.mem_iff.1 (by
        rw [List.getD, List.getElem?_eq_getElem (show i < zs.length by omega)]
        exact List.getElem_mem _)
      obtain ⟨q, _, hq⟩ := List.mem_map.1 hz
      have := fkey_inj (((bit_fone hx).perm h1).get _) (((bit_fone hx).perm k1).get _) e
      rw [← this, ← hq, fone_fone]
theorem wf_i64 {k : Int} (h : (Lit.int .i64 k).wf = true) : -9223372036854775808 ≤ k ∧ k ≤ 9223372036854775807 := by
  have := of_decide_eq_true (show decide (-9223372036854775808 ≤ k ∧ k ≤ 9223372036854775807) = true from by simpa [Lit.wf, IntKind.min, IntKind.max, IntKind.signed, IntKind.bits] using h)
  exact this
set_option maxRecDepth 100000 in
set_option maxHeartbeats 4000000 in
theorem l_FloatParts (W : World) (A : Option Addr) (n c : Nat) (xs : List Nat) (h : RdFloats W A n c xs) (num : Int) (w1 : (Lit.int .i64 num).wf = true) (den : Int) (w2 : (Lit.int .i64 den).wf = true) (hn : n ≤ 1048576) :
    Calls Try.prog 6 #[.slice A n c, .int .i64 num, .int .i64 den] W fun e W' => e = .returned (.bool true) ∧ Below W.heap.size W W' := by
  obtain ⟨hnc, hcb, hbx, hrd⟩ := h
  have hxl : xs.length = n := by simpa using hrd.1
  have v1 := wf_i64 w1
  have v2 := wf_i64 w2
  clear hcb hnc w1 w2
  go_enter Try.func6, Try.ntmps6
  go_wp2_with fail
  refine (c_copied A n c xs _ hrd (by omega)).mono ?_
  rintro e w1 ⟨v, rfl, hown, hb⟩
  obtain ⟨g, cap, rfl, hgb, hgl⟩ := own_form hown (by omega)
  have hcap := own_cap hown
  have HF := Lib.hid (own_front (by rw [f64s, List.map_append] at hown; exact hown) (by simpa using hxl) : Reads w1 w1.heap.size 1 (some ⟨g, 0, none⟩) n (f64s xs))
  have HFF : Hid (Reads w1 w1.heap.size 1 (some ⟨g, 0, none⟩) (n + 9) (f64s (xs ++ halves))) := Reads.of_own hown
  have HL := Lib.hid (hrd.step hb)
  have HB := Lib.hid hb
  have HBX := Lib.hid hbx
  have HXL := Lib.hid hxl
  clear hown hb hrd hbx hxl
  go_wp2_with fail
  refine (c_fPart (some ⟨g, 0, none⟩) n cap xs num den _ HF.out HBX.out hn v1 v2).mono ?_
  rintro e w2 ⟨x, er, rfl, hb2, hp1⟩
  have HP1 := Lib.hid hp1
  clear hp1
  go_wp2_with fail
  refine (c_rPart A n c xs num den _ (HL.out.step hb2) HBX.out hn v1 v2).mono ?_
  rintro e w3 ⟨y, er2, rfl, hb3, hp2⟩
  obtain ⟨rfl, hxy⟩ := parts_same hn HBX.out HXL.out HP1.out hp2
  have HB3 := Lib.hid (below_step hb2 hb3)
  have HXY := Lib.hid hxy
  clear hp2 hb2 hb3 HP1 hxy
  have HK := Lib.hid (fun w h1 h2 => c_kept A (some ⟨g, 0, none⟩) n c cap xs w h1 h2 (by omega))
  go_wp2_with (first
    | (go_at_call 17; refine (c_formS HXY.out _).mono ?_; rintro e w' ⟨rfl, rfl⟩)
    | (go_at_call 25; refine (HK.out _ (HL.out.step HB3.out) (HFF.out.step HB3.out)).mono ?_; rintro e w6 ⟨rfl, hb6⟩; have HB6 := Lib.hid (below_step HB.out (below_step HB3.out hb6)); clear hb6))
  go_ret
  exact ⟨rfl, HB6.out⟩
end Go.Proofs.Ytpgdiiplnnaegaa
