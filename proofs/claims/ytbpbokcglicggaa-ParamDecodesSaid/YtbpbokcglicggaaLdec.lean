/- Walk: the law ParamDecodes. Conditions: none. -/
import Derived.Test.YtbpbokcglicggaaDecA
import Derived.Test.YtbpbokcglicggaaLfld
import Derived.Test.YtbpbokcglicggaaPa
namespace Go.Proofs.Ytbpbokcglicggaa
open Go.RowKit
set_option linter.unusedVariables false

set_option maxRecDepth 100000 in
set_option maxHeartbeats 1000000 in
theorem l_ParamDecodes (W : World) (k : Int) (wk : (Lit.int .i64 k).wf = true) (A : Option Addr) (n c : Nat) (xs : List Int) (hr : RdInts W .u8 1 A n c xs) (ext : Bool) :
    Calls Try.prog 6 #[.int .i64 k, .slice A n c, .bool ext] W fun e W' => e = .returned (.bool true) ∧ Below W.heap.size W W' := by
  obtain ⟨i0, hi0, hz0, hz1, hz2⟩ := info_parts u8_info
  obtain ⟨hc, hcm, hwf, hrd⟩ := hr
  have hx := u8_wf hwf
  have hl : xs.length = n := by simpa using hrd.1
  have HD1 : Hid (∀ A c w, xs.length ≤ c → Reads w w.heap.size 1 A n (u8s xs) → Calls Try.prog 31 #[.int .i64 k, .slice A n c, .bool ext] w (GivesP w (decA k xs ext) (decE k xs ext))) := fun A c w h1 h2 => by
    have := c_Decode k A c xs ext w (by omega) h1 (by rw [hl]; exact h2) hx
    rw [hl] at this
    exact this
  have HD2 : Hid (∀ A c w, xs.length ≤ c → Reads w w.heap.size 1 A n (u8s xs) → Calls Try.prog 32 #[.int .i64 k, .slice A n c, .bool ext] w (GivesP w (decA k xs ext) (decE k xs ext))) := fun A c w h1 h2 => by
    have := c_rDecode k A c xs ext w (by omega) h1 (by rw [hl]; exact h2) hx
    rw [hl] at this
    exact this
  have hlen : (decA k xs ext).s.length ≤ 140737488351232 ∧ (decA k xs ext).t.length ≤ 140737488351232 := by
    have := decA_len (k := k) (xs := xs) (ext := ext); omega
  generalize decA k xs ext = p at *
  generalize decE k xs ext = E at *
  have HL := Lib.hid hl
  clear hwf wk hx hl
  go_enter Try.func6, Try.ntmps6
  go_wp2_with (first | (at_builtin; refine wpList_append_any _ rfl (.tmp 12) (.tmp 13) _ rfl W.heap.size 5 i0 _ 1 1 Try.underlying29 hi0 hz0 hz1 hz2 rfl (by omega) (.slice none 0 0) 0 [] rfl ⟨by simp, .inl ⟨rfl, rfl⟩⟩ W.heap.size _ n c (u8s xs) rfl hrd (u8s_one _) (by simp only [maxLen]; omega) (by omega) (Nat.le_refl _) ?_; intro v1 w1 hown1 hg1 _; rw [Nat.zero_add, List.nil_append] at hown1; obtain ⟨A1, c1, rfl, hc1, ho1⟩ := own_reads hown1; have hb1 := below_of_grown hg1; have hr1 := hrd.step hb1; have HB1 := Lib.hid hb1; clear hb1 hg1 hown1))
  refine (HD1.out _ _ _ (by rw [HL.out]; exact hc1) ho1).mono ?_
  rintro e w2 ⟨sa, sc, ta, tc, rfl, o1, o2, hb2⟩
  simp only [pvS, pv]
  have hq := (own_rd o1 o2 hlen.1 hlen.2).step ((Below.refl _ w2).alloc (Nat.le_refl _) (.cells (pvC p sa sc ta tc) 31))
  have hb2' := hb2.alloc hb2.size (.cells (pvC p sa sc ta tc) 31)
  have hr2 := hr1.step hb2'
  have HB2 := Lib.hid (below_step HB1.out hb2')
  have hK2 := Lib.hid (Blk.new w2 31 (pvC p sa sc ta tc))
  clear hb2 hb2' o1 o2 ho1
  go_wp2_with fail
  refine (HD2.out _ _ _ (by rw [HL.out]; exact hc) hr2).mono ?_
  rintro e w3 ⟨sa2, sc2, ta2, tc2, rfl, o1, o2, hb3⟩
  simp only [pvS, pv]
  obtain ⟨hcl, hfl⟩ := bcell hb3
  have hz := hb3.size
  simp only [World.size_alloc] at hcl hfl hz
  have hr2 := hq.step (hb3.alloc hb3.size (.cells (pvC p sa2 sc2 ta2 tc2) 31))
  have hr3 := (own_rd o1 o2 hlen.1 hlen.2).step ((Below.refl _ w3).alloc (Nat.le_refl _) (.cells (pvC p sa2 sc2 ta2 tc2) 31))
  have HB3 := Lib.hid (below_step HB2.out (hb3.alloc hb3.size (.cells (pvC p sa2 sc2 ta2 tc2) 31)))
  have hz2 : w2.heap.size < w3.heap.size := by omega
  clear hb3 o1 o2 hq
  go_wp2_with fail
  refine (c_lalike p p sa sa2 ta ta2 sc sc2 tc tc2 _ hr2 hr3).mono ?_
  rintro e w4 ⟨rfl, hb4⟩
  rw [decide_eq_true rfl]
  clear hcl hfl
  go_wp2_with fail
  go_ret
  exact ⟨rfl, below_step HB3.out hb4⟩
end Go.Proofs.Ytbpbokcglicggaa
