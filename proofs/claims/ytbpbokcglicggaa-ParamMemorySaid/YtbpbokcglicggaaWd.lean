/- Walks: a block's eight words (param.Words, quernref02.Words). Conditions: as stated. -/
import Derived.Test.YtbpbokcglicggaaREn
namespace Go.Proofs.Ytbpbokcglicggaa
open Go.RowKit
set_option linter.unusedVariables false

theorem c_rEncode (k : Int) (p : Pm) (sa : Option Addr) (sc : Nat) (ta : Option Addr) (tc : Nat) (w : World) (h : RdP w p sa sc ta tc) (ho : PmOk p) :
    Calls Try.prog 34 #[.int .i64 k, pvS p sa sc ta tc] w (EncGives w k p) := by
  by_cases h0 : chkP k p = 0
  · refine (c_rEncode_ok k p sa sc ta tc w h ho h0).mono ?_
    rintro e w' ⟨A, c, rfl, h1, h2⟩
    have hl : (encA k p).length = ksz k := by unfold encA; rw [if_pos h0, encB_len h0]
    have he : encA k p = encB k p := if_pos h0
    refine ⟨A, c, ?_, ?_, h2⟩
    · rw [hl, h0]
    · rw [hl, he]; exact h1
  · have hC := c_rCheckP k p sa sc ta tc
    have he : encA k p = [] := if_neg h0
    have HG : Hid (∀ w', Below w.heap.size w w' → EncGives w k p (.returned (.tuple #[.slice none 0 0, .int .i64 (chkP k p)])) w') := fun w' hb => ⟨none, 0, by rw [he]; rfl, by rw [he]; exact World.ownsRow_nil _ _ _ _, hb⟩
    have hne : (chkP k p != 0) = true := by simpa using h0
    generalize chkP k p = E at *
    have HC := Lib.hid hC
    clear hC h0 he
    simp only [pvS, pv]
    go_enter Try.func34, Try.ntmps34
    go_wp2_with fail
    refine (HC.out _).mono ?_
    rintro e w1 ⟨rfl, hb1⟩
    go_wp2_with fail
    go_ret2
    exact HG.out _ (((Below.refl _ _).alloc (Nat.le_refl _) _).trans (hb1.mono (by simp)))
/-- Numbers of eight bytes as cells. -/
abbrev u64s (xs : List Int) : List Value := xs.map (Value.int .u64)
theorem u64_info : (Try.prog.info? 28).map (fun i => (i.zero, i.size, i.bytes)) = some (some (.int .u64 0), 1, 8) := by kernel_rfl
def wdL (zs : List Int) (n : Nat) : Nat → List Int
  | 0 => []
  | i + 1 => wdL zs n i ++ [le ((zs.drop (n * i)).take n)]
theorem wdL_len (zs : List Int) (n i : Nat) : (wdL zs n i).length = i := by
  induction i with
  | zero => rfl
  | succ i ih => simp [wdL, ih]
def wrdA (k : Int) (p : Pm) : List Int := if chkP k p = 0 then wdL (encB k p) (ksz k / 8) 8 else []
/-- What both Words hand back. -/
def WdGives (w : World) (k : Int) (p : Pm) (e : Ending) (w' : World) : Prop :=
  ∃ A c, e = .returned (.tuple #[.slice A (wrdA k p).length c, .int .i64 (chkP k p)]) ∧ w'.ownsRow w.heap.size 28 1 (.slice A (wrdA k p).length c) (wrdA k p).length (u64s (wrdA k p)) ∧ Below w.heap.size w w'
theorem reads_mid {w : World} {base g n cap k : Nat} {e : TypeId} {xs : List Value} (h : w.ownsRow base e 1 (.slice (some ⟨g, 0, none⟩) n cap) n xs) (hk : k ≤ n) : Reads w w.heap.size 1 (some ⟨g, k, none⟩) (n - k) (xs.drop k) := by
  refine ⟨by rw [List.length_drop, h.1]; omega, fun h0 => ⟨_, rfl, (h.lt g rfl).2, fun j u hu => ?_⟩⟩
  have hadd : (⟨g, k, none⟩ : Addr).add j = ⟨g, k + j, none⟩ := by unfold Addr.add; split <;> simp_all
  have hl := h.1
  have hj : j < n - k := by
    rcases Nat.lt_or_ge j (xs.drop k).length with h1 | h1
    · rw [List.length_drop, hl] at h1; omega
    · rw [List.getElem?_eq_none h1] at hu; cases hu
  rw [hadd, h.cellAt _ (by omega), ← hu, List.getElem?_drop]
theorem encB_bd {k : Int} {p : Pm} (hs : ∀ z ∈ p.s, 0 ≤ z ∧ z < 256) (ht : ∀ z ∈ p.t, 0 ≤ z ∧ z < 256) : ∀ z ∈ encB k p, 0 ≤ z ∧ z < 256 := by
  have hN : ∀ j, ∀ z ∈ encN k p j, 0 ≤ z ∧ z < 256 := by
    intro j
    induction j with
    | zero => intro z hz; have := List.eq_of_mem_replicate hz; omega
    | succ j ih => unfold encN; split
                   · exact ih
                   · exact layL_bd ih _ _ _
  have hB : ∀ {xs ys : List Int} {a : Nat}, (∀ z ∈ xs, 0 ≤ z ∧ z < 256) → (∀ z ∈ ys, 0 ≤ z ∧ z < 256) → ∀ z ∈ blit xs a ys, 0 ≤ z ∧ z < 256 := by
    intro xs ys a h1 h2 z hz
    unfold blit at hz
    rcases List.mem_append.1 hz with hz | hz
    · rcases List.mem_append.1 hz with hz | hz
      · exact h1 z (List.mem_of_mem_take hz)
      · exact h2 z hz
    · exact h1 z (List.mem_of_mem_drop hz)
  unfold encB
  exact hB (hB (hN 9) hs) ht
set_option maxRecDepth 100000 in
set_option maxHeartbeats 2000000 in
theorem c_Words_ok (k : Int) (p : Pm) (sa : Option Addr) (sc : Nat) (ta : Option Addr) (tc : Nat) (w : World) (h : RdP w p sa sc ta tc) (ho : PmOk p) (hs : ∀ z ∈ p.s, 0 ≤ z ∧ z < 256) (ht : ∀ z ∈ p.t, 0 ≤ z ∧ z < 256) (h0 : chkP k p = 0) :
    Calls Try.prog 35 #[.int .i64 k, pvS p sa sc ta tc] w fun e w' => ∃ A c, e = .returned (.tuple #[.slice A 8 c, .int .i64 0]) ∧ w'.ownsRow w.heap.size 28 1 (.slice A 8 c) 8 (u64s (wdL (encB k p) (ksz k / 8) 8)) ∧ Below w.heap.size w w' := by
  obtain ⟨i0, hi0, hz0, hz1, hz2⟩ := info_parts u64_info
  have hb0 := (Below.refl w.heap.size w).alloc (Nat.le_refl _) (.cells (pvC p sa sc ta tc) 31)
  have hE := c_Encode_ok k p sa sc ta tc _ (h.step hb0) ho h0
  have hl := encB_len h0
  have hx := encB_bd (k := k) hs ht
  have hk := (chk_ok h0).1
  generalize encB k p = zs at *
  have HE := Lib.hid hE
  have HBL := Lib.hid hb0
  have HX := Lib.hid hx
  clear hE hb0 h h0 hs ht ho hx
  rcases hk with rfl | rfl
  · have hk1 : ksz 1 = 64 := rfl
    have hk2 : ksz 1 / 8 = 8 := rfl
    rw [hk2]
    have HE2 := HE.out
    rw [hk1] at HE2 hl
    have HE := Lib.hid HE2
    clear HE2 hk1 hk2
    simp only [pvS, pv]
    go_enter Try.func35, Try.ntmps35
    go_wp2_with fail
    refine HE.out.mono ?_
    rintro e w1 ⟨A, c, rfl, hown, hb1⟩
    obtain ⟨g, cap, hv, hg1, hg2⟩ := own_form hown (by decide)
    injection hv with hv _ hv2
    subst hv; subst hv2
    have hL := below_step HBL.out hb1
    simp only [World.size_alloc] at hg1
    have hown' := own_base (base' := w.heap.size) hown (by simp)
    have hcap : 64 ≤ c := by obtain ⟨A', c', e', hc', _⟩ := own_reads hown; injection e' with _ _ e'; omega
    clear hb1 hown
    have hl' := Lib.hid hl
    clear hl
    have hsz1 := hL.size
    go_wp2_with fail
    go_loopw [6, 8] (fun b l wr => ∃ i : Nat, i ≤ 8 ∧ (∃ off cb : Nat, b = .slice (some ⟨g, off, none⟩) (64 - 8 * i) cb ∧ 64 - 8 * i ≤ cb ∧ (i < 8 → off = 8 * i)) ∧ wr.ownsRow w1.heap.size 28 1 l i (u64s (wdL zs 8 i)) ∧ wr.ownsRow w.heap.size 5 1 (.slice (some ⟨g, 0, none⟩) 64 c) 64 (u8s zs) ∧ Below w.heap.size w wr ∧ w1.heap.size ≤ wr.heap.size) (fun b _ _ => match b with | .slice _ n _ => n | _ => 0)
    case atStart => exact ⟨0, by omega, ⟨0, c, rfl, hcap, fun _ => rfl⟩, World.ownsRow_nil _ _ _ _, hown', hL, Nat.le_refl _⟩
    case round =>
      obtain ⟨i, hi, ⟨off, cb, rfl, hcb, hoff⟩, hw, ho, hbel, hzr⟩ := hrel
      by_cases hlt : i < 8
      · obtain rfl := hoff hlt
        have hR := (reads_mid ho (k := 8 * i) (by omega)).alloc
        clear hR
        have hR := reads_mid ho (k := 8 * i) (by omega)
        have hdr : (u8s zs).drop (8 * i) = u8s (zs.drop (8 * i)) := by simp
        rw [hdr] at hR
        have hG := fun B h => c_get (some ⟨g, 8 * i, none⟩) (64 - 8 * i) cb (zs.drop (8 * i)) wr B h (by omega) (fun z hz => HX.out z (List.mem_of_mem_drop hz)) 0 8 (by omega) (by omega)
        rw [List.drop_zero] at hG
        have HWX : Hid (wdL zs 8 (i + 1) = wdL zs 8 i ++ [le ((zs.drop (8 * i)).take 8)]) := rfl
        generalize le ((zs.drop (8 * i)).take 8) = x at *
        have HG := Lib.hid hG
        have HO := Lib.hid ho
        have HBel := Lib.hid hbel
        clear hG hdr ho hbel hoff
        have hpos : 0 < 64 - 8 * i := by omega
        go_wp2_with (first | (go_at_call 50; refine (HG.out _ hR).mono ?_; rintro e w' ⟨rfl, rfl⟩) | (at_builtin; refine wpList_append_any _ rfl (.tmp 28) (.tmp 32) _ rfl w1.heap.size 28 i0 _ 1 8 Try.underlying65 hi0 hz0 hz1 hz2 rfl (by omega) _ i _ rfl (hw.alloc _) _ _ 1 1 [.int .u64 x] rfl (reads_one _ _ _) (by intro u hu; rw [List.mem_singleton.1 hu]; rfl) (by simp only [maxLen]; omega) (by omega) (by simp; omega) ?_; intro v1 w2 hown2 hg2' _; have ho2 := (HO.out.alloc (.cells #[.int .u64 x] 28)).kept hg2' (.inr (fun e => (by have := ((hw.alloc (.cells #[.int .u64 x] 28)).lt g e.symm).1; omega))); have hb2 := below_own (HBel.out.alloc (by omega) (.cells #[.int .u64 x] 28)) ((own_base hw hsz1).alloc _) hg2'; have hz2 := hg2'.size; clear hg2'))
        simp only [World.size_alloc] at hz2
        go_roundw
        case rel =>
          refine ⟨i + 1, by omega, ?_, by rw [HWX.out]; simpa [u64s] using hown2, ho2, hb2, by omega⟩
          by_cases h8 : cb = 8
          · rw [if_pos h8]
            exact ⟨8 * i, cb - 8, by rw [show 64 - 8 * i - 8 = 64 - 8 * (i + 1) from by omega], by omega, fun h => by omega⟩
          · rw [if_neg h8]
            exact ⟨8 * i + 8, cb - 8, by rw [show 64 - 8 * i - 8 = 64 - 8 * (i + 1) from by omega], by omega, fun h => by omega⟩
        case measure =>
          show 64 - 8 * i - 8 < 64 - 8 * i
          omega
      · obtain rfl : i = 8 := by omega
        obtain ⟨A9, c9, rfl⟩ := own_slice hw
        go_wp2_with fail
        go_ret2
        exact ⟨A9, c9, rfl, own_base hw hsz1, hbel⟩
  · have hk1 : ksz 2 = 32 := rfl
    have hk2 : ksz 2 / 8 = 4 := rfl
    rw [hk2]
    have HE2 := HE.out
    rw [hk1] at HE2 hl
    have HE := Lib.hid HE2
    clear HE2 hk1 hk2
    simp only [pvS, pv]
    go_enter Try.func35, Try.ntmps35
    go_wp2_with fail
    refine HE.out.mono ?_
    rintro e w1 ⟨A, c, rfl, hown, hb1⟩
    obtain ⟨g, cap, hv, hg1, hg2⟩ := own_form hown (by decide)
    injection hv with hv _ hv2
    subst hv; subst hv2
    have hL := below_step HBL.out hb1
    simp only [World.size_alloc] at hg1
    have hown' := own_base (base' := w.heap.size) hown (by simp)
    have hcap : 32 ≤ c := by obtain ⟨A', c', e', hc', _⟩ := own_reads hown; injection e' with _ _ e'; omega
    clear hb1 hown
    have hl' := Lib.hid hl
    clear hl
    have hsz1 := hL.size
    go_wp2_with fail
    go_loopw [6, 8] (fun b l wr => ∃ i : Nat, i ≤ 8 ∧ (∃ off cb : Nat, b = .slice (some ⟨g, off, none⟩) (32 - 4 * i) cb ∧ 32 - 4 * i ≤ cb ∧ (i < 8 → off = 4 * i)) ∧ wr.ownsRow w1.heap.size 28 1 l i (u64s (wdL zs 4 i)) ∧ wr.ownsRow w.heap.size 5 1 (.slice (some ⟨g, 0, none⟩) 32 c) 32 (u8s zs) ∧ Below w.heap.size w wr ∧ w1.heap.size ≤ wr.heap.size) (fun b _ _ => match b with | .slice _ n _ => n | _ => 0)
    case atStart => exact ⟨0, by omega, ⟨0, c, rfl, hcap, fun _ => rfl⟩, World.ownsRow_nil _ _ _ _, hown', hL, Nat.le_refl _⟩
    case round =>
      obtain ⟨i, hi, ⟨off, cb, rfl, hcb, hoff⟩, hw, ho, hbel, hzr⟩ := hrel
      by_cases hlt : i < 8
      · obtain rfl := hoff hlt
        have hR := (reads_mid ho (k := 4 * i) (by omega)).alloc
        clear hR
        have hR := reads_mid ho (k := 4 * i) (by omega)
        have hdr : (u8s zs).drop (4 * i) = u8s (zs.drop (4 * i)) := by simp
        rw [hdr] at hR
        have hG := fun B h => c_get (some ⟨g, 4 * i, none⟩) (32 - 4 * i) cb (zs.drop (4 * i)) wr B h (by omega) (fun z hz => HX.out z (List.mem_of_mem_drop hz)) 0 4 (by omega) (by omega)
        rw [List.drop_zero] at hG
        have HWX : Hid (wdL zs 4 (i + 1) = wdL zs 4 i ++ [le ((zs.drop (4 * i)).take 4)]) := rfl
        generalize le ((zs.drop (4 * i)).take 4) = x at *
        have HG := Lib.hid hG
        have HO := Lib.hid ho
        have HBel := Lib.hid hbel
        clear hG hdr ho hbel hoff
        have hpos : 0 < 32 - 4 * i := by omega
        go_wp2_with (first | (go_at_call 50; refine (HG.out _ hR).mono ?_; rintro e w' ⟨rfl, rfl⟩) | (at_builtin; refine wpList_append_any _ rfl (.tmp 28) (.tmp 32) _ rfl w1.heap.size 28 i0 _ 1 8 Try.underlying65 hi0 hz0 hz1 hz2 rfl (by omega) _ i _ rfl (hw.alloc _) _ _ 1 1 [.int .u64 x] rfl (reads_one _ _ _) (by intro u hu; rw [List.mem_singleton.1 hu]; rfl) (by simp only [maxLen]; omega) (by omega) (by simp; omega) ?_; intro v1 w2 hown2 hg2' _; have ho2 := (HO.out.alloc (.cells #[.int .u64 x] 28)).kept hg2' (.inr (fun e => (by have := ((hw.alloc (.cells #[.int .u64 x] 28)).lt g e.symm).1; omega))); have hb2 := below_own (HBel.out.alloc (by omega) (.cells #[.int .u64 x] 28)) ((own_base hw hsz1).alloc _) hg2'; have hz2 := hg2'.size; clear hg2'))
        simp only [World.size_alloc] at hz2
        go_roundw
        case rel =>
          refine ⟨i + 1, by omega, ?_, by rw [HWX.out]; simpa [u64s] using hown2, ho2, hb2, by omega⟩
          by_cases h8 : cb = 4
          · rw [if_pos h8]
            exact ⟨4 * i, cb - 4, by rw [show 32 - 4 * i - 4 = 32 - 4 * (i + 1) from by omega], by omega, fun h => by omega⟩
          · rw [if_neg h8]
            exact ⟨4 * i + 4, cb - 4, by rw [show 32 - 4 * i - 4 = 32 - 4 * (i + 1) from by omega], by omega, fun h => by omega⟩
        case measure =>
          show 32 - 4 * i - 4 < 32 - 4 * i
          omega
      · obtain rfl : i = 8 := by omega
        obtain ⟨A9, c9, rfl⟩ := own_slice hw
        go_wp2_with fail
        go_ret2
        exact ⟨A9, c9, rfl, own_base hw hsz1, hbel⟩
end Go.Proofs.Ytbpbokcglicggaa
