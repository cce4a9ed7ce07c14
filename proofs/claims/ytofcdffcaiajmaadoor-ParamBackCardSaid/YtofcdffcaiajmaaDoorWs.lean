/- Walk: word.Same: bytes held against bytes by their strings. Conditions: as stated. -/
import Derived.Test.YtofcdffcaiajmaaDoorPm
import Derived.Laws.BytesArg
import Derived.Laws.Strings
namespace Go.Proofs.YtofcdffcaiajmaaDoor
open Go.RowKit
set_option linter.unusedVariables false

theorem run_conv {P : Program} (w : World) (src e dst : TypeId) (hs : P.underlying src = some (.slice e)) (he : P.underlying e = some (.int .u8)) (hd : P.underlying dst = some .string) {B n c : Nat} {A : Option Addr} {xs : List Int} (hr : Reads w B 1 A n (u8s xs)) :
    (convert src dst (.slice A n c)).run P w = .ok (.string (strOfNums xs)) w := by
  have hl : xs.length = n := by simpa using hr.1
  rcases Nat.eq_zero_or_pos n with h0 | h0
  · subst h0
    have hx : xs = [] := List.eq_nil_of_length_eq_zero hl
    subst hx
    rcases A with _ | a
    · exact run_convert_bytes_nil w src e hs he 0 c dst hd
    · have h1 : (loadCells a 0).run P w = .ok (([] : List Int).map (Value.int .u8)).toArray w := run_loadCells_list (P := P) w a [] (fun j v hj => by simp at hj)
      rw [run_convert_bytes_string w src dst e _ 0 c hs he hd, run_bytesToString w a 0 c [] h1]
      rfl
  · obtain ⟨b, off, rfl, hbB, hbw, hcells⟩ := hr.form h0
    exact run_convert_bytes_arg w src e hs he b off n c xs hl (fun i hi => by rw [hcells i hi, getD_u8s (by omega)]) dst hd
theorem str_inj {xs ys : List Int} (hx : ∀ z ∈ xs, 0 ≤ z ∧ z < 256) (hy : ∀ z ∈ ys, 0 ≤ z ∧ z < 256) (h : strOfNums xs = strOfNums ys) : xs = ys := by
  have h1 : (xs.map fun n => UInt8.ofNat n.toNat) = (ys.map fun n => UInt8.ofNat n.toNat) := by rw [← strOfNums_data, ← strOfNums_data, h]
  have hl : xs.length = ys.length := by simpa using congrArg List.length h1
  apply List.ext_getElem hl
  intro i h2 h3
  have h4 : (xs.map fun n => UInt8.ofNat n.toNat)[i]'(by simpa using h2) = (ys.map fun n => UInt8.ofNat n.toNat)[i]'(by simpa using h3) := by simp only [h1]
  simp only [List.getElem_map] at h4
  have h5 := congrArg UInt8.toNat h4
  have h6 := hx _ (List.getElem_mem h2)
  have h7 := hy _ (List.getElem_mem h3)
  simp only [UInt8.toNat_ofNat'] at h5
  omega
set_option maxHeartbeats 400000 in
theorem c_wSame (A A' : Option Addr) (n c n' c' : Nat) (xs ys : List Int) (w : World) (B : Nat) (hr : Reads w B 1 A n (u8s xs)) (hr' : Reads w B 1 A' n' (u8s ys)) (hx : ∀ z ∈ xs, 0 ≤ z ∧ z < 256) (hy : ∀ z ∈ ys, 0 ≤ z ∧ z < 256) :
    Calls Tryd.prog 21 #[.slice A n c, .slice A' n' c'] w fun e w' => e = .returned (.bool (decide (xs = ys))) ∧ w = w' := by
  have h1 := run_conv (P := Tryd.prog) w 24 5 9 Tryd.underlying24 Tryd.underlying5 Tryd.underlying9 (c := c) hr
  have h2 := run_conv (P := Tryd.prog) w 24 5 9 Tryd.underlying24 Tryd.underlying5 Tryd.underlying9 (c := c') hr'
  have HS : Hid (((strOfNums xs).toList == (strOfNums ys).toList) = decide (xs = ys)) := by
    show _ = _
    rw [ByteArray.toList_eq, ByteArray.toList_eq, Bool.eq_iff_iff]
    simp only [beq_iff_eq, decide_eq_true_eq]
    exact ⟨fun h => str_inj hx hy (by cases hS : strOfNums xs; cases hT : strOfNums ys; simp only [hS, hT] at h; rw [Array.toList_inj.1 h]), fun h => by rw [h]⟩
  generalize decide (xs = ys) = D at *
  generalize strOfNums xs = S at *
  generalize strOfNums ys = T at *
  clear hr hr' hx hy
  go_enter Tryd.func21, Tryd.ntmps21
  go_wp2
  go_ret
  exact ⟨by rw [← HS.out]; rfl, rfl⟩
end Go.Proofs.YtofcdffcaiajmaaDoor
