/- Words taken out of the texts on a value's bytes that its printing leans on too. Conditions: none. -/
import Derived.Test.YtigbbogfnchgnaaGreatDoorOd
import Derived.Deep.RegionHeld3
import Derived.Lib.ConvBytes
import Derived.Laws.BytesArg
import Derived.Laws.Strings
namespace Go.Proofs.YtigbbogfnchgnaaGreatDoor
open Go.RowKit
set_option linter.unusedVariables false

theorem run_conv {P : Program} (w : World) (src e dst : TypeId) (hs : P.underlying src = some (.slice e)) (he : P.underlying e = some (.int .u8)) (hd : P.underlying dst = some .string) {B n c : Nat} {A : Option Addr} {xs : List Int} (hr : Reads w B 1 A n (u8s xs)) :
    (convert src dst (.slice A n c)).run P w = .ok (.string (strOfNums xs)) w := by
  have hl : xs.length = n := by simpa using hr.1
  rcases Nat.eq_zero_or_pos n with h0 | h0
  · subst h0
    have hx : xs = [] := List.eq_nil_of_length_eq_zero hl
    subst hx
    rcases A with _ | a
    · exact run_convert_bytes_nil w src e hs he 0 c dst hd
    · have h1 : (loadCells a 0).run P w = .ok (([] : List Int).map (Value.int .u8)).toArray w := run_loadCells_list (P := P) w a [] (fun j v hj => by simp at hj)
      rw [run_convert_bytes_string w src dst e _ 0 c hs he hd, run_bytesToString w a 0 c [] h1]
      rfl
  · obtain ⟨b, off, rfl, hbB, hbw, hcells⟩ := hr.form h0
    exact run_convert_bytes_arg w src e hs he b off n c xs hl (fun i hi => by rw [hcells i hi, getD_u8s (by omega)]) dst hd
def AddsE (w : World) (base : Nat) (xs news : List Int) (e : Ending) (w' : World) : Prop := ∃ v', e = .returned v' ∧ Adds w w' base v' xs news
theorem Adds.ofS {a b : World} {base n : Nat} {v1 v2 : Value} {xs : List Int} {s : ByteArray} (h1 : a.ownsRow base 5 1 v1 n (u8s xs)) (ho : b.ownsRow base 5 1 v2 (n + s.size) (u8s xs ++ Lib.strCells s)) (hg : a.grownBy b v1.ownBlock) : Adds a b base v2 xs (txB s) :=
  Adds.of h1 (txB_len s) (by rw [strCells_u8] at ho; exact ho) hg
/-- What the fields of a value that may be are like. -/
structure Leaf (k i : Int) (f : Nat) (t : ByteArray) (n : Nat) : Prop where
  i1 : k = 1 → i = 0 ∨ i = 1
  i0 : k ≠ 1 → k ≠ 2 → i = 0
  ir : -9223372036854775808 ≤ i ∧ i < 9223372036854775808
  f0 : k ≠ 3 → fone f = 0
  fr : f < 18446744073709551616
  t0 : k ≠ 4 → k ≠ 5 → k ≠ 8 → t.size = 0
  tr : t.size < 4294967296
  n0 : k ≠ 6 → k ≠ 7 → n = 0
  nr : n < 4294967296
theorem leaf_of {v : Val} (h : okV v) (hw : wfV v) (hb : bnd v ≤ 1048576) : Leaf v.k v.i v.f v.t v.its.length := by
  have hf := okV_self h
  unfold flds at hf
  simp only [Bool.and_eq_true, decide_eq_true_eq] at hf
  obtain ⟨⟨⟨⟨⟨⟨h1, h2⟩, h3⟩, h4⟩, h5⟩, h6⟩, h7⟩ := hf
  simp only [Bool.or_eq_true, Bool.and_eq_true, beq_iff_eq] at h2 h3 h4 h6
  have hl := bnd_len v
  obtain ⟨w1, w2, w3⟩ := wfV_own hw
  have w2 : -9223372036854775808 ≤ v.i ∧ v.i < 9223372036854775808 := by
    simp [Lit.wf, IntKind.min, IntKind.max, IntKind.bits, IntKind.signed] at w2
    omega
  refine ⟨fun e => ?_, fun e1 e2 => ?_, ?_, fun e => ?_, wfV_f hw, fun e1 e2 e3 => ?_, by omega, fun e1 e2 => ?_, by omega⟩
  · rw [e] at h3; omega
  · omega
  · exact w2
  · rcases h2 with h2 | h2
    · exact absurd h2 e
    · exact h2
  · omega
  · omega
end Go.Proofs.YtigbbogfnchgnaaGreatDoor
