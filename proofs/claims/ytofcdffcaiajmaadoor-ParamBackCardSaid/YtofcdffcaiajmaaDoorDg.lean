/- Walk: a number as decimal digits, bytes as small digits, of the reference (quernref02.digits, hex) and of the program (word.Hex). Conditions: as stated. -/
import Derived.Test.YtofcdffcaiajmaaDoorPm
import Derived.Test.YtofcdffcaiajmaaDoorBs
import Derived.Test.YtofcdffcaiajmaaDoorMem2
import Derived.Lib.ItoaNum
import Derived.Laws.IdiomStrings
import Derived.Great.Walk
import Derived.WalkKit
import Derived.IntWalk
import Derived.Deep.DrawnRows
namespace Go.Proofs.YtofcdffcaiajmaaDoor
open Go.RowKit
set_option linter.unusedVariables false
attribute [local go_sem ↓] Go.wp_at_zero Go.wp_at_succ

theorem built_u8 (y : Int) : Tryd.prog.builtSlice 5 1 [(0, .int .u8 y)] = some #[.int .u8 y] := by kernel_rfl
theorem conv1 (w : World) (y : Int) (k : Nat) (hk : k < 256) (hy : y = k) : (convert 24 9 (.slice (some ⟨w.heap.size, 0, none⟩) 1 1)).run Tryd.prog (w.alloc (.cells #[.int .u8 y] 5)) = .ok (bstr [UInt8.ofNat k]) (w.alloc (.cells #[.int .u8 y] 5)) := by
  subst hy
  exact run_convert_bytes_back _ 24 9 5 ⟨w.heap.size, 0, none⟩ 1 [UInt8.ofNat k] Tryd.underlying24 Tryd.underlying5 Tryd.underlying9 (fun j hj => by
    obtain rfl : j = 0 := by simpa using hj
    have : ((⟨w.heap.size, 0, none⟩ : Addr).add 0) = ⟨w.heap.size, 0, none⟩ := by simp [Addr.add]
    rw [this, (Blk.new w 5 #[.int .u8 k]).cell 0]
    simp [Nat.mod_eq_of_lt hk])
theorem dig_big {u : Nat} (h : 10 ≤ u) : Lib.decDigits u = Lib.decDigits (u / 10) ++ [UInt8.ofNat (48 + u % 10)] := by
  rw [Lib.decDigits, dif_neg (by omega)]
theorem dig_small {u : Nat} (h : u < 10) : Lib.decDigits u = [UInt8.ofNat (48 + u)] := by rw [Lib.decDigits, dif_pos h]
theorem dig_len : ∀ (k u : Nat), u < 10 ^ (k + 1) → (Lib.decDigits u).length ≤ k + 1
  | 0, u, h => by rw [dig_small (by simpa using h)]; simp
  | k + 1, u, h => by
    by_cases h10 : 10 ≤ u
    · rw [dig_big h10, List.length_append]
      have := dig_len k (u / 10) (by rw [Nat.pow_succ] at h; omega)
      simp only [List.length_cons, List.length_nil]
      omega
    · rw [dig_small (by omega)]; simp
theorem dig_len20 {u : Nat} (h : u < 18446744073709551616) : (Lib.decDigits u).length ≤ 20 := dig_len 19 u (by omega)
theorem str_add (a b : List UInt8) : (⟨a.toArray⟩ : ByteArray) ++ ⟨b.toArray⟩ = ⟨(a ++ b).toArray⟩ := by rw [ByteArray.mk_append_mk]
theorem bstr_add (a b : List UInt8) : Value.string ((⟨a.toArray⟩ : ByteArray) ++ ⟨b.toArray⟩) = bstr (a ++ b) := by rw [str_add]
end Go.Proofs.YtofcdffcaiajmaaDoor
