/- Walks: the nearest float of a quotient, by halves (quernref22's nearest, signed). Conditions: as stated. -/
import Derived.Test.YtcohidjaehdbnaaGreatDoorGi
namespace Go.Proofs.YtcohidjaehdbnaaGreatDoor
open Go.RowKit
set_option linter.unusedVariables false

theorem icmp_le (a b : Nat) : icmp a b ≤ 0 ↔ a ≤ b := by
  rcases Nat.lt_trichotomy a b with h | h | h
  · rw [icmp_lt h]; omega
  · rw [icmp_eq h]; omega
  · rw [icmp_gt h]; omega
theorem icmp_neg (a b : Nat) : icmp a b < 0 ↔ a < b := by
  rcases Nat.lt_trichotomy a b with h | h | h
  · rw [icmp_lt h]; omega
  · rw [icmp_eq h]; omega
  · rw [icmp_gt h]; omega
theorem icmp_zero (a b : Nat) : icmp a b = 0 ↔ a = b := by
  rcases Nat.lt_trichotomy a b with h | h | h
  · rw [icmp_lt h]; omega
  · rw [icmp_eq h]; omega
  · rw [icmp_gt h]; omega
theorem icmp_congr {a b c d : Nat} (h1 : a < b ↔ c < d) (h2 : a = b ↔ c = d) : icmp a b = icmp c d := by
  rcases Nat.lt_trichotomy a b with h | h | h
  · rw [icmp_lt h, icmp_lt (h1.1 h)]
  · rw [icmp_eq h, icmp_eq (h2.1 h)]
  · have : d < c := by
      rcases Nat.lt_trichotomy c d with k | k | k
      · have := h1.2 k; omega
      · have := h2.2 k; omega
      · exact k
    rw [icmp_gt h, icmp_gt this]
theorem mexp_kx (k : Nat) : mexp k = ((kx k : Nat) : Int) - ((K74 : Nat) : Int) := by
  unfold mexp kx K74
  split <;> omega
theorem mman_psig (k : Nat) : mman k = psig k := by
  unfold mman psig
  split
  · rfl
  · omega
/-- A rung held against a quotient. -/
theorem against_kv (k N D : Nat) : icmp (mman k * D * 2 ^ (mexp k).toNat) (N * 2 ^ (-mexp k).toNat) = icmp (kv k * D) (N * 2 ^ K74) := by
  rw [mexp_kx, mman_psig, kv_psig]
  obtain ⟨h1, h2⟩ := held_lt (psig k) N D (kx k) K74
  exact icmp_congr h1 h2
/-- The middle behind a rung held against a quotient. -/
theorem against_mid (k N D : Nat) : icmp ((2 * mman k + 1) * D * 2 ^ (mexp k - 1).toNat) (N * 2 ^ (-(mexp k - 1)).toNat) = icmp ((kv k + kv (k + 1)) * D) (2 * (N * 2 ^ K74)) := by
  rw [mexp_kx, mman_psig, kv_mid]
  obtain ⟨h1, h2⟩ := held_lt (2 * psig k + 1) N D (kx k) (K74 + 1)
  rw [show ((kx k : Nat) : Int) - ((K74 : Nat) : Int) - 1 = ((kx k : Nat) : Int) - ((K74 + 1 : Nat) : Int) from by omega]
  rw [show 2 * (N * 2 ^ K74) = N * 2 ^ (K74 + 1) from by rw [Nat.pow_succ, show N * (2 ^ K74 * 2) = N * 2 ^ K74 * 2 from (Nat.mul_assoc _ _ _).symm, Nat.mul_comm]]
  exact icmp_congr h1 h2
/-- What holds ahead of a round of the search: the float is from rung a on, and below rung a + b, or that is infinity's. -/
structure NearS (w wr : World) (N D a b : Nat) : Prop where
  lo : kv a * D ≤ N * 2 ^ K74
  hi : a + b = 9218868437227405312 ∨ N * 2 ^ K74 < kv (a + b) * D
  cap : a + b ≤ 9218868437227405312
  pos : 1 ≤ b
  bel : Below w.heap.size w wr
/-- The nearest rung, in memory of one's own. -/
def NearR (N D : Nat) (w : World) (e : Ending) (w' : World) : Prop := ∃ r, e = .returned (.int .u64 ((r : Nat) : Int)) ∧ Near (N * 2 ^ K74) D r ∧ Below w.heap.size w w'
end Go.Proofs.YtcohidjaehdbnaaGreatDoor
