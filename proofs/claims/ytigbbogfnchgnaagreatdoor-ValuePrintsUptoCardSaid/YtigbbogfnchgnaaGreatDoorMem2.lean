/- Words for memory, more: rows of the call's own beside other blocks. Conditions: none. -/
import Derived.Test.YtigbbogfnchgnaaGreatDoorMem
import Derived.Laws.MakeOwn
namespace Go.Proofs.YtigbbogfnchgnaaGreatDoor
open Go.RowKit

section
variable {w w' : World} {base base' size n : Nat} {e : TypeId} {v : Value} {xs : List Value}
theorem own_base (h : w.ownsRow base e size v n xs) (hb : base' ≤ base) : w.ownsRow base' e size v n xs := by
  rcases h with ⟨h1, h2 | ⟨g, cap, cur, h3, h4, h5⟩⟩
  · exact ⟨h1, .inl h2⟩
  · exact ⟨h1, .inr ⟨g, cap, cur, h3, Nat.le_trans hb h4, h5⟩⟩
theorem own_far (h : w.ownsRow base e size v n xs) {g : Nat} (hg : w.grownBy w' (some g)) (hb : g < base) : w'.ownsRow base e size v n xs := by
  refine h.kept hg ?_
  rcases hv : v.ownBlock with _ | k
  · exact .inl rfl
  · refine .inr ?_
    have := (h.lt k hv).1
    intro e
    injection e with e
    omega
theorem own_none (h : w.ownsRow base e size v n xs) (hg : w.grownBy w' none) : w'.ownsRow base e size v n xs := by
  refine h.kept hg ?_
  rcases hv : v.ownBlock with _ | k
  · exact .inl rfl
  · exact .inr (by simp)
theorem own_below (h : w.ownsRow base e size v n xs) (hb : Below w.heap.size w w') : w'.ownsRow base e size v n xs := own_none h (only_of_below hb none)
end
theorem grown_setCell (w : World) (g i : Nat) (u : Value) : w.grownBy (w.setCell ⟨g, i, none⟩ u) (some g) := only_setCell (World.grownBy.refl w _) (.inl rfl) u
/-- A row of the call's own as a slice, its other blocks kept apart. -/
theorem own_slice {w : World} {base n : Nat} {e : TypeId} {v : Value} {xs : List Value} (h : w.ownsRow base e 1 v n xs) : ∃ A c, v = .slice A n c := by
  obtain ⟨A, c, h1, _, _⟩ := own_reads h
  exact ⟨A, c, h1⟩
theorem reads_one (w : World) (t : TypeId) (v : Value) : Reads (w.alloc (.cells #[v] t)) (w.heap.size + 1) 1 (some ⟨w.heap.size, 0, none⟩) 1 [v] :=
  ⟨rfl, fun _ => ⟨_, rfl, Nat.lt_succ_self _, fun j u hu => by
    have hj : j = 0 := by
      rcases Nat.eq_zero_or_pos j with h | h
      · exact h
      · rw [List.getElem?_eq_none (by simp; omega)] at hu; cases hu
    subst hj
    have : ((⟨w.heap.size, 0, none⟩ : Addr).add 0) = ⟨w.heap.size, 0, none⟩ := by simp [Addr.add]
    rw [this, (Blk.new w t #[v]).cell 0]
    simpa using hu⟩⟩
theorem below_own {W w w1 : World} {e : TypeId} {size n : Nat} {v : Value} {xs : List Value} (h : Below W.heap.size W w) (ho : w.ownsRow W.heap.size e size v n xs) (hg : w.grownBy w1 v.ownBlock) : Below W.heap.size W w1 :=
  h.grown hg h.size (fun k hk => (ho.lt k hk).1)
theorem run_make_rowN {P : Program} (t e : TypeId) (i : TypeInfo) (z : Value) (ht : P.underlying t = some (.slice e)) (hi : P.info? e = some i) (hz : i.zero = some z)
    (kl kc : IntKind) (n c : Nat) (hnc : n ≤ c) (hbytes : i.bytes * c ≤ 281474976710656) (h63 : c ≤ 9223372036854775807) (w : World) :
    (Instr.makeSlice t (.int kl (n : Int)) (.int kc (c : Int))).run P w = .ok (.slice (some ⟨w.heap.size, 0, none⟩) n c) (w.alloc (.cells (madeCells z.cells (c * i.size)) e)) := by
  have hb : (i.bytes : Int) * (c : Int) ≤ 281474976710656 := by
    have h : ((i.bytes * c : Nat) : Int) ≤ 281474976710656 := by omega
    rwa [Int.natCast_mul] at h
  have hr := run_make (P := P) w t e i z ht hi hz kl kc n c (by omega) (by omega) hb (by omega)
  simp only [Int.toNat_natCast] at hr
  exact hr
theorem own_made (w : World) (base n : Nat) (e : TypeId) (z : Value) (hb : base ≤ w.heap.size) (hm : n ≤ maxLen) : (w.alloc (.cells (madeCells #[z] n) e)).ownsRow base e 1 (.slice (some ⟨w.heap.size, 0, none⟩) n n) n (List.replicate n z) := by
  have := World.ownsRow_lit (e := e) (size := 1) (base := base) w (madeCells #[z] n) n hb hm (by rw [size_madeCells]; omega)
  rw [toList_madeCells_one] at this
  exact this
theorem own_full {w : World} {base g n : Nat} {e : TypeId} {xs : List Value} (h : w.ownsRow base e 1 (.slice (some ⟨g, 0, none⟩) n n) n xs) : w.heap[g]? = some (.cells xs.toArray e (0, 0)) := by
  rcases h with ⟨h1, ⟨h2, _⟩ | ⟨g', cap, cur, h3, h4, h5, h6, h7, h8, h9⟩⟩
  · cases h2
  · injection h3 with h3 _ h10
    injection h3 with h3
    injection h3 with h3
    subst h3; subst h10
    rw [h5]
    have : cur.toList = xs := by rw [← h9, List.take_of_length_le (by rw [Array.length_toList, h8]; exact Nat.le_refl _)]
    rw [← this]
theorem own_of_full {w : World} {base g n : Nat} {e : TypeId} {xs : List Value} (h : w.heap[g]? = some (.cells xs.toArray e (0, 0))) (hb : base ≤ g) (hl : xs.length = n) (hm : n ≤ maxLen) : w.ownsRow base e 1 (.slice (some ⟨g, 0, none⟩) n n) n xs :=
  ⟨by omega, .inr ⟨g, n, xs.toArray, rfl, hb, h, Nat.le_refl _, hm, by simp; omega, List.take_of_length_le (by show xs.length ≤ n * 1; omega)⟩⟩
end Go.Proofs.YtigbbogfnchgnaaGreatDoor
