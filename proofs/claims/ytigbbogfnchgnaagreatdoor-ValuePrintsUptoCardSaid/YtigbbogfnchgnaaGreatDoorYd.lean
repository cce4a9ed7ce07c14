/- Plain facts on the sizes of values, and steps of their loops (no program). Conditions: none. -/
import Derived.Test.YtigbbogfnchgnaaGreatDoorYb
namespace Go.Proofs.YtigbbogfnchgnaaGreatDoor
set_option linter.unusedVariables false

theorem wt_eq (v : Val) : wt v = leafN (.mk v.k v.i v.f v.t [] []) + wtL (v.k = 7) v.its v.nms := by
  cases v; rw [wt]; rfl
theorem szB_eq (v : Val) (m : Int) : szB v m = if v.k = 6 ∨ v.k = 7 then szL (v.k = 7) v.its v.nms m 5 else leafN (.mk v.k v.i v.f v.t [] []) := by
  cases v; rw [szB]; rfl
theorem leafN_le (v : Val) : leafN v ≤ 9 + v.t.size := by
  unfold leafN
  repeat' split
  all_goals omega
theorem bnd_eq (v : Val) : bnd v = 1 + v.t.size + bndL v.its + (v.nms.map fun s => 1 + s.size).sum := by
  cases v; rw [bnd]; rfl
theorem bndL_mem {l : List Val} {w : Val} (h : w ∈ l) : bnd w ≤ bndL l := by
  induction l with
  | nil => simp at h
  | cons v l ih =>
    rw [bndL]
    rcases List.mem_cons.1 h with rfl | h
    · omega
    · have := ih h; omega
theorem bnd_item {v w : Val} (h : w ∈ v.its) : bnd w < bnd v := by
  have := bndL_mem h
  rw [bnd_eq v]
  omega
theorem bnd_pos (v : Val) : 1 ≤ bnd v := by rw [bnd_eq]; omega
theorem bndL_len (l : List Val) : l.length ≤ bndL l := by
  induction l with
  | nil => rw [bndL]; exact Nat.le_refl _
  | cons v l ih => rw [bndL, List.length_cons]; have := bnd_pos v; omega
theorem sum_len (l : List ByteArray) : l.length ≤ (l.map fun s => 1 + s.size).sum := by
  induction l with
  | nil => simp
  | cons v l ih => rw [List.map_cons, List.sum_cons, List.length_cons]; omega
theorem sum_mem {l : List ByteArray} {s : ByteArray} (h : s ∈ l) : s.size < (l.map fun s => 1 + s.size).sum := by
  induction l with
  | nil => simp at h
  | cons v l ih =>
    rw [List.map_cons, List.sum_cons]
    rcases List.mem_cons.1 h with rfl | h
    · omega
    · have := ih h; omega
theorem bnd_len (v : Val) : v.its.length < bnd v ∧ v.nms.length < bnd v ∧ v.t.size < bnd v := by
  have h1 := bndL_len v.its
  have h2 := sum_len v.nms
  rw [bnd_eq]
  omega
theorem wt_bnd : ∀ v : Val, wt v + 4 ≤ 13 * bnd v := by
  refine Val.ind fun v ih => ?_
  rw [wt_eq, bnd_eq]
  have h1 := leafN_le (.mk v.k v.i v.f v.t [] [])
  have key : ∀ (m : Bool) (l : List Val) (ns : List ByteArray), (∀ w ∈ l, w ∈ v.its) → wtL m l ns ≤ 13 * bndL l + (ns.map fun s => 1 + s.size).sum := by
    intro m l
    induction l with
    | nil => intro ns _; rw [wtL]; omega
    | cons w l il =>
      intro ns hw
      rw [wtL, bndL]
      have a1 := ih w (hw w List.mem_cons_self)
      have a2 := il ns.tail (fun x hx => hw x (List.mem_cons_of_mem _ hx))
      cases ns with
      | nil =>
        simp only [List.headD_nil, List.tail_nil, List.map_nil, List.sum_nil] at a2 ⊢
        have : (⟨#[]⟩ : ByteArray).size = 0 := rfl
        rw [this]
        cases m <;> simp <;> omega
      | cons s ns =>
        simp only [List.headD_cons, List.tail_cons, List.map_cons, List.sum_cons] at a2 ⊢
        cases m <;> simp <;> omega
  have h2 := key (v.k = 7) v.its v.nms fun _ h => h
  have h3 : (Val.mk v.k v.i v.f v.t [] []).t.size = v.t.size := rfl
  omega
theorem szB_le : ∀ (v : Val) (m : Int), 1 ≤ szB v m ∧ szB v m ≤ wt v := by
  refine Val.ind fun v ih m => ?_
  rw [szB_eq, wt_eq]
  by_cases hk : v.k = 6 ∨ v.k = 7
  · rw [if_pos hk]
    have hlf : leafN (.mk v.k v.i v.f v.t [] []) = 5 := by
      unfold leafN
      show (if v.k = 1 then 2 else if v.k = 2 ∨ v.k = 3 then 9 else if v.k = 4 ∨ v.k = 5 ∨ v.k = 8 then 5 + v.t.size else if v.k = 6 ∨ v.k = 7 then 5 else 1) = 5
      rcases hk with h | h <;> rw [h] <;> rfl
    rw [hlf]
    have key : ∀ (b : Bool) (l : List Val) (ns : List ByteArray) (n : Int), (∀ w ∈ l, w ∈ v.its) → n ≤ szL b l ns m n ∧ szL b l ns m n ≤ n + wtL b l ns := by
      intro b l
      induction l with
      | nil => intro ns n _; rw [szL, wtL]; exact ⟨Int.le_refl _, by omega⟩
      | cons w l il =>
        intro ns n hw
        rw [szL, wtL]
        obtain ⟨e, he⟩ : ∃ e : Nat, (if b = true then 4 + (ns.headD ⟨#[]⟩).size else 0) = e := ⟨_, rfl⟩
        have he2 : (if b = true then 4 + ((ns.headD ⟨#[]⟩).size : Int) else 0) = (e : Int) := by rw [← he]; split <;> simp
        rw [he, he2]
        have a1 := ih w (hw w List.mem_cons_self) (m - (n + e))
        generalize szB w (m - (n + e)) = s at *
        have a2 := il ns.tail (n + e + s) (fun x hx => hw x (List.mem_cons_of_mem _ hx))
        by_cases hlt : m < n + e + s
        · rw [if_pos hlt]; exact ⟨by omega, by omega⟩
        · rw [if_neg hlt]; exact ⟨by omega, by omega⟩
    have := key (v.k = 7) v.its v.nms 5 fun _ h => h
    exact ⟨by omega, by omega⟩
  · rw [if_neg hk]
    refine ⟨?_, by omega⟩
    unfold leafN
    repeat' split
    all_goals omega
theorem szL_step {b : Bool} {its : List Val} {nms : List ByteArray} {m n : Int} {i : Nat} (hi : i < its.length) :
    szL b (its.drop i) (nms.drop i) m n = (if m < n + (if b then 4 + ((nms.getD i ⟨#[]⟩).size : Int) else 0) + szB its[i] (m - (n + if b then 4 + ((nms.getD i ⟨#[]⟩).size : Int) else 0)) then n + (if b then 4 + ((nms.getD i ⟨#[]⟩).size : Int) else 0) + szB its[i] (m - (n + if b then 4 + ((nms.getD i ⟨#[]⟩).size : Int) else 0))
      else szL b (its.drop (i + 1)) (nms.drop (i + 1)) m (n + (if b then 4 + ((nms.getD i ⟨#[]⟩).size : Int) else 0) + szB its[i] (m - (n + if b then 4 + ((nms.getD i ⟨#[]⟩).size : Int) else 0)))) := by
  rw [List.drop_eq_getElem_cons hi, szL]
  have h1 : (nms.drop i).headD ⟨#[]⟩ = nms.getD i ⟨#[]⟩ := by
    rw [List.headD_eq_head?_getD, List.head?_drop, List.getD_eq_getElem?_getD]
  have h2 : (nms.drop i).tail = nms.drop (i + 1) := by rw [List.tail_drop]
  rw [h1, h2]
theorem cntL_step {its : List Val} {m n : Int} {i : Nat} (hi : i < its.length) (hn : n ≤ m) : cntL (its.drop i) m n = cntL (its.drop (i + 1)) m (n + cntB its[i] (m - n)) := by
  rw [List.drop_eq_getElem_cons hi, cntL, if_pos hn]
theorem wfL_mem {l : List Val} {w : Val} (h : wfL l) (hw : w ∈ l) : wfV w := by
  induction l with
  | nil => simp at hw
  | cons v l ih =>
    rw [wfL] at h
    rcases List.mem_cons.1 hw with rfl | hw
    · exact h.1
    · exact ih h.2 hw
theorem wfV_item {v w : Val} (h : wfV v) (hw : w ∈ v.its) : wfV w := by
  cases v with
  | mk k i f t its nms => rw [wfV] at h; exact wfL_mem h.2.2.2 hw
theorem wfV_own {v : Val} (h : wfV v) : (Lit.int .i64 v.k).wf = true ∧ (Lit.int .i64 v.i).wf = true ∧ (Lit.float .f64 v.f).wf = true := by
  cases v with
  | mk k i f t its nms => rw [wfV] at h; exact ⟨h.1, h.2.1, h.2.2.1⟩
theorem any_deep (n : Nat) (v : Val) : deep (n + 1) v = v.its.any (deep n) := by rw [deep]
end Go.Proofs.YtigbbogfnchgnaaGreatDoor
