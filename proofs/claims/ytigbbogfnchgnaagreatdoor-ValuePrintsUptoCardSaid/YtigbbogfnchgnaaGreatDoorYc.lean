/- A value as an argument: what the row's reading says of memory, with bounds. Conditions: none. -/
import Derived.Test.YtigbbogfnchgnaaGreatDoorYb
import Derived.Test.YtigbbogfnchgnaaGreatDoorLaw
import Derived.Test.YtigbbogfnchgnaaGreatDoorRows
import Derived.DataReads
import Derived.ChangeOld
namespace Go.Proofs.YtigbbogfnchgnaaGreatDoor
open Go.RowKit Go.WideShapes Go.ChangeShapes Go.Deep
set_option linter.unusedVariables false

theorem bndL_le {H : Type} : ∀ (its : List Val) (ds : List (DataW H)), its.length = ds.length → (∀ i (h : i < its.length) (h' : i < ds.length), bnd its[i] ≤ Rows.uptoBulk ds[i]) → bndL its ≤ Rows.uptoBulkAll ds := by
  intro its
  induction its with
  | nil => intro ds _ _; rw [bndL]; omega
  | cons v l ih =>
    intro ds hl h
    cases ds with
    | nil => simp at hl
    | cons d ds =>
      rw [bndL, Rows.uptoBulkAll]
      have h0 := h 0 (by simp) (by simp)
      have h1 := ih ds (by simpa using hl) fun i hi hi' => by
        have := h (i + 1) (by simpa using hi) (by simpa using hi')
        simpa using this
      simp only [List.getElem_cons_zero] at h0
      omega
theorem wfL_of : ∀ (its : List Val), (∀ i (h : i < its.length), wfV its[i]) → wfL its := by
  intro its
  induction its with
  | nil => intro _; rw [wfL]; trivial
  | cons v l ih =>
    intro h
    rw [wfL]
    exact ⟨by have := h 0 (by simp); simpa using this, ih fun i hi => by have := h (i + 1) (by simpa using hi); simpa using this⟩
theorem sum_le_bulk {H : Type} : ∀ (nms : List ByteArray) (ds : List (DataW H)), nms.length = ds.length → (∀ i (h : i < nms.length) (h' : i < ds.length), 1 + (nms[i]).size ≤ Rows.uptoBulk ds[i]) → (nms.map fun s => 1 + s.size).sum ≤ Rows.uptoBulkAll ds := by
  intro nms
  induction nms with
  | nil => intro ds _ _; simp
  | cons v l ih =>
    intro ds hl h
    cases ds with
    | nil => simp at hl
    | cons d ds =>
      rw [Rows.uptoBulkAll, List.map_cons, List.sum_cons]
      have h0 := h 0 (by simp) (by simp)
      have h1 := ih ds (by simpa using hl) fun i hi hi' => by
        have := h (i + 1) (by simpa using hi) (by simpa using hi')
        simpa using this
      simp only [List.getElem_cons_zero] at h0
      omega
theorem list_of {α : Type} {n : Nat} {R : Nat → α → Prop} (h : ∀ i, i < n → ∃ y, R i y) : ∃ l : List α, l.length = n ∧ ∀ i (hi : i < l.length), R i l[i] := by
  induction n with
  | zero => exact ⟨[], rfl, fun i hi => by simp at hi⟩
  | succ n ih =>
    obtain ⟨l, hl, hr⟩ := ih fun i hi => h i (by omega)
    obtain ⟨y, hy⟩ := h n (by omega)
    refine ⟨l ++ [y], by simp [hl], fun i hi => ?_⟩
    rw [List.getElem_append]
    split
    · rename_i h1; exact hr i h1
    · rename_i h1
      have : i = n := by simp at hi; omega
      subst this
      simpa using hy
section
variable {H : Type} {enc : TypeId × Value → H} {P : Program}
theorem rd_vs {W : World} {tV t0 t1 t2 t3 t4 t5 : TypeId} {f0 f1 f2 f3 f4 f5 : Field} (ht : P.underlying tV = some (.struct #[f0, f1, f2, f3, f4, f5])) (hC : P.cellsOf tV = 6)
    (e0 : f0.offset = 0 ∧ P.cellsOf f0.type = 1 ∧ P.underlying f0.type = some (.int .i64)) (e1 : f1.offset = 1 ∧ P.cellsOf f1.type = 1 ∧ P.underlying f1.type = some (.int .i64))
    (e2 : f2.offset = 2 ∧ P.cellsOf f2.type = 1 ∧ P.underlying f2.type = some (.float .f64)) (e3 : f3.offset = 3 ∧ P.cellsOf f3.type = 1 ∧ P.underlying f3.type = some .string)
    (e4 : f4.offset = 4 ∧ P.cellsOf f4.type = 1 ∧ P.underlying f4.type = some (.slice tV)) (e5 : f5.offset = 5 ∧ P.cellsOf f5.type = 1 ∧ P.underlying f5.type = some (.slice t5))
    (hs : P.underlying t5 = some .string) (hs1 : P.cellsOf t5 = 1) :
    ∀ (fuel : Nat) (cs : List Value) (x : DataW H × List MemPlace), DataW.trod enc P W 0 (fun _ => true) true fuel tV cs = some x →
      ∃ v : Val, RdV W W.heap.size v cs ∧ wfV v ∧ bnd v ≤ Rows.uptoBulk x.1 := by
  intro fuel
  induction fuel using Nat.strongRecOn with
  | ind fuel ih =>
    intro cs x h
    obtain ⟨xs, n, rfl, rfl, hl, hxl, hf⟩ := DataW.trod_struct ht h
    rw [hC] at hl
    obtain ⟨u0, u1, u2, u3, u4, u5, rfl⟩ : ∃ u0 u1 u2 u3 u4 u5, cs = [u0, u1, u2, u3, u4, u5] := by
      match cs, hl with
      | [a, b, c, d, e, f], _ => exact ⟨a, b, c, d, e, f, rfl⟩
    obtain ⟨y0, y1, y2, y3, y4, y5, rfl⟩ : ∃ u0 u1 u2 u3 u4 u5, xs = [u0, u1, u2, u3, u4, u5] := by
      match xs, hxl with
      | [a, b, c, d, e, f], _ => exact ⟨a, b, c, d, e, f, rfl⟩
    have g0 := hf 0 f0 rfl
    have g1 := hf 1 f1 rfl
    have g2 := hf 2 f2 rfl
    have g3 := hf 3 f3 rfl
    have g4 := hf 4 f4 rfl
    have g5 := hf 5 f5 rfl
    rw [e0.1, e0.2.1] at g0
    rw [e1.1, e1.2.1] at g1
    rw [e2.1, e2.2.1] at g2
    rw [e3.1, e3.2.1] at g3
    rw [e4.1, e4.2.1] at g4
    rw [e5.1, e5.2.1] at g5
    simp only [List.drop_zero, List.drop_succ_cons, List.take_succ_cons, List.take_zero, List.getElem?_cons_zero, List.getElem?_cons_succ] at g0 g1 g2 g3 g4 g5
    obtain ⟨k, q0, rfl, w0⟩ := DataW.trod_int e0.2.2 g0
    obtain ⟨i, q1, rfl, w1⟩ := DataW.trod_int e1.2.2 g1
    obtain ⟨s, q3, rfl, _⟩ := DataW.trod_string e3.2.2 g3
    have gf : ∃ f, u2 = .float .f64 f ∧ y2 = (.lit (.float .f64 f), []) ∧ (Lit.float .f64 f).wf = true := by
      cases n with
      | zero => simp [DataW.trod] at g2
      | succ n =>
        unfold DataW.trod at g2
        rw [e2.2.2] at g2
        split at g2 <;> simp_all
    obtain ⟨f, rfl, rfl, w2⟩ := gf
    injection q0 with q0
    injection q1 with q1
    injection q3 with q3
    subst q0 q1 q3
    -- items
    have hit : ∃ (A : Option Addr) (c : Nat) (its : List Val), u4 = .slice A its.length c ∧ (∀ i, (h : i < its.length) → ∃ ad cs', A = some ad ∧ ad.block < W.heap.size ∧ (∀ q u, cs'[q]? = some u → W.cell? (ad.add (i * 6 + q)) = some u) ∧ RdV W W.heap.size its[i] cs') ∧ wfL its ∧ bndL its ≤ Rows.uptoBulk y4.1 := by
      rcases DataW.trod_slice e4.2.2 g4 with ⟨q, rfl⟩ | ⟨a, len, cap, elems, rest, m, rfl, q, rfl, hb, hlc, hm, hlen, he, _⟩
      · injection q with q
        subst q
        exact ⟨none, 0, [], rfl, fun i h => by simp at h, by rw [wfL]; trivial, by rw [bndL]; exact Nat.zero_le _⟩
      · injection q with q
        subst q
        rw [hC] at he
        have hex : ∀ i, i < len → ∃ v : Val, (∃ cs', a.block < W.heap.size ∧ (∀ q u, cs'[q]? = some u → W.cell? (a.add (i * 6 + q)) = some u) ∧ RdV W W.heap.size v cs') ∧ wfV v ∧ ∀ d, elems[i]? = some d → bnd v ≤ Rows.uptoBulk d.1 := by
          intro i hi
          have h2 := he i hi
          have hei : elems[i]? = some (elems[i]'(by omega)) := List.getElem?_eq_getElem (by omega)
          rw [hei] at h2
          obtain ⟨cs, hcs, ht'⟩ := Option.bind_eq_some_iff.1 h2
          obtain ⟨v, hr, hw, hbn⟩ := ih m (by omega) cs _ ht'
          have hblk := World.cells?_block hcs (by omega)
          rw [block_of_add] at hblk
          refine ⟨v, ⟨cs, hblk, fun q u hq => ?_, hr⟩, hw, fun d hd => ?_⟩
          · obtain ⟨h5, _, h3⟩ := World.cells?_some hcs
            have hj := (List.getElem?_eq_some_iff.1 hq).1
            have hl6 : cs.length = 6 := by
              obtain ⟨_, _, _, _, e, _⟩ := RdV_iff.1 hr
              rw [e]; rfl
            rw [← add_of_add]
            exact (h3 q (by omega)).trans hq
          · rw [hei] at hd
            obtain rfl := Option.some.inj hd
            exact hbn
        obtain ⟨its, hl2, hr2⟩ := list_of hex
        have hlen2 : its.length = len := hl2
        refine ⟨some a, cap, its, by rw [hlen2], fun i h => ?_, wfL_of its fun i h => (hr2 i h).2.1, ?_⟩
        · obtain ⟨⟨cs', h5, h6, h7⟩, _⟩ := hr2 i h
          exact ⟨a, cs', rfl, h5, h6, h7⟩
        · simp only [Rows.uptoBulk]
          have := bndL_le its (elems.map (·.1)) (by simp; omega) fun i h h' => by
            have := (hr2 i h).2.2 (elems[i]'(by simpa using h')) (List.getElem?_eq_getElem (by simpa using h'))
            simpa using this
          omega
    have hnm : ∃ (A : Option Addr) (c : Nat) (nms : List ByteArray), u5 = .slice A nms.length c ∧ Reads W W.heap.size 1 A nms.length (strs nms) ∧ (nms.map fun s => 1 + s.size).sum ≤ Rows.uptoBulk y5.1 := by
      rcases DataW.trod_slice e5.2.2 g5 with ⟨q, rfl⟩ | ⟨a, len, cap, elems, rest, m, rfl, q, rfl, hb, hlc, hm, hlen, he, _⟩
      · injection q with q
        subst q
        exact ⟨none, 0, [], rfl, Reads.none_, by simp⟩
      · injection q with q
        subst q
        rw [hs1] at he
        have hex : ∀ i, i < len → ∃ t : ByteArray, (a.block < W.heap.size ∧ W.cell? (a.add i) = some (.string t)) ∧ ∀ d, elems[i]? = some d → 1 + t.size ≤ Rows.uptoBulk d.1 := by
          intro i hi
          have h2 := he i hi
          have hei : elems[i]? = some (elems[i]'(by omega)) := List.getElem?_eq_getElem (by omega)
          rw [hei] at h2
          obtain ⟨cs, hcs, ht'⟩ := Option.bind_eq_some_iff.1 h2
          obtain ⟨t, rfl, hx, _⟩ := DataW.trod_string hs ht'
          have hblk := World.cells?_block hcs (by omega)
          rw [block_of_add] at hblk
          refine ⟨t, ⟨hblk, ?_⟩, fun d hd => ?_⟩
          · obtain ⟨_, _, h3⟩ := World.cells?_some hcs
            have := h3 0 (by omega)
            rw [add_of_add, Nat.mul_one, Nat.add_zero] at this
            exact this
          · rw [hei] at hd
            obtain rfl := Option.some.inj hd
            rw [hx]
            show 1 + t.size ≤ t.data.toList.length + 1
            rw [Array.length_toList]
            show 1 + t.data.size ≤ _
            omega
        obtain ⟨nms, hl2, hr2⟩ := list_of hex
        refine ⟨some a, cap, nms, by rw [hl2], ⟨by simp, fun h0 => ⟨a, rfl, (hr2 0 h0).1.1, fun j u hu => ?_⟩⟩, ?_⟩
        · rw [List.getElem?_map] at hu
          rcases hj : nms[j]? with _ | t
          · rw [hj] at hu; simp at hu
          · rw [hj] at hu
            obtain rfl := Option.some.inj hu
            obtain ⟨hjl, rfl⟩ := List.getElem?_eq_some_iff.1 hj
            exact (hr2 j hjl).1.2
        · simp only [Rows.uptoBulk]
          have := sum_le_bulk nms (elems.map (·.1)) (by simp; omega) fun i h h' => by
            have := (hr2 i h).2 (elems[i]'(by simpa using h')) (List.getElem?_eq_getElem (by simpa using h'))
            simpa using this
          omega
    obtain ⟨A, c, its, rfl, hi1, hi2, hi3⟩ := hit
    obtain ⟨A', c', nms, rfl, hn1, hn2⟩ := hnm
    refine ⟨.mk k i f s its nms, RdV_iff.2 ⟨A, A', c, c', rfl, hn1, hi1⟩, ?_, ?_⟩
    · rw [wfV]; exact ⟨w0, w1, w2, hi2⟩
    · rw [bnd]
      simp only [Rows.uptoBulk, Rows.uptoBulkAll, List.map_cons, List.map_nil, Array.length_toList]
      have : s.data.size = s.size := rfl
      omega
end
end Go.Proofs.YtigbbogfnchgnaaGreatDoor
