/- Walks: slices.Clone at texts and at values; what a value's copying has laid so far. Conditions: the rows as they read; at most 1048576 elements. -/
import Derived.Test.YtacnoedhpamdmaaGreatDoorKb
import Derived.Test.YtacnoedhpamdmaaGreatDoorFw1
import Derived.Lib.SliceRun
namespace Go.Proofs.YtacnoedhpamdmaaGreatDoor
open Go.RowKit
set_option linter.unusedVariables false
attribute [local go_sem ↓] Go.wp_at_zero Go.wp_at_succ

theorem vl_info : (Tryz.prog.info? 30).map (fun i => (i.zero, i.size, i.bytes)) = some (some (.agg vz), 6, 88) := by kernel_rfl
theorem st_info : (Tryz.prog.info? 9).map (fun i => (i.zero, i.size, i.bytes)) = some (some (.string ⟨#[]⟩), 1, 16) := by kernel_rfl
theorem reads_nil {w : World} {B size n : Nat} {xs : List Value} (h : Reads w B size none n xs) : n = 0 ∧ xs = [] := by
  have h0 : n = 0 := by
    rcases Nat.eq_zero_or_pos n with h0 | h0
    · exact h0
    · obtain ⟨ad, e, _⟩ := h.2 h0
      cases e
  refine ⟨h0, List.eq_nil_of_length_eq_zero ?_⟩
  rw [h.1, h0, Nat.zero_mul]
theorem c_cloneV (A : Option Addr) (n c : Nat) (xs : List Value) (w : World) (B : Nat) (hr : Reads w B 6 A n xs) (h1 : ∀ u ∈ xs, u.oneCell' = true) (hn : n ≤ 1048576) (hB : B ≤ w.heap.size) :
    Calls Tryz.prog 78 #[.slice A n c] w fun e w' => ∃ v', e = .returned v' ∧ w'.ownsRow w.heap.size 30 6 v' n xs ∧ Below w.heap.size w w' := by
  have qn : ∀ (w : World) (a : Option Addr) (n c n' c' : Nat), (binOp .eql 27 (.slice a n c) (.slice none n' c')).run Tryz.prog w = .ok (.bool a.isNone) w := fun w a n c n' c' => Lib.run_eql_slice_nil w _ _ a n c n' c' Tryz.underlying27
  rcases A with _ | ad
  · obtain ⟨rfl, rfl⟩ := reads_nil hr
    clear hr h1
    go_enter Tryz.func78, Tryz.ntmps78
    go_wp2
    go_ret
    exact ⟨_, rfl, World.ownsRow_nil _ _ _ _, Below.refl _ _⟩
  · obtain ⟨i0, hi0, hz0, hz1, hz2⟩ := info_parts vl_info
    have HR := Lib.hid (hr.alloc hB (.cells #[] 30))
    have H1 := Lib.hid h1
    have HM : Hid ((w.alloc (.cells #[] 30)).ownsRow w.heap.size 30 6 (.slice (some ⟨w.heap.size, 0, none⟩) 0 0) 0 []) := World.ownsRow_made w #[] 0 (Nat.le_refl _) (Nat.zero_le _) (by simp)
    clear hr h1
    go_enter Tryz.func78, Tryz.ntmps78
    go_wp2_with ((refine wpList_append_any _ rfl (.tmp 5) (.tmp 6) 27 rfl w.heap.size 30 i0 _ 6 88 Tryz.underlying27 hi0 hz0 hz1 hz2 rfl (by omega) (.slice (some ⟨w.heap.size, 0, none⟩) 0 0) 0 [] (by simp [Act.eval]) HM.out B (some ad) n c xs (by simp [Act.eval]) HR.out H1.out (by simp only [maxLen]; omega) (by omega) (by simp) ?_); intro v' w1 hown hgrow _)
    have HO : Hid (w1.ownsRow w.heap.size 30 6 v' n xs) := by
      show World.ownsRow _ _ _ _ _ _ _
      simpa using hown
    have HB : Hid (Below w.heap.size w w1) := ((Below.refl _ w).alloc (Nat.le_refl _) _).grown hgrow (by simp) (by intro k hk; simp [Value.ownBlock] at hk; omega)
    clear hown hgrow
    go_wp2
    go_ret
    exact ⟨v', rfl, HO.out, HB.out⟩
theorem c_cloneS (A : Option Addr) (n c : Nat) (xs : List Value) (w : World) (B : Nat) (hr : Reads w B 1 A n xs) (h1 : ∀ u ∈ xs, u.oneCell' = true) (hn : n ≤ 1048576) (hB : B ≤ w.heap.size) :
    Calls Tryz.prog 77 #[.slice A n c] w fun e w' => ∃ v', e = .returned v' ∧ w'.ownsRow w.heap.size 9 1 v' n xs ∧ Below w.heap.size w w' := by
  have qn : ∀ (w : World) (a : Option Addr) (n c n' c' : Nat), (binOp .eql 28 (.slice a n c) (.slice none n' c')).run Tryz.prog w = .ok (.bool a.isNone) w := fun w a n c n' c' => Lib.run_eql_slice_nil w _ _ a n c n' c' Tryz.underlying28
  rcases A with _ | ad
  · obtain ⟨rfl, rfl⟩ := reads_nil hr
    clear hr h1
    go_enter Tryz.func77, Tryz.ntmps77
    go_wp2
    go_ret
    exact ⟨_, rfl, World.ownsRow_nil _ _ _ _, Below.refl _ _⟩
  · obtain ⟨i0, hi0, hz0, hz1, hz2⟩ := info_parts st_info
    have HR := Lib.hid (hr.alloc hB (.cells #[] 9))
    have H1 := Lib.hid h1
    have HM : Hid ((w.alloc (.cells #[] 9)).ownsRow w.heap.size 9 1 (.slice (some ⟨w.heap.size, 0, none⟩) 0 0) 0 []) := World.ownsRow_made w #[] 0 (Nat.le_refl _) (Nat.zero_le _) (by simp)
    clear hr h1
    go_enter Tryz.func77, Tryz.ntmps77
    go_wp2_with ((refine wpList_append_any _ rfl (.tmp 5) (.tmp 6) 28 rfl w.heap.size 9 i0 _ 1 16 Tryz.underlying28 hi0 hz0 hz1 hz2 rfl (by omega) (.slice (some ⟨w.heap.size, 0, none⟩) 0 0) 0 [] (by simp [Act.eval]) HM.out B (some ad) n c xs (by simp [Act.eval]) HR.out H1.out (by simp only [maxLen]; omega) (by omega) (by simp) ?_); intro v' w1 hown hgrow _)
    have HO : Hid (w1.ownsRow w.heap.size 9 1 v' n xs) := by
      show World.ownsRow _ _ _ _ _ _ _
      simpa using hown
    have HB : Hid (Below w.heap.size w w1) := ((Below.refl _ w).alloc (Nat.le_refl _) _).grown hgrow (by simp) (by intro k hk; simp [Value.ownBlock] at hk; omega)
    clear hown hgrow
    go_wp2
    go_ret
    exact ⟨v', rfl, HO.out, HB.out⟩
/-- What the copying of a value has laid so far. -/
structure CpS (w wr : World) (v : Val) (A A' : Option Addr) (c c' ws i : Nat) (F : Nat → Nat → Prop) (cc : Nat → List Value) : Prop where
  box : Blk wr w.heap.size 30 (vcs v A A' c c').toArray
  res : Blk wr (w.heap.size + 1) 30 vz
  names : 0 < v.nms.length → ∃ g cur, A' = some ⟨g, 0, none⟩ ∧ w.heap.size + 2 ≤ g ∧ g < ws ∧ Blk wr g 9 cur ∧ ∀ j, (h : j < v.nms.length) → cur[j]? = some (.string v.nms[j])
  items : 0 < v.its.length → ∃ r cur, A = some ⟨r, 0, none⟩ ∧ w.heap.size + 2 ≤ r ∧ r < ws ∧ Blk wr r 30 cur ∧ v.its.length * 6 ≤ cur.size ∧ (∀ j q u, j < i → (cc j)[q]? = some u → cur[j * 6 + q]? = some u) ∧
    ∀ j, i ≤ j → (h : j < v.its.length) → ∃ cs0, RV w v.its[j] cs0 ∧ ∀ q u, cs0[q]? = some u → cur[j * 6 + q]? = some u
  kids : ∀ j, j < i → (h : j < v.its.length) → Tr wr (F j) v.its[j] (cc j)
  sub : ∀ j, j < i → ∀ x, F j x → ws ≤ x ∧ x < wr.heap.size
  dis : ∀ j j', j < i → j' < i → ∀ x, F j x → F j' x → j = j'
  lo : w.heap.size + 2 ≤ ws
  hi : ws ≤ wr.heap.size
  kp : Below w.heap.size w wr
theorem CpS.next {w wr w1 w2 : World} {v : Val} {A A' : Option Addr} {c c' ws i r : Nat} {F : Nat → Nat → Prop} {cc : Nat → List Value} {cs' : List Value} {cur : Array Value} (h : CpS w wr v A A' c c' ws i F cc) (hi : i < v.its.length)
    (hA : A = some ⟨r, 0, none⟩) (hcur : Blk wr r 30 cur) (hb1 : Below wr.heap.size wr w1) (ht : Tr w1 (fun x => wr.heap.size ≤ x ∧ x < w1.heap.size) v.its[i] cs')
    (hb2 : Blk w2 r 30 (cur.toList.take (i * 6) ++ cs' ++ cur.toList.drop (i * 6 + 6)).toArray) (hg : w1.grownBy w2 (some r)) (hz : w2.heap.size = w1.heap.size) :
    CpS w w2 v A A' c c' ws (i + 1) (fun j x => if j = i then wr.heap.size ≤ x ∧ x < w1.heap.size else F j x) (fun j => if j = i then cs' else cc j) := by
  obtain ⟨r', cur', e, hr0, hr1, hbr, hsz, hold, hrest⟩ := h.items (by omega)
  rw [hA] at e
  injection e with e
  injection e with e
  subst e
  have e2 : cur' = cur := by
    unfold Blk at hbr hcur
    rw [hbr] at hcur
    injection hcur with hcur
    injection hcur with hcur
  subst e2
  have hws := h.hi
  have hlo := h.lo
  have hstep : ∀ x, x < wr.heap.size → x ≠ r → w2.heap[x]? = wr.heap[x]? := fun x hx hne => (hg.block x (Nat.lt_of_lt_of_le hx hb1.size) (fun e => hne (by injection e))).trans (hb1.block x hx)
  refine ⟨(hstep _ (by omega) (by omega)).trans h.box, (hstep _ (by omega) (by omega)).trans h.res, fun h0 => ?_, fun h0 => ⟨r, _, hA, hr0, hr1, hb2, ?_, fun j q u hj hu => ?_, fun j hj hjl => ?_⟩, fun j hj hjl => ?_, fun j hj x hx => ?_, fun j j' hj hj' x hx hx' => ?_, hlo, by have := hb1.size; omega, ?_⟩
  · obtain ⟨g, cu, e, hg0, hg1, hgb, hgc⟩ := h.names h0
    exact ⟨g, cu, e, hg0, hg1, (hstep g (by omega) (hgb.ne_ hbr (by decide))).trans hgb, hgc⟩
  · rw [splice_size ht.six (by omega)]; exact hsz
  · have hq : q < 6 := by
      by_cases hji : j = i
      · rw [if_pos hji] at hu
        have := (List.getElem?_eq_some_iff.1 hu).1
        rw [ht.six] at this; exact this
      · rw [if_neg hji] at hu
        have := (List.getElem?_eq_some_iff.1 hu).1
        rw [(h.kids j (by omega) (by omega)).six] at this; exact this
    rw [splice_at ht.six hi hsz j q hq (by omega)]
    by_cases hji : j = i
    · rw [if_pos hji] at hu ⊢; exact hu
    · rw [if_neg hji] at hu ⊢; exact hold j q u (by omega) hu
  · obtain ⟨cs0, hv, hc⟩ := hrest j (by omega) hjl
    refine ⟨cs0, hv, fun q u hu => ?_⟩
    have hq : q < 6 := by
      have := (List.getElem?_eq_some_iff.1 hu).1
      rw [hv.six.1] at this; exact this
    rw [splice_at ht.six hi hsz j q hq hjl, if_neg (by omega)]
    exact hc q u hu
  · by_cases hji : j = i
    · subst hji
      simp only [if_pos]
      exact ht.keep fun x hx => hg.block x hx.2 (fun e => by injection e with e; omega)
    · rw [if_neg hji]
      rw [show (fun x => if j = i then wr.heap.size ≤ x ∧ x < w1.heap.size else F j x) = F j by funext x; rw [if_neg hji]]
      exact (h.kids j (by omega) hjl).keep fun x hx => hstep x (h.sub j (by omega) x hx).2 (by have := (h.sub j (by omega) x hx).1; omega)
  · have hb1s := hb1.size
    by_cases hji : j = i
    · rw [if_pos hji] at hx; omega
    · rw [if_neg hji] at hx
      have := h.sub j (by omega) x hx
      omega
  · by_cases hji : j = i
    · by_cases hji' : j' = i
      · omega
      · rw [if_pos hji] at hx
        rw [if_neg hji'] at hx'
        have := h.sub j' (by omega) x hx'
        omega
    · rw [if_neg hji] at hx
      by_cases hji' : j' = i
      · rw [if_pos hji'] at hx'
        have := h.sub j (by omega) x hx
        omega
      · rw [if_neg hji'] at hx'
        exact h.dis j j' (by omega) (by omega) x hx hx'
  · have hb := h.kp.trans (hb1.mono h.kp.size)
    exact hb.grown hg hb.size (fun k e => by injection e with e; omega)
theorem CpS.done {w wr : World} {v : Val} {A A' : Option Addr} {c c' ws : Nat} {F : Nat → Nat → Prop} {cc : Nat → List Value} (h : CpS w wr v A A' c c' ws v.its.length F cc) :
    TrI wr (fun x => w.heap.size + 2 ≤ x ∧ x < wr.heap.size) v A A' F cc := by
  have hws := h.hi
  have hlo := h.lo
  refine ⟨fun h0 => ?_, fun h0 => ?_, fun j hj x hx => ?_, fun j j' hj hj' x hx hx' => h.dis j j' hj hj' x hx hx', fun j hj => h.kids j hj hj⟩
  · obtain ⟨g, cu, e, hg0, hg1, hgb, hgc⟩ := h.names h0
    exact ⟨g, cu, e, ⟨hg0, by omega⟩, fun j hj hx => by have := h.sub j hj g hx; omega, hgb, hgc⟩
  · obtain ⟨r, cu, e, hg0, hg1, hgb, hsz, hgc, _⟩ := h.items h0
    exact ⟨r, cu, e, ⟨hg0, by omega⟩, fun j hj hx => by have := h.sub j hj r hx; omega, hgb, hsz, fun j q u hj hu => hgc j q u hj hu⟩
  · have := h.sub j hj x hx
    omega
/-- Cells of all items, one behind the other. -/
theorem flt_six : ∀ (css : List (List Value)), (∀ c ∈ css, c.length = 6) → css.flatten.length = css.length * 6
  | [], _ => rfl
  | c :: l, h => by
    rw [List.flatten_cons, List.length_append, flt_six l (fun x hx => h x (List.mem_cons_of_mem _ hx)), h c List.mem_cons_self, List.length_cons]; omega
theorem flt_get : ∀ (css : List (List Value)) (j q : Nat) (hj : j < css.length), (∀ c ∈ css, c.length = 6) → q < 6 → css.flatten[j * 6 + q]? = (css[j])[q]?
  | [], j, q, hj, _, _ => by simp at hj
  | c :: l, 0, q, _, h, hq => by
    rw [List.flatten_cons, List.getElem?_append_left (by rw [h c List.mem_cons_self]; omega), Nat.zero_mul, Nat.zero_add]; rfl
  | c :: l, j + 1, q, hj, h, hq => by
    have h6 := h c List.mem_cons_self
    rw [List.flatten_cons, List.getElem?_append_right (by omega), h6, show (j + 1) * 6 + q - 6 = j * 6 + q by omega, flt_get l j q (by simpa using hj) (fun x hx => h x (List.mem_cons_of_mem _ hx)) hq]
    rfl
theorem RV.items {w : World} {v : Val} {cs : List Value} (h : RV w v cs) : ∃ A A' c c' css, cs = vcs v A A' c c' ∧ Reads w w.heap.size 1 A' v.nms.length (strs v.nms) ∧ Reads w w.heap.size 6 A v.its.length (List.flatten css) ∧ css.length = v.its.length ∧ (∀ c ∈ css, c.length = 6) ∧ (∀ u ∈ List.flatten css, u.oneCell' = true) ∧
    ∀ j, (h : j < v.its.length) → (h' : j < css.length) → RV w v.its[j] css[j] := by
  obtain ⟨A, A', c, c', e, hn, hop⟩ := h.open_
  rcases Nat.eq_zero_or_pos v.its.length with h0 | h0
  · exact ⟨A, A', c, c', [], e, hn, by rw [h0]; exact ⟨rfl, fun h => absurd h (by omega)⟩, by rw [h0]; rfl, fun c hc => absurd hc (by simp), fun u hu => absurd hu (by simp), fun j hj => absurd hj (by omega)⟩
  · obtain ⟨b, off, rfl, hb, hr⟩ := hop h0
    have hr0 := hr w (Below.refl _ _)
    have hch : ∃ f : Nat → List Value, ∀ j, (hj : j < v.its.length) → RV w v.its[j] (f j) ∧ ∀ q u, (f j)[q]? = some u → w.cell? ⟨b, off + j * 6 + q, none⟩ = some u := by
      refine ⟨fun j => if hj : j < v.its.length then (hr0 j hj).choose else [], fun j hj => ?_⟩
      simp only [dif_pos hj]
      exact (hr0 j hj).choose_spec
    obtain ⟨f, hf⟩ := hch
    have hl : ((List.range v.its.length).map f).length = v.its.length := by simp
    have hg : ∀ j, (h' : j < ((List.range v.its.length).map f).length) → ((List.range v.its.length).map f)[j] = f j := fun j h' => by simp
    have h6 : ∀ c ∈ (List.range v.its.length).map f, c.length = 6 := fun c hc => by
      obtain ⟨j, hj, rfl⟩ := List.mem_map.1 hc
      exact (hf j (List.mem_range.1 hj)).1.six.1
    refine ⟨_, A', c, c', (List.range v.its.length).map f, e, hn, ⟨by rw [flt_six _ h6, hl], fun _ => ⟨_, rfl, hb, fun j u hu => ?_⟩⟩, hl, h6, fun u hu => ?_, fun j hj h' => by rw [hg]; exact (hf j hj).1⟩
    · have hlen : j < v.its.length * 6 := by
        have := (List.getElem?_eq_some_iff.1 hu).1
        rw [flt_six _ h6, hl] at this; exact this
      have hjd : j / 6 * 6 + j % 6 = j := by omega
      have hq : j / 6 < ((List.range v.its.length).map f).length := by rw [hl]; omega
      rw [← hjd, flt_get _ (j / 6) (j % 6) hq h6 (by omega), hg] at hu
      have := (hf (j / 6) (by omega)).2 (j % 6) u hu
      rw [Addr.add_lit]
      rw [show off + j / 6 * 6 + j % 6 = off + j by omega] at this
      exact this
    · obtain ⟨l, hl2, hu2⟩ := List.mem_flatten.1 hu
      obtain ⟨j, hj, rfl⟩ := List.mem_map.1 hl2
      have := (hf j (List.mem_range.1 hj)).1.six.2
      exact List.all_eq_true.1 this u (by simpa using hu2)
end Go.Proofs.YtacnoedhpamdmaaGreatDoor
