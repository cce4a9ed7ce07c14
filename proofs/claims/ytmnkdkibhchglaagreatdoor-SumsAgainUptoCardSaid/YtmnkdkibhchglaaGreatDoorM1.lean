/- A law: a range over a function whose iterator keeps a variable of its own (one block) and hands on a known row of rounds. Conditions: as stated. A bridge: a region that draws its order, walked outside of a round, serves in a round too. Conditions: it defers nothing; its post lets nothing grow out. Plain words: the lines of a text that say something, and where they stand; a list's entries (no walk). Conditions: none. Walks: a text cut at its first line's end, a return trimmed (strings.Cut, strings.TrimSuffix at one byte); the iterator over a text's rows (the function that sums.lines hands back). Conditions: lengths within the reach. The library's contracts for strings.Builder (WriteString, String) laid at this program in plain words. Conditions: none. Walk: a list of entries printed (sums.Print). Conditions: at most 1048576 entries; the library's table of tens as laid. Words for a list's entries as they are read: rows in memory, what a round keeps, the steps of a round's last region. Conditions: none. Plain words: the bridge to a row with a bound on what is read and with laid variables (turned from the kit's two bridges, each for one of them). Conditions: none. -/
import Derived.RangeFuncNested
import Derived.RangeFuncBound
import Derived.RangeFuncCalls
import Derived.RangeFuncLeaves
import Derived.WalkKit
import Derived.OwnWalkIn
import Derived.TacticsInMore
import Derived.LoopNIn
import Derived.LoopIn
import Derived.OrdersIn
import Derived.OrdersHeld
import Derived.Deep.RegionHeld3
import Derived.Test.YtmnkdkibhchglaaGreatDoorTb
import Derived.Lib.Bytealg
import Derived.Test.YtmnkdkibhchglaaGreatDoorTi
import Derived.Shelf.Strings.Builder1
import Derived.Test.YtmnkdkibhchglaaGreatDoorProg
import Derived.Test.YtmnkdkibhchglaaGreatDoorMem2
import Derived.KernelRfl
import Derived.Test.YtmnkdkibhchglaaGreatDoorLsl
import Derived.Test.YtmnkdkibhchglaaGreatDoorTo
import Derived.Great.BuildSlice
import Derived.Great.Walk
import Derived.JoinedCond
import Derived.Deep.CondSized
import Derived.LaidLaws
import Derived.Handed
import Derived.SizedLaws
namespace Go.Proofs.YtmnkdkibhchglaaGreatDoor
open Go.RowKit
set_option linter.unusedVariables false

variable {F : Fence} {n : Nat} {P : Program}
/-- What abides the iterator's own steps: new blocks, and whatever it writes into the block tb. -/
def AbT (tb : Nat) (J : Nat → World → Prop) : Prop := ∀ i W W' row, J i W → W.grownBy W' row → (∀ r, row = some r → r = tb) → J i W'
/-- An iterator that hands on E 0, .., E (N - 1) and keeps its own variable in the block tb. -/
def SeqT (F : Fence) (n : Nat) (P : Program) (g : Nat) (lb : Array Value) (E : Nat → Array Value) (N tb : Nat) (w : World) : Prop :=
  ∀ (l : Nat) (J Jx : Nat → World → Prop) (W : World), Below w.heap.size w W → AbT tb J → AbT tb Jx →
    (∀ i W1, i < N → J i W1 → YieldAt F (n - 1) P l (E i) W1 fun e W' =>
      (e = .returned (.bool true) ∧ J (i + 1) W' ∧ W'.heap[tb]? = W1.heap[tb]?) ∨ (e = .returned (.bool false) ∧ Jx (i + 1) W')) →
    J 0 W →
    CallsIn F n P g (#[.func (.yield l) #[] #[]] ++ lb) W fun e W' => (∃ v, e = .returned v) ∧ (J N W' ∨ ∃ i, i ≤ N ∧ Jx i W')
/-- The caller's own words: they abide the iterator's block and whatever is no cells from B on. -/
def OwnT (B tb : Nat) (I : Nat → World → Prop) : Prop := ∀ i W W' row, I i W → W.grownBy W' row → (∀ r, row = some r → r = tb ∨ (B ≤ r ∧ ∃ o : Obj, W.heap[r]? = some o ∧ o.isCells = false)) → I i W'
theorem OwnT.putObj {B tb : Nat} {I : Nat → World → Prop} (h : OwnT B tb I) {i : Nat} {W : World} {l : Nat} {o : Obj} (o' : Obj) (hs : I i W) (hB : B ≤ l) (hl : W.heap[l]? = some o) (ho : o.isCells = false) : I i (W.putObj l o') :=
  h i W _ (some l) hs (grownBy_putObj' W l o') (fun r e => by cases e; exact .inr ⟨hB, o, hl, ho⟩)
theorem OwnT.alloc {B tb : Nat} {I : Nat → World → Prop} (h : OwnT B tb I) {i : Nat} {W : World} (o : Obj) (hs : I i W) : I i (W.alloc o) :=
  h i W _ none hs (World.grownBy_alloc W o none) (fun r e => by cases e)
/-- How a round's body may be left. -/
def postT (B tb : Nat) (I : Nat → World → Prop) (Ix : Code → Nat → World → Prop) (i : Nat) (W : World) : Exit → Act → World → Prop
  | .normal, _, W' => KeepsFrom B W W' ∧ W'.heap[tb]? = W.heap[tb]? ∧ I i W'
  | .ret, _, W' => KeepsFrom B W W' ∧ Ix .ret i W'
  | .exit id, _, W' => KeepsFrom B W W' ∧ Ix (.exit id) i W'
  | .goto t, _, W' => KeepsFrom B W W' ∧ Ix (.goto t) i W'
  | .panic _, _, _ => False
  | .outgrown, _, _ => False
theorem wpIn_rangeFunc_T {g : Operand} {ps : Array Tmp} {assign body : Code} {Q : Exit → Act → World → Prop} {a : Act} {w : World}
    (hro : F.round = none) (h1 : 1 ≤ n) {gf : Nat} {lb : Array Value} (hg : a.eval g = .func (.func gf) #[] lb) (hFg : F.fn gf) (eg : ∀ args w, (callFunc gf args).run P w = .ok (.enter gf args) w)
    {E : Nat → Array Value} {N tb : Nat} (htb : tb < w.heap.size) (hseq : SeqT F (n - 1) P gf lb E N tb w) (hps : ∀ i, (E i).size = ps.size)
    (I : Nat → World → Prop) (Ix : Code → Nat → World → Prop) (hI : OwnT w.heap.size tb I) (hIx : ∀ c, OwnT w.heap.size tb (Ix c)) (h0 : I 0 w) (a₁ : Nat → Act)
    (hassign : ∀ (l i : Nat) (W : World) (K : Act → World → Prop), K (a₁ i) W →
      assign.wpIn (F.inRound l) (n - 1 - 1) P (Exit.then K (fun _ _ _ => False)) { tmps := (ps.zip (E i)).foldl (fun t (p, v) => t.setIfInBounds p v) a.tmps, defers := [] } W)
    (hbody : ∀ (l i : Nat) (W : World), i < N → I i W → body.wpIn (F.inRound l) (n - 1 - 1) P (postT w.heap.size tb I Ix (i + 1) W) (a₁ i) W)
    (hdone : ∀ (D : Nat) (W : World), w.heap.size ≤ D → I N W → W.heap[D]? = some (.deferred (some [])) → Q .normal { a with defers := { target := .collected D, args := #[] } :: a.defers } W)
    (hstop : ∀ (D : Nat) (c : Code) (i : Nat) (W : World), w.heap.size ≤ D → i ≤ N → Ix c i W → W.heap[D]? = some (.deferred (some [])) → c.wpIn F n P Q { a with defers := { target := .collected D, args := #[] } :: a.defers } W) :
    (Code.rangeFunc g ps assign body).wpIn F n P Q a w := by
  apply wpIn_rangeFunc
  intro fn hfn
  rw [hro]
  obtain ⟨st, hst⟩ : ∃ st : LoopState → Option Code → Obj, st = fun s pe => .loop { state := s, pending := pe, fn, tmps := a.tmps, params := ps, assign, body, defers := w.heap.size } := ⟨_, rfl⟩
  obtain ⟨L, hL⟩ : ∃ L, w.heap.size + 1 = L := ⟨_, rfl⟩
  obtain ⟨V, hV⟩ : ∃ V, (w.alloc (.deferred (some []))).alloc (st .ready none) = V := ⟨_, rfl⟩
  have hLn : V.heap[L]? = some (st .ready none) := by
    have := World.alloc_heap_new (w.alloc (.deferred (some []))) (st .ready none)
    rw [World.size_alloc, hV, hL] at this; exact this
  have hDn : V.heap[w.heap.size]? = some (.deferred (some [])) := by
    rw [← hV, Below.heap_alloc _ _ _ (by simp)]; exact World.alloc_heap_new w _
  have hIn : I 0 V := by rw [← hV]; exact hI.alloc _ (hI.alloc _ h0)
  have hbn : Below w.heap.size w V := by rw [← hV]; exact ((Below.refl _ w).alloc (Nat.le_refl _) _).alloc (by simp) _
  have hcl : ∀ s pe, (st s pe).isCells = false := fun s pe => by rw [hst]; rfl
  refine ⟨L, [{ target := .collected w.heap.size, args := #[] }], V, { target := .fn (.func gf) lb, args := #[.func (.yield L) #[] #[]] }, V, gf, #[.func (.yield L) #[] #[]] ++ lb, V, ?_, ?_, ?_, ?_, fun _ => h1, ?_⟩
  · rw [← hV, hst, ← hL]; exact run_enterLoop_outer _ _ _ _ _
  · simp only [resolve, hg]
    simp [go_sem]
  · intro f' hf'; simp [Target.leads] at hf'; subst hf'; exact hFg
  · simp [invoke, go_sem, eg]
  refine (hseq L (fun i W => I i W ∧ W.heap[L]? = some (st .ready none) ∧ W.heap[w.heap.size]? = some (.deferred (some [])))
      (fun i W => ∃ c, Ix c i W ∧ W.heap[L]? = some (st .done (some c)) ∧ W.heap[w.heap.size]? = some (.deferred (some []))) V hbn ?_ ?_ ?_ ⟨hIn, hLn, hDn⟩).mono ?_
  · -- the caller's words abide the iterator's steps
    intro i A B row hs hg' hr
    have keep : ∀ {k : Nat} {o : Obj}, w.heap.size ≤ k → A.heap[k]? = some o → B.heap[k]? = some o := fun hk ho =>
      (hg'.block _ (Array.getElem?_eq_some_iff.1 ho).1 (fun e => by have := hr _ e.symm; omega)).trans ho
    exact ⟨hI i A B row hs.1 hg' (fun r e => .inl (hr r e)), keep (by omega) hs.2.1, keep (Nat.le_refl _) hs.2.2⟩
  · intro i A B row hs hg' hr
    have keep : ∀ {k : Nat} {o : Obj}, w.heap.size ≤ k → A.heap[k]? = some o → B.heap[k]? = some o := fun hk ho =>
      (hg'.block _ (Array.getElem?_eq_some_iff.1 ho).1 (fun e => by have := hr _ e.symm; omega)).trans ho
    obtain ⟨c, hc, hl, hd⟩ := hs
    exact ⟨c, hIx c i A B row hc hg' (fun r e => .inl (hr r e)), keep (by omega) hl, keep (Nat.le_refl _) hd⟩
  · -- one round
    rintro i W hlt ⟨hi, hl, hd⟩
    have hLs : L < W.heap.size := (Array.getElem?_eq_some_iff.1 hl).1
    have hl' := hl
    rw [hst] at hl'
    refine ⟨fn, _, assign, body, run_yield (P := P) (args := E i) hl' (hps i), roundIn_of_wpIn hfn (hassign _ i W _ ⟨_, run_beginRound hl' rfl, ?_⟩)⟩
    obtain ⟨X, hX⟩ : ∃ X, W.putObj L (st .busy none) = X := ⟨_, rfl⟩
    have hlX : X.heap[L]? = some (st .busy none) := by rw [← hX]; exact World.putObj_heap_same hLs
    have hdX : X.heap[w.heap.size]? = some (.deferred (some [])) := by rw [← hX]; exact (World.putObj_heap_other (by omega)).trans hd
    have htX : X.heap[tb]? = W.heap[tb]? := by rw [← hX]; exact World.putObj_heap_other (by omega)
    have hiX : I i X := by rw [← hX]; exact hI.putObj _ hi (by omega) hl (hcl _ _)
    have fin : ∀ (jump : Option Code) (Y : World), KeepsFrom w.heap.size X Y →
        (Instr.endRound L jump).run P Y = .ok (.bool jump.isNone) (Y.putObj L (st (if jump.isNone then .ready else .done) jump)) ∧ Y.heap[L]? = some (st .busy none) ∧
        (Y.putObj L (st (if jump.isNone then .ready else .done) jump)).heap[L]? = some (st (if jump.isNone then .ready else .done) jump) ∧ (Y.putObj L (st (if jump.isNone then .ready else .done) jump)).heap[w.heap.size]? = some (.deferred (some [])) := fun jump Y hk => by
      have hlY := hk.same _ _ (by omega) hlX (hcl _ _)
      refine ⟨?_, hlY, World.putObj_heap_same (Array.getElem?_eq_some_iff.1 hlY).1, (World.putObj_heap_other (by omega)).trans (hk.same _ _ (Nat.le_refl _) hdX rfl)⟩
      have hlY' := hlY
      rw [hst] at hlY' ⊢
      exact run_endRound (P := P) jump hlY'
    have hgo := hbody L i X hlt hiX
    rw [← hX, hst] at hgo
    refine wpIn_mono hgo ?_
    rw [← hst, hX]
    rintro e a3 Y hp
    cases e with
    | normal =>
      obtain ⟨hk, ht, hiY⟩ := hp
      obtain ⟨hr, hlY, hlZ, hdZ⟩ := fin none Y hk
      exact ⟨_, _, hr, .inl ⟨rfl, ⟨hI.putObj _ hiY (by omega) hlY (hcl _ _), hlZ, hdZ⟩, (World.putObj_heap_other (by omega)).trans (ht.trans htX)⟩⟩
    | ret =>
      obtain ⟨hk, hiY⟩ := hp
      obtain ⟨hr, hlY, hlZ, hdZ⟩ := fin (some .ret) Y hk
      exact ⟨_, _, hr, .inr ⟨rfl, .ret, (hIx _).putObj _ hiY (by omega) hlY (hcl _ _), hlZ, hdZ⟩⟩
    | exit id =>
      obtain ⟨hk, hiY⟩ := hp
      obtain ⟨hr, hlY, hlZ, hdZ⟩ := fin (some (.exit id)) Y hk
      exact ⟨_, _, hr, .inr ⟨rfl, .exit id, (hIx _).putObj _ hiY (by omega) hlY (hcl _ _), hlZ, hdZ⟩⟩
    | goto t =>
      obtain ⟨hk, hiY⟩ := hp
      obtain ⟨hr, hlY, hlZ, hdZ⟩ := fin (some (.goto t)) Y hk
      exact ⟨_, _, hr, .inr ⟨rfl, .goto t, (hIx _).putObj _ hiY (by omega) hlY (hcl _ _), hlZ, hdZ⟩⟩
    | panic ch => exact hp.elim
    | outgrown => exact hp.elim
  · -- behind the iterator
    rintro e W2 ⟨⟨v, rfl⟩, (⟨hi, hl, hd⟩ | ⟨i, hiN, c, hi, hl, hd⟩)⟩
    · have hl' := hl
      rw [hst] at hl'
      have hr := run_endLoop (P := P) hl' (by simp)
      exact ⟨none, _, hr, hdone _ _ (Nat.le_refl _) (hI.putObj _ hi (by omega) hl (hcl _ _)) ((World.putObj_heap_other (by omega)).trans hd)⟩
    · have hl' := hl
      rw [hst] at hl'
      have hr := run_endLoop (P := P) hl' (by simp)
      exact ⟨some c, _, hr, hstop _ c i _ (Nat.le_refl _) hiN ((hIx c).putObj _ hi (by omega) hl (hcl _ _)) ((World.putObj_heap_other (by omega)).trans hd)⟩
end Go.Proofs.YtmnkdkibhchglaaGreatDoor
namespace Go.Proofs.YtmnkdkibhchglaaGreatDoor
open Go.RowKit
set_option linter.unusedVariables false

theorem oper_round {P : Program} {o : Oper} {a : Act} {w : World} {K : Act → World → Prop} {Q : Exit → Act → World → Prop} (n l : Nat) (hd : ∀ c, o.op ≠ .defer c) (h : Oper.wp P o a w K Q) : o.wpIn (Fence.wide.inRound l) n P a w K Q := by
  unfold Oper.wp at h
  unfold Oper.wpIn
  refine ⟨fun _ _ => trivial, ?_⟩
  rw [Fence.inRound_round, Oper.semAt_some l _ _ hd]
  generalize (execOp a.eval o).run P w = r at *
  cases r with
  | ok x w' =>
    cases x <;> simp only [Oper.upon, Oper.uponIn] at h ⊢
    all_goals first
      | exact h
      | exact h.elim
      | exact ⟨fun h => (by cases h), CallsIn.inRound l (callsIn_wide.2 h)⟩
      | exact ⟨fun h => (by cases h), fun c cs _ => let ⟨v, w', r, s⟩ := h c cs; ⟨v, w', r, stepsIn_wide.2 s⟩⟩
  | halt x w' => cases x <;> simp only [Oper.upon, Oper.uponIn] at h ⊢ <;> exact h
theorem wpAny_round {P : Program} {md : Region.Mode} {ops : Array Oper} {Q : Exit → Act → World → Prop} (n l : Nat) (hd : ∀ o ∈ ops.toList, ∀ c, o.op ≠ .defer c) (hlo : ¬ LetsOut Q) :
    ∀ (fuel : Nat) (listed : Array Bool) (a : Act) (w : World), wpAny P md ops Q fuel listed a w → wpAnyIn (Fence.wide.inRound l) n P md ops Q fuel listed a w
  | 0, _, _, _, h => h
  | fuel + 1, listed, a, w, h => by
    refine ⟨h.1, fun i hi => ?_⟩
    have h2 := h.2 i hi
    unfold wpOp at h2
    unfold wpOpIn
    cases ho : ops[i]? with
    | none => rw [ho] at h2; exact wpAny_round n l hd hlo fuel _ _ _ h2
    | some o =>
      rw [ho] at h2
      dsimp only at h2 ⊢
      by_cases hw : Region.wanted o (yielded ops a.tmps) = true
      · rw [if_pos hw] at h2 ⊢
        rcases h2 with h2 | h2
        · exact Oper.wpIn_mono (fun a w hk => wpAny_round n l hd hlo fuel _ a w hk) (oper_round n l (hd o (by simpa using Array.mem_of_getElem? ho)) h2)
        · exact absurd h2.2 hlo
      · rw [if_neg hw] at h2 ⊢
        exact ⟨fun _ _ => trivial, wpAny_round n l hd hlo fuel _ _ _ h2⟩
/-- The region in a round, from its walk with what it keeps. -/
theorem region_round {P : Program} {ops : Array Oper} {S : World → Prop} {Q : Exit → Act → World → Prop} {id : Nat} {a : Act} {w : World} (n l : Nat) (hm : P.follows .mixedOrders = true) (hd : (ops.toList.all fun o => match o.op with | .defer _ => false | _ => true) = true) (hlo : ¬ LetsOut Q)
    (h : wpAnyH P .any ops Q S ops.size (Array.replicate ops.size false) a w.drew) : (Code.region id ops true).wpIn (Fence.wide.inRound l) n P Q a w :=
  wpIn_region_any hm (wpAny_round n l (fun o ho c e => by
    have := List.all_eq_true.1 hd o ho
    rw [e] at this
    cases this) hlo _ _ _ _ (wpAny_of_held _ _ _ _ h))
/-! A region walked order by order, where what is known of the memory hangs on the operation that came last: a load may be taken first as long as what it reads is known behind each operation that does not wait for it. -/
section
variable {P : Program} {ops : Array Oper} {Q : Exit → Act → World → Prop} {md : Region.Mode} {F : Nat → World → Prop}
/-- Whatever order is picked; behind operation i 'F i' holds. -/
def wpAnyF (P : Program) (md : Region.Mode) (ops : Array Oper) (Q : Exit → Act → World → Prop) (F : Nat → World → Prop) : Nat → Array Bool → Act → World → Prop
  | 0, listed, a, w => Region.ready md ops listed = [] ∧ Q .normal a w
  | fuel + 1, listed, a, w => (Region.ready md ops listed = [] → Q .normal a w) ∧
    ∀ i ∈ Region.ready md ops listed, wpOp P ops Q i (fun a' w' => F i w' ∧ wpAnyF P md ops Q F fuel (listed.setIfInBounds i true) a' w') a w
theorem wpAnyF_any : ∀ (fuel : Nat) (listed : Array Bool) (a : Act) (w : World), wpAnyF P md ops Q F fuel listed a w → wpAny P md ops Q fuel listed a w
  | 0, _, _, _, h => h
  | fuel + 1, _, _, _, h => ⟨h.1, fun i hi => wpOp_mono (fun _ _ k => wpAnyF_any fuel _ _ _ k.2) (h.2 i hi)⟩
theorem wpAnyF_first {i : Nat} {oi : Oper} {v : Value} {G : World → Prop} (hi : ops[i]? = some oi) (hs : Region.noSelect ops = true) (hQ : ∀ c a w, Q (.panic c) (a.put oi.dst v) w → Q (.panic c) a w)
    (hFi : ∀ w, G w → F i w) (hG : ∀ j oj w, ops[j]? = some oj → (∀ e ∈ oj.after, Region.binds md e = true → e.on ≠ i) → F j w → G w) :
    ∀ (fuel : Nat) (listed : Array Bool) (a : Act) (w : World),
      (∀ j oj, ops[j]? = some oj → j ≠ i → listed.getD j true = false → (∀ e ∈ oj.after, Region.binds md e = true → e.on ≠ i) → oi.apart ops oj = true) →
      i ∈ Region.ready md ops listed → YieldsIf P ops G oi v a → G w →
      wpAnyF P md ops Q F fuel (listed.setIfInBounds i true) (a.put oi.dst v) w → wpAnyF P md ops Q F (fuel + 1) listed a w
  | 0, listed, a, w, _, hr, hy, hw, H => by
    refine ⟨fun h => (by rw [h] at hr; cases hr), fun j hj => ?_⟩
    by_cases e : j = i
    · subst e; exact hy.wpOp hi hw ⟨hFi w hw, H⟩
    · have := ready_mono hj e
      rw [H.1] at this; cases this
  | fuel + 1, listed, a, w, hfree, hr, hy, hw, H => by
    refine ⟨fun h => (by rw [h] at hr; cases hr), fun j hj => ?_⟩
    by_cases e : j = i
    · subst e; exact hy.wpOp hi hw ⟨hFi w hw, H⟩
    obtain ⟨hun, oj, hoj, hall⟩ := mem_ready.1 hj
    have hno : ∀ x ∈ oj.after, Region.binds md x = true → x.on ≠ i := fun x hx hb he => by
      have h1 := hall x hx hb
      have h0 := (mem_ready.1 hr).1
      rw [he] at h1
      rcases Nat.lt_or_ge i listed.size with h2 | h2
      · simp [h2] at h0 h1; rw [h0] at h1; cases h1
      · simp [Array.getElem?_eq_none h2] at h1
    have hsel := Region.noSelect_spec hs
    have step := wpOp_putIf hoj (hfree j oj hoj e hun hno) (fun cs b => hsel i oi cs b hi) (fun cs b => hsel j oj cs b hoj) hQ hy (H.2 j (ready_mono hj e))
    refine wpOp_mono (fun a' w' k => ⟨k.2.1, wpAnyF_first hi hs hQ hFi hG fuel (listed.setIfInBounds j true) a' w' ?_ (ready_mono hr (Ne.symm e)) k.1 (hG j oj w' hoj hno k.2.1) ?_⟩) step
    · intro m om hm hmi hmu hmn
      refine hfree m om hm hmi ?_ hmn
      by_cases h2 : j = m
      · subst h2; exact hun
      · rw [getD_set_ne true h2] at hmu; exact hmu
    · rw [Array.setIfInBounds_comm _ _ e]
      exact k.2.2
/-- Take number i first. -/
theorem wpAnyF_take {i : Nat} {oi : Oper} {v : Value} {G : World → Prop} {fuel : Nat} {listed : Array Bool} {a : Act} {w : World} (hi : ops[i]? = some oi) (hs : Region.noSelect ops = true) (hf : Region.free md ops listed i = true) (hr : (Region.ready md ops listed).contains i = true)
    (hQ : ∀ c a w, Q (.panic c) (a.put oi.dst v) w → Q (.panic c) a w) (hFi : ∀ w, G w → F i w) (hG : ∀ j oj w, ops[j]? = some oj → (∀ e ∈ oj.after, Region.binds md e = true → e.on ≠ i) → F j w → G w)
    (hy : YieldsIf P ops G oi v a) (hw : G w) (h : wpAnyF P md ops Q F fuel (listed.setIfInBounds i true) (a.put oi.dst v) w) : wpAnyF P md ops Q F (fuel + 1) listed a w :=
  wpAnyF_first hi hs hQ hFi hG fuel listed a w (Region.free_spec hi hf) (by simpa using hr) hy hw h
/-- All that may come now. -/
theorem wpAnyF_nil {fuel : Nat} {listed : Array Bool} {a : Act} {w : World} : ∀ i ∈ ([] : List Nat), wpOp P ops Q i (fun a' w' => F i w' ∧ wpAnyF P md ops Q F fuel (listed.setIfInBounds i true) a' w') a w := fun _ h => by cases h
theorem wpAnyF_cons {fuel : Nat} {listed : Array Bool} {a : Act} {w : World} {i : Nat} {o : Oper} {rs : List Nat} (ho : ops[i]? = some o) (hg : o.guard = none)
    (h : ∀ K : Act → World → Prop, (∀ a w, F i w → wpAnyF P md ops Q F fuel (listed.setIfInBounds i true) a w → K a w) → Oper.wp P o a w K Q)
    (hs : ∀ i ∈ rs, wpOp P ops Q i (fun a' w' => F i w' ∧ wpAnyF P md ops Q F fuel (listed.setIfInBounds i true) a' w') a w) :
    ∀ j ∈ i :: rs, wpOp P ops Q j (fun a' w' => F j w' ∧ wpAnyF P md ops Q F fuel (listed.setIfInBounds j true) a' w') a w := fun j hj => by
  rcases List.mem_cons.1 hj with rfl | hj
  · unfold wpOp
    rw [ho]
    dsimp only
    rw [if_pos (by simp [Region.wanted, hg])]
    exact .inl (h _ (fun _ _ h1 h2 => ⟨h1, h2⟩))
  · exact hs j hj
theorem wpAnyF_all {rs : List Nat} {fuel : Nat} {listed : Array Bool} {a : Act} {w : World} (hr : Region.ready md ops listed = rs) (hne : rs ≠ [])
    (h : ∀ i ∈ rs, wpOp P ops Q i (fun a' w' => F i w' ∧ wpAnyF P md ops Q F fuel (listed.setIfInBounds i true) a' w') a w) : wpAnyF P md ops Q F (fuel + 1) listed a w :=
  ⟨fun h0 => absurd (hr ▸ h0) hne, hr ▸ h⟩
theorem wpAnyF_done {listed : Array Bool} {a : Act} {w : World} (hr : Region.ready md ops listed = []) (h : Q .normal a w) : wpAnyF P md ops Q F 0 listed a w := ⟨hr, h⟩
end
/-- The region in a round, walked so. -/
theorem region_roundF {P : Program} {ops : Array Oper} {F : Nat → World → Prop} {Q : Exit → Act → World → Prop} {id : Nat} {a : Act} {w : World} (n l : Nat) (hm : P.follows .mixedOrders = true) (hd : (ops.toList.all fun o => match o.op with | .defer _ => false | _ => true) = true) (hlo : ¬ LetsOut Q)
    (h : wpAnyF P .any ops Q F ops.size (Array.replicate ops.size false) a w.drew) : (Code.region id ops true).wpIn (Fence.wide.inRound l) n P Q a w :=
  wpIn_region_any hm (wpAny_round n l (fun o ho c e => by
    have := List.all_eq_true.1 hd o ho
    rw [e] at this
    cases this) hlo _ _ _ _ (wpAnyF_any _ _ _ _ h))
end Go.Proofs.YtmnkdkibhchglaaGreatDoor
namespace Go.Proofs.YtmnkdkibhchglaaGreatDoor
open Go.RowKit
set_option linter.unusedVariables false

/-- No line's end. -/
def nlP (c : UInt8) : Bool := c != 10
/-- How long the first line is. -/
def lnk (t : List UInt8) : Nat := cnt nlP t
/-- Without the return at its end. -/
def noCr (l : List UInt8) : List UInt8 := if l.getLast? = some 13 then l.dropLast else l
/-- The first line. -/
def lnF (t : List UInt8) : List UInt8 := if lnk t < t.length then noCr (t.take (lnk t)) else t
/-- Does a line say something? -/
def okR (l : List UInt8) : Bool := match l with | [] => false | c :: _ => c != 35
/-- The lines that say something, with their numbers from n on. -/
def rowsF : Nat → Nat → List UInt8 → List (Nat × List UInt8)
  | 0, _, _ => []
  | f + 1, n, t => if t = [] then [] else (if okR (lnF t) then [(n, lnF t)] else []) ++ rowsF f (n + 1) (t.drop (lnk t + 1))
theorem rowsF_more : ∀ (f g n : Nat) (t : List UInt8), t.length ≤ f → t.length ≤ g → rowsF f n t = rowsF g n t
  | 0, g, n, t, h, _ => by
    obtain rfl := List.eq_nil_of_length_eq_zero (Nat.le_zero.1 h)
    cases g <;> simp [rowsF]
  | f + 1, 0, n, t, _, h => by
    obtain rfl := List.eq_nil_of_length_eq_zero (Nat.le_zero.1 h)
    simp [rowsF]
  | f + 1, g + 1, n, t, hf, hg => by
    unfold rowsF
    by_cases ht : t = []
    · rw [if_pos ht, if_pos ht]
    · rw [if_neg ht, if_neg ht]
      have hl : 0 < t.length := List.length_pos_iff.2 ht
      rw [rowsF_more f g (n + 1) (t.drop (lnk t + 1)) (by rw [List.length_drop]; omega) (by rw [List.length_drop]; omega)]
def rowsA (n : Nat) (t : List UInt8) : List (Nat × List UInt8) := rowsF t.length n t
theorem rowsA_nil (n : Nat) : rowsA n [] = [] := rfl
theorem rowsA_cons (n : Nat) {t : List UInt8} (h : t ≠ []) : rowsA n t = (if okR (lnF t) then [(n, lnF t)] else []) ++ rowsA (n + 1) (t.drop (lnk t + 1)) := by
  have hl : 0 < t.length := List.length_pos_iff.2 h
  unfold rowsA
  obtain ⟨f, hf⟩ : ∃ f, t.length = f + 1 := ⟨t.length - 1, by omega⟩
  rw [hf]
  show rowsF (f + 1) n t = _
  conv => lhs; unfold rowsF
  rw [if_neg h, rowsF_more f _ (n + 1) (t.drop (lnk t + 1)) (by rw [List.length_drop]; omega) (Nat.le_refl _)]
theorem lnF_len (t : List UInt8) : (lnF t).length ≤ t.length := by
  unfold lnF noCr
  split
  · split
    · rw [List.length_dropLast, List.length_take]; omega
    · rw [List.length_take]; omega
  · exact Nat.le_refl _
/-- What is known of each row. -/
theorem rowsF_mem : ∀ (f n : Nat) (t : List UInt8), t.length ≤ f → ∀ x ∈ rowsF f n t, n ≤ x.1 ∧ x.1 < n + t.length ∧ x.2.length ≤ t.length
  | 0, n, t, h => by intro x hx; simp [rowsF] at hx
  | f + 1, n, t, h => by
    intro x hx
    unfold rowsF at hx
    by_cases ht : t = []
    · rw [if_pos ht] at hx; cases hx
    rw [if_neg ht] at hx
    have hl : 0 < t.length := List.length_pos_iff.2 ht
    rcases List.mem_append.1 hx with hx | hx
    · split at hx
      · rw [List.mem_singleton.1 hx]
        exact ⟨Nat.le_refl _, by omega, lnF_len t⟩
      · cases hx
    · have h2 := rowsF_mem f (n + 1) (t.drop (lnk t + 1)) (by rw [List.length_drop]; omega) x hx
      rw [List.length_drop] at h2
      omega
theorem rowsF_len : ∀ (f n : Nat) (t : List UInt8), t.length ≤ f → (rowsF f n t).length ≤ t.length
  | 0, n, t, h => by simp [rowsF]
  | f + 1, n, t, h => by
    unfold rowsF
    by_cases ht : t = []
    · rw [if_pos ht]; exact Nat.zero_le _
    rw [if_neg ht, List.length_append]
    have hl : 0 < t.length := List.length_pos_iff.2 ht
    have h2 := rowsF_len f (n + 1) (t.drop (lnk t + 1)) (by rw [List.length_drop]; omega)
    rw [List.length_drop] at h2
    have h3 : (if okR (lnF t) = true then [(n, lnF t)] else []).length ≤ 1 := by split <;> simp
    omega
/-- A text's rows. -/
def rowsS (t : List UInt8) : List (Nat × List UInt8) := rowsA 1 t
theorem rowsS_len (t : List UInt8) : (rowsS t).length ≤ t.length := rowsF_len _ _ _ (Nat.le_refl _)
theorem rowsS_get {t : List UInt8} {i : Nat} {x : Nat × List UInt8} (h : (rowsS t)[i]? = some x) : x.1 ≤ t.length ∧ x.2.length ≤ t.length := by
  have := rowsF_mem t.length 1 t (Nat.le_refl _) x (List.mem_of_getElem? h)
  omega
theorem indexByte10 (t : List UInt8) : Lib.indexByte t 10 = if lnk t < t.length then (lnk t : Int) else -1 := by
  unfold lnk
  induction t with
  | nil => rfl
  | cons c t ih =>
    unfold Lib.indexByte cnt
    by_cases hc : c = 10
    · subst hc
      simp [nlP]
    · have h1 : (c == 10) = false := by simpa using hc
      have h2 : nlP c = true := by simpa [nlP] using hc
      rw [h1, h2, ih]
      simp only [Bool.false_eq_true, if_false, if_true, List.length_cons]
      by_cases hl : cnt nlP t < t.length
      · have h3 : (((cnt nlP t : Nat) : Int) == -1) = false := by
          rw [Bool.eq_false_iff]; intro h; have := eq_of_beq h; omega
        have h4 : cnt nlP t + 1 < t.length + 1 := by omega
        simp only [hl, if_true, h3, Bool.false_eq_true, if_false, h4]
        rfl
      · have h4 : ¬ cnt nlP t + 1 < t.length + 1 := by omega
        simp only [hl, if_false, h4]
        rfl
theorem trim13 (l : List UInt8) : Lib.trimSuffix l [13] = noCr l := by
  unfold Lib.trimSuffix Lib.hasSuffix noCr
  by_cases hl : l.getLast? = some 13
  · rw [if_pos hl]
    obtain ⟨m, rfl⟩ : ∃ m, l = m ++ [13] := by
      obtain ⟨m, hm⟩ := List.getLast?_eq_some_iff.1 hl
      exact ⟨m, hm⟩
    have : ([13] : List UInt8).isSuffixOf (m ++ [13]) = true := List.isSuffixOf_iff_suffix.2 (List.suffix_append _ _)
    rw [if_pos this]
    simp
  · rw [if_neg hl]
    have : ¬ ([13] : List UInt8).isSuffixOf l = true := by
      intro h
      obtain ⟨m, rfl⟩ := List.isSuffixOf_iff_suffix.1 h
      exact hl (by simp)
    rw [if_neg this]
/-- A row's text, as a string. -/
abbrev rowB (x : Nat × List UInt8) : ByteArray := ⟨x.2.toArray⟩
/-- A row that can't be read: its number; or all entries. -/
def listF (p : Int) : List (Nat × List UInt8) → Nat ⊕ List (Sm × Nat)
  | [] => .inr []
  | x :: l => if (rdA (rowB x) p).2.2 ≠ 0 then .inl x.1 else match listF p l with | .inl n => .inl n | .inr es => .inr (((rdA (rowB x) p).1, x.1) :: es)
/-- All rows of a list can be read. -/
def okL (p : Int) (l : List (Nat × List UInt8)) : Prop := ∀ x ∈ l, (rdA (rowB x) p).2.2 = 0
/-- The entries of rows. -/
def entL (p : Int) (l : List (Nat × List UInt8)) : List (Sm × Nat) := l.map fun x => ((rdA (rowB x) p).1, x.1)
theorem listF_ok {p : Int} {l : List (Nat × List UInt8)} (h : okL p l) : listF p l = .inr (entL p l) := by
  induction l with
  | nil => rfl
  | cons x l ih =>
    unfold listF
    rw [if_neg (by simpa using h x List.mem_cons_self), ih (fun y hy => h y (List.mem_cons_of_mem _ hy))]
    rfl
theorem listF_bad {p : Int} {l m : List (Nat × List UInt8)} {x : Nat × List UInt8} (h : okL p l) (hx : (rdA (rowB x) p).2.2 ≠ 0) : listF p (l ++ x :: m) = .inl x.1 := by
  induction l with
  | nil => unfold listF; exact if_pos hx
  | cons y l ih =>
    show listF p (y :: (l ++ x :: m)) = _
    unfold listF
    rw [if_neg (by simpa using h y List.mem_cons_self), ih (fun z hz => h z (List.mem_cons_of_mem _ hz))]
/-- The answer of List: entries, numbers, an error. -/
def lsA (t : List UInt8) (p : Int) : List Sm × List Nat × Int :=
  if smost p = 0 then ([], [], 1) else match listF p (rowsS t) with
    | .inl n => ([], [n], 260)
    | .inr es => if 65536 < es.length then ([], [], 2) else (es.map (·.1), es.map (·.2), 0)
end Go.Proofs.YtmnkdkibhchglaaGreatDoor
namespace Go.Proofs.YtmnkdkibhchglaaGreatDoor
open Go.RowKit Go.Shelf
set_option linter.unusedVariables false
attribute [local go_sem ↓] Go.wp_at_zero Go.wp_at_succ

theorem c_sIndexByte (t : ByteArray) (w : World) : Calls Tryz.prog 76 #[.string t, .int .u8 10] w fun e w' => e = .returned (.int .i64 (Lib.indexByte t.data.toList 10)) ∧ w' = w :=
  Any.stringslite_IndexByte { lays137 with } t 10 w
theorem is10 {t : ByteArray} (h : (([10] : List UInt8) == t.toList) = true) : Lib.indexByte t.data.toList 10 = 0 := by
  have h2 : [10] = t.toList := by simpa using h
  rw [← toList_data, ← h2]; rfl
theorem c_sIndex10 (t : ByteArray) (w : World) : Calls Tryz.prog 60 #[.string t, .string ⟨#[10]⟩] w fun e w' => e = .returned (.int .i64 (Lib.indexByte t.data.toList 10)) ∧ w' = w := by
  have HI := Lib.hid (fun W => c_sIndexByte t W)
  have H0 := Lib.hid (fun h => is10 (t := t) h)
  generalize Lib.indexByte t.data.toList 10 = i at *
  go_enter Tryz.func60, Tryz.ntmps60
  go_wp2_with (go_at_call 76; refine (HI.out _).mono ?_; rintro e w' ⟨rfl, rfl⟩)
  all_goals go_ret
  · rename_i h
    exact ⟨by rw [H0.out h]; rfl, rfl⟩
  · exact ⟨rfl, rfl⟩
/-- The first line and what stands behind it. -/
theorem lnk_le (t : List UInt8) : lnk t ≤ t.length := cnt_le _ _
theorem c_Cut10 (t : ByteArray) (ht : t.size ≤ 140737488351232) (w : World) : Calls Tryz.prog 22 #[.string t, .string ⟨#[10]⟩] w fun e w' =>
    e = .returned (.tuple #[bstr (t.data.toList.take (lnk t.data.toList)), bstr (t.data.toList.drop (lnk t.data.toList + 1)), .bool (decide (lnk t.data.toList < t.data.toList.length))]) ∧ Below w.heap.size w w' := by
  have HI : Hid (∀ W, Calls Tryz.prog 60 #[.string t, .string ⟨#[10]⟩] W fun e w' => e = .returned (.int .i64 (if lnk t.data.toList < t.data.toList.length then (lnk t.data.toList : Int) else -1)) ∧ W = w') := fun W => (c_sIndex10 t W).mono fun _ _ ⟨h1, h2⟩ => ⟨by rw [h1, indexByte10], h2.symm⟩
  have hle := lnk_le t.data.toList
  have hsz : t.data.toList.length = t.size := rfl
  by_cases hlt : lnk t.data.toList < t.data.toList.length
  · rw [if_pos hlt] at HI
    have HS1 : Hid (t.extract 0 (lnk t.data.toList) = ⟨(t.data.toList.take (lnk t.data.toList)).toArray⟩) := ba_eq (by
      have := ext_list t 0 (lnk t.data.toList)
      rwa [Nat.zero_add, List.drop_zero] at this)
    have HS2 : Hid (t.extract (lnk t.data.toList + 1) t.size = ⟨(t.data.toList.drop (lnk t.data.toList + 1)).toArray⟩) := ba_eq (ext_drop t _ (by omega))
    rw [decide_eq_true hlt]
    have g1 : (lnk t.data.toList : Int) + 1 ≤ (t.size : Int) := by omega
    generalize t.data.toList.take (lnk t.data.toList) = a at *
    generalize t.data.toList.drop (lnk t.data.toList + 1) = b at *
    generalize lnk t.data.toList = k at *
    have g2 : (k : Int) ≤ (t.size : Int) := by omega
    have HC : Hid (∀ W, Calls Tryz.prog 38 #[.string t, .string ⟨#[10]⟩] W fun e w' => e = .returned (.tuple #[bstr a, bstr b, .bool true]) ∧ Below W.heap.size W w') := fun W => by
      clear hle hlt hsz
      go_enter Tryz.func38, Tryz.ntmps38
      go_wp2_with (go_at_call 60; refine (HI.out _).mono ?_; rintro e w' ⟨rfl, rfl⟩)
      go_quiet (fail)
      go_wp2_with fail
      go_ret3
      exact ⟨by show Ending.returned (.tuple #[.string (t.extract 0 k), .string (t.extract (k + 1) t.size), .bool true]) = _; rw [HS1.out, HS2.out], below_drewN (Below.refl _ _) _⟩
    go_enter Tryz.func22, Tryz.ntmps22
    go_wp2_with (go_at_call 38; refine (HC.out _).mono ?_; rintro e w1 ⟨rfl, hb⟩)
    go_ret3
    exact ⟨rfl, hb⟩
  · rw [if_neg hlt] at HI
    rw [decide_eq_false hlt]
    have HS1 : Hid (t.data.toList.take (lnk t.data.toList) = t.data.toList ∧ t.data.toList.drop (lnk t.data.toList + 1) = []) := ⟨List.take_of_length_le (by omega), List.drop_eq_nil_of_le (by omega)⟩
    rw [HS1.out.1, HS1.out.2]
    have HC : Hid (∀ W, Calls Tryz.prog 38 #[.string t, .string ⟨#[10]⟩] W fun e w' => e = .returned (.tuple #[bstr t.data.toList, bstr [], .bool false]) ∧ W = w') := fun W => by
      clear hle hlt hsz
      go_enter Tryz.func38, Tryz.ntmps38
      go_wp2_with (go_at_call 60; refine (HI.out _).mono ?_; rintro e w' ⟨rfl, rfl⟩)
      go_ret3
      exact ⟨by rw [show bstr t.data.toList = .string t from congrArg Value.string (ba_eq rfl).symm]; rfl, rfl⟩
    go_enter Tryz.func22, Tryz.ntmps22
    go_wp2_with (go_at_call 38; refine (HC.out _).mono ?_; rintro e w1 ⟨rfl, rfl⟩)
    go_ret3
    exact ⟨rfl, Below.refl _ _⟩
theorem c_Trim13 (l : List UInt8) (hl : l.length ≤ 140737488351232) (w : World) : Calls Tryz.prog 23 #[bstr l, .string ⟨#[13]⟩] w fun e w' => e = .returned (bstr (noCr l)) ∧ w = w' :=
  (Any.strings_TrimSuffix lays102 ⟨l.toArray⟩ ⟨#[13]⟩ w (by show l.length ≤ _; omega)).mono fun e w' ⟨h1, h2⟩ => ⟨by rw [h1, ← trim13], h2.symm⟩
/-- A row's number, its text. -/
def rN (XS : List (Nat × List UInt8)) (i : Nat) : Nat := (XS.getD i (0, [])).1
def rT (XS : List (Nat × List UInt8)) (i : Nat) : List UInt8 := (XS.getD i (0, [])).2
/-- What the iterator hands on at round i. -/
def rowE (XS : List (Nat × List UInt8)) (i : Nat) : Array Value := #[.int .i64 (rN XS i : Int), bstr (rT XS i)]
theorem rowE_size (XS : List (Nat × List UInt8)) (i : Nat) : (rowE XS i).size = 2 := rfl
/-- How long the text in a cell is. -/
noncomputable def txtLen (w : World) (tb : Nat) : Nat := match w.cell? ⟨tb, 0, none⟩ with | some (.string s) => s.size | _ => 0
set_option maxRecDepth 100000 in
set_option maxHeartbeats 4000000 in
theorem lines_seq (n : Nat) (T : ByteArray) (hT : T.size ≤ 140737488351232) (tb : Nat) (w : World) (hb : Blk w tb 9 #[.string T]) :
    SeqT Fence.wide n Tryz.prog 21 #[.pointer (some ⟨tb, 0, none⟩)] (rowE (rowsS T.data.toList)) (rowsS T.data.toList).length tb w := by
  intro l J Jx W hW hJ hJx hY h0
  have HB0 : Hid (Blk W tb 9 #[.string T]) := hb.below hW hb.lt
  obtain ⟨XS, hXS⟩ : ∃ XS, rowsS T.data.toList = XS := ⟨_, rfl⟩
  rw [hXS] at hY ⊢
  have HXS := Lib.hid hXS
  have hCut := Lib.hid (fun (t : ByteArray) (ht : t.size ≤ 140737488351232) W => c_Cut10 t ht W)
  clear hb hW hXS
  refine callsIn_of_wp Tryz.func21 rfl trivial ?_ rfl
  simp only [Tryz.ntmps21, List.size_toArray, List.length_cons, List.length_nil, Nat.reduceAdd, Nat.reduceSub, Array.replicate_succ, Array.replicate_zero, List.push_toArray, List.append_toArray, List.nil_append, List.cons_append]
  gi_wp2
  gi_loopw [3] (fun p wr => ∃ (k i : Nat) (t : List UInt8), p = .int .i64 (k : Int) ∧ 1 ≤ k ∧ k + t.length ≤ T.size + 1 ∧ i ≤ XS.length ∧ Hid (rowsA k t = XS.drop i) ∧ Hid (Blk wr tb 9 #[bstr t]) ∧ Hid (J i wr))
    (fun p wr => txtLen wr tb)
  case atStart =>
    refine ⟨1, 0, T.data.toList, rfl, Nat.le_refl _, by show 1 + T.size ≤ _; omega, Nat.zero_le _, ?_, ?_, h0⟩
    · show _ = _
      rw [← HXS.out]; rfl
    · have : (⟨T.data.toList.toArray⟩ : ByteArray) = T := (ba_eq rfl).symm
      show Blk W tb 9 #[.string ⟨T.data.toList.toArray⟩]
      rw [this]; exact HB0.out
  case round =>
    obtain ⟨k, i, t, rfl, hk1, hk, hi, HR, HB, HJ⟩ := hrel
    have hc1 := HB.out.cell 0
    have hf1 := HB.out.frozen 0
    by_cases ht : t = []
    · subst ht
      have hiN : i = XS.length := by
        have h1 : XS.drop i = [] := HR.out.symm
        have := List.drop_eq_nil_iff.1 h1
        omega
      subst hiN
      clear hCut
      gi_wp2
      go_end0
      exact ⟨⟨_, rfl⟩, .inl HJ.out⟩
    have htl : 0 < t.length := List.length_pos_iff.2 ht
    have e0 : t.isEmpty = false := by rw [List.isEmpty_eq_false_iff]; exact ht
    have HR1 := HR.out
    rw [rowsA_cons k ht] at HR1
    have hCt := hCut.out ⟨t.toArray⟩ (by show t.length ≤ _; omega)
    rw [ba_mk] at hCt
    have HCt := Lib.hid hCt
    have hLF : lnF t = if lnk t < t.length then noCr (t.take (lnk t)) else t.take (lnk t) := by
      unfold lnF
      split
      · rfl
      · exact (List.take_of_length_le (by omega)).symm
    have HLF := Lib.hid hLF
    have hLN := lnF_len t
    have hTl : (t.take (lnk t)).length ≤ 140737488351232 := by rw [List.length_take]; omega
    have HTR := Lib.hid (fun W => c_Trim13 (t.take (lnk t)) hTl W)
    have hbl : (t.drop (lnk t + 1)).length < t.length := by rw [List.length_drop]; omega
    have HTX : Hid (txtLen wr tb = t.length) := by
      show _ = _
      unfold txtLen; rw [hc1]; rfl
    have HR2 := Lib.hid HR1
    clear hLF hCt hCut HXS HR HR1 ht hTl
    generalize t.take (lnk t) = a at *
    generalize t.drop (lnk t + 1) = b at *
    generalize lnF t = s at *
    by_cases hok : okR s = true
    · rw [if_pos hok] at HR2
      have h2 : (k, s) :: rowsA (k + 1) b = XS.drop i := HR2.out
      have hilt : i < XS.length := by
        rcases Nat.lt_or_ge i XS.length with h | h
        · exact h
        · rw [List.drop_eq_nil_of_le h] at h2; cases h2
      rw [List.drop_eq_getElem_cons hilt] at h2
      injection h2 with h3 h4
      have hE : rowE XS i = #[.int .i64 (k : Int), bstr s] := by
        unfold rowE rN rT
        rw [List.getD_eq_getElem?_getD, List.getElem?_eq_getElem hilt, ← h3]; rfl
      have HR3 : Hid (rowsA (k + 1) b = XS.drop (i + 1)) := h4
      have hsl : 0 < s.length := by
        cases s with
        | nil => cases hok
        | cons c m => simp
      have hsn : ¬ s = [] := List.length_pos_iff.1 hsl
      have hyes : ∀ h : 0 < (⟨s.toArray⟩ : ByteArray).size, ¬ (((⟨s.toArray⟩ : ByteArray)[0]'h).toNat : Int) = 35 := fun h hc => by
        cases s with
        | nil => cases hok
        | cons c m =>
          have h5 : (c.toNat : Int) = 35 := hc
          have h6 : c = 35 := UInt8.toNat_inj.1 (by show c.toNat = 35; omega)
          subst h6
          cases hok
      clear h3 h4 HR2 hok
      by_cases hen : lnk t < t.length
      · rw [decide_eq_true hen] at HCt
        rw [if_pos hen] at HLF
        have hsa : s = noCr a := HLF.out
        rw [← hsa] at HTR
        clear hen HLF hsa
        gi_wp2_with (first | (refine ⟨trivial, fun h => (by cases h), ?_⟩; gi_at_call 22; refine (callsIn_wide.2 (HCt.out _)).mono ?_; rintro e w1 ⟨rfl, hb1⟩; have HB1 := Lib.hid (HB.out.below hb1 HB.out.lt); have HJ1 := Lib.hid (hJ i wr w1 none HJ.out (only_of_below hb1 none) (by simp)); have hc2 := HB1.out.cell 0; have hf2 := HB1.out.frozen 0; have HB2 : Hid (Blk (w1.setCell ⟨tb, 0, none⟩ (bstr b)) tb 9 #[bstr b]) := HB1.out.set_ 0 _; have HJ2 : Hid (J i (w1.setCell ⟨tb, 0, none⟩ (bstr b))) := hJ i w1 _ (some tb) HJ1.out (grown_setCell w1 tb 0 (bstr b)) (fun r e => (Option.some.inj e).symm); obtain ⟨fn, tmps, assign, body, hy, hR⟩ := hY i (w1.setCell ⟨tb, 0, none⟩ (bstr b)) hilt HJ2.out; rw [hE] at hy; clear hb1 hc1 hf1) | (refine ⟨trivial, fun h => (by cases h), ?_⟩; gi_at_call 23; refine (callsIn_wide.2 (HTR.out _)).mono ?_; rintro e w2 ⟨rfl, rfl⟩))
        all_goals (first
          | (exfalso; first | omega | (rename_i h1 _ _ _ _ _; exact hyes h1) | (rename_i h1; exact hyes h1) | contradiction)
          | skip)
        refine ⟨fun h => (by cases h), hR.mono ?_⟩
        rintro e W3 (⟨rfl, hJ3, hk3⟩ | ⟨rfl, hJx3⟩)
        · have HB3 : Hid (Blk W3 tb 9 #[bstr b]) := hk3.trans HB2.out
          gi_wp2
          go_roundw
          case rel => exact ⟨k + 1, i + 1, b, by go_num, by omega, by omega, by omega, HR3.out, HB3.out, hJ3⟩
          case measure =>
            have hm : txtLen W3 tb = b.length := by unfold txtLen; rw [HB3.out.cell 0]; rfl
            refine Nat.lt_of_le_of_lt (Nat.le_of_eq hm) ?_
            rw [HTX.out]
            exact hbl
        · gi_wp2
          case roundEnd =>
            exfalso
            rename_i h1
            rcases h1 with h1 | h1
            · simp [hsn] at h1
            · exact hyes _ (by simpa using h1)
          refine bodyPost_ret (results_none rfl _ _ _) rfl ?_
          exact ⟨⟨_, rfl⟩, .inr ⟨i + 1, by omega, hJx3⟩⟩
      · rw [decide_eq_false hen] at HCt
        rw [if_neg hen] at HLF
        obtain rfl : s = a := HLF.out
        clear hen HLF HTR
        gi_wp2_with (first | (refine ⟨trivial, fun h => (by cases h), ?_⟩; gi_at_call 22; refine (callsIn_wide.2 (HCt.out _)).mono ?_; rintro e w1 ⟨rfl, hb1⟩; have HB1 := Lib.hid (HB.out.below hb1 HB.out.lt); have HJ1 := Lib.hid (hJ i wr w1 none HJ.out (only_of_below hb1 none) (by simp)); have hc2 := HB1.out.cell 0; have hf2 := HB1.out.frozen 0; have HB2 : Hid (Blk (w1.setCell ⟨tb, 0, none⟩ (bstr b)) tb 9 #[bstr b]) := HB1.out.set_ 0 _; have HJ2 : Hid (J i (w1.setCell ⟨tb, 0, none⟩ (bstr b))) := hJ i w1 _ (some tb) HJ1.out (grown_setCell w1 tb 0 (bstr b)) (fun r e => (Option.some.inj e).symm); obtain ⟨fn, tmps, assign, body, hy, hR⟩ := hY i (w1.setCell ⟨tb, 0, none⟩ (bstr b)) hilt HJ2.out; rw [hE] at hy; clear hb1 hc1 hf1))
        all_goals (first
          | (exfalso; first | omega | (rename_i h1 _ _ _ _ _; exact hyes h1) | (rename_i h1; exact hyes h1) | contradiction)
          | skip)
        refine ⟨fun h => (by cases h), hR.mono ?_⟩
        rintro e W3 (⟨rfl, hJ3, hk3⟩ | ⟨rfl, hJx3⟩)
        · have HB3 : Hid (Blk W3 tb 9 #[bstr b]) := hk3.trans HB2.out
          gi_wp2
          go_roundw
          case rel => exact ⟨k + 1, i + 1, b, by go_num, by omega, by omega, by omega, HR3.out, HB3.out, hJ3⟩
          case measure =>
            have hm : txtLen W3 tb = b.length := by unfold txtLen; rw [HB3.out.cell 0]; rfl
            refine Nat.lt_of_le_of_lt (Nat.le_of_eq hm) ?_
            rw [HTX.out]
            exact hbl
        · gi_wp2
          case roundEnd =>
            exfalso
            rename_i h1
            rcases h1 with h1 | h1
            · simp [hsn] at h1
            · exact hyes _ (by simpa using h1)
          refine bodyPost_ret (results_none rfl _ _ _) rfl ?_
          exact ⟨⟨_, rfl⟩, .inr ⟨i + 1, by omega, hJx3⟩⟩
    · rw [if_neg hok] at HR2
      have HR3 : Hid (rowsA (k + 1) b = XS.drop i) := HR2.out
      clear HR2 hY
      by_cases hsn : s = []
      · have hno : True := trivial
        clear hok
        by_cases hen : lnk t < t.length
        · rw [decide_eq_true hen] at HCt
          rw [if_pos hen] at HLF
          have hsa : s = noCr a := HLF.out
          rw [← hsa] at HTR
          clear hen HLF hsa
          gi_wp2_with (first | (refine ⟨trivial, fun h => (by cases h), ?_⟩; gi_at_call 22; refine (callsIn_wide.2 (HCt.out _)).mono ?_; rintro e w1 ⟨rfl, hb1⟩; have HB1 := Lib.hid (HB.out.below hb1 HB.out.lt); have HJ1 := Lib.hid (hJ i wr w1 none HJ.out (only_of_below hb1 none) (by simp)); have hc2 := HB1.out.cell 0; have hf2 := HB1.out.frozen 0; have HB2 : Hid (Blk (w1.setCell ⟨tb, 0, none⟩ (bstr b)) tb 9 #[bstr b]) := HB1.out.set_ 0 _; have HJ2 : Hid (J i (w1.setCell ⟨tb, 0, none⟩ (bstr b))) := hJ i w1 _ (some tb) HJ1.out (grown_setCell w1 tb 0 (bstr b)) (fun r e => (Option.some.inj e).symm); clear hb1 hc1 hf1) | (refine ⟨trivial, fun h => (by cases h), ?_⟩; gi_at_call 23; refine (callsIn_wide.2 (HTR.out _)).mono ?_; rintro e w2 ⟨rfl, rfl⟩))
          all_goals (try (refine ⟨fun _ h => (by cases h), ?_⟩))
          all_goals (first
            | (exfalso; first | omega | (rename_i h1; exact hno h1) | (rename_i h1; exact absurd hsn h1) | (rename_i h1 _; exact hno h1))
            | skip)
          gi_wp2
          go_roundw
          case rel => exact ⟨k + 1, i, b, by go_num, by omega, by omega, by omega, HR3.out, HB2.out, HJ2.out⟩
          case measure =>
            have hm : txtLen (w1.setCell ⟨tb, 0, none⟩ (bstr b)) tb = b.length := by unfold txtLen; rw [HB2.out.cell 0]; rfl
            refine Nat.lt_of_le_of_lt (Nat.le_of_eq hm) ?_
            rw [HTX.out]
            exact hbl
        · rw [decide_eq_false hen] at HCt
          rw [if_neg hen] at HLF
          obtain rfl : s = a := HLF.out
          clear hen HLF HTR
          gi_wp2_with (first | (refine ⟨trivial, fun h => (by cases h), ?_⟩; gi_at_call 22; refine (callsIn_wide.2 (HCt.out _)).mono ?_; rintro e w1 ⟨rfl, hb1⟩; have HB1 := Lib.hid (HB.out.below hb1 HB.out.lt); have HJ1 := Lib.hid (hJ i wr w1 none HJ.out (only_of_below hb1 none) (by simp)); have hc2 := HB1.out.cell 0; have hf2 := HB1.out.frozen 0; have HB2 : Hid (Blk (w1.setCell ⟨tb, 0, none⟩ (bstr b)) tb 9 #[bstr b]) := HB1.out.set_ 0 _; have HJ2 : Hid (J i (w1.setCell ⟨tb, 0, none⟩ (bstr b))) := hJ i w1 _ (some tb) HJ1.out (grown_setCell w1 tb 0 (bstr b)) (fun r e => (Option.some.inj e).symm); clear hb1 hc1 hf1))
          all_goals (try (refine ⟨fun _ h => (by cases h), ?_⟩))
          all_goals (first
            | (exfalso; first | omega | (rename_i h1; exact hno h1) | (rename_i h1; exact absurd hsn h1) | (rename_i h1 _; exact hno h1))
            | skip)
          gi_wp2
          go_roundw
          case rel => exact ⟨k + 1, i, b, by go_num, by omega, by omega, by omega, HR3.out, HB2.out, HJ2.out⟩
          case measure =>
            have hm : txtLen (w1.setCell ⟨tb, 0, none⟩ (bstr b)) tb = b.length := by unfold txtLen; rw [HB2.out.cell 0]; rfl
            refine Nat.lt_of_le_of_lt (Nat.le_of_eq hm) ?_
            rw [HTX.out]
            exact hbl
      · have hsl : 0 < s.length := List.length_pos_iff.2 hsn
        have hno : ∀ h : 0 < (⟨s.toArray⟩ : ByteArray).size, (((⟨s.toArray⟩ : ByteArray)[0]'h).toNat : Int) = 35 := fun h => by
          cases s with
          | nil => exact absurd rfl hsn
          | cons c m =>
            have h5 : c = 35 := by
              have : ¬ (c != 35) = true := hok
              simpa using this
            subst h5; rfl
        clear hok
        by_cases hen : lnk t < t.length
        · rw [decide_eq_true hen] at HCt
          rw [if_pos hen] at HLF
          have hsa : s = noCr a := HLF.out
          rw [← hsa] at HTR
          clear hen HLF hsa
          gi_wp2_with (first | (refine ⟨trivial, fun h => (by cases h), ?_⟩; gi_at_call 22; refine (callsIn_wide.2 (HCt.out _)).mono ?_; rintro e w1 ⟨rfl, hb1⟩; have HB1 := Lib.hid (HB.out.below hb1 HB.out.lt); have HJ1 := Lib.hid (hJ i wr w1 none HJ.out (only_of_below hb1 none) (by simp)); have hc2 := HB1.out.cell 0; have hf2 := HB1.out.frozen 0; have HB2 : Hid (Blk (w1.setCell ⟨tb, 0, none⟩ (bstr b)) tb 9 #[bstr b]) := HB1.out.set_ 0 _; have HJ2 : Hid (J i (w1.setCell ⟨tb, 0, none⟩ (bstr b))) := hJ i w1 _ (some tb) HJ1.out (grown_setCell w1 tb 0 (bstr b)) (fun r e => (Option.some.inj e).symm); clear hb1 hc1 hf1) | (refine ⟨trivial, fun h => (by cases h), ?_⟩; gi_at_call 23; refine (callsIn_wide.2 (HTR.out _)).mono ?_; rintro e w2 ⟨rfl, rfl⟩))
          all_goals (try (refine ⟨fun _ h => (by cases h), ?_⟩))
          all_goals (first
            | (exfalso; first | omega | (rename_i h1; exact hno h1) | (rename_i h1; exact absurd hsn h1) | (rename_i h1 _; exact hno h1))
            | skip)
          gi_wp2
          go_roundw
          case rel => exact ⟨k + 1, i, b, by go_num, by omega, by omega, by omega, HR3.out, HB2.out, HJ2.out⟩
          case measure =>
            have hm : txtLen (w1.setCell ⟨tb, 0, none⟩ (bstr b)) tb = b.length := by unfold txtLen; rw [HB2.out.cell 0]; rfl
            refine Nat.lt_of_le_of_lt (Nat.le_of_eq hm) ?_
            rw [HTX.out]
            exact hbl
        · rw [decide_eq_false hen] at HCt
          rw [if_neg hen] at HLF
          obtain rfl : s = a := HLF.out
          clear hen HLF HTR
          gi_wp2_with (first | (refine ⟨trivial, fun h => (by cases h), ?_⟩; gi_at_call 22; refine (callsIn_wide.2 (HCt.out _)).mono ?_; rintro e w1 ⟨rfl, hb1⟩; have HB1 := Lib.hid (HB.out.below hb1 HB.out.lt); have HJ1 := Lib.hid (hJ i wr w1 none HJ.out (only_of_below hb1 none) (by simp)); have hc2 := HB1.out.cell 0; have hf2 := HB1.out.frozen 0; have HB2 : Hid (Blk (w1.setCell ⟨tb, 0, none⟩ (bstr b)) tb 9 #[bstr b]) := HB1.out.set_ 0 _; have HJ2 : Hid (J i (w1.setCell ⟨tb, 0, none⟩ (bstr b))) := hJ i w1 _ (some tb) HJ1.out (grown_setCell w1 tb 0 (bstr b)) (fun r e => (Option.some.inj e).symm); clear hb1 hc1 hf1))
          all_goals (try (refine ⟨fun _ h => (by cases h), ?_⟩))
          all_goals (first
            | (exfalso; first | omega | (rename_i h1; exact hno h1) | (rename_i h1; exact absurd hsn h1) | (rename_i h1 _; exact hno h1))
            | skip)
          gi_wp2
          go_roundw
          case rel => exact ⟨k + 1, i, b, by go_num, by omega, by omega, by omega, HR3.out, HB2.out, HJ2.out⟩
          case measure =>
            have hm : txtLen (w1.setCell ⟨tb, 0, none⟩ (bstr b)) tb = b.length := by unfold txtLen; rw [HB2.out.cell 0]; rfl
            refine Nat.lt_of_le_of_lt (Nat.le_of_eq hm) ?_
            rw [HTX.out]
            exact hbl
end Go.Proofs.YtmnkdkibhchglaaGreatDoor
namespace Go.Proofs.YtmnkdkibhchglaaGreatDoor
open Go.Shelf Go.RowKit
set_option linter.unusedVariables false
/-- The numbers that the library's texts name, in this program. -/
def lrenLb : Ren :=
  { f := fun x => match x with
      | 166 => 19
      | 240 => 37
      | 276 => 59
      | 169 => 20
      | n => n
    t := fun x => match x with
      | 3 => 3
      | 4 => 4
      | 5 => 5
      | 9 => 9
      | 20 => 20
      | 37 => 31
      | 70 => 55
      | 72 => 57
      | 75 => 59
      | 80 => 62
      | 127 => 88
      | 164 => 97
      | n => n
    g := fun x => x }
theorem lays166 : Lays.n166 Tryz.prog lrenLb := by constructor <;> first | kernel_rfl | (intro w; kernel_rfl) | decide
theorem lays169 : Lays.n169 Tryz.prog lrenLb := by constructor <;> first | kernel_rfl | (intro w; kernel_rfl) | decide
theorem laysX : Builder.Extra Tryz.prog lrenLb where
  sizeBuilder := by kernel_rfl
  liesBuilder := by kernel_rfl
  t5 := by kernel_rfl
  a5 := by intro w; kernel_rfl
  z5 := by intro w; kernel_rfl
  v5 := by intro w; kernel_rfl
  infoByte := by kernel_rfl
  cellsByte := by kernel_rfl
  sizeByte := by kernel_rfl
  neB5 := by decide
/-- A builder of the call's own that holds these bytes. -/
def IsB (B b : Nat) (l : List UInt8) (w : World) : Prop := Lib.IsBuilder 57 5 B b (Lib.byteCells l) w
theorem isB_new (w : World) : IsB w.heap.size w.heap.size [] (w.alloc (.cells #[.pointer none, .slice none 0 0] 57)) := Lib.fresh_isBuilder _ _ w
theorem cells_app (l m : List UInt8) : Lib.byteCells l ++ Lib.strCells ⟨m.toArray⟩ = Lib.byteCells (l ++ m) := by simp [Lib.byteCells, Lib.strCells]
theorem IsB.step {B b : Nat} {l : List UInt8} {w w' : World} (h : IsB B b l w) (hb : Below w.heap.size w w') : IsB B b l w' := by
  rcases h with ⟨h1, v, h2, h3, h4⟩ | ⟨h1, v, h2, h3, h4⟩
  · exact .inl ⟨h1, v, by rw [hb.block b (Array.getElem?_eq_some_iff.1 h2).1]; exact h2, own_below h3 hb, h4⟩
  · exact .inr ⟨h1, v, by rw [hb.block b (Array.getElem?_eq_some_iff.1 h2).1]; exact h2, own_below h3 hb, h4⟩
theorem c_BWS (B b : Nat) (l m : List UInt8) (w : World) (h : IsB B b l w) (hlen : l.length + m.length ≤ 140737488355328) (hBw : B ≤ w.heap.size) :
    Calls Tryz.prog 19 #[.pointer (some ⟨b, 0, none⟩), .string ⟨m.toArray⟩] w fun e w' => e = .returned (.tuple #[.int .i64 (m.length : Nat), .nilIface]) ∧ IsB B b (l ++ m) w' ∧ Below B w w' :=
  (Any.Builder_WriteString lays166 laysX B b (Lib.byteCells l) ⟨m.toArray⟩ w h (by rw [Lib.byteCells_length]; exact hlen) hBw).mono fun e w' ⟨h1, h2, h3⟩ =>
    ⟨by rw [h1]; rfl, .inr (by rw [cells_app] at h2; exact h2), h3⟩
theorem c_BStr (B b : Nat) (l : List UInt8) (w : World) (h : IsB B b l w) (hBw : B ≤ w.heap.size) :
    Calls Tryz.prog 20 #[.pointer (some ⟨b, 0, none⟩)] w fun e w' => e = .returned (.string ⟨l.toArray⟩) ∧ Below B w w' :=
  Any.Builder_String_any lays169 laysX B b l w h hBw
end Go.Proofs.YtmnkdkibhchglaaGreatDoor
namespace Go.Proofs.YtmnkdkibhchglaaGreatDoor
open Go.RowKit
set_option linter.unusedVariables false
attribute [local go_sem ↓] Go.wp_at_zero Go.wp_at_succ

/-- A struct is read out of cells that follow one another, wherever they lie. -/
theorem run_loadVar_any {P : Program} (w : World) (p : Addr) (ty : TypeId) (cs : List Value) (d : TypeDesc) (hc : ∀ j v, cs[j]? = some v → w.cell? (p.add j) = some v)
    (hu : P.underlying ty = some d) (hd : d.isRow = true) (hi : (P.info? ty).map (·.size) = some cs.length) :
    (loadVar ty p).run P w = .ok (.agg cs.toArray) w := by
  have hl : (loadCells p cs.length).run P w = .ok cs.toArray w := run_loadCells_list (P := P) w p cs hc
  cases hq : P.info? ty with
  | none => simp [hq] at hi
  | some i =>
    have hs : i.size = cs.length := by simpa [hq] using hi
    have hagg : (isAgg ty).run P w = .ok true w := by
      unfold isAgg
      rw [Sem.run_bind, run_underlying hu w]
      cases d <;> simp_all
    simp [loadVar, Sem.run_bind, hagg, sizeOf, typeInfo, hq, hs, hl]
theorem wpList_load_any {P : Program} {ops : Array Oper} {rest : List Oper} {op : Oper} {a : Act} {w : World} {Q : Exit → Act → World → Prop} (hgd : op.guard = none) (ty : TypeId) (x : Operand) (ho : op.op = .load ty x)
    (p : Addr) (hx : a.eval x = .pointer (some p)) (cs : List Value) (d : TypeDesc) (hc : ∀ j v, cs[j]? = some v → w.cell? (p.add j) = some v)
    (hu : P.underlying ty = some d) (hd : d.isRow = true) (hi : (P.info? ty).map (·.size) = some cs.length)
    (h : wpList P ops Q rest (a.put op.dst (.agg cs.toArray)) w) : wpList P ops Q (op :: rest) a w :=
  wpList_plain hgd fun _ hK => by
    unfold Oper.wp execOp
    simp only [ho, hx, Instr.loadAt, Instr.sureAddr, Sem.run_bind, Sem.run_pure, Result.andThen_ok, run_loadVar_any w p ty cs d hc hu hd hi]
    exact hK _ _ h
/-- An entry of a list, where its digest lies. -/
structure Ent where
  e : Sm
  D : Option Addr
  n : Nat
  c : Nat
/-- A list of entries that can be read. -/
structure RdL (w : World) (A : Option Addr) (es : List Ent) : Prop where
  row : 0 < es.length → ∃ ad, A = some ad ∧ ad.block < w.heap.size ∧ ∀ k x, es[k]? = some x → ∀ j u, (smC x.e x.D x.n x.c).toList[j]? = some u → w.cell? ((ad.add (k * 4)).add j) = some u
  rds : ∀ x ∈ es, RdS w x.e x.D x.n x.c ∧ x.n ≤ 140737488351232
/-- An entry's line in the form that is asked for. -/
def lnS (tg : Bool) (e : Sm) : List UInt8 := if tg then tagS e else plainS e
/-- The lines of a list. -/
def lnsS (tg : Bool) (es : List Ent) : List UInt8 := es.flatMap fun x => lnS tg x.e ++ [10]
/-- May all be printed? -/
def okS (es : List Ent) : Bool := es.all fun x => rightS x.e
/-- What a printer of lists answers. -/
def PrnIs (tg : Bool) (es : List Ent) (x : Ending) : Prop := x = .returned (.tuple #[bstr (if okS es = true then lnsS tg es else []), .int .i64 (if okS es = true then 0 else 1)])
theorem lns_snoc (tg : Bool) (es : List Ent) (x : Ent) : lnsS tg (es ++ [x]) = lnsS tg es ++ (lnS tg x.e ++ [10]) := by simp [lnsS]
theorem ln_len (tg : Bool) {e : Sm} (h : rightS e = true) : (lnS tg e).length ≤ 9000 := by
  obtain ⟨p1, p2, p3, p4⟩ := right_parts h
  have h4 := fileB_le p4
  have hl := (esc_len e.nm.data.toList).2
  have hl2 : e.nm.data.toList.length = e.nm.size := rfl
  have ha := ahd_len e.nm
  have hh := hx_len e.dg
  have hw := swrd_len e.a
  have hd : (dsh e).length ≤ 4 := by
    unfold dsh; split
    · have := dig_len 2 (8 * e.dg.length) (by omega)
      simp; omega
    · simp
  unfold lnS
  split
  · simp only [tagS, List.length_append, List.length_cons, List.length_nil]; omega
  · simp only [plainS, List.length_append]
    have : (if e.st = true then ([32, 42] : List UInt8) else [32, 32]).length = 2 := by split <;> rfl
    rw [this]; simp only [List.length_nil]; omega
theorem lns_len (tg : Bool) (es : List Ent) (h : ∀ x ∈ es, rightS x.e = true) : (lnsS tg es).length ≤ 9001 * es.length := by
  induction es with
  | nil => simp [lnsS]
  | cons x r ih =>
    have h1 := ih fun y hy => h y (List.mem_cons_of_mem _ hy)
    have h2 := ln_len tg (h x List.mem_cons_self)
    simp only [lnsS, List.flatMap_cons, List.length_append, List.length_cons, List.length_nil] at h1 ⊢
    omega
set_option maxRecDepth 100000 in
set_option maxHeartbeats 4000000 in
theorem c_Print (tg : Bool) (A : Option Addr) (es : List Ent) (k cap : Nat) (hk : es.length = k) (w : World) (h : RdL w A es) (hn : k ≤ 1048576) (htab : Lib.TabIs Tryz.prog w "internal/strconv.uint64pow10" .u64 Lib.pow10Tab) :
    Calls Tryz.prog 9 #[.slice A k cap, .bool tg] w fun x w' => PrnIs tg es x ∧ Below w.heap.size w w' := by
  have HT : Hid (∀ W, Below w.heap.size w W → Lib.TabIs Tryz.prog W "internal/strconv.uint64pow10" .u64 Lib.pow10Tab) := fun W hb => Lib.tabBelow_of_tabIs htab W hb
  have HE := Lib.hid h
  clear h htab
  have HB0 := Lib.hid (isB_new w)
  have HBW := Lib.hid ((Below.refl w.heap.size w).alloc (Nat.le_refl _) (.cells #[.pointer none, .slice none 0 0] 57))
  go_enter Tryz.func9, Tryz.ntmps9
  go_wp2_with fail
  generalize w.alloc (.cells #[.pointer none, .slice none 0 0] 57) = w0 at *
  go_loopw [13] (fun vi wr => ∃ (i : Nat), vi = .int .i64 i ∧ i ≤ k ∧ Hid (∀ x ∈ es.take i, rightS x.e = true) ∧ Hid (IsB w.heap.size w.heap.size (lnsS tg (es.take i)) wr) ∧ Hid (Below w.heap.size w wr)) (fun vi _ => k - (intOf vi).toNat)
  case atStart => exact ⟨0, rfl, Nat.zero_le _, Lib.hid (by simp), Lib.hid (by simpa [lnsS] using HB0.out), HBW⟩
  case round =>
    obtain ⟨i, rfl, hi, HOK, HIS, HB⟩ := hrel
    by_cases hlt : i < k
    · obtain ⟨ad, hA, hadb, hcells⟩ := HE.out.row (by omega)
      subst hA
      obtain ⟨x, hx⟩ : ∃ x, es[i]? = some x := ⟨_, List.getElem?_eq_getElem (by omega)⟩
      have hxm := List.mem_of_getElem? hx
      have hcw : ∀ j u, (smC x.e x.D x.n x.c).toList[j]? = some u → wr.cell? ((ad.add (i * 4)).add j) = some u := fun j u hu => (HB.out.cell (by rw [block_of_add, block_of_add]; exact hadb)).trans (hcells i _ hx j u hu)
      obtain ⟨hrx, hnx⟩ := HE.out.rds x hxm
      have htk : es.take (i + 1) = es.take i ++ [x] := by rw [List.take_add_one, hx]; rfl
      have HOF : Hid (rightS x.e = false → okS es = false) := fun h => by
        unfold okS
        rw [Bool.eq_false_iff]
        intro h2
        rw [List.all_eq_true.1 h2 x hxm] at h
        cases h
      have HLN : Hid (rightS x.e = true → (lnS tg x.e).length ≤ 9000) := ln_len tg
      have HTL : Hid ((lnsS tg (es.take i)).length ≤ 9001 * 1048576) := by
        have := lns_len tg _ HOK.out
        rw [List.length_take] at this
        show _ ≤ _
        have h2 : min i es.length ≤ 1048576 := by omega
        have := Nat.mul_le_mul_left 9001 h2
        omega
      have HNX : Hid (rightS x.e = true → (∀ y ∈ es.take (i + 1), rightS y.e = true) ∧ lnsS tg (es.take (i + 1)) = lnsS tg (es.take i) ++ (lnS tg x.e ++ [10])) := fun hr => by
        rw [htk]
        refine ⟨fun y hy => ?_, lns_snoc _ _ _⟩
        rcases List.mem_append.1 hy with h | h
        · exact HOK.out y h
        · rw [List.mem_singleton.1 h]; exact hr
      clear hxm htk hx hcells
      obtain ⟨e, D, n, c⟩ := x
      simp only at hcw hrx hnx HOF HLN HNX
      have HPL : Hid (∀ W, Below w.heap.size w W → Calls Tryz.prog 17 #[smV e D n c] W fun x w' => LineIs (rightS e) (plainS e) x ∧ Below W.heap.size W w') := fun W hb => c_Plain e D n c W (hrx.step hb) hnx
      have HTG : Hid (∀ W, Below w.heap.size w W → Calls Tryz.prog 18 #[smV e D n c] W fun x w' => LineIs (rightS e) (tagS e) x ∧ Below W.heap.size W w') := fun W hb => c_Tagged e D n c W (hrx.step hb) hnx (HT.out W hb)
      have HLS : Hid (lnS tg e = if tg then tagS e else plainS e) := rfl
      unfold LineIs at HPL HTG
      have hbA : Below wr.heap.size wr (wr.alloc (.cells smZ 33)) := (Below.refl _ _).alloc (Nat.le_refl _) _
      have hB8 := Blk.new wr 33 smZ
      have HCW := Lib.hid hcw
      clear hcw hrx hnx
      generalize lnS tg e = ln at *
      generalize plainS e = pl at *
      generalize tagS e = tl at *
      generalize rightS e = rt at *
      rcases tg with _ | _
      · rcases rt with _ | _
        · have HPL2 : Hid (∀ W, Below w.heap.size w W → Calls Tryz.prog 17 #[.agg #[.int .i64 e.a, .string e.nm, .slice D n c, .bool e.st]] W fun x w' => x = .returned (.tuple #[bstr [], .int .i64 1]) ∧ Below W.heap.size W w') := HPL
          have HTG2 : Hid (∀ W, Below w.heap.size w W → Calls Tryz.prog 18 #[.agg #[.int .i64 e.a, .string e.nm, .slice D n c, .bool e.st]] W fun x w' => x = .returned (.tuple #[bstr [], .int .i64 1]) ∧ Below W.heap.size W w') := HTG
          clear HPL HTG
          have HOF2 := Lib.hid (HOF.out rfl)
          clear HLN HNX HOF
          obtain rfl : ln = pl := HLS.out
          clear HLS
          clear HTL
          go_wp2_with (first | (refine wpList_load_any rfl 33 (.tmp 15) rfl (ad.add (i * 4)) rfl (smC e D n c).toList _ HCW.out Tryz.underlying33 rfl (by kernel_rfl) ?_) | (refine wpList_storeB rfl 33 (.tmp 8) (.tmp 16) rfl rfl wr.heap.size _ rfl rfl hB8 (by kernel_rfl) rfl rfl ?_; intro w4 hB4 hg4 hz4) | (refine wpList_load_row rfl 33 (.tmp 8) rfl wr.heap.size rfl 33 _ (0, 0) _ hB4 Tryz.underlying33 rfl (by kernel_rfl) ?_))
          have hb4 : Below wr.heap.size wr w4 := hbA.grown hg4 (by simp) (fun _ h => by injection h with h; omega)
          have HB4 := Lib.hid (below_step HB.out hb4)
          have HI4 := Lib.hid (HIS.out.step hb4)
          have HK4 := Lib.hid hB4
          clear hb4 hg4 hz4 hbA hB8 hB4 HIS HB HCW
          refine (HPL2.out _ HB4.out).mono ?_
          rintro x w5 ⟨rfl, hb5⟩
          have HB5 := Lib.hid (below_step HB4.out hb5)
          have HI5 := Lib.hid (HI4.out.step hb5)
          have HK5 := Lib.hid (HK4.out.below hb5 HK4.out.lt)
          clear hb5 HI4 HK4 HB4 HPL2
          clear HTG2 HK5
          go_wp2_with fail
          go_ret2
          exact ⟨by unfold PrnIs; rw [HOF2.out]; rfl, HB5.out⟩
        · have HPL2 : Hid (∀ W, Below w.heap.size w W → Calls Tryz.prog 17 #[.agg #[.int .i64 e.a, .string e.nm, .slice D n c, .bool e.st]] W fun x w' => x = .returned (.tuple #[bstr pl, .int .i64 0]) ∧ Below W.heap.size W w') := HPL
          have HTG2 : Hid (∀ W, Below w.heap.size w W → Calls Tryz.prog 18 #[.agg #[.int .i64 e.a, .string e.nm, .slice D n c, .bool e.st]] W fun x w' => x = .returned (.tuple #[bstr tl, .int .i64 0]) ∧ Below W.heap.size W w') := HTG
          clear HPL HTG
          have hll := HLN.out rfl
          have HNX2 := Lib.hid (HNX.out rfl)
          clear HLN HNX HOF
          obtain rfl : ln = pl := HLS.out
          clear HLS
          have HWS : Hid (∀ W, IsB w.heap.size w.heap.size (lnsS false (es.take i)) W → w.heap.size ≤ W.heap.size → Calls Tryz.prog 19 #[.pointer (some ⟨w.heap.size, 0, none⟩), .string (⟨ln.toArray⟩ ++ ⟨#[10]⟩)] W fun x w' => x = .returned (.tuple #[.int .i64 ((ln ++ [10]).length : Nat), .nilIface]) ∧ IsB w.heap.size w.heap.size (lnsS false (es.take i) ++ (ln ++ [10])) w' ∧ Below w.heap.size W w') := fun W hI hW => by
            rw [str_add ln [10]]
            exact c_BWS _ _ _ _ W hI (by have := HTL.out; simp only [List.length_append, List.length_cons, List.length_nil]; omega) hW
          clear HTL
          go_wp2_with (first | (refine wpList_load_any rfl 33 (.tmp 15) rfl (ad.add (i * 4)) rfl (smC e D n c).toList _ HCW.out Tryz.underlying33 rfl (by kernel_rfl) ?_) | (refine wpList_storeB rfl 33 (.tmp 8) (.tmp 16) rfl rfl wr.heap.size _ rfl rfl hB8 (by kernel_rfl) rfl rfl ?_; intro w4 hB4 hg4 hz4) | (refine wpList_load_row rfl 33 (.tmp 8) rfl wr.heap.size rfl 33 _ (0, 0) _ hB4 Tryz.underlying33 rfl (by kernel_rfl) ?_))
          have hb4 : Below wr.heap.size wr w4 := hbA.grown hg4 (by simp) (fun _ h => by injection h with h; omega)
          have HB4 := Lib.hid (below_step HB.out hb4)
          have HI4 := Lib.hid (HIS.out.step hb4)
          have HK4 := Lib.hid hB4
          clear hb4 hg4 hz4 hbA hB8 hB4 HIS HB HCW
          refine (HPL2.out _ HB4.out).mono ?_
          rintro x w5 ⟨rfl, hb5⟩
          have HB5 := Lib.hid (below_step HB4.out hb5)
          have HI5 := Lib.hid (HI4.out.step hb5)
          have HK5 := Lib.hid (HK4.out.below hb5 HK4.out.lt)
          clear hb5 HI4 HK4 HB4 HPL2
          clear HTG2 HK5
          go_wp2_with fail
          refine (HWS.out _ HI5.out HB5.out.size).mono ?_
          rintro x w7 ⟨rfl, hI7, hb7⟩
          have HI7 := Lib.hid hI7
          have HB7 := Lib.hid (HB5.out.trans hb7)
          clear hI7 hb7 HI5 HB5 HWS
          go_wp2_with fail
          go_roundw
          case rel => exact ⟨i + 1, by go_num, by omega, Lib.hid HNX2.out.1, Lib.hid (by rw [HNX2.out.2]; exact HI7.out), HB7⟩
          case measure => simp [intOf]; omega
      · rcases rt with _ | _
        · have HPL2 : Hid (∀ W, Below w.heap.size w W → Calls Tryz.prog 17 #[.agg #[.int .i64 e.a, .string e.nm, .slice D n c, .bool e.st]] W fun x w' => x = .returned (.tuple #[bstr [], .int .i64 1]) ∧ Below W.heap.size W w') := HPL
          have HTG2 : Hid (∀ W, Below w.heap.size w W → Calls Tryz.prog 18 #[.agg #[.int .i64 e.a, .string e.nm, .slice D n c, .bool e.st]] W fun x w' => x = .returned (.tuple #[bstr [], .int .i64 1]) ∧ Below W.heap.size W w') := HTG
          clear HPL HTG
          have HOF2 := Lib.hid (HOF.out rfl)
          clear HLN HNX HOF
          obtain rfl : ln = tl := HLS.out
          clear HLS
          clear HTL
          go_wp2_with (first | (refine wpList_load_any rfl 33 (.tmp 15) rfl (ad.add (i * 4)) rfl (smC e D n c).toList _ HCW.out Tryz.underlying33 rfl (by kernel_rfl) ?_) | (refine wpList_storeB rfl 33 (.tmp 8) (.tmp 16) rfl rfl wr.heap.size _ rfl rfl hB8 (by kernel_rfl) rfl rfl ?_; intro w4 hB4 hg4 hz4) | (refine wpList_load_row rfl 33 (.tmp 8) rfl wr.heap.size rfl 33 _ (0, 0) _ hB4 Tryz.underlying33 rfl (by kernel_rfl) ?_))
          have hb4 : Below wr.heap.size wr w4 := hbA.grown hg4 (by simp) (fun _ h => by injection h with h; omega)
          have HB4 := Lib.hid (below_step HB.out hb4)
          have HI4 := Lib.hid (HIS.out.step hb4)
          have HK4 := Lib.hid hB4
          clear hb4 hg4 hz4 hbA hB8 hB4 HIS HB HCW
          refine (HPL2.out _ HB4.out).mono ?_
          rintro x w5 ⟨rfl, hb5⟩
          have HB5 := Lib.hid (below_step HB4.out hb5)
          have HI5 := Lib.hid (HI4.out.step hb5)
          have HK5 := Lib.hid (HK4.out.below hb5 HK4.out.lt)
          clear hb5 HI4 HK4 HB4 HPL2
          go_wp2_with (refine wpList_load_row rfl 33 (.tmp 8) rfl wr.heap.size rfl 33 _ (0, 0) _ HK5.out Tryz.underlying33 rfl (by kernel_rfl) ?_)
          refine (HTG2.out _ HB5.out).mono ?_
          rintro x w6 ⟨rfl, hb6⟩
          have HB6 := Lib.hid (below_step HB5.out hb6)
          have HI6 := Lib.hid (HI5.out.step hb6)
          clear hb6 HI5 HK5 HB5 HTG2
          go_wp2_with fail
          go_ret2
          exact ⟨by unfold PrnIs; rw [HOF2.out]; rfl, HB6.out⟩
        · have HPL2 : Hid (∀ W, Below w.heap.size w W → Calls Tryz.prog 17 #[.agg #[.int .i64 e.a, .string e.nm, .slice D n c, .bool e.st]] W fun x w' => x = .returned (.tuple #[bstr pl, .int .i64 0]) ∧ Below W.heap.size W w') := HPL
          have HTG2 : Hid (∀ W, Below w.heap.size w W → Calls Tryz.prog 18 #[.agg #[.int .i64 e.a, .string e.nm, .slice D n c, .bool e.st]] W fun x w' => x = .returned (.tuple #[bstr tl, .int .i64 0]) ∧ Below W.heap.size W w') := HTG
          clear HPL HTG
          have hll := HLN.out rfl
          have HNX2 := Lib.hid (HNX.out rfl)
          clear HLN HNX HOF
          obtain rfl : ln = tl := HLS.out
          clear HLS
          have HWS : Hid (∀ W, IsB w.heap.size w.heap.size (lnsS true (es.take i)) W → w.heap.size ≤ W.heap.size → Calls Tryz.prog 19 #[.pointer (some ⟨w.heap.size, 0, none⟩), .string (⟨ln.toArray⟩ ++ ⟨#[10]⟩)] W fun x w' => x = .returned (.tuple #[.int .i64 ((ln ++ [10]).length : Nat), .nilIface]) ∧ IsB w.heap.size w.heap.size (lnsS true (es.take i) ++ (ln ++ [10])) w' ∧ Below w.heap.size W w') := fun W hI hW => by
            rw [str_add ln [10]]
            exact c_BWS _ _ _ _ W hI (by have := HTL.out; simp only [List.length_append, List.length_cons, List.length_nil]; omega) hW
          clear HTL
          go_wp2_with (first | (refine wpList_load_any rfl 33 (.tmp 15) rfl (ad.add (i * 4)) rfl (smC e D n c).toList _ HCW.out Tryz.underlying33 rfl (by kernel_rfl) ?_) | (refine wpList_storeB rfl 33 (.tmp 8) (.tmp 16) rfl rfl wr.heap.size _ rfl rfl hB8 (by kernel_rfl) rfl rfl ?_; intro w4 hB4 hg4 hz4) | (refine wpList_load_row rfl 33 (.tmp 8) rfl wr.heap.size rfl 33 _ (0, 0) _ hB4 Tryz.underlying33 rfl (by kernel_rfl) ?_))
          have hb4 : Below wr.heap.size wr w4 := hbA.grown hg4 (by simp) (fun _ h => by injection h with h; omega)
          have HB4 := Lib.hid (below_step HB.out hb4)
          have HI4 := Lib.hid (HIS.out.step hb4)
          have HK4 := Lib.hid hB4
          clear hb4 hg4 hz4 hbA hB8 hB4 HIS HB HCW
          refine (HPL2.out _ HB4.out).mono ?_
          rintro x w5 ⟨rfl, hb5⟩
          have HB5 := Lib.hid (below_step HB4.out hb5)
          have HI5 := Lib.hid (HI4.out.step hb5)
          have HK5 := Lib.hid (HK4.out.below hb5 HK4.out.lt)
          clear hb5 HI4 HK4 HB4 HPL2
          go_wp2_with (refine wpList_load_row rfl 33 (.tmp 8) rfl wr.heap.size rfl 33 _ (0, 0) _ HK5.out Tryz.underlying33 rfl (by kernel_rfl) ?_)
          refine (HTG2.out _ HB5.out).mono ?_
          rintro x w6 ⟨rfl, hb6⟩
          have HB6 := Lib.hid (below_step HB5.out hb6)
          have HI6 := Lib.hid (HI5.out.step hb6)
          clear hb6 HI5 HK5 HB5 HTG2
          go_wp2_with fail
          refine (HWS.out _ HI6.out HB6.out.size).mono ?_
          rintro x w7 ⟨rfl, hI7, hb7⟩
          have HI7 := Lib.hid hI7
          have HB7 := Lib.hid (HB6.out.trans hb7)
          clear hI7 hb7 HI6 HB6 HWS
          go_wp2_with fail
          go_roundw
          case rel => exact ⟨i + 1, by go_num, by omega, Lib.hid HNX2.out.1, Lib.hid (by rw [HNX2.out.2]; exact HI7.out), HB7⟩
          case measure => simp [intOf]; omega
    · obtain rfl : i = k := by omega
      have htk : es.take i = es := List.take_of_length_le (by omega)
      have HOK2 : Hid (okS es = true) := List.all_eq_true.2 (by have := HOK.out; rw [htk] at this; exact this)
      have HS : Hid (∀ W, IsB w.heap.size w.heap.size (lnsS tg (es.take i)) W → w.heap.size ≤ W.heap.size → Calls Tryz.prog 20 #[.pointer (some ⟨w.heap.size, 0, none⟩)] W fun x w' => x = .returned (bstr (lnsS tg es)) ∧ Below w.heap.size W w') := fun W hI hW => by
        rw [htk] at hI
        exact c_BStr _ _ _ W hI hW
      clear htk HOK
      go_wp2_with fail
      refine (HS.out _ HIS.out HB.out.size).mono ?_
      rintro x w1 ⟨rfl, hb1⟩
      have HB1 := Lib.hid (HB.out.trans hb1)
      clear hb1 HS HIS HB
      go_wp2_with fail
      go_ret2
      exact ⟨by unfold PrnIs; rw [HOK2.out]; rfl, HB1.out⟩
end Go.Proofs.YtmnkdkibhchglaaGreatDoor
namespace Go.Proofs.YtmnkdkibhchglaaGreatDoor
open Go.RowKit
set_option linter.unusedVariables false

/-- An entry of a list in memory, where its digest lies. -/
structure EnL where
  e : Sm
  D : Option Addr
  c : Nat
/-- Its cells. -/
abbrev enC (x : EnL) : Array Value := smC x.e x.D x.e.dg.length x.c
/-- Rows of entries and of numbers, in new memory. -/
structure LsI (n0 : Nat) (w : World) (A B : Value) (es : List EnL) (ns : List Nat) : Prop where
  rowA : w.ownsRow n0 33 4 A es.length (es.flatMap fun x => (enC x).toList)
  rowB : w.ownsRow n0 3 1 B ns.length (ns.map fun (k : Nat) => Value.int .i64 (k : Int))
  dgs : ∀ x ∈ es, w.ownsRow n0 5 1 (.slice x.D x.e.dg.length x.c) x.e.dg.length (bys x.e.dg)
/-- The answer of a list. -/
def OutL (w : World) (es : List Sm) (ns : List Nat) (er : Int) (x : Ending) (w' : World) : Prop :=
  ∃ A B E, x = .returned (.tuple #[A, B, .int .i64 er]) ∧ LsI w.heap.size w' A B E ns ∧ E.map (·.e) = es ∧ Below w.heap.size w w'
theorem LsI.base {n0 n1 : Nat} {w : World} {A B : Value} {es : List EnL} {ns : List Nat} (h : LsI n1 w A B es ns) (hb : n0 ≤ n1) : LsI n0 w A B es ns :=
  ⟨own_base h.rowA hb, own_base h.rowB hb, fun x hx => own_base (h.dgs x hx) hb⟩
theorem LsI.kept {n0 : Nat} {w w' : World} {A B : Value} {es : List EnL} {ns : List Nat} (h : LsI n0 w A B es ns)
    (hk : ∀ {e : TypeId} {s n : Nat} {v : Value} {xs : List Value}, w.ownsRow n0 e s v n xs → w'.ownsRow n0 e s v n xs) : LsI n0 w' A B es ns :=
  ⟨hk h.rowA, hk h.rowB, fun x hx => hk (h.dgs x hx)⟩
theorem LsI.nil_ (n0 : Nat) (w : World) : LsI n0 w (.slice none 0 0) (.slice none 0 0) [] [] :=
  ⟨World.ownsRow_nil _ _ _ _, World.ownsRow_nil _ _ _ _, fun _ h => by cases h⟩
section
variable {W W' : World} {tb B : Nat} {row : Option Nat}
theorem blk_T {g : Nat} {t : TypeId} {cs : Array Value} (h : Blk W g t cs) (hne : g ≠ tb) (hg : W.grownBy W' row) (hr : ∀ r, row = some r → r = tb ∨ (B ≤ r ∧ ∃ o : Obj, W.heap[r]? = some o ∧ o.isCells = false)) : Blk W' g t cs :=
  h.grown hg (fun e => by
    rcases hr g e.symm with h1 | ⟨_, o, ho, hc⟩
    · exact hne h1
    · have h2 : W.heap[g]? = some (.cells cs t (0, 0)) := h
      rw [h2] at ho; cases ho; cases hc)
theorem own_T {base n size : Nat} {e : TypeId} {v : Value} {xs : List Value} (h : W.ownsRow base e size v n xs) (hb : tb < base) (hg : W.grownBy W' row) (hr : ∀ r, row = some r → r = tb ∨ (B ≤ r ∧ ∃ o : Obj, W.heap[r]? = some o ∧ o.isCells = false)) : W'.ownsRow base e size v n xs := by
  refine h.kept hg ?_
  rcases h.2 with ⟨rfl, _⟩ | ⟨g, cap, cur, rfl, hge, hh, _⟩
  · exact .inl rfl
  · refine .inr fun e => ?_
    have e2 : row = some g := by rw [← e]; rfl
    rcases hr g e2 with h1 | ⟨_, o, ho, hc⟩
    · omega
    · rw [hh] at ho; cases ho; cases hc
/-- What a step of a round's body keeps. -/
def Bd (B tb : Nat) (W W' : World) : Prop := KeepsFrom B W W' ∧ W'.heap[tb]? = W.heap[tb]?
theorem Bd.refl (B tb : Nat) (W : World) : Bd B tb W W := ⟨KeepsFrom.refl B W, rfl⟩
theorem Bd.trans {B tb : Nat} {X Y Z : World} (h : Bd B tb X Y) (k : Bd B tb Y Z) : Bd B tb X Z := ⟨h.1.trans k.1, k.2.trans h.2⟩
theorem Bd.below {B tb : Nat} {X Y : World} (h : Below X.heap.size X Y) (ht : tb < X.heap.size) : Bd B tb X Y :=
  ⟨KeepsFrom.of_grownBy (only_of_below h none) (by simp), h.block tb ht⟩
theorem Bd.setCell {B tb : Nat} (X : World) (p : Addr) (v : Value) (ht : tb ≠ p.block) : Bd B tb X (X.setCell p v) :=
  ⟨(KeepsOthers.setCell X p v).from B, Below.heap_setCell X p v tb ht⟩
theorem Bd.own {B tb base n size : Nat} {e : TypeId} {v : Value} {xs : List Value} {X Y : World} (h : X.ownsRow base e size v n xs) (hg : X.grownBy Y v.ownBlock) (ht : tb < X.heap.size) (hb : tb < base) : Bd B tb X Y := by
  refine ⟨(KeepsOthers.of_grownBy hg (fun j o e ho => ?_)).from B, hg.block tb ht ?_⟩
  · rcases h.2 with ⟨rfl, _⟩ | ⟨g, cap, cur, rfl, hge, hh, _⟩
    · cases e
    · have : g = j := by simpa [Value.ownBlock] using e
      subst this
      rw [hh] at ho; cases ho; rfl
  · rcases h.2 with ⟨rfl, _⟩ | ⟨g, cap, cur, rfl, hge, hh, _⟩
    · simp [Value.ownBlock]
    · intro e
      have : tb = g := by simpa [Value.ownBlock] using e
      omega
end
/-- Between two rounds: what the list's own variables hold. -/
def LpI (w : World) (L : Nat) (p : Int) (XS : List (Nat × List UInt8)) (i : Nat) (W : World) : Prop :=
  ∃ A B E, Blk W w.heap.size 27 #[.int .i64 p] ∧ Blk W (w.heap.size + 1) 22 #[.slice none 0 0] ∧ Blk W (w.heap.size + 1 + 1) 23 #[.slice none 0 0] ∧ Blk W (w.heap.size + 1 + 1 + 1) 24 #[.int .i64 0] ∧
    Blk W L 22 #[A] ∧ Blk W (L + 1) 23 #[B] ∧ LsI (L + 1 + 1 + 1) W A B E ((XS.take i).map (·.1)) ∧ E.map (·.e) = (XS.take i).map (fun x => (rdA (rowB x) p).1) ∧ okL p (XS.take i) ∧ Laid W ∧ Below w.heap.size w W ∧ L + 1 + 1 + 1 ≤ W.heap.size
/-- A round that found a row which can't be read. -/
def LpX (w : World) (L : Nat) (p : Int) (XS : List (Nat × List UInt8)) (c : Code) (i : Nat) (W : World) : Prop :=
  c = .ret ∧ ∃ B x m, XS = XS.take (i - 1) ++ x :: m ∧ okL p (XS.take (i - 1)) ∧ (rdA (rowB x) p).2.2 ≠ 0 ∧
    Blk W (w.heap.size + 1) 22 #[.slice none 0 0] ∧ Blk W (w.heap.size + 1 + 1) 23 #[B] ∧ Blk W (w.heap.size + 1 + 1 + 1) 24 #[.int .i64 260] ∧
    W.ownsRow (L + 1 + 1 + 1) 3 1 B 1 [.int .i64 (x.1 : Int)] ∧ Below w.heap.size w W
theorem LpI.ownT {w : World} {L : Nat} {p : Int} {XS : List (Nat × List UInt8)} (hL : w.heap.size + 4 ≤ L) (h6 : 6 < w.heap.size) : OwnT (L + 1 + 1 + 1) (L + 1 + 1) (LpI w L p XS) := by
  rintro i W W' row ⟨A, B, E, k0, k1, k2, k3, k4, k5, hls, he, hok, hld, hb, hz⟩ hg hr
  have hr2 : ∀ r, row = some r → L + 1 + 1 ≤ r := fun r e => by rcases hr r e with h | h <;> omega
  exact ⟨A, B, E, blk_T k0 (by omega) hg hr, blk_T k1 (by omega) hg hr, blk_T k2 (by omega) hg hr, blk_T k3 (by omega) hg hr, blk_T k4 (by omega) hg hr, blk_T k5 (by omega) hg hr,
    hls.kept (fun h => own_T h (by omega) hg hr), he, hok, hld.grown hg (fun b e => by have := hr2 b e; omega), hb.grown hg hb.size (fun r e => by have := hr2 r e; omega), Nat.le_trans hz hg.size⟩
theorem LpX.ownT {w : World} {L : Nat} {p : Int} {XS : List (Nat × List UInt8)} (hL : w.heap.size + 4 ≤ L) (c : Code) : OwnT (L + 1 + 1 + 1) (L + 1 + 1) (LpX w L p XS c) := by
  rintro i W W' row ⟨hc, B, x, m, hx, hok, hbad, k1, k2, k3, ho, hb⟩ hg hr
  have hr2 : ∀ r, row = some r → L + 1 + 1 ≤ r := fun r e => by rcases hr r e with h | h <;> omega
  exact ⟨hc, B, x, m, hx, hok, hbad, blk_T k1 (by omega) hg hr, blk_T k2 (by omega) hg hr, blk_T k3 (by omega) hg hr, own_T ho (by omega) hg hr, hb.grown hg hb.size (fun r e => by have := hr2 r e; omega)⟩
/-- What is known while a round's last region goes: the round's own variables, both rows. -/
structure RS (w W : World) (L S0 : Nat) (p : Int) (A0 B0 : Value) (x : EnL) (A B : Value) (E : List EnL) (ns : List Nat) (V : World) : Prop where
  k0 : Blk V w.heap.size 27 #[.int .i64 p]
  k1 : Blk V (w.heap.size + 1) 22 #[.slice none 0 0]
  k2 : Blk V (w.heap.size + 1 + 1) 23 #[.slice none 0 0]
  k3 : Blk V (w.heap.size + 1 + 1 + 1) 24 #[.int .i64 0]
  k4 : Blk V L 22 #[A0]
  k5 : Blk V (L + 1) 23 #[B0]
  k6 : Blk V S0 33 (enC x)
  ls : LsI (L + 1 + 1 + 1) V A B E ns
  ho : V.ownsRow (L + 1 + 1 + 1) 5 1 (.slice x.D x.e.dg.length x.c) x.e.dg.length (bys x.e.dg)
  hb : Below w.heap.size w V
  hld : Laid V
  bd : Bd (L + 1 + 1 + 1) (L + 1 + 1) W V
  hz : L + 1 + 1 + 1 ≤ V.heap.size
  hA : ∀ g, A.ownBlock = some g → g ≠ S0
section
variable {w W V V' : World} {L S0 : Nat} {p : Int} {A0 B0 A B A' B' : Value} {x : EnL} {E : List EnL} {ns : List Nat}
theorem RS.below (h : RS w W L S0 p A0 B0 x A B E ns V) (hb : Below V.heap.size V V') : RS w W L S0 p A0 B0 x A B E ns V' :=
  ⟨h.k0.below hb h.k0.lt, h.k1.below hb h.k1.lt, h.k2.below hb h.k2.lt, h.k3.below hb h.k3.lt, h.k4.below hb h.k4.lt, h.k5.below hb h.k5.lt, h.k6.below hb h.k6.lt,
    h.ls.kept (fun k => own_below k hb), own_below h.ho hb, below_step h.hb hb, h.hld.below hb, h.bd.trans (Bd.below hb (by have := h.hz; omega)), Nat.le_trans h.hz hb.size, h.hA⟩
/-- Two rows of unlike types lie apart. -/
theorem own_apart {base base' n n' size size' : Nat} {e e' : TypeId} {v v' : Value} {xs xs' : List Value} (h : V.ownsRow base e size v n xs) (h' : V.ownsRow base' e' size' v' n' xs') (hne : e ≠ e') : v.ownBlock = none ∨ v.ownBlock ≠ v'.ownBlock := by
  rcases h'.2 with ⟨rfl, _⟩ | ⟨g, cap, cur, rfl, hge, hh, _⟩
  · rcases hv : v.ownBlock with _ | g
    · exact .inl rfl
    · exact .inr (by simp [Value.ownBlock])
  · exact .inr (own_blk_ne h (show Blk V g e' cur from hh) hne)
theorem Laid.own {base n size : Nat} {e : TypeId} {v : Value} {xs : List Value} (h : Laid V) (ho : V.ownsRow base e size v n xs) (hg : V.grownBy V' v.ownBlock) (hb : 6 < base) : Laid V' :=
  h.grown hg (fun b e => by
    rcases ho.2 with ⟨rfl, _⟩ | ⟨g, cap, cur, rfl, hge, hh, _⟩
    · cases e
    · have : g = b := by simpa [Value.ownBlock] using e
      omega)
theorem Below.own {base n size B : Nat} {e : TypeId} {v : Value} {xs : List Value} (h : Below B w V) (ho : V.ownsRow base e size v n xs) (hg : V.grownBy V' v.ownBlock) (hb : B ≤ base) (hz : B ≤ V.heap.size) : Below B w V' :=
  h.grown hg hz (fun b e => by
    rcases ho.2 with ⟨rfl, _⟩ | ⟨g, cap, cur, rfl, hge, hh, _⟩
    · cases e
    · have : g = b := by simpa [Value.ownBlock] using e
      omega)
theorem RS.appA (h : RS w W L S0 p A0 B0 x A B E ns V) (hL : w.heap.size + 4 ≤ L) (h6 : 6 < w.heap.size) (hS : S0 < V.heap.size) (hown : V'.ownsRow (L + 1 + 1 + 1) 33 4 A' (E.length + 1) (E.flatMap (fun x => (enC x).toList) ++ (enC x).toList)) (hg : V.grownBy V' A.ownBlock)
    (hob : A'.ownBlock = A.ownBlock ∨ A'.ownBlock = some V.heap.size) : RS w W L S0 p A0 B0 x A' B (E ++ [x]) ns V' := by
  have hra := h.ls.rowA
  have ne : ∀ {g : Nat} {t : TypeId} {cs : Array Value}, Blk V g t cs → (33 : Nat) ≠ t → some g ≠ A.ownBlock := fun k e1 e2 => own_blk_ne hra k e1 e2.symm
  refine ⟨h.k0.grown hg (ne h.k0 (by decide)), h.k1.grown hg (ne h.k1 (by decide)), h.k2.grown hg (ne h.k2 (by decide)), h.k3.grown hg (ne h.k3 (by decide)), h.k4.grown hg (ne h.k4 (by decide)), h.k5.grown hg (ne h.k5 (by decide)), h.k6.grown hg (fun e => h.hA _ e.symm rfl),
    ⟨?_, h.ls.rowB.kept hg (own_apart h.ls.rowB hra (by decide)), ?_⟩, h.ho.kept hg (own_apart h.ho hra (by decide)), Below.own h.hb hra hg (by omega) (by have := h.hz; omega), Laid.own h.hld hra hg (by omega),
    h.bd.trans (Bd.own hra hg (by have := h.hz; omega) (by omega)), Nat.le_trans h.hz hg.size, ?_⟩
  · rw [List.length_append, List.flatMap_append]
    simpa using hown
  · intro y hy
    rcases List.mem_append.1 hy with hy | hy
    · exact (h.ls.dgs y hy).kept hg (own_apart (h.ls.dgs y hy) hra (by decide))
    · rw [List.mem_singleton.1 hy]
      exact h.ho.kept hg (own_apart h.ho hra (by decide))
  · intro g hg2
    rcases hob with e | e
    · rw [e] at hg2; exact h.hA g hg2
    · rw [e] at hg2
      have : V.heap.size = g := Option.some.inj hg2
      omega
theorem RS.appB (h : RS w W L S0 p A0 B0 x A B E ns V) (hL : w.heap.size + 4 ≤ L) (h6 : 6 < w.heap.size) {k : Nat} (hown : V'.ownsRow (L + 1 + 1 + 1) 3 1 B' (ns.length + 1) (ns.map (fun (k : Nat) => Value.int .i64 (k : Int)) ++ [.int .i64 (k : Int)])) (hg : V.grownBy V' B.ownBlock) :
    RS w W L S0 p A0 B0 x A B' E (ns ++ [k]) V' := by
  have hrb := h.ls.rowB
  have ne : ∀ {g : Nat} {t : TypeId} {cs : Array Value}, Blk V g t cs → (3 : Nat) ≠ t → some g ≠ B.ownBlock := fun k e1 e2 => own_blk_ne hrb k e1 e2.symm
  exact ⟨h.k0.grown hg (ne h.k0 (by decide)), h.k1.grown hg (ne h.k1 (by decide)), h.k2.grown hg (ne h.k2 (by decide)), h.k3.grown hg (ne h.k3 (by decide)), h.k4.grown hg (ne h.k4 (by decide)), h.k5.grown hg (ne h.k5 (by decide)), h.k6.grown hg (ne h.k6 (by decide)),
    ⟨h.ls.rowA.kept hg (own_apart h.ls.rowA hrb (by decide)), by rw [List.length_append, List.map_append]; simpa using hown, fun y hy => (h.ls.dgs y hy).kept hg (own_apart (h.ls.dgs y hy) hrb (by decide))⟩, h.ho.kept hg (own_apart h.ho hrb (by decide)), Below.own h.hb hrb hg (by omega) (by have := h.hz; omega), Laid.own h.hld hrb hg (by omega),
    h.bd.trans (Bd.own hrb hg (by have := h.hz; omega) (by omega)), Nat.le_trans h.hz hg.size, h.hA⟩
theorem own_ltG {base n size : Nat} {e : TypeId} {v : Value} {xs : List Value} (h : V.ownsRow base e size v n xs) : ∀ g, v.ownBlock = some g → g < V.heap.size := by
  intro g hg
  rcases h.2 with ⟨rfl, _⟩ | ⟨g', cap, cur, rfl, hge, hh, _⟩
  · cases hg
  · have : g' = g := by simpa [Value.ownBlock] using hg
    subst this
    exact (show Blk V g' e cur from hh).lt
theorem own_slG {base n size : Nat} {e : TypeId} {v : Value} {xs : List Value} (h : V.ownsRow base e size v n xs) : ∃ a c, v = .slice a n c := by
  rcases h.2 with ⟨rfl, h0⟩ | ⟨g, cap, cur, rfl, _⟩
  · exact ⟨_, _, by rw [h0]⟩
  · exact ⟨_, _, rfl⟩
/-- Both rows stored: the next round may begin. -/
theorem RS.fin (h : RS w W L S0 p A0 B0 x A B E ns V) (hL : w.heap.size + 4 ≤ L) (h6 : 6 < w.heap.size) {XS : List (Nat × List UInt8)} {i : Nat} (hE : E.map (·.e) = (XS.take i).map (fun x => (rdA (rowB x) p).1)) (hns : ns = (XS.take i).map (·.1)) (hok : okL p (XS.take i)) :
    Bd (L + 1 + 1 + 1) (L + 1 + 1) W ((V.setCell ⟨L, 0, none⟩ A).setCell ⟨L + 1, 0, none⟩ B) ∧ LpI w L p XS i ((V.setCell ⟨L, 0, none⟩ A).setCell ⟨L + 1, 0, none⟩ B) := by
  subst hns
  have far2 : ∀ {g : Nat} {t : TypeId} {cs : Array Value}, Blk V g t cs → g ≠ L → g ≠ L + 1 → Blk ((V.setCell ⟨L, 0, none⟩ A).setCell ⟨L + 1, 0, none⟩ B) g t cs := fun k h1 h2 => (k.far (p := ⟨L, 0, none⟩) h1 A).far (p := ⟨L + 1, 0, none⟩) h2 B
  refine ⟨h.bd.trans ((Bd.setCell V ⟨L, 0, none⟩ A (by show L + 1 + 1 ≠ L; omega)).trans (Bd.setCell _ ⟨L + 1, 0, none⟩ B (by show L + 1 + 1 ≠ L + 1; omega))), A, B, E, far2 h.k0 (by omega) (by omega), far2 h.k1 (by omega) (by omega), far2 h.k2 (by omega) (by omega), far2 h.k3 (by omega) (by omega),
    (h.k4.set_ 0 A).far (p := ⟨L + 1, 0, none⟩) (by show L ≠ L + 1; omega) B, (h.k5.far (p := ⟨L, 0, none⟩) (by show L + 1 ≠ L; omega) A).set_ 0 B, h.ls.kept (fun k => own_far (own_far k (grown_setCell _ _ _ _) (by omega)) (grown_setCell _ _ _ _) (by omega)), hE, hok, ?_, (h.hb.setCell (p := ⟨L, 0, none⟩) (by show _ ≤ L; omega) A).setCell (p := ⟨L + 1, 0, none⟩) (by show _ ≤ L + 1; omega) B, by have := h.hz; simpa using this⟩
  exact (h.hld.grown (grown_setCell V L 0 A) (fun b e => by have : L = b := Option.some.inj e; omega)).grown (grown_setCell _ (L + 1) 0 B) (fun b e => by have : L + 1 = b := Option.some.inj e; omega)
end
/-- Steps of a region, one operation each. -/
theorem wp_value {P : Program} {o : Oper} {a : Act} {w : World} {K : Act → World → Prop} {Q : Exit → Act → World → Prop} {v : Value} (h : (execOp a.eval o).run P w = .ok (.value v) w) (hk : K (a.put o.dst v) w) : o.wp P a w K Q := by
  unfold Oper.wp; rw [h]; exact hk
theorem wp_skip {P : Program} {o : Oper} {a : Act} {w w' : World} {K : Act → World → Prop} {Q : Exit → Act → World → Prop} (h : (execOp a.eval o).run P w = .ok .skip w') (hk : K (a.put o.dst undef) w') : o.wp P a w K Q := by
  unfold Oper.wp; rw [h]; exact hk
theorem wp_built {P : Program} {o : Oper} {a : Act} {w : World} {K : Act → World → Prop} {Q : Exit → Act → World → Prop} (t e : TypeId) (len : Nat) (parts : Array (Nat × Operand)) (ho : o.op = .buildSlice t len parts) (hu : P.underlying t = some (.slice e)) (cells : Array Value)
    (hf : P.builtSlice e len (parts.map fun (i, x) => (i, a.eval x)).toList = some cells) (h : K (a.put o.dst (.slice (some ⟨w.heap.size, 0, none⟩) len len)) (w.alloc (.cells cells e))) : o.wp P a w K Q := by
  unfold Program.builtSlice at hf
  cases hie : P.info? e with
  | none => simp [hie] at hf
  | some ie =>
    simp only [hie] at hf
    cases hz : ie.zero with
    | none => simp [hz] at hf
    | some z =>
      simp only [hz] at hf
      by_cases hc : len * ie.size > 2 ^ 24 ∨ len * ie.size = 0
      · simp [hc] at hf
      · rw [if_neg hc] at hf
        exact wp_buildSlice t e len parts ho cells ie z hu hie hz (fun h' => hc (Or.inl h')) (fun h' => hc (Or.inr h')) hf h
theorem wp_built1 {P : Program} {o : Oper} {a : Act} {w : World} {K : Act → World → Prop} {Q : Exit → Act → World → Prop} (t e : TypeId) (x : Operand) (v : Value) (ho : o.op = .buildSlice t 1 #[(0, x)]) (hx : a.eval x = v) (hu : P.underlying t = some (.slice e)) (cells : Array Value)
    (hf : P.builtSlice e 1 [(0, v)] = some cells) (h : K (a.put o.dst (.slice (some ⟨w.heap.size, 0, none⟩) 1 1)) (w.alloc (.cells cells e))) : o.wp P a w K Q :=
  wp_built t e 1 _ ho hu cells (by simpa [hx] using hf) h
theorem built_sum (x : EnL) : Tryz.prog.builtSlice 33 1 [(0, .agg (enC x))] = some (enC x) := by kernel_rfl
theorem built_int (k : Int) : Tryz.prog.builtSlice 3 1 [(0, .int .i64 k)] = some #[.int .i64 k] := by kernel_rfl
theorem sum_info : (Tryz.prog.info? 33).map (fun i => (i.zero, i.size, i.bytes)) = some (some (.agg #[.int .i64 0, .string ⟨#[]⟩, .slice none 0 0, .bool false]), 4, 56) := by kernel_rfl
theorem int_info : (Tryz.prog.info? 3).map (fun i => (i.zero, i.size, i.bytes)) = some (some (.int .i64 0), 1, 8) := by kernel_rfl
theorem blk_reads {V : World} {g : Nat} {t : TypeId} {xs : List Value} {size : Nat} (h : Blk V g t xs.toArray) (hl : xs.length = size) : Reads V (g + 1) size (some ⟨g, 0, none⟩) 1 xs :=
  ⟨by omega, fun _ => ⟨_, rfl, Nat.lt_succ_self _, fun j u hu => by
    have := h.cell j
    rw [List.getElem?_toArray, hu] at this
    rcases Nat.eq_zero_or_pos j with rfl | hj
    · simpa [Addr.add] using this
    · simpa [Addr.add, Nat.pos_iff_ne_zero.1 hj] using this⟩⟩
theorem waits_lt {ops : Array Oper} {md : Region.Mode} {i m : Nat} (hc : ((List.range ops.size).all fun j => decide (j < m) || (match ops[j]? with | some o => o.after.any (fun e => Region.binds md e && e.on == i) | none => true)) = true) {j : Nat} {oj : Oper} (ho : ops[j]? = some oj) (hn : ∀ e ∈ oj.after, Region.binds md e = true → e.on ≠ i) : j < m := by
  have hj : j < ops.size := (Array.getElem?_eq_some_iff.1 ho).1
  have h1 := List.all_eq_true.1 hc j (List.mem_range.2 hj)
  rw [ho] at h1
  simp only [Bool.or_eq_true, decide_eq_true_eq] at h1
  rcases h1 with h1 | h1
  · exact h1
  · rw [Array.any_eq_true'] at h1
    obtain ⟨e, he, h2⟩ := h1
    simp only [Bool.and_eq_true, beq_iff_eq] at h2
    exact absurd h2.2 (hn e he h2.1)
end Go.Proofs.YtmnkdkibhchglaaGreatDoor
namespace Go.Proofs.YtmnkdkibhchglaaGreatDoor
section
variable {H : Type} {enc : TypeId × Value → H}
theorem returnsInHanded_of_cond_and {a : Assume} {C : Checked} {os : Os} {f : FuncId} {fn : Func} {s : OpenSpec} {k : (H : Type) → List (DataW H) → Bool} (hk : s.cond = some k) {F : Stop.Interp} {conds : List PathCond} {apart fresh handsOn again : Bool} {X : World → Array Value → Prop}
    (hX : ∀ (w w' : World) (args : Array Value), w.heap = w'.heap → X w args → X w' args)
    (own : ownKnob C.prog.godebug = none) (started : os.Started) (noInit : C.prog.inits.idxOf? f = none) (hfn : C.prog.funcs[f]? = some fn)
    (witness : ∃ (w : World) (tape : Tape) (i : Input), w.os = os ∧ (w.forCall tape i).Shaped C.prog ∧ i.vars = [] ∧ Input.okWide C.prog (w.forCall tape i) .any w.heap.size f i ∧
      ((s.pre enc C.prog fn conds apart (w.forCall tape i).memory i.args ∧ X (w.forCall tape i).memory i.args) ∧ sizedMet enc C.prog fn s apart (w.forCall tape i).memory i.args) ∧ a.holds C.prog (lone (Frame.enter C.prog f i.args .normal) [] (w.forCall tape i)))
    (contract : ∀ (W : World) (base : Nat) (args : Array Value) (ds gs : List (DataW H)) (before : List MemPlace),
      (∀ (j : Nat) t v, fn.params[j]? = some t → args[j]? = some v → Value.okWide C.prog W .any base t v) →
      DataW.Whole enc C.prog fn.params.toList s.vars apart W args.toList ds gs before →
      k H (ds ++ gs) = true →
      (DataW.weightsEach C.prog (fn.params.toList ++ s.bare.plain.varTypes C.prog) (ds ++ gs)).all (· ≤ reachBytes) = true → X W args →
      Calls C.prog f args W fun e W' => ∃ v, e = .returned v ∧ (s.at F).post enc C.prog fn apart fresh handsOn again W args v W') :
    ReturnsInHanded a C os f .any (fun w args => (s.pre enc C.prog fn conds apart w args ∧ X w args) ∧ sizedMet enc C.prog fn s apart w args) ((s.at F).post enc C.prog fn apart fresh handsOn again) := by
  refine returnsInHanded_of_calls own started noInit witness ?_
  intro w tape i _ _ _ hok hpre hholds
  obtain ⟨_, _, _, fn', hfn', _, _, _, _, hval⟩ := hok
  have e : fn' = fn := Option.some.inj (hfn'.symm.trans hfn)
  subst e
  obtain ⟨⟨hp, hx⟩, hz⟩ := hpre
  obtain ⟨ds, gs, before, hw, hc, hkk⟩ := (OpenSpec.pre_some hk conds apart _ _).1 hp
  have hw' := DataW.Whole.of_heap (w' := w.forCall tape i) (by rfl) hw
  refine (contract (w.forCall tape i) w.heap.size i.args ds gs before hval hw' hkk (hz.weights hw) (hX _ _ _ (by rfl) hx)).mono fun e W' ⟨v, he, hp⟩ => ?_
  subst he
  exact ChangeSpec.post_blind hp
theorem cond_witness {C : Checked} {os : Os} {f : FuncId} {fn : Func} {s : OpenSpec} {k : (H : Type) → List (DataW H) → Bool} (hk : s.cond = some k) {conds : List PathCond} {apart : Bool} {X : World → Array Value → Prop} (modest : Bool) (w0 : World) (args : Array Value) (fuel : Nat) (hos : w0.os = os)
    (hsh : (w0.forCall (fun _ _ => 0) ⟨#[], args, []⟩).Shaped C.prog)
    (hok : Input.okWideB C.prog (w0.forCall (fun _ _ => 0) ⟨#[], args, []⟩) f ⟨#[], args, []⟩ = true)
    {x : List (DataW H) × List (DataW H) × List MemPlace} (hx : DataW.whole enc C.prog (w0.forCall (fun _ _ => 0) ⟨#[], args, []⟩).memory fn.params.toList s.vars apart args.toList fuel = some x)
    (hconds : conds.all (PathCond.test C.prog ⟨fn.params.toList, x.1, s.bare.plain.varTypes C.prog, x.2.1⟩) = true) (hkk : k H (x.1 ++ x.2.1) = true)
    (hsz : s.bare.sizedB enc C.prog fn apart (w0.forCall (fun _ _ => 0) ⟨#[], args, []⟩).memory args fuel = true)
    (hX : X (w0.forCall (fun _ _ => 0) ⟨#[], args, []⟩).memory args) :
    ∃ (w : World) (tape : Tape) (i : Input), w.os = os ∧ (w.forCall tape i).Shaped C.prog ∧ i.vars = [] ∧ Input.okWide C.prog (w.forCall tape i) .any w.heap.size f i ∧
      ((s.pre enc C.prog fn conds apart (w.forCall tape i).memory i.args ∧ X (w.forCall tape i).memory i.args) ∧ sizedMet enc C.prog fn s apart (w.forCall tape i).memory i.args) ∧ ({ modest := modest } : Assume).holds C.prog (lone (Frame.enter C.prog f i.args .normal) [] (w.forCall tape i)) :=
  ⟨w0, fun _ _ => 0, ⟨#[], args, []⟩, hos, hsh, (Input.okWide_of_okWideB (base := 0) hok).1, (Input.okWide_of_okWideB hok).2, ⟨⟨(OpenSpec.pre_some hk conds apart _ _).2 ⟨x.1, x.2.1, x.2.2, DataW.Whole_of_whole hx, hconds, hkk⟩, hX⟩, sizedMet_of_sizedB hsz⟩, by
    simp only [Assume.holds]
    exact ⟨by simp, by simp, fun _ => Modest.zero, by simp, by simp⟩⟩
end
end Go.Proofs.YtmnkdkibhchglaaGreatDoor
