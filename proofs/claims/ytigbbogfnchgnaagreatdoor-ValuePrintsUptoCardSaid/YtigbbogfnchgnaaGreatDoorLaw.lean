/- Plain words on a law's last step: arguments read through structs and slices of bytes, with their sizes; what the call leaves reads as it did. Conditions: none. -/
import Derived.Test.YtigbbogfnchgnaaGreatDoorMem
import Derived.WideKeyArgs
import Derived.Deep.Fields
import Derived.Deep.Slices
import Derived.ChangeSame
import Derived.SizedLaws
import Derived.RowKit
namespace Go.Proofs.YtigbbogfnchgnaaGreatDoor
open Go.RowKit Go.WideShapes Go.ChangeShapes Go.Deep

section
variable {H : Type} {enc : TypeId × Value → H} {P : Program}

theorem sameAt_below {W W' : World} (hb : Below W.heap.size W W') {p : MemPlace} (hp : p.block < W.heap.size) : W.sameAt W' p := by
  cases p with
  | cell b off => exact hb.cell (p := ⟨b, off, none⟩) hp
  | map b => exact hb.block b hp

theorem trodAll_stays (hl : laidOutB P = true) {base : Nat} {W W' : World} {sp : Nat → Bool} :
    ∀ {ts : List TypeId} {vs : List Value} {ds : List (DataW H)} {ps : List MemPlace}, (∀ t ∈ ts, P.readableRec t = true ∧ t < P.types.size) →
      DataW.TrodAll enc P W base (fun _ => true) true ts vs ds ps → (∀ p ∈ ps, W.sameAt W' p) → (∀ p ∈ ps, sp p.block = true) → DataW.TrodAll enc P W' base sp true ts vs ds ps
  | [], [], [], _, _, h, _, _ => h
  | t :: _, _ :: _, _ :: _, _, hT, ⟨p, q, h1, h2, e⟩, hs, hsp =>
    ⟨p, q, Go.WideElems.Trod_stays hl (hT t (List.mem_cons.2 (Or.inl rfl))).1 (hT t (List.mem_cons.2 (Or.inl rfl))).2 h1 (fun x hx => hs x (by rw [e]; exact List.mem_append_left _ hx)) (fun x hx => hsp x (by rw [e]; exact List.mem_append_left _ hx)),
      trodAll_stays hl (fun t ht => hT t (List.mem_cons.2 (Or.inr ht))) h2 (fun x hx => hs x (by rw [e]; exact List.mem_append_right _ hx)) (fun x hx => hsp x (by rw [e]; exact List.mem_append_right _ hx)), e⟩

/-- The last step of every law: true, and all that was there is as it was. -/
theorem law_post {f : Func} {s : ChangeSpec} {W W' : World} {args : Array Value} {ds gs : List (DataW H)} {before : List MemPlace} {tb : TypeId}
    (hl : laidOutB P = true) (hT : ∀ t ∈ f.params.toList, P.readableRec t = true ∧ t < P.types.size)
    (hW : DataW.Whole enc P f.params.toList s.vars false W args.toList ds gs before) (hv : s.vars = []) (hrt : f.resultTypes = #[tb]) (htb : P.underlying tb = some .bool)
    (hfn : s.fn H (ds ++ gs) = { results := [.lit (.bool true)], args := ds }) (hb : Below W.heap.size W W') :
    s.post enc P f false true false false W args (.bool true) W' := by
  have hlt : ∀ p ∈ before, p.block < W.heap.size := fun p hp => hW.lt p hp
  have hold : ∀ p ∈ before, (fun b => decide (b < W.heap.size)) p.block = true := fun p hp => by simpa using hlt p hp
  have hW' := hW
  obtain ⟨p, q, hA, hV, hpq, hz, hn⟩ := hW'
  rw [hv] at hV
  obtain ⟨hg, hq⟩ := trodVars_none hV
  subst hg; subst hq
  have hp : before = p := by rw [hpq, List.append_nil]
  subst hp
  have hsame : ∀ x ∈ before, W.sameAt W' x := fun x hx => sameAt_below hb (hlt x hx)
  have hargs : ∀ sp : Nat → Bool, (∀ x ∈ before, sp x.block = true) → DataW.TrodAll enc P W' 0 sp true f.params.toList args.toList (s.fn H (ds ++ [])).args before := fun sp hsp => by
    rw [hfn]; exact trodAll_stays hl hT hA hsame hsp
  have hres : ∀ (b : Nat) (sp : Nat → Bool) (hd : Bool), DataW.TrodAll enc P W' b sp hd f.resultTypes.toList ((Value.bool true).resultList f.resultTypes.size) (s.fn H (ds ++ [])).results [] := fun b sp hd => by
    rw [hfn, hrt]; exact trodAll_mk1 (shut_bool htb _)
  have hvars : ∀ sp : Nat → Bool, DataW.TrodVars enc P W' sp s.vars (s.fn H (ds ++ [])).vars [] := fun sp => by rw [hfn, hv]; rfl
  refine ⟨ds, [], before, [], before, [], hW, hres _ _ _, hargs _ hold, hvars _, World.keptBut_mono (fun p hp => ⟨hp, ?_⟩) (hb.frame (· ∈ before)), fun _ => ?_⟩
  · exact Or.inr (by simpa using hp)
  · refine ⟨?_, _, _, ([] ++ before) ++ [], ⟨[] ++ before, [], trodAll_append (hargs _ (fun _ _ => rfl)) (hres _ _ _), hvars _, rfl, ?_, ?_⟩, ?_⟩
    · exact ok_one hrt rfl (okWide_bool_mk htb _)
    · intro b off hp
      have hin : MemPlace.cell b off ∈ before := by simpa using hp
      rw [hb.frozen (hlt _ hin)]
      exact hz b off (by rw [hpq]; simpa using hin)
    · intro ha; cases ha
    · intro x hx _
      simpa using hx

/-- A slice of numbers of one kind: the list that it reads as, with its bounds. -/
theorem rd_ints {W : World} {k : IntKind} {t e : TypeId} {by_ : Nat} (ht : P.underlying t = some (.slice e)) (he : P.underlying e = some (.int k)) (hc : P.cellsOf e = 1) (hby : P.bytesOf e = by_)
    {fuel : Nat} {cs : List Value} {x : DataW H × List MemPlace} (h : DataW.trod enc P W 0 (fun _ => true) true fuel t cs = some x) (hw : ∀ m ∈ x.1.weights P t, m ≤ reachBytes) :
    ∃ (A : Option Addr) (n c : Nat) (xs : List Int), cs = [.slice A n c] ∧ n ≤ c ∧ c * by_ ≤ 140737488351232 ∧ (∀ z ∈ xs, (Lit.int k z).wf = true) ∧ Reads W W.heap.size 1 A n (xs.map (Value.int k)) := by
  rcases open_ints ht he hc h with ⟨rfl, rfl⟩ | ⟨a, len, cap, zs, rfl, hb, hl, hm, hlen, rfl, hcell, hwf⟩
  · exact ⟨none, 0, 0, [], rfl, Nat.le_refl _, by simp, (fun _ h => by cases h), Reads.none_⟩
  · have hcap : zs.length = cap := by simpa using hlen
    have hsz : cap * by_ ≤ 140737488351232 := by
      have := hw ((zs.take len).length * by_ + (zs.drop len).length * by_) (by simp [DataW.weights, ht, hby, lits, Nat.add_mul])
      have e2 : (zs.take len).length + (zs.drop len).length = cap := by simp; omega
      rw [← Nat.add_mul, e2] at this
      exact this
    refine ⟨some a, len, cap, zs.take len, rfl, hl, hsz, fun z hz => hwf z (List.mem_of_mem_take hz), ⟨by simp; omega, fun h0 => ⟨a, rfl, ?_, ?_⟩⟩⟩
    · have hc0 := hcell 0 (by omega)
      have : a.add 0 = a := by simp [Addr.add]
      rw [this] at hc0
      rcases Nat.lt_or_ge a.block W.heap.size with hlt | hge
      · exact hlt
      · exfalso
        obtain ⟨b, o, sp⟩ := a
        simp only [World.cell?] at hc0
        rw [Array.getElem?_eq_none hge] at hc0
        simp at hc0
    · intro j u hu
      rw [List.getElem?_map] at hu
      have hj : j < len := by
        rcases Nat.lt_or_ge j (zs.take len).length with hlt | hge
        · simp at hlt; omega
        · rw [List.getElem?_eq_none hge] at hu; simp at hu
      rw [List.getElem?_take, if_pos hj, List.getElem?_eq_getElem (show j < zs.length by omega)] at hu
      simp only [Option.map_some, Option.some.injEq] at hu
      rw [hcell j (by omega), ← hu]
      simp [List.getD, List.getElem?_eq_getElem (show j < zs.length by omega)]

/-- A string, with its bound. -/
theorem rd_string {W : World} {t : TypeId} (ht : P.underlying t = some .string) {fuel : Nat} {cs : List Value} {x : DataW H × List MemPlace}
    (h : DataW.trod enc P W 0 (fun _ => true) true fuel t cs = some x) (hw : ∀ m ∈ x.1.weights P t, m ≤ reachBytes) : ∃ s : ByteArray, cs = [.string s] ∧ s.size ≤ 140737488351232 := by
  obtain ⟨s, rfl, rfl, _⟩ := DataW.trod_string ht h
  refine ⟨s, rfl, ?_⟩
  have h1 := hw s.data.toList.length (List.mem_singleton.2 rfl)
  have h2 : s.data.toList.length = s.size := Array.length_toList
  have h3 : reachBytes = 140737488351232 := rfl
  rw [h2, h3] at h1
  exact h1

/-- A struct of one-cell fields: each field's own reading. -/
theorem rd_struct {W : World} {t : TypeId} {fs : Array Field} (ht : P.underlying t = some (.struct fs)) (hone : oneCellFields P fs = true) (hC : P.cellsOf t = fs.size)
    {fuel : Nat} {cs : List Value} {x : DataW H × List MemPlace} (h : DataW.trod enc P W 0 (fun _ => true) true fuel t cs = some x) (hw : ∀ m ∈ x.1.weights P t, m ≤ reachBytes) :
    cs.length = fs.size ∧ ∀ (j : Nat) (f : Field), fs[j]? = some f → ∃ (u : Value) (n : Nat) (y : DataW H × List MemPlace), cs[j]? = some u ∧
      DataW.trod enc P W 0 (fun _ => true) true n f.type [u] = some y ∧ ∀ m ∈ y.1.weights P f.type, m ≤ reachBytes := by
  obtain ⟨xs, n, _, rfl, hl, hxl, hf⟩ := DataW.trod_struct ht h
  refine ⟨hl.trans hC, fun j f hj => ?_⟩
  obtain ⟨ho, hk⟩ := hone_of hone j f hj
  have hjl : j < fs.size := (Array.getElem?_eq_some_iff.1 hj).1
  have h1 := hf j f hj
  rw [ho, hk] at h1
  have hone' : (cs.drop j).take 1 = [cs[j]'(by omega)] := by
    rw [List.drop_eq_getElem_cons (by omega)]
    rfl
  rw [hone'] at h1
  have hx : xs[j]? = some (xs[j]'(by omega)) := List.getElem?_eq_getElem (by omega)
  refine ⟨_, n, _, List.getElem?_eq_getElem (by omega), h1.trans hx, fun m hm => hw m ?_⟩
  simp only [DataW.weights, ht]
  exact DataW.weights_mem_each (t := f.type) (d := (xs[j]'(by omega)).1) (j := j) (by rw [List.getElem?_map]; simp [hj]) (by rw [List.getElem?_map, hx]; rfl) m hm

/-- The value of an argument of a struct's type lies open. -/
theorem rd_agg {W : World} {r : Reach} {b0 : Nat} {t : TypeId} {fs : Array Field} (ht : P.underlying t = some (.struct fs)) {v : Value} (hv : Value.okWide P W r b0 t v) : ∃ cs : List Value, v = .agg cs.toArray ∧ v.cells.toList = cs := by
  obtain ⟨cs, rfl, _⟩ := okWide_struct ht hv
  exact ⟨cs.toList, rfl, rfl⟩
theorem rd_each {ts : List TypeId} {ds : List (DataW H)} (h : (DataW.weightsEach P ts ds).all (· ≤ reachBytes) = true) {j : Nat} {t : TypeId} {d : DataW H} (ht : ts[j]? = some t) (hd : ds[j]? = some d) : ∀ m ∈ d.weights P t, m ≤ reachBytes := fun m hm => by
  have := List.all_eq_true.1 h _ (DataW.weights_mem_each ht hd m hm)
  simpa using this
theorem fld_int {W : World} {k : IntKind} {t : TypeId} (ht : P.underlying t = some (.int k)) {fuel : Nat} {u : Value} {x : DataW H × List MemPlace} (h : DataW.trod enc P W 0 (fun _ => true) true fuel t [u] = some x) : ∃ n, u = .int k n ∧ (Lit.int k n).wf = true := by
  obtain ⟨n, h1, _, h2⟩ := DataW.trod_int ht h
  injection h1 with h1
  exact ⟨n, h1, h2⟩
end
/-- A slice of numbers as an argument: its list, bounds, reading. -/
def RdInts (W : World) (k : IntKind) (by_ : Nat) (A : Option Addr) (n c : Nat) (xs : List Int) : Prop :=
  n ≤ c ∧ c * by_ ≤ 140737488351232 ∧ (∀ z ∈ xs, (Lit.int k z).wf = true) ∧ Reads W W.heap.size 1 A n (xs.map (Value.int k))
section
variable {H : Type} {enc : TypeId × Value → H} {P : Program}
theorem fld_ints {W : World} {k : IntKind} {t e : TypeId} {by_ : Nat} (ht : P.underlying t = some (.slice e)) (he : P.underlying e = some (.int k)) (hc : P.cellsOf e = 1) (hby : P.bytesOf e = by_)
    {fuel : Nat} {u : Value} {x : DataW H × List MemPlace} (h : DataW.trod enc P W 0 (fun _ => true) true fuel t [u] = some x) (hw : ∀ m ∈ x.1.weights P t, m ≤ reachBytes) :
    ∃ (A : Option Addr) (n c : Nat) (xs : List Int), u = .slice A n c ∧ RdInts W k by_ A n c xs := by
  obtain ⟨A, n, c, xs, h1, h2⟩ := rd_ints ht he hc hby h hw
  injection h1 with h1
  exact ⟨A, n, c, xs, h1, h2⟩
theorem fld_bool {W : World} {t : TypeId} (ht : P.underlying t = some .bool) {fuel : Nat} {u : Value} {x : DataW H × List MemPlace} (h : DataW.trod enc P W 0 (fun _ => true) true fuel t [u] = some x) : ∃ b, u = .bool b := by
  obtain ⟨b, h1, _⟩ := DataW.trod_bool ht h
  injection h1 with h1
  exact ⟨b, h1⟩
theorem fld_string {W : World} {t : TypeId} (ht : P.underlying t = some .string) {fuel : Nat} {u : Value} {x : DataW H × List MemPlace} (h : DataW.trod enc P W 0 (fun _ => true) true fuel t [u] = some x)
    (hw : ∀ m ∈ x.1.weights P t, m ≤ reachBytes) : ∃ s : ByteArray, u = .string s ∧ s.size ≤ 140737488351232 := by
  obtain ⟨s, h1, h2⟩ := rd_string ht h hw
  injection h1 with h1
  exact ⟨s, h1, h2⟩
theorem rd_one {W : World} {r : Reach} {b0 : Nat} {t : TypeId} {v : Value} (ht : (∃ k, P.underlying t = some (.int k)) ∨ P.underlying t = some .bool ∨ P.underlying t = some .string ∨ ∃ e, P.underlying t = some (.slice e)) (hv : Value.okWide P W r b0 t v) :
    ∃ u : Value, v.cells.toList = [u] ∧ v = u := by
  rcases ht with ⟨k, ht⟩ | ht | ht | ⟨e, ht⟩
  · obtain ⟨n, rfl⟩ := okWide_int ht hv; exact ⟨_, rfl, rfl⟩
  · obtain ⟨n, rfl⟩ := okWide_bool ht hv; exact ⟨_, rfl, rfl⟩
  · obtain ⟨n, rfl⟩ := okWide_string ht hv; exact ⟨_, rfl, rfl⟩
  · obtain ⟨a, l, c, rfl⟩ := okWide_slice ht hv; exact ⟨_, rfl, rfl⟩
end
theorem list_len3 {α : Type} {l : List α} (h : l.length = 3) : ∃ a b c, l = [a, b, c] := by
  match l, h with | [a, b, c], _ => exact ⟨a, b, c, rfl⟩
theorem list_len4 {α : Type} {l : List α} (h : l.length = 4) : ∃ a b c d, l = [a, b, c, d] := by
  match l, h with | [a, b, c, d], _ => exact ⟨a, b, c, d, rfl⟩
theorem list_len5 {α : Type} {l : List α} (h : l.length = 5) : ∃ a b c d e, l = [a, b, c, d, e] := by
  match l, h with | [a, b, c, d, e], _ => exact ⟨a, b, c, d, e, rfl⟩
theorem list_len11 {α : Type} {l : List α} (h : l.length = 11) : ∃ a b c d e f g i j k m, l = [a, b, c, d, e, f, g, i, j, k, m] := by
  match l, h with | [a, b, c, d, e, f, g, i, j, k, m], _ => exact ⟨a, b, c, d, e, f, g, i, j, k, m, rfl⟩
end Go.Proofs.YtigbbogfnchgnaaGreatDoor
