/- Words for a table of replacements in memory; walk: the table is built ((*strings.Replacer).build, at the three escapes). Conditions: as stated. -/
import Derived.Test.YtmnkdkibhchglaaGreatDoorEb
import Derived.Test.YtmnkdkibhchglaaGreatDoorMem3
namespace Go.Proofs.YtmnkdkibhchglaaGreatDoor
open Go.RowKit
set_option linter.unusedVariables false
attribute [local go_sem ↓] Go.wp_at_zero Go.wp_at_succ

/-- Bytes in a block, whatever stands behind them. -/
def BBlk (w : World) (b : Nat) (l : List UInt8) : Prop := ∃ cs fr, w.heap[b]? = some (.cells cs 5 fr) ∧ ∀ (j : Nat) (u : Value), (bys l)[j]? = some u → cs[j]? = some u
section
variable {w w' : World} {b : Nat} {l : List UInt8}
theorem BBlk.lt (h : BBlk w b l) : b < w.heap.size := by
  obtain ⟨cs, fr, h, _⟩ := h
  rcases Nat.lt_or_ge b w.heap.size with hlt | hge
  · exact hlt
  · rw [Array.getElem?_eq_none hge] at h; cases h
theorem BBlk.keep (h : BBlk w b l) (e : w'.heap[b]? = w.heap[b]?) : BBlk w' b l := by
  obtain ⟨cs, fr, h, hc⟩ := h
  exact ⟨cs, fr, e.trans h, hc⟩
theorem BBlk.below (h : BBlk w b l) (hb : Below w.heap.size w w') : BBlk w' b l := h.keep (hb.block b h.lt)
theorem BBlk.ne_ (h : BBlk w b l) {g : Nat} {t : TypeId} {cs : Array Value} (h' : Blk w g t cs) (ht : t ≠ 5) : b ≠ g := by
  rintro rfl
  obtain ⟨cs', fr, h, _⟩ := h
  unfold Blk at h'
  rw [h'] at h
  injection h with h
  injection h with _ e
  exact ht e
theorem BBlk.far (h : BBlk w b l) {p : Addr} (hp : b ≠ p.block) (u : Value) : BBlk (w.setCell p u) b l := h.keep (Below.heap_setCell w p u b hp)
theorem BBlk.ne_own (h : BBlk w b l) {base n size : Nat} {e : TypeId} {v : Value} {xs : List Value} (h' : w.ownsRow base e size v n xs) (ht : e ≠ 5) : v.ownBlock ≠ some b := by
  rcases h'.2 with ⟨rfl, _⟩ | ⟨g', cap, cur, rfl, _, hh, _⟩
  · simp [Value.ownBlock]
  · intro he
    have : g' = b := by simpa [Value.ownBlock] using he
    subst this
    exact h.ne_ (t := e) hh ht rfl
theorem BBlk.grown (h : BBlk w b l) {row : Option Nat} (hg : w.grownBy w' row) (hr : row ≠ some b) : BBlk w' b l := h.keep (hg.block b h.lt (Ne.symm hr))
theorem BBlk.cell (h : BBlk w b l) {j : Nat} {u : Value} (hu : (bys l)[j]? = some u) : w.cell? ⟨b, j, none⟩ = some u := by
  obtain ⟨cs, fr, h, hc⟩ := h
  rw [cell_of_row w b j cs _ fr h]
  exact hc j u hu
theorem BBlk.reads (h : BBlk w b l) : Reads w w.heap.size 1 (some ⟨b, 0, none⟩) l.length (bys l) :=
  ⟨by simp, fun _ => ⟨_, rfl, h.lt, fun j u hu => by rw [show ((⟨b, 0, none⟩ : Addr).add j) = ⟨b, j, none⟩ from by cases j <;> simp [Addr.add]]; exact h.cell hu⟩⟩
end
/-- '[]byte(s)' in a walk. -/
theorem wpList_convNew {ops : Array Oper} {rest : List Oper} {o : Oper} {a : Act} {w : World} {Q : Exit → Act → World → Prop} (hg : o.guard = none) (x : Operand) (ho : o.op = .convert 9 31 x) (s : ByteArray) (hx : a.eval x = .string s)
    (h : ∀ w' c, BBlk w' w.heap.size s.data.toList → Below w.heap.size w w' → w'.heap.size = w.heap.size + 1 → wpList Tryz.prog ops Q rest (a.put o.dst (.slice (some ⟨w.heap.size, 0, none⟩) s.size c)) w') : wpList Tryz.prog ops Q (o :: rest) a w := by
  refine wpList_plain hg fun _ hK => ?_
  have hr := run_bytes_of_string w 9 31 5 s Tryz.underlying9 Tryz.underlying31 Tryz.underlying5
  unfold Oper.wp execOp
  simp only [ho, hx, Sem.run_bind, Result.andThen_ok, hr]
  refine hK _ _ (h _ _ ⟨bytesRow s (grownCap w s.size 0 5), _, heap_alloc_new _ _, ?_⟩ ((Below.refl _ _).drew.alloc (Nat.le_refl _) _) (by simp))
  intro j u hu
  have hj : j < s.data.toList.length := by
    rcases Nat.lt_or_ge j s.data.toList.length with h1 | h1
    · exact h1
    · rw [List.getElem?_eq_none (by simpa using h1)] at hu; cases hu
  have hj' : j < s.data.size := hj
  rw [bytesRow, Array.getElem?_append_left (by simpa using hj'), ← hu]
  simp [bys]
/-- What is replaced by what, at one number. -/
def look (ps : List (UInt8 × List UInt8)) (i : Nat) : Option (List UInt8) := (ps.find? fun p => p.1.toNat == i).map (·.2)
/-- A slot of the table. -/
def Slt (w : World) (v : Value) : Option (List UInt8) → Prop
  | none => v = .slice none 0 0
  | some l => ∃ b c, v = .slice (some ⟨b, 0, none⟩) l.length c ∧ BBlk w b l
theorem Slt.step {w w' : World} {v : Value} {o : Option (List UInt8)} (h : Slt w v o) (hk : ∀ b l, BBlk w b l → BBlk w' b l) : Slt w' v o := by
  cases o with
  | none => exact h
  | some l => obtain ⟨b, c, e, hb⟩ := h; exact ⟨b, c, e, hk b l hb⟩
/-- A table in memory. -/
def RepSt (W w : World) (g : Nat) (ps : List (UInt8 × List UInt8)) : Prop :=
  ∃ C A c, Blk w g 201 C ∧ C.size = 257 ∧ C[256]? = some (.slice A ps.length c) ∧ w.ownsRow W.heap.size 9 1 (.slice A ps.length c) ps.length (ps.map fun p => bstr [p.1]) ∧
    (∀ i : Nat, i < 256 → ∃ v, C[i]? = some v ∧ Slt w v (look ps i)) ∧ Below W.heap.size W w
def bsC (v : Value) : Array Value := (Array.replicate 256 (.slice none 0 0)).push v
theorem bsC_size (v : Value) : (bsC v).size = 257 := by simp [bsC]
theorem bsC_at (v : Value) (i : Nat) (h : i < 256) : (bsC v)[i]? = some (.slice none 0 0) := by
  rw [bsC, Array.getElem?_push, if_neg (by simp; omega), Array.getElem?_eq_getElem (by simpa using h)]; simp
theorem bsC_last (v : Value) : (bsC v)[256]? = some v := by rw [bsC, Array.getElem?_push, if_pos (by simp)]
theorem bsC_one (v : Value) (h : v.oneCell' = true) : (bsC v).toList.all (·.oneCell') = true := by
  rw [List.all_eq_true]
  intro x hx
  simp only [bsC, Array.toList_push, Array.toList_replicate, List.mem_append, List.mem_singleton] at hx
  rcases hx with hx | rfl
  · rw [List.eq_of_mem_replicate hx]; rfl
  · exact h
theorem built_bs (b : Nat) : Tryz.prog.built 201 [(1, .slice (some ⟨b, 0, none⟩) 0 3)] = some (bsC (.slice (some ⟨b, 0, none⟩) 0 3)) := by kernel_rfl
theorem bs_info : (Tryz.prog.info? 201).map (fun i => (i.zero.map (·.cells), i.size)) = some (some (bsC (.slice none 0 0)), 257) := by kernel_rfl
theorem bs_parts : ∃ i z, Tryz.prog.info? 201 = some i ∧ i.zero = some z ∧ z.cells = bsC (.slice none 0 0) ∧ i.size = 257 := by
  have h := bs_info
  cases hi : Tryz.prog.info? 201 with
  | none => rw [hi] at h; cases h
  | some i =>
    rw [hi] at h
    simp only [Option.map_some, Option.some.injEq, Prod.mk.injEq] at h
    cases hz : i.zero with
    | none => rw [hz] at h; cases h.1
    | some z => rw [hz] at h; exact ⟨i, z, rfl, hz, by simpa using h.1, h.2⟩
theorem str_info : (Tryz.prog.info? 9).map (fun i => (i.zero, i.size, i.bytes)) = some (some (.string ⟨#[]⟩), 1, 16) := by kernel_rfl
theorem built_s1 (y : ByteArray) : Tryz.prog.builtSlice 9 1 [(0, .string y)] = some #[.string y] := by kernel_rfl
theorem reads_lits (w : World) (x : ByteArray) : Reads (w.alloc (.cells #[.string x] 9)) (w.alloc (.cells #[.string x] 9)).heap.size 1 (some ⟨w.heap.size, 0, none⟩) 1 [.string x] :=
  Reads.of_own (World.ownsRow_lit (e := 9) (size := 1) (base := 0) w #[.string x] 1 (Nat.zero_le _) (by decide) rfl)
theorem conv_b1 (w : World) (x : UInt8) : (convert 31 9 (.slice (some ⟨w.heap.size, 0, none⟩) 1 1)).run Tryz.prog (w.alloc (.cells #[.int .u8 (x.toNat : Int)] 5)) = .ok (bstr [x]) (w.alloc (.cells #[.int .u8 (x.toNat : Int)] 5)) :=
  conv_bys (l := [x]) (World.ownsRow_lit (e := 5) (size := 1) (base := 0) w #[.int .u8 (x.toNat : Int)] 1 (Nat.zero_le _) (by decide) rfl)
end Go.Proofs.YtmnkdkibhchglaaGreatDoor
