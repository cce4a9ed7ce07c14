/- Walks: a replacer is made (strings.NewReplacer), its table built once ((*strings.Replacer).buildOnce). Conditions: as stated. -/
import Derived.Test.YtmnkdkibhchglaaGreatDoorRe
namespace Go.Proofs.YtmnkdkibhchglaaGreatDoor
open Go.RowKit
set_option linter.unusedVariables false
attribute [local go_sem ↓] Go.wp_at_zero Go.wp_at_succ

/-- The three pairs. -/
def strs6 : List Value := [.string ⟨#[92]⟩, .string ⟨#[92, 92]⟩, .string ⟨#[10]⟩, .string ⟨#[92, 110]⟩, .string ⟨#[13]⟩, .string ⟨#[92, 114]⟩]
/-- A replacer's cells. -/
abbrev rpC (d m : Int) (r o : Value) : Array Value := #[.int .u32 d, .int .i32 m, .int .u32 0, r, o]
/-- A replacer that is made. -/
def NewRp (W w : World) (R : Nat) : Prop := ∃ q c, 6 ≤ c ∧ Blk w R 164 (rpC 0 0 .nilIface (.slice (some ⟨q, 0, none⟩) 6 c)) ∧ w.ownsRow W.heap.size 9 1 (.slice (some ⟨q, 0, none⟩) 6 c) 6 strs6 ∧ Below W.heap.size W w ∧ W.heap.size ≤ R
set_option maxRecDepth 100000 in
theorem c_NewReplacer (a : Addr) (c : Nat) (w : World) (hr : Reads w w.heap.size 1 (some a) 6 strs6) :
    Calls Tryz.prog 73 #[.slice (some a) 6 c] w fun e w' => ∃ R, e = .returned (.pointer (some ⟨R, 0, none⟩)) ∧ NewRp w w' R := by
  obtain ⟨i0, hi0, hz0, hz1, hz2⟩ := info_parts str_info
  go_enter Tryz.func73, Tryz.ntmps73
  go_wp2_with (at_builtin; refine wpList_append_any _ rfl (.const (Value.slice none 0 0)) (.tmp 8) 148 rfl w.heap.size 9 i0 _ 1 16 Tryz.underlying148 hi0 hz0 hz1 hz2 rfl (by omega) (.slice none 0 0) 0 [] rfl ⟨by simp, .inl ⟨rfl, rfl⟩⟩ w.heap.size (some a) 6 c strs6 rfl hr (by simp [strs6, Value.oneCell']) (by simp only [maxLen]; omega) (by omega) (Nat.le_refl _) ?_; intro v1 w1 hown1 hg1 hat1; obtain ⟨q, cap, rfl, hlc, hlt⟩ := hown1.form (by omega); have HO := Lib.hid hown1; have HB := Lib.hid ((Below.refl w.heap.size w).grown hg1 (Nat.le_refl _) (by simp [Value.ownBlock])); clear hown1 hg1 hat1)
  have hcap : 6 ≤ cap := by
    obtain ⟨A, c2, e, hc, _⟩ := own_reads HO.out
    injection e with _ _ e
    omega
  have HN : Hid (NewRp w (w1.alloc (.cells #[.int .u32 0, .int .i32 0, .int .u32 0, .nilIface, .slice (some ⟨q, 0, none⟩) 6 cap] 164)) w1.heap.size) :=
    ⟨q, cap, hcap, Blk.new _ _ _, HO.out.alloc _, HB.out.alloc HB.out.size _, HB.out.size⟩
  go_ret
  exact ⟨_, rfl, HN.out⟩
/-- A table whose base lies lower. -/
theorem RepSt.rebase {W0 W w : World} {g : Nat} {ps : List (UInt8 × List UInt8)} (h : RepSt W w g ps) (hb : Below W0.heap.size W0 W) : RepSt W0 w g ps := by
  obtain ⟨C, A, c, h1, h2, h3, h4, h5, h6⟩ := h
  exact ⟨C, A, c, h1, h2, h3, own_base h4 hb.size, h5, below_step hb h6⟩
/-- A table is not touched by a store into a replacer. -/
theorem RepSt.put {W w : World} {g R : Nat} {ps : List (UInt8 × List UInt8)} {cs : Array Value} (h : RepSt W w g ps) (hR : Blk w R 164 cs) (hW : W.heap.size ≤ R) (i : Nat) (u : Value) : RepSt W (w.setCell ⟨R, i, none⟩ u) g ps := by
  obtain ⟨C, A, c, h1, h2, h3, h4, h5, h6⟩ := h
  have hn : (Value.slice A ps.length c).ownBlock ≠ some R := own_blk_ne h4 hR (by decide)
  exact ⟨C, A, c, h1.far (p := ⟨R, i, none⟩) (h1.ne_ hR (by decide)) u, h2, h3, h4.kept (grown_setCell w R i u) (.inr hn), fun j hj => by obtain ⟨v, k1, k2⟩ := h5 j hj; exact ⟨v, k1, k2.step (fun b l hb => hb.far (p := ⟨R, i, none⟩) (hb.ne_ hR (by decide)) u)⟩, h6.setCell (p := ⟨R, i, none⟩) hW u⟩
theorem RepSt.bel {W w : World} {g : Nat} {ps : List (UInt8 × List UInt8)} (h : RepSt W w g ps) : Below W.heap.size W w := by obtain ⟨C, A, c, h1, h2, h3, h4, h5, h6⟩ := h; exact h6
theorem RepSt.drew {W w : World} {g : Nat} {ps : List (UInt8 × List UInt8)} (h : RepSt W w g ps) : RepSt W w.drew g ps := h.step (Below.refl _ _).drew
set_option maxRecDepth 100000 in
theorem c_buildOnce (R q c : Nat) (d m : Int) (W w : World) (hc : 6 ≤ c) (hB : Blk w R 164 (rpC d m .nilIface (.slice (some ⟨q, 0, none⟩) 6 c))) (hown : w.ownsRow W.heap.size 9 1 (.slice (some ⟨q, 0, none⟩) 6 c) 6 strs6) (hb : Below W.heap.size W w) (hW : W.heap.size ≤ R) :
    Calls Tryz.prog 86 #[.pointer (some ⟨R, 0, none⟩)] w fun e w' => ∃ g, e = .returned (.tuple #[]) ∧ Blk w' R 164 (rpC d m (.iface 202 (.pointer (some ⟨g, 0, none⟩))) (.slice none 0 0)) ∧ RepSt W w' g rep3 := by
  have hq : q < w.heap.size := by
    obtain ⟨q', cap, hv, _, hlt⟩ := hown.form (by omega)
    injection hv with hv; injection hv with hv; injection hv with hv; omega
  have HC := Lib.hid (c_build R q c w (hB.cell 4) hc hq (hown.cells rfl 0 _ rfl) (hown.cells rfl 1 _ rfl) (hown.cells rfl 2 _ rfl) (hown.cells rfl 3 _ rfl) (hown.cells rfl 4 _ rfl) (hown.cells rfl 5 _ rfl))
  have HB := Lib.hid hB
  have HW := Lib.hid hb
  clear hown hb hB
  go_enter Tryz.func86, Tryz.ntmps86
  go_wp2_with fail
  refine (HC.out).mono ?_
  rintro e w1 ⟨g, rfl, hS⟩
  have hS1 := hS.rebase HW.out
  have hB1 := HB.out.below hS.bel HB.out.lt
  have e3 := hB1.cell 3
  have e4 := hB1.cell 4
  have f3 := hB1.frozen 3
  have f4 := hB1.frozen 4
  simp at e3 e4
  have HB2 := Lib.hid ((hB1.set_ 3 (.iface 202 (.pointer (some ⟨g, 0, none⟩)))).set_ 4 (.slice none 0 0))
  have HS2 := Lib.hid ((hS1.put hB1 hW 3 (.iface 202 (.pointer (some ⟨g, 0, none⟩)))).put (hB1.set_ 3 (.iface 202 (.pointer (some ⟨g, 0, none⟩)))) hW 4 (.slice none 0 0))
  clear hS hS1 hB1
  go_wp2_with fail
  go_end0
  exact ⟨g, rfl, HB2.out, HS2.out⟩
end Go.Proofs.YtmnkdkibhchglaaGreatDoor
