/- Words for the laws: loads of whole structs where an operation is guarded, as a step of a region that draws. Conditions: none. -/
import Derived.Test.YtbpbokcglicggaaSm
import Derived.Test.YtbpbokcglicggaaLfld
import Derived.Test.YtbpbokcglicggaaAlv
namespace Go.Proofs.Ytbpbokcglicggaa
open Go.RowKit
set_option linter.unusedVariables false

theorem wpList_load_rowG {P : Program} {ops : Array Oper} {rest : List Oper} {o : Oper} {a : Act} {w : World} {Q : Exit → Act → World → Prop} (hgd : Region.wanted o (yielded ops a.tmps) = true) (ty : TypeId) (x : Operand) (ho : o.op = .load ty x)
    (g : Nat) (hx : a.eval x = .pointer (some ⟨g, 0, none⟩)) (t : TypeId) (cs : Array Value) (fr : Nat × Nat) (d : TypeDesc) (hg : w.heap[g]? = some (.cells cs t fr))
    (hu : P.underlying ty = some d) (hd : (match d with | .struct _ | .array _ _ => true | _ => false) = true) (hi : (P.info? ty).map (·.size) = some cs.size)
    (h : wpList P ops Q rest (a.put o.dst (.agg cs)) w) : wpList P ops Q (o :: rest) a w :=
  wpList_step fun K hK => by
    rw [if_pos hgd]
    exact wp_load_row ty x ho g hx t cs fr d hg hu hd hi (hK _ _ h)
theorem RdP.drew {w : World} {p : Pm} {sa ta : Option Addr} {sc tc : Nat} (h : RdP w p sa sc ta tc) : RdP w.drew p sa sc ta tc := h.step (Below.refl _ _).drew
theorem PmOk_of {d key fo de leaf off xof nd inn : Int} {s t : List Int} (wleaf : (Lit.int .u32 leaf).wf = true) (woff : (Lit.int .u64 off).wf = true) (wxof : (Lit.int .u32 xof).wf = true) : PmOk ⟨d, key, fo, de, leaf, off, xof, nd, inn, s, t⟩ := by
  have b1 := bounds_u32 wleaf
  have b2 := bounds_u64 woff
  have b3 := bounds_u32 wxof
  exact ⟨by simp only; omega, by simp only; omega, by simp only; omega⟩
theorem RdP_of {W : World} {d key fo de leaf off xof nd inn : Int} {sa ta : Option Addr} {sn sc tn tc : Nat} {xs ys : List Int} (hr : RdInts W .u8 1 sa sn sc xs) (hr' : RdInts W .u8 1 ta tn tc ys) :
    xs.length = sn ∧ ys.length = tn ∧ RdP W ⟨d, key, fo, de, leaf, off, xof, nd, inn, xs, ys⟩ sa sc ta tc ∧ (∀ z ∈ xs, 0 ≤ z ∧ z < 256) ∧ (∀ z ∈ ys, 0 ≤ z ∧ z < 256) := by
  obtain ⟨hc, hm, hwf, hrd⟩ := hr
  obtain ⟨hc', hm', hwf', hrd'⟩ := hr'
  have hl : xs.length = sn := by simpa using hrd.1
  have hl' : ys.length = tn := by simpa using hrd'.1
  subst hl; subst hl'
  exact ⟨rfl, rfl, ⟨hc, hc', by simp only; omega, by simp only; omega, hrd, hrd'⟩, u8_wf hwf, u8_wf hwf'⟩
end Go.Proofs.Ytbpbokcglicggaa
