/- Words and walks on parameters: one structure for them; what Plain, normal, Normal hand back (param, quernref02); copies. Conditions: as stated. -/
import Derived.Test.YtofcdffcaiajmaaDoorCk
import Derived.Test.YtofcdffcaiajmaaDoorPm
import Derived.Deep.RegionWith
namespace Go.Proofs.YtofcdffcaiajmaaDoor
open Go.RowKit
set_option linter.unusedVariables false

/-- Parameters, plain. -/
structure Pm where
  d : Int
  key : Int
  fo : Int
  de : Int
  leaf : Int
  off : Int
  xof : Int
  nd : Int
  inn : Int
  s : List Int
  t : List Int
  deriving DecidableEq
def Pm.zero : Pm := ⟨0, 0, 0, 0, 0, 0, 0, 0, 0, [], []⟩
abbrev pvS (p : Pm) (sa : Option Addr) (sc : Nat) (ta : Option Addr) (tc : Nat) : Value := pv p.d p.key p.fo p.de p.leaf p.off p.xof p.nd p.inn (.slice sa p.s.length sc) (.slice ta p.t.length tc)
/-- The cells of parameters. -/
abbrev pvC (p : Pm) (sa : Option Addr) (sc : Nat) (ta : Option Addr) (tc : Nat) : Array Value := #[.int .i64 p.d, .int .i64 p.key, .int .i64 p.fo, .int .i64 p.de, .int .u32 p.leaf, .int .u64 p.off, .int .u32 p.xof, .int .i64 p.nd, .int .i64 p.inn, .slice sa p.s.length sc, .slice ta p.t.length tc]
def chkP (k : Int) (p : Pm) : Int := chkOf k p.d p.key p.fo p.de p.off p.xof p.nd p.inn p.s.length p.t.length
/-- Parameters that can be read. -/
structure RdP (w : World) (p : Pm) (sa : Option Addr) (sc : Nat) (ta : Option Addr) (tc : Nat) : Prop where
  cs : p.s.length ≤ sc
  ct : p.t.length ≤ tc
  bs : p.s.length ≤ 140737488351232
  bt : p.t.length ≤ 140737488351232
  rs : Reads w w.heap.size 1 sa p.s.length (u8s p.s)
  rt : Reads w w.heap.size 1 ta p.t.length (u8s p.t)
theorem RdP.step {w w' : World} {p : Pm} {sa ta : Option Addr} {sc tc : Nat} (h : RdP w p sa sc ta tc) (hb : Below w.heap.size w w') : RdP w' p sa sc ta tc := ⟨h.cs, h.ct, h.bs, h.bt, h.rs.step hb, h.rt.step hb⟩
/-- What a call hands back: parameters in new memory, an error. -/
def GivesP (w : World) (p : Pm) (E : Int) (e : Ending) (w' : World) : Prop :=
  ∃ sa sc ta tc, e = .returned (.tuple #[pvS p sa sc ta tc, .int .i64 E]) ∧ w'.ownsRow w.heap.size 5 1 (.slice sa p.s.length sc) p.s.length (u8s p.s) ∧ w'.ownsRow w.heap.size 5 1 (.slice ta p.t.length tc) p.t.length (u8s p.t) ∧ Below w.heap.size w w'
theorem own_rd {w : World} {base : Nat} {p : Pm} {sa ta : Option Addr} {sc tc : Nat} (h : w.ownsRow base 5 1 (.slice sa p.s.length sc) p.s.length (u8s p.s)) (h' : w.ownsRow base 5 1 (.slice ta p.t.length tc) p.t.length (u8s p.t)) (b : p.s.length ≤ 140737488351232) (b' : p.t.length ≤ 140737488351232) : RdP w p sa sc ta tc := by
  obtain ⟨A, c, e, hc, hr⟩ := own_reads h
  obtain ⟨A', c', e', hc', hr'⟩ := own_reads h'
  injection e with e1 _ e2
  injection e' with e1' _ e2'
  subst e1; subst e2; subst e1'; subst e2'
  exact ⟨hc, hc', b, b', hr, hr'⟩
theorem c_CheckP (k : Int) (p : Pm) (sa : Option Addr) (sc : Nat) (ta : Option Addr) (tc : Nat) (w : World) : Calls Tryd.prog 5 #[.int .i64 k, pvS p sa sc ta tc] w fun e w' => e = .returned (.int .i64 (chkP k p)) ∧ Below w.heap.size w w' :=
  c_Check k p.d p.key p.fo p.de p.leaf p.off p.xof p.nd p.inn sa ta p.s.length sc p.t.length tc w
def plainP (d key : Int) : Pm := ⟨d, key, 1, 1, 0, 0, 0, 0, 0, [], []⟩
theorem gives_nil {w w' : World} {p : Pm} {E : Int} (hs : p.s = []) (ht : p.t = []) (hb : Below w.heap.size w w') : GivesP w p E (.returned (.tuple #[pvS p none 0 none 0, .int .i64 E])) w' := by
  refine ⟨none, 0, none, 0, rfl, ?_, ?_, hb⟩
  · rw [hs]; exact World.ownsRow_nil _ _ _ _
  · rw [ht]; exact World.ownsRow_nil _ _ _ _
end Go.Proofs.YtofcdffcaiajmaaDoor
