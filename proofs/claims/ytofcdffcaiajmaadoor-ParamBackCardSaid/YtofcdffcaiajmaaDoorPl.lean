/- Plain words on parameters (no program): the value of a struct of parameters, what Check answers. Conditions: none. -/
import Derived.WalkKit
import Derived.Laws.BitsAllLaws
namespace Go.Proofs.YtofcdffcaiajmaaDoor

/-- Parameters, as a value. -/
abbrev pv (d key fo de leaf off xof nd inn : Int) (s t : Value) : Value :=
  .agg #[.int .i64 d, .int .i64 key, .int .i64 fo, .int .i64 de, .int .u32 leaf, .int .u64 off, .int .u32 xof, .int .i64 nd, .int .i64 inn, s, t]

/-- The most bytes of a digest. -/
def kmost (k : Int) : Int := if k = 1 then 64 else if k = 2 then 32 else 0

/-- What Check answers. -/
def chk (k d key fo de nd inn ls lp : Int) (xz o1 o2 x6 : Bool) : Int :=
  if ¬(k = 1 ∨ k = 2) then 1
  else if d < 1 ∨ kmost k < d then 20
  else if key < 0 ∨ kmost k < key then 8
  else if fo < 0 ∨ 255 < fo then 21
  else if de < (if xz then 1 else 0) ∨ 255 < de then 22
  else if (xz = false ∧ o1 = true) ∨ (xz = true ∧ k = 2 ∧ o2 = true) then 23
  else if k = 2 ∧ x6 = true then 24
  else if nd < 0 ∨ 255 < nd then 25
  else if inn < 0 ∨ kmost k < inn then 26
  else if kmost k / 4 < ls then 27
  else if kmost k / 4 < lp then 28
  else 0
def chkOf (k d key fo de off xof nd inn ls lp : Int) : Int :=
  chk k d key fo de nd inn ls lp (xof == 0) (decide ((4294967296 : Int) ≤ off)) (decide ((281474976710656 : Int) ≤ off)) (decide ((65535 : Int) < xof))

end Go.Proofs.YtofcdffcaiajmaaDoor
