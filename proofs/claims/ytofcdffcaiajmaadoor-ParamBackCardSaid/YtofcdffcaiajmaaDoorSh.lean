/- Words for the line of parameters, and walks: what a line leaves out (param.usual), a field's name (quernref02.name). Conditions: as stated. -/
import Derived.Test.YtofcdffcaiajmaaDoorUi
import Derived.Test.YtofcdffcaiajmaaDoorEn
import Derived.Test.YtofcdffcaiajmaaDoorPp
import Derived.Test.YtofcdffcaiajmaaDoorNm3
namespace Go.Proofs.YtofcdffcaiajmaaDoor
open Go.RowKit
set_option linter.unusedVariables false
attribute [local go_sem ↓] Go.wp_at_zero Go.wp_at_succ

/-- The fields' names. -/
def fname (i : Nat) : List UInt8 := [[100, 105, 103, 101, 115, 116], [107, 101, 121], [102, 97, 110, 111, 117, 116], [100, 101, 112, 116, 104], [108, 101, 97, 102], [111, 102, 102, 115, 101, 116], [120, 111, 102], [110, 111, 100, 101], [105, 110, 110, 101, 114], [115, 97, 108, 116], [112, 101, 114, 115, 111, 110, 97, 108]].getD i []
/-- A field's part of the line. -/
def fpart (k : Int) (p : Pm) (i : Nat) : List UInt8 := if fv p i = fv (plainP (kmost k) 0) i then [] else [32] ++ (fname i ++ ([61] ++ Lib.decDigits (fv p i).toNat))
/-- The first fields' parts. -/
def fparts (k : Int) (p : Pm) : Nat → List UInt8
  | 0 => []
  | i + 1 => fparts k p i ++ fpart k p i
/-- A part for bytes. -/
def bpart (i : Nat) (xs : List Int) : List UInt8 := if xs = [] then [] else [32] ++ (fname i ++ ([61] ++ (hxs xs).map fun z => UInt8.ofNat z.toNat))
/-- The line. -/
def pline (k : Int) (p : Pm) : List UInt8 := (if k = 2 then [50, 115] else [50, 98]) ++ fparts k p 9 ++ bpart 9 p.s ++ bpart 10 p.t
theorem c_usual (k : Int) (hk : k = 1 ∨ k = 2) (w : World) : Calls Tryd.prog 22 #[.int .i64 k] w fun e w' => e = .returned (pvS (plainP (kmost k) 0) none 0 none 0) ∧ Below w.heap.size w w' := by
  rcases hk with rfl | rfl
  all_goals
    go_enter Tryd.func22, Tryd.ntmps22
    go_wp2
    refine bodyPost_ret (results_cellB (p := 2) rfl _ (Blk.new _ _ _) _ rfl Tryd.underlying26 rfl (by kernel_rfl)) rfl ⟨rfl, ?_⟩
    exact (Below.refl w.heap.size w).alloc (Nat.le_refl _) _
end Go.Proofs.YtofcdffcaiajmaaDoor
