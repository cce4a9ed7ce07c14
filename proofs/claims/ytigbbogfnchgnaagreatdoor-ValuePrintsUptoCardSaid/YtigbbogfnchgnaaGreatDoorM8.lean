/- Words for bytes of the call's own, new blocks of noughts, rows that a print lays, and bytes turned into a string. Conditions: none. Walks: the small ways of a float's print at one input, 0.1 (strconv: log10Pow2, log2Pow10, bool2, nudge, ceil, floor). Conditions: none. Walks: the small ways of a float's print at any input (strconv: log10Pow2, log2Pow10, skewed, nudge, ceil, floor, round). Conditions: as stated. Walk: the scaled product of a float's print at any input (strconv: uscale). Conditions: the three cells of the scale. Walks: the scale of a float's print at any input (strconv: prescale), and what memory must bear. Conditions: the library's tables read as they were laid. Walk: the shortest digits of a float at every rung (strconv: shortFloat[float64]). Conditions: a rung above nought, below infinity's; the library's tables. Walks: how many digits a number has, its digits laid into 32 bytes, noughts at the end cut off (strconv: numDigits, setDigits). Conditions: the bytes are a new block of noughts. Plain law: the text of digits with an exponent, as strconv prints it in the form 'e', taken apart and put together, is the document's text (no program). Conditions: as stated. Walk: digits and an exponent as text (strconv: fmtEFG in the form 'e', the shortest). Conditions: the digits' bytes read; the text begins empty. -/
import Derived.Test.YtigbbogfnchgnaaGreatDoorProg
import Derived.KernelRfl
import Derived.Great.Walk
import Derived.Test.YtigbbogfnchgnaaGreatDoorMem2
import Derived.Lib.ItoaMem
import Derived.Lib.AppendIntMem
import Derived.Deep.DrawnRows
import Derived.Test.YtigbbogfnchgnaaGreatDoorM5
import Derived.IntWalk
import Derived.Handy
import Derived.Test.YtigbbogfnchgnaaGreatDoorM7
import Derived.Test.YtigbbogfnchgnaaGreatDoorLb
import Derived.Deep.RegionHeld3
import Derived.Deep.RegionLaw
import Derived.Test.YtigbbogfnchgnaaGreatDoorLy
import Derived.Lib.IndexLaws
import Derived.Lib.Atoi
import Derived.Lib.Repeat
namespace Go.Proofs.YtigbbogfnchgnaaGreatDoor
open Go.RowKit Go.Sort
set_option linter.unusedVariables false

def zrs32 : Array Value := Array.replicate 32 (Value.int .u8 0)
theorem below_row (w : World) (g : Nat) (dk : Array UInt8) (k : Nat) : RowKit.Below g w ((putRow (fun (b : UInt8) => Value.int .u8 (b.toNat : Int)) w g 0 dk).drewN k) :=
  ⟨rfl, rfl, rfl, by simp [World.drewN], fun i hi => by
    show (putRow _ w g 0 dk).heap[i]? = w.heap[i]?
    unfold putRow mapBlock
    rw [Array.getElem?_modify, if_neg (by omega)]⟩
def bys (l : List UInt8) : List Value := l.map fun x => .int .u8 (x.toNat : Int)
/-- Bytes of the call's own, as a row. -/
def OwnU (W w : World) (A : Option Addr) (c : Nat) (l : List UInt8) : Prop := w.ownsRow W.heap.size 5 1 (.slice A l.length c) l.length (bys l) ∧ Below W.heap.size W w
/-- What an append of new bytes leaves. -/
theorem ownB_app {W w1 w2 : World} {A : Option Addr} {c : Nat} {l m : List UInt8} {v : Value} (hb : Below W.heap.size W w1) (h : w1.ownsRow W.heap.size 5 1 (.slice A l.length c) l.length (bys l)) (hown : w2.ownsRow W.heap.size 5 1 v (l.length + m.length) (bys l ++ bys m)) (hg : w1.grownBy w2 (Value.slice A l.length c).ownBlock) :
    ∃ A' c', v = .slice A' (l ++ m).length c' ∧ OwnU W w2 A' c' (l ++ m) := by
  have e : bys l ++ bys m = bys (l ++ m) := by simp [bys]
  rw [e, ← List.length_append] at hown
  obtain ⟨A', c', rfl⟩ := own_slice hown
  exact ⟨A', c', rfl, hown, below_own hb h hg⟩
theorem reads_lit1 (w : World) (x : Int) : Reads (w.alloc (.cells #[.int .u8 x] 5)) (w.alloc (.cells #[.int .u8 x] 5)).heap.size 1 (some ⟨w.heap.size, 0, none⟩) 1 [.int .u8 x] :=
  Reads.of_own (World.ownsRow_lit (e := 5) (size := 1) (base := 0) w #[.int .u8 x] 1 (Nat.zero_le _) (by decide) rfl)
theorem reads_lit2 (w : World) (x y : Int) : Reads (w.alloc (.cells #[.int .u8 x, .int .u8 y] 5)) (w.alloc (.cells #[.int .u8 x, .int .u8 y] 5)).heap.size 1 (some ⟨w.heap.size, 0, none⟩) 2 [.int .u8 x, .int .u8 y] :=
  Reads.of_own (World.ownsRow_lit (e := 5) (size := 1) (base := 0) w #[.int .u8 x, .int .u8 y] 2 (Nat.zero_le _) (by decide) rfl)
theorem u8_infoV : (Tryz.prog.info? 5).map (fun i => (i.zero, i.size, i.bytes)) = some (some (.int .u8 0), 1, 1) := by kernel_rfl
theorem builtB1 (y : Int) : Tryz.prog.builtSlice 5 1 [(0, .int .u8 y)] = some #[.int .u8 y] := by kernel_rfl
theorem builtB2 (x y : Int) : Tryz.prog.builtSlice 5 2 [(0, .int .u8 x), (1, .int .u8 y)] = some #[.int .u8 x, .int .u8 y] := by kernel_rfl
theorem call_bits64 (b : Nat) (w : World) : (callFunc 214 #[.float .f64 b]).run Tryz.prog w = .ok (.value (.int .u64 (b : Int))) w := by kernel_rfl
/-- Bytes as a string. -/
abbrev bstr (l : List UInt8) : Value := .string ⟨l.toArray⟩
theorem conv_nilb (w : World) : (convert 36 9 (.slice none 0 0)).run Tryz.prog w = .ok (.string ⟨#[]⟩) w := by kernel_rfl
theorem conv_bys {w : World} {base m : Nat} {v : Value} {l : List UInt8} (h : w.ownsRow base 5 1 v m (bys l)) : (convert 36 9 v).run Tryz.prog w = .ok (bstr l) w := by
  have hl : l.length = m := by simpa [bys] using h.1
  rcases h.2 with ⟨rfl, rfl⟩ | ⟨g, cap, cur, rfl, _⟩
  · obtain rfl := List.eq_nil_of_length_eq_zero hl
    exact conv_nilb w
  · have := run_convert_bytes_back (P := Tryz.prog) w 36 9 5 ⟨g, 0, none⟩ cap l Tryz.underlying36 Tryz.underlying5 Tryz.underlying9 (fun j hj => by
      rw [h.cells rfl j (.int .u8 (l[j].toNat : Int)) (by simp [bys, List.getElem?_eq_getElem hj])])
    rw [hl] at this
    exact this
end Go.Proofs.YtigbbogfnchgnaaGreatDoor
namespace Go.Proofs.YtigbbogfnchgnaaGreatDoor
open Go.RowKit
set_option linter.unusedVariables false

theorem c_log10 (w : World) : Calls Tryz.prog 148 #[.int .i64 (-56)] w fun e w' => e = .returned (.int .i64 (-17)) ∧ w = w' := by
  have h1 : IntKind.i64.wrap (-56 * 78913) = -4419128 := by decide +kernel
  go_enter Tryz.func148, Tryz.ntmps148
  go_wp2
  go_ret
  exact ⟨rfl, rfl⟩
theorem c_log2 (w : World) : Calls Tryz.prog 138 #[.int .i64 17] w fun e w' => e = .returned (.int .i64 56) ∧ w = w' := by
  go_enter Tryz.func138, Tryz.ntmps138
  go_wp2
  go_ret
  exact ⟨rfl, rfl⟩
theorem c_bool2 (b : Bool) (w : World) : Calls Tryz.prog 126 #[.bool b] w fun e w' => e = .returned (.int .u64 (if b then 1 else 0)) ∧ w = w' := by
  cases b with
  | true =>
    go_enter Tryz.func126, Tryz.ntmps126
    go_wp2
    go_ret
    exact ⟨rfl, rfl⟩
  | false =>
    go_enter Tryz.func126, Tryz.ntmps126
    go_wp2
    go_ret
    exact ⟨rfl, rfl⟩
theorem c_nudge0 (x : Nat) (hx : x < 18446744073709551616) (w : World) : Calls Tryz.prog 232 #[.int .u64 (x : Int), .int .i64 0] w fun e w' => e = .returned (.int .u64 (x : Int)) ∧ w = w' := by
  go_enter Tryz.func232, Tryz.ntmps232
  go_wp2
  go_ret
  exact ⟨rfl, rfl⟩
theorem c_ceil (w : World) : Calls Tryz.prog 233 #[.int .u64 39999999999999999] w fun e w' => e = .returned (.int .u64 10000000000000000) ∧ w = w' := by
  go_enter Tryz.func233, Tryz.ntmps233
  go_wp2
  go_ret
  exact ⟨rfl, rfl⟩
theorem c_floor (w : World) : Calls Tryz.prog 234 #[.int .u64 40000000000000005] w fun e w' => e = .returned (.int .u64 10000000000000001) ∧ w = w' := by
  go_enter Tryz.func234, Tryz.ntmps234
  go_wp2
  go_ret
  exact ⟨rfl, rfl⟩
end Go.Proofs.YtigbbogfnchgnaaGreatDoor
namespace Go.Proofs.YtigbbogfnchgnaaGreatDoor
open Go.RowKit
set_option linter.unusedVariables false

theorem c_log10I (x : Int) (h1 : -2000 ≤ x) (h2 : x ≤ 2000) (w : World) : Calls Tryz.prog 148 #[.int .i64 x] w fun e w' => e = .returned (.int .i64 (x * 78913 / 262144)) ∧ w = w' := by
  have hw : IntKind.i64.wrap (x * 78913) = x * 78913 := IntWalk.i64_in _ (by omega)
  go_enter Tryz.func148, Tryz.ntmps148
  go_wp2_with fail
  go_ret
  exact ⟨rfl, rfl⟩
theorem c_log2I (x : Int) (h1 : -2000 ≤ x) (h2 : x ≤ 2000) (w : World) : Calls Tryz.prog 138 #[.int .i64 x] w fun e w' => e = .returned (.int .i64 (lpI x)) ∧ w = w' := by
  have hw : IntKind.i64.wrap (x * 108853) = x * 108853 := IntWalk.i64_in _ (by omega)
  unfold lpI
  go_enter Tryz.func138, Tryz.ntmps138
  go_wp2_with fail
  go_ret
  exact ⟨rfl, rfl⟩
theorem c_skewI (x : Int) (h1 : -2000 ≤ x) (h2 : x ≤ 2000) (w : World) : Calls Tryz.prog 231 #[.int .i64 x] w fun e w' => e = .returned (.int .i64 ((x * 631305 - 261663) / 2097152)) ∧ w = w' := by
  have hw : IntKind.i64.wrap (x * 631305) = x * 631305 := IntWalk.i64_in _ (by omega)
  have hw2 : IntKind.i64.wrap (x * 631305 - 261663) = x * 631305 - 261663 := IntWalk.i64_in _ (by omega)
  go_enter Tryz.func231, Tryz.ntmps231
  go_wp2_with fail
  go_ret
  exact ⟨rfl, rfl⟩
theorem c_nudgeUp (x d : Nat) (hx : x < 4611686018427387904 * 3) (hd : d ≤ 1) (w : World) : Calls Tryz.prog 232 #[.int .u64 (x : Int), .int .i64 (d : Int)] w fun e w' => e = .returned (.int .u64 ((x + d : Nat) : Int)) ∧ w = w' := by
  have h1 : IntKind.u64.wrap (d : Int) = (d : Int) := by rw [IntKind.wrap_u64]; omega
  have h2 : IntKind.u64.wrap ((x : Int) + (d : Int)) = ((x + d : Nat) : Int) := by rw [IntKind.wrap_u64]; omega
  go_enter Tryz.func232, Tryz.ntmps232
  go_wp2_with fail
  go_ret
  exact ⟨rfl, rfl⟩
theorem c_nudgeDn (x d : Nat) (hx : x < 18446744073709551616) (hd : d ≤ 1) (hdx : d ≤ x) (w : World) : Calls Tryz.prog 232 #[.int .u64 (x : Int), .int .i64 (-(d : Int))] w fun e w' => e = .returned (.int .u64 ((x - d : Nat) : Int)) ∧ w = w' := by
  have h2 : IntKind.u64.wrap ((x : Int) + IntKind.u64.wrap (-(d : Int))) = ((x - d : Nat) : Int) := by
    rw [IntKind.wrap_u64, IntKind.wrap_u64]
    rcases Nat.eq_zero_or_pos d with e | e
    · subst e; omega
    · obtain rfl : d = 1 := by omega
      omega
  generalize -(d : Int) = y at *
  go_enter Tryz.func232, Tryz.ntmps232
  go_wp2_with fail
  go_ret
  exact ⟨rfl, rfl⟩
theorem c_ceilI (x : Nat) (hx : x < 4611686018427387904 * 3) (w : World) : Calls Tryz.prog 233 #[.int .u64 (x : Int)] w fun e w' => e = .returned (.int .u64 (((x + 3) / 4 : Nat) : Int)) ∧ w = w' := by
  have h2 : IntKind.u64.wrap ((x : Int) + 3) = (x : Int) + 3 := by rw [IntKind.wrap_u64]; omega
  go_enter Tryz.func233, Tryz.ntmps233
  go_wp2_with fail
  go_ret
  exact ⟨rfl, rfl⟩
theorem c_floorI (x : Nat) (hx : x < 18446744073709551616) (w : World) : Calls Tryz.prog 234 #[.int .u64 (x : Int)] w fun e w' => e = .returned (.int .u64 ((x / 4 : Nat) : Int)) ∧ w = w' := by
  have h2 : IntKind.u64.wrap ((x : Int) + 0) = (x : Int) := by rw [IntKind.wrap_u64]; omega
  go_enter Tryz.func234, Tryz.ntmps234
  go_wp2_with fail
  go_ret
  exact ⟨rfl, rfl⟩
set_option maxRecDepth 100000 in
theorem c_roundI (x : Nat) (hx : x < 4611686018427387904 * 3) (w : World) : Calls Tryz.prog 144 #[.int .u64 (x : Int)] w fun e w' => e = .returned (.int .u64 (((x + 1 + x / 4 % 2) / 4 : Nat) : Int)) ∧ w = w' := by
  have ha : bits BinOp.and .u64 ((x / 4 : Nat) : Int) 1 = ((x / 4 % 2 : Nat) : Int) := by
    have := u64_and_nat (x / 4) 1 (by omega) (by decide)
    rw [show ((1 : Nat) : Int) = 1 from rfl] at this
    rw [this, Nat.and_one_is_mod]
  have hdv : (x : Int) / 4 = ((x / 4 : Nat) : Int) := by omega
  have h1 : IntKind.u64.wrap ((x : Int) + 1) = (x : Int) + 1 := by rw [IntKind.wrap_u64]; omega
  have hq2 : x / 4 % 2 < 2 := Nat.mod_lt _ (by decide)
  generalize x / 4 % 2 = q at *
  have h2 : IntKind.u64.wrap ((x : Int) + 1 + (q : Int)) = ((x + 1 + q : Nat) : Int) := by rw [IntKind.wrap_u64]; omega
  have h3 : ((x + 1 + q : Nat) : Int) / 4 = (((x + 1 + q) / 4 : Nat) : Int) := by omega
  generalize x / 4 = y at *
  generalize (x + 1 + q) / 4 = r at *
  generalize x + 1 + q = t at *
  clear hx hq2
  go_enter Tryz.func144, Tryz.ntmps144
  go_wp2_with fail
  go_ret
  exact ⟨rfl, rfl⟩
end Go.Proofs.YtigbbogfnchgnaaGreatDoor
namespace Go.Proofs.YtigbbogfnchgnaaGreatDoor
open Go.RowKit
set_option linter.unusedVariables false

theorem and63 (s : Nat) (h : s ≤ 63) : bits BinOp.and .i64 (s : Int) 63 = (s : Int) := by
  have key : ∀ t : Fin 64, bits BinOp.and .i64 ((t.val : Nat) : Int) 63 = ((t.val : Nat) : Int) := by decide +kernel
  exact key ⟨s, by omega⟩
/-- A product's two words. -/
def MulR (x H hi mid : Nat) : Prop := ∀ W : World, Calls Tryz.prog 151 #[.int .u64 (x : Int), .int .u64 (H : Int)] W fun e w' => e = .returned (.tuple #[.int .u64 (hi : Int), .int .u64 (mid : Int)]) ∧ W = w'
theorem mulR (x H : Nat) (hx : x < 18446744073709551616) (hH : H < 18446744073709551616) : MulR x H (x * H / 18446744073709551616) (x * H % 18446744073709551616) := fun W =>
  (Any.bits_Mul64 lays264 x H hx hH W).mono fun _ _ h => ⟨h.1, h.2.symm⟩
set_option maxRecDepth 100000 in
set_option maxHeartbeats 1000000 in
theorem c_usA (x H s g hi mid q t : Nat) (HM : Hid (MulR x H hi mid)) (w : World)
    (h0 : w.cell? ⟨g, 0, none⟩ = some (.int .u64 (H : Int))) (h2 : w.cell? ⟨g, 2, none⟩ = some (.int .i64 (s : Int)))
    (hb1 : bits BinOp.and .i64 (s : Int) 63 = (s : Int)) (hs2 : (s : Int) ≤ 64) (hs3 : (0 : Int) ≤ (s : Int)) (hq : (hi : Int) / 2 ^ s = (q : Int)) (hm : IntKind.u64.wrap ((q : Int) * 2 ^ s) = (t : Int))
    (t1 : ((t : Int) != (hi : Int)) = true) (r : Nat) (ho : bits BinOp.or .u64 (q : Int) 1 = (r : Int)) :
    Calls Tryz.prog 140 #[.int .u64 (x : Int), .pointer (some ⟨g, 0, none⟩)] w fun e w' => e = .returned (.int .u64 (r : Int)) ∧ w = w' := by
  go_enter Tryz.func140, Tryz.ntmps140
  go_wp2_with fail
  refine (HM.out _).mono ?_; rintro e w1 ⟨rfl, rfl⟩
  go_wp2_with fail
  go_ret
  exact ⟨rfl, rfl⟩
set_option maxRecDepth 100000 in
set_option maxHeartbeats 1000000 in
theorem c_usB (x H L s g hi mid m2 lo2 q t : Nat) (HM : Hid (MulR x H hi mid)) (HM2 : Hid (MulR x L m2 lo2)) (w : World)
    (h0 : w.cell? ⟨g, 0, none⟩ = some (.int .u64 (H : Int))) (h1 : w.cell? ⟨g, 1, none⟩ = some (.int .u64 (L : Int))) (h2 : w.cell? ⟨g, 2, none⟩ = some (.int .i64 (s : Int)))
    (hb1 : bits BinOp.and .i64 (s : Int) 63 = (s : Int)) (hs2 : (s : Int) ≤ 64) (hs3 : (0 : Int) ≤ (s : Int)) (hq : (hi : Int) / 2 ^ s = (q : Int)) (hm : IntKind.u64.wrap ((q : Int) * 2 ^ s) = (t : Int))
    (t1 : ((t : Int) != (hi : Int)) = false) (b1 : Bool) (hB1 : decide (mid < m2) = b1) (c1 hi2 q2 df c2 r : Nat) (hc1 : (if b1 then (1 : Int) else 0) = (c1 : Int)) (hw1 : IntKind.u64.wrap ((hi : Int) - (c1 : Int)) = (hi2 : Int))
    (hq2 : (hi2 : Int) / 2 ^ s = (q2 : Int)) (hwd : IntKind.u64.wrap ((mid : Int) - (m2 : Int)) = (df : Int)) (hc2 : (if decide ((1 : Int) < (df : Int)) then (1 : Int) else 0) = (c2 : Int)) (ho : bits BinOp.or .u64 (q2 : Int) (c2 : Int) = (r : Int)) :
    Calls Tryz.prog 140 #[.int .u64 (x : Int), .pointer (some ⟨g, 0, none⟩)] w fun e w' => e = .returned (.int .u64 (r : Int)) ∧ ∃ k, w' = w.drewN k := by
  have HB1 : Hid (∀ W : World, Calls Tryz.prog 126 #[.bool b1] W fun e w' => e = .returned (.int .u64 (c1 : Int)) ∧ W = w') := fun W => (c_bool2 b1 W).mono fun _ _ h => ⟨by rw [h.1, hc1], h.2⟩
  have HB2 : Hid (∀ W : World, Calls Tryz.prog 126 #[.bool (decide ((1 : Int) < (df : Int)))] W fun e w' => e = .returned (.int .u64 (c2 : Int)) ∧ W = w') := fun W => (c_bool2 (decide ((1 : Int) < (df : Int))) W).mono fun _ _ h => ⟨by rw [h.1, hc2], h.2⟩
  clear hc1 hc2
  go_enter Tryz.func140, Tryz.ntmps140
  go_wp2_with fail
  refine (HM.out _).mono ?_; rintro e w1 ⟨rfl, rfl⟩
  go_wp2_with fail
  refine (HM2.out _).mono ?_; rintro e w1 ⟨rfl, rfl⟩
  go_wp2_with fail
  refine (HB1.out _).mono ?_; rintro e w1 ⟨rfl, rfl⟩
  go_wp2_with fail
  go_region_with (first
    | (go_at_call 126; (with_reducible refine (HB2.out _).mono ?_); rintro e w3 ⟨rfl, rfl⟩))
  all_goals
    go_wp2_with fail
    go_ret
    exact ⟨rfl, 1, rfl⟩
theorem div_pow_cast (a s : Nat) : (a : Int) / 2 ^ s = ((a / 2 ^ s : Nat) : Int) := by
  rw [Int.natCast_ediv, Int.natCast_pow]; rfl
theorem no_borrow {x H L : Nat} (hx : x < 18446744073709551616) (hH0 : 0 < H) (hL : L < 18446744073709551616) (h0 : x * H / 18446744073709551616 = 0) : ¬ x * H % 18446744073709551616 < x * L / 18446744073709551616 := by
  have h1 : x * H < 18446744073709551616 := (Nat.div_eq_zero_iff_lt (by decide)).1 h0
  rw [Nat.mod_eq_of_lt h1]
  have h2 : x ≤ x * H := Nat.le_mul_of_pos_right _ hH0
  have h3 : x * L / 18446744073709551616 ≤ x := by
    refine Nat.div_le_of_le_mul ?_
    rw [Nat.mul_comm]
    exact Nat.mul_le_mul_right _ (by omega)
  omega
theorem c_uscaleI (x H L s g : Nat) (hx : x < 18446744073709551616) (hH : H < 18446744073709551616) (hH0 : 0 < H) (hL : L < 18446744073709551616) (hs : s ≤ 63) (w : World)
    (h0 : w.cell? ⟨g, 0, none⟩ = some (.int .u64 (H : Int))) (h1 : w.cell? ⟨g, 1, none⟩ = some (.int .u64 (L : Int))) (h2 : w.cell? ⟨g, 2, none⟩ = some (.int .i64 (s : Int))) :
    Calls Tryz.prog 140 #[.int .u64 (x : Int), .pointer (some ⟨g, 0, none⟩)] w fun e w' => e = .returned (.int .u64 ((usN x H L (2 ^ s) : Nat) : Int)) ∧ ∃ k, w' = w.drewN k := by
  have HM := Lib.hid (mulR x H hx hH)
  have HM2 := Lib.hid (mulR x L hx hL)
  have hb1 := and63 s hs
  have hnb := no_borrow (x := x) (H := H) (L := L) hx hH0 hL
  have hhi : x * H / 18446744073709551616 < 18446744073709551616 := Nat.div_lt_of_lt_mul (Nat.mul_lt_mul'' hx hH)
  have hmid : x * H % 18446744073709551616 < 18446744073709551616 := Nat.mod_lt _ (by decide)
  have hm2 : x * L / 18446744073709551616 < 18446744073709551616 := Nat.div_lt_of_lt_mul (Nat.mul_lt_mul'' hx hL)
  unfold usN
  generalize x * H / 18446744073709551616 = hi at *
  generalize x * H % 18446744073709551616 = mid at *
  generalize x * L / 18446744073709551616 = m2 at *
  generalize x * L % 18446744073709551616 = lo2 at *
  have hle : hi / 2 ^ s * 2 ^ s ≤ hi := Nat.div_mul_le_self _ _
  have hql : hi / 2 ^ s < 18446744073709551616 := Nat.lt_of_le_of_lt (Nat.div_le_self _ _) hhi
  have hm : IntKind.u64.wrap (((hi / 2 ^ s : Nat) : Int) * 2 ^ s) = ((hi / 2 ^ s * 2 ^ s : Nat) : Int) := by
    rw [show ((hi / 2 ^ s : Nat) : Int) * 2 ^ s = ((hi / 2 ^ s * 2 ^ s : Nat) : Int) from by rw [Int.natCast_mul, Int.natCast_pow]; rfl]
    rw [IntKind.wrap_u64]
    generalize hi / 2 ^ s * 2 ^ s = t at *
    omega
  by_cases hc : hi / 2 ^ s * 2 ^ s ≠ hi
  · rw [if_pos hc]
    refine (c_usA x H s g hi mid (hi / 2 ^ s) (hi / 2 ^ s * 2 ^ s) HM w h0 h2 hb1 (by omega) (by omega) (div_pow_cast hi s) hm (by rw [bne_iff_ne]; exact fun e => hc (Int.ofNat.inj e)) _ (u64_or_nat _ 1 hql (by decide))).mono ?_
    rintro e w' ⟨rfl, rfl⟩
    exact ⟨rfl, 0, rfl⟩
  · rw [if_neg hc]
    have hc' : hi / 2 ^ s * 2 ^ s = hi := Decidable.not_not.1 hc
    refine c_usB x H L s g hi mid m2 lo2 (hi / 2 ^ s) (hi / 2 ^ s * 2 ^ s) HM HM2 w h0 h1 h2 hb1 (by omega) (by omega) (div_pow_cast hi s) hm (by rw [hc']; simp) (decide (mid < m2)) rfl
      (if mid < m2 then 1 else 0) (hi - if mid < m2 then 1 else 0) ((hi - if mid < m2 then 1 else 0) / 2 ^ s) ((mid + 18446744073709551616 - m2) % 18446744073709551616)
      (if 1 < (mid + 18446744073709551616 - m2) % 18446744073709551616 then 1 else 0) _ ?_ ?_ (div_pow_cast _ s) ?_ ?_ ?_
    · by_cases h : mid < m2 <;> simp [h]
    · rw [IntKind.wrap_u64]
      by_cases h : mid < m2
      · simp only [h, if_true]
        have : hi ≠ 0 := fun e => hnb e h
        omega
      · simp only [h, if_false]; omega
    · rw [IntKind.wrap_u64]; omega
    · generalize (mid + 18446744073709551616 - m2) % 18446744073709551616 = df
      by_cases h : 1 < df
      · have : (1 : Int) < (df : Int) := by omega
        simp [h, this]
      · have : ¬ (1 : Int) < (df : Int) := by omega
        simp [h, this]
    · refine u64_or_nat _ _ ?_ ?_
      · exact Nat.lt_of_le_of_lt (Nat.le_trans (Nat.div_le_self _ _) (Nat.sub_le _ _)) hhi
      · split <;> decide
end Go.Proofs.YtigbbogfnchgnaaGreatDoor
namespace Go.Proofs.YtigbbogfnchgnaaGreatDoor
open Go.RowKit
set_option linter.unusedVariables false

theorem hiN_pos (p : Int) : 0 < hiN p := by
  have h1 := (hilo p).1
  have h2 := pm_lo p
  have h3 := n0N_pos p
  rcases Nat.eq_zero_or_pos (pmN p) with e | e
  · rw [e, Nat.zero_mul] at h2; omega
  · omega
/-- What uscale says is small. -/
theorem uAt_lt {m z c : Nat} (h1 : m < 9218868437227405312) (hz : 11 ≤ z) (hz2 : z ≤ 63) (hc0 : 0 < c) (hc : c * 2 ^ (z - 2) < 18446744073709551616) (hcM : c ≤ 36028797018963970) : uAt m z (c * 2 ^ (z - 2)) < 4611686018427387904 := by
  rw [(uAt_eq h1 hz hz2 hc0 hc).1]
  have hk := (kOkM h1).slim
  have hd := dlM_12 m
  have hD := d4N_pos (mexp m) (pM m)
  have hu := (ur_cmp (N := 4 * (c * w4N (mexp m) (pM m))) hD 2305843009213693952).1
  refine (hu.2 ?_)
  have e1 : 3 * w4N (mexp m) (pM m) ≤ (2 + dlM m) * w4N (mexp m) (pM m) := Nat.mul_le_mul_right _ (by omega)
  have e2 : c * w4N (mexp m) (pM m) ≤ 36028797018963970 * w4N (mexp m) (pM m) := Nat.mul_le_mul_right _ hcM
  omega
/-- What a print asks of memory: the table of powers, the table of tens. -/
structure TabS (w : World) : Prop where
  row : ∀ i : Nat, i < 696 → w.cell? ⟨10, i * 2, none⟩ = some (.int .u64 ((hiN ((i : Int) - 348) : Nat) : Int)) ∧ w.cell? ⟨10, i * 2 + 1, none⟩ = some (.int .u64 ((loN ((i : Int) - 348) : Nat) : Int))
  hg : 10 < w.heap.size
  tab : Lib.TabIs Tryz.prog w "internal/strconv.uint64pow10" .u64 Lib.pow10Tab
theorem TabS.below {w w' : World} (h : TabS w) (hb : Below w.heap.size w w') : TabS w' :=
  ⟨fun i hi => ⟨(hb.cell h.hg).trans (h.row i hi).1, (hb.cell h.hg).trans (h.row i hi).2⟩, Nat.lt_of_lt_of_le h.hg hb.size, Lib.tabBelow_of_tabIs h.tab w' hb⟩
set_option maxRecDepth 100000 in
theorem c_prescaleI (g : Nat) (a b c : Value) (e p lp : Int) (i H L : Nat) (w : World) (hi : (i : Int) = p + 348) (hi2 : i < 696) (he : -2000 ≤ e) (he2 : e ≤ 2000) (hl : -2000 ≤ lp) (hl2 : lp ≤ 2000)
    (h0 : w.cell? ⟨10, i * 2, none⟩ = some (.int .u64 (H : Int))) (h1 : w.cell? ⟨10, i * 2 + 1, none⟩ = some (.int .u64 (L : Int))) (hk : Blk w g 188 #[a, b, c]) (hg : 10 < g) :
    Calls Tryz.prog 139 #[.pointer (some ⟨g, 0, none⟩), .int .i64 e, .int .i64 p, .int .i64 lp] w fun x w' => x = .returned (.tuple #[]) ∧ Blk w' g 188 #[.int .u64 (H : Int), .int .u64 (L : Int), .int .i64 (-(e + lp + 3))] ∧ Below g w w' := by
  have f0 := hk.frozen 0
  have f1 := hk.frozen 1
  have f2 := hk.frozen 2
  have k0 : w.cell? ⟨g, 0, none⟩ = some a := hk.cell 0
  have k1 : w.cell? ⟨g, 1, none⟩ = some b := hk.cell 1
  have k2 : w.cell? ⟨g, 2, none⟩ = some c := hk.cell 2
  have HK := Lib.hid hk
  have s1 : IntKind.i64.wrap (p + 348) = (i : Int) := by rw [IntWalk.i64_in _ (by omega)]; omega
  have s2 : IntKind.i64.wrap (e + lp) = e + lp := IntWalk.i64_in _ (by omega)
  have s3 : IntKind.i64.wrap (e + lp + 3) = e + lp + 3 := IntWalk.i64_in _ (by omega)
  have s4 : IntKind.i64.wrap (-(e + lp + 3)) = -(e + lp + 3) := IntWalk.i64_in _ (by omega)
  clear hk hi he he2 hl hl2
  go_enter Tryz.func139, Tryz.ntmps139
  go_wp2_with fail
  go_end0
  exact ⟨rfl, ((HK.out.set_ 0 _).set_ 1 _).set_ 2 _, (((Below.refl g w).setCell (Nat.le_refl _) _).setCell (Nat.le_refl _) _).setCell (Nat.le_refl _) _⟩
end Go.Proofs.YtigbbogfnchgnaaGreatDoor
namespace Go.Proofs.YtigbbogfnchgnaaGreatDoor
open Go.RowKit
set_option linter.unusedVariables false

theorem and1_i64 {M m : Nat} (hM : M < 9007199254740992) (h : M % 2 = m % 2) : bits BinOp.and .i64 (M : Int) 1 = ((m % 2 : Nat) : Int) := by
  have h1 : (BitVec.ofInt 64 1).toNat = 2 ^ 1 - 1 := by decide
  have key : (BitVec.ofInt 64 (M : Int) &&& BitVec.ofInt 64 1).toNat = ((M : Int) % ((2 ^ 64 : Nat) : Int)).toNat % 2 ^ 1 := by
    rw [BitVec.toNat_and, BitVec.toNat_ofInt, h1, Nat.and_two_pow_sub_one_eq_mod]
  show IntKind.i64.wrap ((BitVec.ofInt 64 (M : Int) &&& BitVec.ofInt 64 1).toNat : Nat) = _
  rw [key, IntKind.wrap_i64]
  omega
theorem drewN_two (w : World) (n k : Nat) : (w.drewN n).drewN k = w.drewN (n + k) := by
  simp [World.drewN, Nat.add_assoc]
/-- What uscale answers, at a scale's three cells. -/
def USc (U : Nat → Nat) (Hh L s : Nat) (g : Nat) : Prop := ∀ (x : Nat) (W : World), x < 18446744073709551616 → W.cell? ⟨g, 0, none⟩ = some (.int .u64 (Hh : Int)) → W.cell? ⟨g, 1, none⟩ = some (.int .u64 (L : Int)) → W.cell? ⟨g, 2, none⟩ = some (.int .i64 (s : Int)) →
  Calls Tryz.prog 140 #[.int .u64 (x : Int), .pointer (some ⟨g, 0, none⟩)] W fun e w' => e = .returned (.int .u64 ((U x : Nat) : Int)) ∧ ∃ k, w' = W.drewN k
/-- A call of one number or two that leaves memory as it is. -/
def Q1 (f : Nat) (v : Value) (r : Value) : Prop := ∀ W : World, Calls Tryz.prog f #[v] W fun e w' => e = .returned r ∧ W = w'
def Q2 (f : Nat) (u v : Value) (r : Value) : Prop := ∀ W : World, Calls Tryz.prog f #[u, v] W fun e w' => e = .returned r ∧ W = w'
def Fin3 (a b c d dd D : Nat) (p E : Int) : Prop := (a ≤ dd ∧ D = d ∧ E = 1 - p) ∨ (¬ a ≤ dd ∧ a < b ∧ D = c ∧ E = -p) ∨ (¬ a ≤ dd ∧ ¬ a < b ∧ D = a ∧ E = -p)
set_option maxRecDepth 100000 in
set_option maxHeartbeats 2000000 in
theorem sh_A (U : Nat → Nat) (X lo hi o s Hh L i a b c D M u1 u2 : Nat) (e p lp k q E : Int) (w : World)
    (hrow : Hid (w.cell? ⟨10, i * 2, none⟩ = some (.int .u64 (Hh : Int)) ∧ w.cell? ⟨10, i * 2 + 1, none⟩ = some (.int .u64 (L : Int)) ∧ 10 < w.heap.size))
    (HU : Hid (USc U Hh L s w.heap.size)) (hb : Hid (lo < 18446744073709551616 ∧ hi < 18446744073709551616 ∧ X < 18446744073709551616))
    (hi1 : Hid ((i : Int) = p + 348 ∧ i < 696 ∧ -2000 ≤ e ∧ e ≤ 2000 ∧ -2000 ≤ lp ∧ lp ≤ 2000)) (hs : Hid (-(e + lp + 3) = (s : Int)))
    (HLG : Hid (Q1 231 (.int .i64 k) (.int .i64 q))) (hp : IntKind.i64.wrap (-q) = p) (HL2 : Hid (Q1 138 (.int .i64 p) (.int .i64 lp)))
    (HN1 : Hid (Q2 232 (.int .u64 ((U lo : Nat) : Int)) (.int .i64 (o : Int)) (.int .u64 (u1 : Int)))) (HC1 : Hid (Q1 233 (.int .u64 (u1 : Int)) (.int .u64 (a : Int))))
    (ho : IntKind.i64.wrap (-(o : Int)) = -(o : Int)) (HN2 : Hid (Q2 232 (.int .u64 ((U hi : Nat) : Int)) (.int .i64 (-(o : Int))) (.int .u64 (u2 : Int)))) (HF : Hid (Q1 234 (.int .u64 (u2 : Int)) (.int .u64 (b : Int))))
    (HR : Hid (Q1 144 (.int .u64 ((U X : Nat) : Int)) (.int .u64 (c : Int))))
    (d10 dd : Nat) (hdv : (b : Int) / 10 = (d10 : Int)) (hdw : IntKind.u64.wrap (d10 : Int) = (d10 : Int)) (hdm : IntKind.u64.wrap ((d10 : Int) * 10) = (dd : Int)) (hd : Hid (Fin3 a b c d10 dd D p E)) (hbb : Hid (b < 18446744073709551616 ∧ -2000 ≤ p ∧ p ≤ 2000))
    (hk : IntKind.i64.wrap (e + 11) = k)
    (t1 : ((X : Int) == 9223372036854775808) = true) (t2 : -1085 < e)
    (hlo : IntKind.u64.wrap ((X : Int) - 512) = (lo : Int)) (hhi : IntKind.u64.wrap ((X : Int) + 1024) = (hi : Int)) (hM : (X : Int) / 2048 = (M : Int)) (hM2 : IntKind.i64.wrap (M : Int) = (M : Int)) (hod : bits BinOp.and .i64 (M : Int) 1 = (o : Int)) :
    Calls Tryz.prog 223 #[.int .u64 (X : Int), .int .i64 e] w fun x w' => x = .returned (.tuple #[.int .u64 (D : Int), .int .i64 E]) ∧ Below w.heap.size w w' := by
  have HK := Lib.hid (Blk.new w 188 #[.int .u64 0, .int .u64 0, .int .i64 0])
  have HB := Lib.hid ((Below.refl w.heap.size w).alloc (Nat.le_refl _) (.cells #[.int .u64 0, .int .u64 0, .int .i64 0] 188))
  have HP := Lib.hid (c_prescaleI w.heap.size _ _ _ e p lp i Hh L (w.alloc (.cells #[.int .u64 0, .int .u64 0, .int .i64 0] 188)) hi1.out.1 hi1.out.2.1 hi1.out.2.2.1 hi1.out.2.2.2.1 hi1.out.2.2.2.2.1 hi1.out.2.2.2.2.2 (by rw [World.cell?_alloc_lt w _ _ hrow.out.2.2]; exact hrow.out.1) (by rw [World.cell?_alloc_lt w _ _ hrow.out.2.2]; exact hrow.out.2.1) HK.out hrow.out.2.2)
  clear hrow hi1 HK
  go_enter Tryz.func223, Tryz.ntmps223
  go_wp2_with fail
  refine (HLG.out _).mono ?_; rintro x w1 ⟨rfl, rfl⟩
  go_wp2_with fail
  refine (HL2.out _).mono ?_; rintro x w1 ⟨rfl, rfl⟩
  go_wp2_with fail
  refine HP.out.mono ?_; rintro x w2 ⟨rfl, hk2, hb2⟩
  rw [hs.out] at hk2
  have HU2 : Hid (∀ x k : Nat, x < 18446744073709551616 → Calls Tryz.prog 140 #[.int .u64 (x : Int), .pointer (some ⟨w.heap.size, 0, none⟩)] (w2.drewN k) fun e w' => e = .returned (.int .u64 ((U x : Nat) : Int)) ∧ ∃ k', w' = w2.drewN k') := fun x k hx =>
    (HU.out x (w2.drewN k) hx (hk2.cell 0) (hk2.cell 1) (hk2.cell 2)).mono fun e w' ⟨h1, k', h2⟩ => ⟨h1, k + k', by rw [h2]; exact drewN_two w2 k k'⟩
  have HBB := Lib.hid (HB.out.trans hb2)
  clear hk2 hb2 HP HB HU HLG HL2 hs
  go_wp2_with fail
  refine (HU2.out lo 0 hb.out.1).mono ?_; rintro x w3 ⟨rfl, k3, rfl⟩
  go_wp2_with fail
  refine (HN1.out _).mono ?_; rintro x w3 ⟨rfl, rfl⟩
  go_wp2_with fail
  refine (HC1.out _).mono ?_; rintro x w3 ⟨rfl, rfl⟩
  go_wp2_with fail
  refine (HU2.out hi _ hb.out.2.1).mono ?_; rintro x w3 ⟨rfl, k4, rfl⟩
  go_wp2_with fail
  refine (HN2.out _).mono ?_; rintro x w3 ⟨rfl, rfl⟩
  go_wp2_with fail
  refine (HF.out _).mono ?_; rintro x w3 ⟨rfl, rfl⟩
  have hpm : IntKind.i64.wrap (p - 1) = p - 1 := IntWalk.i64_in _ (by have := hbb.out.2; omega)
  have hpm2 : IntKind.i64.wrap (-(p - 1)) = 1 - p := by rw [IntWalk.i64_in _ (by have := hbb.out.2; omega)]; omega
  have hpm3 : IntKind.i64.wrap (-p) = -p := IntWalk.i64_in _ (by have := hbb.out.2; omega)
  clear hbb HN1 HC1 HN2 HF
  rcases hd.out with ⟨h1, rfl, rfl⟩ | ⟨h1, h2, rfl, rfl⟩ | ⟨h1, h2, rfl, rfl⟩
  · go_wp2_with fail
    go_ret2
    exact ⟨rfl, below_drewN HBB.out _⟩
  · go_wp2_with fail
    refine (HU2.out X _ hb.out.2.2).mono ?_; rintro x w3 ⟨rfl, k5, rfl⟩
    go_wp2_with fail
    refine (HR.out _).mono ?_; rintro x w3 ⟨rfl, rfl⟩
    go_wp2_with fail
    go_ret2
    exact ⟨rfl, below_drewN HBB.out _⟩
  · go_wp2_with fail
    go_ret2
    exact ⟨rfl, below_drewN HBB.out _⟩
set_option maxRecDepth 100000 in
set_option maxHeartbeats 2000000 in
theorem sh_B1 (U : Nat → Nat) (X lo hi o s Hh L i a b c D M u1 u2 : Nat) (e p lp k q E : Int) (w : World)
    (hrow : Hid (w.cell? ⟨10, i * 2, none⟩ = some (.int .u64 (Hh : Int)) ∧ w.cell? ⟨10, i * 2 + 1, none⟩ = some (.int .u64 (L : Int)) ∧ 10 < w.heap.size))
    (HU : Hid (USc U Hh L s w.heap.size)) (hb : Hid (lo < 18446744073709551616 ∧ hi < 18446744073709551616 ∧ X < 18446744073709551616))
    (hi1 : Hid ((i : Int) = p + 348 ∧ i < 696 ∧ -2000 ≤ e ∧ e ≤ 2000 ∧ -2000 ≤ lp ∧ lp ≤ 2000)) (hs : Hid (-(e + lp + 3) = (s : Int)))
    (HLG : Hid (Q1 148 (.int .i64 k) (.int .i64 q))) (hp : IntKind.i64.wrap (-q) = p) (HL2 : Hid (Q1 138 (.int .i64 p) (.int .i64 lp)))
    (HN1 : Hid (Q2 232 (.int .u64 ((U lo : Nat) : Int)) (.int .i64 (o : Int)) (.int .u64 (u1 : Int)))) (HC1 : Hid (Q1 233 (.int .u64 (u1 : Int)) (.int .u64 (a : Int))))
    (ho : IntKind.i64.wrap (-(o : Int)) = -(o : Int)) (HN2 : Hid (Q2 232 (.int .u64 ((U hi : Nat) : Int)) (.int .i64 (-(o : Int))) (.int .u64 (u2 : Int)))) (HF : Hid (Q1 234 (.int .u64 (u2 : Int)) (.int .u64 (b : Int))))
    (HR : Hid (Q1 144 (.int .u64 ((U X : Nat) : Int)) (.int .u64 (c : Int))))
    (d10 dd : Nat) (hdv : (b : Int) / 10 = (d10 : Int)) (hdw : IntKind.u64.wrap (d10 : Int) = (d10 : Int)) (hdm : IntKind.u64.wrap ((d10 : Int) * 10) = (dd : Int)) (hd : Hid (Fin3 a b c d10 dd D p E)) (hbb : Hid (b < 18446744073709551616 ∧ -2000 ≤ p ∧ p ≤ 2000))
    (hk : IntKind.i64.wrap (e + 11) = k)
    (t1 : ((X : Int) == 9223372036854775808) = false) (t2 : -1085 ≤ e)
    (hlo : IntKind.u64.wrap ((X : Int) - 1024) = (lo : Int)) (hhi : IntKind.u64.wrap ((X : Int) + 1024) = (hi : Int)) (hM : (X : Int) / 2048 = (M : Int)) (hM2 : IntKind.i64.wrap (M : Int) = (M : Int)) (hod : bits BinOp.and .i64 (M : Int) 1 = (o : Int)) :
    Calls Tryz.prog 223 #[.int .u64 (X : Int), .int .i64 e] w fun x w' => x = .returned (.tuple #[.int .u64 (D : Int), .int .i64 E]) ∧ Below w.heap.size w w' := by
  have HK := Lib.hid (Blk.new w 188 #[.int .u64 0, .int .u64 0, .int .i64 0])
  have HB := Lib.hid ((Below.refl w.heap.size w).alloc (Nat.le_refl _) (.cells #[.int .u64 0, .int .u64 0, .int .i64 0] 188))
  have HP := Lib.hid (c_prescaleI w.heap.size _ _ _ e p lp i Hh L (w.alloc (.cells #[.int .u64 0, .int .u64 0, .int .i64 0] 188)) hi1.out.1 hi1.out.2.1 hi1.out.2.2.1 hi1.out.2.2.2.1 hi1.out.2.2.2.2.1 hi1.out.2.2.2.2.2 (by rw [World.cell?_alloc_lt w _ _ hrow.out.2.2]; exact hrow.out.1) (by rw [World.cell?_alloc_lt w _ _ hrow.out.2.2]; exact hrow.out.2.1) HK.out hrow.out.2.2)
  clear hrow hi1 HK
  go_enter Tryz.func223, Tryz.ntmps223
  go_wp2_with fail
  refine (HLG.out _).mono ?_; rintro x w1 ⟨rfl, rfl⟩
  go_wp2_with fail
  refine (HL2.out _).mono ?_; rintro x w1 ⟨rfl, rfl⟩
  go_wp2_with fail
  refine HP.out.mono ?_; rintro x w2 ⟨rfl, hk2, hb2⟩
  rw [hs.out] at hk2
  have HU2 : Hid (∀ x k : Nat, x < 18446744073709551616 → Calls Tryz.prog 140 #[.int .u64 (x : Int), .pointer (some ⟨w.heap.size, 0, none⟩)] (w2.drewN k) fun e w' => e = .returned (.int .u64 ((U x : Nat) : Int)) ∧ ∃ k', w' = w2.drewN k') := fun x k hx =>
    (HU.out x (w2.drewN k) hx (hk2.cell 0) (hk2.cell 1) (hk2.cell 2)).mono fun e w' ⟨h1, k', h2⟩ => ⟨h1, k + k', by rw [h2]; exact drewN_two w2 k k'⟩
  have HBB := Lib.hid (HB.out.trans hb2)
  clear hk2 hb2 HP HB HU HLG HL2 hs
  go_wp2_with fail
  refine (HU2.out lo 0 hb.out.1).mono ?_; rintro x w3 ⟨rfl, k3, rfl⟩
  go_wp2_with fail
  refine (HN1.out _).mono ?_; rintro x w3 ⟨rfl, rfl⟩
  go_wp2_with fail
  refine (HC1.out _).mono ?_; rintro x w3 ⟨rfl, rfl⟩
  go_wp2_with fail
  refine (HU2.out hi _ hb.out.2.1).mono ?_; rintro x w3 ⟨rfl, k4, rfl⟩
  go_wp2_with fail
  refine (HN2.out _).mono ?_; rintro x w3 ⟨rfl, rfl⟩
  go_wp2_with fail
  refine (HF.out _).mono ?_; rintro x w3 ⟨rfl, rfl⟩
  have hpm : IntKind.i64.wrap (p - 1) = p - 1 := IntWalk.i64_in _ (by have := hbb.out.2; omega)
  have hpm2 : IntKind.i64.wrap (-(p - 1)) = 1 - p := by rw [IntWalk.i64_in _ (by have := hbb.out.2; omega)]; omega
  have hpm3 : IntKind.i64.wrap (-p) = -p := IntWalk.i64_in _ (by have := hbb.out.2; omega)
  clear hbb HN1 HC1 HN2 HF
  rcases hd.out with ⟨h1, rfl, rfl⟩ | ⟨h1, h2, rfl, rfl⟩ | ⟨h1, h2, rfl, rfl⟩
  · go_wp2_with fail
    go_ret2
    exact ⟨rfl, below_drewN HBB.out _⟩
  · go_wp2_with fail
    refine (HU2.out X _ hb.out.2.2).mono ?_; rintro x w3 ⟨rfl, k5, rfl⟩
    go_wp2_with fail
    refine (HR.out _).mono ?_; rintro x w3 ⟨rfl, rfl⟩
    go_wp2_with fail
    go_ret2
    exact ⟨rfl, below_drewN HBB.out _⟩
  · go_wp2_with fail
    go_ret2
    exact ⟨rfl, below_drewN HBB.out _⟩
set_option maxRecDepth 100000 in
set_option maxHeartbeats 2000000 in
theorem sh_B2 (U : Nat → Nat) (X lo hi o s Hh L i a b c D M u1 u2 : Nat) (e p lp k q E : Int) (w : World)
    (hrow : Hid (w.cell? ⟨10, i * 2, none⟩ = some (.int .u64 (Hh : Int)) ∧ w.cell? ⟨10, i * 2 + 1, none⟩ = some (.int .u64 (L : Int)) ∧ 10 < w.heap.size))
    (HU : Hid (USc U Hh L s w.heap.size)) (hb : Hid (lo < 18446744073709551616 ∧ hi < 18446744073709551616 ∧ X < 18446744073709551616))
    (hi1 : Hid ((i : Int) = p + 348 ∧ i < 696 ∧ -2000 ≤ e ∧ e ≤ 2000 ∧ -2000 ≤ lp ∧ lp ≤ 2000)) (hs : Hid (-(e + lp + 3) = (s : Int)))
    (HLG : Hid (Q1 148 (.int .i64 k) (.int .i64 q))) (hp : IntKind.i64.wrap (-q) = p) (HL2 : Hid (Q1 138 (.int .i64 p) (.int .i64 lp)))
    (HN1 : Hid (Q2 232 (.int .u64 ((U lo : Nat) : Int)) (.int .i64 (o : Int)) (.int .u64 (u1 : Int)))) (HC1 : Hid (Q1 233 (.int .u64 (u1 : Int)) (.int .u64 (a : Int))))
    (ho : IntKind.i64.wrap (-(o : Int)) = -(o : Int)) (HN2 : Hid (Q2 232 (.int .u64 ((U hi : Nat) : Int)) (.int .i64 (-(o : Int))) (.int .u64 (u2 : Int)))) (HF : Hid (Q1 234 (.int .u64 (u2 : Int)) (.int .u64 (b : Int))))
    (HR : Hid (Q1 144 (.int .u64 ((U X : Nat) : Int)) (.int .u64 (c : Int))))
    (d10 dd : Nat) (hdv : (b : Int) / 10 = (d10 : Int)) (hdw : IntKind.u64.wrap (d10 : Int) = (d10 : Int)) (hdm : IntKind.u64.wrap ((d10 : Int) * 10) = (dd : Int)) (hd : Hid (Fin3 a b c d10 dd D p E)) (hbb : Hid (b < 18446744073709551616 ∧ -2000 ≤ p ∧ p ≤ 2000))
    (hk : IntKind.i64.wrap (e + 11) = k)
    (t1 : ((X : Int) == 9223372036854775808) = true) (t2 : -1085 ≤ e) (t3 : ¬ -1085 < e)
    (hlo : IntKind.u64.wrap ((X : Int) - 1024) = (lo : Int)) (hhi : IntKind.u64.wrap ((X : Int) + 1024) = (hi : Int)) (hM : (X : Int) / 2048 = (M : Int)) (hM2 : IntKind.i64.wrap (M : Int) = (M : Int)) (hod : bits BinOp.and .i64 (M : Int) 1 = (o : Int)) :
    Calls Tryz.prog 223 #[.int .u64 (X : Int), .int .i64 e] w fun x w' => x = .returned (.tuple #[.int .u64 (D : Int), .int .i64 E]) ∧ Below w.heap.size w w' := by
  have HK := Lib.hid (Blk.new w 188 #[.int .u64 0, .int .u64 0, .int .i64 0])
  have HB := Lib.hid ((Below.refl w.heap.size w).alloc (Nat.le_refl _) (.cells #[.int .u64 0, .int .u64 0, .int .i64 0] 188))
  have HP := Lib.hid (c_prescaleI w.heap.size _ _ _ e p lp i Hh L (w.alloc (.cells #[.int .u64 0, .int .u64 0, .int .i64 0] 188)) hi1.out.1 hi1.out.2.1 hi1.out.2.2.1 hi1.out.2.2.2.1 hi1.out.2.2.2.2.1 hi1.out.2.2.2.2.2 (by rw [World.cell?_alloc_lt w _ _ hrow.out.2.2]; exact hrow.out.1) (by rw [World.cell?_alloc_lt w _ _ hrow.out.2.2]; exact hrow.out.2.1) HK.out hrow.out.2.2)
  clear hrow hi1 HK
  go_enter Tryz.func223, Tryz.ntmps223
  go_wp2_with fail
  refine (HLG.out _).mono ?_; rintro x w1 ⟨rfl, rfl⟩
  go_wp2_with fail
  refine (HL2.out _).mono ?_; rintro x w1 ⟨rfl, rfl⟩
  go_wp2_with fail
  refine HP.out.mono ?_; rintro x w2 ⟨rfl, hk2, hb2⟩
  rw [hs.out] at hk2
  have HU2 : Hid (∀ x k : Nat, x < 18446744073709551616 → Calls Tryz.prog 140 #[.int .u64 (x : Int), .pointer (some ⟨w.heap.size, 0, none⟩)] (w2.drewN k) fun e w' => e = .returned (.int .u64 ((U x : Nat) : Int)) ∧ ∃ k', w' = w2.drewN k') := fun x k hx =>
    (HU.out x (w2.drewN k) hx (hk2.cell 0) (hk2.cell 1) (hk2.cell 2)).mono fun e w' ⟨h1, k', h2⟩ => ⟨h1, k + k', by rw [h2]; exact drewN_two w2 k k'⟩
  have HBB := Lib.hid (HB.out.trans hb2)
  clear hk2 hb2 HP HB HU HLG HL2 hs
  go_wp2_with fail
  refine (HU2.out lo 0 hb.out.1).mono ?_; rintro x w3 ⟨rfl, k3, rfl⟩
  go_wp2_with fail
  refine (HN1.out _).mono ?_; rintro x w3 ⟨rfl, rfl⟩
  go_wp2_with fail
  refine (HC1.out _).mono ?_; rintro x w3 ⟨rfl, rfl⟩
  go_wp2_with fail
  refine (HU2.out hi _ hb.out.2.1).mono ?_; rintro x w3 ⟨rfl, k4, rfl⟩
  go_wp2_with fail
  refine (HN2.out _).mono ?_; rintro x w3 ⟨rfl, rfl⟩
  go_wp2_with fail
  refine (HF.out _).mono ?_; rintro x w3 ⟨rfl, rfl⟩
  have hpm : IntKind.i64.wrap (p - 1) = p - 1 := IntWalk.i64_in _ (by have := hbb.out.2; omega)
  have hpm2 : IntKind.i64.wrap (-(p - 1)) = 1 - p := by rw [IntWalk.i64_in _ (by have := hbb.out.2; omega)]; omega
  have hpm3 : IntKind.i64.wrap (-p) = -p := IntWalk.i64_in _ (by have := hbb.out.2; omega)
  clear hbb HN1 HC1 HN2 HF
  rcases hd.out with ⟨h1, rfl, rfl⟩ | ⟨h1, h2, rfl, rfl⟩ | ⟨h1, h2, rfl, rfl⟩
  · go_wp2_with fail
    go_ret2
    exact ⟨rfl, below_drewN HBB.out _⟩
  · go_wp2_with fail
    refine (HU2.out X _ hb.out.2.2).mono ?_; rintro x w3 ⟨rfl, k5, rfl⟩
    go_wp2_with fail
    refine (HR.out _).mono ?_; rintro x w3 ⟨rfl, rfl⟩
    go_wp2_with fail
    go_ret2
    exact ⟨rfl, below_drewN HBB.out _⟩
  · go_wp2_with fail
    go_ret2
    exact ⟨rfl, below_drewN HBB.out _⟩
set_option maxRecDepth 100000 in
set_option maxHeartbeats 2000000 in
theorem sh_C1 (U : Nat → Nat) (X lo hi o s Hh L i a b c D M u1 u2 : Nat) (z z1 y P : Nat) (e p lp k q E : Int) (w : World)
    (hrow : Hid (w.cell? ⟨10, i * 2, none⟩ = some (.int .u64 (Hh : Int)) ∧ w.cell? ⟨10, i * 2 + 1, none⟩ = some (.int .u64 (L : Int)) ∧ 10 < w.heap.size))
    (HU : Hid (USc U Hh L s w.heap.size)) (hb : Hid (lo < 18446744073709551616 ∧ hi < 18446744073709551616 ∧ X < 18446744073709551616))
    (hi1 : Hid ((i : Int) = p + 348 ∧ i < 696 ∧ -2000 ≤ e ∧ e ≤ 2000 ∧ -2000 ≤ lp ∧ lp ≤ 2000)) (hs : Hid (-(e + lp + 3) = (s : Int)))
    (HLG : Hid (Q1 148 (.int .i64 k) (.int .i64 q))) (hp : IntKind.i64.wrap (-q) = p) (HL2 : Hid (Q1 138 (.int .i64 p) (.int .i64 lp)))
    (HN1 : Hid (Q2 232 (.int .u64 ((U lo : Nat) : Int)) (.int .i64 (o : Int)) (.int .u64 (u1 : Int)))) (HC1 : Hid (Q1 233 (.int .u64 (u1 : Int)) (.int .u64 (a : Int))))
    (ho : IntKind.i64.wrap (-(o : Int)) = -(o : Int)) (HN2 : Hid (Q2 232 (.int .u64 ((U hi : Nat) : Int)) (.int .i64 (-(o : Int))) (.int .u64 (u2 : Int)))) (HF : Hid (Q1 234 (.int .u64 (u2 : Int)) (.int .u64 (b : Int))))
    (HR : Hid (Q1 144 (.int .u64 ((U X : Nat) : Int)) (.int .u64 (c : Int))))
    (d10 dd : Nat) (hdv : (b : Int) / 10 = (d10 : Int)) (hdw : IntKind.u64.wrap (d10 : Int) = (d10 : Int)) (hdm : IntKind.u64.wrap ((d10 : Int) * 10) = (dd : Int)) (hd : Hid (Fin3 a b c d10 dd D p E)) (hbb : Hid (b < 18446744073709551616 ∧ -2000 ≤ p ∧ p ≤ 2000))
    (hk : IntKind.i64.wrap (e + (z : Int)) = k)
    (t1 : ((X : Int) == 9223372036854775808) = false) (t2 : ¬ -1085 ≤ e)
    (hy : IntKind.i64.wrap (-1085 - e) = (y : Int)) (hz : IntKind.i64.wrap (11 + (y : Int)) = (z : Int)) (hz1 : IntKind.i64.wrap ((z : Int) - 1) = (z1 : Int)) (hP : IntKind.u64.wrap (2 ^ z1) = (P : Int)) (z0 : (0 : Int) ≤ (z : Int)) (z64 : (z : Int) ≤ 64) (z10 : (0 : Int) ≤ (z1 : Int)) (z164 : (z1 : Int) ≤ 64)
    (hlo : IntKind.u64.wrap ((X : Int) - (P : Int)) = (lo : Int)) (hhi : IntKind.u64.wrap ((X : Int) + (P : Int)) = (hi : Int)) (hM : (X : Int) / 2 ^ z = (M : Int)) (hM2 : IntKind.i64.wrap (M : Int) = (M : Int)) (hod : bits BinOp.and .i64 (M : Int) 1 = (o : Int)) :
    Calls Tryz.prog 223 #[.int .u64 (X : Int), .int .i64 e] w fun x w' => x = .returned (.tuple #[.int .u64 (D : Int), .int .i64 E]) ∧ Below w.heap.size w w' := by
  have HK := Lib.hid (Blk.new w 188 #[.int .u64 0, .int .u64 0, .int .i64 0])
  have HB := Lib.hid ((Below.refl w.heap.size w).alloc (Nat.le_refl _) (.cells #[.int .u64 0, .int .u64 0, .int .i64 0] 188))
  have HP := Lib.hid (c_prescaleI w.heap.size _ _ _ e p lp i Hh L (w.alloc (.cells #[.int .u64 0, .int .u64 0, .int .i64 0] 188)) hi1.out.1 hi1.out.2.1 hi1.out.2.2.1 hi1.out.2.2.2.1 hi1.out.2.2.2.2.1 hi1.out.2.2.2.2.2 (by rw [World.cell?_alloc_lt w _ _ hrow.out.2.2]; exact hrow.out.1) (by rw [World.cell?_alloc_lt w _ _ hrow.out.2.2]; exact hrow.out.2.1) HK.out hrow.out.2.2)
  clear hrow hi1 HK
  go_enter Tryz.func223, Tryz.ntmps223
  go_wp2_with fail
  refine (HLG.out _).mono ?_; rintro x w1 ⟨rfl, rfl⟩
  go_wp2_with fail
  refine (HL2.out _).mono ?_; rintro x w1 ⟨rfl, rfl⟩
  go_wp2_with fail
  refine HP.out.mono ?_; rintro x w2 ⟨rfl, hk2, hb2⟩
  rw [hs.out] at hk2
  have HU2 : Hid (∀ x k : Nat, x < 18446744073709551616 → Calls Tryz.prog 140 #[.int .u64 (x : Int), .pointer (some ⟨w.heap.size, 0, none⟩)] (w2.drewN k) fun e w' => e = .returned (.int .u64 ((U x : Nat) : Int)) ∧ ∃ k', w' = w2.drewN k') := fun x k hx =>
    (HU.out x (w2.drewN k) hx (hk2.cell 0) (hk2.cell 1) (hk2.cell 2)).mono fun e w' ⟨h1, k', h2⟩ => ⟨h1, k + k', by rw [h2]; exact drewN_two w2 k k'⟩
  have HBB := Lib.hid (HB.out.trans hb2)
  clear hk2 hb2 HP HB HU HLG HL2 hs
  go_wp2_with fail
  refine (HU2.out lo 0 hb.out.1).mono ?_; rintro x w3 ⟨rfl, k3, rfl⟩
  go_wp2_with fail
  refine (HN1.out _).mono ?_; rintro x w3 ⟨rfl, rfl⟩
  go_wp2_with fail
  refine (HC1.out _).mono ?_; rintro x w3 ⟨rfl, rfl⟩
  go_wp2_with fail
  refine (HU2.out hi _ hb.out.2.1).mono ?_; rintro x w3 ⟨rfl, k4, rfl⟩
  go_wp2_with fail
  refine (HN2.out _).mono ?_; rintro x w3 ⟨rfl, rfl⟩
  go_wp2_with fail
  refine (HF.out _).mono ?_; rintro x w3 ⟨rfl, rfl⟩
  have hpm : IntKind.i64.wrap (p - 1) = p - 1 := IntWalk.i64_in _ (by have := hbb.out.2; omega)
  have hpm2 : IntKind.i64.wrap (-(p - 1)) = 1 - p := by rw [IntWalk.i64_in _ (by have := hbb.out.2; omega)]; omega
  have hpm3 : IntKind.i64.wrap (-p) = -p := IntWalk.i64_in _ (by have := hbb.out.2; omega)
  clear hbb HN1 HC1 HN2 HF
  rcases hd.out with ⟨h1, rfl, rfl⟩ | ⟨h1, h2, rfl, rfl⟩ | ⟨h1, h2, rfl, rfl⟩
  · go_wp2_with fail
    go_ret2
    exact ⟨rfl, below_drewN HBB.out _⟩
  · go_wp2_with fail
    refine (HU2.out X _ hb.out.2.2).mono ?_; rintro x w3 ⟨rfl, k5, rfl⟩
    go_wp2_with fail
    refine (HR.out _).mono ?_; rintro x w3 ⟨rfl, rfl⟩
    go_wp2_with fail
    go_ret2
    exact ⟨rfl, below_drewN HBB.out _⟩
  · go_wp2_with fail
    go_ret2
    exact ⟨rfl, below_drewN HBB.out _⟩
set_option maxRecDepth 100000 in
set_option maxHeartbeats 2000000 in
theorem sh_C2 (U : Nat → Nat) (X lo hi o s Hh L i a b c D M u1 u2 : Nat) (z z1 y P : Nat) (e p lp k q E : Int) (w : World)
    (hrow : Hid (w.cell? ⟨10, i * 2, none⟩ = some (.int .u64 (Hh : Int)) ∧ w.cell? ⟨10, i * 2 + 1, none⟩ = some (.int .u64 (L : Int)) ∧ 10 < w.heap.size))
    (HU : Hid (USc U Hh L s w.heap.size)) (hb : Hid (lo < 18446744073709551616 ∧ hi < 18446744073709551616 ∧ X < 18446744073709551616))
    (hi1 : Hid ((i : Int) = p + 348 ∧ i < 696 ∧ -2000 ≤ e ∧ e ≤ 2000 ∧ -2000 ≤ lp ∧ lp ≤ 2000)) (hs : Hid (-(e + lp + 3) = (s : Int)))
    (HLG : Hid (Q1 148 (.int .i64 k) (.int .i64 q))) (hp : IntKind.i64.wrap (-q) = p) (HL2 : Hid (Q1 138 (.int .i64 p) (.int .i64 lp)))
    (HN1 : Hid (Q2 232 (.int .u64 ((U lo : Nat) : Int)) (.int .i64 (o : Int)) (.int .u64 (u1 : Int)))) (HC1 : Hid (Q1 233 (.int .u64 (u1 : Int)) (.int .u64 (a : Int))))
    (ho : IntKind.i64.wrap (-(o : Int)) = -(o : Int)) (HN2 : Hid (Q2 232 (.int .u64 ((U hi : Nat) : Int)) (.int .i64 (-(o : Int))) (.int .u64 (u2 : Int)))) (HF : Hid (Q1 234 (.int .u64 (u2 : Int)) (.int .u64 (b : Int))))
    (HR : Hid (Q1 144 (.int .u64 ((U X : Nat) : Int)) (.int .u64 (c : Int))))
    (d10 dd : Nat) (hdv : (b : Int) / 10 = (d10 : Int)) (hdw : IntKind.u64.wrap (d10 : Int) = (d10 : Int)) (hdm : IntKind.u64.wrap ((d10 : Int) * 10) = (dd : Int)) (hd : Hid (Fin3 a b c d10 dd D p E)) (hbb : Hid (b < 18446744073709551616 ∧ -2000 ≤ p ∧ p ≤ 2000))
    (hk : IntKind.i64.wrap (e + (z : Int)) = k)
    (t1 : ((X : Int) == 9223372036854775808) = true) (t2 : ¬ -1085 ≤ e) (t3 : ¬ -1085 < e)
    (hy : IntKind.i64.wrap (-1085 - e) = (y : Int)) (hz : IntKind.i64.wrap (11 + (y : Int)) = (z : Int)) (hz1 : IntKind.i64.wrap ((z : Int) - 1) = (z1 : Int)) (hP : IntKind.u64.wrap (2 ^ z1) = (P : Int)) (z0 : (0 : Int) ≤ (z : Int)) (z64 : (z : Int) ≤ 64) (z10 : (0 : Int) ≤ (z1 : Int)) (z164 : (z1 : Int) ≤ 64)
    (hlo : IntKind.u64.wrap ((X : Int) - (P : Int)) = (lo : Int)) (hhi : IntKind.u64.wrap ((X : Int) + (P : Int)) = (hi : Int)) (hM : (X : Int) / 2 ^ z = (M : Int)) (hM2 : IntKind.i64.wrap (M : Int) = (M : Int)) (hod : bits BinOp.and .i64 (M : Int) 1 = (o : Int)) :
    Calls Tryz.prog 223 #[.int .u64 (X : Int), .int .i64 e] w fun x w' => x = .returned (.tuple #[.int .u64 (D : Int), .int .i64 E]) ∧ Below w.heap.size w w' := by
  have HK := Lib.hid (Blk.new w 188 #[.int .u64 0, .int .u64 0, .int .i64 0])
  have HB := Lib.hid ((Below.refl w.heap.size w).alloc (Nat.le_refl _) (.cells #[.int .u64 0, .int .u64 0, .int .i64 0] 188))
  have HP := Lib.hid (c_prescaleI w.heap.size _ _ _ e p lp i Hh L (w.alloc (.cells #[.int .u64 0, .int .u64 0, .int .i64 0] 188)) hi1.out.1 hi1.out.2.1 hi1.out.2.2.1 hi1.out.2.2.2.1 hi1.out.2.2.2.2.1 hi1.out.2.2.2.2.2 (by rw [World.cell?_alloc_lt w _ _ hrow.out.2.2]; exact hrow.out.1) (by rw [World.cell?_alloc_lt w _ _ hrow.out.2.2]; exact hrow.out.2.1) HK.out hrow.out.2.2)
  clear hrow hi1 HK
  go_enter Tryz.func223, Tryz.ntmps223
  go_wp2_with fail
  refine (HLG.out _).mono ?_; rintro x w1 ⟨rfl, rfl⟩
  go_wp2_with fail
  refine (HL2.out _).mono ?_; rintro x w1 ⟨rfl, rfl⟩
  go_wp2_with fail
  refine HP.out.mono ?_; rintro x w2 ⟨rfl, hk2, hb2⟩
  rw [hs.out] at hk2
  have HU2 : Hid (∀ x k : Nat, x < 18446744073709551616 → Calls Tryz.prog 140 #[.int .u64 (x : Int), .pointer (some ⟨w.heap.size, 0, none⟩)] (w2.drewN k) fun e w' => e = .returned (.int .u64 ((U x : Nat) : Int)) ∧ ∃ k', w' = w2.drewN k') := fun x k hx =>
    (HU.out x (w2.drewN k) hx (hk2.cell 0) (hk2.cell 1) (hk2.cell 2)).mono fun e w' ⟨h1, k', h2⟩ => ⟨h1, k + k', by rw [h2]; exact drewN_two w2 k k'⟩
  have HBB := Lib.hid (HB.out.trans hb2)
  clear hk2 hb2 HP HB HU HLG HL2 hs
  go_wp2_with fail
  refine (HU2.out lo 0 hb.out.1).mono ?_; rintro x w3 ⟨rfl, k3, rfl⟩
  go_wp2_with fail
  refine (HN1.out _).mono ?_; rintro x w3 ⟨rfl, rfl⟩
  go_wp2_with fail
  refine (HC1.out _).mono ?_; rintro x w3 ⟨rfl, rfl⟩
  go_wp2_with fail
  refine (HU2.out hi _ hb.out.2.1).mono ?_; rintro x w3 ⟨rfl, k4, rfl⟩
  go_wp2_with fail
  refine (HN2.out _).mono ?_; rintro x w3 ⟨rfl, rfl⟩
  go_wp2_with fail
  refine (HF.out _).mono ?_; rintro x w3 ⟨rfl, rfl⟩
  have hpm : IntKind.i64.wrap (p - 1) = p - 1 := IntWalk.i64_in _ (by have := hbb.out.2; omega)
  have hpm2 : IntKind.i64.wrap (-(p - 1)) = 1 - p := by rw [IntWalk.i64_in _ (by have := hbb.out.2; omega)]; omega
  have hpm3 : IntKind.i64.wrap (-p) = -p := IntWalk.i64_in _ (by have := hbb.out.2; omega)
  clear hbb HN1 HC1 HN2 HF
  rcases hd.out with ⟨h1, rfl, rfl⟩ | ⟨h1, h2, rfl, rfl⟩ | ⟨h1, h2, rfl, rfl⟩
  · go_wp2_with fail
    go_ret2
    exact ⟨rfl, below_drewN HBB.out _⟩
  · go_wp2_with fail
    refine (HU2.out X _ hb.out.2.2).mono ?_; rintro x w3 ⟨rfl, k5, rfl⟩
    go_wp2_with fail
    refine (HR.out _).mono ?_; rintro x w3 ⟨rfl, rfl⟩
    go_wp2_with fail
    go_ret2
    exact ⟨rfl, below_drewN HBB.out _⟩
  · go_wp2_with fail
    go_ret2
    exact ⟨rfl, below_drewN HBB.out _⟩
theorem sh_parts {m z : Nat} (hz1 : 11 ≤ z) : mman m * 2 ^ z = 4 * mman m * 2 ^ (z - 2) ∧ xLo m z = (4 * mman m - dlM m) * 2 ^ (z - 2) ∧ xHi m z = (4 * mman m + 2) * 2 ^ (z - 2) := by
  have e4 : 2 ^ z = 4 * 2 ^ (z - 2) := by rw [show (4 : Nat) = 2 ^ 2 from rfl, ← Nat.pow_add]; congr 1; omega
  have e2 : 2 ^ (z - 1) = 2 * 2 ^ (z - 2) := by rw [← Nat.pow_succ']; congr 1; omega
  refine ⟨by rw [e4]; ac_rfl, ?_, ?_⟩
  · unfold xLo
    rw [e4, Nat.sub_mul]
    congr 1
    ac_rfl
  · unfold xHi
    rw [e4, e2, Nat.add_mul]
    congr 1
    ac_rfl
theorem lpI_bd {p : Int} (h1 : -292 ≤ p) (h2 : p ≤ 324) : -2000 ≤ lpI p ∧ lpI p ≤ 2000 := by unfold lpI; omega
theorem mman_hi (m : Nat) : mman m < 9007199254740992 := by unfold mman; split <;> omega
theorem mman_odd (m : Nat) : mman m % 2 = m % 2 := by unfold mman; split <;> omega
theorem fin3M (m z : Nat) : Fin3 (aM m z) (bM m z) ((uAt m z (mman m * 2 ^ z) + 1 + uAt m z (mman m * 2 ^ z) / 4 % 2) / 4) (bM m z / 10) (bM m z / 10 * 10) (dM m z) (pM m) (eM m z) := by
  unfold Fin3 dM eM
  by_cases h1 : aM m z ≤ bM m z / 10 * 10
  · exact .inl ⟨h1, if_pos h1, if_pos h1⟩
  · by_cases h2 : aM m z < bM m z
    · exact .inr (.inl ⟨h1, h2, by rw [if_neg h1, if_pos h2], if_neg h1⟩)
    · exact .inr (.inr ⟨h1, h2, by rw [if_neg h1, if_neg h2], if_neg h1⟩)
set_option maxRecDepth 100000 in
theorem c_shortI (m z : Nat) (h0 : 0 < m) (h1 : m < 9218868437227405312) (hz1 : 11 ≤ z) (hz2 : z ≤ 63) (hn : 4503599627370496 ≤ m → z = 11) (hM1 : 9223372036854775808 ≤ mman m * 2 ^ z) (hM : mman m * 2 ^ z < 18446744073709551616) (w : World) (ht : TabS w) :
    Calls Tryz.prog 223 #[.int .u64 ((mman m * 2 ^ z : Nat) : Int), .int .i64 (mexp m - z)] w fun x w' => x = .returned (.tuple #[.int .u64 ((dM m z : Nat) : Int), .int .i64 (eM m z)]) ∧ Below w.heap.size w w' := by
  have hk := kOkM h1
  have p1 := hk.p1
  have p2 := hk.p2
  have hs1 := hk.s1
  have hlb := lpI_bd p1 p2
  have hkb1 : -1074 ≤ mexp m := (mexp_bd (m := m) (by omega)).1
  have hkb2 : mexp m ≤ 971 := by unfold mexp; split <;> omega
  have hm1 := mman_one h0
  have hm2 := mman_hi m
  have hdl := dlM_12 m
  obtain ⟨eX, eL, eH⟩ := sh_parts (m := m) hz1
  have hP0 : 0 < 2 ^ (z - 2) := Nat.pow_pos (by decide)
  have hHM : (4 * mman m + 2) * 2 ^ (z - 2) < 18446744073709551616 := by
    have hlt : mman m < 2 ^ (64 - z) := by
      refine Nat.lt_of_mul_lt_mul_right (a := 2 ^ z) ?_
      rw [← Nat.pow_add, show 64 - z + z = 64 from by omega]
      exact hM
    have h2 : (mman m + 1) * 2 ^ z ≤ 2 ^ (64 - z) * 2 ^ z := Nat.mul_le_mul_right _ hlt
    rw [← Nat.pow_add, show 64 - z + z = 64 from by omega] at h2
    have e5 : (mman m + 1) * 2 ^ z = (4 * mman m + 2) * 2 ^ (z - 2) + 2 * 2 ^ (z - 2) := by
      rw [show 2 ^ z = 4 * 2 ^ (z - 2) from by rw [show (4 : Nat) = 2 ^ 2 from rfl, ← Nat.pow_add]; congr 1; omega, ← Nat.add_mul, Nat.add_assoc, show 4 * mman m + (2 + 2) = 4 * (mman m + 1) from by omega]
      ac_rfl
    have : (2 : Nat) ^ 64 = 18446744073709551616 := rfl
    omega
  have hLM : (4 * mman m - dlM m) * 2 ^ (z - 2) < 18446744073709551616 := Nat.lt_of_le_of_lt (Nat.mul_le_mul_right _ (by omega)) hHM
  have hXM : 4 * mman m * 2 ^ (z - 2) < 18446744073709551616 := by rw [← eX]; exact hM
  have uL : uAt m z (xLo m z) < 4611686018427387904 := by rw [eL]; exact uAt_lt h1 hz1 hz2 (by omega) hLM (by omega)
  have uH : uAt m z (xHi m z) < 4611686018427387904 := by rw [eH]; exact uAt_lt h1 hz1 hz2 (by omega) hHM (by omega)
  have uX : uAt m z (mman m * 2 ^ z) < 4611686018427387904 := by rw [eX]; exact uAt_lt h1 hz1 hz2 (by omega) hXM (by omega)
  have uH1 : 1 ≤ uAt m z (xHi m z) := by
    rw [eH, (uAt_eq h1 hz1 hz2 (by omega) hHM).1]
    have hD := d4N_pos (mexp m) (pM m)
    have hf := (ur_floor (A := (4 * mman m + 2) * w4N (mexp m) (pM m)) hD 1).2 (by
      have h6 : (2 + dlM m) * w4N (mexp m) (pM m) ≤ (4 * mman m + 2) * w4N (mexp m) (pM m) := Nat.mul_le_mul_right _ (by omega)
      have := hk.wide
      omega)
    omega
  have hsh := (uAt_eq (m := m) (z := z) (c := 4 * mman m) h1 hz1 hz2 (by omega) hXM).2
  have hshI : -(mexp m - (z : Int) + lpI (pM m) + 3) = ((shM m z : Nat) : Int) := by unfold shM; omega
  obtain ⟨i, hi⟩ : ∃ i : Nat, (i : Int) = pM m + 348 := ⟨(pM m + 348).toNat, by omega⟩
  have hrow := ht.row i (by omega)
  rw [show (i : Int) - 348 = pM m from by omega] at hrow
  have hHB : hiN (pM m) < 18446744073709551616 := (us_all (p := pM m) (s := 5) (t := 1) p1 p2 (by decide) (by decide) (by decide)).2
  have hLB := (hilo (pM m)).2
  have hH0 := hiN_pos (pM m)
  have ho2 : m % 2 ≤ 1 := by omega
  have hrn := fun (x : Nat) (hx : x < 4611686018427387904) => c_roundI x (by omega)
  have Hrow := Lib.hid (And.intro hrow.1 (And.intro hrow.2 ht.hg))
  have HU : Hid (USc (uAt m z) (hiN (pM m)) (loN (pM m)) (shM m z) w.heap.size) := fun x W hx c0 c1 c2 => c_uscaleI x (hiN (pM m)) (loN (pM m)) (shM m z) w.heap.size hx hHB hH0 hLB hsh W c0 c1 c2
  have Hb := Lib.hid (And.intro (by rw [eL]; exact hLM : xLo m z < 18446744073709551616) (And.intro (by rw [eH]; exact hHM : xHi m z < 18446744073709551616) hM))
  have Hi : Hid ((i : Int) = pM m + 348 ∧ i < 696 ∧ -2000 ≤ mexp m - (z : Int) ∧ mexp m - (z : Int) ≤ 2000 ∧ -2000 ≤ lpI (pM m) ∧ lpI (pM m) ≤ 2000) := ⟨hi, by omega, by omega, by omega, hlb.1, hlb.2⟩
  have Hs := Lib.hid hshI
  have HL2 : Hid (Q1 138 (.int .i64 (pM m)) (.int .i64 (lpI (pM m)))) := c_log2I (pM m) (by omega) (by omega)
  have HN1 : Hid (Q2 232 (.int .u64 ((uAt m z (xLo m z) : Nat) : Int)) (.int .i64 ((m % 2 : Nat) : Int)) (.int .u64 ((uAt m z (xLo m z) + m % 2 : Nat) : Int))) := c_nudgeUp _ _ (by omega) ho2
  have HC1 : Hid (Q1 233 (.int .u64 ((uAt m z (xLo m z) + m % 2 : Nat) : Int)) (.int .u64 ((aM m z : Nat) : Int))) := c_ceilI _ (by omega)
  have hno : IntKind.i64.wrap (-((m % 2 : Nat) : Int)) = -((m % 2 : Nat) : Int) := IntWalk.i64_in _ (by omega)
  have HN2 : Hid (Q2 232 (.int .u64 ((uAt m z (xHi m z) : Nat) : Int)) (.int .i64 (-((m % 2 : Nat) : Int))) (.int .u64 ((uAt m z (xHi m z) - m % 2 : Nat) : Int))) := c_nudgeDn _ _ (by omega) ho2 (by omega)
  have HF : Hid (Q1 234 (.int .u64 ((uAt m z (xHi m z) - m % 2 : Nat) : Int)) (.int .u64 ((bM m z : Nat) : Int))) := c_floorI _ (by omega)
  have HR : Hid (Q1 144 (.int .u64 ((uAt m z (mman m * 2 ^ z) : Nat) : Int)) (.int .u64 (((uAt m z (mman m * 2 ^ z) + 1 + uAt m z (mman m * 2 ^ z) / 4 % 2) / 4 : Nat) : Int))) := hrn _ uX
  have HD := Lib.hid (fin3M m z)
  have Hbb : Hid (bM m z < 18446744073709551616 ∧ -2000 ≤ pM m ∧ pM m ≤ 2000) := ⟨by unfold bM; omega, by omega, by omega⟩
  have hbM : bM m z < 18446744073709551616 := Hbb.out.1
  have hdv : ((bM m z : Nat) : Int) / 10 = ((bM m z / 10 : Nat) : Int) := by omega
  have hdw : IntKind.u64.wrap ((bM m z / 10 : Nat) : Int) = ((bM m z / 10 : Nat) : Int) := by rw [IntKind.wrap_u64]; omega
  have hdm : IntKind.u64.wrap (((bM m z / 10 : Nat) : Int) * 10) = ((bM m z / 10 * 10 : Nat) : Int) := by rw [IntKind.wrap_u64]; omega
  have hM2 : IntKind.i64.wrap ((mman m : Nat) : Int) = ((mman m : Nat) : Int) := IntWalk.i64_in _ (by omega)
  have hod : bits BinOp.and .i64 ((mman m : Nat) : Int) 1 = ((m % 2 : Nat) : Int) := and1_i64 hm2 (mman_odd m)
  have hMd : ((mman m * 2 ^ z : Nat) : Int) / 2 ^ z = ((mman m : Nat) : Int) := by
    rw [div_pow_cast, Nat.mul_div_cancel _ (Nat.pow_pos (by decide))]
  by_cases hm : m < 4503599627370496
  · have hme : mexp m = -1074 := by unfold mexp; rw [if_pos hm]
    have hmm : mman m = m := by unfold mman; rw [if_pos hm]
    have hd : dlM m = 2 := by unfold dlM; rw [if_neg (by omega)]
    have hz12 : 12 ≤ z := by
      rcases Nat.lt_or_ge z 12 with h | h
      · obtain rfl : z = 11 := by omega
        omega
      · exact h
    have hpq : IntKind.i64.wrap (-(mexp m * 78913 / 262144)) = pM m := by rw [IntWalk.i64_in _ (by omega)]; unfold pM p10; rw [if_neg (by omega)]
    have eP : 2 ^ (z - 1) = 2 * 2 ^ (z - 2) := by rw [← Nat.pow_succ']; congr 1; omega
    have hPs : 2 ^ (z - 1) < 18446744073709551616 := Nat.lt_of_le_of_lt (Nat.pow_le_pow_right (by decide) (by omega : z - 1 ≤ 62)) (by decide)
    have hP : IntKind.u64.wrap (2 ^ (z - 1)) = ((2 ^ (z - 1) : Nat) : Int) := by
      rw [show (2 : Int) ^ (z - 1) = ((2 ^ (z - 1) : Nat) : Int) from by rw [Int.natCast_pow]; rfl, IntKind.wrap_u64]
      omega
    have q1 : xLo m z + 2 ^ (z - 1) = mman m * 2 ^ z := by
      rw [eL, eX, eP, hd, ← Nat.add_mul]; congr 1; omega
    have q2 : xHi m z = mman m * 2 ^ z + 2 ^ (z - 1) := by
      rw [eH, eX, eP, ← Nat.add_mul]
    have hlo : IntKind.u64.wrap (((mman m * 2 ^ z : Nat) : Int) - ((2 ^ (z - 1) : Nat) : Int)) = ((xLo m z : Nat) : Int) := by rw [IntKind.wrap_u64]; omega
    have hhi : IntKind.u64.wrap (((mman m * 2 ^ z : Nat) : Int) + ((2 ^ (z - 1) : Nat) : Int)) = ((xHi m z : Nat) : Int) := by rw [IntKind.wrap_u64]; have := Hb.out.2.1; omega
    have hy : IntKind.i64.wrap (-1085 - (mexp m - (z : Int))) = ((z - 11 : Nat) : Int) := by rw [IntWalk.i64_in _ (by omega)]; omega
    have hzw : IntKind.i64.wrap (11 + ((z - 11 : Nat) : Int)) = (z : Int) := by rw [IntWalk.i64_in _ (by omega)]; omega
    have hz1w : IntKind.i64.wrap ((z : Int) - 1) = ((z - 1 : Nat) : Int) := by rw [IntWalk.i64_in _ (by omega)]; omega
    have hkw : IntKind.i64.wrap (mexp m - (z : Int) + (z : Int)) = mexp m := by rw [IntWalk.i64_in _ (by omega)]; omega
    by_cases hx : mman m * 2 ^ z = 9223372036854775808
    · exact sh_C2 _ _ _ _ _ _ _ _ _ _ _ _ _ _ _ _ _ _ _ _ _ _ _ _ _ _ w Hrow HU Hb Hi Hs (Lib.hid (c_log10I (mexp m) (by omega) (by omega))) hpq HL2 HN1 HC1 hno HN2 HF HR _ _ hdv hdw hdm HD Hbb hkw (by rw [beq_iff_eq]; omega) (by omega) (by omega) hy hzw hz1w hP (by omega) (by omega) (by omega) (by omega) hlo hhi hMd hM2 hod
    · exact sh_C1 _ _ _ _ _ _ _ _ _ _ _ _ _ _ _ _ _ _ _ _ _ _ _ _ _ _ w Hrow HU Hb Hi Hs (Lib.hid (c_log10I (mexp m) (by omega) (by omega))) hpq HL2 HN1 HC1 hno HN2 HF HR _ _ hdv hdw hdm HD Hbb hkw (by rw [beq_eq_false_iff_ne]; exact fun e => hx (by omega)) (by omega) hy hzw hz1w hP (by omega) (by omega) (by omega) (by omega) hlo hhi hMd hM2 hod
  · obtain rfl := hn (by omega)
    have hkw : IntKind.i64.wrap (mexp m - ((11 : Nat) : Int) + 11) = mexp m := by rw [IntWalk.i64_in _ (by omega)]; omega
    have hMd' : ((mman m * 2 ^ 11 : Nat) : Int) / 2048 = ((mman m : Nat) : Int) := by omega
    have hhi : IntKind.u64.wrap (((mman m * 2 ^ 11 : Nat) : Int) + 1024) = ((xHi m 11 : Nat) : Int) := by
      rw [IntKind.wrap_u64]; have := Hb.out.2.1; unfold xHi at *; omega
    by_cases hd : dlM m = 1
    · have hmz : m % 4503599627370496 = 0 ∧ 9007199254740992 ≤ m := by
        unfold dlM at hd
        split at hd
        · assumption
        · cases hd
      have hmm : mman m = 4503599627370496 := by unfold mman; rw [if_neg hm]; omega
      have hme : -1074 < mexp m := by unfold mexp; rw [if_neg hm]; omega
      have hxT : (((mman m * 2 ^ 11 : Nat) : Int) == 9223372036854775808) = true := by rw [beq_iff_eq]; omega
      have hpq : IntKind.i64.wrap (-((mexp m * 631305 - 261663) / 2097152)) = pM m := by rw [IntWalk.i64_in _ (by omega)]; unfold pM psk; rw [if_pos hd]
      have hlo : IntKind.u64.wrap (((mman m * 2 ^ 11 : Nat) : Int) - 512) = ((xLo m 11 : Nat) : Int) := by
        rw [IntKind.wrap_u64]; unfold xLo; rw [hd]; omega
      exact sh_A _ _ _ _ _ _ _ _ _ _ _ _ _ _ _ _ _ _ _ _ _ _ w Hrow HU Hb Hi Hs (Lib.hid (c_skewI (mexp m) (by omega) (by omega))) hpq HL2 HN1 HC1 hno HN2 HF HR _ _ hdv hdw hdm HD Hbb hkw hxT (by omega) hlo hhi hMd' hM2 hod
    · have hd2 : dlM m = 2 := by omega
      have hpq : IntKind.i64.wrap (-(mexp m * 78913 / 262144)) = pM m := by rw [IntWalk.i64_in _ (by omega)]; unfold pM p10; rw [if_neg hd]
      have hlo : IntKind.u64.wrap (((mman m * 2 ^ 11 : Nat) : Int) - 1024) = ((xLo m 11 : Nat) : Int) := by
        rw [IntKind.wrap_u64]; unfold xLo; rw [hd2]; omega
      by_cases hx : mman m * 2 ^ 11 = 9223372036854775808
      · have hme : mexp m = -1074 := by
          unfold dlM at hd
          split at hd
          · exact absurd rfl hd
          · unfold mexp
            unfold mman at hx
            rw [if_neg hm] at hx ⊢
            omega
        exact sh_B2 _ _ _ _ _ _ _ _ _ _ _ _ _ _ _ _ _ _ _ _ _ _ w Hrow HU Hb Hi Hs (Lib.hid (c_log10I (mexp m) (by omega) (by omega))) hpq HL2 HN1 HC1 hno HN2 HF HR _ _ hdv hdw hdm HD Hbb hkw (by rw [beq_iff_eq]; omega) (by omega) (by omega) hlo hhi hMd' hM2 hod
      · exact sh_B1 _ _ _ _ _ _ _ _ _ _ _ _ _ _ _ _ _ _ _ _ _ _ w Hrow HU Hb Hi Hs (Lib.hid (c_log10I (mexp m) (by omega) (by omega))) hpq HL2 HN1 HC1 hno HN2 HF HR _ _ hdv hdw hdm HD Hbb hkw (by rw [beq_eq_false_iff_ne]; exact fun e => hx (by omega)) (by omega) hlo hhi hMd' hM2 hod
end Go.Proofs.YtigbbogfnchgnaaGreatDoor
namespace Go.Proofs.YtigbbogfnchgnaaGreatDoor
open Go.RowKit Go.Sort
set_option linter.unusedVariables false
attribute [local go_sem ↓] Go.wp_at_zero Go.wp_at_succ

theorem c_numdI (d : Nat) (h1 : 1 ≤ d) (h2 : d < 18446744073709551616) (w : World) (htab : Lib.TabIs Tryz.prog w "internal/strconv.uint64pow10" .u64 Lib.pow10Tab) : Calls Tryz.prog 131 #[.int .u64 (d : Int)] w fun e w' => e = .returned (.int .i64 ((lenD d : Nat) : Int)) ∧ w = w' := by
  refine (Any.internal_strconv_numDigits lays284 d h1 h2 w htab).mono fun e w' h => ?_
  obtain ⟨rfl, rfl⟩ := h
  unfold lenD
  rw [Lib.decDigits_length]
  exact ⟨rfl, rfl⟩
theorem holdsN (n : Nat) (hn : n ≤ 32) (w : World) (g : Nat) (T : TypeId) (hk : Blk w g T zrs32) : Holds (fun (b : UInt8) => Value.int .u8 (b.toNat : Int)) w g 0 (Array.replicate n (0 : UInt8)) := fun j hj => by
  have hj' : j < n := by simpa using hj
  refine ⟨?_, ?_⟩
  · rw [Nat.zero_add, hk.cell j, getElem!_pos _ j hj]
    unfold zrs32
    rw [Array.getElem?_replicate, if_pos (by omega)]
    simp
  · exact hk.frozen _
theorem lenD_gt (d : Nat) : d < 10 ^ lenD d := by
  induction d using Nat.strongRecOn with
  | _ d ih =>
    by_cases h : d < 10
    · rw [lenD_small h]; simpa using h
    · have := ih (d / 10) (by omega)
      rw [lenD_big (by omega), Nat.pow_succ]
      omega
/-- What holds at k digits: noughts stand behind them. -/
structure CutK (d k : Nat) : Prop where
  ex : ∃ u, 0 < u ∧ k = lenD u ∧ stripD u = stripD d ∧ Lib.decDigits d = Lib.decDigits u ++ List.replicate (lenD d - k) 48
theorem CutK.start {d : Nat} (h : 0 < d) : CutK d (lenD d) := ⟨⟨d, h, rfl, rfl, by simp⟩⟩
theorem dec_last {u : Nat} (h : 0 < u) : (Lib.decDigits u)[lenD u - 1]? = some (UInt8.ofNat (48 + u % 10)) := by
  by_cases hb : 10 ≤ u
  · have e := ddg_big hb
    have hl := lenD_big hb
    rw [e, hl, Nat.add_sub_cancel]
    unfold lenD
    rw [List.getElem?_append_right (Nat.le_refl _), Nat.sub_self]
    rfl
  · rw [ddg_small (by omega), lenD_small (by omega), Nat.mod_eq_of_lt (by omega)]
    rfl
theorem CutK.byte {d k : Nat} (h : CutK d k) : 1 ≤ k ∧ k ≤ lenD d ∧ ∃ x : Nat, x < 10 ∧ (Lib.decDigits d)[k - 1]? = some (UInt8.ofNat (48 + x)) ∧ (x = 0 → CutK d (k - 1) ∧ 2 ≤ k) ∧ (x ≠ 0 → k = lenD (stripD d) ∧ Lib.decDigits d = Lib.decDigits (stripD d) ++ List.replicate (lenD d - k) 48) := by
  obtain ⟨u, u0, rfl, hs, he⟩ := h.ex
  have hp := lenD_pos u
  have hle : lenD u ≤ lenD d := by
    have := congrArg List.length he
    rw [List.length_append] at this
    unfold lenD at *
    omega
  refine ⟨hp, hle, u % 10, Nat.mod_lt _ (by decide), ?_, fun hx => ?_, fun hx => ?_⟩
  · rw [he, List.getElem?_append_left (by unfold lenD at *; omega)]
    exact dec_last u0
  · have hb : 10 ≤ u := by omega
    have e := ddg_big hb
    have hl := lenD_big hb
    rw [hx] at e
    refine ⟨⟨⟨u / 10, by omega, by omega, ?_, ?_⟩⟩, ?_⟩
    · rw [← hs, stripD_go u0 hx]
    · rw [he, e, List.append_assoc]
      congr 1
      rw [show lenD d - (lenD u - 1) = (lenD d - lenD u) + 1 from by omega, List.replicate_succ]
      rfl
    · have := lenD_pos (u / 10); omega
  · have e : stripD u = u := stripD_stop hx
    rw [e] at hs
    rw [← hs]
    exact ⟨rfl, he⟩
set_option maxRecDepth 100000 in
set_option maxHeartbeats 400000 in
theorem c_setDI (g d : Nat) (p : Int) (h1 : 1 ≤ d) (h2 : d < 18446744073709551616) (hp : -2000 ≤ p) (hp2 : p ≤ 2000) (w : World) (hk : Blk w g 217 zrs32) :
    Calls Tryz.prog 219 #[.slice (some ⟨g, 0, none⟩) 32 32, .int .u64 (d : Int), .int .i64 p, .int .i64 ((lenD d : Nat) : Int)] w fun e w' =>
      e = .returned (.tuple #[.int .i64 ((lenD d : Nat) + p), .int .i64 ((lenD (stripD d) : Nat) : Int)]) ∧ (∀ j x, (Lib.decDigits (stripD d))[j]? = some x → w'.cell? ⟨g, j, none⟩ = some (.int .u8 (x.toNat : Int))) ∧ Below g w w' := by
  have hnd := lenD_20 h2
  have hn1 := lenD_pos d
  have hH0 := holdsN (lenD d) (by omega) w g _ hk
  have hfmt := Any.internal_strconv_formatBase10 lays285 g 0 32 d (Array.replicate (lenD d) 0) w hH0 (by rw [Array.size_replicate]; exact lenD_gt d) h2 (by rw [Array.size_replicate]; omega)
  rw [Array.size_replicate] at hfmt
  have HF : Hid (Calls Tryz.prog 132 #[.slice (some ⟨g, 0, none⟩) (lenD d) 32, .int .u64 (d : Int)] w fun e w' => e = .returned (.tuple #[]) ∧ Hid (Below g w w' ∧ ∀ j x, (Lib.decDigits d)[j]? = some x → w'.cell? ⟨g, j, none⟩ = some (.int .u8 (x.toNat : Int)))) := by
    refine hfmt.mono ?_
    rintro e w' ⟨rfl, k, v', dk, rfl, hF⟩
    refine ⟨rfl, below_row w g dk k, fun j x hx => ?_⟩
    have hF' : Lib.FmtInv (Lib.nDigits d) d 0 v' dk := by rw [← Lib.decDigits_length]; exact hF
    have hj : j < (Lib.decDigits d).length := (List.getElem?_eq_some_iff.1 hx).1
    obtain rfl : (Lib.decDigits d)[j] = x := (List.getElem?_eq_some_iff.1 hx).2
    rw [Lib.row_is_numeral hF' j hj, World.cell?_drewN]
    have := cell?_putRow (fun (b : UInt8) => Value.int .u8 (b.toNat : Int)) w g 0 _ dk hH0 (by rw [hF.size, Array.size_replicate]) j (by rw [hF.size]; exact hj)
    rw [Nat.zero_add] at this
    exact this
  have hle : ((lenD d : Nat) : Int) ≤ 32 := by omega
  have hwp : IntKind.i64.wrap (((lenD d : Nat) : Int) + p) = ((lenD d : Nat) : Int) + p := IntWalk.i64_in _ (by omega)
  have HC := Lib.hid (CutK.start (d := d) (by omega))
  have HCK : Hid (∀ k, CutK d k → 1 ≤ k ∧ k ≤ lenD d ∧ ∃ x : Nat, x < 10 ∧ (Lib.decDigits d)[k - 1]? = some (UInt8.ofNat (48 + x)) ∧ (x = 0 → CutK d (k - 1) ∧ 2 ≤ k) ∧ (x ≠ 0 → k = lenD (stripD d) ∧ Lib.decDigits d = Lib.decDigits (stripD d) ++ List.replicate (lenD d - k) 48)) := fun k h => h.byte
  clear hH0 hfmt hk
  have h1d := Lib.hid h1
  have h2d := Lib.hid h2
  clear h1 h2
  generalize lenD d = n at *
  go_enter Tryz.func219, Tryz.ntmps219
  go_wp2_with fail
  refine HF.out.mono ?_; rintro e w1 ⟨rfl, h1⟩
  have HB := Lib.hid h1.out.1
  have HK := Lib.hid h1.out.2
  clear h1 HF
  go_wp2_with fail
  go_loopw [3] (fun v wr => ∃ k : Nat, v = .int .i64 (k : Int) ∧ Hid (CutK d k) ∧ 1 ≤ k ∧ k ≤ 20 ∧ wr = w1) (fun v _ => (intOf v).toNat)
  case atStart => exact ⟨n, rfl, HC, hn1, hnd, rfl⟩
  case round =>
    obtain ⟨k, rfl, hk0, hk1, hk2, rfl⟩ := hrel
    obtain ⟨_, _, x, hx, hb, hz, hnz⟩ := HCK.out k hk0.out
    obtain ⟨j, rfl⟩ : ∃ j, k = j + 1 := ⟨k - 1, by omega⟩
    have kj := HK.out j _ hb
    have e1 : (0 : Int) < ((j + 1 : Nat) : Int) := by omega
    have hxb : ((UInt8.ofNat (48 + x)).toNat : Int) = 48 + (x : Int) := by
      rw [UInt8.toNat_ofNat']; omega
    rw [hxb] at kj
    by_cases h1 : x = 0
    · have HZ := Lib.hid (hz h1)
      subst h1
      clear hz hnz hb hxb
      go_wp2_with fail
      go_roundw
      case rel => exact ⟨j, by go_num, Lib.hid HZ.out.1, by have := HZ.out.2; omega, by omega, (by first | trivial | rfl)⟩
      case measure => first | (simp [intOf]; done) | (simp [intOf]; omega)
    · have HZ := Lib.hid (hnz h1)
      have t1 : ((48 : Int) + (x : Int) == 48) = false := by simp; omega
      clear hz hnz hb hxb
      go_wp2_with fail
      go_ret2
      refine ⟨?_, fun i y hy => HK.out i y ?_, HB.out⟩
      · rw [← HZ.out.1]; rfl
      · rw [HZ.out.2]
        rw [List.getElem?_append_left (List.getElem?_eq_some_iff.1 hy).1]
        exact hy
end Go.Proofs.YtigbbogfnchgnaaGreatDoor
namespace Go.Proofs.YtigbbogfnchgnaaGreatDoor
set_option linter.unusedVariables false

theorem dig_range (d : Nat) : ∀ b ∈ Lib.decDigits d, 48 ≤ b.toNat ∧ b.toNat ≤ 57 := by
  induction d using Nat.strongRecOn with
  | _ d ih =>
    intro b hb
    by_cases h : d < 10
    · rw [Lib.decDigits_one h, List.mem_singleton] at hb
      subst hb
      rw [UInt8.toNat_ofNat']; omega
    · rw [Lib.decDigits, dif_neg h, List.mem_append, List.mem_singleton] at hb
      rcases hb with hb | hb
      · exact ih _ (by omega) b hb
      · subst hb
        rw [UInt8.toNat_ofNat']; omega
theorem dig_ne (d : Nat) (c : UInt8) (hc : c.toNat < 48 ∨ 57 < c.toNat) : ∀ b ∈ Lib.decDigits d, b ≠ c := fun b hb e => by
  have := dig_range d b hb
  subst e
  omega
theorem idx_skip (c : UInt8) (r : List UInt8) : ∀ a : List UInt8, (∀ b ∈ a, b ≠ c) → Lib.indexByte (a ++ c :: r) c = (a.length : Int)
  | [], _ => by simp [Lib.indexByte]
  | b :: a, h => by
    have ih := idx_skip c r a (fun x hx => h x (List.mem_cons_of_mem _ hx))
    have hb : (b == c) = false := beq_eq_false_iff_ne.2 (h b (List.mem_cons_self ..))
    rw [List.cons_append, Lib.indexByte, hb, ih]
    simp
/-- Digits, a point behind the first. -/
def ptT (d : Nat) : List UInt8 := if lenD d = 1 then Lib.decDigits d else (Lib.decDigits d).take 1 ++ 46 :: (Lib.decDigits d).drop 1
/-- An exponent: its sign, two digits at least. -/
def expT (x : Int) : List UInt8 := (if x < 0 then 45 else 43) :: (if x.natAbs < 10 then 48 :: Lib.decDigits x.natAbs else Lib.decDigits x.natAbs)
def eTxt (d : Nat) (x : Int) : List UInt8 := ptT d ++ 101 :: expT x
theorem ptT_one {d : Nat} (h : lenD d = 1) : ptT d = Lib.decDigits d := by unfold ptT; rw [if_pos h]
theorem ptT_more {d : Nat} (h : ¬ lenD d = 1) : ptT d = (Lib.decDigits d).take 1 ++ 46 :: (Lib.decDigits d).drop 1 := by unfold ptT; rw [if_neg h]
theorem ptT_len {d : Nat} : (ptT d).length = if lenD d = 1 then 1 else lenD d + 1 := by
  have hp := lenD_pos d
  by_cases h : lenD d = 1
  · rw [ptT_one h, if_pos h]; exact h
  · rw [ptT_more h, if_neg h]
    unfold lenD at *
    simp only [List.length_append, List.length_take, List.length_cons, List.length_drop]
    omega
theorem eTxt_idx (d : Nat) (x : Int) : Lib.indexByte (eTxt d x) 101 = ((ptT d).length : Int) := by
  unfold eTxt
  refine idx_skip 101 _ _ fun b hb => ?_
  have hd := dig_ne d 101 (.inr (by decide))
  by_cases h : lenD d = 1
  · rw [ptT_one h] at hb
    exact hd b hb
  · rw [ptT_more h, List.mem_append, List.mem_cons] at hb
    rcases hb with hb | hb | hb
    · exact hd b (List.mem_of_mem_take hb)
    · subst hb; decide
    · exact hd b (List.mem_of_mem_drop hb)
theorem ptT_cnt0 {d : Nat} (h : lenD d = 1) : Lib.countByte (ptT d) 46 = 0 := by
  rw [ptT_one h]
  exact List.count_eq_zero.2 fun hm => dig_ne d 46 (.inl (by decide)) 46 hm rfl
theorem ptT_cnt1 {d : Nat} (h : ¬ lenD d = 1) : Lib.countByte (ptT d) 46 = 1 := by
  have hd := dig_ne d 46 (.inl (by decide))
  rw [ptT_more h]
  unfold Lib.countByte
  rw [List.count_append, List.count_cons_self, List.count_eq_zero.2 (fun hm => hd 46 (List.mem_of_mem_take hm) rfl), List.count_eq_zero.2 (fun hm => hd 46 (List.mem_of_mem_drop hm) rfl)]
theorem ptT_idx {d : Nat} (h : ¬ lenD d = 1) : Lib.indexByte (ptT d) 46 = 1 := by
  have hp := lenD_pos d
  have hd := dig_ne d 46 (.inl (by decide))
  rw [ptT_more h, idx_skip 46 _ _ (fun b hb => hd b (List.mem_of_mem_take hb)), List.length_take]
  unfold lenD at *
  omega
theorem ptT_cut {d : Nat} (h : ¬ lenD d = 1) : (ptT d).take 1 ++ (ptT d).drop 2 = Lib.decDigits d := by
  have hp := lenD_pos d
  have hl : ((Lib.decDigits d).take 1).length = 1 := by rw [List.length_take]; unfold lenD at *; omega
  rw [ptT_more h, List.take_append_of_le_length (by omega), List.drop_append, hl, List.take_take, List.drop_eq_nil_of_le (by omega)]
  show List.take (min 1 1) (Lib.decDigits d) ++ ([] ++ (Lib.decDigits d).drop 1) = _
  rw [List.nil_append]
  exact List.take_append_drop 1 _
def atoiOk (k : Nat) : Bool := Lib.atoi (expT ((k : Int) - 400)) == some ((k : Int) - 400) && decide ((expT ((k : Int) - 400)).length ≤ 5)
theorem atoi_all : (List.range 801).all atoiOk = true := by decide +kernel
theorem expT_atoi {x : Int} (h1 : -400 ≤ x) (h2 : x ≤ 400) : Lib.atoi (expT x) = some x ∧ (expT x).length ≤ 5 := by
  have := List.all_eq_true.1 atoi_all (x + 400).toNat (List.mem_range.2 (by omega))
  unfold atoiOk at this
  rw [show (((x + 400).toNat : Nat) : Int) - 400 = x from by omega, Bool.and_eq_true, beq_iff_eq, decide_eq_true_eq] at this
  exact this
theorem repeat48 (c : Nat) : Lib.repeatL [48] c = List.replicate c 48 := by
  induction c with
  | zero => rfl
  | succ c ih => rw [Lib.repeatL, ih, List.replicate_succ]; rfl
/-- The document's text, way by way. -/
theorem numT_e {d : Nat} {x : Int} (h : x < -7 ∨ 20 < x) : numT d x = ptT d ++ 101 :: Lib.itoa x := by
  unfold numT ptT Lib.itoa lenD
  simp only [if_pos h]
  congr 2
  by_cases hx : x < 0
  · rw [if_pos hx, if_pos hx]; rfl
  · rw [if_neg hx, if_neg hx, show x.natAbs = x.toNat from by omega]; rfl
theorem numT_small {d : Nat} {x : Int} (h : ¬ (x < -7 ∨ 20 < x)) (h2 : x < 0) : numT d x = 48 :: 46 :: (List.replicate (-x - 1).toNat 48 ++ Lib.decDigits d) := by
  unfold numT
  simp only [if_neg h, if_pos h2]
theorem numT_whole {d : Nat} {x : Int} (h : ¬ (x < -7 ∨ 20 < x)) (h2 : ¬ x < 0) (h3 : (lenD d : Int) ≤ x + 1) : numT d x = Lib.decDigits d ++ List.replicate (x + 1 - lenD d).toNat 48 := by
  unfold numT lenD at *
  simp only [if_neg h, if_neg h2, if_pos h3]
theorem numT_point {d : Nat} {x : Int} (h : ¬ (x < -7 ∨ 20 < x)) (h2 : ¬ x < 0) (h3 : ¬ (lenD d : Int) ≤ x + 1) : numT d x = (Lib.decDigits d).take (x + 1).toNat ++ 46 :: (Lib.decDigits d).drop (x + 1).toNat := by
  unfold numT lenD at *
  simp only [if_neg h, if_neg h2, if_neg h3]
end Go.Proofs.YtigbbogfnchgnaaGreatDoor
namespace Go.Proofs.YtigbbogfnchgnaaGreatDoor
open Go.RowKit
set_option linter.unusedVariables false
attribute [local go_sem ↓] Go.wp_at_zero Go.wp_at_succ

/-- Digits that lie in a block. -/
def DgC (w : World) (g : Nat) (ds : List UInt8) : Prop := g < w.heap.size ∧ ∀ j y, ds[j]? = some y → w.cell? ⟨g, j, none⟩ = some (.int .u8 (y.toNat : Int))
/-- A text being made: its row is the call's own, and not the digits' block; the digits read; k more bytes have room. -/
structure EB (W w : World) (g : Nat) (ds : List UInt8) (A : Option Addr) (c : Nat) (l : List UInt8) (k : Nat) : Prop where
  own : w.ownsRow W.heap.size 5 1 (.slice A l.length c) l.length (bys l)
  bel : Below W.heap.size W w
  dig : DgC w g ds
  ne : (Value.slice A l.length c).ownBlock ≠ some g
  sh : l.length + k ≤ 90
section
variable {W w w2 : World} {g c k k' : Nat} {ds l : List UInt8} {A : Option Addr} {v : Value}
theorem EB.alloc (h : EB W w g ds A c l k) (o : Obj) : EB W (w.alloc o) g ds A c l k :=
  ⟨h.own.alloc _, h.bel.alloc h.bel.size _, ⟨Nat.lt_of_lt_of_le h.dig.1 ((Below.refl w.heap.size w).alloc (Nat.le_refl _) o).size, fun j y hy => by rw [World.cell?_alloc_lt w o ⟨g, j, none⟩ h.dig.1]; exact h.dig.2 j y hy⟩, h.ne, h.sh⟩
theorem EB.app (h : EB W w g ds A c l k) (m : List UInt8) (hm : m.length + k' ≤ k) (hown : w2.ownsRow W.heap.size 5 1 v (l.length + m.length) (bys l ++ bys m)) (hg : w.grownBy w2 (Value.slice A l.length c).ownBlock)
    (hor : v.ownBlock = (Value.slice A l.length c).ownBlock ∨ v.ownBlock = some w.heap.size) : ∃ A' c' l', l' = l ++ m ∧ v = .slice A' l'.length c' ∧ EB W w2 g ds A' c' l' k' := by
  obtain ⟨A', c', rfl, ho⟩ := ownB_app (m := m) h.bel h.own hown hg
  have hgs : g < w2.heap.size := Nat.lt_of_lt_of_le h.dig.1 hg.size
  refine ⟨A', c', l ++ m, rfl, rfl, ho.1, ho.2, ⟨hgs, fun j y hy => ?_⟩, ?_, ?_⟩
  · rw [← h.dig.2 j y hy]
    exact World.cell?_of_block (hg.block g h.dig.1 (fun e => h.ne e.symm))
  · rcases hor with e | e
    · rw [e]; exact h.ne
    · rw [e]
      intro e2
      have := h.dig.1
      injection e2 with e2
      omega
  · have := h.sh
    rw [List.length_append]
    omega
theorem EB.room (h : EB W w g ds A c l k) (n : Nat) (hn : n ≤ k) : l.length + n ≤ maxLen ∧ (l.length + n) * 1 ≤ 140737488355328 := by
  have := h.sh
  unfold maxLen
  omega
theorem EB.tail (h : EB W w g ds A c l k) {n : Nat} (hn : ds.length = n + 1) : Reads w w.heap.size 1 (some ⟨g, 1, none⟩) n (bys (ds.drop 1)) :=
  ⟨by simp [bys, hn], fun _ => ⟨_, rfl, h.dig.1, fun j u hu => by
    have hj : (ds.drop 1)[j]?.map (fun (x : UInt8) => Value.int .u8 (x.toNat : Int)) = some u := by simpa [bys] using hu
    obtain ⟨y, hy, rfl⟩ := Option.map_eq_some_iff.1 hj
    rw [List.getElem?_drop] at hy
    have := h.dig.2 (1 + j) y hy
    rcases j with _ | j
    · simpa [Addr.add] using this
    · simpa [Addr.add] using this⟩⟩
theorem EB.fin (h : EB W w g ds A c l k) : OwnU W w A c l := ⟨h.own, h.bel⟩
end
theorem reads_lit3 (w : World) (x y z : Int) : Reads (w.alloc (.cells #[.int .u8 x, .int .u8 y, .int .u8 z] 5)) (w.alloc (.cells #[.int .u8 x, .int .u8 y, .int .u8 z] 5)).heap.size 1 (some ⟨w.heap.size, 0, none⟩) 3 [.int .u8 x, .int .u8 y, .int .u8 z] :=
  Reads.of_own (World.ownsRow_lit (e := 5) (size := 1) (base := 0) w #[.int .u8 x, .int .u8 y, .int .u8 z] 3 (Nat.zero_le _) (by decide) rfl)
theorem oneC (l : List UInt8) : ∀ u ∈ bys l, u.oneCell' = true := fun u hu => by
  obtain ⟨x, _, rfl⟩ := List.mem_map.1 hu
  rfl
set_option maxRecDepth 100000 in
set_option maxHeartbeats 1000000 in
theorem fm_op1 (W w : World) (A : Option Addr) (c g E : Nat) (ds : List UInt8) (y0 b1 b2 b3 : UInt8) (dp x : Int) (HO0 : Hid (EB W w g ds A c [] 90)) (k0 : w.cell? ⟨g, 0, none⟩ = some (.int .u8 (y0.toNat : Int))) (hdp : IntKind.i64.wrap (dp - 1) = x)
    (hx0 : x = (E : Int)) (hx1 : ¬ (E : Int) < 0)
    (r1 : E < 10) (e1 : IntKind.u8.wrap (E : Int) = (E : Int)) (e2 : IntKind.u8.wrap ((E : Int) + 48) = (b1.toNat : Int)) :
    Calls Tryz.prog 217 #[.slice A 0 c, .bool false, .slice (some ⟨g, 0, none⟩) 32 32, .int .i64 dp, .int .i64 1, .int .i64 0, .int .u8 101, .bool true] w fun e w' => ∃ A' c' l', e = .returned (.slice A' l'.length c') ∧ l' = y0 :: (101 :: 43 :: [48, b1]) ∧ OwnU W w' A' c' l' := by
  obtain ⟨i0, hi0, hz0, hz1, hz2⟩ := info_parts u8_infoV
  subst hx0
  go_enter Tryz.func217, Tryz.ntmps217
  go_wp2_with (first
    | (at_builtin; have HA1 := Lib.hid (HO0.out.alloc (.cells #[.int .u8 (y0.toNat : Int)] 5)); have HR1 := Lib.hid (reads_lit1 w (y0.toNat : Int)); refine wpList_append_any _ rfl (.tmp 87) (.tmp 89) 36 rfl W.heap.size 5 i0 _ 1 1 Tryz.underlying36 hi0 hz0 hz1 hz2 rfl (by omega) (.slice A ([] : List UInt8).length c) ([] : List UInt8).length (bys ([] : List UInt8)) rfl HA1.out.own _ (some ⟨w.heap.size, 0, none⟩) 1 1 [.int .u8 (y0.toNat : Int)] rfl HR1.out (by simp [Value.oneCell']) (HA1.out.room 1 (by decide)).1 (HA1.out.room 1 (by decide)).2 HA1.out.bel.size ?_; intro v2 w1 hown2 hg2 hor2; obtain ⟨A1, c1, l1, hl1, rfl, ho2⟩ := HA1.out.app [y0] (k' := 89) (Nat.le_refl _) hown2 hg2 hor2; have HL1 := Lib.hid hl1; have HO1 := Lib.hid ho2; clear ho2 hl1 hown2 hg2 hor2 HA1 HR1)
    | (at_builtin; have HA2 := Lib.hid (HO1.out.alloc (.cells #[.int .u8 101] 5)); have HR2 := Lib.hid (reads_lit1 w1 101); refine wpList_append_any _ rfl (.tmp 120) (.tmp 122) 36 rfl W.heap.size 5 i0 _ 1 1 Tryz.underlying36 hi0 hz0 hz1 hz2 rfl (by omega) (.slice A1 l1.length c1) l1.length (bys l1) rfl HA2.out.own _ (some ⟨w1.heap.size, 0, none⟩) 1 1 [.int .u8 101] rfl HR2.out (by simp [Value.oneCell']) (HA2.out.room 1 (by decide)).1 (HA2.out.room 1 (by decide)).2 HA2.out.bel.size ?_; intro v2 w2 hown2 hg2 hor2; obtain ⟨A2, c2, l2, hl2, rfl, ho2⟩ := HA2.out.app [101] (k' := 88) (Nat.le_refl _) hown2 hg2 hor2; have HL2 := Lib.hid hl2; have HO2 := Lib.hid ho2; clear ho2 hl2 hown2 hg2 hor2 HA2 HR2)
    | (at_builtin; have HA3 := Lib.hid (HO2.out.alloc (.cells #[.int .u8 43] 5)); have HR3 := Lib.hid (reads_lit1 w2 43); refine wpList_append_any _ rfl (.tmp 132) (.tmp 134) 36 rfl W.heap.size 5 i0 _ 1 1 Tryz.underlying36 hi0 hz0 hz1 hz2 rfl (by omega) (.slice A2 l2.length c2) l2.length (bys l2) rfl HA3.out.own _ (some ⟨w2.heap.size, 0, none⟩) 1 1 [.int .u8 43] rfl HR3.out (by simp [Value.oneCell']) (HA3.out.room 1 (by decide)).1 (HA3.out.room 1 (by decide)).2 HA3.out.bel.size ?_; intro v2 w3 hown2 hg2 hor2; obtain ⟨A3, c3, l3, hl3, rfl, ho2⟩ := HA3.out.app [43] (k' := 87) (Nat.le_refl _) hown2 hg2 hor2; have HL3 := Lib.hid hl3; have HO3 := Lib.hid ho2; clear ho2 hl3 hown2 hg2 hor2 HA3 HR3)
    | (at_builtin; have HA4 := Lib.hid (HO3.out.alloc (.cells #[.int .u8 48, .int .u8 (b1.toNat : Int)] 5)); have HR4 := Lib.hid (reads_lit2 w3 48 (b1.toNat : Int)); refine wpList_append_any _ rfl (.tmp 155) (.tmp 159) 36 rfl W.heap.size 5 i0 _ 1 1 Tryz.underlying36 hi0 hz0 hz1 hz2 rfl (by omega) (.slice A3 l3.length c3) l3.length (bys l3) rfl HA4.out.own _ (some ⟨w3.heap.size, 0, none⟩) 2 2 [.int .u8 48, .int .u8 (b1.toNat : Int)] rfl HR4.out (by simp [Value.oneCell']) (HA4.out.room 2 (by decide)).1 (HA4.out.room 2 (by decide)).2 HA4.out.bel.size ?_; intro v2 w4 hown2 hg2 hor2; obtain ⟨A4, c4, l4, hl4, rfl, ho2⟩ := HA4.out.app [48, b1] (k' := 85) (Nat.le_refl _) hown2 hg2 hor2; have HL4 := Lib.hid hl4; have HO4 := Lib.hid ho2; clear ho2 hl4 hown2 hg2 hor2 HA4 HR4))
  go_ret
  exact ⟨_, _, _, rfl, by rw [HL4.out, HL3.out, HL2.out, HL1.out]; simp, HO4.out.fin⟩
set_option maxRecDepth 100000 in
set_option maxHeartbeats 1000000 in
theorem fm_op2 (W w : World) (A : Option Addr) (c g E : Nat) (ds : List UInt8) (y0 b1 b2 b3 : UInt8) (dp x : Int) (HO0 : Hid (EB W w g ds A c [] 90)) (k0 : w.cell? ⟨g, 0, none⟩ = some (.int .u8 (y0.toNat : Int))) (hdp : IntKind.i64.wrap (dp - 1) = x)
    (hx0 : x = (E : Int)) (hx1 : ¬ (E : Int) < 0)
    (r1 : ¬ E < 10) (r2 : E < 100) (q10 m10 : Nat) (d1 : (E : Int) / 10 = (q10 : Int)) (d2 : (E : Int) % 10 = (m10 : Int)) (d3 : IntKind.i64.wrap (q10 : Int) = (q10 : Int)) (e1 : IntKind.u8.wrap (q10 : Int) = (q10 : Int)) (e2 : IntKind.u8.wrap (m10 : Int) = (m10 : Int)) (e3 : IntKind.u8.wrap ((q10 : Int) + 48) = (b2.toNat : Int)) (e4 : IntKind.u8.wrap ((m10 : Int) + 48) = (b1.toNat : Int)) :
    Calls Tryz.prog 217 #[.slice A 0 c, .bool false, .slice (some ⟨g, 0, none⟩) 32 32, .int .i64 dp, .int .i64 1, .int .i64 0, .int .u8 101, .bool true] w fun e w' => ∃ A' c' l', e = .returned (.slice A' l'.length c') ∧ l' = y0 :: (101 :: 43 :: [b2, b1]) ∧ OwnU W w' A' c' l' := by
  obtain ⟨i0, hi0, hz0, hz1, hz2⟩ := info_parts u8_infoV
  subst hx0
  go_enter Tryz.func217, Tryz.ntmps217
  go_wp2_with (first
    | (at_builtin; have HA1 := Lib.hid (HO0.out.alloc (.cells #[.int .u8 (y0.toNat : Int)] 5)); have HR1 := Lib.hid (reads_lit1 w (y0.toNat : Int)); refine wpList_append_any _ rfl (.tmp 87) (.tmp 89) 36 rfl W.heap.size 5 i0 _ 1 1 Tryz.underlying36 hi0 hz0 hz1 hz2 rfl (by omega) (.slice A ([] : List UInt8).length c) ([] : List UInt8).length (bys ([] : List UInt8)) rfl HA1.out.own _ (some ⟨w.heap.size, 0, none⟩) 1 1 [.int .u8 (y0.toNat : Int)] rfl HR1.out (by simp [Value.oneCell']) (HA1.out.room 1 (by decide)).1 (HA1.out.room 1 (by decide)).2 HA1.out.bel.size ?_; intro v2 w1 hown2 hg2 hor2; obtain ⟨A1, c1, l1, hl1, rfl, ho2⟩ := HA1.out.app [y0] (k' := 89) (Nat.le_refl _) hown2 hg2 hor2; have HL1 := Lib.hid hl1; have HO1 := Lib.hid ho2; clear ho2 hl1 hown2 hg2 hor2 HA1 HR1)
    | (at_builtin; have HA2 := Lib.hid (HO1.out.alloc (.cells #[.int .u8 101] 5)); have HR2 := Lib.hid (reads_lit1 w1 101); refine wpList_append_any _ rfl (.tmp 120) (.tmp 122) 36 rfl W.heap.size 5 i0 _ 1 1 Tryz.underlying36 hi0 hz0 hz1 hz2 rfl (by omega) (.slice A1 l1.length c1) l1.length (bys l1) rfl HA2.out.own _ (some ⟨w1.heap.size, 0, none⟩) 1 1 [.int .u8 101] rfl HR2.out (by simp [Value.oneCell']) (HA2.out.room 1 (by decide)).1 (HA2.out.room 1 (by decide)).2 HA2.out.bel.size ?_; intro v2 w2 hown2 hg2 hor2; obtain ⟨A2, c2, l2, hl2, rfl, ho2⟩ := HA2.out.app [101] (k' := 88) (Nat.le_refl _) hown2 hg2 hor2; have HL2 := Lib.hid hl2; have HO2 := Lib.hid ho2; clear ho2 hl2 hown2 hg2 hor2 HA2 HR2)
    | (at_builtin; have HA3 := Lib.hid (HO2.out.alloc (.cells #[.int .u8 43] 5)); have HR3 := Lib.hid (reads_lit1 w2 43); refine wpList_append_any _ rfl (.tmp 132) (.tmp 134) 36 rfl W.heap.size 5 i0 _ 1 1 Tryz.underlying36 hi0 hz0 hz1 hz2 rfl (by omega) (.slice A2 l2.length c2) l2.length (bys l2) rfl HA3.out.own _ (some ⟨w2.heap.size, 0, none⟩) 1 1 [.int .u8 43] rfl HR3.out (by simp [Value.oneCell']) (HA3.out.room 1 (by decide)).1 (HA3.out.room 1 (by decide)).2 HA3.out.bel.size ?_; intro v2 w3 hown2 hg2 hor2; obtain ⟨A3, c3, l3, hl3, rfl, ho2⟩ := HA3.out.app [43] (k' := 87) (Nat.le_refl _) hown2 hg2 hor2; have HL3 := Lib.hid hl3; have HO3 := Lib.hid ho2; clear ho2 hl3 hown2 hg2 hor2 HA3 HR3)
    | (at_builtin; have HA4 := Lib.hid (HO3.out.alloc (.cells #[.int .u8 (b2.toNat : Int), .int .u8 (b1.toNat : Int)] 5)); have HR4 := Lib.hid (reads_lit2 w3 (b2.toNat : Int) (b1.toNat : Int)); refine wpList_append_any _ rfl (.tmp 164) (.tmp 173) 36 rfl W.heap.size 5 i0 _ 1 1 Tryz.underlying36 hi0 hz0 hz1 hz2 rfl (by omega) (.slice A3 l3.length c3) l3.length (bys l3) rfl HA4.out.own _ (some ⟨w3.heap.size, 0, none⟩) 2 2 [.int .u8 (b2.toNat : Int), .int .u8 (b1.toNat : Int)] rfl HR4.out (by simp [Value.oneCell']) (HA4.out.room 2 (by decide)).1 (HA4.out.room 2 (by decide)).2 HA4.out.bel.size ?_; intro v2 w4 hown2 hg2 hor2; obtain ⟨A4, c4, l4, hl4, rfl, ho2⟩ := HA4.out.app [b2, b1] (k' := 85) (Nat.le_refl _) hown2 hg2 hor2; have HL4 := Lib.hid hl4; have HO4 := Lib.hid ho2; clear ho2 hl4 hown2 hg2 hor2 HA4 HR4))
  go_ret
  exact ⟨_, _, _, rfl, by rw [HL4.out, HL3.out, HL2.out, HL1.out]; simp, HO4.out.fin⟩
set_option maxRecDepth 100000 in
set_option maxHeartbeats 1000000 in
theorem fm_op3 (W w : World) (A : Option Addr) (c g E : Nat) (ds : List UInt8) (y0 b1 b2 b3 : UInt8) (dp x : Int) (HO0 : Hid (EB W w g ds A c [] 90)) (k0 : w.cell? ⟨g, 0, none⟩ = some (.int .u8 (y0.toNat : Int))) (hdp : IntKind.i64.wrap (dp - 1) = x)
    (hx0 : x = (E : Int)) (hx1 : ¬ (E : Int) < 0)
    (r1 : ¬ E < 10) (r2 : ¬ E < 100) (q100 q10 m10 mm : Nat) (d0 : (E : Int) / 100 = (q100 : Int)) (d1 : (E : Int) / 10 = (q10 : Int)) (d2 : (E : Int) % 10 = (m10 : Int)) (d3 : IntKind.i64.wrap (q10 : Int) = (q10 : Int)) (d4 : IntKind.i64.wrap (q100 : Int) = (q100 : Int)) (e0 : IntKind.u8.wrap (q100 : Int) = (q100 : Int)) (e1 : IntKind.u8.wrap (q10 : Int) = (q10 : Int)) (e2 : IntKind.u8.wrap (m10 : Int) = (m10 : Int)) (d5 : (q10 : Int) % 10 = (mm : Int)) (e5 : IntKind.u8.wrap ((q100 : Int) + 48) = (b3.toNat : Int)) (e3 : IntKind.u8.wrap ((mm : Int) + 48) = (b2.toNat : Int)) (e4 : IntKind.u8.wrap ((m10 : Int) + 48) = (b1.toNat : Int)) :
    Calls Tryz.prog 217 #[.slice A 0 c, .bool false, .slice (some ⟨g, 0, none⟩) 32 32, .int .i64 dp, .int .i64 1, .int .i64 0, .int .u8 101, .bool true] w fun e w' => ∃ A' c' l', e = .returned (.slice A' l'.length c') ∧ l' = y0 :: (101 :: 43 :: [b3, b2, b1]) ∧ OwnU W w' A' c' l' := by
  obtain ⟨i0, hi0, hz0, hz1, hz2⟩ := info_parts u8_infoV
  subst hx0
  go_enter Tryz.func217, Tryz.ntmps217
  go_wp2_with (first
    | (at_builtin; have HA1 := Lib.hid (HO0.out.alloc (.cells #[.int .u8 (y0.toNat : Int)] 5)); have HR1 := Lib.hid (reads_lit1 w (y0.toNat : Int)); refine wpList_append_any _ rfl (.tmp 87) (.tmp 89) 36 rfl W.heap.size 5 i0 _ 1 1 Tryz.underlying36 hi0 hz0 hz1 hz2 rfl (by omega) (.slice A ([] : List UInt8).length c) ([] : List UInt8).length (bys ([] : List UInt8)) rfl HA1.out.own _ (some ⟨w.heap.size, 0, none⟩) 1 1 [.int .u8 (y0.toNat : Int)] rfl HR1.out (by simp [Value.oneCell']) (HA1.out.room 1 (by decide)).1 (HA1.out.room 1 (by decide)).2 HA1.out.bel.size ?_; intro v2 w1 hown2 hg2 hor2; obtain ⟨A1, c1, l1, hl1, rfl, ho2⟩ := HA1.out.app [y0] (k' := 89) (Nat.le_refl _) hown2 hg2 hor2; have HL1 := Lib.hid hl1; have HO1 := Lib.hid ho2; clear ho2 hl1 hown2 hg2 hor2 HA1 HR1)
    | (at_builtin; have HA2 := Lib.hid (HO1.out.alloc (.cells #[.int .u8 101] 5)); have HR2 := Lib.hid (reads_lit1 w1 101); refine wpList_append_any _ rfl (.tmp 120) (.tmp 122) 36 rfl W.heap.size 5 i0 _ 1 1 Tryz.underlying36 hi0 hz0 hz1 hz2 rfl (by omega) (.slice A1 l1.length c1) l1.length (bys l1) rfl HA2.out.own _ (some ⟨w1.heap.size, 0, none⟩) 1 1 [.int .u8 101] rfl HR2.out (by simp [Value.oneCell']) (HA2.out.room 1 (by decide)).1 (HA2.out.room 1 (by decide)).2 HA2.out.bel.size ?_; intro v2 w2 hown2 hg2 hor2; obtain ⟨A2, c2, l2, hl2, rfl, ho2⟩ := HA2.out.app [101] (k' := 88) (Nat.le_refl _) hown2 hg2 hor2; have HL2 := Lib.hid hl2; have HO2 := Lib.hid ho2; clear ho2 hl2 hown2 hg2 hor2 HA2 HR2)
    | (at_builtin; have HA3 := Lib.hid (HO2.out.alloc (.cells #[.int .u8 43] 5)); have HR3 := Lib.hid (reads_lit1 w2 43); refine wpList_append_any _ rfl (.tmp 132) (.tmp 134) 36 rfl W.heap.size 5 i0 _ 1 1 Tryz.underlying36 hi0 hz0 hz1 hz2 rfl (by omega) (.slice A2 l2.length c2) l2.length (bys l2) rfl HA3.out.own _ (some ⟨w2.heap.size, 0, none⟩) 1 1 [.int .u8 43] rfl HR3.out (by simp [Value.oneCell']) (HA3.out.room 1 (by decide)).1 (HA3.out.room 1 (by decide)).2 HA3.out.bel.size ?_; intro v2 w3 hown2 hg2 hor2; obtain ⟨A3, c3, l3, hl3, rfl, ho2⟩ := HA3.out.app [43] (k' := 87) (Nat.le_refl _) hown2 hg2 hor2; have HL3 := Lib.hid hl3; have HO3 := Lib.hid ho2; clear ho2 hl3 hown2 hg2 hor2 HA3 HR3)
    | (at_builtin; have HA4 := Lib.hid (HO3.out.alloc (.cells #[.int .u8 (b3.toNat : Int), .int .u8 (b2.toNat : Int), .int .u8 (b1.toNat : Int)] 5)); have HR4 := Lib.hid (reads_lit3 w3 (b3.toNat : Int) (b2.toNat : Int) (b1.toNat : Int)); refine wpList_append_any _ rfl (.tmp 136) (.tmp 150) 36 rfl W.heap.size 5 i0 _ 1 1 Tryz.underlying36 hi0 hz0 hz1 hz2 rfl (by omega) (.slice A3 l3.length c3) l3.length (bys l3) rfl HA4.out.own _ (some ⟨w3.heap.size, 0, none⟩) 3 3 [.int .u8 (b3.toNat : Int), .int .u8 (b2.toNat : Int), .int .u8 (b1.toNat : Int)] rfl HR4.out (by simp [Value.oneCell']) (HA4.out.room 3 (by decide)).1 (HA4.out.room 3 (by decide)).2 HA4.out.bel.size ?_; intro v2 w4 hown2 hg2 hor2; obtain ⟨A4, c4, l4, hl4, rfl, ho2⟩ := HA4.out.app [b3, b2, b1] (k' := 84) (Nat.le_refl _) hown2 hg2 hor2; have HL4 := Lib.hid hl4; have HO4 := Lib.hid ho2; clear ho2 hl4 hown2 hg2 hor2 HA4 HR4))
  go_ret
  exact ⟨_, _, _, rfl, by rw [HL4.out, HL3.out, HL2.out, HL1.out]; simp, HO4.out.fin⟩
set_option maxRecDepth 100000 in
set_option maxHeartbeats 1000000 in
theorem fm_om1 (W w : World) (A : Option Addr) (c g E : Nat) (ds : List UInt8) (y0 b1 b2 b3 : UInt8) (dp x : Int) (HO0 : Hid (EB W w g ds A c [] 90)) (k0 : w.cell? ⟨g, 0, none⟩ = some (.int .u8 (y0.toNat : Int))) (hdp : IntKind.i64.wrap (dp - 1) = x)
    (hx0 : x < 0) (hxn : IntKind.i64.wrap (-x) = (E : Int))
    (r1 : E < 10) (e1 : IntKind.u8.wrap (E : Int) = (E : Int)) (e2 : IntKind.u8.wrap ((E : Int) + 48) = (b1.toNat : Int)) :
    Calls Tryz.prog 217 #[.slice A 0 c, .bool false, .slice (some ⟨g, 0, none⟩) 32 32, .int .i64 dp, .int .i64 1, .int .i64 0, .int .u8 101, .bool true] w fun e w' => ∃ A' c' l', e = .returned (.slice A' l'.length c') ∧ l' = y0 :: (101 :: 45 :: [48, b1]) ∧ OwnU W w' A' c' l' := by
  obtain ⟨i0, hi0, hz0, hz1, hz2⟩ := info_parts u8_infoV
  go_enter Tryz.func217, Tryz.ntmps217
  go_wp2_with (first
    | (at_builtin; have HA1 := Lib.hid (HO0.out.alloc (.cells #[.int .u8 (y0.toNat : Int)] 5)); have HR1 := Lib.hid (reads_lit1 w (y0.toNat : Int)); refine wpList_append_any _ rfl (.tmp 87) (.tmp 89) 36 rfl W.heap.size 5 i0 _ 1 1 Tryz.underlying36 hi0 hz0 hz1 hz2 rfl (by omega) (.slice A ([] : List UInt8).length c) ([] : List UInt8).length (bys ([] : List UInt8)) rfl HA1.out.own _ (some ⟨w.heap.size, 0, none⟩) 1 1 [.int .u8 (y0.toNat : Int)] rfl HR1.out (by simp [Value.oneCell']) (HA1.out.room 1 (by decide)).1 (HA1.out.room 1 (by decide)).2 HA1.out.bel.size ?_; intro v2 w1 hown2 hg2 hor2; obtain ⟨A1, c1, l1, hl1, rfl, ho2⟩ := HA1.out.app [y0] (k' := 89) (Nat.le_refl _) hown2 hg2 hor2; have HL1 := Lib.hid hl1; have HO1 := Lib.hid ho2; clear ho2 hl1 hown2 hg2 hor2 HA1 HR1)
    | (at_builtin; have HA2 := Lib.hid (HO1.out.alloc (.cells #[.int .u8 101] 5)); have HR2 := Lib.hid (reads_lit1 w1 101); refine wpList_append_any _ rfl (.tmp 120) (.tmp 122) 36 rfl W.heap.size 5 i0 _ 1 1 Tryz.underlying36 hi0 hz0 hz1 hz2 rfl (by omega) (.slice A1 l1.length c1) l1.length (bys l1) rfl HA2.out.own _ (some ⟨w1.heap.size, 0, none⟩) 1 1 [.int .u8 101] rfl HR2.out (by simp [Value.oneCell']) (HA2.out.room 1 (by decide)).1 (HA2.out.room 1 (by decide)).2 HA2.out.bel.size ?_; intro v2 w2 hown2 hg2 hor2; obtain ⟨A2, c2, l2, hl2, rfl, ho2⟩ := HA2.out.app [101] (k' := 88) (Nat.le_refl _) hown2 hg2 hor2; have HL2 := Lib.hid hl2; have HO2 := Lib.hid ho2; clear ho2 hl2 hown2 hg2 hor2 HA2 HR2)
    | (at_builtin; have HA3 := Lib.hid (HO2.out.alloc (.cells #[.int .u8 45] 5)); have HR3 := Lib.hid (reads_lit1 w2 45); refine wpList_append_any _ rfl (.tmp 132) (.tmp 134) 36 rfl W.heap.size 5 i0 _ 1 1 Tryz.underlying36 hi0 hz0 hz1 hz2 rfl (by omega) (.slice A2 l2.length c2) l2.length (bys l2) rfl HA3.out.own _ (some ⟨w2.heap.size, 0, none⟩) 1 1 [.int .u8 45] rfl HR3.out (by simp [Value.oneCell']) (HA3.out.room 1 (by decide)).1 (HA3.out.room 1 (by decide)).2 HA3.out.bel.size ?_; intro v2 w3 hown2 hg2 hor2; obtain ⟨A3, c3, l3, hl3, rfl, ho2⟩ := HA3.out.app [45] (k' := 87) (Nat.le_refl _) hown2 hg2 hor2; have HL3 := Lib.hid hl3; have HO3 := Lib.hid ho2; clear ho2 hl3 hown2 hg2 hor2 HA3 HR3)
    | (at_builtin; have HA4 := Lib.hid (HO3.out.alloc (.cells #[.int .u8 48, .int .u8 (b1.toNat : Int)] 5)); have HR4 := Lib.hid (reads_lit2 w3 48 (b1.toNat : Int)); refine wpList_append_any _ rfl (.tmp 155) (.tmp 159) 36 rfl W.heap.size 5 i0 _ 1 1 Tryz.underlying36 hi0 hz0 hz1 hz2 rfl (by omega) (.slice A3 l3.length c3) l3.length (bys l3) rfl HA4.out.own _ (some ⟨w3.heap.size, 0, none⟩) 2 2 [.int .u8 48, .int .u8 (b1.toNat : Int)] rfl HR4.out (by simp [Value.oneCell']) (HA4.out.room 2 (by decide)).1 (HA4.out.room 2 (by decide)).2 HA4.out.bel.size ?_; intro v2 w4 hown2 hg2 hor2; obtain ⟨A4, c4, l4, hl4, rfl, ho2⟩ := HA4.out.app [48, b1] (k' := 85) (Nat.le_refl _) hown2 hg2 hor2; have HL4 := Lib.hid hl4; have HO4 := Lib.hid ho2; clear ho2 hl4 hown2 hg2 hor2 HA4 HR4))
  go_ret
  exact ⟨_, _, _, rfl, by rw [HL4.out, HL3.out, HL2.out, HL1.out]; simp, HO4.out.fin⟩
set_option maxRecDepth 100000 in
set_option maxHeartbeats 1000000 in
theorem fm_om2 (W w : World) (A : Option Addr) (c g E : Nat) (ds : List UInt8) (y0 b1 b2 b3 : UInt8) (dp x : Int) (HO0 : Hid (EB W w g ds A c [] 90)) (k0 : w.cell? ⟨g, 0, none⟩ = some (.int .u8 (y0.toNat : Int))) (hdp : IntKind.i64.wrap (dp - 1) = x)
    (hx0 : x < 0) (hxn : IntKind.i64.wrap (-x) = (E : Int))
    (r1 : ¬ E < 10) (r2 : E < 100) (q10 m10 : Nat) (d1 : (E : Int) / 10 = (q10 : Int)) (d2 : (E : Int) % 10 = (m10 : Int)) (d3 : IntKind.i64.wrap (q10 : Int) = (q10 : Int)) (e1 : IntKind.u8.wrap (q10 : Int) = (q10 : Int)) (e2 : IntKind.u8.wrap (m10 : Int) = (m10 : Int)) (e3 : IntKind.u8.wrap ((q10 : Int) + 48) = (b2.toNat : Int)) (e4 : IntKind.u8.wrap ((m10 : Int) + 48) = (b1.toNat : Int)) :
    Calls Tryz.prog 217 #[.slice A 0 c, .bool false, .slice (some ⟨g, 0, none⟩) 32 32, .int .i64 dp, .int .i64 1, .int .i64 0, .int .u8 101, .bool true] w fun e w' => ∃ A' c' l', e = .returned (.slice A' l'.length c') ∧ l' = y0 :: (101 :: 45 :: [b2, b1]) ∧ OwnU W w' A' c' l' := by
  obtain ⟨i0, hi0, hz0, hz1, hz2⟩ := info_parts u8_infoV
  go_enter Tryz.func217, Tryz.ntmps217
  go_wp2_with (first
    | (at_builtin; have HA1 := Lib.hid (HO0.out.alloc (.cells #[.int .u8 (y0.toNat : Int)] 5)); have HR1 := Lib.hid (reads_lit1 w (y0.toNat : Int)); refine wpList_append_any _ rfl (.tmp 87) (.tmp 89) 36 rfl W.heap.size 5 i0 _ 1 1 Tryz.underlying36 hi0 hz0 hz1 hz2 rfl (by omega) (.slice A ([] : List UInt8).length c) ([] : List UInt8).length (bys ([] : List UInt8)) rfl HA1.out.own _ (some ⟨w.heap.size, 0, none⟩) 1 1 [.int .u8 (y0.toNat : Int)] rfl HR1.out (by simp [Value.oneCell']) (HA1.out.room 1 (by decide)).1 (HA1.out.room 1 (by decide)).2 HA1.out.bel.size ?_; intro v2 w1 hown2 hg2 hor2; obtain ⟨A1, c1, l1, hl1, rfl, ho2⟩ := HA1.out.app [y0] (k' := 89) (Nat.le_refl _) hown2 hg2 hor2; have HL1 := Lib.hid hl1; have HO1 := Lib.hid ho2; clear ho2 hl1 hown2 hg2 hor2 HA1 HR1)
    | (at_builtin; have HA2 := Lib.hid (HO1.out.alloc (.cells #[.int .u8 101] 5)); have HR2 := Lib.hid (reads_lit1 w1 101); refine wpList_append_any _ rfl (.tmp 120) (.tmp 122) 36 rfl W.heap.size 5 i0 _ 1 1 Tryz.underlying36 hi0 hz0 hz1 hz2 rfl (by omega) (.slice A1 l1.length c1) l1.length (bys l1) rfl HA2.out.own _ (some ⟨w1.heap.size, 0, none⟩) 1 1 [.int .u8 101] rfl HR2.out (by simp [Value.oneCell']) (HA2.out.room 1 (by decide)).1 (HA2.out.room 1 (by decide)).2 HA2.out.bel.size ?_; intro v2 w2 hown2 hg2 hor2; obtain ⟨A2, c2, l2, hl2, rfl, ho2⟩ := HA2.out.app [101] (k' := 88) (Nat.le_refl _) hown2 hg2 hor2; have HL2 := Lib.hid hl2; have HO2 := Lib.hid ho2; clear ho2 hl2 hown2 hg2 hor2 HA2 HR2)
    | (at_builtin; have HA3 := Lib.hid (HO2.out.alloc (.cells #[.int .u8 45] 5)); have HR3 := Lib.hid (reads_lit1 w2 45); refine wpList_append_any _ rfl (.tmp 132) (.tmp 134) 36 rfl W.heap.size 5 i0 _ 1 1 Tryz.underlying36 hi0 hz0 hz1 hz2 rfl (by omega) (.slice A2 l2.length c2) l2.length (bys l2) rfl HA3.out.own _ (some ⟨w2.heap.size, 0, none⟩) 1 1 [.int .u8 45] rfl HR3.out (by simp [Value.oneCell']) (HA3.out.room 1 (by decide)).1 (HA3.out.room 1 (by decide)).2 HA3.out.bel.size ?_; intro v2 w3 hown2 hg2 hor2; obtain ⟨A3, c3, l3, hl3, rfl, ho2⟩ := HA3.out.app [45] (k' := 87) (Nat.le_refl _) hown2 hg2 hor2; have HL3 := Lib.hid hl3; have HO3 := Lib.hid ho2; clear ho2 hl3 hown2 hg2 hor2 HA3 HR3)
    | (at_builtin; have HA4 := Lib.hid (HO3.out.alloc (.cells #[.int .u8 (b2.toNat : Int), .int .u8 (b1.toNat : Int)] 5)); have HR4 := Lib.hid (reads_lit2 w3 (b2.toNat : Int) (b1.toNat : Int)); refine wpList_append_any _ rfl (.tmp 164) (.tmp 173) 36 rfl W.heap.size 5 i0 _ 1 1 Tryz.underlying36 hi0 hz0 hz1 hz2 rfl (by omega) (.slice A3 l3.length c3) l3.length (bys l3) rfl HA4.out.own _ (some ⟨w3.heap.size, 0, none⟩) 2 2 [.int .u8 (b2.toNat : Int), .int .u8 (b1.toNat : Int)] rfl HR4.out (by simp [Value.oneCell']) (HA4.out.room 2 (by decide)).1 (HA4.out.room 2 (by decide)).2 HA4.out.bel.size ?_; intro v2 w4 hown2 hg2 hor2; obtain ⟨A4, c4, l4, hl4, rfl, ho2⟩ := HA4.out.app [b2, b1] (k' := 85) (Nat.le_refl _) hown2 hg2 hor2; have HL4 := Lib.hid hl4; have HO4 := Lib.hid ho2; clear ho2 hl4 hown2 hg2 hor2 HA4 HR4))
  go_ret
  exact ⟨_, _, _, rfl, by rw [HL4.out, HL3.out, HL2.out, HL1.out]; simp, HO4.out.fin⟩
set_option maxRecDepth 100000 in
set_option maxHeartbeats 1000000 in
theorem fm_om3 (W w : World) (A : Option Addr) (c g E : Nat) (ds : List UInt8) (y0 b1 b2 b3 : UInt8) (dp x : Int) (HO0 : Hid (EB W w g ds A c [] 90)) (k0 : w.cell? ⟨g, 0, none⟩ = some (.int .u8 (y0.toNat : Int))) (hdp : IntKind.i64.wrap (dp - 1) = x)
    (hx0 : x < 0) (hxn : IntKind.i64.wrap (-x) = (E : Int))
    (r1 : ¬ E < 10) (r2 : ¬ E < 100) (q100 q10 m10 mm : Nat) (d0 : (E : Int) / 100 = (q100 : Int)) (d1 : (E : Int) / 10 = (q10 : Int)) (d2 : (E : Int) % 10 = (m10 : Int)) (d3 : IntKind.i64.wrap (q10 : Int) = (q10 : Int)) (d4 : IntKind.i64.wrap (q100 : Int) = (q100 : Int)) (e0 : IntKind.u8.wrap (q100 : Int) = (q100 : Int)) (e1 : IntKind.u8.wrap (q10 : Int) = (q10 : Int)) (e2 : IntKind.u8.wrap (m10 : Int) = (m10 : Int)) (d5 : (q10 : Int) % 10 = (mm : Int)) (e5 : IntKind.u8.wrap ((q100 : Int) + 48) = (b3.toNat : Int)) (e3 : IntKind.u8.wrap ((mm : Int) + 48) = (b2.toNat : Int)) (e4 : IntKind.u8.wrap ((m10 : Int) + 48) = (b1.toNat : Int)) :
    Calls Tryz.prog 217 #[.slice A 0 c, .bool false, .slice (some ⟨g, 0, none⟩) 32 32, .int .i64 dp, .int .i64 1, .int .i64 0, .int .u8 101, .bool true] w fun e w' => ∃ A' c' l', e = .returned (.slice A' l'.length c') ∧ l' = y0 :: (101 :: 45 :: [b3, b2, b1]) ∧ OwnU W w' A' c' l' := by
  obtain ⟨i0, hi0, hz0, hz1, hz2⟩ := info_parts u8_infoV
  go_enter Tryz.func217, Tryz.ntmps217
  go_wp2_with (first
    | (at_builtin; have HA1 := Lib.hid (HO0.out.alloc (.cells #[.int .u8 (y0.toNat : Int)] 5)); have HR1 := Lib.hid (reads_lit1 w (y0.toNat : Int)); refine wpList_append_any _ rfl (.tmp 87) (.tmp 89) 36 rfl W.heap.size 5 i0 _ 1 1 Tryz.underlying36 hi0 hz0 hz1 hz2 rfl (by omega) (.slice A ([] : List UInt8).length c) ([] : List UInt8).length (bys ([] : List UInt8)) rfl HA1.out.own _ (some ⟨w.heap.size, 0, none⟩) 1 1 [.int .u8 (y0.toNat : Int)] rfl HR1.out (by simp [Value.oneCell']) (HA1.out.room 1 (by decide)).1 (HA1.out.room 1 (by decide)).2 HA1.out.bel.size ?_; intro v2 w1 hown2 hg2 hor2; obtain ⟨A1, c1, l1, hl1, rfl, ho2⟩ := HA1.out.app [y0] (k' := 89) (Nat.le_refl _) hown2 hg2 hor2; have HL1 := Lib.hid hl1; have HO1 := Lib.hid ho2; clear ho2 hl1 hown2 hg2 hor2 HA1 HR1)
    | (at_builtin; have HA2 := Lib.hid (HO1.out.alloc (.cells #[.int .u8 101] 5)); have HR2 := Lib.hid (reads_lit1 w1 101); refine wpList_append_any _ rfl (.tmp 120) (.tmp 122) 36 rfl W.heap.size 5 i0 _ 1 1 Tryz.underlying36 hi0 hz0 hz1 hz2 rfl (by omega) (.slice A1 l1.length c1) l1.length (bys l1) rfl HA2.out.own _ (some ⟨w1.heap.size, 0, none⟩) 1 1 [.int .u8 101] rfl HR2.out (by simp [Value.oneCell']) (HA2.out.room 1 (by decide)).1 (HA2.out.room 1 (by decide)).2 HA2.out.bel.size ?_; intro v2 w2 hown2 hg2 hor2; obtain ⟨A2, c2, l2, hl2, rfl, ho2⟩ := HA2.out.app [101] (k' := 88) (Nat.le_refl _) hown2 hg2 hor2; have HL2 := Lib.hid hl2; have HO2 := Lib.hid ho2; clear ho2 hl2 hown2 hg2 hor2 HA2 HR2)
    | (at_builtin; have HA3 := Lib.hid (HO2.out.alloc (.cells #[.int .u8 45] 5)); have HR3 := Lib.hid (reads_lit1 w2 45); refine wpList_append_any _ rfl (.tmp 132) (.tmp 134) 36 rfl W.heap.size 5 i0 _ 1 1 Tryz.underlying36 hi0 hz0 hz1 hz2 rfl (by omega) (.slice A2 l2.length c2) l2.length (bys l2) rfl HA3.out.own _ (some ⟨w2.heap.size, 0, none⟩) 1 1 [.int .u8 45] rfl HR3.out (by simp [Value.oneCell']) (HA3.out.room 1 (by decide)).1 (HA3.out.room 1 (by decide)).2 HA3.out.bel.size ?_; intro v2 w3 hown2 hg2 hor2; obtain ⟨A3, c3, l3, hl3, rfl, ho2⟩ := HA3.out.app [45] (k' := 87) (Nat.le_refl _) hown2 hg2 hor2; have HL3 := Lib.hid hl3; have HO3 := Lib.hid ho2; clear ho2 hl3 hown2 hg2 hor2 HA3 HR3)
    | (at_builtin; have HA4 := Lib.hid (HO3.out.alloc (.cells #[.int .u8 (b3.toNat : Int), .int .u8 (b2.toNat : Int), .int .u8 (b1.toNat : Int)] 5)); have HR4 := Lib.hid (reads_lit3 w3 (b3.toNat : Int) (b2.toNat : Int) (b1.toNat : Int)); refine wpList_append_any _ rfl (.tmp 136) (.tmp 150) 36 rfl W.heap.size 5 i0 _ 1 1 Tryz.underlying36 hi0 hz0 hz1 hz2 rfl (by omega) (.slice A3 l3.length c3) l3.length (bys l3) rfl HA4.out.own _ (some ⟨w3.heap.size, 0, none⟩) 3 3 [.int .u8 (b3.toNat : Int), .int .u8 (b2.toNat : Int), .int .u8 (b1.toNat : Int)] rfl HR4.out (by simp [Value.oneCell']) (HA4.out.room 3 (by decide)).1 (HA4.out.room 3 (by decide)).2 HA4.out.bel.size ?_; intro v2 w4 hown2 hg2 hor2; obtain ⟨A4, c4, l4, hl4, rfl, ho2⟩ := HA4.out.app [b3, b2, b1] (k' := 84) (Nat.le_refl _) hown2 hg2 hor2; have HL4 := Lib.hid hl4; have HO4 := Lib.hid ho2; clear ho2 hl4 hown2 hg2 hor2 HA4 HR4))
  go_ret
  exact ⟨_, _, _, rfl, by rw [HL4.out, HL3.out, HL2.out, HL1.out]; simp, HO4.out.fin⟩
set_option maxRecDepth 100000 in
set_option maxHeartbeats 1000000 in
theorem fm_np1 (W w : World) (A : Option Addr) (c g E : Nat) (ds : List UInt8) (y0 b1 b2 b3 : UInt8) (dp x : Int) (HO0 : Hid (EB W w g ds A c [] 90)) (k0 : w.cell? ⟨g, 0, none⟩ = some (.int .u8 (y0.toNat : Int))) (hdp : IntKind.i64.wrap (dp - 1) = x)
    (hx0 : x = (E : Int)) (hx1 : ¬ (E : Int) < 0)
    (r1 : E < 10) (e1 : IntKind.u8.wrap (E : Int) = (E : Int)) (e2 : IntKind.u8.wrap ((E : Int) + 48) = (b1.toNat : Int))
    (n1 : Nat) (hdl : ds.length = n1 + 1) (hn0 : 0 < n1) (hn1 : n1 ≤ 88) (hn32 : n1 < 31) (htl : (ds.drop 1).length = n1) (hn2 : (ds.drop 1).length + 58 ≤ 88) (hw1 : IntKind.i64.wrap ((n1 : Int) + 1) = (n1 : Int) + 1) (hmin : min ((n1 : Int) + 1) ((n1 : Int) + 1) = (n1 : Int) + 1) :
    Calls Tryz.prog 217 #[.slice A 0 c, .bool false, .slice (some ⟨g, 0, none⟩) 32 32, .int .i64 dp, .int .i64 ((n1 : Int) + 1), .int .i64 (n1 : Int), .int .u8 101, .bool true] w fun e w' => ∃ A' c' l', e = .returned (.slice A' l'.length c') ∧ l' = y0 :: (46 :: ds.drop 1 ++ 101 :: 43 :: [48, b1]) ∧ OwnU W w' A' c' l' := by
  obtain ⟨i0, hi0, hz0, hz1, hz2⟩ := info_parts u8_infoV
  subst hx0
  go_enter Tryz.func217, Tryz.ntmps217
  go_wp2_with (first
    | (at_builtin; have HA1 := Lib.hid (HO0.out.alloc (.cells #[.int .u8 (y0.toNat : Int)] 5)); have HR1 := Lib.hid (reads_lit1 w (y0.toNat : Int)); refine wpList_append_any _ rfl (.tmp 87) (.tmp 89) 36 rfl W.heap.size 5 i0 _ 1 1 Tryz.underlying36 hi0 hz0 hz1 hz2 rfl (by omega) (.slice A ([] : List UInt8).length c) ([] : List UInt8).length (bys ([] : List UInt8)) rfl HA1.out.own _ (some ⟨w.heap.size, 0, none⟩) 1 1 [.int .u8 (y0.toNat : Int)] rfl HR1.out (by simp [Value.oneCell']) (HA1.out.room 1 (by decide)).1 (HA1.out.room 1 (by decide)).2 HA1.out.bel.size ?_; intro v2 w1 hown2 hg2 hor2; obtain ⟨A1, c1, l1, hl1, rfl, ho2⟩ := HA1.out.app [y0] (k' := 89) (Nat.le_refl _) hown2 hg2 hor2; have HL1 := Lib.hid hl1; have HO1 := Lib.hid ho2; clear ho2 hl1 hown2 hg2 hor2 HA1 HR1)
    | (at_builtin; have HA2 := Lib.hid (HO1.out.alloc (.cells #[.int .u8 46] 5)); have HR2 := Lib.hid (reads_lit1 w1 46); refine wpList_append_any _ rfl (.tmp 93) (.tmp 94) 36 rfl W.heap.size 5 i0 _ 1 1 Tryz.underlying36 hi0 hz0 hz1 hz2 rfl (by omega) (.slice A1 l1.length c1) l1.length (bys l1) rfl HA2.out.own _ (some ⟨w1.heap.size, 0, none⟩) 1 1 [.int .u8 46] rfl HR2.out (by simp [Value.oneCell']) (HA2.out.room 1 (by decide)).1 (HA2.out.room 1 (by decide)).2 HA2.out.bel.size ?_; intro v2 w2 hown2 hg2 hor2; obtain ⟨A2, c2, l2, hl2, rfl, ho2⟩ := HA2.out.app [46] (k' := 88) (Nat.le_refl _) hown2 hg2 hor2; have HL2 := Lib.hid hl2; have HO2 := Lib.hid ho2; clear ho2 hl2 hown2 hg2 hor2 HA2 HR2)
    | (at_builtin; have HR3 := Lib.hid (HO2.out.tail hdl); refine wpList_append_any _ rfl (.tmp 103) (.tmp 107) 36 rfl W.heap.size 5 i0 _ 1 1 Tryz.underlying36 hi0 hz0 hz1 hz2 rfl (by omega) (.slice A2 l2.length c2) l2.length (bys l2) rfl HO2.out.own _ (some ⟨g, 1, none⟩) n1 31 (bys (ds.drop 1)) rfl HR3.out (oneC _) (HO2.out.room n1 hn1).1 (HO2.out.room n1 hn1).2 HO2.out.bel.size ?_; intro v2 w3 hown2 hg2 hor2; obtain ⟨A3, c3, l3, hl3, rfl, ho2⟩ := HO2.out.app (ds.drop 1) (k' := 58) hn2 (by rw [htl]; exact hown2) hg2 hor2; have HL3 := Lib.hid hl3; have HO3 := Lib.hid ho2; clear ho2 hl3 hown2 hg2 hor2 HR3))
  go_loopw [0, 114] (fun u v wr => u = .slice A3 l3.length c3 ∧ v = .int .i64 0 ∧ w3 = wr) (fun _ _ _ => 0)
  case atStart => exact ⟨rfl, by first | rfl | simp, rfl⟩
  case round =>
  obtain ⟨rfl, rfl, rfl⟩ := hrel
  go_wp2_with (first
    | (at_builtin; have HA4 := Lib.hid (HO3.out.alloc (.cells #[.int .u8 101] 5)); have HR4 := Lib.hid (reads_lit1 w3 101); refine wpList_append_any _ rfl (.tmp 120) (.tmp 122) 36 rfl W.heap.size 5 i0 _ 1 1 Tryz.underlying36 hi0 hz0 hz1 hz2 rfl (by omega) (.slice A3 l3.length c3) l3.length (bys l3) rfl HA4.out.own _ (some ⟨w3.heap.size, 0, none⟩) 1 1 [.int .u8 101] rfl HR4.out (by simp [Value.oneCell']) (HA4.out.room 1 (by decide)).1 (HA4.out.room 1 (by decide)).2 HA4.out.bel.size ?_; intro v2 w4 hown2 hg2 hor2; obtain ⟨A4, c4, l4, hl4, rfl, ho2⟩ := HA4.out.app [101] (k' := 57) (Nat.le_refl _) hown2 hg2 hor2; have HL4 := Lib.hid hl4; have HO4 := Lib.hid ho2; clear ho2 hl4 hown2 hg2 hor2 HA4 HR4)
    | (at_builtin; have HA5 := Lib.hid (HO4.out.alloc (.cells #[.int .u8 43] 5)); have HR5 := Lib.hid (reads_lit1 w4 43); refine wpList_append_any _ rfl (.tmp 132) (.tmp 134) 36 rfl W.heap.size 5 i0 _ 1 1 Tryz.underlying36 hi0 hz0 hz1 hz2 rfl (by omega) (.slice A4 l4.length c4) l4.length (bys l4) rfl HA5.out.own _ (some ⟨w4.heap.size, 0, none⟩) 1 1 [.int .u8 43] rfl HR5.out (by simp [Value.oneCell']) (HA5.out.room 1 (by decide)).1 (HA5.out.room 1 (by decide)).2 HA5.out.bel.size ?_; intro v2 w5 hown2 hg2 hor2; obtain ⟨A5, c5, l5, hl5, rfl, ho2⟩ := HA5.out.app [43] (k' := 56) (Nat.le_refl _) hown2 hg2 hor2; have HL5 := Lib.hid hl5; have HO5 := Lib.hid ho2; clear ho2 hl5 hown2 hg2 hor2 HA5 HR5)
    | (at_builtin; have HA6 := Lib.hid (HO5.out.alloc (.cells #[.int .u8 48, .int .u8 (b1.toNat : Int)] 5)); have HR6 := Lib.hid (reads_lit2 w5 48 (b1.toNat : Int)); refine wpList_append_any _ rfl (.tmp 155) (.tmp 159) 36 rfl W.heap.size 5 i0 _ 1 1 Tryz.underlying36 hi0 hz0 hz1 hz2 rfl (by omega) (.slice A5 l5.length c5) l5.length (bys l5) rfl HA6.out.own _ (some ⟨w5.heap.size, 0, none⟩) 2 2 [.int .u8 48, .int .u8 (b1.toNat : Int)] rfl HR6.out (by simp [Value.oneCell']) (HA6.out.room 2 (by decide)).1 (HA6.out.room 2 (by decide)).2 HA6.out.bel.size ?_; intro v2 w6 hown2 hg2 hor2; obtain ⟨A6, c6, l6, hl6, rfl, ho2⟩ := HA6.out.app [48, b1] (k' := 54) (Nat.le_refl _) hown2 hg2 hor2; have HL6 := Lib.hid hl6; have HO6 := Lib.hid ho2; clear ho2 hl6 hown2 hg2 hor2 HA6 HR6))
  go_ret
  exact ⟨_, _, _, rfl, by rw [HL6.out, HL5.out, HL4.out, HL3.out, HL2.out, HL1.out]; simp, HO6.out.fin⟩
set_option maxRecDepth 100000 in
set_option maxHeartbeats 1000000 in
theorem fm_np2 (W w : World) (A : Option Addr) (c g E : Nat) (ds : List UInt8) (y0 b1 b2 b3 : UInt8) (dp x : Int) (HO0 : Hid (EB W w g ds A c [] 90)) (k0 : w.cell? ⟨g, 0, none⟩ = some (.int .u8 (y0.toNat : Int))) (hdp : IntKind.i64.wrap (dp - 1) = x)
    (hx0 : x = (E : Int)) (hx1 : ¬ (E : Int) < 0)
    (r1 : ¬ E < 10) (r2 : E < 100) (q10 m10 : Nat) (d1 : (E : Int) / 10 = (q10 : Int)) (d2 : (E : Int) % 10 = (m10 : Int)) (d3 : IntKind.i64.wrap (q10 : Int) = (q10 : Int)) (e1 : IntKind.u8.wrap (q10 : Int) = (q10 : Int)) (e2 : IntKind.u8.wrap (m10 : Int) = (m10 : Int)) (e3 : IntKind.u8.wrap ((q10 : Int) + 48) = (b2.toNat : Int)) (e4 : IntKind.u8.wrap ((m10 : Int) + 48) = (b1.toNat : Int))
    (n1 : Nat) (hdl : ds.length = n1 + 1) (hn0 : 0 < n1) (hn1 : n1 ≤ 88) (hn32 : n1 < 31) (htl : (ds.drop 1).length = n1) (hn2 : (ds.drop 1).length + 58 ≤ 88) (hw1 : IntKind.i64.wrap ((n1 : Int) + 1) = (n1 : Int) + 1) (hmin : min ((n1 : Int) + 1) ((n1 : Int) + 1) = (n1 : Int) + 1) :
    Calls Tryz.prog 217 #[.slice A 0 c, .bool false, .slice (some ⟨g, 0, none⟩) 32 32, .int .i64 dp, .int .i64 ((n1 : Int) + 1), .int .i64 (n1 : Int), .int .u8 101, .bool true] w fun e w' => ∃ A' c' l', e = .returned (.slice A' l'.length c') ∧ l' = y0 :: (46 :: ds.drop 1 ++ 101 :: 43 :: [b2, b1]) ∧ OwnU W w' A' c' l' := by
  obtain ⟨i0, hi0, hz0, hz1, hz2⟩ := info_parts u8_infoV
  subst hx0
  go_enter Tryz.func217, Tryz.ntmps217
  go_wp2_with (first
    | (at_builtin; have HA1 := Lib.hid (HO0.out.alloc (.cells #[.int .u8 (y0.toNat : Int)] 5)); have HR1 := Lib.hid (reads_lit1 w (y0.toNat : Int)); refine wpList_append_any _ rfl (.tmp 87) (.tmp 89) 36 rfl W.heap.size 5 i0 _ 1 1 Tryz.underlying36 hi0 hz0 hz1 hz2 rfl (by omega) (.slice A ([] : List UInt8).length c) ([] : List UInt8).length (bys ([] : List UInt8)) rfl HA1.out.own _ (some ⟨w.heap.size, 0, none⟩) 1 1 [.int .u8 (y0.toNat : Int)] rfl HR1.out (by simp [Value.oneCell']) (HA1.out.room 1 (by decide)).1 (HA1.out.room 1 (by decide)).2 HA1.out.bel.size ?_; intro v2 w1 hown2 hg2 hor2; obtain ⟨A1, c1, l1, hl1, rfl, ho2⟩ := HA1.out.app [y0] (k' := 89) (Nat.le_refl _) hown2 hg2 hor2; have HL1 := Lib.hid hl1; have HO1 := Lib.hid ho2; clear ho2 hl1 hown2 hg2 hor2 HA1 HR1)
    | (at_builtin; have HA2 := Lib.hid (HO1.out.alloc (.cells #[.int .u8 46] 5)); have HR2 := Lib.hid (reads_lit1 w1 46); refine wpList_append_any _ rfl (.tmp 93) (.tmp 94) 36 rfl W.heap.size 5 i0 _ 1 1 Tryz.underlying36 hi0 hz0 hz1 hz2 rfl (by omega) (.slice A1 l1.length c1) l1.length (bys l1) rfl HA2.out.own _ (some ⟨w1.heap.size, 0, none⟩) 1 1 [.int .u8 46] rfl HR2.out (by simp [Value.oneCell']) (HA2.out.room 1 (by decide)).1 (HA2.out.room 1 (by decide)).2 HA2.out.bel.size ?_; intro v2 w2 hown2 hg2 hor2; obtain ⟨A2, c2, l2, hl2, rfl, ho2⟩ := HA2.out.app [46] (k' := 88) (Nat.le_refl _) hown2 hg2 hor2; have HL2 := Lib.hid hl2; have HO2 := Lib.hid ho2; clear ho2 hl2 hown2 hg2 hor2 HA2 HR2)
    | (at_builtin; have HR3 := Lib.hid (HO2.out.tail hdl); refine wpList_append_any _ rfl (.tmp 103) (.tmp 107) 36 rfl W.heap.size 5 i0 _ 1 1 Tryz.underlying36 hi0 hz0 hz1 hz2 rfl (by omega) (.slice A2 l2.length c2) l2.length (bys l2) rfl HO2.out.own _ (some ⟨g, 1, none⟩) n1 31 (bys (ds.drop 1)) rfl HR3.out (oneC _) (HO2.out.room n1 hn1).1 (HO2.out.room n1 hn1).2 HO2.out.bel.size ?_; intro v2 w3 hown2 hg2 hor2; obtain ⟨A3, c3, l3, hl3, rfl, ho2⟩ := HO2.out.app (ds.drop 1) (k' := 58) hn2 (by rw [htl]; exact hown2) hg2 hor2; have HL3 := Lib.hid hl3; have HO3 := Lib.hid ho2; clear ho2 hl3 hown2 hg2 hor2 HR3))
  go_loopw [0, 114] (fun u v wr => u = .slice A3 l3.length c3 ∧ v = .int .i64 0 ∧ w3 = wr) (fun _ _ _ => 0)
  case atStart => exact ⟨rfl, by first | rfl | simp, rfl⟩
  case round =>
  obtain ⟨rfl, rfl, rfl⟩ := hrel
  go_wp2_with (first
    | (at_builtin; have HA4 := Lib.hid (HO3.out.alloc (.cells #[.int .u8 101] 5)); have HR4 := Lib.hid (reads_lit1 w3 101); refine wpList_append_any _ rfl (.tmp 120) (.tmp 122) 36 rfl W.heap.size 5 i0 _ 1 1 Tryz.underlying36 hi0 hz0 hz1 hz2 rfl (by omega) (.slice A3 l3.length c3) l3.length (bys l3) rfl HA4.out.own _ (some ⟨w3.heap.size, 0, none⟩) 1 1 [.int .u8 101] rfl HR4.out (by simp [Value.oneCell']) (HA4.out.room 1 (by decide)).1 (HA4.out.room 1 (by decide)).2 HA4.out.bel.size ?_; intro v2 w4 hown2 hg2 hor2; obtain ⟨A4, c4, l4, hl4, rfl, ho2⟩ := HA4.out.app [101] (k' := 57) (Nat.le_refl _) hown2 hg2 hor2; have HL4 := Lib.hid hl4; have HO4 := Lib.hid ho2; clear ho2 hl4 hown2 hg2 hor2 HA4 HR4)
    | (at_builtin; have HA5 := Lib.hid (HO4.out.alloc (.cells #[.int .u8 43] 5)); have HR5 := Lib.hid (reads_lit1 w4 43); refine wpList_append_any _ rfl (.tmp 132) (.tmp 134) 36 rfl W.heap.size 5 i0 _ 1 1 Tryz.underlying36 hi0 hz0 hz1 hz2 rfl (by omega) (.slice A4 l4.length c4) l4.length (bys l4) rfl HA5.out.own _ (some ⟨w4.heap.size, 0, none⟩) 1 1 [.int .u8 43] rfl HR5.out (by simp [Value.oneCell']) (HA5.out.room 1 (by decide)).1 (HA5.out.room 1 (by decide)).2 HA5.out.bel.size ?_; intro v2 w5 hown2 hg2 hor2; obtain ⟨A5, c5, l5, hl5, rfl, ho2⟩ := HA5.out.app [43] (k' := 56) (Nat.le_refl _) hown2 hg2 hor2; have HL5 := Lib.hid hl5; have HO5 := Lib.hid ho2; clear ho2 hl5 hown2 hg2 hor2 HA5 HR5)
    | (at_builtin; have HA6 := Lib.hid (HO5.out.alloc (.cells #[.int .u8 (b2.toNat : Int), .int .u8 (b1.toNat : Int)] 5)); have HR6 := Lib.hid (reads_lit2 w5 (b2.toNat : Int) (b1.toNat : Int)); refine wpList_append_any _ rfl (.tmp 164) (.tmp 173) 36 rfl W.heap.size 5 i0 _ 1 1 Tryz.underlying36 hi0 hz0 hz1 hz2 rfl (by omega) (.slice A5 l5.length c5) l5.length (bys l5) rfl HA6.out.own _ (some ⟨w5.heap.size, 0, none⟩) 2 2 [.int .u8 (b2.toNat : Int), .int .u8 (b1.toNat : Int)] rfl HR6.out (by simp [Value.oneCell']) (HA6.out.room 2 (by decide)).1 (HA6.out.room 2 (by decide)).2 HA6.out.bel.size ?_; intro v2 w6 hown2 hg2 hor2; obtain ⟨A6, c6, l6, hl6, rfl, ho2⟩ := HA6.out.app [b2, b1] (k' := 54) (Nat.le_refl _) hown2 hg2 hor2; have HL6 := Lib.hid hl6; have HO6 := Lib.hid ho2; clear ho2 hl6 hown2 hg2 hor2 HA6 HR6))
  go_ret
  exact ⟨_, _, _, rfl, by rw [HL6.out, HL5.out, HL4.out, HL3.out, HL2.out, HL1.out]; simp, HO6.out.fin⟩
set_option maxRecDepth 100000 in
set_option maxHeartbeats 1000000 in
theorem fm_np3 (W w : World) (A : Option Addr) (c g E : Nat) (ds : List UInt8) (y0 b1 b2 b3 : UInt8) (dp x : Int) (HO0 : Hid (EB W w g ds A c [] 90)) (k0 : w.cell? ⟨g, 0, none⟩ = some (.int .u8 (y0.toNat : Int))) (hdp : IntKind.i64.wrap (dp - 1) = x)
    (hx0 : x = (E : Int)) (hx1 : ¬ (E : Int) < 0)
    (r1 : ¬ E < 10) (r2 : ¬ E < 100) (q100 q10 m10 mm : Nat) (d0 : (E : Int) / 100 = (q100 : Int)) (d1 : (E : Int) / 10 = (q10 : Int)) (d2 : (E : Int) % 10 = (m10 : Int)) (d3 : IntKind.i64.wrap (q10 : Int) = (q10 : Int)) (d4 : IntKind.i64.wrap (q100 : Int) = (q100 : Int)) (e0 : IntKind.u8.wrap (q100 : Int) = (q100 : Int)) (e1 : IntKind.u8.wrap (q10 : Int) = (q10 : Int)) (e2 : IntKind.u8.wrap (m10 : Int) = (m10 : Int)) (d5 : (q10 : Int) % 10 = (mm : Int)) (e5 : IntKind.u8.wrap ((q100 : Int) + 48) = (b3.toNat : Int)) (e3 : IntKind.u8.wrap ((mm : Int) + 48) = (b2.toNat : Int)) (e4 : IntKind.u8.wrap ((m10 : Int) + 48) = (b1.toNat : Int))
    (n1 : Nat) (hdl : ds.length = n1 + 1) (hn0 : 0 < n1) (hn1 : n1 ≤ 88) (hn32 : n1 < 31) (htl : (ds.drop 1).length = n1) (hn2 : (ds.drop 1).length + 58 ≤ 88) (hw1 : IntKind.i64.wrap ((n1 : Int) + 1) = (n1 : Int) + 1) (hmin : min ((n1 : Int) + 1) ((n1 : Int) + 1) = (n1 : Int) + 1) :
    Calls Tryz.prog 217 #[.slice A 0 c, .bool false, .slice (some ⟨g, 0, none⟩) 32 32, .int .i64 dp, .int .i64 ((n1 : Int) + 1), .int .i64 (n1 : Int), .int .u8 101, .bool true] w fun e w' => ∃ A' c' l', e = .returned (.slice A' l'.length c') ∧ l' = y0 :: (46 :: ds.drop 1 ++ 101 :: 43 :: [b3, b2, b1]) ∧ OwnU W w' A' c' l' := by
  obtain ⟨i0, hi0, hz0, hz1, hz2⟩ := info_parts u8_infoV
  subst hx0
  go_enter Tryz.func217, Tryz.ntmps217
  go_wp2_with (first
    | (at_builtin; have HA1 := Lib.hid (HO0.out.alloc (.cells #[.int .u8 (y0.toNat : Int)] 5)); have HR1 := Lib.hid (reads_lit1 w (y0.toNat : Int)); refine wpList_append_any _ rfl (.tmp 87) (.tmp 89) 36 rfl W.heap.size 5 i0 _ 1 1 Tryz.underlying36 hi0 hz0 hz1 hz2 rfl (by omega) (.slice A ([] : List UInt8).length c) ([] : List UInt8).length (bys ([] : List UInt8)) rfl HA1.out.own _ (some ⟨w.heap.size, 0, none⟩) 1 1 [.int .u8 (y0.toNat : Int)] rfl HR1.out (by simp [Value.oneCell']) (HA1.out.room 1 (by decide)).1 (HA1.out.room 1 (by decide)).2 HA1.out.bel.size ?_; intro v2 w1 hown2 hg2 hor2; obtain ⟨A1, c1, l1, hl1, rfl, ho2⟩ := HA1.out.app [y0] (k' := 89) (Nat.le_refl _) hown2 hg2 hor2; have HL1 := Lib.hid hl1; have HO1 := Lib.hid ho2; clear ho2 hl1 hown2 hg2 hor2 HA1 HR1)
    | (at_builtin; have HA2 := Lib.hid (HO1.out.alloc (.cells #[.int .u8 46] 5)); have HR2 := Lib.hid (reads_lit1 w1 46); refine wpList_append_any _ rfl (.tmp 93) (.tmp 94) 36 rfl W.heap.size 5 i0 _ 1 1 Tryz.underlying36 hi0 hz0 hz1 hz2 rfl (by omega) (.slice A1 l1.length c1) l1.length (bys l1) rfl HA2.out.own _ (some ⟨w1.heap.size, 0, none⟩) 1 1 [.int .u8 46] rfl HR2.out (by simp [Value.oneCell']) (HA2.out.room 1 (by decide)).1 (HA2.out.room 1 (by decide)).2 HA2.out.bel.size ?_; intro v2 w2 hown2 hg2 hor2; obtain ⟨A2, c2, l2, hl2, rfl, ho2⟩ := HA2.out.app [46] (k' := 88) (Nat.le_refl _) hown2 hg2 hor2; have HL2 := Lib.hid hl2; have HO2 := Lib.hid ho2; clear ho2 hl2 hown2 hg2 hor2 HA2 HR2)
    | (at_builtin; have HR3 := Lib.hid (HO2.out.tail hdl); refine wpList_append_any _ rfl (.tmp 103) (.tmp 107) 36 rfl W.heap.size 5 i0 _ 1 1 Tryz.underlying36 hi0 hz0 hz1 hz2 rfl (by omega) (.slice A2 l2.length c2) l2.length (bys l2) rfl HO2.out.own _ (some ⟨g, 1, none⟩) n1 31 (bys (ds.drop 1)) rfl HR3.out (oneC _) (HO2.out.room n1 hn1).1 (HO2.out.room n1 hn1).2 HO2.out.bel.size ?_; intro v2 w3 hown2 hg2 hor2; obtain ⟨A3, c3, l3, hl3, rfl, ho2⟩ := HO2.out.app (ds.drop 1) (k' := 58) hn2 (by rw [htl]; exact hown2) hg2 hor2; have HL3 := Lib.hid hl3; have HO3 := Lib.hid ho2; clear ho2 hl3 hown2 hg2 hor2 HR3))
  go_loopw [0, 114] (fun u v wr => u = .slice A3 l3.length c3 ∧ v = .int .i64 0 ∧ w3 = wr) (fun _ _ _ => 0)
  case atStart => exact ⟨rfl, by first | rfl | simp, rfl⟩
  case round =>
  obtain ⟨rfl, rfl, rfl⟩ := hrel
  go_wp2_with (first
    | (at_builtin; have HA4 := Lib.hid (HO3.out.alloc (.cells #[.int .u8 101] 5)); have HR4 := Lib.hid (reads_lit1 w3 101); refine wpList_append_any _ rfl (.tmp 120) (.tmp 122) 36 rfl W.heap.size 5 i0 _ 1 1 Tryz.underlying36 hi0 hz0 hz1 hz2 rfl (by omega) (.slice A3 l3.length c3) l3.length (bys l3) rfl HA4.out.own _ (some ⟨w3.heap.size, 0, none⟩) 1 1 [.int .u8 101] rfl HR4.out (by simp [Value.oneCell']) (HA4.out.room 1 (by decide)).1 (HA4.out.room 1 (by decide)).2 HA4.out.bel.size ?_; intro v2 w4 hown2 hg2 hor2; obtain ⟨A4, c4, l4, hl4, rfl, ho2⟩ := HA4.out.app [101] (k' := 57) (Nat.le_refl _) hown2 hg2 hor2; have HL4 := Lib.hid hl4; have HO4 := Lib.hid ho2; clear ho2 hl4 hown2 hg2 hor2 HA4 HR4)
    | (at_builtin; have HA5 := Lib.hid (HO4.out.alloc (.cells #[.int .u8 43] 5)); have HR5 := Lib.hid (reads_lit1 w4 43); refine wpList_append_any _ rfl (.tmp 132) (.tmp 134) 36 rfl W.heap.size 5 i0 _ 1 1 Tryz.underlying36 hi0 hz0 hz1 hz2 rfl (by omega) (.slice A4 l4.length c4) l4.length (bys l4) rfl HA5.out.own _ (some ⟨w4.heap.size, 0, none⟩) 1 1 [.int .u8 43] rfl HR5.out (by simp [Value.oneCell']) (HA5.out.room 1 (by decide)).1 (HA5.out.room 1 (by decide)).2 HA5.out.bel.size ?_; intro v2 w5 hown2 hg2 hor2; obtain ⟨A5, c5, l5, hl5, rfl, ho2⟩ := HA5.out.app [43] (k' := 56) (Nat.le_refl _) hown2 hg2 hor2; have HL5 := Lib.hid hl5; have HO5 := Lib.hid ho2; clear ho2 hl5 hown2 hg2 hor2 HA5 HR5)
    | (at_builtin; have HA6 := Lib.hid (HO5.out.alloc (.cells #[.int .u8 (b3.toNat : Int), .int .u8 (b2.toNat : Int), .int .u8 (b1.toNat : Int)] 5)); have HR6 := Lib.hid (reads_lit3 w5 (b3.toNat : Int) (b2.toNat : Int) (b1.toNat : Int)); refine wpList_append_any _ rfl (.tmp 136) (.tmp 150) 36 rfl W.heap.size 5 i0 _ 1 1 Tryz.underlying36 hi0 hz0 hz1 hz2 rfl (by omega) (.slice A5 l5.length c5) l5.length (bys l5) rfl HA6.out.own _ (some ⟨w5.heap.size, 0, none⟩) 3 3 [.int .u8 (b3.toNat : Int), .int .u8 (b2.toNat : Int), .int .u8 (b1.toNat : Int)] rfl HR6.out (by simp [Value.oneCell']) (HA6.out.room 3 (by decide)).1 (HA6.out.room 3 (by decide)).2 HA6.out.bel.size ?_; intro v2 w6 hown2 hg2 hor2; obtain ⟨A6, c6, l6, hl6, rfl, ho2⟩ := HA6.out.app [b3, b2, b1] (k' := 53) (Nat.le_refl _) hown2 hg2 hor2; have HL6 := Lib.hid hl6; have HO6 := Lib.hid ho2; clear ho2 hl6 hown2 hg2 hor2 HA6 HR6))
  go_ret
  exact ⟨_, _, _, rfl, by rw [HL6.out, HL5.out, HL4.out, HL3.out, HL2.out, HL1.out]; simp, HO6.out.fin⟩
set_option maxRecDepth 100000 in
set_option maxHeartbeats 1000000 in
theorem fm_nm1 (W w : World) (A : Option Addr) (c g E : Nat) (ds : List UInt8) (y0 b1 b2 b3 : UInt8) (dp x : Int) (HO0 : Hid (EB W w g ds A c [] 90)) (k0 : w.cell? ⟨g, 0, none⟩ = some (.int .u8 (y0.toNat : Int))) (hdp : IntKind.i64.wrap (dp - 1) = x)
    (hx0 : x < 0) (hxn : IntKind.i64.wrap (-x) = (E : Int))
    (r1 : E < 10) (e1 : IntKind.u8.wrap (E : Int) = (E : Int)) (e2 : IntKind.u8.wrap ((E : Int) + 48) = (b1.toNat : Int))
    (n1 : Nat) (hdl : ds.length = n1 + 1) (hn0 : 0 < n1) (hn1 : n1 ≤ 88) (hn32 : n1 < 31) (htl : (ds.drop 1).length = n1) (hn2 : (ds.drop 1).length + 58 ≤ 88) (hw1 : IntKind.i64.wrap ((n1 : Int) + 1) = (n1 : Int) + 1) (hmin : min ((n1 : Int) + 1) ((n1 : Int) + 1) = (n1 : Int) + 1) :
    Calls Tryz.prog 217 #[.slice A 0 c, .bool false, .slice (some ⟨g, 0, none⟩) 32 32, .int .i64 dp, .int .i64 ((n1 : Int) + 1), .int .i64 (n1 : Int), .int .u8 101, .bool true] w fun e w' => ∃ A' c' l', e = .returned (.slice A' l'.length c') ∧ l' = y0 :: (46 :: ds.drop 1 ++ 101 :: 45 :: [48, b1]) ∧ OwnU W w' A' c' l' := by
  obtain ⟨i0, hi0, hz0, hz1, hz2⟩ := info_parts u8_infoV
  go_enter Tryz.func217, Tryz.ntmps217
  go_wp2_with (first
    | (at_builtin; have HA1 := Lib.hid (HO0.out.alloc (.cells #[.int .u8 (y0.toNat : Int)] 5)); have HR1 := Lib.hid (reads_lit1 w (y0.toNat : Int)); refine wpList_append_any _ rfl (.tmp 87) (.tmp 89) 36 rfl W.heap.size 5 i0 _ 1 1 Tryz.underlying36 hi0 hz0 hz1 hz2 rfl (by omega) (.slice A ([] : List UInt8).length c) ([] : List UInt8).length (bys ([] : List UInt8)) rfl HA1.out.own _ (some ⟨w.heap.size, 0, none⟩) 1 1 [.int .u8 (y0.toNat : Int)] rfl HR1.out (by simp [Value.oneCell']) (HA1.out.room 1 (by decide)).1 (HA1.out.room 1 (by decide)).2 HA1.out.bel.size ?_; intro v2 w1 hown2 hg2 hor2; obtain ⟨A1, c1, l1, hl1, rfl, ho2⟩ := HA1.out.app [y0] (k' := 89) (Nat.le_refl _) hown2 hg2 hor2; have HL1 := Lib.hid hl1; have HO1 := Lib.hid ho2; clear ho2 hl1 hown2 hg2 hor2 HA1 HR1)
    | (at_builtin; have HA2 := Lib.hid (HO1.out.alloc (.cells #[.int .u8 46] 5)); have HR2 := Lib.hid (reads_lit1 w1 46); refine wpList_append_any _ rfl (.tmp 93) (.tmp 94) 36 rfl W.heap.size 5 i0 _ 1 1 Tryz.underlying36 hi0 hz0 hz1 hz2 rfl (by omega) (.slice A1 l1.length c1) l1.length (bys l1) rfl HA2.out.own _ (some ⟨w1.heap.size, 0, none⟩) 1 1 [.int .u8 46] rfl HR2.out (by simp [Value.oneCell']) (HA2.out.room 1 (by decide)).1 (HA2.out.room 1 (by decide)).2 HA2.out.bel.size ?_; intro v2 w2 hown2 hg2 hor2; obtain ⟨A2, c2, l2, hl2, rfl, ho2⟩ := HA2.out.app [46] (k' := 88) (Nat.le_refl _) hown2 hg2 hor2; have HL2 := Lib.hid hl2; have HO2 := Lib.hid ho2; clear ho2 hl2 hown2 hg2 hor2 HA2 HR2)
    | (at_builtin; have HR3 := Lib.hid (HO2.out.tail hdl); refine wpList_append_any _ rfl (.tmp 103) (.tmp 107) 36 rfl W.heap.size 5 i0 _ 1 1 Tryz.underlying36 hi0 hz0 hz1 hz2 rfl (by omega) (.slice A2 l2.length c2) l2.length (bys l2) rfl HO2.out.own _ (some ⟨g, 1, none⟩) n1 31 (bys (ds.drop 1)) rfl HR3.out (oneC _) (HO2.out.room n1 hn1).1 (HO2.out.room n1 hn1).2 HO2.out.bel.size ?_; intro v2 w3 hown2 hg2 hor2; obtain ⟨A3, c3, l3, hl3, rfl, ho2⟩ := HO2.out.app (ds.drop 1) (k' := 58) hn2 (by rw [htl]; exact hown2) hg2 hor2; have HL3 := Lib.hid hl3; have HO3 := Lib.hid ho2; clear ho2 hl3 hown2 hg2 hor2 HR3))
  go_loopw [0, 114] (fun u v wr => u = .slice A3 l3.length c3 ∧ v = .int .i64 0 ∧ w3 = wr) (fun _ _ _ => 0)
  case atStart => exact ⟨rfl, by first | rfl | simp, rfl⟩
  case round =>
  obtain ⟨rfl, rfl, rfl⟩ := hrel
  go_wp2_with (first
    | (at_builtin; have HA4 := Lib.hid (HO3.out.alloc (.cells #[.int .u8 101] 5)); have HR4 := Lib.hid (reads_lit1 w3 101); refine wpList_append_any _ rfl (.tmp 120) (.tmp 122) 36 rfl W.heap.size 5 i0 _ 1 1 Tryz.underlying36 hi0 hz0 hz1 hz2 rfl (by omega) (.slice A3 l3.length c3) l3.length (bys l3) rfl HA4.out.own _ (some ⟨w3.heap.size, 0, none⟩) 1 1 [.int .u8 101] rfl HR4.out (by simp [Value.oneCell']) (HA4.out.room 1 (by decide)).1 (HA4.out.room 1 (by decide)).2 HA4.out.bel.size ?_; intro v2 w4 hown2 hg2 hor2; obtain ⟨A4, c4, l4, hl4, rfl, ho2⟩ := HA4.out.app [101] (k' := 57) (Nat.le_refl _) hown2 hg2 hor2; have HL4 := Lib.hid hl4; have HO4 := Lib.hid ho2; clear ho2 hl4 hown2 hg2 hor2 HA4 HR4)
    | (at_builtin; have HA5 := Lib.hid (HO4.out.alloc (.cells #[.int .u8 45] 5)); have HR5 := Lib.hid (reads_lit1 w4 45); refine wpList_append_any _ rfl (.tmp 132) (.tmp 134) 36 rfl W.heap.size 5 i0 _ 1 1 Tryz.underlying36 hi0 hz0 hz1 hz2 rfl (by omega) (.slice A4 l4.length c4) l4.length (bys l4) rfl HA5.out.own _ (some ⟨w4.heap.size, 0, none⟩) 1 1 [.int .u8 45] rfl HR5.out (by simp [Value.oneCell']) (HA5.out.room 1 (by decide)).1 (HA5.out.room 1 (by decide)).2 HA5.out.bel.size ?_; intro v2 w5 hown2 hg2 hor2; obtain ⟨A5, c5, l5, hl5, rfl, ho2⟩ := HA5.out.app [45] (k' := 56) (Nat.le_refl _) hown2 hg2 hor2; have HL5 := Lib.hid hl5; have HO5 := Lib.hid ho2; clear ho2 hl5 hown2 hg2 hor2 HA5 HR5)
    | (at_builtin; have HA6 := Lib.hid (HO5.out.alloc (.cells #[.int .u8 48, .int .u8 (b1.toNat : Int)] 5)); have HR6 := Lib.hid (reads_lit2 w5 48 (b1.toNat : Int)); refine wpList_append_any _ rfl (.tmp 155) (.tmp 159) 36 rfl W.heap.size 5 i0 _ 1 1 Tryz.underlying36 hi0 hz0 hz1 hz2 rfl (by omega) (.slice A5 l5.length c5) l5.length (bys l5) rfl HA6.out.own _ (some ⟨w5.heap.size, 0, none⟩) 2 2 [.int .u8 48, .int .u8 (b1.toNat : Int)] rfl HR6.out (by simp [Value.oneCell']) (HA6.out.room 2 (by decide)).1 (HA6.out.room 2 (by decide)).2 HA6.out.bel.size ?_; intro v2 w6 hown2 hg2 hor2; obtain ⟨A6, c6, l6, hl6, rfl, ho2⟩ := HA6.out.app [48, b1] (k' := 54) (Nat.le_refl _) hown2 hg2 hor2; have HL6 := Lib.hid hl6; have HO6 := Lib.hid ho2; clear ho2 hl6 hown2 hg2 hor2 HA6 HR6))
  go_ret
  exact ⟨_, _, _, rfl, by rw [HL6.out, HL5.out, HL4.out, HL3.out, HL2.out, HL1.out]; simp, HO6.out.fin⟩
set_option maxRecDepth 100000 in
set_option maxHeartbeats 1000000 in
theorem fm_nm2 (W w : World) (A : Option Addr) (c g E : Nat) (ds : List UInt8) (y0 b1 b2 b3 : UInt8) (dp x : Int) (HO0 : Hid (EB W w g ds A c [] 90)) (k0 : w.cell? ⟨g, 0, none⟩ = some (.int .u8 (y0.toNat : Int))) (hdp : IntKind.i64.wrap (dp - 1) = x)
    (hx0 : x < 0) (hxn : IntKind.i64.wrap (-x) = (E : Int))
    (r1 : ¬ E < 10) (r2 : E < 100) (q10 m10 : Nat) (d1 : (E : Int) / 10 = (q10 : Int)) (d2 : (E : Int) % 10 = (m10 : Int)) (d3 : IntKind.i64.wrap (q10 : Int) = (q10 : Int)) (e1 : IntKind.u8.wrap (q10 : Int) = (q10 : Int)) (e2 : IntKind.u8.wrap (m10 : Int) = (m10 : Int)) (e3 : IntKind.u8.wrap ((q10 : Int) + 48) = (b2.toNat : Int)) (e4 : IntKind.u8.wrap ((m10 : Int) + 48) = (b1.toNat : Int))
    (n1 : Nat) (hdl : ds.length = n1 + 1) (hn0 : 0 < n1) (hn1 : n1 ≤ 88) (hn32 : n1 < 31) (htl : (ds.drop 1).length = n1) (hn2 : (ds.drop 1).length + 58 ≤ 88) (hw1 : IntKind.i64.wrap ((n1 : Int) + 1) = (n1 : Int) + 1) (hmin : min ((n1 : Int) + 1) ((n1 : Int) + 1) = (n1 : Int) + 1) :
    Calls Tryz.prog 217 #[.slice A 0 c, .bool false, .slice (some ⟨g, 0, none⟩) 32 32, .int .i64 dp, .int .i64 ((n1 : Int) + 1), .int .i64 (n1 : Int), .int .u8 101, .bool true] w fun e w' => ∃ A' c' l', e = .returned (.slice A' l'.length c') ∧ l' = y0 :: (46 :: ds.drop 1 ++ 101 :: 45 :: [b2, b1]) ∧ OwnU W w' A' c' l' := by
  obtain ⟨i0, hi0, hz0, hz1, hz2⟩ := info_parts u8_infoV
  go_enter Tryz.func217, Tryz.ntmps217
  go_wp2_with (first
    | (at_builtin; have HA1 := Lib.hid (HO0.out.alloc (.cells #[.int .u8 (y0.toNat : Int)] 5)); have HR1 := Lib.hid (reads_lit1 w (y0.toNat : Int)); refine wpList_append_any _ rfl (.tmp 87) (.tmp 89) 36 rfl W.heap.size 5 i0 _ 1 1 Tryz.underlying36 hi0 hz0 hz1 hz2 rfl (by omega) (.slice A ([] : List UInt8).length c) ([] : List UInt8).length (bys ([] : List UInt8)) rfl HA1.out.own _ (some ⟨w.heap.size, 0, none⟩) 1 1 [.int .u8 (y0.toNat : Int)] rfl HR1.out (by simp [Value.oneCell']) (HA1.out.room 1 (by decide)).1 (HA1.out.room 1 (by decide)).2 HA1.out.bel.size ?_; intro v2 w1 hown2 hg2 hor2; obtain ⟨A1, c1, l1, hl1, rfl, ho2⟩ := HA1.out.app [y0] (k' := 89) (Nat.le_refl _) hown2 hg2 hor2; have HL1 := Lib.hid hl1; have HO1 := Lib.hid ho2; clear ho2 hl1 hown2 hg2 hor2 HA1 HR1)
    | (at_builtin; have HA2 := Lib.hid (HO1.out.alloc (.cells #[.int .u8 46] 5)); have HR2 := Lib.hid (reads_lit1 w1 46); refine wpList_append_any _ rfl (.tmp 93) (.tmp 94) 36 rfl W.heap.size 5 i0 _ 1 1 Tryz.underlying36 hi0 hz0 hz1 hz2 rfl (by omega) (.slice A1 l1.length c1) l1.length (bys l1) rfl HA2.out.own _ (some ⟨w1.heap.size, 0, none⟩) 1 1 [.int .u8 46] rfl HR2.out (by simp [Value.oneCell']) (HA2.out.room 1 (by decide)).1 (HA2.out.room 1 (by decide)).2 HA2.out.bel.size ?_; intro v2 w2 hown2 hg2 hor2; obtain ⟨A2, c2, l2, hl2, rfl, ho2⟩ := HA2.out.app [46] (k' := 88) (Nat.le_refl _) hown2 hg2 hor2; have HL2 := Lib.hid hl2; have HO2 := Lib.hid ho2; clear ho2 hl2 hown2 hg2 hor2 HA2 HR2)
    | (at_builtin; have HR3 := Lib.hid (HO2.out.tail hdl); refine wpList_append_any _ rfl (.tmp 103) (.tmp 107) 36 rfl W.heap.size 5 i0 _ 1 1 Tryz.underlying36 hi0 hz0 hz1 hz2 rfl (by omega) (.slice A2 l2.length c2) l2.length (bys l2) rfl HO2.out.own _ (some ⟨g, 1, none⟩) n1 31 (bys (ds.drop 1)) rfl HR3.out (oneC _) (HO2.out.room n1 hn1).1 (HO2.out.room n1 hn1).2 HO2.out.bel.size ?_; intro v2 w3 hown2 hg2 hor2; obtain ⟨A3, c3, l3, hl3, rfl, ho2⟩ := HO2.out.app (ds.drop 1) (k' := 58) hn2 (by rw [htl]; exact hown2) hg2 hor2; have HL3 := Lib.hid hl3; have HO3 := Lib.hid ho2; clear ho2 hl3 hown2 hg2 hor2 HR3))
  go_loopw [0, 114] (fun u v wr => u = .slice A3 l3.length c3 ∧ v = .int .i64 0 ∧ w3 = wr) (fun _ _ _ => 0)
  case atStart => exact ⟨rfl, by first | rfl | simp, rfl⟩
  case round =>
  obtain ⟨rfl, rfl, rfl⟩ := hrel
  go_wp2_with (first
    | (at_builtin; have HA4 := Lib.hid (HO3.out.alloc (.cells #[.int .u8 101] 5)); have HR4 := Lib.hid (reads_lit1 w3 101); refine wpList_append_any _ rfl (.tmp 120) (.tmp 122) 36 rfl W.heap.size 5 i0 _ 1 1 Tryz.underlying36 hi0 hz0 hz1 hz2 rfl (by omega) (.slice A3 l3.length c3) l3.length (bys l3) rfl HA4.out.own _ (some ⟨w3.heap.size, 0, none⟩) 1 1 [.int .u8 101] rfl HR4.out (by simp [Value.oneCell']) (HA4.out.room 1 (by decide)).1 (HA4.out.room 1 (by decide)).2 HA4.out.bel.size ?_; intro v2 w4 hown2 hg2 hor2; obtain ⟨A4, c4, l4, hl4, rfl, ho2⟩ := HA4.out.app [101] (k' := 57) (Nat.le_refl _) hown2 hg2 hor2; have HL4 := Lib.hid hl4; have HO4 := Lib.hid ho2; clear ho2 hl4 hown2 hg2 hor2 HA4 HR4)
    | (at_builtin; have HA5 := Lib.hid (HO4.out.alloc (.cells #[.int .u8 45] 5)); have HR5 := Lib.hid (reads_lit1 w4 45); refine wpList_append_any _ rfl (.tmp 132) (.tmp 134) 36 rfl W.heap.size 5 i0 _ 1 1 Tryz.underlying36 hi0 hz0 hz1 hz2 rfl (by omega) (.slice A4 l4.length c4) l4.length (bys l4) rfl HA5.out.own _ (some ⟨w4.heap.size, 0, none⟩) 1 1 [.int .u8 45] rfl HR5.out (by simp [Value.oneCell']) (HA5.out.room 1 (by decide)).1 (HA5.out.room 1 (by decide)).2 HA5.out.bel.size ?_; intro v2 w5 hown2 hg2 hor2; obtain ⟨A5, c5, l5, hl5, rfl, ho2⟩ := HA5.out.app [45] (k' := 56) (Nat.le_refl _) hown2 hg2 hor2; have HL5 := Lib.hid hl5; have HO5 := Lib.hid ho2; clear ho2 hl5 hown2 hg2 hor2 HA5 HR5)
    | (at_builtin; have HA6 := Lib.hid (HO5.out.alloc (.cells #[.int .u8 (b2.toNat : Int), .int .u8 (b1.toNat : Int)] 5)); have HR6 := Lib.hid (reads_lit2 w5 (b2.toNat : Int) (b1.toNat : Int)); refine wpList_append_any _ rfl (.tmp 164) (.tmp 173) 36 rfl W.heap.size 5 i0 _ 1 1 Tryz.underlying36 hi0 hz0 hz1 hz2 rfl (by omega) (.slice A5 l5.length c5) l5.length (bys l5) rfl HA6.out.own _ (some ⟨w5.heap.size, 0, none⟩) 2 2 [.int .u8 (b2.toNat : Int), .int .u8 (b1.toNat : Int)] rfl HR6.out (by simp [Value.oneCell']) (HA6.out.room 2 (by decide)).1 (HA6.out.room 2 (by decide)).2 HA6.out.bel.size ?_; intro v2 w6 hown2 hg2 hor2; obtain ⟨A6, c6, l6, hl6, rfl, ho2⟩ := HA6.out.app [b2, b1] (k' := 54) (Nat.le_refl _) hown2 hg2 hor2; have HL6 := Lib.hid hl6; have HO6 := Lib.hid ho2; clear ho2 hl6 hown2 hg2 hor2 HA6 HR6))
  go_ret
  exact ⟨_, _, _, rfl, by rw [HL6.out, HL5.out, HL4.out, HL3.out, HL2.out, HL1.out]; simp, HO6.out.fin⟩
set_option maxRecDepth 100000 in
set_option maxHeartbeats 1000000 in
theorem fm_nm3 (W w : World) (A : Option Addr) (c g E : Nat) (ds : List UInt8) (y0 b1 b2 b3 : UInt8) (dp x : Int) (HO0 : Hid (EB W w g ds A c [] 90)) (k0 : w.cell? ⟨g, 0, none⟩ = some (.int .u8 (y0.toNat : Int))) (hdp : IntKind.i64.wrap (dp - 1) = x)
    (hx0 : x < 0) (hxn : IntKind.i64.wrap (-x) = (E : Int))
    (r1 : ¬ E < 10) (r2 : ¬ E < 100) (q100 q10 m10 mm : Nat) (d0 : (E : Int) / 100 = (q100 : Int)) (d1 : (E : Int) / 10 = (q10 : Int)) (d2 : (E : Int) % 10 = (m10 : Int)) (d3 : IntKind.i64.wrap (q10 : Int) = (q10 : Int)) (d4 : IntKind.i64.wrap (q100 : Int) = (q100 : Int)) (e0 : IntKind.u8.wrap (q100 : Int) = (q100 : Int)) (e1 : IntKind.u8.wrap (q10 : Int) = (q10 : Int)) (e2 : IntKind.u8.wrap (m10 : Int) = (m10 : Int)) (d5 : (q10 : Int) % 10 = (mm : Int)) (e5 : IntKind.u8.wrap ((q100 : Int) + 48) = (b3.toNat : Int)) (e3 : IntKind.u8.wrap ((mm : Int) + 48) = (b2.toNat : Int)) (e4 : IntKind.u8.wrap ((m10 : Int) + 48) = (b1.toNat : Int))
    (n1 : Nat) (hdl : ds.length = n1 + 1) (hn0 : 0 < n1) (hn1 : n1 ≤ 88) (hn32 : n1 < 31) (htl : (ds.drop 1).length = n1) (hn2 : (ds.drop 1).length + 58 ≤ 88) (hw1 : IntKind.i64.wrap ((n1 : Int) + 1) = (n1 : Int) + 1) (hmin : min ((n1 : Int) + 1) ((n1 : Int) + 1) = (n1 : Int) + 1) :
    Calls Tryz.prog 217 #[.slice A 0 c, .bool false, .slice (some ⟨g, 0, none⟩) 32 32, .int .i64 dp, .int .i64 ((n1 : Int) + 1), .int .i64 (n1 : Int), .int .u8 101, .bool true] w fun e w' => ∃ A' c' l', e = .returned (.slice A' l'.length c') ∧ l' = y0 :: (46 :: ds.drop 1 ++ 101 :: 45 :: [b3, b2, b1]) ∧ OwnU W w' A' c' l' := by
  obtain ⟨i0, hi0, hz0, hz1, hz2⟩ := info_parts u8_infoV
  go_enter Tryz.func217, Tryz.ntmps217
  go_wp2_with (first
    | (at_builtin; have HA1 := Lib.hid (HO0.out.alloc (.cells #[.int .u8 (y0.toNat : Int)] 5)); have HR1 := Lib.hid (reads_lit1 w (y0.toNat : Int)); refine wpList_append_any _ rfl (.tmp 87) (.tmp 89) 36 rfl W.heap.size 5 i0 _ 1 1 Tryz.underlying36 hi0 hz0 hz1 hz2 rfl (by omega) (.slice A ([] : List UInt8).length c) ([] : List UInt8).length (bys ([] : List UInt8)) rfl HA1.out.own _ (some ⟨w.heap.size, 0, none⟩) 1 1 [.int .u8 (y0.toNat : Int)] rfl HR1.out (by simp [Value.oneCell']) (HA1.out.room 1 (by decide)).1 (HA1.out.room 1 (by decide)).2 HA1.out.bel.size ?_; intro v2 w1 hown2 hg2 hor2; obtain ⟨A1, c1, l1, hl1, rfl, ho2⟩ := HA1.out.app [y0] (k' := 89) (Nat.le_refl _) hown2 hg2 hor2; have HL1 := Lib.hid hl1; have HO1 := Lib.hid ho2; clear ho2 hl1 hown2 hg2 hor2 HA1 HR1)
    | (at_builtin; have HA2 := Lib.hid (HO1.out.alloc (.cells #[.int .u8 46] 5)); have HR2 := Lib.hid (reads_lit1 w1 46); refine wpList_append_any _ rfl (.tmp 93) (.tmp 94) 36 rfl W.heap.size 5 i0 _ 1 1 Tryz.underlying36 hi0 hz0 hz1 hz2 rfl (by omega) (.slice A1 l1.length c1) l1.length (bys l1) rfl HA2.out.own _ (some ⟨w1.heap.size, 0, none⟩) 1 1 [.int .u8 46] rfl HR2.out (by simp [Value.oneCell']) (HA2.out.room 1 (by decide)).1 (HA2.out.room 1 (by decide)).2 HA2.out.bel.size ?_; intro v2 w2 hown2 hg2 hor2; obtain ⟨A2, c2, l2, hl2, rfl, ho2⟩ := HA2.out.app [46] (k' := 88) (Nat.le_refl _) hown2 hg2 hor2; have HL2 := Lib.hid hl2; have HO2 := Lib.hid ho2; clear ho2 hl2 hown2 hg2 hor2 HA2 HR2)
    | (at_builtin; have HR3 := Lib.hid (HO2.out.tail hdl); refine wpList_append_any _ rfl (.tmp 103) (.tmp 107) 36 rfl W.heap.size 5 i0 _ 1 1 Tryz.underlying36 hi0 hz0 hz1 hz2 rfl (by omega) (.slice A2 l2.length c2) l2.length (bys l2) rfl HO2.out.own _ (some ⟨g, 1, none⟩) n1 31 (bys (ds.drop 1)) rfl HR3.out (oneC _) (HO2.out.room n1 hn1).1 (HO2.out.room n1 hn1).2 HO2.out.bel.size ?_; intro v2 w3 hown2 hg2 hor2; obtain ⟨A3, c3, l3, hl3, rfl, ho2⟩ := HO2.out.app (ds.drop 1) (k' := 58) hn2 (by rw [htl]; exact hown2) hg2 hor2; have HL3 := Lib.hid hl3; have HO3 := Lib.hid ho2; clear ho2 hl3 hown2 hg2 hor2 HR3))
  go_loopw [0, 114] (fun u v wr => u = .slice A3 l3.length c3 ∧ v = .int .i64 0 ∧ w3 = wr) (fun _ _ _ => 0)
  case atStart => exact ⟨rfl, by first | rfl | simp, rfl⟩
  case round =>
  obtain ⟨rfl, rfl, rfl⟩ := hrel
  go_wp2_with (first
    | (at_builtin; have HA4 := Lib.hid (HO3.out.alloc (.cells #[.int .u8 101] 5)); have HR4 := Lib.hid (reads_lit1 w3 101); refine wpList_append_any _ rfl (.tmp 120) (.tmp 122) 36 rfl W.heap.size 5 i0 _ 1 1 Tryz.underlying36 hi0 hz0 hz1 hz2 rfl (by omega) (.slice A3 l3.length c3) l3.length (bys l3) rfl HA4.out.own _ (some ⟨w3.heap.size, 0, none⟩) 1 1 [.int .u8 101] rfl HR4.out (by simp [Value.oneCell']) (HA4.out.room 1 (by decide)).1 (HA4.out.room 1 (by decide)).2 HA4.out.bel.size ?_; intro v2 w4 hown2 hg2 hor2; obtain ⟨A4, c4, l4, hl4, rfl, ho2⟩ := HA4.out.app [101] (k' := 57) (Nat.le_refl _) hown2 hg2 hor2; have HL4 := Lib.hid hl4; have HO4 := Lib.hid ho2; clear ho2 hl4 hown2 hg2 hor2 HA4 HR4)
    | (at_builtin; have HA5 := Lib.hid (HO4.out.alloc (.cells #[.int .u8 45] 5)); have HR5 := Lib.hid (reads_lit1 w4 45); refine wpList_append_any _ rfl (.tmp 132) (.tmp 134) 36 rfl W.heap.size 5 i0 _ 1 1 Tryz.underlying36 hi0 hz0 hz1 hz2 rfl (by omega) (.slice A4 l4.length c4) l4.length (bys l4) rfl HA5.out.own _ (some ⟨w4.heap.size, 0, none⟩) 1 1 [.int .u8 45] rfl HR5.out (by simp [Value.oneCell']) (HA5.out.room 1 (by decide)).1 (HA5.out.room 1 (by decide)).2 HA5.out.bel.size ?_; intro v2 w5 hown2 hg2 hor2; obtain ⟨A5, c5, l5, hl5, rfl, ho2⟩ := HA5.out.app [45] (k' := 56) (Nat.le_refl _) hown2 hg2 hor2; have HL5 := Lib.hid hl5; have HO5 := Lib.hid ho2; clear ho2 hl5 hown2 hg2 hor2 HA5 HR5)
    | (at_builtin; have HA6 := Lib.hid (HO5.out.alloc (.cells #[.int .u8 (b3.toNat : Int), .int .u8 (b2.toNat : Int), .int .u8 (b1.toNat : Int)] 5)); have HR6 := Lib.hid (reads_lit3 w5 (b3.toNat : Int) (b2.toNat : Int) (b1.toNat : Int)); refine wpList_append_any _ rfl (.tmp 136) (.tmp 150) 36 rfl W.heap.size 5 i0 _ 1 1 Tryz.underlying36 hi0 hz0 hz1 hz2 rfl (by omega) (.slice A5 l5.length c5) l5.length (bys l5) rfl HA6.out.own _ (some ⟨w5.heap.size, 0, none⟩) 3 3 [.int .u8 (b3.toNat : Int), .int .u8 (b2.toNat : Int), .int .u8 (b1.toNat : Int)] rfl HR6.out (by simp [Value.oneCell']) (HA6.out.room 3 (by decide)).1 (HA6.out.room 3 (by decide)).2 HA6.out.bel.size ?_; intro v2 w6 hown2 hg2 hor2; obtain ⟨A6, c6, l6, hl6, rfl, ho2⟩ := HA6.out.app [b3, b2, b1] (k' := 53) (Nat.le_refl _) hown2 hg2 hor2; have HL6 := Lib.hid hl6; have HO6 := Lib.hid ho2; clear ho2 hl6 hown2 hg2 hor2 HA6 HR6))
  go_ret
  exact ⟨_, _, _, rfl, by rw [HL6.out, HL5.out, HL4.out, HL3.out, HL2.out, HL1.out]; simp, HO6.out.fin⟩
theorem bN {v : Nat} (hv : v < 10) : ((UInt8.ofNat (48 + v)).toNat : Int) = (v : Int) + 48 := by
  rw [UInt8.toNat_ofNat']; omega
theorem wu8 {v : Nat} (hv : v < 200) : IntKind.u8.wrap (v : Int) = (v : Int) := by rw [IntKind.wrap_u8]; omega
theorem wu8b {v : Nat} (hv : v < 10) : IntKind.u8.wrap ((v : Int) + 48) = ((UInt8.ofNat (48 + v)).toNat : Int) := by rw [bN hv, IntKind.wrap_u8]; omega
theorem dec3 {E : Nat} (h1 : ¬ E < 10) (h2 : ¬ E < 100) (h3 : E < 1000) : Lib.decDigits E = [UInt8.ofNat (48 + E / 100), UInt8.ofNat (48 + E / 10 % 10), UInt8.ofNat (48 + E % 10)] := by
  rw [Lib.decDigits, dif_neg h1, Lib.decDigits_two (by omega) (by omega), Nat.div_div_eq_div_mul]
  rfl
theorem ptT_o {d : Nat} {y0 : UInt8} (h : Lib.decDigits d = [y0]) : ptT d = [y0] := by
  have hl : lenD d = 1 := by unfold lenD; rw [h]; rfl
  rw [ptT_one hl, h]
theorem ptT_m {d : Nat} {y0 : UInt8} {tl : List UInt8} (h : Lib.decDigits d = y0 :: tl) (ht : 0 < tl.length) : ptT d = y0 :: 46 :: tl := by
  have hl : ¬ lenD d = 1 := by unfold lenD; rw [h, List.length_cons]; omega
  rw [ptT_more hl, h]
  rfl
theorem expT_m {x : Int} (h : x < 0) : expT x = 45 :: (if x.natAbs < 10 then 48 :: Lib.decDigits x.natAbs else Lib.decDigits x.natAbs) := by unfold expT; rw [if_pos h]
theorem expT_p {x : Int} (h : ¬ x < 0) : expT x = 43 :: (if x.natAbs < 10 then 48 :: Lib.decDigits x.natAbs else Lib.decDigits x.natAbs) := by unfold expT; rw [if_neg h]
set_option maxRecDepth 100000 in
theorem c_fmtI (W w : World) (A : Option Addr) (c g d : Nat) (dp x : Int) (ho : OwnU W w A c []) (hg : DgC w g (Lib.decDigits d)) (hne : (Value.slice A 0 c).ownBlock ≠ some g) (hl : lenD d ≤ 20) (hdp : dp = x + 1) (hx1 : -400 ≤ x) (hx2 : x ≤ 400) :
    Calls Tryz.prog 217 #[.slice A 0 c, .bool false, .slice (some ⟨g, 0, none⟩) 32 32, .int .i64 dp, .int .i64 ((lenD d : Nat) : Int), .int .i64 ((lenD d : Nat) - 1 : Int), .int .u8 101, .bool true] w fun e w' => ∃ A' c', e = .returned (.slice A' (eTxt d x).length c') ∧ OwnU W w' A' c' (eTxt d x) := by
  have HO : Hid (EB W w g (Lib.decDigits d) A c [] 90) := ⟨ho.1, ho.2, hg, hne, by decide⟩
  have hp := lenD_pos d
  obtain ⟨y0, tl, hds⟩ : ∃ y0 tl, Lib.decDigits d = y0 :: tl := by
    cases h : Lib.decDigits d with
    | nil => unfold lenD at hp; rw [h] at hp; cases hp
    | cons a t => exact ⟨a, t, rfl⟩
  have hlen : lenD d = tl.length + 1 := by unfold lenD; rw [hds]; rfl
  have k0 : w.cell? ⟨g, 0, none⟩ = some (.int .u8 (y0.toNat : Int)) := hg.2 0 y0 (by rw [hds]; rfl)
  have hdw : IntKind.i64.wrap (dp - 1) = x := by rw [IntWalk.i64_in _ (by omega)]; omega
  have key : ∀ L : List UInt8, ∀ e w', (∃ A' c' l', e = Ending.returned (.slice A' l'.length c') ∧ l' = L ∧ OwnU W w' A' c' l') → L = eTxt d x → ∃ A' c', e = .returned (.slice A' (eTxt d x).length c') ∧ OwnU W w' A' c' (eTxt d x) := by
    rintro L e w' ⟨A', c', l', h1, rfl, h3⟩ h4
    rw [h4] at h1 h3
    exact ⟨A', c', h1, h3⟩
  obtain ⟨E, hE⟩ : ∃ E, x.natAbs = E := ⟨_, rfl⟩
  rcases Nat.eq_zero_or_pos tl.length with ht | ht
  · obtain rfl := List.eq_nil_of_length_eq_zero ht
    rw [show ((lenD d : Nat) : Int) = 1 from by rw [hlen]; rfl]
    show Calls _ _ #[_, _, _, _, _, .int .i64 0, _, _] _ _
    by_cases hx0 : x < 0
    · by_cases r1 : E < 10
      · refine (fm_om1 W w A c g E (Lib.decDigits d) y0 (UInt8.ofNat (48 + E)) 0 0 dp x HO k0 hdw hx0 (by rw [IntWalk.i64_in _ (by omega)]; omega) r1 (wu8 (by omega)) (wu8b r1) ).mono fun e w' h => key _ e w' h ?_
        unfold eTxt
        rw [ptT_o hds, expT_m hx0, hE, if_pos r1, Lib.decDigits_one r1]
        rfl
      · by_cases r2 : E < 100
        · refine (fm_om2 W w A c g E (Lib.decDigits d) y0 (UInt8.ofNat (48 + E % 10)) (UInt8.ofNat (48 + E / 10)) 0 dp x HO k0 hdw hx0 (by rw [IntWalk.i64_in _ (by omega)]; omega) r1 r2 (E / 10) (E % 10) (by omega) (by omega) (IntWalk.i64_in _ (by omega)) (wu8 (by omega)) (wu8 (by omega)) (wu8b (by omega)) (wu8b (by omega)) ).mono fun e w' h => key _ e w' h ?_
          unfold eTxt
          rw [ptT_o hds, expT_m hx0, hE, if_neg r1, Lib.decDigits_two r1 r2]
          rfl
        · refine (fm_om3 W w A c g E (Lib.decDigits d) y0 (UInt8.ofNat (48 + E % 10)) (UInt8.ofNat (48 + E / 10 % 10)) (UInt8.ofNat (48 + E / 100)) dp x HO k0 hdw hx0 (by rw [IntWalk.i64_in _ (by omega)]; omega) r1 r2 (E / 100) (E / 10) (E % 10) (E / 10 % 10) (by omega) (by omega) (by omega) (IntWalk.i64_in _ (by omega)) (IntWalk.i64_in _ (by omega)) (wu8 (by omega)) (wu8 (by omega)) (wu8 (by omega)) (by omega) (wu8b (by omega)) (wu8b (by omega)) (wu8b (by omega)) ).mono fun e w' h => key _ e w' h ?_
          unfold eTxt
          rw [ptT_o hds, expT_m hx0, hE, if_neg r1, dec3 r1 r2 (by omega)]
          rfl
    · by_cases r1 : E < 10
      · refine (fm_op1 W w A c g E (Lib.decDigits d) y0 (UInt8.ofNat (48 + E)) 0 0 dp x HO k0 hdw (by omega) (by omega) r1 (wu8 (by omega)) (wu8b r1) ).mono fun e w' h => key _ e w' h ?_
        unfold eTxt
        rw [ptT_o hds, expT_p hx0, hE, if_pos r1, Lib.decDigits_one r1]
        rfl
      · by_cases r2 : E < 100
        · refine (fm_op2 W w A c g E (Lib.decDigits d) y0 (UInt8.ofNat (48 + E % 10)) (UInt8.ofNat (48 + E / 10)) 0 dp x HO k0 hdw (by omega) (by omega) r1 r2 (E / 10) (E % 10) (by omega) (by omega) (IntWalk.i64_in _ (by omega)) (wu8 (by omega)) (wu8 (by omega)) (wu8b (by omega)) (wu8b (by omega)) ).mono fun e w' h => key _ e w' h ?_
          unfold eTxt
          rw [ptT_o hds, expT_p hx0, hE, if_neg r1, Lib.decDigits_two r1 r2]
          rfl
        · refine (fm_op3 W w A c g E (Lib.decDigits d) y0 (UInt8.ofNat (48 + E % 10)) (UInt8.ofNat (48 + E / 10 % 10)) (UInt8.ofNat (48 + E / 100)) dp x HO k0 hdw (by omega) (by omega) r1 r2 (E / 100) (E / 10) (E % 10) (E / 10 % 10) (by omega) (by omega) (by omega) (IntWalk.i64_in _ (by omega)) (IntWalk.i64_in _ (by omega)) (wu8 (by omega)) (wu8 (by omega)) (wu8 (by omega)) (by omega) (wu8b (by omega)) (wu8b (by omega)) (wu8b (by omega)) ).mono fun e w' h => key _ e w' h ?_
          unfold eTxt
          rw [ptT_o hds, expT_p hx0, hE, if_neg r1, dec3 r1 r2 (by omega)]
          rfl
  · rw [show ((lenD d : Nat) : Int) = (tl.length : Int) + 1 from by omega, show (tl.length : Int) + 1 - 1 = (tl.length : Int) from by omega]
    by_cases hx0 : x < 0
    · by_cases r1 : E < 10
      · refine (fm_nm1 W w A c g E (Lib.decDigits d) y0 (UInt8.ofNat (48 + E)) 0 0 dp x HO k0 hdw hx0 (by rw [IntWalk.i64_in _ (by omega)]; omega) r1 (wu8 (by omega)) (wu8b r1) tl.length (by rw [hds]; rfl) ht (by omega) (by omega) (by rw [hds]; rfl) (by rw [hds]; show tl.length + 58 ≤ 88; omega) (IntWalk.i64_in _ (by omega)) (Int.min_self _) ).mono fun e w' h => key _ e w' h ?_
        unfold eTxt
        rw [ptT_m hds ht, expT_m hx0, hE, if_pos r1, Lib.decDigits_one r1, hds]
        simp
      · by_cases r2 : E < 100
        · refine (fm_nm2 W w A c g E (Lib.decDigits d) y0 (UInt8.ofNat (48 + E % 10)) (UInt8.ofNat (48 + E / 10)) 0 dp x HO k0 hdw hx0 (by rw [IntWalk.i64_in _ (by omega)]; omega) r1 r2 (E / 10) (E % 10) (by omega) (by omega) (IntWalk.i64_in _ (by omega)) (wu8 (by omega)) (wu8 (by omega)) (wu8b (by omega)) (wu8b (by omega)) tl.length (by rw [hds]; rfl) ht (by omega) (by omega) (by rw [hds]; rfl) (by rw [hds]; show tl.length + 58 ≤ 88; omega) (IntWalk.i64_in _ (by omega)) (Int.min_self _) ).mono fun e w' h => key _ e w' h ?_
          unfold eTxt
          rw [ptT_m hds ht, expT_m hx0, hE, if_neg r1, Lib.decDigits_two r1 r2, hds]
          simp
        · refine (fm_nm3 W w A c g E (Lib.decDigits d) y0 (UInt8.ofNat (48 + E % 10)) (UInt8.ofNat (48 + E / 10 % 10)) (UInt8.ofNat (48 + E / 100)) dp x HO k0 hdw hx0 (by rw [IntWalk.i64_in _ (by omega)]; omega) r1 r2 (E / 100) (E / 10) (E % 10) (E / 10 % 10) (by omega) (by omega) (by omega) (IntWalk.i64_in _ (by omega)) (IntWalk.i64_in _ (by omega)) (wu8 (by omega)) (wu8 (by omega)) (wu8 (by omega)) (by omega) (wu8b (by omega)) (wu8b (by omega)) (wu8b (by omega)) tl.length (by rw [hds]; rfl) ht (by omega) (by omega) (by rw [hds]; rfl) (by rw [hds]; show tl.length + 58 ≤ 88; omega) (IntWalk.i64_in _ (by omega)) (Int.min_self _) ).mono fun e w' h => key _ e w' h ?_
          unfold eTxt
          rw [ptT_m hds ht, expT_m hx0, hE, if_neg r1, dec3 r1 r2 (by omega), hds]
          simp
    · by_cases r1 : E < 10
      · refine (fm_np1 W w A c g E (Lib.decDigits d) y0 (UInt8.ofNat (48 + E)) 0 0 dp x HO k0 hdw (by omega) (by omega) r1 (wu8 (by omega)) (wu8b r1) tl.length (by rw [hds]; rfl) ht (by omega) (by omega) (by rw [hds]; rfl) (by rw [hds]; show tl.length + 58 ≤ 88; omega) (IntWalk.i64_in _ (by omega)) (Int.min_self _) ).mono fun e w' h => key _ e w' h ?_
        unfold eTxt
        rw [ptT_m hds ht, expT_p hx0, hE, if_pos r1, Lib.decDigits_one r1, hds]
        simp
      · by_cases r2 : E < 100
        · refine (fm_np2 W w A c g E (Lib.decDigits d) y0 (UInt8.ofNat (48 + E % 10)) (UInt8.ofNat (48 + E / 10)) 0 dp x HO k0 hdw (by omega) (by omega) r1 r2 (E / 10) (E % 10) (by omega) (by omega) (IntWalk.i64_in _ (by omega)) (wu8 (by omega)) (wu8 (by omega)) (wu8b (by omega)) (wu8b (by omega)) tl.length (by rw [hds]; rfl) ht (by omega) (by omega) (by rw [hds]; rfl) (by rw [hds]; show tl.length + 58 ≤ 88; omega) (IntWalk.i64_in _ (by omega)) (Int.min_self _) ).mono fun e w' h => key _ e w' h ?_
          unfold eTxt
          rw [ptT_m hds ht, expT_p hx0, hE, if_neg r1, Lib.decDigits_two r1 r2, hds]
          simp
        · refine (fm_np3 W w A c g E (Lib.decDigits d) y0 (UInt8.ofNat (48 + E % 10)) (UInt8.ofNat (48 + E / 10 % 10)) (UInt8.ofNat (48 + E / 100)) dp x HO k0 hdw (by omega) (by omega) r1 r2 (E / 100) (E / 10) (E % 10) (E / 10 % 10) (by omega) (by omega) (by omega) (IntWalk.i64_in _ (by omega)) (IntWalk.i64_in _ (by omega)) (wu8 (by omega)) (wu8 (by omega)) (wu8 (by omega)) (by omega) (wu8b (by omega)) (wu8b (by omega)) (wu8b (by omega)) tl.length (by rw [hds]; rfl) ht (by omega) (by omega) (by rw [hds]; rfl) (by rw [hds]; show tl.length + 58 ≤ 88; omega) (IntWalk.i64_in _ (by omega)) (Int.min_self _) ).mono fun e w' h => key _ e w' h ?_
          unfold eTxt
          rw [ptT_m hds ht, expT_p hx0, hE, if_neg r1, dec3 r1 r2 (by omega), hds]
          simp
end Go.Proofs.YtigbbogfnchgnaaGreatDoor
