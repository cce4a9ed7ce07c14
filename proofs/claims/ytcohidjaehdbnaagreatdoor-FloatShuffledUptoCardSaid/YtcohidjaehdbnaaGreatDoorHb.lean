/- The law of the order of floats, walked behind a call that is alive. Conditions: bits below 2^64; the call 'alive' as stated. -/
import Derived.Test.YtcohidjaehdbnaaGreatDoorHa
import Derived.Test.YtcohidjaehdbnaaGreatDoorFw2
import Derived.Below
import Derived.Lib.Hide
namespace Go.Proofs.YtcohidjaehdbnaaGreatDoor
open Go.RowKit
set_option linter.unusedVariables false

def Alive (w : World) : Prop := Calls Tryz.prog 6 #[] w fun e w' => e = .returned (.bool true) ∧ Below w.heap.size w w'
theorem c_CmpV {a b : Nat} {v : Int} (ha : a < 18446744073709551616) (hb : b < 18446744073709551616) (h : fcmp a b = v) (w : World) : Calls Tryz.prog 10 #[.float .f64 a, .float .f64 b] w fun e w' => e = .returned (.int .i64 v) ∧ w = w' := h ▸ c_Compare a b ha hb w
theorem c_OrdV {a : Nat} {k : Int} (ha : a < 18446744073709551616) (h : (fkey a : Int) = k) (w : World) : Calls Tryz.prog 8 #[.float .f64 a] w fun e w' => e = .returned (.int .u64 k) ∧ w = w' := h ▸ c_Order a ha w
theorem c_SameV {a b : Nat} {v : Bool} (h : ((fone a : Int) == (fone b : Int)) = v) (w : World) : Calls Tryz.prog 9 #[.float .f64 a, .float .f64 b] w fun e w' => e = .returned (.bool v) ∧ w = w' := h ▸ c_Same a b w
theorem fl_lt_t_m {a b c : Nat} {ka kb : Int} (w : World) (hal' : Hid (Alive w)) (OA : Hid (∀ w, Calls Tryz.prog 8 #[.float .f64 a] w fun e w' => e = .returned (.int .u64 ka) ∧ w = w')) (OB : Hid (∀ w, Calls Tryz.prog 8 #[.float .f64 b] w fun e w' => e = .returned (.int .u64 kb) ∧ w = w')) (CAB : Hid (∀ w, Calls Tryz.prog 10 #[.float .f64 a, .float .f64 b] w fun e w' => e = .returned (.int .i64 (-1)) ∧ w = w')) (CBA : Hid (∀ w, Calls Tryz.prog 10 #[.float .f64 b, .float .f64 a] w fun e w' => e = .returned (.int .i64 (1)) ∧ w = w')) (CBC : Hid (∀ w, Calls Tryz.prog 10 #[.float .f64 b, .float .f64 c] w fun e w' => e = .returned (.int .i64 (-1)) ∧ w = w')) (SAB : Hid (∀ w, Calls Tryz.prog 9 #[.float .f64 a, .float .f64 b] w fun e w' => e = .returned (.bool false) ∧ w = w')) (CAC : Hid (∀ w, Calls Tryz.prog 10 #[.float .f64 a, .float .f64 c] w fun e w' => e = .returned (.int .i64 (-1)) ∧ w = w'))
    (l1 : ka < kb) (l2 : (ka == kb) = false) (hL : (FloatKind.f64.format.order a b == some .lt) = true) : Calls Tryz.prog 3 #[.int .u64 (a : Int), .int .u64 (b : Int), .int .u64 (c : Int)] w fun e w' => e = .returned (.bool true) ∧ Below w.heap.size w w' := by
    have k1 := call_frombits a
    have k2 := call_frombits b
    have k3 := call_frombits c
    go_enter Tryz.func3, Tryz.ntmps3
    go_wp2_with fail
    refine hal'.out.mono ?_; rintro e w1 ⟨rfl, hb1⟩
    have HB := Lib.hid hb1
    clear hb1 hal'
    go_wp2_with fail
    refine (OA.out _).mono ?_; rintro e w' ⟨rfl, rfl⟩
    go_wp2_with fail
    refine (OB.out _).mono ?_; rintro e w' ⟨rfl, rfl⟩
    go_wp2_with fail
    refine (SAB.out _).mono ?_; rintro e w' ⟨rfl, rfl⟩
    go_wp2_with fail
    refine (CAB.out _).mono ?_; rintro e w' ⟨rfl, rfl⟩
    go_wp2_with fail
    refine (CAB.out _).mono ?_; rintro e w' ⟨rfl, rfl⟩
    go_wp2_with fail
    refine (CBA.out _).mono ?_; rintro e w' ⟨rfl, rfl⟩
    go_wp2_with fail
    refine (CAB.out _).mono ?_; rintro e w' ⟨rfl, rfl⟩
    go_wp2_with fail
    refine (OA.out _).mono ?_; rintro e w' ⟨rfl, rfl⟩
    go_wp2_with fail
    refine (OB.out _).mono ?_; rintro e w' ⟨rfl, rfl⟩
    go_wp2_with fail
    refine (CAB.out _).mono ?_; rintro e w' ⟨rfl, rfl⟩
    go_wp2_with fail
    refine (CBC.out _).mono ?_; rintro e w' ⟨rfl, rfl⟩
    go_wp2_with fail
    refine (CAC.out _).mono ?_; rintro e w' ⟨rfl, rfl⟩
    go_wp2
    go_ret
    exact ⟨rfl, HB.out⟩
theorem fl_lt_t_z {a b c : Nat} {ka kb : Int} (w : World) (hal' : Hid (Alive w)) (OA : Hid (∀ w, Calls Tryz.prog 8 #[.float .f64 a] w fun e w' => e = .returned (.int .u64 ka) ∧ w = w')) (OB : Hid (∀ w, Calls Tryz.prog 8 #[.float .f64 b] w fun e w' => e = .returned (.int .u64 kb) ∧ w = w')) (CAB : Hid (∀ w, Calls Tryz.prog 10 #[.float .f64 a, .float .f64 b] w fun e w' => e = .returned (.int .i64 (-1)) ∧ w = w')) (CBA : Hid (∀ w, Calls Tryz.prog 10 #[.float .f64 b, .float .f64 a] w fun e w' => e = .returned (.int .i64 (1)) ∧ w = w')) (CBC : Hid (∀ w, Calls Tryz.prog 10 #[.float .f64 b, .float .f64 c] w fun e w' => e = .returned (.int .i64 (0)) ∧ w = w')) (SAB : Hid (∀ w, Calls Tryz.prog 9 #[.float .f64 a, .float .f64 b] w fun e w' => e = .returned (.bool false) ∧ w = w'))
    (l1 : ka < kb) (l2 : (ka == kb) = false) (hL : (FloatKind.f64.format.order a b == some .lt) = true) : Calls Tryz.prog 3 #[.int .u64 (a : Int), .int .u64 (b : Int), .int .u64 (c : Int)] w fun e w' => e = .returned (.bool true) ∧ Below w.heap.size w w' := by
    have k1 := call_frombits a
    have k2 := call_frombits b
    have k3 := call_frombits c
    go_enter Tryz.func3, Tryz.ntmps3
    go_wp2_with fail
    refine hal'.out.mono ?_; rintro e w1 ⟨rfl, hb1⟩
    have HB := Lib.hid hb1
    clear hb1 hal'
    go_wp2_with fail
    refine (OA.out _).mono ?_; rintro e w' ⟨rfl, rfl⟩
    go_wp2_with fail
    refine (OB.out _).mono ?_; rintro e w' ⟨rfl, rfl⟩
    go_wp2_with fail
    refine (SAB.out _).mono ?_; rintro e w' ⟨rfl, rfl⟩
    go_wp2_with fail
    refine (CAB.out _).mono ?_; rintro e w' ⟨rfl, rfl⟩
    go_wp2_with fail
    refine (CAB.out _).mono ?_; rintro e w' ⟨rfl, rfl⟩
    go_wp2_with fail
    refine (CBA.out _).mono ?_; rintro e w' ⟨rfl, rfl⟩
    go_wp2_with fail
    refine (CAB.out _).mono ?_; rintro e w' ⟨rfl, rfl⟩
    go_wp2_with fail
    refine (OA.out _).mono ?_; rintro e w' ⟨rfl, rfl⟩
    go_wp2_with fail
    refine (OB.out _).mono ?_; rintro e w' ⟨rfl, rfl⟩
    go_wp2_with fail
    refine (CAB.out _).mono ?_; rintro e w' ⟨rfl, rfl⟩
    go_wp2_with fail
    refine (CBC.out _).mono ?_; rintro e w' ⟨rfl, rfl⟩
    go_wp2
    go_ret
    exact ⟨rfl, HB.out⟩
theorem fl_lt_t_p {a b c : Nat} {ka kb : Int} (w : World) (hal' : Hid (Alive w)) (OA : Hid (∀ w, Calls Tryz.prog 8 #[.float .f64 a] w fun e w' => e = .returned (.int .u64 ka) ∧ w = w')) (OB : Hid (∀ w, Calls Tryz.prog 8 #[.float .f64 b] w fun e w' => e = .returned (.int .u64 kb) ∧ w = w')) (CAB : Hid (∀ w, Calls Tryz.prog 10 #[.float .f64 a, .float .f64 b] w fun e w' => e = .returned (.int .i64 (-1)) ∧ w = w')) (CBA : Hid (∀ w, Calls Tryz.prog 10 #[.float .f64 b, .float .f64 a] w fun e w' => e = .returned (.int .i64 (1)) ∧ w = w')) (CBC : Hid (∀ w, Calls Tryz.prog 10 #[.float .f64 b, .float .f64 c] w fun e w' => e = .returned (.int .i64 (1)) ∧ w = w')) (SAB : Hid (∀ w, Calls Tryz.prog 9 #[.float .f64 a, .float .f64 b] w fun e w' => e = .returned (.bool false) ∧ w = w'))
    (l1 : ka < kb) (l2 : (ka == kb) = false) (hL : (FloatKind.f64.format.order a b == some .lt) = true) : Calls Tryz.prog 3 #[.int .u64 (a : Int), .int .u64 (b : Int), .int .u64 (c : Int)] w fun e w' => e = .returned (.bool true) ∧ Below w.heap.size w w' := by
    have k1 := call_frombits a
    have k2 := call_frombits b
    have k3 := call_frombits c
    go_enter Tryz.func3, Tryz.ntmps3
    go_wp2_with fail
    refine hal'.out.mono ?_; rintro e w1 ⟨rfl, hb1⟩
    have HB := Lib.hid hb1
    clear hb1 hal'
    go_wp2_with fail
    refine (OA.out _).mono ?_; rintro e w' ⟨rfl, rfl⟩
    go_wp2_with fail
    refine (OB.out _).mono ?_; rintro e w' ⟨rfl, rfl⟩
    go_wp2_with fail
    refine (SAB.out _).mono ?_; rintro e w' ⟨rfl, rfl⟩
    go_wp2_with fail
    refine (CAB.out _).mono ?_; rintro e w' ⟨rfl, rfl⟩
    go_wp2_with fail
    refine (CAB.out _).mono ?_; rintro e w' ⟨rfl, rfl⟩
    go_wp2_with fail
    refine (CBA.out _).mono ?_; rintro e w' ⟨rfl, rfl⟩
    go_wp2_with fail
    refine (CAB.out _).mono ?_; rintro e w' ⟨rfl, rfl⟩
    go_wp2_with fail
    refine (OA.out _).mono ?_; rintro e w' ⟨rfl, rfl⟩
    go_wp2_with fail
    refine (OB.out _).mono ?_; rintro e w' ⟨rfl, rfl⟩
    go_wp2_with fail
    refine (CAB.out _).mono ?_; rintro e w' ⟨rfl, rfl⟩
    go_wp2_with fail
    refine (CBC.out _).mono ?_; rintro e w' ⟨rfl, rfl⟩
    go_wp2
    go_ret
    exact ⟨rfl, HB.out⟩
theorem fl_lt_f_m {a b c : Nat} {ka kb : Int} (w : World) (hal' : Hid (Alive w)) (OA : Hid (∀ w, Calls Tryz.prog 8 #[.float .f64 a] w fun e w' => e = .returned (.int .u64 ka) ∧ w = w')) (OB : Hid (∀ w, Calls Tryz.prog 8 #[.float .f64 b] w fun e w' => e = .returned (.int .u64 kb) ∧ w = w')) (CAB : Hid (∀ w, Calls Tryz.prog 10 #[.float .f64 a, .float .f64 b] w fun e w' => e = .returned (.int .i64 (-1)) ∧ w = w')) (CBA : Hid (∀ w, Calls Tryz.prog 10 #[.float .f64 b, .float .f64 a] w fun e w' => e = .returned (.int .i64 (1)) ∧ w = w')) (CBC : Hid (∀ w, Calls Tryz.prog 10 #[.float .f64 b, .float .f64 c] w fun e w' => e = .returned (.int .i64 (-1)) ∧ w = w')) (SAB : Hid (∀ w, Calls Tryz.prog 9 #[.float .f64 a, .float .f64 b] w fun e w' => e = .returned (.bool false) ∧ w = w')) (CAC : Hid (∀ w, Calls Tryz.prog 10 #[.float .f64 a, .float .f64 c] w fun e w' => e = .returned (.int .i64 (-1)) ∧ w = w'))
    (l1 : ka < kb) (l2 : (ka == kb) = false) (hL : (FloatKind.f64.format.order a b == some .lt) = false) : Calls Tryz.prog 3 #[.int .u64 (a : Int), .int .u64 (b : Int), .int .u64 (c : Int)] w fun e w' => e = .returned (.bool true) ∧ Below w.heap.size w w' := by
    have k1 := call_frombits a
    have k2 := call_frombits b
    have k3 := call_frombits c
    go_enter Tryz.func3, Tryz.ntmps3
    go_wp2_with fail
    refine hal'.out.mono ?_; rintro e w1 ⟨rfl, hb1⟩
    have HB := Lib.hid hb1
    clear hb1 hal'
    go_wp2_with fail
    refine (OA.out _).mono ?_; rintro e w' ⟨rfl, rfl⟩
    go_wp2_with fail
    refine (OB.out _).mono ?_; rintro e w' ⟨rfl, rfl⟩
    go_wp2_with fail
    refine (SAB.out _).mono ?_; rintro e w' ⟨rfl, rfl⟩
    go_wp2_with fail
    refine (CAB.out _).mono ?_; rintro e w' ⟨rfl, rfl⟩
    go_wp2_with fail
    refine (CBA.out _).mono ?_; rintro e w' ⟨rfl, rfl⟩
    go_wp2_with fail
    refine (CAB.out _).mono ?_; rintro e w' ⟨rfl, rfl⟩
    go_wp2_with fail
    refine (OA.out _).mono ?_; rintro e w' ⟨rfl, rfl⟩
    go_wp2_with fail
    refine (OB.out _).mono ?_; rintro e w' ⟨rfl, rfl⟩
    go_wp2_with fail
    refine (CAB.out _).mono ?_; rintro e w' ⟨rfl, rfl⟩
    go_wp2_with fail
    refine (CBC.out _).mono ?_; rintro e w' ⟨rfl, rfl⟩
    go_wp2_with fail
    refine (CAC.out _).mono ?_; rintro e w' ⟨rfl, rfl⟩
    go_wp2
    go_ret
    exact ⟨rfl, HB.out⟩
theorem fl_lt_f_z {a b c : Nat} {ka kb : Int} (w : World) (hal' : Hid (Alive w)) (OA : Hid (∀ w, Calls Tryz.prog 8 #[.float .f64 a] w fun e w' => e = .returned (.int .u64 ka) ∧ w = w')) (OB : Hid (∀ w, Calls Tryz.prog 8 #[.float .f64 b] w fun e w' => e = .returned (.int .u64 kb) ∧ w = w')) (CAB : Hid (∀ w, Calls Tryz.prog 10 #[.float .f64 a, .float .f64 b] w fun e w' => e = .returned (.int .i64 (-1)) ∧ w = w')) (CBA : Hid (∀ w, Calls Tryz.prog 10 #[.float .f64 b, .float .f64 a] w fun e w' => e = .returned (.int .i64 (1)) ∧ w = w')) (CBC : Hid (∀ w, Calls Tryz.prog 10 #[.float .f64 b, .float .f64 c] w fun e w' => e = .returned (.int .i64 (0)) ∧ w = w')) (SAB : Hid (∀ w, Calls Tryz.prog 9 #[.float .f64 a, .float .f64 b] w fun e w' => e = .returned (.bool false) ∧ w = w'))
    (l1 : ka < kb) (l2 : (ka == kb) = false) (hL : (FloatKind.f64.format.order a b == some .lt) = false) : Calls Tryz.prog 3 #[.int .u64 (a : Int), .int .u64 (b : Int), .int .u64 (c : Int)] w fun e w' => e = .returned (.bool true) ∧ Below w.heap.size w w' := by
    have k1 := call_frombits a
    have k2 := call_frombits b
    have k3 := call_frombits c
    go_enter Tryz.func3, Tryz.ntmps3
    go_wp2_with fail
    refine hal'.out.mono ?_; rintro e w1 ⟨rfl, hb1⟩
    have HB := Lib.hid hb1
    clear hb1 hal'
    go_wp2_with fail
    refine (OA.out _).mono ?_; rintro e w' ⟨rfl, rfl⟩
    go_wp2_with fail
    refine (OB.out _).mono ?_; rintro e w' ⟨rfl, rfl⟩
    go_wp2_with fail
    refine (SAB.out _).mono ?_; rintro e w' ⟨rfl, rfl⟩
    go_wp2_with fail
    refine (CAB.out _).mono ?_; rintro e w' ⟨rfl, rfl⟩
    go_wp2_with fail
    refine (CBA.out _).mono ?_; rintro e w' ⟨rfl, rfl⟩
    go_wp2_with fail
    refine (CAB.out _).mono ?_; rintro e w' ⟨rfl, rfl⟩
    go_wp2_with fail
    refine (OA.out _).mono ?_; rintro e w' ⟨rfl, rfl⟩
    go_wp2_with fail
    refine (OB.out _).mono ?_; rintro e w' ⟨rfl, rfl⟩
    go_wp2_with fail
    refine (CAB.out _).mono ?_; rintro e w' ⟨rfl, rfl⟩
    go_wp2_with fail
    refine (CBC.out _).mono ?_; rintro e w' ⟨rfl, rfl⟩
    go_wp2
    go_ret
    exact ⟨rfl, HB.out⟩
theorem fl_lt_f_p {a b c : Nat} {ka kb : Int} (w : World) (hal' : Hid (Alive w)) (OA : Hid (∀ w, Calls Tryz.prog 8 #[.float .f64 a] w fun e w' => e = .returned (.int .u64 ka) ∧ w = w')) (OB : Hid (∀ w, Calls Tryz.prog 8 #[.float .f64 b] w fun e w' => e = .returned (.int .u64 kb) ∧ w = w')) (CAB : Hid (∀ w, Calls Tryz.prog 10 #[.float .f64 a, .float .f64 b] w fun e w' => e = .returned (.int .i64 (-1)) ∧ w = w')) (CBA : Hid (∀ w, Calls Tryz.prog 10 #[.float .f64 b, .float .f64 a] w fun e w' => e = .returned (.int .i64 (1)) ∧ w = w')) (CBC : Hid (∀ w, Calls Tryz.prog 10 #[.float .f64 b, .float .f64 c] w fun e w' => e = .returned (.int .i64 (1)) ∧ w = w')) (SAB : Hid (∀ w, Calls Tryz.prog 9 #[.float .f64 a, .float .f64 b] w fun e w' => e = .returned (.bool false) ∧ w = w'))
    (l1 : ka < kb) (l2 : (ka == kb) = false) (hL : (FloatKind.f64.format.order a b == some .lt) = false) : Calls Tryz.prog 3 #[.int .u64 (a : Int), .int .u64 (b : Int), .int .u64 (c : Int)] w fun e w' => e = .returned (.bool true) ∧ Below w.heap.size w w' := by
    have k1 := call_frombits a
    have k2 := call_frombits b
    have k3 := call_frombits c
    go_enter Tryz.func3, Tryz.ntmps3
    go_wp2_with fail
    refine hal'.out.mono ?_; rintro e w1 ⟨rfl, hb1⟩
    have HB := Lib.hid hb1
    clear hb1 hal'
    go_wp2_with fail
    refine (OA.out _).mono ?_; rintro e w' ⟨rfl, rfl⟩
    go_wp2_with fail
    refine (OB.out _).mono ?_; rintro e w' ⟨rfl, rfl⟩
    go_wp2_with fail
    refine (SAB.out _).mono ?_; rintro e w' ⟨rfl, rfl⟩
    go_wp2_with fail
    refine (CAB.out _).mono ?_; rintro e w' ⟨rfl, rfl⟩
    go_wp2_with fail
    refine (CBA.out _).mono ?_; rintro e w' ⟨rfl, rfl⟩
    go_wp2_with fail
    refine (CAB.out _).mono ?_; rintro e w' ⟨rfl, rfl⟩
    go_wp2_with fail
    refine (OA.out _).mono ?_; rintro e w' ⟨rfl, rfl⟩
    go_wp2_with fail
    refine (OB.out _).mono ?_; rintro e w' ⟨rfl, rfl⟩
    go_wp2_with fail
    refine (CAB.out _).mono ?_; rintro e w' ⟨rfl, rfl⟩
    go_wp2_with fail
    refine (CBC.out _).mono ?_; rintro e w' ⟨rfl, rfl⟩
    go_wp2
    go_ret
    exact ⟨rfl, HB.out⟩
theorem fl_eq {a b c : Nat} {ka kb : Int} (w : World) (hal' : Hid (Alive w)) (OA : Hid (∀ w, Calls Tryz.prog 8 #[.float .f64 a] w fun e w' => e = .returned (.int .u64 ka) ∧ w = w')) (OB : Hid (∀ w, Calls Tryz.prog 8 #[.float .f64 b] w fun e w' => e = .returned (.int .u64 kb) ∧ w = w')) (CAB : Hid (∀ w, Calls Tryz.prog 10 #[.float .f64 a, .float .f64 b] w fun e w' => e = .returned (.int .i64 (0)) ∧ w = w')) (CBA : Hid (∀ w, Calls Tryz.prog 10 #[.float .f64 b, .float .f64 a] w fun e w' => e = .returned (.int .i64 (0)) ∧ w = w')) (SAB : Hid (∀ w, Calls Tryz.prog 9 #[.float .f64 a, .float .f64 b] w fun e w' => e = .returned (.bool true) ∧ w = w'))
    (l1 : ¬ ka < kb) (l2 : (ka == kb) = true) (hL : (FloatKind.f64.format.order a b == some .lt) = false) : Calls Tryz.prog 3 #[.int .u64 (a : Int), .int .u64 (b : Int), .int .u64 (c : Int)] w fun e w' => e = .returned (.bool true) ∧ Below w.heap.size w w' := by
    have k1 := call_frombits a
    have k2 := call_frombits b
    have k3 := call_frombits c
    go_enter Tryz.func3, Tryz.ntmps3
    go_wp2_with fail
    refine hal'.out.mono ?_; rintro e w1 ⟨rfl, hb1⟩
    have HB := Lib.hid hb1
    clear hb1 hal'
    go_wp2_with fail
    refine (OA.out _).mono ?_; rintro e w' ⟨rfl, rfl⟩
    go_wp2_with fail
    refine (OB.out _).mono ?_; rintro e w' ⟨rfl, rfl⟩
    go_wp2_with fail
    refine (SAB.out _).mono ?_; rintro e w' ⟨rfl, rfl⟩
    go_wp2_with fail
    refine (CAB.out _).mono ?_; rintro e w' ⟨rfl, rfl⟩
    go_wp2_with fail
    refine (CBA.out _).mono ?_; rintro e w' ⟨rfl, rfl⟩
    go_wp2_with fail
    refine (CAB.out _).mono ?_; rintro e w' ⟨rfl, rfl⟩
    go_wp2_with fail
    refine (OA.out _).mono ?_; rintro e w' ⟨rfl, rfl⟩
    go_wp2_with fail
    refine (OB.out _).mono ?_; rintro e w' ⟨rfl, rfl⟩
    go_wp2_with fail
    refine (CAB.out _).mono ?_; rintro e w' ⟨rfl, rfl⟩
    go_wp2
    go_ret
    exact ⟨rfl, HB.out⟩
theorem fl_gt {a b c : Nat} {ka kb : Int} (w : World) (hal' : Hid (Alive w)) (OA : Hid (∀ w, Calls Tryz.prog 8 #[.float .f64 a] w fun e w' => e = .returned (.int .u64 ka) ∧ w = w')) (OB : Hid (∀ w, Calls Tryz.prog 8 #[.float .f64 b] w fun e w' => e = .returned (.int .u64 kb) ∧ w = w')) (CAB : Hid (∀ w, Calls Tryz.prog 10 #[.float .f64 a, .float .f64 b] w fun e w' => e = .returned (.int .i64 (1)) ∧ w = w')) (CBA : Hid (∀ w, Calls Tryz.prog 10 #[.float .f64 b, .float .f64 a] w fun e w' => e = .returned (.int .i64 (-1)) ∧ w = w')) (SAB : Hid (∀ w, Calls Tryz.prog 9 #[.float .f64 a, .float .f64 b] w fun e w' => e = .returned (.bool false) ∧ w = w'))
    (l1 : ¬ ka < kb) (l2 : (ka == kb) = false) (hL : (FloatKind.f64.format.order a b == some .lt) = false) : Calls Tryz.prog 3 #[.int .u64 (a : Int), .int .u64 (b : Int), .int .u64 (c : Int)] w fun e w' => e = .returned (.bool true) ∧ Below w.heap.size w w' := by
    have k1 := call_frombits a
    have k2 := call_frombits b
    have k3 := call_frombits c
    go_enter Tryz.func3, Tryz.ntmps3
    go_wp2_with fail
    refine hal'.out.mono ?_; rintro e w1 ⟨rfl, hb1⟩
    have HB := Lib.hid hb1
    clear hb1 hal'
    go_wp2_with fail
    refine (OA.out _).mono ?_; rintro e w' ⟨rfl, rfl⟩
    go_wp2_with fail
    refine (OB.out _).mono ?_; rintro e w' ⟨rfl, rfl⟩
    go_wp2_with fail
    refine (SAB.out _).mono ?_; rintro e w' ⟨rfl, rfl⟩
    go_wp2_with fail
    refine (CAB.out _).mono ?_; rintro e w' ⟨rfl, rfl⟩
    go_wp2_with fail
    refine (CBA.out _).mono ?_; rintro e w' ⟨rfl, rfl⟩
    go_wp2_with fail
    refine (CAB.out _).mono ?_; rintro e w' ⟨rfl, rfl⟩
    go_wp2_with fail
    refine (OA.out _).mono ?_; rintro e w' ⟨rfl, rfl⟩
    go_wp2_with fail
    refine (OB.out _).mono ?_; rintro e w' ⟨rfl, rfl⟩
    go_wp2_with fail
    refine (CAB.out _).mono ?_; rintro e w' ⟨rfl, rfl⟩
    go_wp2
    go_ret
    exact ⟨rfl, HB.out⟩
theorem l_FloatLine (a b c : Nat) (ha : a < 18446744073709551616) (hb : b < 18446744073709551616) (hc : c < 18446744073709551616) (w : World) (hal : Alive w) :
    Calls Tryz.prog 3 #[.int .u64 (a : Int), .int .u64 (b : Int), .int .u64 (c : Int)] w fun e w' => e = .returned (.bool true) ∧ Below w.heap.size w w' := by
  have HS : ∀ v, fkey a = fkey b ∧ v = true ∨ fkey a ≠ fkey b ∧ v = false → ((fone a : Int) == (fone b : Int)) = v := fun v h => by
    rcases h with ⟨h, rfl⟩ | ⟨h, rfl⟩
    · rw [(key_one ha hb).1 h]; simp
    · have h2 : fone a ≠ fone b := fun e => h ((key_one ha hb).2 e)
      rw [beq_eq_false_iff_ne]; omega
  have HL : (FloatKind.f64.format.order a b == some .lt) = true → fkey a < fkey b := fun h => lt_key ha hb (eq_of_beq h)
  obtain ⟨ka, hka⟩ : ∃ k : Int, (fkey a : Int) = k := ⟨_, rfl⟩
  obtain ⟨kb, hkb⟩ : ∃ k : Int, (fkey b : Int) = k := ⟨_, rfl⟩
  have OA := Lib.hid (fun w => c_OrdV ha hka w)
  have OB := Lib.hid (fun w => c_OrdV hb hkb w)
  have hal' := Lib.hid hal
  rcases fcmp_cases a b with ⟨h1, e1⟩ | ⟨h1, e1⟩ | ⟨h1, e1⟩
  · have e2 : fcmp b a = 1 := by rcases fcmp_cases b a with ⟨h, e⟩ | ⟨h, e⟩ | ⟨h, e⟩ <;> first | exact e | omega
    have CAB := Lib.hid (fun w => c_CmpV ha hb e1 w)
    have CBA := Lib.hid (fun w => c_CmpV hb ha e2 w)
    have SAB := Lib.hid (fun w => c_SameV (HS false (.inr ⟨by omega, rfl⟩)) w)
    have l1 : ka < kb := by omega
    have l2 : (ka == kb) = false := by rw [beq_eq_false_iff_ne]; omega
    rcases hL : (FloatKind.f64.format.order a b == some .lt) with _ | _ <;> rcases fcmp_cases b c with ⟨h3, e3⟩ | ⟨h3, e3⟩ | ⟨h3, e3⟩
    · have e4 : fcmp a c = -1 := by rcases fcmp_cases a c with ⟨h, e⟩ | ⟨h, e⟩ | ⟨h, e⟩ <;> first | exact e | omega
      exact fl_lt_f_m w hal' OA OB CAB CBA (Lib.hid (fun w => c_CmpV hb hc e3 w)) SAB (Lib.hid (fun w => c_CmpV ha hc e4 w)) l1 l2 hL
    · exact fl_lt_f_z w hal' OA OB CAB CBA (Lib.hid (fun w => c_CmpV hb hc e3 w)) SAB l1 l2 hL
    · exact fl_lt_f_p w hal' OA OB CAB CBA (Lib.hid (fun w => c_CmpV hb hc e3 w)) SAB l1 l2 hL
    · have e4 : fcmp a c = -1 := by rcases fcmp_cases a c with ⟨h, e⟩ | ⟨h, e⟩ | ⟨h, e⟩ <;> first | exact e | omega
      exact fl_lt_t_m w hal' OA OB CAB CBA (Lib.hid (fun w => c_CmpV hb hc e3 w)) SAB (Lib.hid (fun w => c_CmpV ha hc e4 w)) l1 l2 hL
    · exact fl_lt_t_z w hal' OA OB CAB CBA (Lib.hid (fun w => c_CmpV hb hc e3 w)) SAB l1 l2 hL
    · exact fl_lt_t_p w hal' OA OB CAB CBA (Lib.hid (fun w => c_CmpV hb hc e3 w)) SAB l1 l2 hL
  · have e2 : fcmp b a = 0 := by rcases fcmp_cases b a with ⟨h, e⟩ | ⟨h, e⟩ | ⟨h, e⟩ <;> first | exact e | omega
    have hL : (FloatKind.f64.format.order a b == some .lt) = false := by
      rw [Bool.eq_false_iff]; intro h; have := HL h; omega
    exact fl_eq w hal' OA OB (Lib.hid (fun w => c_CmpV ha hb e1 w)) (Lib.hid (fun w => c_CmpV hb ha e2 w)) (Lib.hid (fun w => c_SameV (HS true (.inl ⟨by omega, rfl⟩)) w)) (by omega) (by rw [beq_iff_eq]; omega) hL
  · have e2 : fcmp b a = -1 := by rcases fcmp_cases b a with ⟨h, e⟩ | ⟨h, e⟩ | ⟨h, e⟩ <;> first | exact e | omega
    have hL : (FloatKind.f64.format.order a b == some .lt) = false := by
      rw [Bool.eq_false_iff]; intro h; have := HL h; omega
    exact fl_gt w hal' OA OB (Lib.hid (fun w => c_CmpV ha hb e1 w)) (Lib.hid (fun w => c_CmpV hb ha e2 w)) (Lib.hid (fun w => c_SameV (HS false (.inr ⟨by omega, rfl⟩)) w)) (by omega) (by rw [beq_eq_false_iff_ne]; omega) hL
end Go.Proofs.YtcohidjaehdbnaaGreatDoor
