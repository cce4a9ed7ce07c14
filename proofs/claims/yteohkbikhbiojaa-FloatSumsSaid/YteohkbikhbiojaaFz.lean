/- Walks: a list of floats copied with nine more behind it, and whether it is kept (quernlaw22.copied, quernlaw22.kept), by themselves. Conditions: as stated. -/
import Derived.Test.YteohkbikhbiojaaFw2
import Derived.Test.YteohkbikhbiojaaMem2
import Derived.BigQuiet
import Derived.Deep.QuietTactic
import Derived.Great.Walk
import Derived.Deep.DrawnRows
import Derived.Deep.RegionHeld3
import Derived.IntWalk
import Derived.Handy
namespace Go.Proofs.Yteohkbikhbiojaa
open Go.RowKit
set_option linter.unusedVariables false
attribute [local go_sem ↓] Go.wp_at_zero Go.wp_at_succ

/-- Floats as cells. -/
abbrev f64s (xs : List Nat) : List Value := xs.map (Value.float .f64)
theorem f64_info : (Try.prog.info? 25).map (fun i => (i.zero, i.size, i.bytes)) = some (some (.float .f64 0), 1, 8) := by kernel_rfl
theorem f64s_one (xs : List Nat) : ∀ u ∈ f64s xs, u.oneCell' = true := by intro u hu; obtain ⟨z, _, rfl⟩ := List.mem_map.1 hu; rfl
/-- All numbers are bits. -/
def Bit (xs : List Nat) : Prop := ∀ z ∈ xs, z < 18446744073709551616
theorem Bit.get {xs : List Nat} (h : Bit xs) (k : Nat) : xs.getD k 0 < 18446744073709551616 := by
  rcases Nat.lt_or_ge k xs.length with hk | hk
  · simp only [List.getD, List.getElem?_eq_getElem hk, Option.getD_some]; exact h _ (List.getElem_mem hk)
  · simp [List.getD, List.getElem?_eq_none hk]
theorem built1 (y : Nat) : Try.prog.builtSlice 25 1 [(0, .float .f64 y)] = some #[.float .f64 y] := by kernel_rfl
theorem take_one (xs : List Nat) {i : Nat} (h : i < xs.length) : xs.take (i + 1) = xs.take i ++ [xs.getD i 0] := by
  rw [List.take_succ_eq_append_getElem h]; simp [List.getD, List.getElem?_eq_getElem h]
abbrev Fown (w : World) (v : Value) (n : Nat) (xs : List Nat) (w' : World) : Prop := w'.ownsRow w.heap.size 25 1 v n (f64s xs) ∧ Below w.heap.size w w'
/-- 0, 1 .. 8 as floats. -/
def cv (j : Nat) : Nat := [0, 4607182418800017408, 4611686018427387904, 4613937818241073152, 4616189618054758400, 4617315517961601024, 4618441417868443648, 4619567317775286272, 4620693217682128896].getD j 0
/-- 0.5, 1.5 .. 8.5. -/
abbrev halves : List Nat := [4602678819172646912, 4609434218613702656, 4612811918334230528, 4615063718147915776, 4616752568008179712, 4617878467915022336, 4619004367821864960, 4620130267728707584, 4620974692658839552]
/-- The j-th of them. -/
abbrev hv (j : Nat) : Nat := halves.getD j 0
theorem add_half0 (w : World) : (binOp BinOp.add 25 (.float .f64 (floatOfInt FloatKind.f64 ((0 : Nat) : Int))) (.float .f64 4602678819172646912)).run Try.prog w = .ok (.float .f64 4602678819172646912) w := by kernel_rfl
theorem add_half1 (w : World) : (binOp BinOp.add 25 (.float .f64 (floatOfInt FloatKind.f64 ((1 : Nat) : Int))) (.float .f64 4602678819172646912)).run Try.prog w = .ok (.float .f64 4609434218613702656) w := by kernel_rfl
theorem add_half2 (w : World) : (binOp BinOp.add 25 (.float .f64 (floatOfInt FloatKind.f64 ((2 : Nat) : Int))) (.float .f64 4602678819172646912)).run Try.prog w = .ok (.float .f64 4612811918334230528) w := by kernel_rfl
theorem add_half3 (w : World) : (binOp BinOp.add 25 (.float .f64 (floatOfInt FloatKind.f64 ((3 : Nat) : Int))) (.float .f64 4602678819172646912)).run Try.prog w = .ok (.float .f64 4615063718147915776) w := by kernel_rfl
theorem add_half4 (w : World) : (binOp BinOp.add 25 (.float .f64 (floatOfInt FloatKind.f64 ((4 : Nat) : Int))) (.float .f64 4602678819172646912)).run Try.prog w = .ok (.float .f64 4616752568008179712) w := by kernel_rfl
theorem add_half5 (w : World) : (binOp BinOp.add 25 (.float .f64 (floatOfInt FloatKind.f64 ((5 : Nat) : Int))) (.float .f64 4602678819172646912)).run Try.prog w = .ok (.float .f64 4617878467915022336) w := by kernel_rfl
theorem add_half6 (w : World) : (binOp BinOp.add 25 (.float .f64 (floatOfInt FloatKind.f64 ((6 : Nat) : Int))) (.float .f64 4602678819172646912)).run Try.prog w = .ok (.float .f64 4619004367821864960) w := by kernel_rfl
theorem add_half7 (w : World) : (binOp BinOp.add 25 (.float .f64 (floatOfInt FloatKind.f64 ((7 : Nat) : Int))) (.float .f64 4602678819172646912)).run Try.prog w = .ok (.float .f64 4620130267728707584) w := by kernel_rfl
theorem add_half8 (w : World) : (binOp BinOp.add 25 (.float .f64 (floatOfInt FloatKind.f64 ((8 : Nat) : Int))) (.float .f64 4602678819172646912)).run Try.prog w = .ok (.float .f64 4620974692658839552) w := by kernel_rfl
theorem add_half {j : Nat} (h : j < 9) (w : World) : (binOp BinOp.add 25 (.float .f64 (floatOfInt FloatKind.f64 (j : Int))) (.float .f64 4602678819172646912)).run Try.prog w = .ok (.float .f64 (hv j)) w := by
  have : j = 0 ∨ j = 1 ∨ j = 2 ∨ j = 3 ∨ j = 4 ∨ j = 5 ∨ j = 6 ∨ j = 7 ∨ j = 8 := by omega
  rcases this with rfl | rfl | rfl | rfl | rfl | rfl | rfl | rfl | rfl
  · exact add_half0 w
  · exact add_half1 w
  · exact add_half2 w
  · exact add_half3 w
  · exact add_half4 w
  · exact add_half5 w
  · exact add_half6 w
  · exact add_half7 w
  · exact add_half8 w
theorem hv_num {j : Nat} (h : j < 9) : fnan (hv j) = false := by
  have : j = 0 ∨ j = 1 ∨ j = 2 ∨ j = 3 ∨ j = 4 ∨ j = 5 ∨ j = 6 ∨ j = 7 ∨ j = 8 := by omega
  rcases this with rfl | rfl | rfl | rfl | rfl | rfl | rfl | rfl | rfl <;> decide +kernel
theorem bit_halves : Bit halves := by intro x hx; revert x; decide
set_option maxRecDepth 100000 in
theorem c_copied (A : Option Addr) (n c : Nat) (xs : List Nat) (w : World) (h : Reads w w.heap.size 1 A n (f64s xs)) (hn : n ≤ 17592186044407) :
    Calls Try.prog 4 #[.slice A n c] w fun e w' => ∃ v, e = .returned v ∧ Fown w v (n + 9) (xs ++ halves) w' := by
  obtain ⟨i0, hi0, hz0, hz1, hz2⟩ := info_parts f64_info
  have HRD := Lib.hid h
  have HXL : Hid (xs.length = n) := Lib.hid (by simpa using h.1)
  clear h
  go_enter Try.func4, Try.ntmps4
  go_wp2_with (at_builtin; refine wpList_append_any _ rfl (.tmp 5) (.tmp 6) _ rfl w.heap.size 25 i0 _ 1 8 Try.underlying22 hi0 hz0 hz1 hz2 rfl (by omega) (.slice none 0 0) 0 [] rfl ⟨rfl, .inl ⟨rfl, rfl⟩⟩ w.heap.size _ n c (f64s xs) rfl HRD.out (f64s_one _) (by simp only [maxLen]; omega) (by omega) (Nat.le_refl _) ?_; intro v2 w2 hown2 hg2 _; rw [Nat.zero_add, List.nil_append] at hown2; have HB2 := Lib.hid (below_of_grown hg2); obtain ⟨A2, c2, rfl⟩ := own_slice hown2; have HW2 := Lib.hid hown2; clear hown2 hg2)
  go_loopw [3, 4] (fun vo vi wr => ∃ (j : Nat) (A0 : Option Addr) (c0 : Nat), vo = .slice A0 ((n + j : Nat)) c0 ∧ vi = .int .i64 j ∧ j ≤ 9 ∧ Hid (Fown w (.slice A0 (n + j) c0) (n + j) (xs ++ halves.take j) wr)) (fun _ vi _ => 9 - (intOf vi).toNat)
  case atStart => exact ⟨0, A2, c2, rfl, rfl, by omega, ⟨by rw [List.take_zero, List.append_nil]; exact HW2.out, HB2.out⟩⟩
  case round =>
    obtain ⟨j, A0, c0, rfl, rfl, hj, HO⟩ := hrel
    clear HB2 HW2
    by_cases hlt : j < 9
    · have HT : Hid (xs ++ halves.take j ++ [hv j] = xs ++ halves.take (j + 1)) := by
        show _ = _
        rw [take_one halves (i := j) (by simpa using hlt), List.append_assoc]
      have hadd := add_half hlt
      have hfl : j < 9 := hlt
      generalize hv j = y at *
      have HOA := Lib.hid (HO.out.1.alloc (.cells #[.float .f64 y] 25))
      have HBA : Hid (Below w.heap.size w (wr.alloc (.cells #[.float .f64 y] 25))) := HO.out.2.alloc HO.out.2.size _
      have HRA := Lib.hid (reads_one wr 25 (.float .f64 y))
      have HE : Hid (f64s (xs ++ halves.take j) ++ [.float .f64 y] = f64s (xs ++ halves.take (j + 1))) := by show _ = _; rw [← HT.out]; simp [f64s]
      obtain ⟨zs, hzs⟩ : ∃ zs, zs = xs ++ halves.take (j + 1) := ⟨_, rfl⟩
      rw [← hzs] at HE
      have HZS := Lib.hid hzs
      clear hzs HT
      generalize xs ++ halves.take j = ys at *
      go_wp2_with (first
        | (refine wpList_buildSliceTo rfl 22 25 1 _ rfl wr.heap.size rfl (some 16) rfl Try.underlying22 #[.float .f64 y] (by exact built1 _) ?_)
        | (at_builtin; refine wpList_append_any _ rfl (.tmp 12) (.tmp 16) _ rfl w.heap.size 25 i0 _ 1 8 Try.underlying22 hi0 hz0 hz1 hz2 rfl (by omega) _ (n + j) (f64s ys) rfl HOA.out _ _ 1 1 [.float .f64 y] rfl HRA.out (by simp [Value.oneCell']) (by simp only [maxLen]; omega) (by omega) HBA.out.size ?_; intro v2 w2 hown2 hg2 _; rw [HE.out] at hown2; have HB2 := Lib.hid (below_own HBA.out HOA.out hg2); obtain ⟨A2, c2, rfl⟩ := own_slice hown2; have HW2 := Lib.hid hown2; clear hown2 hg2 HOA HBA HRA HE))
      go_roundw
      case rel => exact ⟨j + 1, A2, c2, rfl, by go_num, hfl, ⟨by have := HW2.out; rw [HZS.out] at this; exact this, HB2.out⟩⟩
      case measure => simp [intOf]; omega
    · obtain rfl : j = 9 := by omega
      go_wp2_with fail
      go_ret
      exact ⟨_, rfl, HO.out⟩
theorem f64_get {xs : List Nat} {i : Nat} (h : i < xs.length) : (f64s xs).getD i undef = .float .f64 (xs.getD i 0) := by
  simp [f64s, List.getD, List.getElem?_eq_getElem h]
theorem get_left {xs ys : List Nat} {i : Nat} (h : i < xs.length) : (xs ++ ys).getD i 0 = xs.getD i 0 := by
  simp [List.getD, List.getElem?_append_left h]
theorem get_right {xs ys : List Nat} {i : Nat} : (xs ++ ys).getD (xs.length + i) 0 = ys.getD i 0 := by
  simp [List.getD, List.getElem?_append_right (show xs.length ≤ xs.length + i by omega)]
set_option maxRecDepth 100000 in
theorem c_kept (A D : Option Addr) (n c d : Nat) (xs : List Nat) (w : World) (h : Reads w w.heap.size 1 A n (f64s xs)) (hd : Reads w w.heap.size 1 D (n + 9) (f64s (xs ++ halves))) (hn : n ≤ 17592186044407) :
    Calls Try.prog 12 #[.slice D (n + 9) d, .slice A n c] w fun e w' => e = .returned (.bool true) ∧ Below w.heap.size w w' := by
  have HRD := Lib.hid h
  have HXL : Hid (xs.length = n) := Lib.hid (by simpa using h.1)
  obtain ⟨b2, o2, rfl, hb1, hb2, hcd⟩ := hd.form (by omega)
  have HCD := Lib.hid hcd
  clear h hd hcd
  go_enter Try.func12, Try.ntmps12
  go_wp2_with fail
  go_loopw [5] (fun vi wr => ∃ j : Nat, vi = .int .i64 j ∧ j ≤ n ∧ Hid (Below w.heap.size w wr)) (fun vi _ => n - (intOf vi).toNat)
  case atStart => exact ⟨0, rfl, Nat.zero_le _, Below.refl _ _⟩
  case round =>
    obtain ⟨j, rfl, hj, HB⟩ := hrel
    by_cases hlt : j < n
    · obtain ⟨b, off, rfl, hb3, hb4, hcell⟩ := HRD.out.form (by omega)
      have hc1 : wr.cell? ⟨b, off + j, none⟩ = some (.float .f64 (xs.getD j 0)) := by
        rw [(bcell HB.out).1 _ _ hb4, hcell j hlt, f64_get (by rw [HXL.out]; exact hlt)]
      have hc2 : wr.cell? ⟨b2, o2 + j, none⟩ = some (.float .f64 (xs.getD j 0)) := by
        rw [(bcell HB.out).1 _ _ hb2, HCD.out j (by omega), f64_get (by rw [List.length_append, HXL.out]; simp; omega), get_left (by rw [HXL.out]; exact hlt)]
      clear hcell
      generalize xs.getD j 0 = x at *
      have hbx := call_bits x
      have d1 : (j : Int) < (n : Int) + 9 := by omega
      go_wp2_with fail
      go_quiet (fail)
      have HB1 := Lib.hid (below_drewN HB.out nq)
      clear hc1 hc2 HB
      generalize wr.drewN nq = w1 at *
      go_wp2_with fail
      go_roundw
      case rel => exact ⟨j + 1, by go_num, hlt, HB1.out⟩
      case measure => simp [intOf]; omega
    · obtain rfl : j = n := by omega
      obtain ⟨wo, rfl⟩ : ∃ wo : World, wo = wr := ⟨_, rfl⟩
      go_wp2_with fail
      go_loopw [6] (fun vi wr => ∃ i : Nat, vi = .int .i64 i ∧ i ≤ 9 ∧ Hid (Below w.heap.size w wr)) (fun vi _ => 9 - (intOf vi).toNat)
      case atStart => exact ⟨0, rfl, Nat.zero_le _, HB.out⟩
      case round =>
        obtain ⟨i, rfl, hi, HB'⟩ := hrel
        by_cases hlt2 : i < 9
        · have hc2 : wr.cell? ⟨b2, o2 + (j + i), none⟩ = some (.float .f64 (hv i)) := by
            rw [(bcell HB'.out).1 _ _ hb2, HCD.out (j + i) (by omega), f64_get (by rw [List.length_append, HXL.out]; simp; omega), ← HXL.out, get_right]
          have hadd := add_half hlt2
          have hnn := hv_num hlt2
          have hq := order_neq (hv i)
          rw [hnn] at hq
          have hfl : i < 9 := hlt2
          have d1 : (0 : Int) ≤ (j : Int) + (i : Int) := by omega
          have d2 : (j : Int) + (i : Int) < (j : Int) + 9 := by omega
          have e1 : IntKind.i64.wrap ((j : Int) + (i : Int)) = (j : Int) + (i : Int) := IntWalk.i64_in _ (by omega)
          have e2 : ((j : Int) + (i : Int)).toNat = j + i := by omega
          clear hnn
          generalize hv i = y at *
          go_wp2_with fail
          go_roundw
          case rel => exact ⟨i + 1, by go_num, hfl, HB'.out⟩
          case measure => simp [intOf]; omega
        · obtain rfl : i = 9 := by omega
          go_wp2_with fail
          go_ret
          exact ⟨rfl, HB'.out⟩
end Go.Proofs.Yteohkbikhbiojaa
