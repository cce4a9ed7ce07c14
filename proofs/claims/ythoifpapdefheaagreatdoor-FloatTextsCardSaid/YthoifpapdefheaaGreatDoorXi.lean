/- Walk: the shortest digits of a float at every rung (strconv: shortFloat[float64]). Conditions: a rung above nought, below infinity's; the library's tables. -/
import Derived.Test.YthoifpapdefheaaGreatDoorXh
import Derived.Test.YthoifpapdefheaaGreatDoorXk
namespace Go.Proofs.YthoifpapdefheaaGreatDoor
open Go.RowKit
set_option linter.unusedVariables false

theorem and1_i64 {M m : Nat} (hM : M < 9007199254740992) (h : M % 2 = m % 2) : bits BinOp.and .i64 (M : Int) 1 = ((m % 2 : Nat) : Int) := by
  have h1 : (BitVec.ofInt 64 1).toNat = 2 ^ 1 - 1 := by decide
  have key : (BitVec.ofInt 64 (M : Int) &&& BitVec.ofInt 64 1).toNat = ((M : Int) % ((2 ^ 64 : Nat) : Int)).toNat % 2 ^ 1 := by
    rw [BitVec.toNat_and, BitVec.toNat_ofInt, h1, Nat.and_two_pow_sub_one_eq_mod]
  show IntKind.i64.wrap ((BitVec.ofInt 64 (M : Int) &&& BitVec.ofInt 64 1).toNat : Nat) = _
  rw [key, IntKind.wrap_i64]
  omega
theorem drewN_two (w : World) (n k : Nat) : (w.drewN n).drewN k = w.drewN (n + k) := by
  simp [World.drewN, Nat.add_assoc]
/-- What uscale answers, at a scale's three cells. -/
def USc (U : Nat → Nat) (Hh L s : Nat) (g : Nat) : Prop := ∀ (x : Nat) (W : World), x < 18446744073709551616 → W.cell? ⟨g, 0, none⟩ = some (.int .u64 (Hh : Int)) → W.cell? ⟨g, 1, none⟩ = some (.int .u64 (L : Int)) → W.cell? ⟨g, 2, none⟩ = some (.int .i64 (s : Int)) →
  Calls Tryz.prog 98 #[.int .u64 (x : Int), .pointer (some ⟨g, 0, none⟩)] W fun e w' => e = .returned (.int .u64 ((U x : Nat) : Int)) ∧ ∃ k, w' = W.drewN k
/-- A call of one number or two that leaves memory as it is. -/
def Q1 (f : Nat) (v : Value) (r : Value) : Prop := ∀ W : World, Calls Tryz.prog f #[v] W fun e w' => e = .returned r ∧ W = w'
def Q2 (f : Nat) (u v : Value) (r : Value) : Prop := ∀ W : World, Calls Tryz.prog f #[u, v] W fun e w' => e = .returned r ∧ W = w'
def Fin3 (a b c d dd D : Nat) (p E : Int) : Prop := (a ≤ dd ∧ D = d ∧ E = 1 - p) ∨ (¬ a ≤ dd ∧ a < b ∧ D = c ∧ E = -p) ∨ (¬ a ≤ dd ∧ ¬ a < b ∧ D = a ∧ E = -p)
set_option maxRecDepth 100000 in
set_option maxHeartbeats 2000000 in
theorem sh_A (U : Nat → Nat) (X lo hi o s Hh L i a b c D M u1 u2 : Nat) (e p lp k q E : Int) (w : World)
    (hrow : Hid (w.cell? ⟨8, i * 2, none⟩ = some (.int .u64 (Hh : Int)) ∧ w.cell? ⟨8, i * 2 + 1, none⟩ = some (.int .u64 (L : Int)) ∧ 8 < w.heap.size))
    (HU : Hid (USc U Hh L s w.heap.size)) (hb : Hid (lo < 18446744073709551616 ∧ hi < 18446744073709551616 ∧ X < 18446744073709551616))
    (hi1 : Hid ((i : Int) = p + 348 ∧ i < 696 ∧ -2000 ≤ e ∧ e ≤ 2000 ∧ -2000 ≤ lp ∧ lp ≤ 2000)) (hs : Hid (-(e + lp + 3) = (s : Int)))
    (HLG : Hid (Q1 95 (.int .i64 k) (.int .i64 q))) (hp : IntKind.i64.wrap (-q) = p) (HL2 : Hid (Q1 97 (.int .i64 p) (.int .i64 lp)))
    (HN1 : Hid (Q2 99 (.int .u64 ((U lo : Nat) : Int)) (.int .i64 (o : Int)) (.int .u64 (u1 : Int)))) (HC1 : Hid (Q1 100 (.int .u64 (u1 : Int)) (.int .u64 (a : Int))))
    (ho : IntKind.i64.wrap (-(o : Int)) = -(o : Int)) (HN2 : Hid (Q2 99 (.int .u64 ((U hi : Nat) : Int)) (.int .i64 (-(o : Int))) (.int .u64 (u2 : Int)))) (HF : Hid (Q1 101 (.int .u64 (u2 : Int)) (.int .u64 (b : Int))))
    (HR : Hid (Q1 102 (.int .u64 ((U X : Nat) : Int)) (.int .u64 (c : Int))))
    (d10 dd : Nat) (hdv : (b : Int) / 10 = (d10 : Int)) (hdw : IntKind.u64.wrap (d10 : Int) = (d10 : Int)) (hdm : IntKind.u64.wrap ((d10 : Int) * 10) = (dd : Int)) (hd : Hid (Fin3 a b c d10 dd D p E)) (hbb : Hid (b < 18446744073709551616 ∧ -2000 ≤ p ∧ p ≤ 2000))
    (hk : IntKind.i64.wrap (e + 11) = k)
    (t1 : ((X : Int) == 9223372036854775808) = true) (t2 : -1085 < e)
    (hlo : IntKind.u64.wrap ((X : Int) - 512) = (lo : Int)) (hhi : IntKind.u64.wrap ((X : Int) + 1024) = (hi : Int)) (hM : (X : Int) / 2048 = (M : Int)) (hM2 : IntKind.i64.wrap (M : Int) = (M : Int)) (hod : bits BinOp.and .i64 (M : Int) 1 = (o : Int)) :
    Calls Tryz.prog 78 #[.int .u64 (X : Int), .int .i64 e] w fun x w' => x = .returned (.tuple #[.int .u64 (D : Int), .int .i64 E]) ∧ Below w.heap.size w w' := by
  have HK := Lib.hid (Blk.new w 128 #[.int .u64 0, .int .u64 0, .int .i64 0])
  have HB := Lib.hid ((Below.refl w.heap.size w).alloc (Nat.le_refl _) (.cells #[.int .u64 0, .int .u64 0, .int .i64 0] 128))
  have HP := Lib.hid (c_prescaleI w.heap.size _ _ _ e p lp i Hh L (w.alloc (.cells #[.int .u64 0, .int .u64 0, .int .i64 0] 128)) hi1.out.1 hi1.out.2.1 hi1.out.2.2.1 hi1.out.2.2.2.1 hi1.out.2.2.2.2.1 hi1.out.2.2.2.2.2 (by rw [World.cell?_alloc_lt w _ _ hrow.out.2.2]; exact hrow.out.1) (by rw [World.cell?_alloc_lt w _ _ hrow.out.2.2]; exact hrow.out.2.1) HK.out hrow.out.2.2)
  clear hrow hi1 HK
  go_enter Tryz.func78, Tryz.ntmps78
  go_wp2_with fail
  refine (HLG.out _).mono ?_; rintro x w1 ⟨rfl, rfl⟩
  go_wp2_with fail
  refine (HL2.out _).mono ?_; rintro x w1 ⟨rfl, rfl⟩
  go_wp2_with fail
  refine HP.out.mono ?_; rintro x w2 ⟨rfl, hk2, hb2⟩
  rw [hs.out] at hk2
  have HU2 : Hid (∀ x k : Nat, x < 18446744073709551616 → Calls Tryz.prog 98 #[.int .u64 (x : Int), .pointer (some ⟨w.heap.size, 0, none⟩)] (w2.drewN k) fun e w' => e = .returned (.int .u64 ((U x : Nat) : Int)) ∧ ∃ k', w' = w2.drewN k') := fun x k hx =>
    (HU.out x (w2.drewN k) hx (hk2.cell 0) (hk2.cell 1) (hk2.cell 2)).mono fun e w' ⟨h1, k', h2⟩ => ⟨h1, k + k', by rw [h2]; exact drewN_two w2 k k'⟩
  have HBB := Lib.hid (HB.out.trans hb2)
  clear hk2 hb2 HP HB HU HLG HL2 hs
  go_wp2_with fail
  refine (HU2.out lo 0 hb.out.1).mono ?_; rintro x w3 ⟨rfl, k3, rfl⟩
  go_wp2_with fail
  refine (HN1.out _).mono ?_; rintro x w3 ⟨rfl, rfl⟩
  go_wp2_with fail
  refine (HC1.out _).mono ?_; rintro x w3 ⟨rfl, rfl⟩
  go_wp2_with fail
  refine (HU2.out hi _ hb.out.2.1).mono ?_; rintro x w3 ⟨rfl, k4, rfl⟩
  go_wp2_with fail
  refine (HN2.out _).mono ?_; rintro x w3 ⟨rfl, rfl⟩
  go_wp2_with fail
  refine (HF.out _).mono ?_; rintro x w3 ⟨rfl, rfl⟩
  have hpm : IntKind.i64.wrap (p - 1) = p - 1 := IntWalk.i64_in _ (by have := hbb.out.2; omega)
  have hpm2 : IntKind.i64.wrap (-(p - 1)) = 1 - p := by rw [IntWalk.i64_in _ (by have := hbb.out.2; omega)]; omega
  have hpm3 : IntKind.i64.wrap (-p) = -p := IntWalk.i64_in _ (by have := hbb.out.2; omega)
  clear hbb HN1 HC1 HN2 HF
  rcases hd.out with ⟨h1, rfl, rfl⟩ | ⟨h1, h2, rfl, rfl⟩ | ⟨h1, h2, rfl, rfl⟩
  · go_wp2_with fail
    go_ret2
    exact ⟨rfl, below_drewN HBB.out _⟩
  · go_wp2_with fail
    refine (HU2.out X _ hb.out.2.2).mono ?_; rintro x w3 ⟨rfl, k5, rfl⟩
    go_wp2_with fail
    refine (HR.out _).mono ?_; rintro x w3 ⟨rfl, rfl⟩
    go_wp2_with fail
    go_ret2
    exact ⟨rfl, below_drewN HBB.out _⟩
  · go_wp2_with fail
    go_ret2
    exact ⟨rfl, below_drewN HBB.out _⟩
set_option maxRecDepth 100000 in
set_option maxHeartbeats 2000000 in
theorem sh_B1 (U : Nat → Nat) (X lo hi o s Hh L i a b c D M u1 u2 : Nat) (e p lp k q E : Int) (w : World)
    (hrow : Hid (w.cell? ⟨8, i * 2, none⟩ = some (.int .u64 (Hh : Int)) ∧ w.cell? ⟨8, i * 2 + 1, none⟩ = some (.int .u64 (L : Int)) ∧ 8 < w.heap.size))
    (HU : Hid (USc U Hh L s w.heap.size)) (hb : Hid (lo < 18446744073709551616 ∧ hi < 18446744073709551616 ∧ X < 18446744073709551616))
    (hi1 : Hid ((i : Int) = p + 348 ∧ i < 696 ∧ -2000 ≤ e ∧ e ≤ 2000 ∧ -2000 ≤ lp ∧ lp ≤ 2000)) (hs : Hid (-(e + lp + 3) = (s : Int)))
    (HLG : Hid (Q1 73 (.int .i64 k) (.int .i64 q))) (hp : IntKind.i64.wrap (-q) = p) (HL2 : Hid (Q1 97 (.int .i64 p) (.int .i64 lp)))
    (HN1 : Hid (Q2 99 (.int .u64 ((U lo : Nat) : Int)) (.int .i64 (o : Int)) (.int .u64 (u1 : Int)))) (HC1 : Hid (Q1 100 (.int .u64 (u1 : Int)) (.int .u64 (a : Int))))
    (ho : IntKind.i64.wrap (-(o : Int)) = -(o : Int)) (HN2 : Hid (Q2 99 (.int .u64 ((U hi : Nat) : Int)) (.int .i64 (-(o : Int))) (.int .u64 (u2 : Int)))) (HF : Hid (Q1 101 (.int .u64 (u2 : Int)) (.int .u64 (b : Int))))
    (HR : Hid (Q1 102 (.int .u64 ((U X : Nat) : Int)) (.int .u64 (c : Int))))
    (d10 dd : Nat) (hdv : (b : Int) / 10 = (d10 : Int)) (hdw : IntKind.u64.wrap (d10 : Int) = (d10 : Int)) (hdm : IntKind.u64.wrap ((d10 : Int) * 10) = (dd : Int)) (hd : Hid (Fin3 a b c d10 dd D p E)) (hbb : Hid (b < 18446744073709551616 ∧ -2000 ≤ p ∧ p ≤ 2000))
    (hk : IntKind.i64.wrap (e + 11) = k)
    (t1 : ((X : Int) == 9223372036854775808) = false) (t2 : -1085 ≤ e)
    (hlo : IntKind.u64.wrap ((X : Int) - 1024) = (lo : Int)) (hhi : IntKind.u64.wrap ((X : Int) + 1024) = (hi : Int)) (hM : (X : Int) / 2048 = (M : Int)) (hM2 : IntKind.i64.wrap (M : Int) = (M : Int)) (hod : bits BinOp.and .i64 (M : Int) 1 = (o : Int)) :
    Calls Tryz.prog 78 #[.int .u64 (X : Int), .int .i64 e] w fun x w' => x = .returned (.tuple #[.int .u64 (D : Int), .int .i64 E]) ∧ Below w.heap.size w w' := by
  have HK := Lib.hid (Blk.new w 128 #[.int .u64 0, .int .u64 0, .int .i64 0])
  have HB := Lib.hid ((Below.refl w.heap.size w).alloc (Nat.le_refl _) (.cells #[.int .u64 0, .int .u64 0, .int .i64 0] 128))
  have HP := Lib.hid (c_prescaleI w.heap.size _ _ _ e p lp i Hh L (w.alloc (.cells #[.int .u64 0, .int .u64 0, .int .i64 0] 128)) hi1.out.1 hi1.out.2.1 hi1.out.2.2.1 hi1.out.2.2.2.1 hi1.out.2.2.2.2.1 hi1.out.2.2.2.2.2 (by rw [World.cell?_alloc_lt w _ _ hrow.out.2.2]; exact hrow.out.1) (by rw [World.cell?_alloc_lt w _ _ hrow.out.2.2]; exact hrow.out.2.1) HK.out hrow.out.2.2)
  clear hrow hi1 HK
  go_enter Tryz.func78, Tryz.ntmps78
  go_wp2_with fail
  refine (HLG.out _).mono ?_; rintro x w1 ⟨rfl, rfl⟩
  go_wp2_with fail
  refine (HL2.out _).mono ?_; rintro x w1 ⟨rfl, rfl⟩
  go_wp2_with fail
  refine HP.out.mono ?_; rintro x w2 ⟨rfl, hk2, hb2⟩
  rw [hs.out] at hk2
  have HU2 : Hid (∀ x k : Nat, x < 18446744073709551616 → Calls Tryz.prog 98 #[.int .u64 (x : Int), .pointer (some ⟨w.heap.size, 0, none⟩)] (w2.drewN k) fun e w' => e = .returned (.int .u64 ((U x : Nat) : Int)) ∧ ∃ k', w' = w2.drewN k') := fun x k hx =>
    (HU.out x (w2.drewN k) hx (hk2.cell 0) (hk2.cell 1) (hk2.cell 2)).mono fun e w' ⟨h1, k', h2⟩ => ⟨h1, k + k', by rw [h2]; exact drewN_two w2 k k'⟩
  have HBB := Lib.hid (HB.out.trans hb2)
  clear hk2 hb2 HP HB HU HLG HL2 hs
  go_wp2_with fail
  refine (HU2.out lo 0 hb.out.1).mono ?_; rintro x w3 ⟨rfl, k3, rfl⟩
  go_wp2_with fail
  refine (HN1.out _).mono ?_; rintro x w3 ⟨rfl, rfl⟩
  go_wp2_with fail
  refine (HC1.out _).mono ?_; rintro x w3 ⟨rfl, rfl⟩
  go_wp2_with fail
  refine (HU2.out hi _ hb.out.2.1).mono ?_; rintro x w3 ⟨rfl, k4, rfl⟩
  go_wp2_with fail
  refine (HN2.out _).mono ?_; rintro x w3 ⟨rfl, rfl⟩
  go_wp2_with fail
  refine (HF.out _).mono ?_; rintro x w3 ⟨rfl, rfl⟩
  have hpm : IntKind.i64.wrap (p - 1) = p - 1 := IntWalk.i64_in _ (by have := hbb.out.2; omega)
  have hpm2 : IntKind.i64.wrap (-(p - 1)) = 1 - p := by rw [IntWalk.i64_in _ (by have := hbb.out.2; omega)]; omega
  have hpm3 : IntKind.i64.wrap (-p) = -p := IntWalk.i64_in _ (by have := hbb.out.2; omega)
  clear hbb HN1 HC1 HN2 HF
  rcases hd.out with ⟨h1, rfl, rfl⟩ | ⟨h1, h2, rfl, rfl⟩ | ⟨h1, h2, rfl, rfl⟩
  · go_wp2_with fail
    go_ret2
    exact ⟨rfl, below_drewN HBB.out _⟩
  · go_wp2_with fail
    refine (HU2.out X _ hb.out.2.2).mono ?_; rintro x w3 ⟨rfl, k5, rfl⟩
    go_wp2_with fail
    refine (HR.out _).mono ?_; rintro x w3 ⟨rfl, rfl⟩
    go_wp2_with fail
    go_ret2
    exact ⟨rfl, below_drewN HBB.out _⟩
  · go_wp2_with fail
    go_ret2
    exact ⟨rfl, below_drewN HBB.out _⟩
set_option maxRecDepth 100000 in
set_option maxHeartbeats 2000000 in
theorem sh_B2 (U : Nat → Nat) (X lo hi o s Hh L i a b c D M u1 u2 : Nat) (e p lp k q E : Int) (w : World)
    (hrow : Hid (w.cell? ⟨8, i * 2, none⟩ = some (.int .u64 (Hh : Int)) ∧ w.cell? ⟨8, i * 2 + 1, none⟩ = some (.int .u64 (L : Int)) ∧ 8 < w.heap.size))
    (HU : Hid (USc U Hh L s w.heap.size)) (hb : Hid (lo < 18446744073709551616 ∧ hi < 18446744073709551616 ∧ X < 18446744073709551616))
    (hi1 : Hid ((i : Int) = p + 348 ∧ i < 696 ∧ -2000 ≤ e ∧ e ≤ 2000 ∧ -2000 ≤ lp ∧ lp ≤ 2000)) (hs : Hid (-(e + lp + 3) = (s : Int)))
    (HLG : Hid (Q1 73 (.int .i64 k) (.int .i64 q))) (hp : IntKind.i64.wrap (-q) = p) (HL2 : Hid (Q1 97 (.int .i64 p) (.int .i64 lp)))
    (HN1 : Hid (Q2 99 (.int .u64 ((U lo : Nat) : Int)) (.int .i64 (o : Int)) (.int .u64 (u1 : Int)))) (HC1 : Hid (Q1 100 (.int .u64 (u1 : Int)) (.int .u64 (a : Int))))
    (ho : IntKind.i64.wrap (-(o : Int)) = -(o : Int)) (HN2 : Hid (Q2 99 (.int .u64 ((U hi : Nat) : Int)) (.int .i64 (-(o : Int))) (.int .u64 (u2 : Int)))) (HF : Hid (Q1 101 (.int .u64 (u2 : Int)) (.int .u64 (b : Int))))
    (HR : Hid (Q1 102 (.int .u64 ((U X : Nat) : Int)) (.int .u64 (c : Int))))
    (d10 dd : Nat) (hdv : (b : Int) / 10 = (d10 : Int)) (hdw : IntKind.u64.wrap (d10 : Int) = (d10 : Int)) (hdm : IntKind.u64.wrap ((d10 : Int) * 10) = (dd : Int)) (hd : Hid (Fin3 a b c d10 dd D p E)) (hbb : Hid (b < 18446744073709551616 ∧ -2000 ≤ p ∧ p ≤ 2000))
    (hk : IntKind.i64.wrap (e + 11) = k)
    (t1 : ((X : Int) == 9223372036854775808) = true) (t2 : -1085 ≤ e) (t3 : ¬ -1085 < e)
    (hlo : IntKind.u64.wrap ((X : Int) - 1024) = (lo : Int)) (hhi : IntKind.u64.wrap ((X : Int) + 1024) = (hi : Int)) (hM : (X : Int) / 2048 = (M : Int)) (hM2 : IntKind.i64.wrap (M : Int) = (M : Int)) (hod : bits BinOp.and .i64 (M : Int) 1 = (o : Int)) :
    Calls Tryz.prog 78 #[.int .u64 (X : Int), .int .i64 e] w fun x w' => x = .returned (.tuple #[.int .u64 (D : Int), .int .i64 E]) ∧ Below w.heap.size w w' := by
  have HK := Lib.hid (Blk.new w 128 #[.int .u64 0, .int .u64 0, .int .i64 0])
  have HB := Lib.hid ((Below.refl w.heap.size w).alloc (Nat.le_refl _) (.cells #[.int .u64 0, .int .u64 0, .int .i64 0] 128))
  have HP := Lib.hid (c_prescaleI w.heap.size _ _ _ e p lp i Hh L (w.alloc (.cells #[.int .u64 0, .int .u64 0, .int .i64 0] 128)) hi1.out.1 hi1.out.2.1 hi1.out.2.2.1 hi1.out.2.2.2.1 hi1.out.2.2.2.2.1 hi1.out.2.2.2.2.2 (by rw [World.cell?_alloc_lt w _ _ hrow.out.2.2]; exact hrow.out.1) (by rw [World.cell?_alloc_lt w _ _ hrow.out.2.2]; exact hrow.out.2.1) HK.out hrow.out.2.2)
  clear hrow hi1 HK
  go_enter Tryz.func78, Tryz.ntmps78
  go_wp2_with fail
  refine (HLG.out _).mono ?_; rintro x w1 ⟨rfl, rfl⟩
  go_wp2_with fail
  refine (HL2.out _).mono ?_; rintro x w1 ⟨rfl, rfl⟩
  go_wp2_with fail
  refine HP.out.mono ?_; rintro x w2 ⟨rfl, hk2, hb2⟩
  rw [hs.out] at hk2
  have HU2 : Hid (∀ x k : Nat, x < 18446744073709551616 → Calls Tryz.prog 98 #[.int .u64 (x : Int), .pointer (some ⟨w.heap.size, 0, none⟩)] (w2.drewN k) fun e w' => e = .returned (.int .u64 ((U x : Nat) : Int)) ∧ ∃ k', w' = w2.drewN k') := fun x k hx =>
    (HU.out x (w2.drewN k) hx (hk2.cell 0) (hk2.cell 1) (hk2.cell 2)).mono fun e w' ⟨h1, k', h2⟩ => ⟨h1, k + k', by rw [h2]; exact drewN_two w2 k k'⟩
  have HBB := Lib.hid (HB.out.trans hb2)
  clear hk2 hb2 HP HB HU HLG HL2 hs
  go_wp2_with fail
  refine (HU2.out lo 0 hb.out.1).mono ?_; rintro x w3 ⟨rfl, k3, rfl⟩
  go_wp2_with fail
  refine (HN1.out _).mono ?_; rintro x w3 ⟨rfl, rfl⟩
  go_wp2_with fail
  refine (HC1.out _).mono ?_; rintro x w3 ⟨rfl, rfl⟩
  go_wp2_with fail
  refine (HU2.out hi _ hb.out.2.1).mono ?_; rintro x w3 ⟨rfl, k4, rfl⟩
  go_wp2_with fail
  refine (HN2.out _).mono ?_; rintro x w3 ⟨rfl, rfl⟩
  go_wp2_with fail
  refine (HF.out _).mono ?_; rintro x w3 ⟨rfl, rfl⟩
  have hpm : IntKind.i64.wrap (p - 1) = p - 1 := IntWalk.i64_in _ (by have := hbb.out.2; omega)
  have hpm2 : IntKind.i64.wrap (-(p - 1)) = 1 - p := by rw [IntWalk.i64_in _ (by have := hbb.out.2; omega)]; omega
  have hpm3 : IntKind.i64.wrap (-p) = -p := IntWalk.i64_in _ (by have := hbb.out.2; omega)
  clear hbb HN1 HC1 HN2 HF
  rcases hd.out with ⟨h1, rfl, rfl⟩ | ⟨h1, h2, rfl, rfl⟩ | ⟨h1, h2, rfl, rfl⟩
  · go_wp2_with fail
    go_ret2
    exact ⟨rfl, below_drewN HBB.out _⟩
  · go_wp2_with fail
    refine (HU2.out X _ hb.out.2.2).mono ?_; rintro x w3 ⟨rfl, k5, rfl⟩
    go_wp2_with fail
    refine (HR.out _).mono ?_; rintro x w3 ⟨rfl, rfl⟩
    go_wp2_with fail
    go_ret2
    exact ⟨rfl, below_drewN HBB.out _⟩
  · go_wp2_with fail
    go_ret2
    exact ⟨rfl, below_drewN HBB.out _⟩
set_option maxRecDepth 100000 in
set_option maxHeartbeats 2000000 in
theorem sh_C1 (U : Nat → Nat) (X lo hi o s Hh L i a b c D M u1 u2 : Nat) (z z1 y P : Nat) (e p lp k q E : Int) (w : World)
    (hrow : Hid (w.cell? ⟨8, i * 2, none⟩ = some (.int .u64 (Hh : Int)) ∧ w.cell? ⟨8, i * 2 + 1, none⟩ = some (.int .u64 (L : Int)) ∧ 8 < w.heap.size))
    (HU : Hid (USc U Hh L s w.heap.size)) (hb : Hid (lo < 18446744073709551616 ∧ hi < 18446744073709551616 ∧ X < 18446744073709551616))
    (hi1 : Hid ((i : Int) = p + 348 ∧ i < 696 ∧ -2000 ≤ e ∧ e ≤ 2000 ∧ -2000 ≤ lp ∧ lp ≤ 2000)) (hs : Hid (-(e + lp + 3) = (s : Int)))
    (HLG : Hid (Q1 73 (.int .i64 k) (.int .i64 q))) (hp : IntKind.i64.wrap (-q) = p) (HL2 : Hid (Q1 97 (.int .i64 p) (.int .i64 lp)))
    (HN1 : Hid (Q2 99 (.int .u64 ((U lo : Nat) : Int)) (.int .i64 (o : Int)) (.int .u64 (u1 : Int)))) (HC1 : Hid (Q1 100 (.int .u64 (u1 : Int)) (.int .u64 (a : Int))))
    (ho : IntKind.i64.wrap (-(o : Int)) = -(o : Int)) (HN2 : Hid (Q2 99 (.int .u64 ((U hi : Nat) : Int)) (.int .i64 (-(o : Int))) (.int .u64 (u2 : Int)))) (HF : Hid (Q1 101 (.int .u64 (u2 : Int)) (.int .u64 (b : Int))))
    (HR : Hid (Q1 102 (.int .u64 ((U X : Nat) : Int)) (.int .u64 (c : Int))))
    (d10 dd : Nat) (hdv : (b : Int) / 10 = (d10 : Int)) (hdw : IntKind.u64.wrap (d10 : Int) = (d10 : Int)) (hdm : IntKind.u64.wrap ((d10 : Int) * 10) = (dd : Int)) (hd : Hid (Fin3 a b c d10 dd D p E)) (hbb : Hid (b < 18446744073709551616 ∧ -2000 ≤ p ∧ p ≤ 2000))
    (hk : IntKind.i64.wrap (e + (z : Int)) = k)
    (t1 : ((X : Int) == 9223372036854775808) = false) (t2 : ¬ -1085 ≤ e)
    (hy : IntKind.i64.wrap (-1085 - e) = (y : Int)) (hz : IntKind.i64.wrap (11 + (y : Int)) = (z : Int)) (hz1 : IntKind.i64.wrap ((z : Int) - 1) = (z1 : Int)) (hP : IntKind.u64.wrap (2 ^ z1) = (P : Int)) (z0 : (0 : Int) ≤ (z : Int)) (z64 : (z : Int) ≤ 64) (z10 : (0 : Int) ≤ (z1 : Int)) (z164 : (z1 : Int) ≤ 64)
    (hlo : IntKind.u64.wrap ((X : Int) - (P : Int)) = (lo : Int)) (hhi : IntKind.u64.wrap ((X : Int) + (P : Int)) = (hi : Int)) (hM : (X : Int) / 2 ^ z = (M : Int)) (hM2 : IntKind.i64.wrap (M : Int) = (M : Int)) (hod : bits BinOp.and .i64 (M : Int) 1 = (o : Int)) :
    Calls Tryz.prog 78 #[.int .u64 (X : Int), .int .i64 e] w fun x w' => x = .returned (.tuple #[.int .u64 (D : Int), .int .i64 E]) ∧ Below w.heap.size w w' := by
  have HK := Lib.hid (Blk.new w 128 #[.int .u64 0, .int .u64 0, .int .i64 0])
  have HB := Lib.hid ((Below.refl w.heap.size w).alloc (Nat.le_refl _) (.cells #[.int .u64 0, .int .u64 0, .int .i64 0] 128))
  have HP := Lib.hid (c_prescaleI w.heap.size _ _ _ e p lp i Hh L (w.alloc (.cells #[.int .u64 0, .int .u64 0, .int .i64 0] 128)) hi1.out.1 hi1.out.2.1 hi1.out.2.2.1 hi1.out.2.2.2.1 hi1.out.2.2.2.2.1 hi1.out.2.2.2.2.2 (by rw [World.cell?_alloc_lt w _ _ hrow.out.2.2]; exact hrow.out.1) (by rw [World.cell?_alloc_lt w _ _ hrow.out.2.2]; exact hrow.out.2.1) HK.out hrow.out.2.2)
  clear hrow hi1 HK
  go_enter Tryz.func78, Tryz.ntmps78
  go_wp2_with fail
  refine (HLG.out _).mono ?_; rintro x w1 ⟨rfl, rfl⟩
  go_wp2_with fail
  refine (HL2.out _).mono ?_; rintro x w1 ⟨rfl, rfl⟩
  go_wp2_with fail
  refine HP.out.mono ?_; rintro x w2 ⟨rfl, hk2, hb2⟩
  rw [hs.out] at hk2
  have HU2 : Hid (∀ x k : Nat, x < 18446744073709551616 → Calls Tryz.prog 98 #[.int .u64 (x : Int), .pointer (some ⟨w.heap.size, 0, none⟩)] (w2.drewN k) fun e w' => e = .returned (.int .u64 ((U x : Nat) : Int)) ∧ ∃ k', w' = w2.drewN k') := fun x k hx =>
    (HU.out x (w2.drewN k) hx (hk2.cell 0) (hk2.cell 1) (hk2.cell 2)).mono fun e w' ⟨h1, k', h2⟩ => ⟨h1, k + k', by rw [h2]; exact drewN_two w2 k k'⟩
  have HBB := Lib.hid (HB.out.trans hb2)
  clear hk2 hb2 HP HB HU HLG HL2 hs
  go_wp2_with fail
  refine (HU2.out lo 0 hb.out.1).mono ?_; rintro x w3 ⟨rfl, k3, rfl⟩
  go_wp2_with fail
  refine (HN1.out _).mono ?_; rintro x w3 ⟨rfl, rfl⟩
  go_wp2_with fail
  refine (HC1.out _).mono ?_; rintro x w3 ⟨rfl, rfl⟩
  go_wp2_with fail
  refine (HU2.out hi _ hb.out.2.1).mono ?_; rintro x w3 ⟨rfl, k4, rfl⟩
  go_wp2_with fail
  refine (HN2.out _).mono ?_; rintro x w3 ⟨rfl, rfl⟩
  go_wp2_with fail
  refine (HF.out _).mono ?_; rintro x w3 ⟨rfl, rfl⟩
  have hpm : IntKind.i64.wrap (p - 1) = p - 1 := IntWalk.i64_in _ (by have := hbb.out.2; omega)
  have hpm2 : IntKind.i64.wrap (-(p - 1)) = 1 - p := by rw [IntWalk.i64_in _ (by have := hbb.out.2; omega)]; omega
  have hpm3 : IntKind.i64.wrap (-p) = -p := IntWalk.i64_in _ (by have := hbb.out.2; omega)
  clear hbb HN1 HC1 HN2 HF
  rcases hd.out with ⟨h1, rfl, rfl⟩ | ⟨h1, h2, rfl, rfl⟩ | ⟨h1, h2, rfl, rfl⟩
  · go_wp2_with fail
    go_ret2
    exact ⟨rfl, below_drewN HBB.out _⟩
  · go_wp2_with fail
    refine (HU2.out X _ hb.out.2.2).mono ?_; rintro x w3 ⟨rfl, k5, rfl⟩
    go_wp2_with fail
    refine (HR.out _).mono ?_; rintro x w3 ⟨rfl, rfl⟩
    go_wp2_with fail
    go_ret2
    exact ⟨rfl, below_drewN HBB.out _⟩
  · go_wp2_with fail
    go_ret2
    exact ⟨rfl, below_drewN HBB.out _⟩
set_option maxRecDepth 100000 in
set_option maxHeartbeats 2000000 in
theorem sh_C2 (U : Nat → Nat) (X lo hi o s Hh L i a b c D M u1 u2 : Nat) (z z1 y P : Nat) (e p lp k q E : Int) (w : World)
    (hrow : Hid (w.cell? ⟨8, i * 2, none⟩ = some (.int .u64 (Hh : Int)) ∧ w.cell? ⟨8, i * 2 + 1, none⟩ = some (.int .u64 (L : Int)) ∧ 8 < w.heap.size))
    (HU : Hid (USc U Hh L s w.heap.size)) (hb : Hid (lo < 18446744073709551616 ∧ hi < 18446744073709551616 ∧ X < 18446744073709551616))
    (hi1 : Hid ((i : Int) = p + 348 ∧ i < 696 ∧ -2000 ≤ e ∧ e ≤ 2000 ∧ -2000 ≤ lp ∧ lp ≤ 2000)) (hs : Hid (-(e + lp + 3) = (s : Int)))
    (HLG : Hid (Q1 73 (.int .i64 k) (.int .i64 q))) (hp : IntKind.i64.wrap (-q) = p) (HL2 : Hid (Q1 97 (.int .i64 p) (.int .i64 lp)))
    (HN1 : Hid (Q2 99 (.int .u64 ((U lo : Nat) : Int)) (.int .i64 (o : Int)) (.int .u64 (u1 : Int)))) (HC1 : Hid (Q1 100 (.int .u64 (u1 : Int)) (.int .u64 (a : Int))))
    (ho : IntKind.i64.wrap (-(o : Int)) = -(o : Int)) (HN2 : Hid (Q2 99 (.int .u64 ((U hi : Nat) : Int)) (.int .i64 (-(o : Int))) (.int .u64 (u2 : Int)))) (HF : Hid (Q1 101 (.int .u64 (u2 : Int)) (.int .u64 (b : Int))))
    (HR : Hid (Q1 102 (.int .u64 ((U X : Nat) : Int)) (.int .u64 (c : Int))))
    (d10 dd : Nat) (hdv : (b : Int) / 10 = (d10 : Int)) (hdw : IntKind.u64.wrap (d10 : Int) = (d10 : Int)) (hdm : IntKind.u64.wrap ((d10 : Int) * 10) = (dd : Int)) (hd : Hid (Fin3 a b c d10 dd D p E)) (hbb : Hid (b < 18446744073709551616 ∧ -2000 ≤ p ∧ p ≤ 2000))
    (hk : IntKind.i64.wrap (e + (z : Int)) = k)
    (t1 : ((X : Int) == 9223372036854775808) = true) (t2 : ¬ -1085 ≤ e) (t3 : ¬ -1085 < e)
    (hy : IntKind.i64.wrap (-1085 - e) = (y : Int)) (hz : IntKind.i64.wrap (11 + (y : Int)) = (z : Int)) (hz1 : IntKind.i64.wrap ((z : Int) - 1) = (z1 : Int)) (hP : IntKind.u64.wrap (2 ^ z1) = (P : Int)) (z0 : (0 : Int) ≤ (z : Int)) (z64 : (z : Int) ≤ 64) (z10 : (0 : Int) ≤ (z1 : Int)) (z164 : (z1 : Int) ≤ 64)
    (hlo : IntKind.u64.wrap ((X : Int) - (P : Int)) = (lo : Int)) (hhi : IntKind.u64.wrap ((X : Int) + (P : Int)) = (hi : Int)) (hM : (X : Int) / 2 ^ z = (M : Int)) (hM2 : IntKind.i64.wrap (M : Int) = (M : Int)) (hod : bits BinOp.and .i64 (M : Int) 1 = (o : Int)) :
    Calls Tryz.prog 78 #[.int .u64 (X : Int), .int .i64 e] w fun x w' => x = .returned (.tuple #[.int .u64 (D : Int), .int .i64 E]) ∧ Below w.heap.size w w' := by
  have HK := Lib.hid (Blk.new w 128 #[.int .u64 0, .int .u64 0, .int .i64 0])
  have HB := Lib.hid ((Below.refl w.heap.size w).alloc (Nat.le_refl _) (.cells #[.int .u64 0, .int .u64 0, .int .i64 0] 128))
  have HP := Lib.hid (c_prescaleI w.heap.size _ _ _ e p lp i Hh L (w.alloc (.cells #[.int .u64 0, .int .u64 0, .int .i64 0] 128)) hi1.out.1 hi1.out.2.1 hi1.out.2.2.1 hi1.out.2.2.2.1 hi1.out.2.2.2.2.1 hi1.out.2.2.2.2.2 (by rw [World.cell?_alloc_lt w _ _ hrow.out.2.2]; exact hrow.out.1) (by rw [World.cell?_alloc_lt w _ _ hrow.out.2.2]; exact hrow.out.2.1) HK.out hrow.out.2.2)
  clear hrow hi1 HK
  go_enter Tryz.func78, Tryz.ntmps78
  go_wp2_with fail
  refine (HLG.out _).mono ?_; rintro x w1 ⟨rfl, rfl⟩
  go_wp2_with fail
  refine (HL2.out _).mono ?_; rintro x w1 ⟨rfl, rfl⟩
  go_wp2_with fail
  refine HP.out.mono ?_; rintro x w2 ⟨rfl, hk2, hb2⟩
  rw [hs.out] at hk2
  have HU2 : Hid (∀ x k : Nat, x < 18446744073709551616 → Calls Tryz.prog 98 #[.int .u64 (x : Int), .pointer (some ⟨w.heap.size, 0, none⟩)] (w2.drewN k) fun e w' => e = .returned (.int .u64 ((U x : Nat) : Int)) ∧ ∃ k', w' = w2.drewN k') := fun x k hx =>
    (HU.out x (w2.drewN k) hx (hk2.cell 0) (hk2.cell 1) (hk2.cell 2)).mono fun e w' ⟨h1, k', h2⟩ => ⟨h1, k + k', by rw [h2]; exact drewN_two w2 k k'⟩
  have HBB := Lib.hid (HB.out.trans hb2)
  clear hk2 hb2 HP HB HU HLG HL2 hs
  go_wp2_with fail
  refine (HU2.out lo 0 hb.out.1).mono ?_; rintro x w3 ⟨rfl, k3, rfl⟩
  go_wp2_with fail
  refine (HN1.out _).mono ?_; rintro x w3 ⟨rfl, rfl⟩
  go_wp2_with fail
  refine (HC1.out _).mono ?_; rintro x w3 ⟨rfl, rfl⟩
  go_wp2_with fail
  refine (HU2.out hi _ hb.out.2.1).mono ?_; rintro x w3 ⟨rfl, k4, rfl⟩
  go_wp2_with fail
  refine (HN2.out _).mono ?_; rintro x w3 ⟨rfl, rfl⟩
  go_wp2_with fail
  refine (HF.out _).mono ?_; rintro x w3 ⟨rfl, rfl⟩
  have hpm : IntKind.i64.wrap (p - 1) = p - 1 := IntWalk.i64_in _ (by have := hbb.out.2; omega)
  have hpm2 : IntKind.i64.wrap (-(p - 1)) = 1 - p := by rw [IntWalk.i64_in _ (by have := hbb.out.2; omega)]; omega
  have hpm3 : IntKind.i64.wrap (-p) = -p := IntWalk.i64_in _ (by have := hbb.out.2; omega)
  clear hbb HN1 HC1 HN2 HF
  rcases hd.out with ⟨h1, rfl, rfl⟩ | ⟨h1, h2, rfl, rfl⟩ | ⟨h1, h2, rfl, rfl⟩
  · go_wp2_with fail
    go_ret2
    exact ⟨rfl, below_drewN HBB.out _⟩
  · go_wp2_with fail
    refine (HU2.out X _ hb.out.2.2).mono ?_; rintro x w3 ⟨rfl, k5, rfl⟩
    go_wp2_with fail
    refine (HR.out _).mono ?_; rintro x w3 ⟨rfl, rfl⟩
    go_wp2_with fail
    go_ret2
    exact ⟨rfl, below_drewN HBB.out _⟩
  · go_wp2_with fail
    go_ret2
    exact ⟨rfl, below_drewN HBB.out _⟩
theorem sh_parts {m z : Nat} (hz1 : 11 ≤ z) : mman m * 2 ^ z = 4 * mman m * 2 ^ (z - 2) ∧ xLo m z = (4 * mman m - dlM m) * 2 ^ (z - 2) ∧ xHi m z = (4 * mman m + 2) * 2 ^ (z - 2) := by
  have e4 : 2 ^ z = 4 * 2 ^ (z - 2) := by rw [show (4 : Nat) = 2 ^ 2 from rfl, ← Nat.pow_add]; congr 1; omega
  have e2 : 2 ^ (z - 1) = 2 * 2 ^ (z - 2) := by rw [← Nat.pow_succ']; congr 1; omega
  refine ⟨by rw [e4]; ac_rfl, ?_, ?_⟩
  · unfold xLo
    rw [e4, Nat.sub_mul]
    congr 1
    ac_rfl
  · unfold xHi
    rw [e4, e2, Nat.add_mul]
    congr 1
    ac_rfl
theorem lpI_bd {p : Int} (h1 : -292 ≤ p) (h2 : p ≤ 324) : -2000 ≤ lpI p ∧ lpI p ≤ 2000 := by unfold lpI; omega
theorem mman_hi (m : Nat) : mman m < 9007199254740992 := by unfold mman; split <;> omega
theorem mman_odd (m : Nat) : mman m % 2 = m % 2 := by unfold mman; split <;> omega
theorem fin3M (m z : Nat) : Fin3 (aM m z) (bM m z) ((uAt m z (mman m * 2 ^ z) + 1 + uAt m z (mman m * 2 ^ z) / 4 % 2) / 4) (bM m z / 10) (bM m z / 10 * 10) (dM m z) (pM m) (eM m z) := by
  unfold Fin3 dM eM
  by_cases h1 : aM m z ≤ bM m z / 10 * 10
  · exact .inl ⟨h1, if_pos h1, if_pos h1⟩
  · by_cases h2 : aM m z < bM m z
    · exact .inr (.inl ⟨h1, h2, by rw [if_neg h1, if_pos h2], if_neg h1⟩)
    · exact .inr (.inr ⟨h1, h2, by rw [if_neg h1, if_neg h2], if_neg h1⟩)
set_option maxRecDepth 100000 in
theorem c_shortI (m z : Nat) (h0 : 0 < m) (h1 : m < 9218868437227405312) (hz1 : 11 ≤ z) (hz2 : z ≤ 63) (hn : 4503599627370496 ≤ m → z = 11) (hM1 : 9223372036854775808 ≤ mman m * 2 ^ z) (hM : mman m * 2 ^ z < 18446744073709551616) (w : World) (ht : TabS w) :
    Calls Tryz.prog 78 #[.int .u64 ((mman m * 2 ^ z : Nat) : Int), .int .i64 (mexp m - z)] w fun x w' => x = .returned (.tuple #[.int .u64 ((dM m z : Nat) : Int), .int .i64 (eM m z)]) ∧ Below w.heap.size w w' := by
  have hk := kOkM h1
  have p1 := hk.p1
  have p2 := hk.p2
  have hs1 := hk.s1
  have hlb := lpI_bd p1 p2
  have hkb1 : -1074 ≤ mexp m := (mexp_bd (m := m) (by omega)).1
  have hkb2 : mexp m ≤ 971 := by unfold mexp; split <;> omega
  have hm1 := mman_one h0
  have hm2 := mman_hi m
  have hdl := dlM_12 m
  obtain ⟨eX, eL, eH⟩ := sh_parts (m := m) hz1
  have hP0 : 0 < 2 ^ (z - 2) := Nat.pow_pos (by decide)
  have hHM : (4 * mman m + 2) * 2 ^ (z - 2) < 18446744073709551616 := by
    have hlt : mman m < 2 ^ (64 - z) := by
      refine Nat.lt_of_mul_lt_mul_right (a := 2 ^ z) ?_
      rw [← Nat.pow_add, show 64 - z + z = 64 from by omega]
      exact hM
    have h2 : (mman m + 1) * 2 ^ z ≤ 2 ^ (64 - z) * 2 ^ z := Nat.mul_le_mul_right _ hlt
    rw [← Nat.pow_add, show 64 - z + z = 64 from by omega] at h2
    have e5 : (mman m + 1) * 2 ^ z = (4 * mman m + 2) * 2 ^ (z - 2) + 2 * 2 ^ (z - 2) := by
      rw [show 2 ^ z = 4 * 2 ^ (z - 2) from by rw [show (4 : Nat) = 2 ^ 2 from rfl, ← Nat.pow_add]; congr 1; omega, ← Nat.add_mul, Nat.add_assoc, show 4 * mman m + (2 + 2) = 4 * (mman m + 1) from by omega]
      ac_rfl
    have : (2 : Nat) ^ 64 = 18446744073709551616 := rfl
    omega
  have hLM : (4 * mman m - dlM m) * 2 ^ (z - 2) < 18446744073709551616 := Nat.lt_of_le_of_lt (Nat.mul_le_mul_right _ (by omega)) hHM
  have hXM : 4 * mman m * 2 ^ (z - 2) < 18446744073709551616 := by rw [← eX]; exact hM
  have uL : uAt m z (xLo m z) < 4611686018427387904 := by rw [eL]; exact uAt_lt h1 hz1 hz2 (by omega) hLM (by omega)
  have uH : uAt m z (xHi m z) < 4611686018427387904 := by rw [eH]; exact uAt_lt h1 hz1 hz2 (by omega) hHM (by omega)
  have uX : uAt m z (mman m * 2 ^ z) < 4611686018427387904 := by rw [eX]; exact uAt_lt h1 hz1 hz2 (by omega) hXM (by omega)
  have uH1 : 1 ≤ uAt m z (xHi m z) := by
    rw [eH, (uAt_eq h1 hz1 hz2 (by omega) hHM).1]
    have hD := d4N_pos (mexp m) (pM m)
    have hf := (ur_floor (A := (4 * mman m + 2) * w4N (mexp m) (pM m)) hD 1).2 (by
      have h6 : (2 + dlM m) * w4N (mexp m) (pM m) ≤ (4 * mman m + 2) * w4N (mexp m) (pM m) := Nat.mul_le_mul_right _ (by omega)
      have := hk.wide
      omega)
    omega
  have hsh := (uAt_eq (m := m) (z := z) (c := 4 * mman m) h1 hz1 hz2 (by omega) hXM).2
  have hshI : -(mexp m - (z : Int) + lpI (pM m) + 3) = ((shM m z : Nat) : Int) := by unfold shM; omega
  obtain ⟨i, hi⟩ : ∃ i : Nat, (i : Int) = pM m + 348 := ⟨(pM m + 348).toNat, by omega⟩
  have hrow := ht.row i (by omega)
  rw [show (i : Int) - 348 = pM m from by omega] at hrow
  have hHB : hiN (pM m) < 18446744073709551616 := (us_all (p := pM m) (s := 5) (t := 1) p1 p2 (by decide) (by decide) (by decide)).2
  have hLB := (hilo (pM m)).2
  have hH0 := hiN_pos (pM m)
  have ho2 : m % 2 ≤ 1 := by omega
  have hrn := fun (x : Nat) (hx : x < 4611686018427387904) => c_roundI x (by omega)
  have Hrow := Lib.hid (And.intro hrow.1 (And.intro hrow.2 ht.hg))
  have HU : Hid (USc (uAt m z) (hiN (pM m)) (loN (pM m)) (shM m z) w.heap.size) := fun x W hx c0 c1 c2 => c_uscaleI x (hiN (pM m)) (loN (pM m)) (shM m z) w.heap.size hx hHB hH0 hLB hsh W c0 c1 c2
  have Hb := Lib.hid (And.intro (by rw [eL]; exact hLM : xLo m z < 18446744073709551616) (And.intro (by rw [eH]; exact hHM : xHi m z < 18446744073709551616) hM))
  have Hi : Hid ((i : Int) = pM m + 348 ∧ i < 696 ∧ -2000 ≤ mexp m - (z : Int) ∧ mexp m - (z : Int) ≤ 2000 ∧ -2000 ≤ lpI (pM m) ∧ lpI (pM m) ≤ 2000) := ⟨hi, by omega, by omega, by omega, hlb.1, hlb.2⟩
  have Hs := Lib.hid hshI
  have HL2 : Hid (Q1 97 (.int .i64 (pM m)) (.int .i64 (lpI (pM m)))) := c_log2I (pM m) (by omega) (by omega)
  have HN1 : Hid (Q2 99 (.int .u64 ((uAt m z (xLo m z) : Nat) : Int)) (.int .i64 ((m % 2 : Nat) : Int)) (.int .u64 ((uAt m z (xLo m z) + m % 2 : Nat) : Int))) := c_nudgeUp _ _ (by omega) ho2
  have HC1 : Hid (Q1 100 (.int .u64 ((uAt m z (xLo m z) + m % 2 : Nat) : Int)) (.int .u64 ((aM m z : Nat) : Int))) := c_ceilI _ (by omega)
  have hno : IntKind.i64.wrap (-((m % 2 : Nat) : Int)) = -((m % 2 : Nat) : Int) := IntWalk.i64_in _ (by omega)
  have HN2 : Hid (Q2 99 (.int .u64 ((uAt m z (xHi m z) : Nat) : Int)) (.int .i64 (-((m % 2 : Nat) : Int))) (.int .u64 ((uAt m z (xHi m z) - m % 2 : Nat) : Int))) := c_nudgeDn _ _ (by omega) ho2 (by omega)
  have HF : Hid (Q1 101 (.int .u64 ((uAt m z (xHi m z) - m % 2 : Nat) : Int)) (.int .u64 ((bM m z : Nat) : Int))) := c_floorI _ (by omega)
  have HR : Hid (Q1 102 (.int .u64 ((uAt m z (mman m * 2 ^ z) : Nat) : Int)) (.int .u64 (((uAt m z (mman m * 2 ^ z) + 1 + uAt m z (mman m * 2 ^ z) / 4 % 2) / 4 : Nat) : Int))) := hrn _ uX
  have HD := Lib.hid (fin3M m z)
  have Hbb : Hid (bM m z < 18446744073709551616 ∧ -2000 ≤ pM m ∧ pM m ≤ 2000) := ⟨by unfold bM; omega, by omega, by omega⟩
  have hbM : bM m z < 18446744073709551616 := Hbb.out.1
  have hdv : ((bM m z : Nat) : Int) / 10 = ((bM m z / 10 : Nat) : Int) := by omega
  have hdw : IntKind.u64.wrap ((bM m z / 10 : Nat) : Int) = ((bM m z / 10 : Nat) : Int) := by rw [IntKind.wrap_u64]; omega
  have hdm : IntKind.u64.wrap (((bM m z / 10 : Nat) : Int) * 10) = ((bM m z / 10 * 10 : Nat) : Int) := by rw [IntKind.wrap_u64]; omega
  have hM2 : IntKind.i64.wrap ((mman m : Nat) : Int) = ((mman m : Nat) : Int) := IntWalk.i64_in _ (by omega)
  have hod : bits BinOp.and .i64 ((mman m : Nat) : Int) 1 = ((m % 2 : Nat) : Int) := and1_i64 hm2 (mman_odd m)
  have hMd : ((mman m * 2 ^ z : Nat) : Int) / 2 ^ z = ((mman m : Nat) : Int) := by
    rw [div_pow_cast, Nat.mul_div_cancel _ (Nat.pow_pos (by decide))]
  by_cases hm : m < 4503599627370496
  · have hme : mexp m = -1074 := by unfold mexp; rw [if_pos hm]
    have hmm : mman m = m := by unfold mman; rw [if_pos hm]
    have hd : dlM m = 2 := by unfold dlM; rw [if_neg (by omega)]
    have hz12 : 12 ≤ z := by
      rcases Nat.lt_or_ge z 12 with h | h
      · obtain rfl : z = 11 := by omega
        omega
      · exact h
    have hpq : IntKind.i64.wrap (-(mexp m * 78913 / 262144)) = pM m := by rw [IntWalk.i64_in _ (by omega)]; unfold pM p10; rw [if_neg (by omega)]
    have eP : 2 ^ (z - 1) = 2 * 2 ^ (z - 2) := by rw [← Nat.pow_succ']; congr 1; omega
    have hPs : 2 ^ (z - 1) < 18446744073709551616 := Nat.lt_of_le_of_lt (Nat.pow_le_pow_right (by decide) (by omega : z - 1 ≤ 62)) (by decide)
    have hP : IntKind.u64.wrap (2 ^ (z - 1)) = ((2 ^ (z - 1) : Nat) : Int) := by
      rw [show (2 : Int) ^ (z - 1) = ((2 ^ (z - 1) : Nat) : Int) from by rw [Int.natCast_pow]; rfl, IntKind.wrap_u64]
      omega
    have q1 : xLo m z + 2 ^ (z - 1) = mman m * 2 ^ z := by
      rw [eL, eX, eP, hd, ← Nat.add_mul]; congr 1; omega
    have q2 : xHi m z = mman m * 2 ^ z + 2 ^ (z - 1) := by
      rw [eH, eX, eP, ← Nat.add_mul]
    have hlo : IntKind.u64.wrap (((mman m * 2 ^ z : Nat) : Int) - ((2 ^ (z - 1) : Nat) : Int)) = ((xLo m z : Nat) : Int) := by rw [IntKind.wrap_u64]; omega
    have hhi : IntKind.u64.wrap (((mman m * 2 ^ z : Nat) : Int) + ((2 ^ (z - 1) : Nat) : Int)) = ((xHi m z : Nat) : Int) := by rw [IntKind.wrap_u64]; have := Hb.out.2.1; omega
    have hy : IntKind.i64.wrap (-1085 - (mexp m - (z : Int))) = ((z - 11 : Nat) : Int) := by rw [IntWalk.i64_in _ (by omega)]; omega
    have hzw : IntKind.i64.wrap (11 + ((z - 11 : Nat) : Int)) = (z : Int) := by rw [IntWalk.i64_in _ (by omega)]; omega
    have hz1w : IntKind.i64.wrap ((z : Int) - 1) = ((z - 1 : Nat) : Int) := by rw [IntWalk.i64_in _ (by omega)]; omega
    have hkw : IntKind.i64.wrap (mexp m - (z : Int) + (z : Int)) = mexp m := by rw [IntWalk.i64_in _ (by omega)]; omega
    by_cases hx : mman m * 2 ^ z = 9223372036854775808
    · exact sh_C2 _ _ _ _ _ _ _ _ _ _ _ _ _ _ _ _ _ _ _ _ _ _ _ _ _ _ w Hrow HU Hb Hi Hs (Lib.hid (c_log10I (mexp m) (by omega) (by omega))) hpq HL2 HN1 HC1 hno HN2 HF HR _ _ hdv hdw hdm HD Hbb hkw (by rw [beq_iff_eq]; omega) (by omega) (by omega) hy hzw hz1w hP (by omega) (by omega) (by omega) (by omega) hlo hhi hMd hM2 hod
    · exact sh_C1 _ _ _ _ _ _ _ _ _ _ _ _ _ _ _ _ _ _ _ _ _ _ _ _ _ _ w Hrow HU Hb Hi Hs (Lib.hid (c_log10I (mexp m) (by omega) (by omega))) hpq HL2 HN1 HC1 hno HN2 HF HR _ _ hdv hdw hdm HD Hbb hkw (by rw [beq_eq_false_iff_ne]; exact fun e => hx (by omega)) (by omega) hy hzw hz1w hP (by omega) (by omega) (by omega) (by omega) hlo hhi hMd hM2 hod
  · obtain rfl := hn (by omega)
    have hkw : IntKind.i64.wrap (mexp m - ((11 : Nat) : Int) + 11) = mexp m := by rw [IntWalk.i64_in _ (by omega)]; omega
    have hMd' : ((mman m * 2 ^ 11 : Nat) : Int) / 2048 = ((mman m : Nat) : Int) := by omega
    have hhi : IntKind.u64.wrap (((mman m * 2 ^ 11 : Nat) : Int) + 1024) = ((xHi m 11 : Nat) : Int) := by
      rw [IntKind.wrap_u64]; have := Hb.out.2.1; unfold xHi at *; omega
    by_cases hd : dlM m = 1
    · have hmz : m % 4503599627370496 = 0 ∧ 9007199254740992 ≤ m := by
        unfold dlM at hd
        split at hd
        · assumption
        · cases hd
      have hmm : mman m = 4503599627370496 := by unfold mman; rw [if_neg hm]; omega
      have hme : -1074 < mexp m := by unfold mexp; rw [if_neg hm]; omega
      have hxT : (((mman m * 2 ^ 11 : Nat) : Int) == 9223372036854775808) = true := by rw [beq_iff_eq]; omega
      have hpq : IntKind.i64.wrap (-((mexp m * 631305 - 261663) / 2097152)) = pM m := by rw [IntWalk.i64_in _ (by omega)]; unfold pM psk; rw [if_pos hd]
      have hlo : IntKind.u64.wrap (((mman m * 2 ^ 11 : Nat) : Int) - 512) = ((xLo m 11 : Nat) : Int) := by
        rw [IntKind.wrap_u64]; unfold xLo; rw [hd]; omega
      exact sh_A _ _ _ _ _ _ _ _ _ _ _ _ _ _ _ _ _ _ _ _ _ _ w Hrow HU Hb Hi Hs (Lib.hid (c_skewI (mexp m) (by omega) (by omega))) hpq HL2 HN1 HC1 hno HN2 HF HR _ _ hdv hdw hdm HD Hbb hkw hxT (by omega) hlo hhi hMd' hM2 hod
    · have hd2 : dlM m = 2 := by omega
      have hpq : IntKind.i64.wrap (-(mexp m * 78913 / 262144)) = pM m := by rw [IntWalk.i64_in _ (by omega)]; unfold pM p10; rw [if_neg hd]
      have hlo : IntKind.u64.wrap (((mman m * 2 ^ 11 : Nat) : Int) - 1024) = ((xLo m 11 : Nat) : Int) := by
        rw [IntKind.wrap_u64]; unfold xLo; rw [hd2]; omega
      by_cases hx : mman m * 2 ^ 11 = 9223372036854775808
      · have hme : mexp m = -1074 := by
          unfold dlM at hd
          split at hd
          · exact absurd rfl hd
          · unfold mexp
            unfold mman at hx
            rw [if_neg hm] at hx ⊢
            omega
        exact sh_B2 _ _ _ _ _ _ _ _ _ _ _ _ _ _ _ _ _ _ _ _ _ _ w Hrow HU Hb Hi Hs (Lib.hid (c_log10I (mexp m) (by omega) (by omega))) hpq HL2 HN1 HC1 hno HN2 HF HR _ _ hdv hdw hdm HD Hbb hkw (by rw [beq_iff_eq]; omega) (by omega) (by omega) hlo hhi hMd' hM2 hod
      · exact sh_B1 _ _ _ _ _ _ _ _ _ _ _ _ _ _ _ _ _ _ _ _ _ _ w Hrow HU Hb Hi Hs (Lib.hid (c_log10I (mexp m) (by omega) (by omega))) hpq HL2 HN1 HC1 hno HN2 HF HR _ _ hdv hdw hdm HD Hbb hkw (by rw [beq_eq_false_iff_ne]; exact fun e => hx (by omega)) (by omega) hlo hhi hMd' hM2 hod
end Go.Proofs.YthoifpapdefheaaGreatDoor
