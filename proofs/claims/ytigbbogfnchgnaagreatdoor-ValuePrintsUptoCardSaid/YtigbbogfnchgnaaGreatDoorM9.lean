/- Walks: a float above nought as text in the form 'e', the shortest (strconv: ftoa64, FormatFloat). Conditions: a rung above nought, below infinity's; the library's tables. Walks: parts of a float's text: strings.Cut at the letter, strings.Replace of one point, strconv.Atoi of the exponent, strings.Repeat of noughts, strconv.Itoa. Conditions: as stated. Walks: the text of a float (float.Text). Conditions: 64 bits; the library's tables. What the laid table of powers says of its cells; the law of the shortest text of a float, at any memory that bears the library's tables. Conditions: as stated. -/
import Derived.Test.YtigbbogfnchgnaaGreatDoorM8
import Derived.Deep.RegionHeld3
import Derived.Deep.RegionLaw
import Derived.Deep.DrawnRows
import Derived.Test.YtigbbogfnchgnaaGreatDoorLg
import Derived.Test.YtigbbogfnchgnaaGreatDoorLv
import Derived.BigQuiet
import Derived.Lib.AtoiErrMem
import Derived.Test.YtigbbogfnchgnaaGreatDoorJe
import Derived.Lib.LaidTab
import Derived.ChangeArms
namespace Go.Proofs.YtigbbogfnchgnaaGreatDoor
open Go.RowKit
set_option linter.unusedVariables false
attribute [local go_sem ↓] Go.wp_at_zero Go.wp_at_succ

theorem bitLen_bd : ∀ x : Nat, 0 < x → x < 18446744073709551616 → 1 ≤ Lib.bitLen x ∧ 2 ^ (Lib.bitLen x - 1) ≤ x ∧ x < 2 ^ Lib.bitLen x := by
  intro x
  induction x using Nat.strongRecOn with
  | _ x ih =>
    intro h0 h1
    have e := Lib.bitLen_half x (by omega) (by omega)
    rcases Nat.lt_or_ge x 2 with h | h
    · obtain rfl : x = 1 := by omega
      decide
    · obtain ⟨a, b, c⟩ := ih (x / 2) (by omega) (by omega) (by omega)
      rw [e]
      obtain ⟨k, hk⟩ : ∃ k, Lib.bitLen (x / 2) = k + 1 := ⟨Lib.bitLen (x / 2) - 1, by omega⟩
      rw [hk] at b c ⊢
      rw [show 1 + (k + 1) - 1 = k + 1 from by omega, show 1 + (k + 1) = k + 2 from by omega]
      rw [Nat.add_sub_cancel] at b
      have p1 : 2 ^ (k + 1) = 2 * 2 ^ k := Nat.pow_succ'
      have p2 : 2 ^ (k + 2) = 2 * 2 ^ (k + 1) := Nat.pow_succ'
      omega
/-- How far a rung's whole number is moved up. -/
def zM (m : Nat) : Nat := 64 - Lib.bitLen (mman m)
theorem zM_facts {m : Nat} (h0 : 0 < m) (h1 : m < 9218868437227405312) : 11 ≤ zM m ∧ zM m ≤ 63 ∧ (4503599627370496 ≤ m → zM m = 11) ∧ 9223372036854775808 ≤ mman m * 2 ^ zM m ∧ mman m * 2 ^ zM m < 18446744073709551616 ∧ (64 : Int) - (Lib.bitLen (mman m) : Nat) = (zM m : Nat) := by
  have hm1 := mman_one h0
  have hm2 := mman_hi m
  obtain ⟨a, b, c⟩ := bitLen_bd (mman m) hm1 (by omega)
  unfold zM
  generalize Lib.bitLen (mman m) = l at *
  have hl : l ≤ 53 := by
    rcases Nat.lt_or_ge 53 l with h | h
    · have : 2 ^ 53 ≤ 2 ^ (l - 1) := Nat.pow_le_pow_right (by decide) (by omega)
      have : (2 : Nat) ^ 53 = 9007199254740992 := rfl
      omega
    · exact h
  refine ⟨by omega, by omega, fun hm => ?_, ?_, ?_, by omega⟩
  · have hmm : 4503599627370496 ≤ mman m := by unfold mman; rw [if_neg (by omega)]; omega
    rcases Nat.lt_or_ge l 53 with h | h
    · have : 2 ^ l ≤ 2 ^ 52 := Nat.pow_le_pow_right (by decide) (by omega)
      have : (2 : Nat) ^ 52 = 4503599627370496 := rfl
      omega
    · omega
  · have : 2 ^ (l - 1) * 2 ^ (64 - l) ≤ mman m * 2 ^ (64 - l) := Nat.mul_le_mul_right _ b
    rw [← Nat.pow_add, show l - 1 + (64 - l) = 63 from by omega] at this
    exact this
  · have : mman m * 2 ^ (64 - l) < 2 ^ l * 2 ^ (64 - l) := Nat.mul_lt_mul_of_pos_right c (Nat.pow_pos (by decide))
    rw [← Nat.pow_add, show l + (64 - l) = 64 from by omega] at this
    exact this
def ShQ (X D : Nat) (e E : Int) : Prop := ∀ V : World, TabS V → Calls Tryz.prog 223 #[.int .u64 (X : Int), .int .i64 e] V fun x w' => x = .returned (.tuple #[.int .u64 (D : Int), .int .i64 E]) ∧ Below V.heap.size V w'
def NdQ (D n : Nat) : Prop := ∀ V : World, TabS V → Calls Tryz.prog 131 #[.int .u64 (D : Int)] V fun e w' => e = .returned (.int .i64 (n : Int)) ∧ V = w'
def SdQ (D n nd : Nat) (E dp : Int) (ds : List UInt8) : Prop := ∀ (g : Nat) (V : World), Blk V g 217 zrs32 → Calls Tryz.prog 219 #[.slice (some ⟨g, 0, none⟩) 32 32, .int .u64 (D : Int), .int .i64 E, .int .i64 (n : Int)] V fun e w' => e = .returned (.tuple #[.int .i64 dp, .int .i64 (nd : Int)]) ∧ (∀ j x, ds[j]? = some x → w'.cell? ⟨g, j, none⟩ = some (.int .u8 (x.toNat : Int))) ∧ Below g V w'
def FmQ (nd : Nat) (dp : Int) (ds T : List UInt8) : Prop := ∀ (W w : World) (A : Option Addr) (c g : Nat), OwnU W w A c [] → DgC w g ds → (Value.slice A 0 c).ownBlock ≠ some g →
  Calls Tryz.prog 217 #[.slice A 0 c, .bool false, .slice (some ⟨g, 0, none⟩) 32 32, .int .i64 dp, .int .i64 (nd : Int), .int .i64 ((nd : Int) - 1), .int .u8 101, .bool true] w fun e w' => ∃ A' c', e = .returned (.slice A' T.length c') ∧ OwnU W w' A' c' T
set_option maxRecDepth 100000 in
set_option maxHeartbeats 2000000 in
theorem ft_s (W w : World) (A : Option Addr) (c b q fr mm z X D n nd L : Nat) (ex e1 e2 E dp : Int) (ds T : List UInt8) (HO : Hid (OwnU W w A c [])) (HT : Hid (TabS w))
    (hb63 : (b : Int) / 9223372036854775808 = 0) (hq : (b : Int) / 4503599627370496 = 0) (hqa : bits BinOp.and .i64 0 2047 = 0) (hfr : bits BinOp.and .u64 (b : Int) 4503599627370495 = (fr : Int))
    (hmm : (fr : Int) = (mm : Int)) (hex : (-1022 : Int) = ex) (hm0 : ((mm : Int) == 0) = false)
    (HLn : Hid (Q1 137 (.int .u64 (mm : Int)) (.int .i64 (L : Int)))) (hz : IntKind.i64.wrap (64 - (L : Int)) = (z : Int)) (hX : IntKind.u64.wrap ((mm : Int) * 2 ^ z) = (X : Int)) (z0 : (0 : Int) ≤ (z : Int)) (z64 : (z : Int) ≤ 64)
    (he1 : IntKind.i64.wrap (ex - (z : Int)) = e1) (he2 : IntKind.i64.wrap (e1 - 52) = e2) (HS : Hid (ShQ X D e2 E)) (HN : Hid (NdQ D n)) (HD : Hid (SdQ D n nd E dp ds)) (HF : Hid (FmQ nd dp ds T)) (hnd : IntKind.i64.wrap ((nd : Int) - 1) = (nd : Int) - 1) (hmx : max ((nd : Int) - 1) 0 = (nd : Int) - 1) :
    Calls Tryz.prog 205 #[.slice A 0 c, .float .f64 b, .int .u8 101, .int .i64 (-1)] w fun e w' => ∃ A' c', e = .returned (.slice A' T.length c') ∧ OwnU W w' A' c' T := by
  have hcall : ∀ w : World, (callFunc 214 #[.float .f64 b]).run Tryz.prog w = .ok (.value (.int .u64 (b : Int))) w := fun w => call_bits64 b w
  obtain rfl : fr = mm := Int.ofNat.inj hmm
  subst hex
  have HNE : Hid ((Value.slice A 0 c).ownBlock ≠ some w.heap.size) := fun e => Nat.lt_irrefl _ (HO.out.1.lt w.heap.size e).2
  go_enter Tryz.func205, Tryz.ntmps205
  go_wp2_with fail
  go_region
  go_wp2_with fail
  have HV : Hid (Below w.heap.size w (w.alloc (.cells zrs32 217)).drew) := ((Below.refl _ _).alloc (Nat.le_refl _) _).drew
  have HK : Hid (Blk (w.alloc (.cells zrs32 217)).drew w.heap.size 217 zrs32) := (Blk.new w _ _).drew
  have HV' : Hid (w.heap.size < (w.alloc (.cells zrs32 217)).drew.heap.size) := HK.out.lt
  change Calls _ _ _ (w.alloc (.cells zrs32 217)).drew _
  generalize (w.alloc (.cells zrs32 217)).drew = V at *
  have HTV := Lib.hid (HT.out.below HV.out)
  refine (HLn.out _).mono ?_; rintro e w1 ⟨rfl, rfl⟩
  go_wp2_with fail
  refine (HS.out V HTV.out).mono ?_; rintro e w2 ⟨rfl, hb2⟩
  have HT2 := Lib.hid (HTV.out.below hb2)
  have HK2 := Lib.hid (HK.out.below hb2 HV'.out)
  have HB2 := Lib.hid (HV.out.trans (hb2.mono (Nat.le_of_lt HV'.out)))
  clear hb2
  go_wp2_with fail
  have HN2 := Lib.hid (HN.out w2.drew (HT2.out.below ((Below.refl _ _).drew)))
  have HS2 := Lib.hid (HD.out w.heap.size w2.drew HK2.out.drew)
  have HG2 : Hid (w.heap.size < w2.heap.size) := HK2.out.lt
  go_region_with (first
    | (go_at_call 131; (with_reducible refine HN2.out.mono ?_); rintro e w3 ⟨rfl, rfl⟩)
    | (go_at_call 219; (with_reducible refine HS2.out.mono ?_); rintro e w3 ⟨rfl, k3, hb3⟩))
  all_goals
    have hB3 : Below w.heap.size w w3 := HB2.out.drew.trans hb3
    have HO3 : Hid (OwnU W w3 A c []) := ⟨own_below HO.out.1 hB3, HO.out.2.trans (hB3.mono HO.out.2.size)⟩
    have HG3 : Hid (DgC w3 w.heap.size ds) := ⟨Nat.lt_of_lt_of_le HG2.out (show w2.drew.heap.size ≤ w3.heap.size from hb3.size), k3⟩
    have HF3 := Lib.hid (HF.out W w3 A c w.heap.size HO3.out HG3.out HNE.out)
    clear hb3 hB3 HN2 HS2 HB2 HV HV' HTV HT HT2 HO HF HG2
    go_wp2_with fail
    refine HF3.out.mono ?_; rintro e w4 ⟨A4, c4, rfl, ho4⟩
    have HO4 := Lib.hid ho4
    clear ho4
    go_wp2
    go_ret
    exact ⟨_, _, rfl, HO4.out⟩
set_option maxRecDepth 100000 in
set_option maxHeartbeats 2000000 in
theorem ft_n (W w : World) (A : Option Addr) (c b q fr mm z X D n nd L : Nat) (ex e1 e2 E dp : Int) (ds T : List UInt8) (HO : Hid (OwnU W w A c [])) (HT : Hid (TabS w))
    (hb63 : (b : Int) / 9223372036854775808 = 0) (hq : (b : Int) / 4503599627370496 = (q : Int)) (hqw : IntKind.i64.wrap (q : Int) = (q : Int)) (hqa : bits BinOp.and .i64 (q : Int) 2047 = (q : Int)) (hfr : bits BinOp.and .u64 (b : Int) 4503599627370495 = (fr : Int)) (hq1 : ((q : Int) == 2047) = false)
    (q0 : ¬ q = 0) (hmm : bits BinOp.or .u64 (fr : Int) 4503599627370496 = (mm : Int)) (hex : IntKind.i64.wrap ((q : Int) + -1023) = ex) (hm0 : ((mm : Int) == 0) = false)
    (HLn : Hid (Q1 137 (.int .u64 (mm : Int)) (.int .i64 (L : Int)))) (hz : IntKind.i64.wrap (64 - (L : Int)) = (z : Int)) (hX : IntKind.u64.wrap ((mm : Int) * 2 ^ z) = (X : Int)) (z0 : (0 : Int) ≤ (z : Int)) (z64 : (z : Int) ≤ 64)
    (he1 : IntKind.i64.wrap (ex - (z : Int)) = e1) (he2 : IntKind.i64.wrap (e1 - 52) = e2) (HS : Hid (ShQ X D e2 E)) (HN : Hid (NdQ D n)) (HD : Hid (SdQ D n nd E dp ds)) (HF : Hid (FmQ nd dp ds T)) (hnd : IntKind.i64.wrap ((nd : Int) - 1) = (nd : Int) - 1) (hmx : max ((nd : Int) - 1) 0 = (nd : Int) - 1) :
    Calls Tryz.prog 205 #[.slice A 0 c, .float .f64 b, .int .u8 101, .int .i64 (-1)] w fun e w' => ∃ A' c', e = .returned (.slice A' T.length c') ∧ OwnU W w' A' c' T := by
  have hcall : ∀ w : World, (callFunc 214 #[.float .f64 b]).run Tryz.prog w = .ok (.value (.int .u64 (b : Int))) w := fun w => call_bits64 b w
  have q0' : ((q : Int) == 0) = false := by rw [beq_eq_false_iff_ne]; omega
  have HNE : Hid ((Value.slice A 0 c).ownBlock ≠ some w.heap.size) := fun e => Nat.lt_irrefl _ (HO.out.1.lt w.heap.size e).2
  go_enter Tryz.func205, Tryz.ntmps205
  go_wp2_with fail
  go_region
  go_wp2_with fail
  have HV : Hid (Below w.heap.size w (w.alloc (.cells zrs32 217)).drew) := ((Below.refl _ _).alloc (Nat.le_refl _) _).drew
  have HK : Hid (Blk (w.alloc (.cells zrs32 217)).drew w.heap.size 217 zrs32) := (Blk.new w _ _).drew
  have HV' : Hid (w.heap.size < (w.alloc (.cells zrs32 217)).drew.heap.size) := HK.out.lt
  change Calls _ _ _ (w.alloc (.cells zrs32 217)).drew _
  generalize (w.alloc (.cells zrs32 217)).drew = V at *
  have HTV := Lib.hid (HT.out.below HV.out)
  refine (HLn.out _).mono ?_; rintro e w1 ⟨rfl, rfl⟩
  go_wp2_with fail
  refine (HS.out V HTV.out).mono ?_; rintro e w2 ⟨rfl, hb2⟩
  have HT2 := Lib.hid (HTV.out.below hb2)
  have HK2 := Lib.hid (HK.out.below hb2 HV'.out)
  have HB2 := Lib.hid (HV.out.trans (hb2.mono (Nat.le_of_lt HV'.out)))
  clear hb2
  go_wp2_with fail
  have HN2 := Lib.hid (HN.out w2.drew (HT2.out.below ((Below.refl _ _).drew)))
  have HS2 := Lib.hid (HD.out w.heap.size w2.drew HK2.out.drew)
  have HG2 : Hid (w.heap.size < w2.heap.size) := HK2.out.lt
  go_region_with (first
    | (go_at_call 131; (with_reducible refine HN2.out.mono ?_); rintro e w3 ⟨rfl, rfl⟩)
    | (go_at_call 219; (with_reducible refine HS2.out.mono ?_); rintro e w3 ⟨rfl, k3, hb3⟩))
  all_goals
    have hB3 : Below w.heap.size w w3 := HB2.out.drew.trans hb3
    have HO3 : Hid (OwnU W w3 A c []) := ⟨own_below HO.out.1 hB3, HO.out.2.trans (hB3.mono HO.out.2.size)⟩
    have HG3 : Hid (DgC w3 w.heap.size ds) := ⟨Nat.lt_of_lt_of_le HG2.out (show w2.drew.heap.size ≤ w3.heap.size from hb3.size), k3⟩
    have HF3 := Lib.hid (HF.out W w3 A c w.heap.size HO3.out HG3.out HNE.out)
    clear hb3 hB3 HN2 HS2 HB2 HV HV' HTV HT HT2 HO HF HG2
    go_wp2_with fail
    refine HF3.out.mono ?_; rintro e w4 ⟨A4, c4, rfl, ho4⟩
    have HO4 := Lib.hid ho4
    clear ho4
    go_wp2
    go_ret
    exact ⟨_, _, rfl, HO4.out⟩
theorem max_pred {n : Nat} (h : 0 < n) : max ((n : Int) - 1) 0 = (n : Int) - 1 := by omega
theorem and2047 (q : Nat) (h : q < 2048) : bits BinOp.and .i64 (q : Int) 2047 = (q : Int) := by
  have h1 : (BitVec.ofInt 64 2047).toNat = 2 ^ 11 - 1 := by decide
  have key : (BitVec.ofInt 64 (q : Int) &&& BitVec.ofInt 64 2047).toNat = ((q : Int) % ((2 ^ 64 : Nat) : Int)).toNat % 2 ^ 11 := by
    rw [BitVec.toNat_and, BitVec.toNat_ofInt, h1, Nat.and_two_pow_sub_one_eq_mod]
  show IntKind.i64.wrap ((BitVec.ofInt 64 (q : Int) &&& BitVec.ofInt 64 2047).toNat : Nat) = _
  rw [key, IntKind.wrap_i64]
  omega
theorem fr_and (m : Nat) (h : m < 18446744073709551616) : bits BinOp.and .u64 (m : Int) 4503599627370495 = ((m % 4503599627370496 : Nat) : Int) := by
  have := u64_and_nat m 4503599627370495 h (by decide)
  rw [show ((4503599627370495 : Nat) : Int) = 4503599627370495 from rfl] at this
  rw [this, show 4503599627370495 = 2 ^ 52 - 1 from rfl, Nat.and_two_pow_sub_one_eq_mod]
theorem fr_or (f : Nat) (h : f < 4503599627370496) : bits BinOp.or .u64 (f : Int) 4503599627370496 = ((f + 4503599627370496 : Nat) : Int) := by
  have := u64_or_nat f 4503599627370496 (by omega) (by decide)
  rw [show ((4503599627370496 : Nat) : Int) = 4503599627370496 from rfl] at this
  rw [this, Nat.or_comm]
  have e := Nat.two_pow_add_eq_or_of_lt (i := 52) (b := f) h 1
  rw [show 2 ^ 52 * 1 = 4503599627370496 from rfl] at e
  rw [← e, Nat.add_comm]
theorem dM_lt {m z : Nat} (h1 : m < 9218868437227405312) (h0 : 0 < m) (hz1 : 11 ≤ z) (hz2 : z ≤ 63) (hM : mman m * 2 ^ z < 18446744073709551616) : dM m z < 18446744073709551616 := by
  have hm1 := mman_one h0
  have hm2 := mman_hi m
  have hdl := dlM_12 m
  obtain ⟨eX, eL, eH⟩ := sh_parts (m := m) hz1
  have hHM : (4 * mman m + 2) * 2 ^ (z - 2) < 18446744073709551616 := by
    have hlt : mman m < 2 ^ (64 - z) := by
      refine Nat.lt_of_mul_lt_mul_right (a := 2 ^ z) ?_
      rw [← Nat.pow_add, show 64 - z + z = 64 from by omega]
      exact hM
    have h2 : (mman m + 1) * 2 ^ z ≤ 2 ^ (64 - z) * 2 ^ z := Nat.mul_le_mul_right _ hlt
    rw [← Nat.pow_add, show 64 - z + z = 64 from by omega] at h2
    have e5 : (mman m + 1) * 2 ^ z = (4 * mman m + 2) * 2 ^ (z - 2) + 2 * 2 ^ (z - 2) := by
      rw [show 2 ^ z = 4 * 2 ^ (z - 2) from by rw [show (4 : Nat) = 2 ^ 2 from rfl, ← Nat.pow_add]; congr 1; omega, ← Nat.add_mul, Nat.add_assoc, show 4 * mman m + (2 + 2) = 4 * (mman m + 1) from by omega]
      ac_rfl
    have : (2 : Nat) ^ 64 = 18446744073709551616 := rfl
    have hP0 : 0 < 2 ^ (z - 2) := Nat.pow_pos (by decide)
    omega
  have hLM : (4 * mman m - dlM m) * 2 ^ (z - 2) < 18446744073709551616 := Nat.lt_of_le_of_lt (Nat.mul_le_mul_right _ (by omega)) hHM
  have hXM : 4 * mman m * 2 ^ (z - 2) < 18446744073709551616 := by rw [← eX]; exact hM
  have uL : uAt m z (xLo m z) < 4611686018427387904 := by rw [eL]; exact uAt_lt h1 hz1 hz2 (by omega) hLM (by omega)
  have uH : uAt m z (xHi m z) < 4611686018427387904 := by rw [eH]; exact uAt_lt h1 hz1 hz2 (by omega) hHM (by omega)
  have uX : uAt m z (mman m * 2 ^ z) < 4611686018427387904 := by rw [eX]; exact uAt_lt h1 hz1 hz2 (by omega) hXM (by omega)
  unfold dM aM bM
  split
  · omega
  · split
    · omega
    · omega
/-- A rung's text in the form 'e'. -/
noncomputable def shT (m : Nat) : List UInt8 := eTxt (shortM m).1 (shortM m).2
theorem shortM_bds {m : Nat} (h0 : 0 < m) (h1 : m < 9218868437227405312) : -400 ≤ (shortM m).2 ∧ (shortM m).2 ≤ 400 ∧ lenD (shortM m).1 ≤ 20 := by
  obtain ⟨z1, z2, z3, z4, z5, z6⟩ := zM_facts h0 h1
  obtain ⟨hs, hd0⟩ := short_law h0 h1 z1 z2 z5
  have hk := kOkM h1
  have k1 := hk.p1
  have k2 := hk.p2
  have hdl := dM_lt h1 h0 z1 z2 z5
  have hl1 := lenD_pos (dM m (zM m))
  have hl2 := lenD_20 hdl
  have he : eM m (zM m) = 1 - pM m ∨ eM m (zM m) = -pM m := by unfold eM; split <;> omega
  rw [hs]
  exact ⟨by simp only; omega, by simp only; omega, lenD_20 (Nat.lt_of_le_of_lt (stripD_le _) hdl)⟩
set_option maxRecDepth 100000 in
set_option maxHeartbeats 1000000 in
theorem c_ftoaI (W w : World) (A : Option Addr) (c m : Nat) (h0 : 0 < m) (h1 : m < 9218868437227405312) (ho : OwnU W w A c []) (ht : TabS w) :
    Calls Tryz.prog 205 #[.slice A 0 c, .float .f64 m, .int .u8 101, .int .i64 (-1)] w fun e w' => ∃ A' c', e = .returned (.slice A' (shT m).length c') ∧ OwnU W w' A' c' (shT m) := by
  obtain ⟨z1, z2, z3, z4, z5, z6⟩ := zM_facts h0 h1
  obtain ⟨hs, hd0⟩ := short_law h0 h1 z1 z2 z5
  have hbd := shortM_bds h0 h1
  have hk := kOkM h1
  have k1 := hk.p1
  have k2 := hk.p2
  have hdl := dM_lt h1 h0 z1 z2 z5
  have hl1 := lenD_pos (dM m (zM m))
  have hl2 := lenD_20 hdl
  have hn1 := lenD_pos (stripD (dM m (zM m)))
  have he : eM m (zM m) = 1 - pM m ∨ eM m (zM m) = -pM m := by unfold eM; split <;> omega
  unfold shT
  rw [hs] at hbd ⊢
  simp only at hbd ⊢
  have hm1 := mman_one h0
  have hm2 := mman_hi m
  have hkb1 : -1074 ≤ mexp m := (mexp_bd (m := m) (by omega)).1
  have hkb2 : mexp m ≤ 971 := by unfold mexp; split <;> omega
  have HS : Hid (ShQ (mman m * 2 ^ zM m) (dM m (zM m)) (mexp m - (zM m : Int)) (eM m (zM m))) := fun V hV => c_shortI m (zM m) h0 h1 z1 z2 z3 z4 z5 V hV
  have HN : Hid (NdQ (dM m (zM m)) (lenD (dM m (zM m)))) := fun V hV => c_numdI _ hd0 hdl V hV.tab
  have HD : Hid (SdQ (dM m (zM m)) (lenD (dM m (zM m))) (lenD (stripD (dM m (zM m)))) (eM m (zM m)) ((lenD (dM m (zM m)) : Nat) + eM m (zM m)) (Lib.decDigits (stripD (dM m (zM m))))) := fun g V hV => c_setDI g _ _ hd0 hdl (by omega) (by omega) V hV
  have HF : Hid (FmQ (lenD (stripD (dM m (zM m)))) ((lenD (dM m (zM m)) : Nat) + eM m (zM m)) (Lib.decDigits (stripD (dM m (zM m)))) (eTxt (stripD (dM m (zM m))) ((lenD (dM m (zM m)) : Nat) + eM m (zM m) - 1))) := fun W w A c g h1 h2 h3 => c_fmtI W w A c g _ _ _ h1 h2 h3 hbd.2.2 (by omega) hbd.1 hbd.2.1
  have HL : Hid (Q1 137 (.int .u64 ((mman m : Nat) : Int)) (.int .i64 ((Lib.bitLen (mman m) : Nat) : Int))) := fun W => (Any.bits_Len64 lays129 ((mman m : Nat) : Int) W (by omega) (by omega)).mono fun _ _ h => ⟨by rw [h.1]; rfl, h.2.symm⟩
  have hz : IntKind.i64.wrap (64 - ((Lib.bitLen (mman m) : Nat) : Int)) = ((zM m : Nat) : Int) := by rw [IntWalk.i64_in _ (by omega)]; omega
  have hX : IntKind.u64.wrap (((mman m : Nat) : Int) * 2 ^ zM m) = ((mman m * 2 ^ zM m : Nat) : Int) := by
    rw [show ((mman m : Nat) : Int) * 2 ^ zM m = ((mman m * 2 ^ zM m : Nat) : Int) from by rw [Int.natCast_mul, Int.natCast_pow]; rfl, IntKind.wrap_u64]
    omega
  have hnd : IntKind.i64.wrap (((lenD (stripD (dM m (zM m))) : Nat) : Int) - 1) = ((lenD (stripD (dM m (zM m))) : Nat) : Int) - 1 := IntWalk.i64_in _ (by omega)
  have hmx : max (((lenD (stripD (dM m (zM m))) : Nat) : Int) - 1) 0 = ((lenD (stripD (dM m (zM m))) : Nat) : Int) - 1 := max_pred hn1
  by_cases hm : m < 4503599627370496
  · have hme : mexp m = -1074 := by unfold mexp; rw [if_pos hm]
    have hmm : mman m = m := by unfold mman; rw [if_pos hm]
    refine ft_s W w A c m 0 (m % 4503599627370496) (mman m) _ _ _ _ _ _ (-1022) (-1022 - (zM m : Int)) _ _ _ _ _ (Lib.hid ho) (Lib.hid ht) (by omega) (by omega) (and2047 0 (by omega)) (fr_and m (by omega)) (by rw [hmm]; omega) rfl (by rw [beq_eq_false_iff_ne]; omega) HL hz hX (by omega) (by omega) (IntWalk.i64_in _ (by omega)) ?_ HS HN HD HF hnd hmx
    rw [IntWalk.i64_in _ (by omega)]; omega
  · have hme : mexp m = (m / 4503599627370496 : Nat) - 1075 := by unfold mexp; rw [if_neg hm]
    have hmm : mman m = m % 4503599627370496 + 4503599627370496 := by unfold mman; rw [if_neg hm]
    refine ft_n W w A c m (m / 4503599627370496) (m % 4503599627370496) (mman m) _ _ _ _ _ _ (mexp m + 52) (mexp m + 52 - (zM m : Int)) _ _ _ _ _ (Lib.hid ho) (Lib.hid ht) (by omega) (by omega) (IntWalk.i64_in _ (by omega)) (and2047 _ (by omega)) (fr_and m (by omega)) (by rw [beq_eq_false_iff_ne]; omega) (by omega) (by rw [hmm]; exact fr_or _ (by omega)) (by rw [IntWalk.i64_in _ (by omega)]; omega) (by rw [beq_eq_false_iff_ne]; omega) HL hz hX (by omega) (by omega) (IntWalk.i64_in _ (by omega)) ?_ HS HN HD HF hnd hmx
    rw [IntWalk.i64_in _ (by omega)]; omega
set_option maxRecDepth 100000 in
theorem c_iFFI (m : Nat) (h0 : 0 < m) (h1 : m < 9218868437227405312) (w : World) (ht : TabS w) :
    Calls Tryz.prog 195 #[.float .f64 m, .int .u8 101, .int .i64 (-1), .int .i64 64] w fun e w' => e = .returned (bstr (shT m)) ∧ Below w.heap.size w w' := by
  obtain ⟨i0, hi0, hz0, hz1, hz2⟩ := info_parts u8_infoV
  obtain ⟨w1, hmk, ho1, hg1⟩ := run_makeSlice_owned (P := Tryz.prog) w w.heap.size 36 5 i0 _ 1 Tryz.underlying36 hi0 hz0 hz1 .i64 .i64 24 (by decide) (by rw [hz2]; decide) (by decide) (Nat.le_refl _)
  replace hmk : (Instr.makeSlice 36 (.int .i64 0) (.int .i64 24)).run Tryz.prog w = .ok (.slice (some ⟨w.heap.size, 0, none⟩) 0 24) w1 := hmk
  have e24 : max (3 : Int) 24 = 24 := by decide
  have HB1 := Lib.hid (below_of_grown hg1)
  have HF := Lib.hid (c_ftoaI w w1 (some ⟨w.heap.size, 0, none⟩) 24 m h0 h1 ⟨ho1, HB1.out⟩ (ht.below HB1.out))
  clear ht ho1 hg1 hz0 hz1 hz2 h0 h1
  generalize shT m = T at *
  go_enter Tryz.func195, Tryz.ntmps195
  go_wp2_with fail
  refine HF.out.mono ?_; rintro e w2 ⟨A2, c2, rfl, ho2⟩
  have hcv : (convert 36 9 (.slice A2 T.length c2)).run Tryz.prog w2 = .ok (bstr T) w2 := conv_bys (l := T) ho2.1
  have HB2 := Lib.hid ho2.2
  clear ho2
  go_wp2
  go_ret
  exact ⟨rfl, HB2.out⟩
theorem c_FFI (m : Nat) (h0 : 0 < m) (h1 : m < 9218868437227405312) (w : World) (ht : TabS w) :
    Calls Tryz.prog 190 #[.float .f64 m, .int .u8 101, .int .i64 (-1), .int .i64 64] w fun e w' => e = .returned (bstr (shT m)) ∧ Below w.heap.size w w' := by
  have HF := Lib.hid (c_iFFI m h0 h1 w ht)
  clear h0 h1 ht
  generalize shT m = T at *
  go_enter Tryz.func190, Tryz.ntmps190
  go_wp2_with fail
  refine HF.out.mono ?_; rintro e w2 ⟨rfl, hb⟩
  have HB := Lib.hid hb
  go_wp2
  go_ret
  exact ⟨rfl, HB.out⟩
end Go.Proofs.YtigbbogfnchgnaaGreatDoor
namespace Go.Proofs.YtigbbogfnchgnaaGreatDoor
open Go.RowKit Go.Shelf Go.Sort
set_option linter.unusedVariables false
attribute [local go_sem ↓] Go.wp_at_zero Go.wp_at_succ

theorem c_IdxB (T : ByteArray) (ch : UInt8) (k : Int) (h : Lib.indexByte T.data.toList ch = k) (w : World) : Calls Tryz.prog 206 #[.string T, .string ⟨#[ch]⟩] w fun e w' => e = .returned (.int .i64 k) ∧ w = w' :=
  (Any.stringslite_Index_one lays219 T ch w).mono fun e w' ⟨h1, h2⟩ => ⟨by rw [h1, h], h2.symm⟩
theorem c_CutAt (T a b : ByteArray) (k : Nat) (hI : Lib.indexByte T.data.toList 101 = (k : Int)) (hk : k + 1 ≤ T.size) (hn : T.size ≤ 1000) (h1 : T.extract 0 k = a) (h2 : T.extract (k + 1) T.size = b) (w : World) :
    Calls Tryz.prog 191 #[.string T, .string ⟨#[101]⟩] w fun e w' => e = .returned (.tuple #[.string a, .string b, .bool true]) ∧ Below w.heap.size w w' := by
  have HI := Lib.hid (c_IdxB T 101 (k : Int) hI)
  have HS1 := Lib.hid h1
  have HS2 := Lib.hid h2
  have g1 : (k : Int) + 1 ≤ (T.size : Int) := by omega
  have g2 : (k : Int) ≤ (T.size : Int) := by omega
  clear hI h1 h2 hk
  have HC : Hid (∀ W, Calls Tryz.prog 196 #[.string T, .string ⟨#[101]⟩] W fun e w' => e = .returned (.tuple #[.string a, .string b, .bool true]) ∧ Below W.heap.size W w') := fun W => by
    go_enter Tryz.func196, Tryz.ntmps196
    go_wp2_with (go_at_call 206; refine (HI.out _).mono ?_; rintro e w' ⟨rfl, rfl⟩)
    go_quiet (fail)
    go_wp2_with fail
    go_ret3
    exact ⟨by show Ending.returned (.tuple #[.string (T.extract 0 k), .string (T.extract (k + 1) T.size), .bool true]) = _; rw [HS1.out, HS2.out], below_drewN (Below.refl _ _) _⟩
  go_enter Tryz.func191, Tryz.ntmps191
  go_wp2_with (go_at_call 196; refine (HC.out _).mono ?_; rintro e w1 ⟨rfl, hb⟩)
  go_ret3
  exact ⟨rfl, hb⟩
theorem c_Rep0P (T : ByteArray) (hc : Lib.countByte T.data.toList 46 = 0) (w : World) : Calls Tryz.prog 193 #[.string T, .string ⟨#[46]⟩, .string ⟨#[]⟩, .int .i64 1] w fun e w' => e = .returned (.string T) ∧ w = w' := by
  have HI : Hid (∀ W, Calls Tryz.prog 198 #[.string T, .string ⟨#[46]⟩] W fun e w' => e = .returned (.int .i64 0) ∧ W = w') := fun W =>
    (Any.strings_Count_one lays138 T 46 W).mono fun e w' ⟨h1, h2⟩ => ⟨by rw [h1, hc]; rfl, h2.symm⟩
  clear hc
  go_enter Tryz.func193, Tryz.ntmps193
  go_wp2_with fail
  refine (HI.out _).mono ?_; rintro e w' ⟨rfl, rfl⟩
  go_wp2
  go_ret
  exact ⟨rfl, rfl⟩
set_option maxHeartbeats 1000000 in
theorem c_Rep1P (T : ByteArray) (l1 l2 : List UInt8) (hc : Lib.countByte T.data.toList 46 = 1) (hi : Lib.indexByte T.data.toList 46 = 1) (h2 : 2 ≤ T.size) (hn : T.size ≤ 1000) (e0 : T.extract 0 T.size = T) (e1 : T.extract 0 1 = ⟨l1.toArray⟩) (e2 : T.extract 2 T.size = ⟨l2.toArray⟩) (n1 : l1.length = 1) (n2 : l2.length ≤ 1000) (w : World) :
    Calls Tryz.prog 193 #[.string T, .string ⟨#[46]⟩, .string ⟨#[]⟩, .int .i64 1] w fun e w' => e = .returned (bstr (l1 ++ l2)) ∧ Below w.heap.size w w' := by
  have HI : Hid (∀ W, Calls Tryz.prog 198 #[.string T, .string ⟨#[46]⟩] W fun e w' => e = .returned (.int .i64 1) ∧ W = w') := fun W =>
    (Any.strings_Count_one lays138 T 46 W).mono fun e w' ⟨h1, h2⟩ => ⟨by rw [h1, hc]; rfl, h2.symm⟩
  have HX : Hid (∀ W, Calls Tryz.prog 200 #[.string T, .string ⟨#[46]⟩] W fun e w' => e = .returned (.int .i64 1) ∧ W = w') := fun W => by
    have HJ := Lib.hid (c_IdxB T 46 1 hi)
    clear e0 e1 e2
    go_enter Tryz.func200, Tryz.ntmps200
    go_wp2_with (go_at_call 206; refine (HJ.out _).mono ?_; rintro e w' ⟨rfl, rfl⟩)
    go_ret
    exact ⟨rfl, rfl⟩
  obtain ⟨n, hsz⟩ : ∃ n, T.size = n + 2 := ⟨T.size - 2, by omega⟩
  have HGr := Lib.hid (fun W (hW : W.heap[w.heap.size]? = some (.cells #[.pointer none, .slice none 0 0] 38 (0, 0))) (hb : w.heap.size ≤ W.heap.size) => c_BGrow w.heap.size w.heap.size (n + 1) W (Nat.le_refl _) hW hb (by omega))
  have HE1 := Lib.hid e1
  have HE2 := Lib.hid e2
  have hnI : (T.size : Int) = (n : Int) + 2 := by omega
  have hn1k : (n : Int) ≤ 998 := by omega
  have HN : Hid (n1 = n1) := rfl
  have h1n := Lib.hid n1
  have h2n := Lib.hid n2
  clear hc hi h2 hn e1 e2 n1 n2 HN hsz
  go_enter Tryz.func193, Tryz.ntmps193
  go_wp2_with fail
  refine (HI.out _).mono ?_; rintro e w' ⟨rfl, rfl⟩
  go_wp2_with fail
  rw [show (n : Int) + 2 + -1 = ((n + 1 : Nat) : Int) from by omega]
  refine (HGr.out _ (heap_alloc_new w _) (((Below.refl w.heap.size w).alloc (Nat.le_refl _) _).size)).mono ?_; rintro e w1 ⟨rfl, hb0, hb1⟩
  have HB1 := Lib.hid (((Below.refl w.heap.size w).alloc (Nat.le_refl _) (.cells #[.pointer none, .slice none 0 0] 38)).trans hb1)
  have H1 := Lib.hid hb0
  clear hb0 hb1 HGr HI
  have HW1 : Hid (∀ W, IsB w.heap.size w.heap.size [] W → w.heap.size ≤ W.heap.size → Calls Tryz.prog 25 #[.pointer (some ⟨w.heap.size, 0, none⟩), .string (T.extract 0 1)] W fun e w' => e = .returned (.tuple #[.int .i64 1, .nilIface]) ∧ IsB w.heap.size w.heap.size l1 w' ∧ Below w.heap.size W w') := fun W hW hB => by
    rw [HE1.out]
    have := c_BWS w.heap.size w.heap.size [] l1 W hW (by rw [h1n.out]; decide) hB
    rwa [h1n.out] at this
  have HW2 : Hid (∀ W, IsB w.heap.size w.heap.size l1 W → w.heap.size ≤ W.heap.size → Calls Tryz.prog 25 #[.pointer (some ⟨w.heap.size, 0, none⟩), .string ⟨#[]⟩] W fun e w' => e = .returned (.tuple #[.int .i64 0, .nilIface]) ∧ IsB w.heap.size w.heap.size l1 w' ∧ Below w.heap.size W w') := fun W hW hB => by
    have := c_BWS w.heap.size w.heap.size l1 [] W hW (by rw [h1n.out]; decide) hB
    rwa [List.append_nil] at this
  have HW3 : Hid (∀ W, IsB w.heap.size w.heap.size l1 W → w.heap.size ≤ W.heap.size → Calls Tryz.prog 25 #[.pointer (some ⟨w.heap.size, 0, none⟩), .string (T.extract 2 T.size)] W fun e w' => e = .returned (.tuple #[.int .i64 (l2.length : Nat), .nilIface]) ∧ IsB w.heap.size w.heap.size (l1 ++ l2) w' ∧ Below w.heap.size W w') := fun W hW hB => by
    rw [HE2.out]
    exact c_BWS w.heap.size w.heap.size l1 l2 W hW (by rw [h1n.out]; have := h2n.out; omega) hB
  have HWS : Hid (∀ W, IsB w.heap.size w.heap.size (l1 ++ l2) W → w.heap.size ≤ W.heap.size → Calls Tryz.prog 10 #[.pointer (some ⟨w.heap.size, 0, none⟩)] W fun e w' => e = .returned (bstr (l1 ++ l2)) ∧ Below w.heap.size W w') := fun W hW hB => c_BStr w.heap.size w.heap.size (l1 ++ l2) W hW hB
  clear HE1 HE2 h1n h2n
  go_wp2_with fail
  go_loopw [11, 53] (fun s i wr => ((s = .int .i64 0 ∧ i = .int .i64 0 ∧ Hid (IsB w.heap.size w.heap.size [] wr)) ∨ (s = .int .i64 2 ∧ i = .int .i64 1 ∧ Hid (IsB w.heap.size w.heap.size l1 wr))) ∧ Hid (Below w.heap.size w wr)) (fun _ i _ => (1 - intOf i).toNat)
  case atStart => exact ⟨.inl ⟨rfl, rfl, H1⟩, HB1⟩
  case round =>
    clear H1 HB1
    obtain ⟨⟨rfl, rfl, HB⟩ | ⟨rfl, rfl, HB⟩, HW⟩ := hrel
    · go_wp2_with fail
      refine (HX.out _).mono ?_; rintro e w' ⟨rfl, rfl⟩
      go_wp2_with fail
      refine (HW1.out _ HB.out HW.out.size).mono ?_; rintro e w2 ⟨rfl, h2, hb2⟩
      have HBa := Lib.hid h2
      have HWa := Lib.hid (HW.out.trans hb2)
      clear h2 hb2
      go_wp2_with fail
      refine (HW2.out _ HBa.out HWa.out.size).mono ?_; rintro e w3 ⟨rfl, h3, hb3⟩
      have HBb := Lib.hid h3
      have HWb := Lib.hid (HWa.out.trans hb3)
      clear h3 hb3
      go_wp2_with fail
      go_roundw
      case rel => exact ⟨.inr ⟨by first | rfl | simp, by first | rfl | simp, HBb⟩, HWb⟩
      case measure => first | (simp [intOf]; done) | (simp [intOf]; omega)
    · have g2 : (2 : Int) ≤ (n : Int) + 2 := by omega
      go_wp2_with fail
      refine (HW3.out _ HB.out HW.out.size).mono ?_; rintro e w2 ⟨rfl, h2, hb2⟩
      have HBa := Lib.hid h2
      have HWa := Lib.hid (HW.out.trans hb2)
      clear h2 hb2
      go_wp2_with fail
      refine (HWS.out _ HBa.out HWa.out.size).mono ?_; rintro e w3 ⟨rfl, hb3⟩
      have HWb := Lib.hid (HWa.out.trans hb3)
      clear hb3
      go_wp2
      go_ret
      exact ⟨rfl, HWb.out⟩
theorem c_AtoiX (x : Int) (h1 : -400 ≤ x) (h2 : x ≤ 400) (w : World) : Calls Tryz.prog 192 #[bstr (expT x)] w fun e w' => e = .returned (.tuple #[.int .i64 x, .nilIface]) ∧ Below w.heap.size w w' := by
  obtain ⟨ha, hl⟩ := expT_atoi h1 h2
  refine (Any.strconv_Atoi lays172 ⟨(expT x).toArray⟩ x (by show (expT x).length ≤ 18; omega) ha w).mono ?_
  rintro e w' ⟨rfl, t, rfl⟩
  exact ⟨rfl, Lib.bytesWorld_below _ _ _⟩
theorem laysVX : Builder.Extra Tryz.prog lrenLv where
  sizeBuilder := by kernel_rfl
  liesBuilder := by kernel_rfl
  t5 := by kernel_rfl
  a5 := by intro w; kernel_rfl
  z5 := by intro w; kernel_rfl
  v5 := by intro w; kernel_rfl
  infoByte := by kernel_rfl
  cellsByte := by kernel_rfl
  sizeByte := by kernel_rfl
  neB5 := by decide
theorem c_Rep48 (c : Nat) (hc : c ≤ 1000) (w : World) : Calls Tryz.prog 194 #[.string ⟨#[48]⟩, .int .i64 (c : Int)] w fun e w' => e = .returned (bstr (List.replicate c 48)) ∧ Below w.heap.size w w' := by
  rcases Nat.lt_or_ge c 2 with h | h
  · rcases (by omega : c = 0 ∨ c = 1) with rfl | rfl
    · exact (Any.strings_Repeat_zero lays105 ⟨#[48]⟩ w).mono fun e w' ⟨h1, h2⟩ => ⟨h1, h2 ▸ Below.refl _ _⟩
    · exact (Any.strings_Repeat_one lays105 ⟨#[48]⟩ w).mono fun e w' ⟨h1, h2⟩ => ⟨h1, h2 ▸ Below.refl _ _⟩
  · refine (Any.strings_Repeat_main lays105 laysVX ⟨#[48]⟩ c w h (by omega) (by show 1 * c ≤ _; omega) (by decide)).mono fun e w' ⟨h1, h2⟩ => ⟨?_, h2⟩
    rw [h1]
    show Ending.returned (.string ⟨(Lib.repeatL [48] c).toArray⟩) = _
    rw [repeat48]
theorem below_grow (w : World) (k : Nat) (os : Array Obj) : RowKit.Below w.heap.size w (grow (w.drewN k) os) :=
  ⟨rfl, rfl, rfl, by simp [grow, World.drewN], fun i hi => heap_grow_old w os hi⟩
theorem c_ItoaX (x : Int) (h1 : -400 ≤ x) (h2 : x ≤ 400) (w : World) (ht : TabS w) : Calls Tryz.prog 108 #[.int .i64 x] w fun e w' => e = .returned (bstr (Lib.itoa x)) ∧ Below w.heap.size w w' :=
  (Any.strconv_Itoa lays171 x (by omega) (by omega) w ht.tab).mono fun e w' ⟨he, k, os, hw⟩ => by
    subst hw
    exact ⟨he, below_grow w k os⟩
end Go.Proofs.YtigbbogfnchgnaaGreatDoor
namespace Go.Proofs.YtigbbogfnchgnaaGreatDoor
open Go.RowKit
set_option linter.unusedVariables false
attribute [local go_sem ↓] Go.wp_at_zero Go.wp_at_succ

/-- A call that makes memory of its own alone. -/
def N1 (f : Nat) (v : Value) (r : Value) : Prop := ∀ W : World, TabS W → Calls Tryz.prog f #[v] W fun e w' => e = .returned r ∧ Below W.heap.size W w'
def N2 (f : Nat) (u v : Value) (r : Value) : Prop := ∀ W : World, Calls Tryz.prog f #[u, v] W fun e w' => e = .returned r ∧ Below W.heap.size W w'
def N4 (f : Nat) (t u v y : Value) (r : Value) : Prop := ∀ W : World, TabS W → Calls Tryz.prog f #[t, u, v, y] W fun e w' => e = .returned r ∧ Below W.heap.size W w'
set_option maxRecDepth 100000 in
set_option maxHeartbeats 1000000 in
theorem tx_e1s (m n : Nat) (T P X : List UInt8) (D I Z : ByteArray) (x cl : Int) (w : World) (HT : Hid (TabS w))
    (HCl : Hid (∀ W : World, Calls Tryz.prog 189 #[.float .f64 m] W fun e w' => e = .returned (.tuple #[.int .i64 cl, .bool false]) ∧ W = w')) (c1 : (cl == 1) = false) (c2 : (cl == 2) = false) (c3 : (cl == 3) = false)
    (HF : Hid (N4 190 (.float .f64 m) (.int .u8 101) (.int .i64 (-1)) (.int .i64 64) (bstr T)))
    (HC : Hid (N2 191 (bstr T) (.string ⟨#[101]⟩) (.tuple #[bstr P, bstr X, .bool true])))
    (HA : Hid (N1 192 (bstr X) (.tuple #[.int .i64 x, .nilIface]))) (HR : Hid (N4 193 (bstr P) (.string ⟨#[46]⟩) (.string ⟨#[]⟩) (.int .i64 1) (.string D)))
    (hn : (D.size : Int) = (n : Int)) (hn1 : (1 : Int) ≤ (n : Int)) (hn20 : (n : Int) ≤ 20)
    (x1 : x < -7)
    (n2 : ¬ (1 : Int) < (n : Int))
    (HI : Hid (N1 108 (.int .i64 x) (.string I))) (hI : I.size ≤ 10)
    (hD : D.size ≤ 20) :
    Calls Tryz.prog 188 #[.float .f64 m] w fun e w' => e = .returned (.string ((D ++ ⟨#[101]⟩) ++ I)) ∧ Below w.heap.size w w' := by
  have a1 : ∀ W, (Op.stringOp .add D ⟨#[101]⟩).run Tryz.prog W = .ok (.string (D ++ ⟨#[101]⟩)) W := fun W => run_string_add_sum W _ _ (by show D.size + 1 ≤ _; omega)
  have a2 : ∀ W, (Op.stringOp .add (D ++ ⟨#[101]⟩) I).run Tryz.prog W = .ok (.string ((D ++ ⟨#[101]⟩) ++ I)) W := fun W => run_string_add_sum W _ _ (by rw [ByteArray.size_append]; show D.size + 1 + I.size ≤ _; omega)
  clear hD hI
  go_enter Tryz.func188, Tryz.ntmps188
  go_wp2_with fail
  refine (HCl.out _).mono ?_; rintro e w' ⟨rfl, rfl⟩
  go_wp2_with fail
  refine (HF.out _ HT.out).mono ?_; rintro e w1 ⟨rfl, hb1⟩
  have HB1 := Lib.hid hb1
  clear hb1
  go_wp2_with fail
  refine (HC.out _).mono ?_; rintro e w2 ⟨rfl, hb2⟩
  have HB2 := Lib.hid (HB1.out.trans (hb2.mono HB1.out.size))
  clear hb2
  go_wp2_with fail
  refine (HA.out _ (HT.out.below HB2.out)).mono ?_; rintro e w3 ⟨rfl, hb3⟩
  have HB3 := Lib.hid (HB2.out.trans (hb3.mono HB2.out.size))
  clear hb3
  go_wp2_with fail
  refine (HR.out _ (HT.out.below HB3.out)).mono ?_; rintro e w4 ⟨rfl, hb4⟩
  have HB4 := Lib.hid (HB3.out.trans (hb4.mono HB3.out.size))
  clear hb4 HB1 HB2 HB3
  go_wp2_with fail
  refine (HI.out _ (HT.out.below HB4.out)).mono ?_; rintro e w5 ⟨rfl, hb5⟩
  have HB5 := Lib.hid (HB4.out.trans (hb5.mono HB4.out.size))
  clear hb5
  go_wp2
  go_ret
  exact ⟨rfl, HB5.out⟩
set_option maxRecDepth 100000 in
set_option maxHeartbeats 1000000 in
theorem tx_e1m (m n : Nat) (T P X : List UInt8) (D I Z : ByteArray) (x cl : Int) (w : World) (HT : Hid (TabS w))
    (HCl : Hid (∀ W : World, Calls Tryz.prog 189 #[.float .f64 m] W fun e w' => e = .returned (.tuple #[.int .i64 cl, .bool false]) ∧ W = w')) (c1 : (cl == 1) = false) (c2 : (cl == 2) = false) (c3 : (cl == 3) = false)
    (HF : Hid (N4 190 (.float .f64 m) (.int .u8 101) (.int .i64 (-1)) (.int .i64 64) (bstr T)))
    (HC : Hid (N2 191 (bstr T) (.string ⟨#[101]⟩) (.tuple #[bstr P, bstr X, .bool true])))
    (HA : Hid (N1 192 (bstr X) (.tuple #[.int .i64 x, .nilIface]))) (HR : Hid (N4 193 (bstr P) (.string ⟨#[46]⟩) (.string ⟨#[]⟩) (.int .i64 1) (.string D)))
    (hn : (D.size : Int) = (n : Int)) (hn1 : (1 : Int) ≤ (n : Int)) (hn20 : (n : Int) ≤ 20)
    (x1 : x < -7)
    (n2 : (1 : Int) < (n : Int))
    (HI : Hid (N1 108 (.int .i64 x) (.string I))) (hI : I.size ≤ 10)
    (hD : D.size ≤ 20) :
    Calls Tryz.prog 188 #[.float .f64 m] w fun e w' => e = .returned (.string ((((D.extract 0 1 ++ ⟨#[46]⟩) ++ D.extract 1 D.size) ++ ⟨#[101]⟩) ++ I)) ∧ Below w.heap.size w w' := by
  have a1 : ∀ W, (Op.stringOp .add (D.extract 0 1) ⟨#[46]⟩).run Tryz.prog W = .ok (.string (D.extract 0 1 ++ ⟨#[46]⟩)) W := fun W => run_string_add_sum W _ _ (by rw [ByteArray.size_extract]; show min 1 D.size - 0 + 1 ≤ _; omega)
  have a2 : ∀ W, (Op.stringOp .add (D.extract 0 1 ++ ⟨#[46]⟩) (D.extract 1 D.size)).run Tryz.prog W = .ok (.string ((D.extract 0 1 ++ ⟨#[46]⟩) ++ D.extract 1 D.size)) W := fun W => run_string_add_sum W _ _ (by rw [ByteArray.size_append, ByteArray.size_extract, ByteArray.size_extract]; show min 1 D.size - 0 + 1 + (min D.size D.size - 1) ≤ _; omega)
  obtain ⟨Q, hQ⟩ : ∃ Q, (D.extract 0 1 ++ ⟨#[46]⟩) ++ D.extract 1 D.size = Q := ⟨_, rfl⟩
  have hQs : Q.size ≤ 40 := by rw [← hQ, ByteArray.size_append, ByteArray.size_append, ByteArray.size_extract, ByteArray.size_extract]; show min 1 D.size - 0 + 1 + (min D.size D.size - 1) ≤ _; omega
  have a3 : ∀ W, (Op.stringOp .add Q ⟨#[101]⟩).run Tryz.prog W = .ok (.string (Q ++ ⟨#[101]⟩)) W := fun W => run_string_add_sum W _ _ (by show Q.size + 1 ≤ _; omega)
  have a4 : ∀ W, (Op.stringOp .add (Q ++ ⟨#[101]⟩) I).run Tryz.prog W = .ok (.string ((Q ++ ⟨#[101]⟩) ++ I)) W := fun W => run_string_add_sum W _ _ (by rw [ByteArray.size_append]; show Q.size + 1 + I.size ≤ _; omega)
  rw [hQ] at a2 ⊢
  clear hD hI hQs hQ
  go_enter Tryz.func188, Tryz.ntmps188
  go_wp2_with fail
  refine (HCl.out _).mono ?_; rintro e w' ⟨rfl, rfl⟩
  go_wp2_with fail
  refine (HF.out _ HT.out).mono ?_; rintro e w1 ⟨rfl, hb1⟩
  have HB1 := Lib.hid hb1
  clear hb1
  go_wp2_with fail
  refine (HC.out _).mono ?_; rintro e w2 ⟨rfl, hb2⟩
  have HB2 := Lib.hid (HB1.out.trans (hb2.mono HB1.out.size))
  clear hb2
  go_wp2_with fail
  refine (HA.out _ (HT.out.below HB2.out)).mono ?_; rintro e w3 ⟨rfl, hb3⟩
  have HB3 := Lib.hid (HB2.out.trans (hb3.mono HB2.out.size))
  clear hb3
  go_wp2_with fail
  refine (HR.out _ (HT.out.below HB3.out)).mono ?_; rintro e w4 ⟨rfl, hb4⟩
  have HB4 := Lib.hid (HB3.out.trans (hb4.mono HB3.out.size))
  clear hb4 HB1 HB2 HB3
  go_wp2_with fail
  go_quiet (fail)
  go_wp2_with fail
  refine (HI.out _ (HT.out.below (below_drewN HB4.out _))).mono ?_; rintro e w5 ⟨rfl, hb5⟩
  have HB5 := Lib.hid ((below_drewN HB4.out _).trans (hb5.mono (below_drewN HB4.out _).size))
  clear hb5
  go_wp2
  go_ret
  exact ⟨rfl, HB5.out⟩
set_option maxRecDepth 100000 in
set_option maxHeartbeats 1000000 in
theorem tx_e2s (m n : Nat) (T P X : List UInt8) (D I Z : ByteArray) (x cl : Int) (w : World) (HT : Hid (TabS w))
    (HCl : Hid (∀ W : World, Calls Tryz.prog 189 #[.float .f64 m] W fun e w' => e = .returned (.tuple #[.int .i64 cl, .bool false]) ∧ W = w')) (c1 : (cl == 1) = false) (c2 : (cl == 2) = false) (c3 : (cl == 3) = false)
    (HF : Hid (N4 190 (.float .f64 m) (.int .u8 101) (.int .i64 (-1)) (.int .i64 64) (bstr T)))
    (HC : Hid (N2 191 (bstr T) (.string ⟨#[101]⟩) (.tuple #[bstr P, bstr X, .bool true])))
    (HA : Hid (N1 192 (bstr X) (.tuple #[.int .i64 x, .nilIface]))) (HR : Hid (N4 193 (bstr P) (.string ⟨#[46]⟩) (.string ⟨#[]⟩) (.int .i64 1) (.string D)))
    (hn : (D.size : Int) = (n : Int)) (hn1 : (1 : Int) ≤ (n : Int)) (hn20 : (n : Int) ≤ 20)
    (x1 : ¬ x < -7) (x2 : 20 < x)
    (n2 : ¬ (1 : Int) < (n : Int))
    (HI : Hid (N1 108 (.int .i64 x) (.string I))) (hI : I.size ≤ 10)
    (hD : D.size ≤ 20) :
    Calls Tryz.prog 188 #[.float .f64 m] w fun e w' => e = .returned (.string ((D ++ ⟨#[101]⟩) ++ I)) ∧ Below w.heap.size w w' := by
  have a1 : ∀ W, (Op.stringOp .add D ⟨#[101]⟩).run Tryz.prog W = .ok (.string (D ++ ⟨#[101]⟩)) W := fun W => run_string_add_sum W _ _ (by show D.size + 1 ≤ _; omega)
  have a2 : ∀ W, (Op.stringOp .add (D ++ ⟨#[101]⟩) I).run Tryz.prog W = .ok (.string ((D ++ ⟨#[101]⟩) ++ I)) W := fun W => run_string_add_sum W _ _ (by rw [ByteArray.size_append]; show D.size + 1 + I.size ≤ _; omega)
  clear hD hI
  go_enter Tryz.func188, Tryz.ntmps188
  go_wp2_with fail
  refine (HCl.out _).mono ?_; rintro e w' ⟨rfl, rfl⟩
  go_wp2_with fail
  refine (HF.out _ HT.out).mono ?_; rintro e w1 ⟨rfl, hb1⟩
  have HB1 := Lib.hid hb1
  clear hb1
  go_wp2_with fail
  refine (HC.out _).mono ?_; rintro e w2 ⟨rfl, hb2⟩
  have HB2 := Lib.hid (HB1.out.trans (hb2.mono HB1.out.size))
  clear hb2
  go_wp2_with fail
  refine (HA.out _ (HT.out.below HB2.out)).mono ?_; rintro e w3 ⟨rfl, hb3⟩
  have HB3 := Lib.hid (HB2.out.trans (hb3.mono HB2.out.size))
  clear hb3
  go_wp2_with fail
  refine (HR.out _ (HT.out.below HB3.out)).mono ?_; rintro e w4 ⟨rfl, hb4⟩
  have HB4 := Lib.hid (HB3.out.trans (hb4.mono HB3.out.size))
  clear hb4 HB1 HB2 HB3
  go_wp2_with fail
  refine (HI.out _ (HT.out.below HB4.out)).mono ?_; rintro e w5 ⟨rfl, hb5⟩
  have HB5 := Lib.hid (HB4.out.trans (hb5.mono HB4.out.size))
  clear hb5
  go_wp2
  go_ret
  exact ⟨rfl, HB5.out⟩
set_option maxRecDepth 100000 in
set_option maxHeartbeats 1000000 in
theorem tx_e2m (m n : Nat) (T P X : List UInt8) (D I Z : ByteArray) (x cl : Int) (w : World) (HT : Hid (TabS w))
    (HCl : Hid (∀ W : World, Calls Tryz.prog 189 #[.float .f64 m] W fun e w' => e = .returned (.tuple #[.int .i64 cl, .bool false]) ∧ W = w')) (c1 : (cl == 1) = false) (c2 : (cl == 2) = false) (c3 : (cl == 3) = false)
    (HF : Hid (N4 190 (.float .f64 m) (.int .u8 101) (.int .i64 (-1)) (.int .i64 64) (bstr T)))
    (HC : Hid (N2 191 (bstr T) (.string ⟨#[101]⟩) (.tuple #[bstr P, bstr X, .bool true])))
    (HA : Hid (N1 192 (bstr X) (.tuple #[.int .i64 x, .nilIface]))) (HR : Hid (N4 193 (bstr P) (.string ⟨#[46]⟩) (.string ⟨#[]⟩) (.int .i64 1) (.string D)))
    (hn : (D.size : Int) = (n : Int)) (hn1 : (1 : Int) ≤ (n : Int)) (hn20 : (n : Int) ≤ 20)
    (x1 : ¬ x < -7) (x2 : 20 < x)
    (n2 : (1 : Int) < (n : Int))
    (HI : Hid (N1 108 (.int .i64 x) (.string I))) (hI : I.size ≤ 10)
    (hD : D.size ≤ 20) :
    Calls Tryz.prog 188 #[.float .f64 m] w fun e w' => e = .returned (.string ((((D.extract 0 1 ++ ⟨#[46]⟩) ++ D.extract 1 D.size) ++ ⟨#[101]⟩) ++ I)) ∧ Below w.heap.size w w' := by
  have a1 : ∀ W, (Op.stringOp .add (D.extract 0 1) ⟨#[46]⟩).run Tryz.prog W = .ok (.string (D.extract 0 1 ++ ⟨#[46]⟩)) W := fun W => run_string_add_sum W _ _ (by rw [ByteArray.size_extract]; show min 1 D.size - 0 + 1 ≤ _; omega)
  have a2 : ∀ W, (Op.stringOp .add (D.extract 0 1 ++ ⟨#[46]⟩) (D.extract 1 D.size)).run Tryz.prog W = .ok (.string ((D.extract 0 1 ++ ⟨#[46]⟩) ++ D.extract 1 D.size)) W := fun W => run_string_add_sum W _ _ (by rw [ByteArray.size_append, ByteArray.size_extract, ByteArray.size_extract]; show min 1 D.size - 0 + 1 + (min D.size D.size - 1) ≤ _; omega)
  obtain ⟨Q, hQ⟩ : ∃ Q, (D.extract 0 1 ++ ⟨#[46]⟩) ++ D.extract 1 D.size = Q := ⟨_, rfl⟩
  have hQs : Q.size ≤ 40 := by rw [← hQ, ByteArray.size_append, ByteArray.size_append, ByteArray.size_extract, ByteArray.size_extract]; show min 1 D.size - 0 + 1 + (min D.size D.size - 1) ≤ _; omega
  have a3 : ∀ W, (Op.stringOp .add Q ⟨#[101]⟩).run Tryz.prog W = .ok (.string (Q ++ ⟨#[101]⟩)) W := fun W => run_string_add_sum W _ _ (by show Q.size + 1 ≤ _; omega)
  have a4 : ∀ W, (Op.stringOp .add (Q ++ ⟨#[101]⟩) I).run Tryz.prog W = .ok (.string ((Q ++ ⟨#[101]⟩) ++ I)) W := fun W => run_string_add_sum W _ _ (by rw [ByteArray.size_append]; show Q.size + 1 + I.size ≤ _; omega)
  rw [hQ] at a2 ⊢
  clear hD hI hQs hQ
  go_enter Tryz.func188, Tryz.ntmps188
  go_wp2_with fail
  refine (HCl.out _).mono ?_; rintro e w' ⟨rfl, rfl⟩
  go_wp2_with fail
  refine (HF.out _ HT.out).mono ?_; rintro e w1 ⟨rfl, hb1⟩
  have HB1 := Lib.hid hb1
  clear hb1
  go_wp2_with fail
  refine (HC.out _).mono ?_; rintro e w2 ⟨rfl, hb2⟩
  have HB2 := Lib.hid (HB1.out.trans (hb2.mono HB1.out.size))
  clear hb2
  go_wp2_with fail
  refine (HA.out _ (HT.out.below HB2.out)).mono ?_; rintro e w3 ⟨rfl, hb3⟩
  have HB3 := Lib.hid (HB2.out.trans (hb3.mono HB2.out.size))
  clear hb3
  go_wp2_with fail
  refine (HR.out _ (HT.out.below HB3.out)).mono ?_; rintro e w4 ⟨rfl, hb4⟩
  have HB4 := Lib.hid (HB3.out.trans (hb4.mono HB3.out.size))
  clear hb4 HB1 HB2 HB3
  go_wp2_with fail
  go_quiet (fail)
  go_wp2_with fail
  refine (HI.out _ (HT.out.below (below_drewN HB4.out _))).mono ?_; rintro e w5 ⟨rfl, hb5⟩
  have HB5 := Lib.hid ((below_drewN HB4.out _).trans (hb5.mono (below_drewN HB4.out _).size))
  clear hb5
  go_wp2
  go_ret
  exact ⟨rfl, HB5.out⟩
set_option maxRecDepth 100000 in
set_option maxHeartbeats 1000000 in
theorem tx_s (m n : Nat) (T P X : List UInt8) (D I Z : ByteArray) (x cl : Int) (w : World) (HT : Hid (TabS w))
    (HCl : Hid (∀ W : World, Calls Tryz.prog 189 #[.float .f64 m] W fun e w' => e = .returned (.tuple #[.int .i64 cl, .bool false]) ∧ W = w')) (c1 : (cl == 1) = false) (c2 : (cl == 2) = false) (c3 : (cl == 3) = false)
    (HF : Hid (N4 190 (.float .f64 m) (.int .u8 101) (.int .i64 (-1)) (.int .i64 64) (bstr T)))
    (HC : Hid (N2 191 (bstr T) (.string ⟨#[101]⟩) (.tuple #[bstr P, bstr X, .bool true])))
    (HA : Hid (N1 192 (bstr X) (.tuple #[.int .i64 x, .nilIface]))) (HR : Hid (N4 193 (bstr P) (.string ⟨#[46]⟩) (.string ⟨#[]⟩) (.int .i64 1) (.string D)))
    (hn : (D.size : Int) = (n : Int)) (hn1 : (1 : Int) ≤ (n : Int)) (hn20 : (n : Int) ≤ 20)
    (x1 : ¬ x < -7) (x2 : ¬ 20 < x)
    (x3 : x < 0) (c : Nat) (hx1 : IntKind.i64.wrap (-x) = -x) (hx2 : IntKind.i64.wrap (-x - 1) = (c : Int)) (HZ : Hid (N2 194 (.string ⟨#[48]⟩) (.int .i64 (c : Int)) (.string Z))) (hZ : Z.size ≤ 30)
    (hD : D.size ≤ 20) :
    Calls Tryz.prog 188 #[.float .f64 m] w fun e w' => e = .returned (.string ((⟨#[48, 46]⟩ ++ Z) ++ D)) ∧ Below w.heap.size w w' := by
  have a1 : ∀ W, (Op.stringOp .add ⟨#[48, 46]⟩ Z).run Tryz.prog W = .ok (.string (⟨#[48, 46]⟩ ++ Z)) W := fun W => run_string_add_sum W _ _ (by show 2 + Z.size ≤ _; omega)
  have a2 : ∀ W, (Op.stringOp .add (⟨#[48, 46]⟩ ++ Z) D).run Tryz.prog W = .ok (.string ((⟨#[48, 46]⟩ ++ Z) ++ D)) W := fun W => run_string_add_sum W _ _ (by rw [ByteArray.size_append]; show 2 + Z.size + D.size ≤ _; omega)
  clear hD hZ
  go_enter Tryz.func188, Tryz.ntmps188
  go_wp2_with fail
  refine (HCl.out _).mono ?_; rintro e w' ⟨rfl, rfl⟩
  go_wp2_with fail
  refine (HF.out _ HT.out).mono ?_; rintro e w1 ⟨rfl, hb1⟩
  have HB1 := Lib.hid hb1
  clear hb1
  go_wp2_with fail
  refine (HC.out _).mono ?_; rintro e w2 ⟨rfl, hb2⟩
  have HB2 := Lib.hid (HB1.out.trans (hb2.mono HB1.out.size))
  clear hb2
  go_wp2_with fail
  refine (HA.out _ (HT.out.below HB2.out)).mono ?_; rintro e w3 ⟨rfl, hb3⟩
  have HB3 := Lib.hid (HB2.out.trans (hb3.mono HB2.out.size))
  clear hb3
  go_wp2_with fail
  refine (HR.out _ (HT.out.below HB3.out)).mono ?_; rintro e w4 ⟨rfl, hb4⟩
  have HB4 := Lib.hid (HB3.out.trans (hb4.mono HB3.out.size))
  clear hb4 HB1 HB2 HB3
  go_wp2_with fail
  refine (HZ.out _).mono ?_; rintro e w5 ⟨rfl, hb5⟩
  have HB5 := Lib.hid (HB4.out.trans (hb5.mono HB4.out.size))
  clear hb5
  go_wp2
  go_ret
  exact ⟨rfl, HB5.out⟩
set_option maxRecDepth 100000 in
set_option maxHeartbeats 1000000 in
theorem tx_w (m n : Nat) (T P X : List UInt8) (D I Z : ByteArray) (x cl : Int) (w : World) (HT : Hid (TabS w))
    (HCl : Hid (∀ W : World, Calls Tryz.prog 189 #[.float .f64 m] W fun e w' => e = .returned (.tuple #[.int .i64 cl, .bool false]) ∧ W = w')) (c1 : (cl == 1) = false) (c2 : (cl == 2) = false) (c3 : (cl == 3) = false)
    (HF : Hid (N4 190 (.float .f64 m) (.int .u8 101) (.int .i64 (-1)) (.int .i64 64) (bstr T)))
    (HC : Hid (N2 191 (bstr T) (.string ⟨#[101]⟩) (.tuple #[bstr P, bstr X, .bool true])))
    (HA : Hid (N1 192 (bstr X) (.tuple #[.int .i64 x, .nilIface]))) (HR : Hid (N4 193 (bstr P) (.string ⟨#[46]⟩) (.string ⟨#[]⟩) (.int .i64 1) (.string D)))
    (hn : (D.size : Int) = (n : Int)) (hn1 : (1 : Int) ≤ (n : Int)) (hn20 : (n : Int) ≤ 20)
    (x1 : ¬ x < -7) (x2 : ¬ 20 < x)
    (x3 : ¬ x < 0) (c k : Nat) (hx1 : IntKind.i64.wrap (x + 1) = (k : Int)) (x4 : n ≤ k) (hx2 : IntKind.i64.wrap ((k : Int) - (n : Int)) = (c : Int)) (HZ : Hid (N2 194 (.string ⟨#[48]⟩) (.int .i64 (c : Int)) (.string Z))) (hZ : Z.size ≤ 30)
    (hD : D.size ≤ 20) :
    Calls Tryz.prog 188 #[.float .f64 m] w fun e w' => e = .returned (.string (D ++ Z)) ∧ Below w.heap.size w w' := by
  have a1 : ∀ W, (Op.stringOp .add D Z).run Tryz.prog W = .ok (.string (D ++ Z)) W := fun W => run_string_add_sum W _ _ (by omega)
  clear hD hZ
  go_enter Tryz.func188, Tryz.ntmps188
  go_wp2_with fail
  refine (HCl.out _).mono ?_; rintro e w' ⟨rfl, rfl⟩
  go_wp2_with fail
  refine (HF.out _ HT.out).mono ?_; rintro e w1 ⟨rfl, hb1⟩
  have HB1 := Lib.hid hb1
  clear hb1
  go_wp2_with fail
  refine (HC.out _).mono ?_; rintro e w2 ⟨rfl, hb2⟩
  have HB2 := Lib.hid (HB1.out.trans (hb2.mono HB1.out.size))
  clear hb2
  go_wp2_with fail
  refine (HA.out _ (HT.out.below HB2.out)).mono ?_; rintro e w3 ⟨rfl, hb3⟩
  have HB3 := Lib.hid (HB2.out.trans (hb3.mono HB2.out.size))
  clear hb3
  go_wp2_with fail
  refine (HR.out _ (HT.out.below HB3.out)).mono ?_; rintro e w4 ⟨rfl, hb4⟩
  have HB4 := Lib.hid (HB3.out.trans (hb4.mono HB3.out.size))
  clear hb4 HB1 HB2 HB3
  go_wp2_with fail
  refine (HZ.out _).mono ?_; rintro e w5 ⟨rfl, hb5⟩
  have HB5 := Lib.hid (HB4.out.trans (hb5.mono HB4.out.size))
  clear hb5
  go_wp2
  go_ret
  exact ⟨rfl, HB5.out⟩
set_option maxRecDepth 100000 in
set_option maxHeartbeats 1000000 in
theorem tx_p (m n : Nat) (T P X : List UInt8) (D I Z : ByteArray) (x cl : Int) (w : World) (HT : Hid (TabS w))
    (HCl : Hid (∀ W : World, Calls Tryz.prog 189 #[.float .f64 m] W fun e w' => e = .returned (.tuple #[.int .i64 cl, .bool false]) ∧ W = w')) (c1 : (cl == 1) = false) (c2 : (cl == 2) = false) (c3 : (cl == 3) = false)
    (HF : Hid (N4 190 (.float .f64 m) (.int .u8 101) (.int .i64 (-1)) (.int .i64 64) (bstr T)))
    (HC : Hid (N2 191 (bstr T) (.string ⟨#[101]⟩) (.tuple #[bstr P, bstr X, .bool true])))
    (HA : Hid (N1 192 (bstr X) (.tuple #[.int .i64 x, .nilIface]))) (HR : Hid (N4 193 (bstr P) (.string ⟨#[46]⟩) (.string ⟨#[]⟩) (.int .i64 1) (.string D)))
    (hn : (D.size : Int) = (n : Int)) (hn1 : (1 : Int) ≤ (n : Int)) (hn20 : (n : Int) ≤ 20)
    (x1 : ¬ x < -7) (x2 : ¬ 20 < x)
    (x3 : ¬ x < 0) (k : Nat) (hx1 : IntKind.i64.wrap (x + 1) = (k : Int)) (x4 : ¬ n ≤ k) (k1 : (0 : Int) ≤ (k : Int)) (k2 : (k : Int) ≤ (n : Int))
    (hD : D.size ≤ 20) :
    Calls Tryz.prog 188 #[.float .f64 m] w fun e w' => e = .returned (.string ((D.extract 0 k ++ ⟨#[46]⟩) ++ D.extract k D.size)) ∧ Below w.heap.size w w' := by
  have a1 : ∀ W, (Op.stringOp .add (D.extract 0 k) ⟨#[46]⟩).run Tryz.prog W = .ok (.string (D.extract 0 k ++ ⟨#[46]⟩)) W := fun W => run_string_add_sum W _ _ (by rw [ByteArray.size_extract]; show min k D.size - 0 + 1 ≤ _; omega)
  have a2 : ∀ W, (Op.stringOp .add (D.extract 0 k ++ ⟨#[46]⟩) (D.extract k D.size)).run Tryz.prog W = .ok (.string ((D.extract 0 k ++ ⟨#[46]⟩) ++ D.extract k D.size)) W := fun W => run_string_add_sum W _ _ (by rw [ByteArray.size_append, ByteArray.size_extract, ByteArray.size_extract]; show min k D.size - 0 + 1 + (min D.size D.size - k) ≤ _; omega)
  clear hD
  go_enter Tryz.func188, Tryz.ntmps188
  go_wp2_with fail
  refine (HCl.out _).mono ?_; rintro e w' ⟨rfl, rfl⟩
  go_wp2_with fail
  refine (HF.out _ HT.out).mono ?_; rintro e w1 ⟨rfl, hb1⟩
  have HB1 := Lib.hid hb1
  clear hb1
  go_wp2_with fail
  refine (HC.out _).mono ?_; rintro e w2 ⟨rfl, hb2⟩
  have HB2 := Lib.hid (HB1.out.trans (hb2.mono HB1.out.size))
  clear hb2
  go_wp2_with fail
  refine (HA.out _ (HT.out.below HB2.out)).mono ?_; rintro e w3 ⟨rfl, hb3⟩
  have HB3 := Lib.hid (HB2.out.trans (hb3.mono HB2.out.size))
  clear hb3
  go_wp2_with fail
  refine (HR.out _ (HT.out.below HB3.out)).mono ?_; rintro e w4 ⟨rfl, hb4⟩
  have HB4 := Lib.hid (HB3.out.trans (hb4.mono HB3.out.size))
  clear hb4 HB1 HB2 HB3
  go_wp2_with fail
  go_quiet (fail)
  go_wp2
  go_ret
  exact ⟨rfl, below_drewN HB4.out _⟩
theorem neg_lo {b : Nat} (hb : b < 9223372036854775808) : b ^^^ 2 ^ 63 = b + 9223372036854775808 := by
  have h := Nat.shiftLeft_add_eq_or_of_lt (show b < 2 ^ 63 by simpa using hb) 1
  have e : b ^^^ 2 ^ 63 = b ||| 2 ^ 63 := by
    apply Nat.eq_of_testBit_eq
    intro i
    rw [Nat.testBit_xor, Nat.testBit_or, Nat.testBit_two_pow]
    by_cases hi : 63 = i
    · subst hi
      have : b.testBit 63 = false := Nat.testBit_lt_two_pow (by simpa using hb)
      rw [this]; simp
    · rw [decide_eq_false hi]; simp
  rw [e]
  rw [Nat.shiftLeft_eq] at h
  rw [Nat.or_comm, Nat.add_comm]
  simpa using h.symm
theorem neg_hi {c : Nat} (hc : c < 9223372036854775808) : Op.negFloat .f64 (c + 9223372036854775808) = c := by
  unfold Op.negFloat
  show (c + 9223372036854775808) ^^^ 2 ^ (11 + 52) = _
  rw [← neg_lo hc, Nat.xor_assoc, Nat.xor_self, Nat.xor_zero]
theorem run_negHi {c : Nat} (h : c < 9223372036854775808) (w : World) : (Op.unary UnOp.neg (.float .f64 (c + 9223372036854775808))).run Tryz.prog w = .ok (.float .f64 c) w := by
  simp [Op.unary, neg_hi h]
theorem itoa_len {x : Int} (h1 : -400 ≤ x) (h2 : x ≤ 400) : (Lib.itoa x).length ≤ 10 := by
  have e1 := lenD_le 2 x.natAbs (by omega)
  have e2 := lenD_le 2 x.toNat (by omega)
  unfold lenD at e1 e2
  unfold Lib.itoa
  split <;> (try simp only [List.length_cons]) <;> omega
set_option maxRecDepth 100000 in
theorem c_TextPos (m : Nat) (h0 : 0 < m) (h1 : m < 9218868437227405312) (w : World) (ht : TabS w) :
    Calls Tryz.prog 188 #[.float .f64 m] w fun e w' => e = .returned (bstr (numT (shortM m).1 (shortM m).2)) ∧ Below w.heap.size w w' := by
  obtain ⟨hx1, hx2, hl⟩ := shortM_bds h0 h1
  have hp := lenD_pos (shortM m).1
  have HT := Lib.hid ht
  have hnn : fnan m = false := by unfold fnan; rw [Nat.mod_eq_of_lt (by omega)]; exact decide_eq_false (by omega)
  have hcl : ∃ cl, fclass m = cl ∧ (cl == 1) = false ∧ (cl == 2) = false ∧ (cl == 3) = false := by
    unfold fclass
    rw [hnn, Nat.mod_eq_of_lt (by omega), if_neg (by decide), if_neg (by omega), if_neg (by omega)]
    by_cases h : m < 4503599627370496
    · exact ⟨4, if_pos h, by decide, by decide, by decide⟩
    · exact ⟨5, if_neg h, by decide, by decide, by decide⟩
  obtain ⟨cl, hcl, c1, c2, c3⟩ := hcl
  have hng : fneg m = false := by unfold fneg; rw [hnn, decide_eq_true (by omega)]; rfl
  have HCl : Hid (∀ W : World, Calls Tryz.prog 189 #[.float .f64 m] W fun e w' => e = .returned (.tuple #[.int .i64 cl, .bool false]) ∧ W = w') := fun W => by
    have := c_Class m (by omega) W
    rwa [hcl, hng] at this
  have HF : Hid (N4 190 (.float .f64 m) (.int .u8 101) (.int .i64 (-1)) (.int .i64 64) (bstr (eTxt (shortM m).1 (shortM m).2))) := fun W hW => c_FFI m h0 h1 W hW
  generalize (shortM m).1 = d at *
  generalize (shortM m).2 = x at *
  have hxl := (expT_atoi hx1 hx2).2
  have hptl : (ptT d).length ≤ 21 := by rw [ptT_len]; split <;> omega
  have hTl : (eTxt d x).length = (ptT d).length + (1 + (expT x).length) := by unfold eTxt; rw [List.length_append, List.length_cons]; omega
  have HC : Hid (N2 191 (bstr (eTxt d x)) (.string ⟨#[101]⟩) (.tuple #[bstr (ptT d), bstr (expT x), .bool true])) := fun W =>
    c_CutAt ⟨(eTxt d x).toArray⟩ ⟨(ptT d).toArray⟩ ⟨(expT x).toArray⟩ (ptT d).length (eTxt_idx d x) (by show _ ≤ (eTxt d x).length; omega) (by show (eTxt d x).length ≤ _; omega)
      (by rw [bcut, List.drop_zero]; unfold eTxt; rw [List.take_append_of_le_length (Nat.le_refl _), List.take_length])
      (by
        rw [bcut]
        show (⟨(((eTxt d x).take (eTxt d x).length).drop ((ptT d).length + 1)).toArray⟩ : ByteArray) = _
        rw [List.take_length]
        unfold eTxt
        rw [List.drop_append, List.drop_eq_nil_of_le (Nat.le_succ _), Nat.add_sub_cancel_left]
        rfl) W
  have HA : Hid (N1 192 (bstr (expT x)) (.tuple #[.int .i64 x, .nilIface])) := fun W _ => c_AtoiX x hx1 hx2 W
  have HR : Hid (N4 193 (bstr (ptT d)) (.string ⟨#[46]⟩) (.string ⟨#[]⟩) (.int .i64 1) (.string ⟨(Lib.decDigits d).toArray⟩)) := fun W _ => by
    by_cases h : lenD d = 1
    · rw [← ptT_one h]
      exact (c_Rep0P ⟨(ptT d).toArray⟩ (ptT_cnt0 h) W).mono fun e w' ⟨a, b⟩ => ⟨a, b ▸ Below.refl _ _⟩
    · have hsz : (ptT d).length = lenD d + 1 := by rw [ptT_len, if_neg h]
      have e0 : (⟨(ptT d).toArray⟩ : ByteArray).extract 0 (⟨(ptT d).toArray⟩ : ByteArray).size = ⟨(ptT d).toArray⟩ := by
        rw [bcut]
        show (⟨(((ptT d).take (ptT d).length).drop 0).toArray⟩ : ByteArray) = _
        rw [List.take_length, List.drop_zero]
      have := c_Rep1P ⟨(ptT d).toArray⟩ ((ptT d).take 1) ((ptT d).drop 2) (ptT_cnt1 h) (ptT_idx h) (by show 2 ≤ (ptT d).length; omega) (by show (ptT d).length ≤ 1000; omega) e0 (by rw [bcut, List.drop_zero])
        (by
          rw [bcut]
          show (⟨(((ptT d).take (ptT d).length).drop 2).toArray⟩ : ByteArray) = _
          rw [List.take_length]) (by rw [List.length_take]; omega) (by rw [List.length_drop]; omega) W
      rwa [ptT_cut h] at this
  have HI : Hid (N1 108 (.int .i64 x) (.string ⟨(Lib.itoa x).toArray⟩)) := fun W hW => c_ItoaX x hx1 hx2 W hW
  have hIl : (⟨(Lib.itoa x).toArray⟩ : ByteArray).size ≤ 10 := itoa_len hx1 hx2
  have hDl : (⟨(Lib.decDigits d).toArray⟩ : ByteArray).size ≤ 20 := hl
  have hDn : ((⟨(Lib.decDigits d).toArray⟩ : ByteArray).size : Int) = ((lenD d : Nat) : Int) := rfl
  have hDs : (⟨(Lib.decDigits d).toArray⟩ : ByteArray).size = lenD d := rfl
  have jn : ∀ a b : List UInt8, (⟨a.toArray⟩ : ByteArray) ++ ⟨b.toArray⟩ = ⟨(a ++ b).toArray⟩ := fun a b => (bapp a b).symm
  have ex1 : ∀ k, (⟨(Lib.decDigits d).toArray⟩ : ByteArray).extract 0 k = ⟨((Lib.decDigits d).take k).toArray⟩ := fun k => by rw [bcut, List.drop_zero]
  have ex2 : ∀ k, (⟨(Lib.decDigits d).toArray⟩ : ByteArray).extract k (⟨(Lib.decDigits d).toArray⟩ : ByteArray).size = ⟨((Lib.decDigits d).drop k).toArray⟩ := fun k => by
    rw [bcut]
    show (⟨(((Lib.decDigits d).take (Lib.decDigits d).length).drop k).toArray⟩ : ByteArray) = _
    rw [List.take_length]
  have l1 : (⟨#[101]⟩ : ByteArray) = ⟨[101].toArray⟩ := rfl
  have l2 : (⟨#[46]⟩ : ByteArray) = ⟨[46].toArray⟩ := rfl
  have l3 : (⟨#[48, 46]⟩ : ByteArray) = ⟨[48, 46].toArray⟩ := rfl
  by_cases he : x < -7 ∨ 20 < x
  · by_cases hn : lenD d = 1
    · have key : ∀ e w', (e = Ending.returned (.string ((⟨(Lib.decDigits d).toArray⟩ ++ ⟨#[101]⟩) ++ ⟨(Lib.itoa x).toArray⟩)) ∧ Below w.heap.size w w') → e = .returned (bstr (numT d x)) ∧ Below w.heap.size w w' := fun e w' ⟨a, b⟩ => ⟨by
        rw [a, l1, jn, jn, numT_e he, ptT_one hn, List.append_assoc]; rfl, b⟩
      by_cases x1 : x < -7
      · exact (tx_e1s m (lenD d) _ _ _ _ _ ⟨#[]⟩ x cl w HT HCl c1 c2 c3 HF HC HA HR hDn (by omega) (by omega) x1 (by omega) HI hIl hDl).mono key
      · exact (tx_e2s m (lenD d) _ _ _ _ _ ⟨#[]⟩ x cl w HT HCl c1 c2 c3 HF HC HA HR hDn (by omega) (by omega) x1 (by omega) (by omega) HI hIl hDl).mono key
    · have key : ∀ e w', (e = Ending.returned (.string (((((⟨(Lib.decDigits d).toArray⟩ : ByteArray).extract 0 1 ++ ⟨#[46]⟩) ++ (⟨(Lib.decDigits d).toArray⟩ : ByteArray).extract 1 (⟨(Lib.decDigits d).toArray⟩ : ByteArray).size) ++ ⟨#[101]⟩) ++ ⟨(Lib.itoa x).toArray⟩)) ∧ Below w.heap.size w w') → e = .returned (bstr (numT d x)) ∧ Below w.heap.size w w' := fun e w' ⟨a, b⟩ => ⟨by
        rw [a, l1, l2, ex1, ex2, jn, jn, jn, jn, numT_e he, ptT_more hn]
        simp only [List.append_assoc, List.cons_append, List.nil_append], b⟩
      by_cases x1 : x < -7
      · exact (tx_e1m m (lenD d) _ _ _ _ _ ⟨#[]⟩ x cl w HT HCl c1 c2 c3 HF HC HA HR hDn (by omega) (by omega) x1 (by omega) HI hIl hDl).mono key
      · exact (tx_e2m m (lenD d) _ _ _ _ _ ⟨#[]⟩ x cl w HT HCl c1 c2 c3 HF HC HA HR hDn (by omega) (by omega) x1 (by omega) (by omega) HI hIl hDl).mono key
  · by_cases x3 : x < 0
    · have HZ : Hid (N2 194 (.string ⟨#[48]⟩) (.int .i64 (((-x - 1).toNat : Nat) : Int)) (.string ⟨(List.replicate (-x - 1).toNat 48).toArray⟩)) := fun W => c_Rep48 _ (by omega) W
      refine (tx_s m (lenD d) _ _ _ _ ⟨#[]⟩ _ x cl w HT HCl c1 c2 c3 HF HC HA HR hDn (by omega) (by omega) (by omega) (by omega) x3 (-x - 1).toNat (IntWalk.i64_in _ (by omega)) (by rw [IntWalk.i64_in _ (by omega)]; omega) HZ (by show (List.replicate _ _).length ≤ _; rw [List.length_replicate]; omega) hDl).mono fun e w' ⟨a, b⟩ => ⟨?_, b⟩
      rw [a, l3, jn, jn, numT_small he x3]
      simp only [List.cons_append, List.nil_append]
    · by_cases x4 : (lenD d : Int) ≤ x + 1
      · have HZ : Hid (N2 194 (.string ⟨#[48]⟩) (.int .i64 (((x + 1 - lenD d).toNat : Nat) : Int)) (.string ⟨(List.replicate (x + 1 - lenD d).toNat 48).toArray⟩)) := fun W => c_Rep48 _ (by omega) W
        refine (tx_w m (lenD d) _ _ _ _ ⟨#[]⟩ _ x cl w HT HCl c1 c2 c3 HF HC HA HR hDn (by omega) (by omega) (by omega) (by omega) x3 (x + 1 - lenD d).toNat (x + 1).toNat (by rw [IntWalk.i64_in _ (by omega)]; omega) (by omega) (by rw [IntWalk.i64_in _ (by omega)]; omega) HZ (by show (List.replicate _ _).length ≤ _; rw [List.length_replicate]; omega) hDl).mono fun e w' ⟨a, b⟩ => ⟨?_, b⟩
        rw [a, jn, numT_whole he x3 x4]
      · refine (tx_p m (lenD d) _ _ _ _ ⟨#[]⟩ ⟨#[]⟩ x cl w HT HCl c1 c2 c3 HF HC HA HR hDn (by omega) (by omega) (by omega) (by omega) x3 (x + 1).toNat (by rw [IntWalk.i64_in _ (by omega)]; omega) (by omega) (by omega) (by omega) hDl).mono fun e w' ⟨a, b⟩ => ⟨?_, b⟩
        rw [a, l2, ex1, ex2, jn, jn, numT_point he x3 x4]
        simp only [List.append_assoc, List.cons_append, List.nil_append]
/-- A class and a sign that Text answers at once. -/
theorem c_TextLow (m : Nat) (h : m < 9223372036854775808) (w : World) (ht : TabS w) : Calls Tryz.prog 188 #[.float .f64 m] w fun e w' => e = .returned (bstr (txtF m)) ∧ Below w.heap.size w w' := by
  have hmod : m % 9223372036854775808 = m := Nat.mod_eq_of_lt h
  have HCl := Lib.hid (fun W => c_Class m (by omega) W)
  by_cases hn : 9218868437227405312 < m
  · have hnn : fnan m = true := by unfold fnan; rw [hmod]; exact decide_eq_true hn
    rw [show fclass m = 1 from by unfold fclass; rw [hnn, if_pos rfl], show fneg m = false from by unfold fneg; rw [hnn]; rfl] at HCl
    rw [show txtF m = [110, 97, 110] from by unfold txtF; rw [hmod, if_pos hn]]
    clear hmod hn hnn ht h
    go_enter Tryz.func188, Tryz.ntmps188
    go_wp2_with fail
    refine (HCl.out _).mono ?_; rintro e w' ⟨rfl, rfl⟩
    go_wp2
    go_ret
    exact ⟨rfl, Below.refl _ _⟩
  have hnn : fnan m = false := by unfold fnan; rw [hmod]; exact decide_eq_false hn
  have hng : fneg m = false := by unfold fneg; rw [hnn, decide_eq_true h]; rfl
  rw [hng] at HCl
  by_cases hi : m = 9218868437227405312
  · rw [show fclass m = 2 from by unfold fclass; rw [hnn, hmod, if_neg (by decide), if_pos hi]] at HCl
    rw [show txtF m = [105, 110, 102] from by unfold txtF; rw [hmod, if_neg hn, if_pos h, if_pos hi]; rfl]
    clear hmod hn hnn ht h hi hng
    go_enter Tryz.func188, Tryz.ntmps188
    go_wp2_with fail
    refine (HCl.out _).mono ?_; rintro e w' ⟨rfl, rfl⟩
    go_wp2
    go_ret
    exact ⟨rfl, Below.refl _ _⟩
  by_cases hz : m = 0
  · subst hz
    rw [show fclass 0 = 3 from by decide +kernel] at HCl
    rw [show txtF 0 = [48] from by unfold txtF; rw [hmod, if_neg hn, if_pos h, if_neg hi, if_pos rfl]; rfl]
    clear hmod hn hnn ht h hi hng
    go_enter Tryz.func188, Tryz.ntmps188
    go_wp2_with fail
    refine (HCl.out _).mono ?_; rintro e w' ⟨rfl, rfl⟩
    go_wp2
    go_ret
    exact ⟨rfl, Below.refl _ _⟩
  · rw [show txtF m = numT (shortM m).1 (shortM m).2 from by unfold txtF; rw [hmod, if_neg hn, if_pos h, if_neg hi, if_neg hz]; rfl]
    exact c_TextPos m (by omega) (by omega) w ht
theorem tx_neg (c : Nat) (cl : Int) (R : List UInt8) (w : World) (h : c < 9223372036854775808) (HCl : Hid (∀ W : World, Calls Tryz.prog 189 #[.float .f64 (c + 9223372036854775808)] W fun e w' => e = .returned (.tuple #[.int .i64 cl, .bool true]) ∧ W = w')) (c1 : (cl == 1) = false) (c2 : (cl == 2) = false)
    (HR : Hid (Calls Tryz.prog 188 #[.float .f64 c] w fun e w' => e = .returned (bstr R) ∧ Below w.heap.size w w')) (hR : R.length ≤ 1000) :
    Calls Tryz.prog 188 #[.float .f64 (c + 9223372036854775808)] w fun e w' => e = .returned (bstr (45 :: R)) ∧ Below w.heap.size w w' := by
  have hng : ∀ W, (Op.unary UnOp.neg (.float .f64 (c + 9223372036854775808))).run Tryz.prog W = .ok (.float .f64 c) W := fun W => run_negHi h W
  have a1 : ∀ W, (Op.stringOp .add ⟨#[45]⟩ ⟨R.toArray⟩).run Tryz.prog W = .ok (.string (⟨#[45]⟩ ++ ⟨R.toArray⟩)) W := fun W => run_string_add_sum W _ _ (by show 1 + R.length ≤ _; omega)
  have HQ : Hid ((⟨#[45]⟩ : ByteArray) ++ ⟨R.toArray⟩ = ⟨(45 :: R).toArray⟩) := by
    show (⟨[45].toArray⟩ : ByteArray) ++ ⟨R.toArray⟩ = _
    rw [← bapp]; rfl
  clear h hR
  generalize c + 9223372036854775808 = b at *
  go_enter Tryz.func188, Tryz.ntmps188
  go_wp2_with fail
  refine (HCl.out _).mono ?_; rintro e w' ⟨rfl, rfl⟩
  go_wp2_with fail
  refine HR.out.mono ?_; rintro e w1 ⟨rfl, hb1⟩
  have HB1 := Lib.hid hb1
  clear hb1
  go_wp2
  go_ret
  exact ⟨by show _ = Ending.returned (.string ⟨(45 :: R).toArray⟩); rw [← HQ.out]; rfl, HB1.out⟩
/-- float.Text answers the document's text of a float, at all 64 bits. -/
theorem c_TextI (b : Nat) (hb : b < 18446744073709551616) (w : World) (ht : TabS w) : Calls Tryz.prog 188 #[.float .f64 b] w fun e w' => e = .returned (bstr (txtF b)) ∧ Below w.heap.size w w' := by
  by_cases hs : b < 9223372036854775808
  · exact c_TextLow b hs w ht
  obtain ⟨c, rfl⟩ : ∃ c, b = c + 9223372036854775808 := ⟨b - 9223372036854775808, by omega⟩
  have hc : c < 9223372036854775808 := by omega
  have hmod : (c + 9223372036854775808) % 9223372036854775808 = c := by omega
  have hmodc : c % 9223372036854775808 = c := by omega
  have HCl := Lib.hid (fun W => c_Class (c + 9223372036854775808) hb W)
  by_cases hn : 9218868437227405312 < c
  · have hnn : fnan (c + 9223372036854775808) = true := by unfold fnan; rw [hmod]; exact decide_eq_true hn
    rw [show fclass (c + 9223372036854775808) = 1 from by unfold fclass; rw [hnn, if_pos rfl], show fneg (c + 9223372036854775808) = false from by unfold fneg; rw [hnn]; rfl] at HCl
    rw [show txtF (c + 9223372036854775808) = [110, 97, 110] from by unfold txtF; rw [hmod, if_pos hn]]
    clear hmod hn hnn ht hc hs hb hmodc
    generalize c + 9223372036854775808 = b at *
    go_enter Tryz.func188, Tryz.ntmps188
    go_wp2_with fail
    refine (HCl.out _).mono ?_; rintro e w' ⟨rfl, rfl⟩
    go_wp2
    go_ret
    exact ⟨rfl, Below.refl _ _⟩
  have hnn : fnan (c + 9223372036854775808) = false := by unfold fnan; rw [hmod]; exact decide_eq_false hn
  have hng : fneg (c + 9223372036854775808) = true := by unfold fneg; rw [hnn, decide_eq_false hs]; rfl
  rw [hng] at HCl
  by_cases hi : c = 9218868437227405312
  · rw [show fclass (c + 9223372036854775808) = 2 from by unfold fclass; rw [hnn, hmod, if_neg (by decide), if_pos hi]] at HCl
    rw [show txtF (c + 9223372036854775808) = [45, 105, 110, 102] from by unfold txtF; rw [hmod, if_neg hn, if_neg hs, if_pos hi]; rfl]
    clear hmod hn hnn ht hc hs hb hmodc hi hng
    generalize c + 9223372036854775808 = b at *
    go_enter Tryz.func188, Tryz.ntmps188
    go_wp2_with fail
    refine (HCl.out _).mono ?_; rintro e w' ⟨rfl, rfl⟩
    go_wp2
    go_ret
    exact ⟨rfl, Below.refl _ _⟩
  · have hcl : ∃ cl, fclass (c + 9223372036854775808) = cl ∧ (cl == 1) = false ∧ (cl == 2) = false := by
      unfold fclass
      rw [hnn, hmod, if_neg (by decide), if_neg hi]
      by_cases h3 : c = 0
      · exact ⟨3, if_pos h3, by decide, by decide⟩
      · rw [if_neg h3]
        by_cases h : c < 4503599627370496
        · exact ⟨4, if_pos h, by decide, by decide⟩
        · exact ⟨5, if_neg h, by decide, by decide⟩
    obtain ⟨cl, hcl, c1, c2⟩ := hcl
    rw [hcl] at HCl
    have hlow : txtF (c + 9223372036854775808) = 45 :: txtF c := by
      unfold txtF
      rw [hmod, hmodc, if_neg hn, if_neg hn, if_neg hs, if_pos hc]
      rfl
    have hlen : (txtF c).length ≤ 1000 := by
      unfold txtF
      rw [hmodc, if_neg hn, if_pos hc, if_neg hi]
      by_cases h3 : c = 0
      · rw [if_pos h3]; decide
      · rw [if_neg h3, List.nil_append]
        obtain ⟨z1, z2, z3, z4, z5, z6⟩ := zM_facts (m := c) (by omega) (by omega)
        have hsl := (short_law (m := c) (by omega) (by omega) z1 z2 z5).1
        have hbd := shortM_bds (m := c) (by omega) (by omega)
        have hd : (shortM c).1 < 18446744073709551616 := by
          rw [hsl]; exact Nat.lt_of_le_of_lt (stripD_le _) (dM_lt (by omega) (by omega) z1 z2 z5)
        have := numT_len hd hbd.1 (by omega)
        omega
    rw [hlow]
    exact tx_neg c cl _ w hc HCl c1 c2 (c_TextLow c hc w ht) hlen
end Go.Proofs.YtigbbogfnchgnaaGreatDoor
namespace Go.Proofs.YtigbbogfnchgnaaGreatDoor
open Go.RowKit Go.Lib
set_option linter.unusedVariables false

theorem cell_of_rows {H : Type} {enc : TypeId × Value → H} {P : Program} {w : World} {base : Nat} {sp : Nat → Bool} {held : Bool} {fuel : Nat} {t e : TypeId} {n : Nat} {f0 f1 : Field} {cs : List Value} {ds : List (DataW H)} {p : List MemPlace}
    (ht : P.underlying t = some (.array n e)) (he : P.underlying e = some (.struct #[f0, f1])) (hce : P.cellsOf e = 2)
    (o0 : f0.offset = 0) (o1 : f1.offset = 1) (u0 : P.underlying f0.type = some (.int .u64)) (u1 : P.underlying f1.type = some (.int .u64)) (c0 : P.cellsOf f0.type = 1) (c1 : P.cellsOf f1.type = 1)
    (h : DataW.trod enc P w base sp held fuel t cs = some (.agg ds, p)) {i : Nat} {x y : Int} (hi : ds[i]? = some (.agg [.lit (.int .u64 x), .lit (.int .u64 y)])) :
    cs[i * 2]? = some (.int .u64 x) ∧ cs[i * 2 + 1]? = some (.int .u64 y) := by
  cases fuel with
  | zero => simp [DataW.trod] at h
  | succ fuel =>
    simp only [DataW.trod, ht, hce] at h
    split at h
    · rename_i hl
      obtain ⟨xs, hm, hx⟩ := Option.map_eq_some_iff.1 h
      have hxs : xs.map (·.1) = ds := by
        have := congrArg Prod.fst hx
        simpa using this
      have hxl : xs.length = n := by simpa using mapM_length hm
      have hin : i < n := by
        have h1 : i < ds.length := (List.getElem?_eq_some_iff.1 hi).1
        rw [← hxs, List.length_map] at h1
        omega
      obtain ⟨b, hb, hf⟩ := mapM_at hm i i (by simp [hin])
      have hb1 : b.1 = .agg [.lit (.int .u64 x), .lit (.int .u64 y)] := by
        rw [← hxs, List.getElem?_map, hb] at hi
        simpa using hi
      obtain ⟨ys, m, _, rfl, hl2, hyl, hfs⟩ := DataW.trod_struct he hf
      have hys : ys.map (·.1) = [.lit (.int .u64 x), .lit (.int .u64 y)] := by simpa using hb1
      have hy2 : ys.length = 2 := by have := congrArg List.length hys; simpa using this
      have g0 := hfs 0 f0 rfl
      have g1 := hfs 1 f1 rfl
      rw [o0, c0] at g0
      rw [o1, c1] at g1
      rw [List.getElem?_eq_getElem (show 0 < ys.length by omega)] at g0
      rw [List.getElem?_eq_getElem (show 1 < ys.length by omega)] at g1
      obtain ⟨v0, e0, q0, _⟩ := DataW.trod_int u0 g0
      obtain ⟨v1, e1, q1, _⟩ := DataW.trod_int u1 g1
      have k0 : (ys.map (·.1))[0]? = some (DataW.lit (.int .u64 v0)) := by
        rw [List.getElem?_map, List.getElem?_eq_getElem (show 0 < ys.length by omega), q0]; rfl
      have k1 : (ys.map (·.1))[1]? = some (DataW.lit (.int .u64 v1)) := by
        rw [List.getElem?_map, List.getElem?_eq_getElem (show 1 < ys.length by omega), q1]; rfl
      rw [hys] at k0 k1
      simp only [List.getElem?_cons_zero, List.getElem?_cons_succ, Option.some.injEq, DataW.lit.injEq, Lit.int.injEq, true_and] at k0 k1
      subst k0 k1
      constructor
      · have := congrArg (·[0]?) e0
        simpa [List.getElem?_take, List.getElem?_drop] using this
      · have := congrArg (·[0]?) e1
        simpa [List.getElem?_take, List.getElem?_drop, Nat.add_comm] using this
    · cases h
/-- From the row's condition to the table's two cells: the table stands first on the list. -/
theorem rows_of_head {P : Program} {W : World} {name : String} {ds : List (DataW Unit)} {rest : List (String × DataW Unit)} {g : Nat} {t e : TypeId} {n : Nat} {f0 f1 : Field}
    (hg : P.globalNamed name = some g) (hty : (P.globals[g]?).map (·.type) = some t) (ht : P.underlying t = some (.array n e)) (he : P.underlying e = some (.struct #[f0, f1])) (hce : P.cellsOf e = 2)
    (o0 : f0.offset = 0) (o1 : f1.offset = 1) (u0 : P.underlying f0.type = some (.int .u64)) (u1 : P.underlying f1.type = some (.int .u64)) (c0 : P.cellsOf f0.type = 1) (c1 : P.cellsOf f1.type = 1)
    (h : laidMet P ((name, .agg ds) :: rest) W) {i : Nat} {x y : Int} (hi : ds[i]? = some (.agg [.lit (.int .u64 x), .lit (.int .u64 y)])) :
    W.cell? ⟨g, i * 2, none⟩ = some (.int .u64 x) ∧ W.cell? ⟨g, i * 2 + 1, none⟩ = some (.int .u64 y) := by
  obtain ⟨ps, ⟨g', t', cs, fuel, p, q, hg', ht', hvar, hd, _, _⟩, _⟩ := h
  obtain rfl := Option.some.inj (hg.symm.trans hg')
  obtain rfl := Option.some.inj (hty.symm.trans ht')
  obtain ⟨h1, h2⟩ := cell_of_rows ht he hce o0 o1 u0 u1 c0 c1 hd hi
  constructor
  · rw [World.var?_cell hg hvar]; simpa using h1
  · rw [World.var?_cell hg hvar]; simpa using h2
def rowAt (i : Nat) : Nat × Nat := (hiN ((i : Int) - 348), loN ((i : Int) - 348))
set_option maxRecDepth 100000 in
theorem rows_pinned : Go.Pinned.pow10Rows = (List.range 696).map rowAt := by decide +kernel
theorem row_pinned (i : Nat) (h : i < 696) : (Go.Pinned.pow10Rows.map fun x => (DataW.agg [.lit (.int .u64 x.1), .lit (.int .u64 x.2)] : DataW Unit))[i]? = some (.agg [.lit (.int .u64 ((hiN ((i : Int) - 348) : Nat) : Int)), .lit (.int .u64 ((loN ((i : Int) - 348) : Nat) : Int))]) := by
  rw [rows_pinned, List.map_map, List.getElem?_map, List.getElem?_range h]
  rfl
end Go.Proofs.YtigbbogfnchgnaaGreatDoor
