/- Walks: a float above nought as text in the form 'e', the shortest (strconv: ftoa64, FormatFloat). Conditions: a rung above nought, below infinity's; the library's tables. -/
import Derived.Test.YthoifpapdefheaaGreatDoorXi
import Derived.Test.YthoifpapdefheaaGreatDoorXm
import Derived.Deep.RegionHeld3
import Derived.Deep.RegionLaw
import Derived.Deep.DrawnRows
namespace Go.Proofs.YthoifpapdefheaaGreatDoor
open Go.RowKit
set_option linter.unusedVariables false
attribute [local go_sem ↓] Go.wp_at_zero Go.wp_at_succ

theorem bitLen_bd : ∀ x : Nat, 0 < x → x < 18446744073709551616 → 1 ≤ Lib.bitLen x ∧ 2 ^ (Lib.bitLen x - 1) ≤ x ∧ x < 2 ^ Lib.bitLen x := by
  intro x
  induction x using Nat.strongRecOn with
  | _ x ih =>
    intro h0 h1
    have e := Lib.bitLen_half x (by omega) (by omega)
    rcases Nat.lt_or_ge x 2 with h | h
    · obtain rfl : x = 1 := by omega
      decide
    · obtain ⟨a, b, c⟩ := ih (x / 2) (by omega) (by omega) (by omega)
      rw [e]
      obtain ⟨k, hk⟩ : ∃ k, Lib.bitLen (x / 2) = k + 1 := ⟨Lib.bitLen (x / 2) - 1, by omega⟩
      rw [hk] at b c ⊢
      rw [show 1 + (k + 1) - 1 = k + 1 from by omega, show 1 + (k + 1) = k + 2 from by omega]
      rw [Nat.add_sub_cancel] at b
      have p1 : 2 ^ (k + 1) = 2 * 2 ^ k := Nat.pow_succ'
      have p2 : 2 ^ (k + 2) = 2 * 2 ^ (k + 1) := Nat.pow_succ'
      omega
/-- How far a rung's whole number is moved up. -/
def zM (m : Nat) : Nat := 64 - Lib.bitLen (mman m)
theorem zM_facts {m : Nat} (h0 : 0 < m) (h1 : m < 9218868437227405312) : 11 ≤ zM m ∧ zM m ≤ 63 ∧ (4503599627370496 ≤ m → zM m = 11) ∧ 9223372036854775808 ≤ mman m * 2 ^ zM m ∧ mman m * 2 ^ zM m < 18446744073709551616 ∧ (64 : Int) - (Lib.bitLen (mman m) : Nat) = (zM m : Nat) := by
  have hm1 := mman_one h0
  have hm2 := mman_hi m
  obtain ⟨a, b, c⟩ := bitLen_bd (mman m) hm1 (by omega)
  unfold zM
  generalize Lib.bitLen (mman m) = l at *
  have hl : l ≤ 53 := by
    rcases Nat.lt_or_ge 53 l with h | h
    · have : 2 ^ 53 ≤ 2 ^ (l - 1) := Nat.pow_le_pow_right (by decide) (by omega)
      have : (2 : Nat) ^ 53 = 9007199254740992 := rfl
      omega
    · exact h
  refine ⟨by omega, by omega, fun hm => ?_, ?_, ?_, by omega⟩
  · have hmm : 4503599627370496 ≤ mman m := by unfold mman; rw [if_neg (by omega)]; omega
    rcases Nat.lt_or_ge l 53 with h | h
    · have : 2 ^ l ≤ 2 ^ 52 := Nat.pow_le_pow_right (by decide) (by omega)
      have : (2 : Nat) ^ 52 = 4503599627370496 := rfl
      omega
    · omega
  · have : 2 ^ (l - 1) * 2 ^ (64 - l) ≤ mman m * 2 ^ (64 - l) := Nat.mul_le_mul_right _ b
    rw [← Nat.pow_add, show l - 1 + (64 - l) = 63 from by omega] at this
    exact this
  · have : mman m * 2 ^ (64 - l) < 2 ^ l * 2 ^ (64 - l) := Nat.mul_lt_mul_of_pos_right c (Nat.pow_pos (by decide))
    rw [← Nat.pow_add, show l + (64 - l) = 64 from by omega] at this
    exact this
def ShQ (X D : Nat) (e E : Int) : Prop := ∀ V : World, TabS V → Calls Tryz.prog 78 #[.int .u64 (X : Int), .int .i64 e] V fun x w' => x = .returned (.tuple #[.int .u64 (D : Int), .int .i64 E]) ∧ Below V.heap.size V w'
def NdQ (D n : Nat) : Prop := ∀ V : World, TabS V → Calls Tryz.prog 72 #[.int .u64 (D : Int)] V fun e w' => e = .returned (.int .i64 (n : Int)) ∧ V = w'
def SdQ (D n nd : Nat) (E dp : Int) (ds : List UInt8) : Prop := ∀ (g : Nat) (V : World), Blk V g 94 zrs32 → Calls Tryz.prog 71 #[.slice (some ⟨g, 0, none⟩) 32 32, .int .u64 (D : Int), .int .i64 E, .int .i64 (n : Int)] V fun e w' => e = .returned (.tuple #[.int .i64 dp, .int .i64 (nd : Int)]) ∧ (∀ j x, ds[j]? = some x → w'.cell? ⟨g, j, none⟩ = some (.int .u8 (x.toNat : Int))) ∧ Below g V w'
def FmQ (nd : Nat) (dp : Int) (ds T : List UInt8) : Prop := ∀ (W w : World) (A : Option Addr) (c g : Nat), OwnB W w A c [] → DgC w g ds → (Value.slice A 0 c).ownBlock ≠ some g →
  Calls Tryz.prog 68 #[.slice A 0 c, .bool false, .slice (some ⟨g, 0, none⟩) 32 32, .int .i64 dp, .int .i64 (nd : Int), .int .i64 ((nd : Int) - 1), .int .u8 101, .bool true] w fun e w' => ∃ A' c', e = .returned (.slice A' T.length c') ∧ OwnB W w' A' c' T
set_option maxRecDepth 100000 in
set_option maxHeartbeats 2000000 in
theorem ft_s (W w : World) (A : Option Addr) (c b q fr mm z X D n nd L : Nat) (ex e1 e2 E dp : Int) (ds T : List UInt8) (HO : Hid (OwnB W w A c [])) (HT : Hid (TabS w))
    (hb63 : (b : Int) / 9223372036854775808 = 0) (hq : (b : Int) / 4503599627370496 = 0) (hqa : bits BinOp.and .i64 0 2047 = 0) (hfr : bits BinOp.and .u64 (b : Int) 4503599627370495 = (fr : Int))
    (hmm : (fr : Int) = (mm : Int)) (hex : (-1022 : Int) = ex) (hm0 : ((mm : Int) == 0) = false)
    (HLn : Hid (Q1 69 (.int .u64 (mm : Int)) (.int .i64 (L : Int)))) (hz : IntKind.i64.wrap (64 - (L : Int)) = (z : Int)) (hX : IntKind.u64.wrap ((mm : Int) * 2 ^ z) = (X : Int)) (z0 : (0 : Int) ≤ (z : Int)) (z64 : (z : Int) ≤ 64)
    (he1 : IntKind.i64.wrap (ex - (z : Int)) = e1) (he2 : IntKind.i64.wrap (e1 - 52) = e2) (HS : Hid (ShQ X D e2 E)) (HN : Hid (NdQ D n)) (HD : Hid (SdQ D n nd E dp ds)) (HF : Hid (FmQ nd dp ds T)) (hnd : IntKind.i64.wrap ((nd : Int) - 1) = (nd : Int) - 1) (hmx : max ((nd : Int) - 1) 0 = (nd : Int) - 1) :
    Calls Tryz.prog 43 #[.slice A 0 c, .float .f64 b, .int .u8 101, .int .i64 (-1)] w fun e w' => ∃ A' c', e = .returned (.slice A' T.length c') ∧ OwnB W w' A' c' T := by
  have hcall : ∀ w : World, (callFunc 65 #[.float .f64 b]).run Tryz.prog w = .ok (.value (.int .u64 (b : Int))) w := fun w => call_bits64 b w
  obtain rfl : fr = mm := Int.ofNat.inj hmm
  subst hex
  have HNE : Hid ((Value.slice A 0 c).ownBlock ≠ some w.heap.size) := fun e => Nat.lt_irrefl _ (HO.out.1.lt w.heap.size e).2
  go_enter Tryz.func43, Tryz.ntmps43
  go_wp2_with fail
  go_region
  go_wp2_with fail
  have HV : Hid (Below w.heap.size w (w.alloc (.cells zrs32 94)).drew) := ((Below.refl _ _).alloc (Nat.le_refl _) _).drew
  have HK : Hid (Blk (w.alloc (.cells zrs32 94)).drew w.heap.size 94 zrs32) := (Blk.new w _ _).drew
  have HV' : Hid (w.heap.size < (w.alloc (.cells zrs32 94)).drew.heap.size) := HK.out.lt
  change Calls _ _ _ (w.alloc (.cells zrs32 94)).drew _
  generalize (w.alloc (.cells zrs32 94)).drew = V at *
  have HTV := Lib.hid (HT.out.below HV.out)
  refine (HLn.out _).mono ?_; rintro e w1 ⟨rfl, rfl⟩
  go_wp2_with fail
  refine (HS.out V HTV.out).mono ?_; rintro e w2 ⟨rfl, hb2⟩
  have HT2 := Lib.hid (HTV.out.below hb2)
  have HK2 := Lib.hid (HK.out.below hb2 HV'.out)
  have HB2 := Lib.hid (HV.out.trans (hb2.mono (Nat.le_of_lt HV'.out)))
  clear hb2
  go_wp2_with fail
  have HN2 := Lib.hid (HN.out w2.drew (HT2.out.below ((Below.refl _ _).drew)))
  have HS2 := Lib.hid (HD.out w.heap.size w2.drew HK2.out.drew)
  have HG2 : Hid (w.heap.size < w2.heap.size) := HK2.out.lt
  go_region_with (first
    | (go_at_call 72; (with_reducible refine HN2.out.mono ?_); rintro e w3 ⟨rfl, rfl⟩)
    | (go_at_call 71; (with_reducible refine HS2.out.mono ?_); rintro e w3 ⟨rfl, k3, hb3⟩))
  all_goals
    have hB3 : Below w.heap.size w w3 := HB2.out.drew.trans hb3
    have HO3 : Hid (OwnB W w3 A c []) := ⟨own_below HO.out.1 hB3, HO.out.2.trans (hB3.mono HO.out.2.size)⟩
    have HG3 : Hid (DgC w3 w.heap.size ds) := ⟨Nat.lt_of_lt_of_le HG2.out (show w2.drew.heap.size ≤ w3.heap.size from hb3.size), k3⟩
    have HF3 := Lib.hid (HF.out W w3 A c w.heap.size HO3.out HG3.out HNE.out)
    clear hb3 hB3 HN2 HS2 HB2 HV HV' HTV HT HT2 HO HF HG2
    go_wp2_with fail
    refine HF3.out.mono ?_; rintro e w4 ⟨A4, c4, rfl, ho4⟩
    have HO4 := Lib.hid ho4
    clear ho4
    go_wp2
    go_ret
    exact ⟨_, _, rfl, HO4.out⟩
set_option maxRecDepth 100000 in
set_option maxHeartbeats 2000000 in
theorem ft_n (W w : World) (A : Option Addr) (c b q fr mm z X D n nd L : Nat) (ex e1 e2 E dp : Int) (ds T : List UInt8) (HO : Hid (OwnB W w A c [])) (HT : Hid (TabS w))
    (hb63 : (b : Int) / 9223372036854775808 = 0) (hq : (b : Int) / 4503599627370496 = (q : Int)) (hqw : IntKind.i64.wrap (q : Int) = (q : Int)) (hqa : bits BinOp.and .i64 (q : Int) 2047 = (q : Int)) (hfr : bits BinOp.and .u64 (b : Int) 4503599627370495 = (fr : Int)) (hq1 : ((q : Int) == 2047) = false)
    (q0 : ¬ q = 0) (hmm : bits BinOp.or .u64 (fr : Int) 4503599627370496 = (mm : Int)) (hex : IntKind.i64.wrap ((q : Int) + -1023) = ex) (hm0 : ((mm : Int) == 0) = false)
    (HLn : Hid (Q1 69 (.int .u64 (mm : Int)) (.int .i64 (L : Int)))) (hz : IntKind.i64.wrap (64 - (L : Int)) = (z : Int)) (hX : IntKind.u64.wrap ((mm : Int) * 2 ^ z) = (X : Int)) (z0 : (0 : Int) ≤ (z : Int)) (z64 : (z : Int) ≤ 64)
    (he1 : IntKind.i64.wrap (ex - (z : Int)) = e1) (he2 : IntKind.i64.wrap (e1 - 52) = e2) (HS : Hid (ShQ X D e2 E)) (HN : Hid (NdQ D n)) (HD : Hid (SdQ D n nd E dp ds)) (HF : Hid (FmQ nd dp ds T)) (hnd : IntKind.i64.wrap ((nd : Int) - 1) = (nd : Int) - 1) (hmx : max ((nd : Int) - 1) 0 = (nd : Int) - 1) :
    Calls Tryz.prog 43 #[.slice A 0 c, .float .f64 b, .int .u8 101, .int .i64 (-1)] w fun e w' => ∃ A' c', e = .returned (.slice A' T.length c') ∧ OwnB W w' A' c' T := by
  have hcall : ∀ w : World, (callFunc 65 #[.float .f64 b]).run Tryz.prog w = .ok (.value (.int .u64 (b : Int))) w := fun w => call_bits64 b w
  have q0' : ((q : Int) == 0) = false := by rw [beq_eq_false_iff_ne]; omega
  have HNE : Hid ((Value.slice A 0 c).ownBlock ≠ some w.heap.size) := fun e => Nat.lt_irrefl _ (HO.out.1.lt w.heap.size e).2
  go_enter Tryz.func43, Tryz.ntmps43
  go_wp2_with fail
  go_region
  go_wp2_with fail
  have HV : Hid (Below w.heap.size w (w.alloc (.cells zrs32 94)).drew) := ((Below.refl _ _).alloc (Nat.le_refl _) _).drew
  have HK : Hid (Blk (w.alloc (.cells zrs32 94)).drew w.heap.size 94 zrs32) := (Blk.new w _ _).drew
  have HV' : Hid (w.heap.size < (w.alloc (.cells zrs32 94)).drew.heap.size) := HK.out.lt
  change Calls _ _ _ (w.alloc (.cells zrs32 94)).drew _
  generalize (w.alloc (.cells zrs32 94)).drew = V at *
  have HTV := Lib.hid (HT.out.below HV.out)
  refine (HLn.out _).mono ?_; rintro e w1 ⟨rfl, rfl⟩
  go_wp2_with fail
  refine (HS.out V HTV.out).mono ?_; rintro e w2 ⟨rfl, hb2⟩
  have HT2 := Lib.hid (HTV.out.below hb2)
  have HK2 := Lib.hid (HK.out.below hb2 HV'.out)
  have HB2 := Lib.hid (HV.out.trans (hb2.mono (Nat.le_of_lt HV'.out)))
  clear hb2
  go_wp2_with fail
  have HN2 := Lib.hid (HN.out w2.drew (HT2.out.below ((Below.refl _ _).drew)))
  have HS2 := Lib.hid (HD.out w.heap.size w2.drew HK2.out.drew)
  have HG2 : Hid (w.heap.size < w2.heap.size) := HK2.out.lt
  go_region_with (first
    | (go_at_call 72; (with_reducible refine HN2.out.mono ?_); rintro e w3 ⟨rfl, rfl⟩)
    | (go_at_call 71; (with_reducible refine HS2.out.mono ?_); rintro e w3 ⟨rfl, k3, hb3⟩))
  all_goals
    have hB3 : Below w.heap.size w w3 := HB2.out.drew.trans hb3
    have HO3 : Hid (OwnB W w3 A c []) := ⟨own_below HO.out.1 hB3, HO.out.2.trans (hB3.mono HO.out.2.size)⟩
    have HG3 : Hid (DgC w3 w.heap.size ds) := ⟨Nat.lt_of_lt_of_le HG2.out (show w2.drew.heap.size ≤ w3.heap.size from hb3.size), k3⟩
    have HF3 := Lib.hid (HF.out W w3 A c w.heap.size HO3.out HG3.out HNE.out)
    clear hb3 hB3 HN2 HS2 HB2 HV HV' HTV HT HT2 HO HF HG2
    go_wp2_with fail
    refine HF3.out.mono ?_; rintro e w4 ⟨A4, c4, rfl, ho4⟩
    have HO4 := Lib.hid ho4
    clear ho4
    go_wp2
    go_ret
    exact ⟨_, _, rfl, HO4.out⟩
theorem max_pred {n : Nat} (h : 0 < n) : max ((n : Int) - 1) 0 = (n : Int) - 1 := by omega
theorem and2047 (q : Nat) (h : q < 2048) : bits BinOp.and .i64 (q : Int) 2047 = (q : Int) := by
  have h1 : (BitVec.ofInt 64 2047).toNat = 2 ^ 11 - 1 := by decide
  have key : (BitVec.ofInt 64 (q : Int) &&& BitVec.ofInt 64 2047).toNat = ((q : Int) % ((2 ^ 64 : Nat) : Int)).toNat % 2 ^ 11 := by
    rw [BitVec.toNat_and, BitVec.toNat_ofInt, h1, Nat.and_two_pow_sub_one_eq_mod]
  show IntKind.i64.wrap ((BitVec.ofInt 64 (q : Int) &&& BitVec.ofInt 64 2047).toNat : Nat) = _
  rw [key, IntKind.wrap_i64]
  omega
theorem fr_and (m : Nat) (h : m < 18446744073709551616) : bits BinOp.and .u64 (m : Int) 4503599627370495 = ((m % 4503599627370496 : Nat) : Int) := by
  have := u64_and_nat m 4503599627370495 h (by decide)
  rw [show ((4503599627370495 : Nat) : Int) = 4503599627370495 from rfl] at this
  rw [this, show 4503599627370495 = 2 ^ 52 - 1 from rfl, Nat.and_two_pow_sub_one_eq_mod]
theorem fr_or (f : Nat) (h : f < 4503599627370496) : bits BinOp.or .u64 (f : Int) 4503599627370496 = ((f + 4503599627370496 : Nat) : Int) := by
  have := u64_or_nat f 4503599627370496 (by omega) (by decide)
  rw [show ((4503599627370496 : Nat) : Int) = 4503599627370496 from rfl] at this
  rw [this, Nat.or_comm]
  have e := Nat.two_pow_add_eq_or_of_lt (i := 52) (b := f) h 1
  rw [show 2 ^ 52 * 1 = 4503599627370496 from rfl] at e
  rw [← e, Nat.add_comm]
theorem dM_lt {m z : Nat} (h1 : m < 9218868437227405312) (h0 : 0 < m) (hz1 : 11 ≤ z) (hz2 : z ≤ 63) (hM : mman m * 2 ^ z < 18446744073709551616) : dM m z < 18446744073709551616 := by
  have hm1 := mman_one h0
  have hm2 := mman_hi m
  have hdl := dlM_12 m
  obtain ⟨eX, eL, eH⟩ := sh_parts (m := m) hz1
  have hHM : (4 * mman m + 2) * 2 ^ (z - 2) < 18446744073709551616 := by
    have hlt : mman m < 2 ^ (64 - z) := by
      refine Nat.lt_of_mul_lt_mul_right (a := 2 ^ z) ?_
      rw [← Nat.pow_add, show 64 - z + z = 64 from by omega]
      exact hM
    have h2 : (mman m + 1) * 2 ^ z ≤ 2 ^ (64 - z) * 2 ^ z := Nat.mul_le_mul_right _ hlt
    rw [← Nat.pow_add, show 64 - z + z = 64 from by omega] at h2
    have e5 : (mman m + 1) * 2 ^ z = (4 * mman m + 2) * 2 ^ (z - 2) + 2 * 2 ^ (z - 2) := by
      rw [show 2 ^ z = 4 * 2 ^ (z - 2) from by rw [show (4 : Nat) = 2 ^ 2 from rfl, ← Nat.pow_add]; congr 1; omega, ← Nat.add_mul, Nat.add_assoc, show 4 * mman m + (2 + 2) = 4 * (mman m + 1) from by omega]
      ac_rfl
    have : (2 : Nat) ^ 64 = 18446744073709551616 := rfl
    have hP0 : 0 < 2 ^ (z - 2) := Nat.pow_pos (by decide)
    omega
  have hLM : (4 * mman m - dlM m) * 2 ^ (z - 2) < 18446744073709551616 := Nat.lt_of_le_of_lt (Nat.mul_le_mul_right _ (by omega)) hHM
  have hXM : 4 * mman m * 2 ^ (z - 2) < 18446744073709551616 := by rw [← eX]; exact hM
  have uL : uAt m z (xLo m z) < 4611686018427387904 := by rw [eL]; exact uAt_lt h1 hz1 hz2 (by omega) hLM (by omega)
  have uH : uAt m z (xHi m z) < 4611686018427387904 := by rw [eH]; exact uAt_lt h1 hz1 hz2 (by omega) hHM (by omega)
  have uX : uAt m z (mman m * 2 ^ z) < 4611686018427387904 := by rw [eX]; exact uAt_lt h1 hz1 hz2 (by omega) hXM (by omega)
  unfold dM aM bM
  split
  · omega
  · split
    · omega
    · omega
/-- A rung's text in the form 'e'. -/
noncomputable def shT (m : Nat) : List UInt8 := eTxt (shortM m).1 (shortM m).2
theorem shortM_bds {m : Nat} (h0 : 0 < m) (h1 : m < 9218868437227405312) : -400 ≤ (shortM m).2 ∧ (shortM m).2 ≤ 400 ∧ lenD (shortM m).1 ≤ 20 := by
  obtain ⟨z1, z2, z3, z4, z5, z6⟩ := zM_facts h0 h1
  obtain ⟨hs, hd0⟩ := short_law h0 h1 z1 z2 z5
  have hk := kOkM h1
  have k1 := hk.p1
  have k2 := hk.p2
  have hdl := dM_lt h1 h0 z1 z2 z5
  have hl1 := lenD_pos (dM m (zM m))
  have hl2 := lenD_20 hdl
  have he : eM m (zM m) = 1 - pM m ∨ eM m (zM m) = -pM m := by unfold eM; split <;> omega
  rw [hs]
  exact ⟨by simp only; omega, by simp only; omega, lenD_20 (Nat.lt_of_le_of_lt (stripD_le _) hdl)⟩
set_option maxRecDepth 100000 in
set_option maxHeartbeats 1000000 in
theorem c_ftoaI (W w : World) (A : Option Addr) (c m : Nat) (h0 : 0 < m) (h1 : m < 9218868437227405312) (ho : OwnB W w A c []) (ht : TabS w) :
    Calls Tryz.prog 43 #[.slice A 0 c, .float .f64 m, .int .u8 101, .int .i64 (-1)] w fun e w' => ∃ A' c', e = .returned (.slice A' (shT m).length c') ∧ OwnB W w' A' c' (shT m) := by
  obtain ⟨z1, z2, z3, z4, z5, z6⟩ := zM_facts h0 h1
  obtain ⟨hs, hd0⟩ := short_law h0 h1 z1 z2 z5
  have hbd := shortM_bds h0 h1
  have hk := kOkM h1
  have k1 := hk.p1
  have k2 := hk.p2
  have hdl := dM_lt h1 h0 z1 z2 z5
  have hl1 := lenD_pos (dM m (zM m))
  have hl2 := lenD_20 hdl
  have hn1 := lenD_pos (stripD (dM m (zM m)))
  have he : eM m (zM m) = 1 - pM m ∨ eM m (zM m) = -pM m := by unfold eM; split <;> omega
  unfold shT
  rw [hs] at hbd ⊢
  simp only at hbd ⊢
  have hm1 := mman_one h0
  have hm2 := mman_hi m
  have hkb1 : -1074 ≤ mexp m := (mexp_bd (m := m) (by omega)).1
  have hkb2 : mexp m ≤ 971 := by unfold mexp; split <;> omega
  have HS : Hid (ShQ (mman m * 2 ^ zM m) (dM m (zM m)) (mexp m - (zM m : Int)) (eM m (zM m))) := fun V hV => c_shortI m (zM m) h0 h1 z1 z2 z3 z4 z5 V hV
  have HN : Hid (NdQ (dM m (zM m)) (lenD (dM m (zM m)))) := fun V hV => c_numdI _ hd0 hdl V hV.tab
  have HD : Hid (SdQ (dM m (zM m)) (lenD (dM m (zM m))) (lenD (stripD (dM m (zM m)))) (eM m (zM m)) ((lenD (dM m (zM m)) : Nat) + eM m (zM m)) (Lib.decDigits (stripD (dM m (zM m))))) := fun g V hV => c_setDI g _ _ hd0 hdl (by omega) (by omega) V hV
  have HF : Hid (FmQ (lenD (stripD (dM m (zM m)))) ((lenD (dM m (zM m)) : Nat) + eM m (zM m)) (Lib.decDigits (stripD (dM m (zM m)))) (eTxt (stripD (dM m (zM m))) ((lenD (dM m (zM m)) : Nat) + eM m (zM m) - 1))) := fun W w A c g h1 h2 h3 => c_fmtI W w A c g _ _ _ h1 h2 h3 hbd.2.2 (by omega) hbd.1 hbd.2.1
  have HL : Hid (Q1 69 (.int .u64 ((mman m : Nat) : Int)) (.int .i64 ((Lib.bitLen (mman m) : Nat) : Int))) := fun W => (Any.bits_Len64 lays129 ((mman m : Nat) : Int) W (by omega) (by omega)).mono fun _ _ h => ⟨by rw [h.1]; rfl, h.2.symm⟩
  have hz : IntKind.i64.wrap (64 - ((Lib.bitLen (mman m) : Nat) : Int)) = ((zM m : Nat) : Int) := by rw [IntWalk.i64_in _ (by omega)]; omega
  have hX : IntKind.u64.wrap (((mman m : Nat) : Int) * 2 ^ zM m) = ((mman m * 2 ^ zM m : Nat) : Int) := by
    rw [show ((mman m : Nat) : Int) * 2 ^ zM m = ((mman m * 2 ^ zM m : Nat) : Int) from by rw [Int.natCast_mul, Int.natCast_pow]; rfl, IntKind.wrap_u64]
    omega
  have hnd : IntKind.i64.wrap (((lenD (stripD (dM m (zM m))) : Nat) : Int) - 1) = ((lenD (stripD (dM m (zM m))) : Nat) : Int) - 1 := IntWalk.i64_in _ (by omega)
  have hmx : max (((lenD (stripD (dM m (zM m))) : Nat) : Int) - 1) 0 = ((lenD (stripD (dM m (zM m))) : Nat) : Int) - 1 := max_pred hn1
  by_cases hm : m < 4503599627370496
  · have hme : mexp m = -1074 := by unfold mexp; rw [if_pos hm]
    have hmm : mman m = m := by unfold mman; rw [if_pos hm]
    refine ft_s W w A c m 0 (m % 4503599627370496) (mman m) _ _ _ _ _ _ (-1022) (-1022 - (zM m : Int)) _ _ _ _ _ (Lib.hid ho) (Lib.hid ht) (by omega) (by omega) (and2047 0 (by omega)) (fr_and m (by omega)) (by rw [hmm]; omega) rfl (by rw [beq_eq_false_iff_ne]; omega) HL hz hX (by omega) (by omega) (IntWalk.i64_in _ (by omega)) ?_ HS HN HD HF hnd hmx
    rw [IntWalk.i64_in _ (by omega)]; omega
  · have hme : mexp m = (m / 4503599627370496 : Nat) - 1075 := by unfold mexp; rw [if_neg hm]
    have hmm : mman m = m % 4503599627370496 + 4503599627370496 := by unfold mman; rw [if_neg hm]
    refine ft_n W w A c m (m / 4503599627370496) (m % 4503599627370496) (mman m) _ _ _ _ _ _ (mexp m + 52) (mexp m + 52 - (zM m : Int)) _ _ _ _ _ (Lib.hid ho) (Lib.hid ht) (by omega) (by omega) (IntWalk.i64_in _ (by omega)) (and2047 _ (by omega)) (fr_and m (by omega)) (by rw [beq_eq_false_iff_ne]; omega) (by omega) (by rw [hmm]; exact fr_or _ (by omega)) (by rw [IntWalk.i64_in _ (by omega)]; omega) (by rw [beq_eq_false_iff_ne]; omega) HL hz hX (by omega) (by omega) (IntWalk.i64_in _ (by omega)) ?_ HS HN HD HF hnd hmx
    rw [IntWalk.i64_in _ (by omega)]; omega
set_option maxRecDepth 100000 in
theorem c_iFFI (m : Nat) (h0 : 0 < m) (h1 : m < 9218868437227405312) (w : World) (ht : TabS w) :
    Calls Tryz.prog 20 #[.float .f64 m, .int .u8 101, .int .i64 (-1), .int .i64 64] w fun e w' => e = .returned (bstr (shT m)) ∧ Below w.heap.size w w' := by
  obtain ⟨i0, hi0, hz0, hz1, hz2⟩ := info_parts u8_info
  obtain ⟨w1, hmk, ho1, hg1⟩ := run_makeSlice_owned (P := Tryz.prog) w w.heap.size 49 5 i0 _ 1 Tryz.underlying49 hi0 hz0 hz1 .i64 .i64 24 (by decide) (by rw [hz2]; decide) (by decide) (Nat.le_refl _)
  replace hmk : (Instr.makeSlice 49 (.int .i64 0) (.int .i64 24)).run Tryz.prog w = .ok (.slice (some ⟨w.heap.size, 0, none⟩) 0 24) w1 := hmk
  have e24 : max (3 : Int) 24 = 24 := by decide
  have HB1 := Lib.hid (below_of_grown hg1)
  have HF := Lib.hid (c_ftoaI w w1 (some ⟨w.heap.size, 0, none⟩) 24 m h0 h1 ⟨ho1, HB1.out⟩ (ht.below HB1.out))
  clear ht ho1 hg1 hz0 hz1 hz2 h0 h1
  generalize shT m = T at *
  go_enter Tryz.func20, Tryz.ntmps20
  go_wp2_with fail
  refine HF.out.mono ?_; rintro e w2 ⟨A2, c2, rfl, ho2⟩
  have hcv : (convert 49 9 (.slice A2 T.length c2)).run Tryz.prog w2 = .ok (bstr T) w2 := conv_bys (l := T) ho2.1
  have HB2 := Lib.hid ho2.2
  clear ho2
  go_wp2
  go_ret
  exact ⟨rfl, HB2.out⟩
theorem c_FFI (m : Nat) (h0 : 0 < m) (h1 : m < 9218868437227405312) (w : World) (ht : TabS w) :
    Calls Tryz.prog 8 #[.float .f64 m, .int .u8 101, .int .i64 (-1), .int .i64 64] w fun e w' => e = .returned (bstr (shT m)) ∧ Below w.heap.size w w' := by
  have HF := Lib.hid (c_iFFI m h0 h1 w ht)
  clear h0 h1 ht
  generalize shT m = T at *
  go_enter Tryz.func8, Tryz.ntmps8
  go_wp2_with fail
  refine HF.out.mono ?_; rintro e w2 ⟨rfl, hb⟩
  have HB := Lib.hid hb
  go_wp2
  go_ret
  exact ⟨rfl, HB.out⟩
end Go.Proofs.YthoifpapdefheaaGreatDoor
