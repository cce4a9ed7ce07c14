/- Walk of a line's reader: a tagged line (reader.tagged). Conditions: lengths within the reach; the library's two errors as laid. -/
import Derived.Test.YtmnkdkibhchglaaGreatDoorTk
import Derived.BigRegion
namespace Go.Proofs.YtmnkdkibhchglaaGreatDoor
open Go.RowKit
set_option linter.unusedVariables false
attribute [local go_sem ↓] Go.wp_at_zero Go.wp_at_succ

/-- What a reader's end is: a fault at a place, or an entry in the reader. -/
def Tail (w w' : World) (b : Nat) (s : ByteArray) (mk : Bool) (x : Value) : Nat ⊕ Sm → Prop
  | .inl j => FltE w' w.heap.size x j
  | .inr e => x = .nilIface ∧ ∃ j A c, Blk w' b 69 (rdC s j mk e.a e.nm A e.dg.length c e.st) ∧ w'.ownsRow w.heap.size 5 1 (.slice A e.dg.length c) e.dg.length (bys e.dg)
theorem Tail.ok {w w' : World} {b : Nat} {s : ByteArray} {mk : Bool} (e : Sm) {j c : Nat} {A : Option Addr} (h1 : Blk w' b 69 (rdC s j mk e.a e.nm A e.dg.length c e.st)) (h2 : w'.ownsRow w.heap.size 5 1 (.slice A e.dg.length c) e.dg.length (bys e.dg)) : Tail w w' b s mk .nilIface (.inr e) := ⟨rfl, j, A, c, h1, h2⟩
theorem c_LastIndex (s : ByteArray) (hs : s.size ≤ 1000000) (w : World) : Calls Tryz.prog 65 #[.string s, .string ⟨#[41, 32, 61, 32]⟩] w fun e w' => e = .returned (.int .i64 (Lib.lastIndex s.data.toList [41, 32, 61, 32])) ∧ w' = w :=
  Any.strings_LastIndex lays148 s ⟨#[41, 32, 61, 32]⟩ (by omega) w
theorem lastIndex_le (s : ByteArray) : Lib.lastIndex s.data.toList [41, 32, 61, 32] = -1 ∨ ∃ k : Nat, Lib.lastIndex s.data.toList [41, 32, 61, 32] = (k : Int) ∧ k + 4 ≤ s.size := by
  unfold Lib.lastIndex
  have hl : s.data.toList.length = s.size := rfl
  split
  · rename_i h
    have h4 : ([41, 32, 61, 32] : List UInt8).length = 4 := rfl
    rcases Lib.lastOcc_spec s.data.toList [41, 32, 61, 32] (s.data.toList.length - ([41, 32, 61, 32] : List UInt8).length + 1) with ⟨e, _⟩ | ⟨i, hi, e, _⟩
    · exact .inl e
    · exact .inr ⟨i, e, by omega⟩
  · exact .inl rfl
/-- The step behind the bits, by its cases. -/
theorem okB_some {s : ByteArray} {i : Nat} {x : UInt8} : okB s ⟨#[x]⟩ i = decide (s.data.toList[i]? = some x) := by
  unfold okB
  cases s.data.toList[i]? with
  | none => rfl
  | some c =>
    show [x].contains c = _
    by_cases h : c = x <;> simp [h]
theorem okB_get {s : ByteArray} {i : Nat} {x : UInt8} (h : okB s ⟨#[x]⟩ i = true) : s.data.toList[i]? = some x := by rw [okB_some, decide_eq_true_eq] at h; exact h
theorem okB_not {s : ByteArray} {i : Nat} {x : UInt8} (h : okB s ⟨#[x]⟩ i = false) : s.data.toList[i]? ≠ some x := by rw [okB_some, decide_eq_false_iff_not] at h; exact h
theorem okB_lt {s ch : ByteArray} {i : Nat} (h : okB s ch i = true) : i < s.size := by
  rcases Nat.lt_or_ge i s.size with h1 | h1
  · exact h1
  · rw [okB_out h1] at h; cases h
section
variable {s : ByteArray} {j n e : Nat} {a : Int} {mk : Bool} {nm : List UInt8}
theorem tail_1 (h : okB s ⟨#[32]⟩ j = false) : tailS s j n a mk = .inl j := by unfold tailS; rw [if_pos (okB_not h)]
theorem tail_2 (h : okB s ⟨#[32]⟩ j = true) (h2 : okB s ⟨#[40]⟩ (j + 1) = false) : tailS s j n a mk = .inl (j + 1) := by
  unfold tailS; rw [if_neg (by rw [okB_get h]; simp), if_pos (okB_not h2)]
theorem tail_3 (h : okB s ⟨#[32]⟩ j = true) (h2 : okB s ⟨#[40]⟩ (j + 1) = true) (h3 : Lib.lastIndex s.data.toList [41, 32, 61, 32] < (j + 2 : Nat)) : tailS s j n a mk = .inl s.size := by
  unfold tailS; rw [if_neg (by rw [okB_get h]; simp), if_neg (by rw [okB_get h2]; simp), if_pos h3]
theorem tail_4 (h : okB s ⟨#[32]⟩ j = true) (h2 : okB s ⟨#[40]⟩ (j + 1) = true) (h3 : Lib.lastIndex s.data.toList [41, 32, 61, 32] = (e : Int)) (he : j + 2 ≤ e) (h4 : nmS mk (s.extract (j + 2) e) = none) : tailS s j n a mk = .inl (j + 2) := by
  unfold tailS; rw [if_neg (by rw [okB_get h]; simp), if_neg (by rw [okB_get h2]; simp), if_neg (by omega), h3, Int.toNat_natCast, h4]
theorem tail_5 (h : okB s ⟨#[32]⟩ j = true) (h2 : okB s ⟨#[40]⟩ (j + 1) = true) (h3 : Lib.lastIndex s.data.toList [41, 32, 61, 32] = (e : Int)) (he : j + 2 ≤ e) (h4 : nmS mk (s.extract (j + 2) e) = some nm)
    (h5 : hexN s (e + 4) ≠ 2 * n ∨ e + 4 + hexN s (e + 4) < s.size) : tailS s j n a mk = .inl (e + 4 + min (hexN s (e + 4)) (2 * n)) := by
  unfold tailS; rw [if_neg (by rw [okB_get h]; simp), if_neg (by rw [okB_get h2]; simp), if_neg (by omega), h3, Int.toNat_natCast, h4]; dsimp only; rw [if_pos h5]
theorem tail_6 (h : okB s ⟨#[32]⟩ j = true) (h2 : okB s ⟨#[40]⟩ (j + 1) = true) (h3 : Lib.lastIndex s.data.toList [41, 32, 61, 32] = (e : Int)) (he : j + 2 ≤ e) (h4 : nmS mk (s.extract (j + 2) e) = some nm)
    (h5 : ¬ (hexN s (e + 4) ≠ 2 * n ∨ e + 4 + hexN s (e + 4) < s.size)) : tailS s j n a mk = .inr ⟨a, ⟨nm.toArray⟩, uhp ((s.data.toList.drop (e + 4)).take (hexN s (e + 4))), false⟩ := by
  unfold tailS; rw [if_neg (by rw [okB_get h]; simp), if_neg (by rw [okB_get h2]; simp), if_neg (by omega), h3, Int.toNat_natCast, h4]; dsimp only; rw [if_neg h5]
end
theorem FltE.base {w : World} {B B' : Nat} {x : Value} {j : Nat} (h : FltE w B x j) (hB : B' ≤ B) : FltE w B' x j := by
  obtain ⟨F, h1, h2, h3⟩ := h
  exact ⟨F, h1, by omega, h3⟩
set_option maxRecDepth 100000 in
set_option maxHeartbeats 16000000 in
theorem c_tagged (s : ByteArray) (i b : Nat) (mk : Bool) (a : Int) (n c : Nat) (w : World) (hB : Blk w b 69 (rdC s i mk a ⟨#[]⟩ none n c false)) (hs : s.size ≤ 1000000) (hi : i + (swrd a).length ≤ s.size) (he : Errs w) (hb6 : 6 < b) :
    Calls Tryz.prog 42 #[.pointer (some ⟨b, 0, none⟩)] w fun e w' => ∃ x, e = .returned x ∧ w.grownBy w' (some b) ∧ Tail w w' b s mk x (tggS s (i + (swrd a).length) a mk) := by
  have HK := Lib.hid hB
  have hbl := hB.lt
  have HER := Lib.hid he
  clear hB he
  have k3 := HK.out.cell 3
  have HO := Lib.hid (fun W => c_of a W)
  have hmost : smost a ≤ 64 := by unfold smost; split; omega; split <;> omega
  have HT0 : Hid (tggS s (i + (swrd a).length) a mk = match bitS s (i + (swrd a).length) (smost a) with | .inl j => .inl j | .inr (j, n) => tailS s j n a mk) := rfl
  generalize tggS s (i + (swrd a).length) a mk = R at *
  have hlen : (⟨(swrd a).toArray⟩ : ByteArray).size = (swrd a).length := rfl
  unfold wayV at HO
  generalize swrd a = l at *
  generalize smost a = M at *
  generalize skind a = K at *
  generalize decide (a = 3 ∨ a = 4) = dl at *
  have gW : IntKind.i64.wrap ((i : Int) + (l.length : Int)) = (i : Int) + (l.length : Int) := by rw [IntKind.wrap_i64]; omega
  go_enter Tryz.func42, Tryz.ntmps42
  go_wp2_with fail
  refine (HO.out _).mono ?_
  rintro e w1 ⟨rfl, hb1⟩
  have HK1 := Lib.hid (HK.out.below hb1 hbl)
  have HG1 : Hid (w.grownBy w1 (some b)) := only_of_below hb1 _
  have hb1' := HK1.out.lt
  have hs1 := hb1.size
  clear hb1 k3 HK
  go_wp2_with fail
  have HW2 := Lib.hid (Blk.new w1 40 #[.string ⟨l.toArray⟩, .int .i64 (M : Int), .int .i64 K, .bool dl])
  have HK2 := Lib.hid (HK1.out.alloc (.cells #[.string ⟨l.toArray⟩, .int .i64 (M : Int), .int .i64 K, .bool dl] 40))
  have HG2 : Hid (w.grownBy (w1.alloc (.cells #[.string ⟨l.toArray⟩, .int .i64 (M : Int), .int .i64 K, .bool dl] 40)) (some b)) := only_alloc HG1.out _
  clear HK1 HG1
  generalize w1.alloc (.cells #[.string ⟨l.toArray⟩, .int .i64 (M : Int), .int .i64 K, .bool dl] 40) = w2 at *
  have c1 : w2.cell? ⟨b, 1, none⟩ = some (.int .i64 (i : Int)) := HK2.out.cell 1
  have f1 := HK2.out.frozen 1
  have y0 : w2.cell? ⟨w1.heap.size, 0, none⟩ = some (.string ⟨l.toArray⟩) := HW2.out.cell 0
  go_region
  generalize hw3 : (w2.setCell ⟨b, 1, none⟩ (.int .i64 ((i : Int) + (l.length : Int)))).drew = w3 at *
  have HK3 : Hid (Blk w3 b 69 (rdC s (i + l.length) mk a ⟨#[]⟩ none n c false)) := by rw [← hw3]; exact (HK2.out.set_ 1 _).drew
  have HG3 : Hid (w.grownBy w3 (some b)) := by rw [← hw3]; exact only_drew (only_setCell HG2.out (.inl rfl) _)
  have y1 : w3.cell? ⟨w1.heap.size, 1, none⟩ = some (.int .i64 (M : Int)) := by rw [← hw3]; exact ((HW2.out.far (p := ⟨b, 1, none⟩) (by show w1.heap.size ≠ b; omega) _).drew).cell 1
  have HB := Lib.hid (c_bits s (i + l.length) b M hmost mk a ⟨#[]⟩ none n c false w3 HK3.out hs hi (HER.out.grown HG3.out (fun _ h => by injection h with h; omega)) hb6)
  have HLE := Lib.hid (fun j n h => bitS_le (s := s) (i := i + l.length) (most := M) (j := j) (n := n) hi h)
  have hz3 : w.heap.size ≤ w3.heap.size := HG3.out.size
  clear hw3 HK2 HG2 HW2 c1 f1 y0 HO gW
  generalize i + l.length = j0 at *
  go_wp2_with fail
  refine HB.out.mono ?_
  rintro e w4 ⟨v, x, rfl, hg4, hcase⟩
  have HG4 : Hid (w.grownBy w4 (some b)) := only_trans HG3.out hg4
  have hz4 : w.heap.size ≤ w4.heap.size := HG4.out.size
  clear HB y1 HK3 hg4
  rcases hcase with ⟨j, k, hbs, rfl, rfl, hK4⟩ | ⟨j, hbs, hflt⟩
  case inr =>
    have HR : Hid (R = .inl j) := by show _ = _; rw [HT0.out, hbs]
    have HF : Hid (FltE w4 w.heap.size x j) := hflt.base hz3
    clear hflt HT0 HLE
    obtain ⟨F, rfl, hF1, hF2⟩ := HF.out
    clear hF1 hF2
    go_wp2_with fail
    go_ret
    exact ⟨_, rfl, HG4.out, by rw [HR.out]; exact HF.out⟩
  have hT1 : R = tailS s j k a mk := by rw [HT0.out, hbs]
  have hle := HLE.out j k hbs
  have HK4 := Lib.hid hK4
  have HT := Lib.hid hT1
  obtain ⟨_, hjs, hkM⟩ := hle
  have HM := Lib.hid (c_must s ⟨#[32]⟩ j b mk a ⟨#[]⟩ none n c false w4 hK4 hs hjs)
  clear hK4 hT1 HT0 HLE hbs HG3 hz3
  go_wp2_with fail
  refine HM.out.mono ?_
  rintro e w5 ⟨x5, rfl, hg5, hcase⟩
  have HG5 : Hid (w.grownBy w5 (some b)) := only_trans HG4.out hg5
  have hz5 : w.heap.size ≤ w5.heap.size := HG5.out.size
  clear HM HK4 hg5
  rcases hcase with ⟨hok, rfl, hK5⟩ | ⟨hok, hflt⟩
  case inr =>
    have HR : Hid (R = .inl j) := by show _ = _; rw [HT.out]; exact tail_1 hok
    have HF : Hid (FltE w5 w.heap.size x5 j) := hflt.base hz4
    clear hflt HT hok
    obtain ⟨F, rfl, hF1, hF2⟩ := HF.out
    clear hF1 hF2
    go_wp2_with fail
    go_ret
    exact ⟨_, rfl, HG5.out, by rw [HR.out]; exact HF.out⟩
  have hjs1 := okB_lt hok
  have HOK1 := Lib.hid hok
  have HM := Lib.hid (c_must s ⟨#[40]⟩ (j + 1) b mk a ⟨#[]⟩ none n c false w5 hK5 hs hjs1)
  clear hok hK5 hz4 HG4
  go_wp2_with fail
  refine HM.out.mono ?_
  rintro e w6 ⟨x6, rfl, hg6, hcase⟩
  have HG6 : Hid (w.grownBy w6 (some b)) := only_trans HG5.out hg6
  have hz6 : w.heap.size ≤ w6.heap.size := HG6.out.size
  clear HM hg6
  rcases hcase with ⟨hok, rfl, hK6⟩ | ⟨hok, hflt⟩
  case inr =>
    have HR : Hid (R = .inl (j + 1)) := by show _ = _; rw [HT.out]; exact tail_2 HOK1.out hok
    have HF : Hid (FltE w6 w.heap.size x6 (j + 1)) := hflt.base hz5
    clear hflt HT hok
    obtain ⟨F, rfl, hF1, hF2⟩ := HF.out
    clear hF1 hF2
    go_wp2_with fail
    go_ret
    exact ⟨_, rfl, HG6.out, by rw [HR.out]; exact HF.out⟩
  have hjs2 := okB_lt hok
  have HOK2 := Lib.hid hok
  have HK6 : Hid (Blk w6 b 69 (rdC s (j + 2) mk a ⟨#[]⟩ none n c false)) := hK6
  have c0 : w6.cell? ⟨b, 0, none⟩ = some (.string s) := hK6.cell 0
  have c1 : w6.cell? ⟨b, 1, none⟩ = some (.int .i64 ((j + 2 : Nat) : Int)) := HK6.out.cell 1
  have HLI : Hid (∀ W, Calls Tryz.prog 65 #[.string s, .string ⟨#[41, 32, 61, 32]⟩] W fun e w' => e = .returned (.int .i64 (Lib.lastIndex s.data.toList [41, 32, 61, 32])) ∧ W = w') := fun W => (c_LastIndex s hs W).mono fun _ _ ⟨h1, h2⟩ => ⟨h1, h2.symm⟩
  have HLC := Lib.hid (lastIndex_le s)
  have HT3 := Lib.hid (fun h3 => HT.out.trans (tail_3 HOK1.out hok h3))
  have HT4 := Lib.hid (fun e h3 he h4 => HT.out.trans (tail_4 (e := e) HOK1.out hok h3 he h4))
  have HT5 := Lib.hid (fun e nm h3 he h4 h5 => HT.out.trans (tail_5 (e := e) (nm := nm) HOK1.out hok h3 he h4 h5))
  have HT6 := Lib.hid (fun e nm h3 he h4 h5 => HT.out.trans (tail_6 (e := e) (nm := nm) HOK1.out hok h3 he h4 h5))
  clear hok hK6 hz5 HG5 HOK1 HOK2 HT
  generalize hL : Lib.lastIndex s.data.toList [41, 32, 61, 32] = L at *
  have HL := Lib.hid hL
  clear hL
  by_cases hlt : L < ((j + 2 : Nat) : Int)
  · have HR := Lib.hid (HT3.out hlt)
    have HBD := Lib.hid (fun W => c_bad b s.size W)
    clear HT3 HT4 HT5 HT6 HLC
    go_wp2_with (go_at_call 65; refine (HLI.out _).mono ?_; rintro e w7 ⟨rfl, rfl⟩)
    refine (HBD.out _).mono ?_
    rintro e w8 ⟨x, rfl, hx, hb8⟩
    have HX : Hid (FltE w8 w.heap.size x s.size) := hx.base hz6
    have HG8 : Hid (w.grownBy w8 (some b)) := Lib.grownBy_below HG6.out hb8
    clear hx hb8
    go_wp2_with fail
    go_ret
    exact ⟨_, rfl, HG8.out, by rw [HR.out]; exact HX.out⟩
  obtain ⟨e, rfl, he4⟩ : ∃ e : Nat, L = (e : Int) ∧ e + 4 ≤ s.size := by
    rcases HLC.out with h | h
    · exfalso; omega
    · exact h
  have hje : j + 2 ≤ e := by omega
  have hq : ¬ (e : Int) < (j : Int) + 2 := by omega
  have HNM := Lib.hid (fun W (hB : Blk W b 69 (rdC s (j + 2) mk a ⟨#[]⟩ none n c false)) => c_name s (s.extract (j + 2) e) (j + 2) b (j + 2) mk a ⟨#[]⟩ none n c false W hB (by rw [ByteArray.size_extract]; omega))
  have HT4' := Lib.hid (HT4.out e rfl hje)
  have HT5' := Lib.hid (fun nm => HT5.out e nm rfl hje)
  have HT6' := Lib.hid (fun nm => HT6.out e nm rfl hje)
  clear hlt HT3 HT4 HT5 HT6 HLC HL
  have g1 : (0 : Int) ≤ (j : Int) + 2 := by omega
  have g2 : (j : Int) + 2 ≤ (e : Int) := by omega
  have g3 : (e : Int) ≤ (s.size : Int) := by omega
  have ep : ((j + 2 : Nat) : Int) = (j : Int) + 2 := rfl
  go_wp2_with (go_at_call 65; refine (HLI.out _).mono ?_; rintro e w7 ⟨rfl, rfl⟩)
  go_region_held3 (fun V => V.cell? ⟨b, 0, none⟩ = some (.string s) ∧ V.cell? ⟨b, 1, none⟩ = some (.int .i64 ((j + 2 : Nat) : Int))) (first | go_keep | (refine ⟨?_, ?_⟩ <;> assumption)) ((go_at_call 47; refine (HNM.out w6.drew HK6.out.drew).mono ?_; rintro x w8 ⟨x8, rfl, hg8, ⟨nm8, hk8⟩, hcase8⟩; have d0 : w8.cell? ⟨b, 0, none⟩ = some (.string s) := hk8.cell 0; have d1 : w8.cell? ⟨b, 1, none⟩ = some (.int .i64 ((j + 2 : Nat) : Int)) := hk8.cell 1))
  rename _ ∧ _ => hh
  clear hh c0 c1 d0 d1
  have HG8 : Hid (w.grownBy w8 (some b)) := only_trans HG6.out ⟨hg8.os, hg8.tape, hg8.output, hg8.size, hg8.block⟩
  have hz8 : w.heap.size ≤ w8.heap.size := HG8.out.size
  clear hg8 HK6 HNM hk8 HLI
  rcases hcase8 with ⟨y, hy, rfl, hK8⟩ | ⟨hno, hflt⟩
  case inr =>
    have HR := Lib.hid (HT4'.out hno)
    have HF : Hid (FltE w8 w.heap.size x8 (j + 2)) := hflt.base hz6
    clear hflt hno HT4' HT5' HT6'
    obtain ⟨F, rfl, hF1, hF2⟩ := HF.out
    clear hF1 hF2
    go_wp2_with fail
    go_ret
    exact ⟨_, rfl, HG8.out, by rw [HR.out]; exact HF.out⟩
  have HT5 := Lib.hid (HT5'.out y hy)
  have HT6 := Lib.hid (HT6'.out y hy)
  have HK9 : Hid (Blk (w8.setCell ⟨b, 1, none⟩ (.int .i64 ((e + 4 : Nat) : Int))) b 69 (rdC s (e + 4) mk a ⟨y.toArray⟩ none n c false)) := hK8.set_ 1 _
  have HG9 : Hid (w.grownBy (w8.setCell ⟨b, 1, none⟩ (.int .i64 ((e + 4 : Nat) : Int))) (some b)) := only_setCell HG8.out (.inl rfl) _
  have l1 := hK8.cell 1
  have m1 := hK8.frozen 1
  have ee : ((e + 4 : Nat) : Int) = (e : Int) + 4 := rfl
  have HDG := Lib.hid (c_digits s (e + 4) b mk a ⟨y.toArray⟩ none n c false _ HK9.out hs he4)
  have HDI := Lib.hid (fun m hi hm he W hB => c_digest s (e + 4) b m mk a ⟨y.toArray⟩ none n c false W hB hs hi hm he)
  have HHL := Lib.hid (hexN_le s (e + 4))
  clear hK8 hy HT4' HT5' HT6' HG6 hz6 HG8
  have gq : IntKind.i64.wrap ((e : Int) + 4) = (e : Int) + 4 := by rw [IntKind.wrap_i64]; omega
  generalize hH : hexN s (e + 4) = H at *
  have hHL := HHL.out
  rw [ee] at HK9 HG9 HDG
  go_wp2_with fail
  clear l1 m1
  generalize w8.setCell ⟨b, 1, none⟩ (.int .i64 ((e : Int) + 4)) = w9 at *
  refine HDG.out.mono ?_
  rintro ev w10 ⟨rfl, kd, rfl⟩
  have HK10 : Hid (Blk (w9.drewN kd) b 69 (rdC s (e + 4) mk a ⟨y.toArray⟩ none n c false)) := HK9.out.drewN kd
  have HG10 : Hid (w.grownBy (w9.drewN kd) (some b)) := only_drewN HG9.out kd
  clear HK9 HG9 HDG
  generalize w9.drewN kd = w10 at *
  have c0 : w10.cell? ⟨b, 0, none⟩ = some (.string s) := HK10.out.cell 0
  have c1 : w10.cell? ⟨b, 1, none⟩ = some (.int .i64 ((e : Int) + 4)) := HK10.out.cell 1
  go_wp2_with fail
  have gs : IntKind.i64.wrap ((e : Int) + 4 + (H : Int)) = (e : Int) + 4 + (H : Int) := by rw [IntKind.wrap_i64]; omega
  by_cases h1 : H = 2 * k
  · have HH := Lib.hid hH
    clear hH HHL
    subst h1
    have t1 : ((2 * (k : Int)) != 2 * (k : Int)) = false := by simp
    have ek : ((2 * k : Nat) : Int) = 2 * (k : Int) := by omega
    rw [ek] at gs ⊢
    by_cases h2 : e + 4 + 2 * k < s.size
    · have t2 : (e : Int) + 4 + 2 * (k : Int) < (s.size : Int) := by omega
      have HR := Lib.hid (HT5.out (.inr h2))
      have HBD := Lib.hid (fun W => c_bad b (e + 4 + 2 * k) W)
      have hmin : min (2 * k) (2 * k) = 2 * k := by omega
      rw [hmin] at HR
      clear HT5 HT6 HDI hmin
      go_quiet (fail)
      generalize hw12 : w10.drewN nq = w12 at *
      have d1 : w12.cell? ⟨b, 1, none⟩ = some (.int .i64 ((e : Int) + 4)) := by rw [← hw12]; exact c1
      have HG12 : Hid (w.grownBy w12 (some b)) := by rw [← hw12]; exact only_drewN HG10.out nq
      have hz12 : w.heap.size ≤ w12.heap.size := HG12.out.size
      clear hw12 c0 c1
      go_wp2_with fail
      refine (HBD.out _).mono ?_
      rintro ev w13 ⟨x, rfl, hx, hb13⟩
      have HX : Hid (FltE w13 w.heap.size x (e + 4 + 2 * k)) := hx.base hz12
      have HG13 : Hid (w.grownBy w13 (some b)) := Lib.grownBy_below HG12.out hb13
      clear hx hb13
      go_wp2_with fail
      go_ret
      exact ⟨_, rfl, HG13.out, by rw [HR.out]; exact HX.out⟩
    · have t2 : decide ((e : Int) + 4 + 2 * (k : Int) < (s.size : Int)) = false := by rw [decide_eq_false_iff_not]; omega
      have HR := Lib.hid (HT6.out (fun h => by
        rcases h with h | h
        · exact h rfl
        · exact h2 h))
      have HD := Lib.hid (HDI.out (2 * k) (by omega) (Nat.le_refl _) (by omega))
      clear HT5 HT6 HDI
      go_quiet (fail)
      generalize hw12 : w10.drewN nq = w12 at *
      have HK12 : Hid (Blk w12 b 69 (rdC s (e + 4) mk a ⟨y.toArray⟩ none n c false)) := by rw [← hw12]; exact HK10.out.drewN nq
      have HG12 : Hid (w.grownBy w12 (some b)) := by rw [← hw12]; exact only_drewN HG10.out nq
      have hz12 : w.heap.size ≤ w12.heap.size := HG12.out.size
      clear hw12 c0 c1
      go_wp2_with fail
      refine (HD.out w12 HK12.out).mono ?_
      rintro ev w13 ⟨rfl, hg13, A, c', hK13, hO13⟩
      have HG13 : Hid (w.grownBy w13 (some b)) := only_trans HG12.out hg13
      have HF : Hid (Tail w w13 b s mk .nilIface R) := by
        show Tail _ _ _ _ _ _ _
        rw [HR.out]
        exact Tail.ok ⟨a, ⟨y.toArray⟩, _, false⟩ hK13 (own_base hO13 hz12)
      clear hg13 hK13 hO13 HD HK12
      go_wp2_with fail
      go_ret
      exact ⟨_, rfl, HG13.out, HF.out⟩
  · have t1 : ((H : Int) != 2 * (k : Int)) = true := by
      show (!((H : Int) == 2 * (k : Int))) = true
      rw [Bool.not_eq_true', beq_eq_false_iff_ne]; omega
    have HR := Lib.hid (HT5.out (.inl h1))
    have HBD := Lib.hid (fun W => c_bad b (e + 4 + min H (2 * k)) W)
    clear HT5 HT6 HDI HHL hH
    go_quiet (fail)
    generalize hw12 : w10.drewN nq = w12 at *
    have d1 : w12.cell? ⟨b, 1, none⟩ = some (.int .i64 ((e : Int) + 4)) := by rw [← hw12]; exact c1
    have HG12 : Hid (w.grownBy w12 (some b)) := by rw [← hw12]; exact only_drewN HG10.out nq
    have hz12 : w.heap.size ≤ w12.heap.size := HG12.out.size
    clear hw12 c0 c1
    go_wp2_with fail
    have em : (e : Int) + 4 + min (H : Int) (2 * (k : Int)) = ((e + 4 + min H (2 * k) : Nat) : Int) := by omega
    rw [em]
    refine (HBD.out _).mono ?_
    rintro ev w13 ⟨x, rfl, hx, hb13⟩
    have HX : Hid (FltE w13 w.heap.size x (e + 4 + min H (2 * k))) := hx.base hz12
    have HG13 : Hid (w.grownBy w13 (some b)) := Lib.grownBy_below HG12.out hb13
    clear hx hb13
    go_wp2_with fail
    go_ret
    exact ⟨_, rfl, HG13.out, by rw [HR.out]; exact HX.out⟩
end Go.Proofs.YtmnkdkibhchglaaGreatDoor
