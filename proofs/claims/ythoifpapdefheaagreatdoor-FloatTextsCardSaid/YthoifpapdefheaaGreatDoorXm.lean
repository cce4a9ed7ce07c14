/- Walk: digits and an exponent as text (strconv: fmtEFG in the form 'e', the shortest). Conditions: the digits' bytes read; the text begins empty. -/
import Derived.Test.YthoifpapdefheaaGreatDoorXj
import Derived.Test.YthoifpapdefheaaGreatDoorXt
import Derived.Deep.DrawnRows
namespace Go.Proofs.YthoifpapdefheaaGreatDoor
open Go.RowKit
set_option linter.unusedVariables false
attribute [local go_sem ↓] Go.wp_at_zero Go.wp_at_succ

/-- Digits that lie in a block. -/
def DgC (w : World) (g : Nat) (ds : List UInt8) : Prop := g < w.heap.size ∧ ∀ j y, ds[j]? = some y → w.cell? ⟨g, j, none⟩ = some (.int .u8 (y.toNat : Int))
/-- A text being made: its row is the call's own, and not the digits' block; the digits read; k more bytes have room. -/
structure EB (W w : World) (g : Nat) (ds : List UInt8) (A : Option Addr) (c : Nat) (l : List UInt8) (k : Nat) : Prop where
  own : w.ownsRow W.heap.size 5 1 (.slice A l.length c) l.length (bys l)
  bel : Below W.heap.size W w
  dig : DgC w g ds
  ne : (Value.slice A l.length c).ownBlock ≠ some g
  sh : l.length + k ≤ 90
section
variable {W w w2 : World} {g c k k' : Nat} {ds l : List UInt8} {A : Option Addr} {v : Value}
theorem EB.alloc (h : EB W w g ds A c l k) (o : Obj) : EB W (w.alloc o) g ds A c l k :=
  ⟨h.own.alloc _, h.bel.alloc h.bel.size _, ⟨Nat.lt_of_lt_of_le h.dig.1 ((Below.refl w.heap.size w).alloc (Nat.le_refl _) o).size, fun j y hy => by rw [World.cell?_alloc_lt w o ⟨g, j, none⟩ h.dig.1]; exact h.dig.2 j y hy⟩, h.ne, h.sh⟩
theorem EB.app (h : EB W w g ds A c l k) (m : List UInt8) (hm : m.length + k' ≤ k) (hown : w2.ownsRow W.heap.size 5 1 v (l.length + m.length) (bys l ++ bys m)) (hg : w.grownBy w2 (Value.slice A l.length c).ownBlock)
    (hor : v.ownBlock = (Value.slice A l.length c).ownBlock ∨ v.ownBlock = some w.heap.size) : ∃ A' c' l', l' = l ++ m ∧ v = .slice A' l'.length c' ∧ EB W w2 g ds A' c' l' k' := by
  obtain ⟨A', c', rfl, ho⟩ := ownB_app (m := m) h.bel h.own hown hg
  have hgs : g < w2.heap.size := Nat.lt_of_lt_of_le h.dig.1 hg.size
  refine ⟨A', c', l ++ m, rfl, rfl, ho.1, ho.2, ⟨hgs, fun j y hy => ?_⟩, ?_, ?_⟩
  · rw [← h.dig.2 j y hy]
    exact World.cell?_of_block (hg.block g h.dig.1 (fun e => h.ne e.symm))
  · rcases hor with e | e
    · rw [e]; exact h.ne
    · rw [e]
      intro e2
      have := h.dig.1
      injection e2 with e2
      omega
  · have := h.sh
    rw [List.length_append]
    omega
theorem EB.room (h : EB W w g ds A c l k) (n : Nat) (hn : n ≤ k) : l.length + n ≤ maxLen ∧ (l.length + n) * 1 ≤ 140737488355328 := by
  have := h.sh
  unfold maxLen
  omega
theorem EB.tail (h : EB W w g ds A c l k) {n : Nat} (hn : ds.length = n + 1) : Reads w w.heap.size 1 (some ⟨g, 1, none⟩) n (bys (ds.drop 1)) :=
  ⟨by simp [bys, hn], fun _ => ⟨_, rfl, h.dig.1, fun j u hu => by
    have hj : (ds.drop 1)[j]?.map (fun (x : UInt8) => Value.int .u8 (x.toNat : Int)) = some u := by simpa [bys] using hu
    obtain ⟨y, hy, rfl⟩ := Option.map_eq_some_iff.1 hj
    rw [List.getElem?_drop] at hy
    have := h.dig.2 (1 + j) y hy
    rcases j with _ | j
    · simpa [Addr.add] using this
    · simpa [Addr.add] using this⟩⟩
theorem EB.fin (h : EB W w g ds A c l k) : OwnB W w A c l := ⟨h.own, h.bel⟩
end
theorem reads_lit3 (w : World) (x y z : Int) : Reads (w.alloc (.cells #[.int .u8 x, .int .u8 y, .int .u8 z] 5)) (w.alloc (.cells #[.int .u8 x, .int .u8 y, .int .u8 z] 5)).heap.size 1 (some ⟨w.heap.size, 0, none⟩) 3 [.int .u8 x, .int .u8 y, .int .u8 z] :=
  Reads.of_own (World.ownsRow_lit (e := 5) (size := 1) (base := 0) w #[.int .u8 x, .int .u8 y, .int .u8 z] 3 (Nat.zero_le _) (by decide) rfl)
theorem oneC (l : List UInt8) : ∀ u ∈ bys l, u.oneCell' = true := fun u hu => by
  obtain ⟨x, _, rfl⟩ := List.mem_map.1 hu
  rfl
set_option maxRecDepth 100000 in
set_option maxHeartbeats 1000000 in
theorem fm_op1 (W w : World) (A : Option Addr) (c g E : Nat) (ds : List UInt8) (y0 b1 b2 b3 : UInt8) (dp x : Int) (HO0 : Hid (EB W w g ds A c [] 90)) (k0 : w.cell? ⟨g, 0, none⟩ = some (.int .u8 (y0.toNat : Int))) (hdp : IntKind.i64.wrap (dp - 1) = x)
    (hx0 : x = (E : Int)) (hx1 : ¬ (E : Int) < 0)
    (r1 : E < 10) (e1 : IntKind.u8.wrap (E : Int) = (E : Int)) (e2 : IntKind.u8.wrap ((E : Int) + 48) = (b1.toNat : Int)) :
    Calls Tryz.prog 68 #[.slice A 0 c, .bool false, .slice (some ⟨g, 0, none⟩) 32 32, .int .i64 dp, .int .i64 1, .int .i64 0, .int .u8 101, .bool true] w fun e w' => ∃ A' c' l', e = .returned (.slice A' l'.length c') ∧ l' = y0 :: (101 :: 43 :: [48, b1]) ∧ OwnB W w' A' c' l' := by
  obtain ⟨i0, hi0, hz0, hz1, hz2⟩ := info_parts u8_info
  subst hx0
  go_enter Tryz.func68, Tryz.ntmps68
  go_wp2_with (first
    | (at_builtin; have HA1 := Lib.hid (HO0.out.alloc (.cells #[.int .u8 (y0.toNat : Int)] 5)); have HR1 := Lib.hid (reads_lit1 w (y0.toNat : Int)); refine wpList_append_any _ rfl (.tmp 87) (.tmp 89) 49 rfl W.heap.size 5 i0 _ 1 1 Tryz.underlying49 hi0 hz0 hz1 hz2 rfl (by omega) (.slice A ([] : List UInt8).length c) ([] : List UInt8).length (bys ([] : List UInt8)) rfl HA1.out.own _ (some ⟨w.heap.size, 0, none⟩) 1 1 [.int .u8 (y0.toNat : Int)] rfl HR1.out (by simp [Value.oneCell']) (HA1.out.room 1 (by decide)).1 (HA1.out.room 1 (by decide)).2 HA1.out.bel.size ?_; intro v2 w1 hown2 hg2 hor2; obtain ⟨A1, c1, l1, hl1, rfl, ho2⟩ := HA1.out.app [y0] (k' := 89) (Nat.le_refl _) hown2 hg2 hor2; have HL1 := Lib.hid hl1; have HO1 := Lib.hid ho2; clear ho2 hl1 hown2 hg2 hor2 HA1 HR1)
    | (at_builtin; have HA2 := Lib.hid (HO1.out.alloc (.cells #[.int .u8 101] 5)); have HR2 := Lib.hid (reads_lit1 w1 101); refine wpList_append_any _ rfl (.tmp 120) (.tmp 122) 49 rfl W.heap.size 5 i0 _ 1 1 Tryz.underlying49 hi0 hz0 hz1 hz2 rfl (by omega) (.slice A1 l1.length c1) l1.length (bys l1) rfl HA2.out.own _ (some ⟨w1.heap.size, 0, none⟩) 1 1 [.int .u8 101] rfl HR2.out (by simp [Value.oneCell']) (HA2.out.room 1 (by decide)).1 (HA2.out.room 1 (by decide)).2 HA2.out.bel.size ?_; intro v2 w2 hown2 hg2 hor2; obtain ⟨A2, c2, l2, hl2, rfl, ho2⟩ := HA2.out.app [101] (k' := 88) (Nat.le_refl _) hown2 hg2 hor2; have HL2 := Lib.hid hl2; have HO2 := Lib.hid ho2; clear ho2 hl2 hown2 hg2 hor2 HA2 HR2)
    | (at_builtin; have HA3 := Lib.hid (HO2.out.alloc (.cells #[.int .u8 43] 5)); have HR3 := Lib.hid (reads_lit1 w2 43); refine wpList_append_any _ rfl (.tmp 132) (.tmp 134) 49 rfl W.heap.size 5 i0 _ 1 1 Tryz.underlying49 hi0 hz0 hz1 hz2 rfl (by omega) (.slice A2 l2.length c2) l2.length (bys l2) rfl HA3.out.own _ (some ⟨w2.heap.size, 0, none⟩) 1 1 [.int .u8 43] rfl HR3.out (by simp [Value.oneCell']) (HA3.out.room 1 (by decide)).1 (HA3.out.room 1 (by decide)).2 HA3.out.bel.size ?_; intro v2 w3 hown2 hg2 hor2; obtain ⟨A3, c3, l3, hl3, rfl, ho2⟩ := HA3.out.app [43] (k' := 87) (Nat.le_refl _) hown2 hg2 hor2; have HL3 := Lib.hid hl3; have HO3 := Lib.hid ho2; clear ho2 hl3 hown2 hg2 hor2 HA3 HR3)
    | (at_builtin; have HA4 := Lib.hid (HO3.out.alloc (.cells #[.int .u8 48, .int .u8 (b1.toNat : Int)] 5)); have HR4 := Lib.hid (reads_lit2 w3 48 (b1.toNat : Int)); refine wpList_append_any _ rfl (.tmp 155) (.tmp 159) 49 rfl W.heap.size 5 i0 _ 1 1 Tryz.underlying49 hi0 hz0 hz1 hz2 rfl (by omega) (.slice A3 l3.length c3) l3.length (bys l3) rfl HA4.out.own _ (some ⟨w3.heap.size, 0, none⟩) 2 2 [.int .u8 48, .int .u8 (b1.toNat : Int)] rfl HR4.out (by simp [Value.oneCell']) (HA4.out.room 2 (by decide)).1 (HA4.out.room 2 (by decide)).2 HA4.out.bel.size ?_; intro v2 w4 hown2 hg2 hor2; obtain ⟨A4, c4, l4, hl4, rfl, ho2⟩ := HA4.out.app [48, b1] (k' := 85) (Nat.le_refl _) hown2 hg2 hor2; have HL4 := Lib.hid hl4; have HO4 := Lib.hid ho2; clear ho2 hl4 hown2 hg2 hor2 HA4 HR4))
  go_ret
  exact ⟨_, _, _, rfl, by rw [HL4.out, HL3.out, HL2.out, HL1.out]; simp, HO4.out.fin⟩
set_option maxRecDepth 100000 in
set_option maxHeartbeats 1000000 in
theorem fm_op2 (W w : World) (A : Option Addr) (c g E : Nat) (ds : List UInt8) (y0 b1 b2 b3 : UInt8) (dp x : Int) (HO0 : Hid (EB W w g ds A c [] 90)) (k0 : w.cell? ⟨g, 0, none⟩ = some (.int .u8 (y0.toNat : Int))) (hdp : IntKind.i64.wrap (dp - 1) = x)
    (hx0 : x = (E : Int)) (hx1 : ¬ (E : Int) < 0)
    (r1 : ¬ E < 10) (r2 : E < 100) (q10 m10 : Nat) (d1 : (E : Int) / 10 = (q10 : Int)) (d2 : (E : Int) % 10 = (m10 : Int)) (d3 : IntKind.i64.wrap (q10 : Int) = (q10 : Int)) (e1 : IntKind.u8.wrap (q10 : Int) = (q10 : Int)) (e2 : IntKind.u8.wrap (m10 : Int) = (m10 : Int)) (e3 : IntKind.u8.wrap ((q10 : Int) + 48) = (b2.toNat : Int)) (e4 : IntKind.u8.wrap ((m10 : Int) + 48) = (b1.toNat : Int)) :
    Calls Tryz.prog 68 #[.slice A 0 c, .bool false, .slice (some ⟨g, 0, none⟩) 32 32, .int .i64 dp, .int .i64 1, .int .i64 0, .int .u8 101, .bool true] w fun e w' => ∃ A' c' l', e = .returned (.slice A' l'.length c') ∧ l' = y0 :: (101 :: 43 :: [b2, b1]) ∧ OwnB W w' A' c' l' := by
  obtain ⟨i0, hi0, hz0, hz1, hz2⟩ := info_parts u8_info
  subst hx0
  go_enter Tryz.func68, Tryz.ntmps68
  go_wp2_with (first
    | (at_builtin; have HA1 := Lib.hid (HO0.out.alloc (.cells #[.int .u8 (y0.toNat : Int)] 5)); have HR1 := Lib.hid (reads_lit1 w (y0.toNat : Int)); refine wpList_append_any _ rfl (.tmp 87) (.tmp 89) 49 rfl W.heap.size 5 i0 _ 1 1 Tryz.underlying49 hi0 hz0 hz1 hz2 rfl (by omega) (.slice A ([] : List UInt8).length c) ([] : List UInt8).length (bys ([] : List UInt8)) rfl HA1.out.own _ (some ⟨w.heap.size, 0, none⟩) 1 1 [.int .u8 (y0.toNat : Int)] rfl HR1.out (by simp [Value.oneCell']) (HA1.out.room 1 (by decide)).1 (HA1.out.room 1 (by decide)).2 HA1.out.bel.size ?_; intro v2 w1 hown2 hg2 hor2; obtain ⟨A1, c1, l1, hl1, rfl, ho2⟩ := HA1.out.app [y0] (k' := 89) (Nat.le_refl _) hown2 hg2 hor2; have HL1 := Lib.hid hl1; have HO1 := Lib.hid ho2; clear ho2 hl1 hown2 hg2 hor2 HA1 HR1)
    | (at_builtin; have HA2 := Lib.hid (HO1.out.alloc (.cells #[.int .u8 101] 5)); have HR2 := Lib.hid (reads_lit1 w1 101); refine wpList_append_any _ rfl (.tmp 120) (.tmp 122) 49 rfl W.heap.size 5 i0 _ 1 1 Tryz.underlying49 hi0 hz0 hz1 hz2 rfl (by omega) (.slice A1 l1.length c1) l1.length (bys l1) rfl HA2.out.own _ (some ⟨w1.heap.size, 0, none⟩) 1 1 [.int .u8 101] rfl HR2.out (by simp [Value.oneCell']) (HA2.out.room 1 (by decide)).1 (HA2.out.room 1 (by decide)).2 HA2.out.bel.size ?_; intro v2 w2 hown2 hg2 hor2; obtain ⟨A2, c2, l2, hl2, rfl, ho2⟩ := HA2.out.app [101] (k' := 88) (Nat.le_refl _) hown2 hg2 hor2; have HL2 := Lib.hid hl2; have HO2 := Lib.hid ho2; clear ho2 hl2 hown2 hg2 hor2 HA2 HR2)
    | (at_builtin; have HA3 := Lib.hid (HO2.out.alloc (.cells #[.int .u8 43] 5)); have HR3 := Lib.hid (reads_lit1 w2 43); refine wpList_append_any _ rfl (.tmp 132) (.tmp 134) 49 rfl W.heap.size 5 i0 _ 1 1 Tryz.underlying49 hi0 hz0 hz1 hz2 rfl (by omega) (.slice A2 l2.length c2) l2.length (bys l2) rfl HA3.out.own _ (some ⟨w2.heap.size, 0, none⟩) 1 1 [.int .u8 43] rfl HR3.out (by simp [Value.oneCell']) (HA3.out.room 1 (by decide)).1 (HA3.out.room 1 (by decide)).2 HA3.out.bel.size ?_; intro v2 w3 hown2 hg2 hor2; obtain ⟨A3, c3, l3, hl3, rfl, ho2⟩ := HA3.out.app [43] (k' := 87) (Nat.le_refl _) hown2 hg2 hor2; have HL3 := Lib.hid hl3; have HO3 := Lib.hid ho2; clear ho2 hl3 hown2 hg2 hor2 HA3 HR3)
    | (at_builtin; have HA4 := Lib.hid (HO3.out.alloc (.cells #[.int .u8 (b2.toNat : Int), .int .u8 (b1.toNat : Int)] 5)); have HR4 := Lib.hid (reads_lit2 w3 (b2.toNat : Int) (b1.toNat : Int)); refine wpList_append_any _ rfl (.tmp 164) (.tmp 173) 49 rfl W.heap.size 5 i0 _ 1 1 Tryz.underlying49 hi0 hz0 hz1 hz2 rfl (by omega) (.slice A3 l3.length c3) l3.length (bys l3) rfl HA4.out.own _ (some ⟨w3.heap.size, 0, none⟩) 2 2 [.int .u8 (b2.toNat : Int), .int .u8 (b1.toNat : Int)] rfl HR4.out (by simp [Value.oneCell']) (HA4.out.room 2 (by decide)).1 (HA4.out.room 2 (by decide)).2 HA4.out.bel.size ?_; intro v2 w4 hown2 hg2 hor2; obtain ⟨A4, c4, l4, hl4, rfl, ho2⟩ := HA4.out.app [b2, b1] (k' := 85) (Nat.le_refl _) hown2 hg2 hor2; have HL4 := Lib.hid hl4; have HO4 := Lib.hid ho2; clear ho2 hl4 hown2 hg2 hor2 HA4 HR4))
  go_ret
  exact ⟨_, _, _, rfl, by rw [HL4.out, HL3.out, HL2.out, HL1.out]; simp, HO4.out.fin⟩
set_option maxRecDepth 100000 in
set_option maxHeartbeats 1000000 in
theorem fm_op3 (W w : World) (A : Option Addr) (c g E : Nat) (ds : List UInt8) (y0 b1 b2 b3 : UInt8) (dp x : Int) (HO0 : Hid (EB W w g ds A c [] 90)) (k0 : w.cell? ⟨g, 0, none⟩ = some (.int .u8 (y0.toNat : Int))) (hdp : IntKind.i64.wrap (dp - 1) = x)
    (hx0 : x = (E : Int)) (hx1 : ¬ (E : Int) < 0)
    (r1 : ¬ E < 10) (r2 : ¬ E < 100) (q100 q10 m10 mm : Nat) (d0 : (E : Int) / 100 = (q100 : Int)) (d1 : (E : Int) / 10 = (q10 : Int)) (d2 : (E : Int) % 10 = (m10 : Int)) (d3 : IntKind.i64.wrap (q10 : Int) = (q10 : Int)) (d4 : IntKind.i64.wrap (q100 : Int) = (q100 : Int)) (e0 : IntKind.u8.wrap (q100 : Int) = (q100 : Int)) (e1 : IntKind.u8.wrap (q10 : Int) = (q10 : Int)) (e2 : IntKind.u8.wrap (m10 : Int) = (m10 : Int)) (d5 : (q10 : Int) % 10 = (mm : Int)) (e5 : IntKind.u8.wrap ((q100 : Int) + 48) = (b3.toNat : Int)) (e3 : IntKind.u8.wrap ((mm : Int) + 48) = (b2.toNat : Int)) (e4 : IntKind.u8.wrap ((m10 : Int) + 48) = (b1.toNat : Int)) :
    Calls Tryz.prog 68 #[.slice A 0 c, .bool false, .slice (some ⟨g, 0, none⟩) 32 32, .int .i64 dp, .int .i64 1, .int .i64 0, .int .u8 101, .bool true] w fun e w' => ∃ A' c' l', e = .returned (.slice A' l'.length c') ∧ l' = y0 :: (101 :: 43 :: [b3, b2, b1]) ∧ OwnB W w' A' c' l' := by
  obtain ⟨i0, hi0, hz0, hz1, hz2⟩ := info_parts u8_info
  subst hx0
  go_enter Tryz.func68, Tryz.ntmps68
  go_wp2_with (first
    | (at_builtin; have HA1 := Lib.hid (HO0.out.alloc (.cells #[.int .u8 (y0.toNat : Int)] 5)); have HR1 := Lib.hid (reads_lit1 w (y0.toNat : Int)); refine wpList_append_any _ rfl (.tmp 87) (.tmp 89) 49 rfl W.heap.size 5 i0 _ 1 1 Tryz.underlying49 hi0 hz0 hz1 hz2 rfl (by omega) (.slice A ([] : List UInt8).length c) ([] : List UInt8).length (bys ([] : List UInt8)) rfl HA1.out.own _ (some ⟨w.heap.size, 0, none⟩) 1 1 [.int .u8 (y0.toNat : Int)] rfl HR1.out (by simp [Value.oneCell']) (HA1.out.room 1 (by decide)).1 (HA1.out.room 1 (by decide)).2 HA1.out.bel.size ?_; intro v2 w1 hown2 hg2 hor2; obtain ⟨A1, c1, l1, hl1, rfl, ho2⟩ := HA1.out.app [y0] (k' := 89) (Nat.le_refl _) hown2 hg2 hor2; have HL1 := Lib.hid hl1; have HO1 := Lib.hid ho2; clear ho2 hl1 hown2 hg2 hor2 HA1 HR1)
    | (at_builtin; have HA2 := Lib.hid (HO1.out.alloc (.cells #[.int .u8 101] 5)); have HR2 := Lib.hid (reads_lit1 w1 101); refine wpList_append_any _ rfl (.tmp 120) (.tmp 122) 49 rfl W.heap.size 5 i0 _ 1 1 Tryz.underlying49 hi0 hz0 hz1 hz2 rfl (by omega) (.slice A1 l1.length c1) l1.length (bys l1) rfl HA2.out.own _ (some ⟨w1.heap.size, 0, none⟩) 1 1 [.int .u8 101] rfl HR2.out (by simp [Value.oneCell']) (HA2.out.room 1 (by decide)).1 (HA2.out.room 1 (by decide)).2 HA2.out.bel.size ?_; intro v2 w2 hown2 hg2 hor2; obtain ⟨A2, c2, l2, hl2, rfl, ho2⟩ := HA2.out.app [101] (k' := 88) (Nat.le_refl _) hown2 hg2 hor2; have HL2 := Lib.hid hl2; have HO2 := Lib.hid ho2; clear ho2 hl2 hown2 hg2 hor2 HA2 HR2)
    | (at_builtin; have HA3 := Lib.hid (HO2.out.alloc (.cells #[.int .u8 43] 5)); have HR3 := Lib.hid (reads_lit1 w2 43); refine wpList_append_any _ rfl (.tmp 132) (.tmp 134) 49 rfl W.heap.size 5 i0 _ 1 1 Tryz.underlying49 hi0 hz0 hz1 hz2 rfl (by omega) (.slice A2 l2.length c2) l2.length (bys l2) rfl HA3.out.own _ (some ⟨w2.heap.size, 0, none⟩) 1 1 [.int .u8 43] rfl HR3.out (by simp [Value.oneCell']) (HA3.out.room 1 (by decide)).1 (HA3.out.room 1 (by decide)).2 HA3.out.bel.size ?_; intro v2 w3 hown2 hg2 hor2; obtain ⟨A3, c3, l3, hl3, rfl, ho2⟩ := HA3.out.app [43] (k' := 87) (Nat.le_refl _) hown2 hg2 hor2; have HL3 := Lib.hid hl3; have HO3 := Lib.hid ho2; clear ho2 hl3 hown2 hg2 hor2 HA3 HR3)
    | (at_builtin; have HA4 := Lib.hid (HO3.out.alloc (.cells #[.int .u8 (b3.toNat : Int), .int .u8 (b2.toNat : Int), .int .u8 (b1.toNat : Int)] 5)); have HR4 := Lib.hid (reads_lit3 w3 (b3.toNat : Int) (b2.toNat : Int) (b1.toNat : Int)); refine wpList_append_any _ rfl (.tmp 136) (.tmp 150) 49 rfl W.heap.size 5 i0 _ 1 1 Tryz.underlying49 hi0 hz0 hz1 hz2 rfl (by omega) (.slice A3 l3.length c3) l3.length (bys l3) rfl HA4.out.own _ (some ⟨w3.heap.size, 0, none⟩) 3 3 [.int .u8 (b3.toNat : Int), .int .u8 (b2.toNat : Int), .int .u8 (b1.toNat : Int)] rfl HR4.out (by simp [Value.oneCell']) (HA4.out.room 3 (by decide)).1 (HA4.out.room 3 (by decide)).2 HA4.out.bel.size ?_; intro v2 w4 hown2 hg2 hor2; obtain ⟨A4, c4, l4, hl4, rfl, ho2⟩ := HA4.out.app [b3, b2, b1] (k' := 84) (Nat.le_refl _) hown2 hg2 hor2; have HL4 := Lib.hid hl4; have HO4 := Lib.hid ho2; clear ho2 hl4 hown2 hg2 hor2 HA4 HR4))
  go_ret
  exact ⟨_, _, _, rfl, by rw [HL4.out, HL3.out, HL2.out, HL1.out]; simp, HO4.out.fin⟩
set_option maxRecDepth 100000 in
set_option maxHeartbeats 1000000 in
theorem fm_om1 (W w : World) (A : Option Addr) (c g E : Nat) (ds : List UInt8) (y0 b1 b2 b3 : UInt8) (dp x : Int) (HO0 : Hid (EB W w g ds A c [] 90)) (k0 : w.cell? ⟨g, 0, none⟩ = some (.int .u8 (y0.toNat : Int))) (hdp : IntKind.i64.wrap (dp - 1) = x)
    (hx0 : x < 0) (hxn : IntKind.i64.wrap (-x) = (E : Int))
    (r1 : E < 10) (e1 : IntKind.u8.wrap (E : Int) = (E : Int)) (e2 : IntKind.u8.wrap ((E : Int) + 48) = (b1.toNat : Int)) :
    Calls Tryz.prog 68 #[.slice A 0 c, .bool false, .slice (some ⟨g, 0, none⟩) 32 32, .int .i64 dp, .int .i64 1, .int .i64 0, .int .u8 101, .bool true] w fun e w' => ∃ A' c' l', e = .returned (.slice A' l'.length c') ∧ l' = y0 :: (101 :: 45 :: [48, b1]) ∧ OwnB W w' A' c' l' := by
  obtain ⟨i0, hi0, hz0, hz1, hz2⟩ := info_parts u8_info
  go_enter Tryz.func68, Tryz.ntmps68
  go_wp2_with (first
    | (at_builtin; have HA1 := Lib.hid (HO0.out.alloc (.cells #[.int .u8 (y0.toNat : Int)] 5)); have HR1 := Lib.hid (reads_lit1 w (y0.toNat : Int)); refine wpList_append_any _ rfl (.tmp 87) (.tmp 89) 49 rfl W.heap.size 5 i0 _ 1 1 Tryz.underlying49 hi0 hz0 hz1 hz2 rfl (by omega) (.slice A ([] : List UInt8).length c) ([] : List UInt8).length (bys ([] : List UInt8)) rfl HA1.out.own _ (some ⟨w.heap.size, 0, none⟩) 1 1 [.int .u8 (y0.toNat : Int)] rfl HR1.out (by simp [Value.oneCell']) (HA1.out.room 1 (by decide)).1 (HA1.out.room 1 (by decide)).2 HA1.out.bel.size ?_; intro v2 w1 hown2 hg2 hor2; obtain ⟨A1, c1, l1, hl1, rfl, ho2⟩ := HA1.out.app [y0] (k' := 89) (Nat.le_refl _) hown2 hg2 hor2; have HL1 := Lib.hid hl1; have HO1 := Lib.hid ho2; clear ho2 hl1 hown2 hg2 hor2 HA1 HR1)
    | (at_builtin; have HA2 := Lib.hid (HO1.out.alloc (.cells #[.int .u8 101] 5)); have HR2 := Lib.hid (reads_lit1 w1 101); refine wpList_append_any _ rfl (.tmp 120) (.tmp 122) 49 rfl W.heap.size 5 i0 _ 1 1 Tryz.underlying49 hi0 hz0 hz1 hz2 rfl (by omega) (.slice A1 l1.length c1) l1.length (bys l1) rfl HA2.out.own _ (some ⟨w1.heap.size, 0, none⟩) 1 1 [.int .u8 101] rfl HR2.out (by simp [Value.oneCell']) (HA2.out.room 1 (by decide)).1 (HA2.out.room 1 (by decide)).2 HA2.out.bel.size ?_; intro v2 w2 hown2 hg2 hor2; obtain ⟨A2, c2, l2, hl2, rfl, ho2⟩ := HA2.out.app [101] (k' := 88) (Nat.le_refl _) hown2 hg2 hor2; have HL2 := Lib.hid hl2; have HO2 := Lib.hid ho2; clear ho2 hl2 hown2 hg2 hor2 HA2 HR2)
    | (at_builtin; have HA3 := Lib.hid (HO2.out.alloc (.cells #[.int .u8 45] 5)); have HR3 := Lib.hid (reads_lit1 w2 45); refine wpList_append_any _ rfl (.tmp 132) (.tmp 134) 49 rfl W.heap.size 5 i0 _ 1 1 Tryz.underlying49 hi0 hz0 hz1 hz2 rfl (by omega) (.slice A2 l2.length c2) l2.length (bys l2) rfl HA3.out.own _ (some ⟨w2.heap.size, 0, none⟩) 1 1 [.int .u8 45] rfl HR3.out (by simp [Value.oneCell']) (HA3.out.room 1 (by decide)).1 (HA3.out.room 1 (by decide)).2 HA3.out.bel.size ?_; intro v2 w3 hown2 hg2 hor2; obtain ⟨A3, c3, l3, hl3, rfl, ho2⟩ := HA3.out.app [45] (k' := 87) (Nat.le_refl _) hown2 hg2 hor2; have HL3 := Lib.hid hl3; have HO3 := Lib.hid ho2; clear ho2 hl3 hown2 hg2 hor2 HA3 HR3)
    | (at_builtin; have HA4 := Lib.hid (HO3.out.alloc (.cells #[.int .u8 48, .int .u8 (b1.toNat : Int)] 5)); have HR4 := Lib.hid (reads_lit2 w3 48 (b1.toNat : Int)); refine wpList_append_any _ rfl (.tmp 155) (.tmp 159) 49 rfl W.heap.size 5 i0 _ 1 1 Tryz.underlying49 hi0 hz0 hz1 hz2 rfl (by omega) (.slice A3 l3.length c3) l3.length (bys l3) rfl HA4.out.own _ (some ⟨w3.heap.size, 0, none⟩) 2 2 [.int .u8 48, .int .u8 (b1.toNat : Int)] rfl HR4.out (by simp [Value.oneCell']) (HA4.out.room 2 (by decide)).1 (HA4.out.room 2 (by decide)).2 HA4.out.bel.size ?_; intro v2 w4 hown2 hg2 hor2; obtain ⟨A4, c4, l4, hl4, rfl, ho2⟩ := HA4.out.app [48, b1] (k' := 85) (Nat.le_refl _) hown2 hg2 hor2; have HL4 := Lib.hid hl4; have HO4 := Lib.hid ho2; clear ho2 hl4 hown2 hg2 hor2 HA4 HR4))
  go_ret
  exact ⟨_, _, _, rfl, by rw [HL4.out, HL3.out, HL2.out, HL1.out]; simp, HO4.out.fin⟩
set_option maxRecDepth 100000 in
set_option maxHeartbeats 1000000 in
theorem fm_om2 (W w : World) (A : Option Addr) (c g E : Nat) (ds : List UInt8) (y0 b1 b2 b3 : UInt8) (dp x : Int) (HO0 : Hid (EB W w g ds A c [] 90)) (k0 : w.cell? ⟨g, 0, none⟩ = some (.int .u8 (y0.toNat : Int))) (hdp : IntKind.i64.wrap (dp - 1) = x)
    (hx0 : x < 0) (hxn : IntKind.i64.wrap (-x) = (E : Int))
    (r1 : ¬ E < 10) (r2 : E < 100) (q10 m10 : Nat) (d1 : (E : Int) / 10 = (q10 : Int)) (d2 : (E : Int) % 10 = (m10 : Int)) (d3 : IntKind.i64.wrap (q10 : Int) = (q10 : Int)) (e1 : IntKind.u8.wrap (q10 : Int) = (q10 : Int)) (e2 : IntKind.u8.wrap (m10 : Int) = (m10 : Int)) (e3 : IntKind.u8.wrap ((q10 : Int) + 48) = (b2.toNat : Int)) (e4 : IntKind.u8.wrap ((m10 : Int) + 48) = (b1.toNat : Int)) :
    Calls Tryz.prog 68 #[.slice A 0 c, .bool false, .slice (some ⟨g, 0, none⟩) 32 32, .int .i64 dp, .int .i64 1, .int .i64 0, .int .u8 101, .bool true] w fun e w' => ∃ A' c' l', e = .returned (.slice A' l'.length c') ∧ l' = y0 :: (101 :: 45 :: [b2, b1]) ∧ OwnB W w' A' c' l' := by
  obtain ⟨i0, hi0, hz0, hz1, hz2⟩ := info_parts u8_info
  go_enter Tryz.func68, Tryz.ntmps68
  go_wp2_with (first
    | (at_builtin; have HA1 := Lib.hid (HO0.out.alloc (.cells #[.int .u8 (y0.toNat : Int)] 5)); have HR1 := Lib.hid (reads_lit1 w (y0.toNat : Int)); refine wpList_append_any _ rfl (.tmp 87) (.tmp 89) 49 rfl W.heap.size 5 i0 _ 1 1 Tryz.underlying49 hi0 hz0 hz1 hz2 rfl (by omega) (.slice A ([] : List UInt8).length c) ([] : List UInt8).length (bys ([] : List UInt8)) rfl HA1.out.own _ (some ⟨w.heap.size, 0, none⟩) 1 1 [.int .u8 (y0.toNat : Int)] rfl HR1.out (by simp [Value.oneCell']) (HA1.out.room 1 (by decide)).1 (HA1.out.room 1 (by decide)).2 HA1.out.bel.size ?_; intro v2 w1 hown2 hg2 hor2; obtain ⟨A1, c1, l1, hl1, rfl, ho2⟩ := HA1.out.app [y0] (k' := 89) (Nat.le_refl _) hown2 hg2 hor2; have HL1 := Lib.hid hl1; have HO1 := Lib.hid ho2; clear ho2 hl1 hown2 hg2 hor2 HA1 HR1)
    | (at_builtin; have HA2 := Lib.hid (HO1.out.alloc (.cells #[.int .u8 101] 5)); have HR2 := Lib.hid (reads_lit1 w1 101); refine wpList_append_any _ rfl (.tmp 120) (.tmp 122) 49 rfl W.heap.size 5 i0 _ 1 1 Tryz.underlying49 hi0 hz0 hz1 hz2 rfl (by omega) (.slice A1 l1.length c1) l1.length (bys l1) rfl HA2.out.own _ (some ⟨w1.heap.size, 0, none⟩) 1 1 [.int .u8 101] rfl HR2.out (by simp [Value.oneCell']) (HA2.out.room 1 (by decide)).1 (HA2.out.room 1 (by decide)).2 HA2.out.bel.size ?_; intro v2 w2 hown2 hg2 hor2; obtain ⟨A2, c2, l2, hl2, rfl, ho2⟩ := HA2.out.app [101] (k' := 88) (Nat.le_refl _) hown2 hg2 hor2; have HL2 := Lib.hid hl2; have HO2 := Lib.hid ho2; clear ho2 hl2 hown2 hg2 hor2 HA2 HR2)
    | (at_builtin; have HA3 := Lib.hid (HO2.out.alloc (.cells #[.int .u8 45] 5)); have HR3 := Lib.hid (reads_lit1 w2 45); refine wpList_append_any _ rfl (.tmp 132) (.tmp 134) 49 rfl W.heap.size 5 i0 _ 1 1 Tryz.underlying49 hi0 hz0 hz1 hz2 rfl (by omega) (.slice A2 l2.length c2) l2.length (bys l2) rfl HA3.out.own _ (some ⟨w2.heap.size, 0, none⟩) 1 1 [.int .u8 45] rfl HR3.out (by simp [Value.oneCell']) (HA3.out.room 1 (by decide)).1 (HA3.out.room 1 (by decide)).2 HA3.out.bel.size ?_; intro v2 w3 hown2 hg2 hor2; obtain ⟨A3, c3, l3, hl3, rfl, ho2⟩ := HA3.out.app [45] (k' := 87) (Nat.le_refl _) hown2 hg2 hor2; have HL3 := Lib.hid hl3; have HO3 := Lib.hid ho2; clear ho2 hl3 hown2 hg2 hor2 HA3 HR3)
    | (at_builtin; have HA4 := Lib.hid (HO3.out.alloc (.cells #[.int .u8 (b2.toNat : Int), .int .u8 (b1.toNat : Int)] 5)); have HR4 := Lib.hid (reads_lit2 w3 (b2.toNat : Int) (b1.toNat : Int)); refine wpList_append_any _ rfl (.tmp 164) (.tmp 173) 49 rfl W.heap.size 5 i0 _ 1 1 Tryz.underlying49 hi0 hz0 hz1 hz2 rfl (by omega) (.slice A3 l3.length c3) l3.length (bys l3) rfl HA4.out.own _ (some ⟨w3.heap.size, 0, none⟩) 2 2 [.int .u8 (b2.toNat : Int), .int .u8 (b1.toNat : Int)] rfl HR4.out (by simp [Value.oneCell']) (HA4.out.room 2 (by decide)).1 (HA4.out.room 2 (by decide)).2 HA4.out.bel.size ?_; intro v2 w4 hown2 hg2 hor2; obtain ⟨A4, c4, l4, hl4, rfl, ho2⟩ := HA4.out.app [b2, b1] (k' := 85) (Nat.le_refl _) hown2 hg2 hor2; have HL4 := Lib.hid hl4; have HO4 := Lib.hid ho2; clear ho2 hl4 hown2 hg2 hor2 HA4 HR4))
  go_ret
  exact ⟨_, _, _, rfl, by rw [HL4.out, HL3.out, HL2.out, HL1.out]; simp, HO4.out.fin⟩
set_option maxRecDepth 100000 in
set_option maxHeartbeats 1000000 in
theorem fm_om3 (W w : World) (A : Option Addr) (c g E : Nat) (ds : List UInt8) (y0 b1 b2 b3 : UInt8) (dp x : Int) (HO0 : Hid (EB W w g ds A c [] 90)) (k0 : w.cell? ⟨g, 0, none⟩ = some (.int .u8 (y0.toNat : Int))) (hdp : IntKind.i64.wrap (dp - 1) = x)
    (hx0 : x < 0) (hxn : IntKind.i64.wrap (-x) = (E : Int))
    (r1 : ¬ E < 10) (r2 : ¬ E < 100) (q100 q10 m10 mm : Nat) (d0 : (E : Int) / 100 = (q100 : Int)) (d1 : (E : Int) / 10 = (q10 : Int)) (d2 : (E : Int) % 10 = (m10 : Int)) (d3 : IntKind.i64.wrap (q10 : Int) = (q10 : Int)) (d4 : IntKind.i64.wrap (q100 : Int) = (q100 : Int)) (e0 : IntKind.u8.wrap (q100 : Int) = (q100 : Int)) (e1 : IntKind.u8.wrap (q10 : Int) = (q10 : Int)) (e2 : IntKind.u8.wrap (m10 : Int) = (m10 : Int)) (d5 : (q10 : Int) % 10 = (mm : Int)) (e5 : IntKind.u8.wrap ((q100 : Int) + 48) = (b3.toNat : Int)) (e3 : IntKind.u8.wrap ((mm : Int) + 48) = (b2.toNat : Int)) (e4 : IntKind.u8.wrap ((m10 : Int) + 48) = (b1.toNat : Int)) :
    Calls Tryz.prog 68 #[.slice A 0 c, .bool false, .slice (some ⟨g, 0, none⟩) 32 32, .int .i64 dp, .int .i64 1, .int .i64 0, .int .u8 101, .bool true] w fun e w' => ∃ A' c' l', e = .returned (.slice A' l'.length c') ∧ l' = y0 :: (101 :: 45 :: [b3, b2, b1]) ∧ OwnB W w' A' c' l' := by
  obtain ⟨i0, hi0, hz0, hz1, hz2⟩ := info_parts u8_info
  go_enter Tryz.func68, Tryz.ntmps68
  go_wp2_with (first
    | (at_builtin; have HA1 := Lib.hid (HO0.out.alloc (.cells #[.int .u8 (y0.toNat : Int)] 5)); have HR1 := Lib.hid (reads_lit1 w (y0.toNat : Int)); refine wpList_append_any _ rfl (.tmp 87) (.tmp 89) 49 rfl W.heap.size 5 i0 _ 1 1 Tryz.underlying49 hi0 hz0 hz1 hz2 rfl (by omega) (.slice A ([] : List UInt8).length c) ([] : List UInt8).length (bys ([] : List UInt8)) rfl HA1.out.own _ (some ⟨w.heap.size, 0, none⟩) 1 1 [.int .u8 (y0.toNat : Int)] rfl HR1.out (by simp [Value.oneCell']) (HA1.out.room 1 (by decide)).1 (HA1.out.room 1 (by decide)).2 HA1.out.bel.size ?_; intro v2 w1 hown2 hg2 hor2; obtain ⟨A1, c1, l1, hl1, rfl, ho2⟩ := HA1.out.app [y0] (k' := 89) (Nat.le_refl _) hown2 hg2 hor2; have HL1 := Lib.hid hl1; have HO1 := Lib.hid ho2; clear ho2 hl1 hown2 hg2 hor2 HA1 HR1)
    | (at_builtin; have HA2 := Lib.hid (HO1.out.alloc (.cells #[.int .u8 101] 5)); have HR2 := Lib.hid (reads_lit1 w1 101); refine wpList_append_any _ rfl (.tmp 120) (.tmp 122) 49 rfl W.heap.size 5 i0 _ 1 1 Tryz.underlying49 hi0 hz0 hz1 hz2 rfl (by omega) (.slice A1 l1.length c1) l1.length (bys l1) rfl HA2.out.own _ (some ⟨w1.heap.size, 0, none⟩) 1 1 [.int .u8 101] rfl HR2.out (by simp [Value.oneCell']) (HA2.out.room 1 (by decide)).1 (HA2.out.room 1 (by decide)).2 HA2.out.bel.size ?_; intro v2 w2 hown2 hg2 hor2; obtain ⟨A2, c2, l2, hl2, rfl, ho2⟩ := HA2.out.app [101] (k' := 88) (Nat.le_refl _) hown2 hg2 hor2; have HL2 := Lib.hid hl2; have HO2 := Lib.hid ho2; clear ho2 hl2 hown2 hg2 hor2 HA2 HR2)
    | (at_builtin; have HA3 := Lib.hid (HO2.out.alloc (.cells #[.int .u8 45] 5)); have HR3 := Lib.hid (reads_lit1 w2 45); refine wpList_append_any _ rfl (.tmp 132) (.tmp 134) 49 rfl W.heap.size 5 i0 _ 1 1 Tryz.underlying49 hi0 hz0 hz1 hz2 rfl (by omega) (.slice A2 l2.length c2) l2.length (bys l2) rfl HA3.out.own _ (some ⟨w2.heap.size, 0, none⟩) 1 1 [.int .u8 45] rfl HR3.out (by simp [Value.oneCell']) (HA3.out.room 1 (by decide)).1 (HA3.out.room 1 (by decide)).2 HA3.out.bel.size ?_; intro v2 w3 hown2 hg2 hor2; obtain ⟨A3, c3, l3, hl3, rfl, ho2⟩ := HA3.out.app [45] (k' := 87) (Nat.le_refl _) hown2 hg2 hor2; have HL3 := Lib.hid hl3; have HO3 := Lib.hid ho2; clear ho2 hl3 hown2 hg2 hor2 HA3 HR3)
    | (at_builtin; have HA4 := Lib.hid (HO3.out.alloc (.cells #[.int .u8 (b3.toNat : Int), .int .u8 (b2.toNat : Int), .int .u8 (b1.toNat : Int)] 5)); have HR4 := Lib.hid (reads_lit3 w3 (b3.toNat : Int) (b2.toNat : Int) (b1.toNat : Int)); refine wpList_append_any _ rfl (.tmp 136) (.tmp 150) 49 rfl W.heap.size 5 i0 _ 1 1 Tryz.underlying49 hi0 hz0 hz1 hz2 rfl (by omega) (.slice A3 l3.length c3) l3.length (bys l3) rfl HA4.out.own _ (some ⟨w3.heap.size, 0, none⟩) 3 3 [.int .u8 (b3.toNat : Int), .int .u8 (b2.toNat : Int), .int .u8 (b1.toNat : Int)] rfl HR4.out (by simp [Value.oneCell']) (HA4.out.room 3 (by decide)).1 (HA4.out.room 3 (by decide)).2 HA4.out.bel.size ?_; intro v2 w4 hown2 hg2 hor2; obtain ⟨A4, c4, l4, hl4, rfl, ho2⟩ := HA4.out.app [b3, b2, b1] (k' := 84) (Nat.le_refl _) hown2 hg2 hor2; have HL4 := Lib.hid hl4; have HO4 := Lib.hid ho2; clear ho2 hl4 hown2 hg2 hor2 HA4 HR4))
  go_ret
  exact ⟨_, _, _, rfl, by rw [HL4.out, HL3.out, HL2.out, HL1.out]; simp, HO4.out.fin⟩
set_option maxRecDepth 100000 in
set_option maxHeartbeats 1000000 in
theorem fm_np1 (W w : World) (A : Option Addr) (c g E : Nat) (ds : List UInt8) (y0 b1 b2 b3 : UInt8) (dp x : Int) (HO0 : Hid (EB W w g ds A c [] 90)) (k0 : w.cell? ⟨g, 0, none⟩ = some (.int .u8 (y0.toNat : Int))) (hdp : IntKind.i64.wrap (dp - 1) = x)
    (hx0 : x = (E : Int)) (hx1 : ¬ (E : Int) < 0)
    (r1 : E < 10) (e1 : IntKind.u8.wrap (E : Int) = (E : Int)) (e2 : IntKind.u8.wrap ((E : Int) + 48) = (b1.toNat : Int))
    (n1 : Nat) (hdl : ds.length = n1 + 1) (hn0 : 0 < n1) (hn1 : n1 ≤ 88) (hn32 : n1 < 31) (htl : (ds.drop 1).length = n1) (hn2 : (ds.drop 1).length + 58 ≤ 88) (hw1 : IntKind.i64.wrap ((n1 : Int) + 1) = (n1 : Int) + 1) (hmin : min ((n1 : Int) + 1) ((n1 : Int) + 1) = (n1 : Int) + 1) :
    Calls Tryz.prog 68 #[.slice A 0 c, .bool false, .slice (some ⟨g, 0, none⟩) 32 32, .int .i64 dp, .int .i64 ((n1 : Int) + 1), .int .i64 (n1 : Int), .int .u8 101, .bool true] w fun e w' => ∃ A' c' l', e = .returned (.slice A' l'.length c') ∧ l' = y0 :: (46 :: ds.drop 1 ++ 101 :: 43 :: [48, b1]) ∧ OwnB W w' A' c' l' := by
  obtain ⟨i0, hi0, hz0, hz1, hz2⟩ := info_parts u8_info
  subst hx0
  go_enter Tryz.func68, Tryz.ntmps68
  go_wp2_with (first
    | (at_builtin; have HA1 := Lib.hid (HO0.out.alloc (.cells #[.int .u8 (y0.toNat : Int)] 5)); have HR1 := Lib.hid (reads_lit1 w (y0.toNat : Int)); refine wpList_append_any _ rfl (.tmp 87) (.tmp 89) 49 rfl W.heap.size 5 i0 _ 1 1 Tryz.underlying49 hi0 hz0 hz1 hz2 rfl (by omega) (.slice A ([] : List UInt8).length c) ([] : List UInt8).length (bys ([] : List UInt8)) rfl HA1.out.own _ (some ⟨w.heap.size, 0, none⟩) 1 1 [.int .u8 (y0.toNat : Int)] rfl HR1.out (by simp [Value.oneCell']) (HA1.out.room 1 (by decide)).1 (HA1.out.room 1 (by decide)).2 HA1.out.bel.size ?_; intro v2 w1 hown2 hg2 hor2; obtain ⟨A1, c1, l1, hl1, rfl, ho2⟩ := HA1.out.app [y0] (k' := 89) (Nat.le_refl _) hown2 hg2 hor2; have HL1 := Lib.hid hl1; have HO1 := Lib.hid ho2; clear ho2 hl1 hown2 hg2 hor2 HA1 HR1)
    | (at_builtin; have HA2 := Lib.hid (HO1.out.alloc (.cells #[.int .u8 46] 5)); have HR2 := Lib.hid (reads_lit1 w1 46); refine wpList_append_any _ rfl (.tmp 93) (.tmp 94) 49 rfl W.heap.size 5 i0 _ 1 1 Tryz.underlying49 hi0 hz0 hz1 hz2 rfl (by omega) (.slice A1 l1.length c1) l1.length (bys l1) rfl HA2.out.own _ (some ⟨w1.heap.size, 0, none⟩) 1 1 [.int .u8 46] rfl HR2.out (by simp [Value.oneCell']) (HA2.out.room 1 (by decide)).1 (HA2.out.room 1 (by decide)).2 HA2.out.bel.size ?_; intro v2 w2 hown2 hg2 hor2; obtain ⟨A2, c2, l2, hl2, rfl, ho2⟩ := HA2.out.app [46] (k' := 88) (Nat.le_refl _) hown2 hg2 hor2; have HL2 := Lib.hid hl2; have HO2 := Lib.hid ho2; clear ho2 hl2 hown2 hg2 hor2 HA2 HR2)
    | (at_builtin; have HR3 := Lib.hid (HO2.out.tail hdl); refine wpList_append_any _ rfl (.tmp 103) (.tmp 107) 49 rfl W.heap.size 5 i0 _ 1 1 Tryz.underlying49 hi0 hz0 hz1 hz2 rfl (by omega) (.slice A2 l2.length c2) l2.length (bys l2) rfl HO2.out.own _ (some ⟨g, 1, none⟩) n1 31 (bys (ds.drop 1)) rfl HR3.out (oneC _) (HO2.out.room n1 hn1).1 (HO2.out.room n1 hn1).2 HO2.out.bel.size ?_; intro v2 w3 hown2 hg2 hor2; obtain ⟨A3, c3, l3, hl3, rfl, ho2⟩ := HO2.out.app (ds.drop 1) (k' := 58) hn2 (by rw [htl]; exact hown2) hg2 hor2; have HL3 := Lib.hid hl3; have HO3 := Lib.hid ho2; clear ho2 hl3 hown2 hg2 hor2 HR3))
  go_loopw [0, 114] (fun u v wr => u = .slice A3 l3.length c3 ∧ v = .int .i64 0 ∧ w3 = wr) (fun _ _ _ => 0)
  case atStart => exact ⟨rfl, by first | rfl | simp, rfl⟩
  case round =>
  obtain ⟨rfl, rfl, rfl⟩ := hrel
  go_wp2_with (first
    | (at_builtin; have HA4 := Lib.hid (HO3.out.alloc (.cells #[.int .u8 101] 5)); have HR4 := Lib.hid (reads_lit1 w3 101); refine wpList_append_any _ rfl (.tmp 120) (.tmp 122) 49 rfl W.heap.size 5 i0 _ 1 1 Tryz.underlying49 hi0 hz0 hz1 hz2 rfl (by omega) (.slice A3 l3.length c3) l3.length (bys l3) rfl HA4.out.own _ (some ⟨w3.heap.size, 0, none⟩) 1 1 [.int .u8 101] rfl HR4.out (by simp [Value.oneCell']) (HA4.out.room 1 (by decide)).1 (HA4.out.room 1 (by decide)).2 HA4.out.bel.size ?_; intro v2 w4 hown2 hg2 hor2; obtain ⟨A4, c4, l4, hl4, rfl, ho2⟩ := HA4.out.app [101] (k' := 57) (Nat.le_refl _) hown2 hg2 hor2; have HL4 := Lib.hid hl4; have HO4 := Lib.hid ho2; clear ho2 hl4 hown2 hg2 hor2 HA4 HR4)
    | (at_builtin; have HA5 := Lib.hid (HO4.out.alloc (.cells #[.int .u8 43] 5)); have HR5 := Lib.hid (reads_lit1 w4 43); refine wpList_append_any _ rfl (.tmp 132) (.tmp 134) 49 rfl W.heap.size 5 i0 _ 1 1 Tryz.underlying49 hi0 hz0 hz1 hz2 rfl (by omega) (.slice A4 l4.length c4) l4.length (bys l4) rfl HA5.out.own _ (some ⟨w4.heap.size, 0, none⟩) 1 1 [.int .u8 43] rfl HR5.out (by simp [Value.oneCell']) (HA5.out.room 1 (by decide)).1 (HA5.out.room 1 (by decide)).2 HA5.out.bel.size ?_; intro v2 w5 hown2 hg2 hor2; obtain ⟨A5, c5, l5, hl5, rfl, ho2⟩ := HA5.out.app [43] (k' := 56) (Nat.le_refl _) hown2 hg2 hor2; have HL5 := Lib.hid hl5; have HO5 := Lib.hid ho2; clear ho2 hl5 hown2 hg2 hor2 HA5 HR5)
    | (at_builtin; have HA6 := Lib.hid (HO5.out.alloc (.cells #[.int .u8 48, .int .u8 (b1.toNat : Int)] 5)); have HR6 := Lib.hid (reads_lit2 w5 48 (b1.toNat : Int)); refine wpList_append_any _ rfl (.tmp 155) (.tmp 159) 49 rfl W.heap.size 5 i0 _ 1 1 Tryz.underlying49 hi0 hz0 hz1 hz2 rfl (by omega) (.slice A5 l5.length c5) l5.length (bys l5) rfl HA6.out.own _ (some ⟨w5.heap.size, 0, none⟩) 2 2 [.int .u8 48, .int .u8 (b1.toNat : Int)] rfl HR6.out (by simp [Value.oneCell']) (HA6.out.room 2 (by decide)).1 (HA6.out.room 2 (by decide)).2 HA6.out.bel.size ?_; intro v2 w6 hown2 hg2 hor2; obtain ⟨A6, c6, l6, hl6, rfl, ho2⟩ := HA6.out.app [48, b1] (k' := 54) (Nat.le_refl _) hown2 hg2 hor2; have HL6 := Lib.hid hl6; have HO6 := Lib.hid ho2; clear ho2 hl6 hown2 hg2 hor2 HA6 HR6))
  go_ret
  exact ⟨_, _, _, rfl, by rw [HL6.out, HL5.out, HL4.out, HL3.out, HL2.out, HL1.out]; simp, HO6.out.fin⟩
set_option maxRecDepth 100000 in
set_option maxHeartbeats 1000000 in
theorem fm_np2 (W w : World) (A : Option Addr) (c g E : Nat) (ds : List UInt8) (y0 b1 b2 b3 : UInt8) (dp x : Int) (HO0 : Hid (EB W w g ds A c [] 90)) (k0 : w.cell? ⟨g, 0, none⟩ = some (.int .u8 (y0.toNat : Int))) (hdp : IntKind.i64.wrap (dp - 1) = x)
    (hx0 : x = (E : Int)) (hx1 : ¬ (E : Int) < 0)
    (r1 : ¬ E < 10) (r2 : E < 100) (q10 m10 : Nat) (d1 : (E : Int) / 10 = (q10 : Int)) (d2 : (E : Int) % 10 = (m10 : Int)) (d3 : IntKind.i64.wrap (q10 : Int) = (q10 : Int)) (e1 : IntKind.u8.wrap (q10 : Int) = (q10 : Int)) (e2 : IntKind.u8.wrap (m10 : Int) = (m10 : Int)) (e3 : IntKind.u8.wrap ((q10 : Int) + 48) = (b2.toNat : Int)) (e4 : IntKind.u8.wrap ((m10 : Int) + 48) = (b1.toNat : Int))
    (n1 : Nat) (hdl : ds.length = n1 + 1) (hn0 : 0 < n1) (hn1 : n1 ≤ 88) (hn32 : n1 < 31) (htl : (ds.drop 1).length = n1) (hn2 : (ds.drop 1).length + 58 ≤ 88) (hw1 : IntKind.i64.wrap ((n1 : Int) + 1) = (n1 : Int) + 1) (hmin : min ((n1 : Int) + 1) ((n1 : Int) + 1) = (n1 : Int) + 1) :
    Calls Tryz.prog 68 #[.slice A 0 c, .bool false, .slice (some ⟨g, 0, none⟩) 32 32, .int .i64 dp, .int .i64 ((n1 : Int) + 1), .int .i64 (n1 : Int), .int .u8 101, .bool true] w fun e w' => ∃ A' c' l', e = .returned (.slice A' l'.length c') ∧ l' = y0 :: (46 :: ds.drop 1 ++ 101 :: 43 :: [b2, b1]) ∧ OwnB W w' A' c' l' := by
  obtain ⟨i0, hi0, hz0, hz1, hz2⟩ := info_parts u8_info
  subst hx0
  go_enter Tryz.func68, Tryz.ntmps68
  go_wp2_with (first
    | (at_builtin; have HA1 := Lib.hid (HO0.out.alloc (.cells #[.int .u8 (y0.toNat : Int)] 5)); have HR1 := Lib.hid (reads_lit1 w (y0.toNat : Int)); refine wpList_append_any _ rfl (.tmp 87) (.tmp 89) 49 rfl W.heap.size 5 i0 _ 1 1 Tryz.underlying49 hi0 hz0 hz1 hz2 rfl (by omega) (.slice A ([] : List UInt8).length c) ([] : List UInt8).length (bys ([] : List UInt8)) rfl HA1.out.own _ (some ⟨w.heap.size, 0, none⟩) 1 1 [.int .u8 (y0.toNat : Int)] rfl HR1.out (by simp [Value.oneCell']) (HA1.out.room 1 (by decide)).1 (HA1.out.room 1 (by decide)).2 HA1.out.bel.size ?_; intro v2 w1 hown2 hg2 hor2; obtain ⟨A1, c1, l1, hl1, rfl, ho2⟩ := HA1.out.app [y0] (k' := 89) (Nat.le_refl _) hown2 hg2 hor2; have HL1 := Lib.hid hl1; have HO1 := Lib.hid ho2; clear ho2 hl1 hown2 hg2 hor2 HA1 HR1)
    | (at_builtin; have HA2 := Lib.hid (HO1.out.alloc (.cells #[.int .u8 46] 5)); have HR2 := Lib.hid (reads_lit1 w1 46); refine wpList_append_any _ rfl (.tmp 93) (.tmp 94) 49 rfl W.heap.size 5 i0 _ 1 1 Tryz.underlying49 hi0 hz0 hz1 hz2 rfl (by omega) (.slice A1 l1.length c1) l1.length (bys l1) rfl HA2.out.own _ (some ⟨w1.heap.size, 0, none⟩) 1 1 [.int .u8 46] rfl HR2.out (by simp [Value.oneCell']) (HA2.out.room 1 (by decide)).1 (HA2.out.room 1 (by decide)).2 HA2.out.bel.size ?_; intro v2 w2 hown2 hg2 hor2; obtain ⟨A2, c2, l2, hl2, rfl, ho2⟩ := HA2.out.app [46] (k' := 88) (Nat.le_refl _) hown2 hg2 hor2; have HL2 := Lib.hid hl2; have HO2 := Lib.hid ho2; clear ho2 hl2 hown2 hg2 hor2 HA2 HR2)
    | (at_builtin; have HR3 := Lib.hid (HO2.out.tail hdl); refine wpList_append_any _ rfl (.tmp 103) (.tmp 107) 49 rfl W.heap.size 5 i0 _ 1 1 Tryz.underlying49 hi0 hz0 hz1 hz2 rfl (by omega) (.slice A2 l2.length c2) l2.length (bys l2) rfl HO2.out.own _ (some ⟨g, 1, none⟩) n1 31 (bys (ds.drop 1)) rfl HR3.out (oneC _) (HO2.out.room n1 hn1).1 (HO2.out.room n1 hn1).2 HO2.out.bel.size ?_; intro v2 w3 hown2 hg2 hor2; obtain ⟨A3, c3, l3, hl3, rfl, ho2⟩ := HO2.out.app (ds.drop 1) (k' := 58) hn2 (by rw [htl]; exact hown2) hg2 hor2; have HL3 := Lib.hid hl3; have HO3 := Lib.hid ho2; clear ho2 hl3 hown2 hg2 hor2 HR3))
  go_loopw [0, 114] (fun u v wr => u = .slice A3 l3.length c3 ∧ v = .int .i64 0 ∧ w3 = wr) (fun _ _ _ => 0)
  case atStart => exact ⟨rfl, by first | rfl | simp, rfl⟩
  case round =>
  obtain ⟨rfl, rfl, rfl⟩ := hrel
  go_wp2_with (first
    | (at_builtin; have HA4 := Lib.hid (HO3.out.alloc (.cells #[.int .u8 101] 5)); have HR4 := Lib.hid (reads_lit1 w3 101); refine wpList_append_any _ rfl (.tmp 120) (.tmp 122) 49 rfl W.heap.size 5 i0 _ 1 1 Tryz.underlying49 hi0 hz0 hz1 hz2 rfl (by omega) (.slice A3 l3.length c3) l3.length (bys l3) rfl HA4.out.own _ (some ⟨w3.heap.size, 0, none⟩) 1 1 [.int .u8 101] rfl HR4.out (by simp [Value.oneCell']) (HA4.out.room 1 (by decide)).1 (HA4.out.room 1 (by decide)).2 HA4.out.bel.size ?_; intro v2 w4 hown2 hg2 hor2; obtain ⟨A4, c4, l4, hl4, rfl, ho2⟩ := HA4.out.app [101] (k' := 57) (Nat.le_refl _) hown2 hg2 hor2; have HL4 := Lib.hid hl4; have HO4 := Lib.hid ho2; clear ho2 hl4 hown2 hg2 hor2 HA4 HR4)
    | (at_builtin; have HA5 := Lib.hid (HO4.out.alloc (.cells #[.int .u8 43] 5)); have HR5 := Lib.hid (reads_lit1 w4 43); refine wpList_append_any _ rfl (.tmp 132) (.tmp 134) 49 rfl W.heap.size 5 i0 _ 1 1 Tryz.underlying49 hi0 hz0 hz1 hz2 rfl (by omega) (.slice A4 l4.length c4) l4.length (bys l4) rfl HA5.out.own _ (some ⟨w4.heap.size, 0, none⟩) 1 1 [.int .u8 43] rfl HR5.out (by simp [Value.oneCell']) (HA5.out.room 1 (by decide)).1 (HA5.out.room 1 (by decide)).2 HA5.out.bel.size ?_; intro v2 w5 hown2 hg2 hor2; obtain ⟨A5, c5, l5, hl5, rfl, ho2⟩ := HA5.out.app [43] (k' := 56) (Nat.le_refl _) hown2 hg2 hor2; have HL5 := Lib.hid hl5; have HO5 := Lib.hid ho2; clear ho2 hl5 hown2 hg2 hor2 HA5 HR5)
    | (at_builtin; have HA6 := Lib.hid (HO5.out.alloc (.cells #[.int .u8 (b2.toNat : Int), .int .u8 (b1.toNat : Int)] 5)); have HR6 := Lib.hid (reads_lit2 w5 (b2.toNat : Int) (b1.toNat : Int)); refine wpList_append_any _ rfl (.tmp 164) (.tmp 173) 49 rfl W.heap.size 5 i0 _ 1 1 Tryz.underlying49 hi0 hz0 hz1 hz2 rfl (by omega) (.slice A5 l5.length c5) l5.length (bys l5) rfl HA6.out.own _ (some ⟨w5.heap.size, 0, none⟩) 2 2 [.int .u8 (b2.toNat : Int), .int .u8 (b1.toNat : Int)] rfl HR6.out (by simp [Value.oneCell']) (HA6.out.room 2 (by decide)).1 (HA6.out.room 2 (by decide)).2 HA6.out.bel.size ?_; intro v2 w6 hown2 hg2 hor2; obtain ⟨A6, c6, l6, hl6, rfl, ho2⟩ := HA6.out.app [b2, b1] (k' := 54) (Nat.le_refl _) hown2 hg2 hor2; have HL6 := Lib.hid hl6; have HO6 := Lib.hid ho2; clear ho2 hl6 hown2 hg2 hor2 HA6 HR6))
  go_ret
  exact ⟨_, _, _, rfl, by rw [HL6.out, HL5.out, HL4.out, HL3.out, HL2.out, HL1.out]; simp, HO6.out.fin⟩
set_option maxRecDepth 100000 in
set_option maxHeartbeats 1000000 in
theorem fm_np3 (W w : World) (A : Option Addr) (c g E : Nat) (ds : List UInt8) (y0 b1 b2 b3 : UInt8) (dp x : Int) (HO0 : Hid (EB W w g ds A c [] 90)) (k0 : w.cell? ⟨g, 0, none⟩ = some (.int .u8 (y0.toNat : Int))) (hdp : IntKind.i64.wrap (dp - 1) = x)
    (hx0 : x = (E : Int)) (hx1 : ¬ (E : Int) < 0)
    (r1 : ¬ E < 10) (r2 : ¬ E < 100) (q100 q10 m10 mm : Nat) (d0 : (E : Int) / 100 = (q100 : Int)) (d1 : (E : Int) / 10 = (q10 : Int)) (d2 : (E : Int) % 10 = (m10 : Int)) (d3 : IntKind.i64.wrap (q10 : Int) = (q10 : Int)) (d4 : IntKind.i64.wrap (q100 : Int) = (q100 : Int)) (e0 : IntKind.u8.wrap (q100 : Int) = (q100 : Int)) (e1 : IntKind.u8.wrap (q10 : Int) = (q10 : Int)) (e2 : IntKind.u8.wrap (m10 : Int) = (m10 : Int)) (d5 : (q10 : Int) % 10 = (mm : Int)) (e5 : IntKind.u8.wrap ((q100 : Int) + 48) = (b3.toNat : Int)) (e3 : IntKind.u8.wrap ((mm : Int) + 48) = (b2.toNat : Int)) (e4 : IntKind.u8.wrap ((m10 : Int) + 48) = (b1.toNat : Int))
    (n1 : Nat) (hdl : ds.length = n1 + 1) (hn0 : 0 < n1) (hn1 : n1 ≤ 88) (hn32 : n1 < 31) (htl : (ds.drop 1).length = n1) (hn2 : (ds.drop 1).length + 58 ≤ 88) (hw1 : IntKind.i64.wrap ((n1 : Int) + 1) = (n1 : Int) + 1) (hmin : min ((n1 : Int) + 1) ((n1 : Int) + 1) = (n1 : Int) + 1) :
    Calls Tryz.prog 68 #[.slice A 0 c, .bool false, .slice (some ⟨g, 0, none⟩) 32 32, .int .i64 dp, .int .i64 ((n1 : Int) + 1), .int .i64 (n1 : Int), .int .u8 101, .bool true] w fun e w' => ∃ A' c' l', e = .returned (.slice A' l'.length c') ∧ l' = y0 :: (46 :: ds.drop 1 ++ 101 :: 43 :: [b3, b2, b1]) ∧ OwnB W w' A' c' l' := by
  obtain ⟨i0, hi0, hz0, hz1, hz2⟩ := info_parts u8_info
  subst hx0
  go_enter Tryz.func68, Tryz.ntmps68
  go_wp2_with (first
    | (at_builtin; have HA1 := Lib.hid (HO0.out.alloc (.cells #[.int .u8 (y0.toNat : Int)] 5)); have HR1 := Lib.hid (reads_lit1 w (y0.toNat : Int)); refine wpList_append_any _ rfl (.tmp 87) (.tmp 89) 49 rfl W.heap.size 5 i0 _ 1 1 Tryz.underlying49 hi0 hz0 hz1 hz2 rfl (by omega) (.slice A ([] : List UInt8).length c) ([] : List UInt8).length (bys ([] : List UInt8)) rfl HA1.out.own _ (some ⟨w.heap.size, 0, none⟩) 1 1 [.int .u8 (y0.toNat : Int)] rfl HR1.out (by simp [Value.oneCell']) (HA1.out.room 1 (by decide)).1 (HA1.out.room 1 (by decide)).2 HA1.out.bel.size ?_; intro v2 w1 hown2 hg2 hor2; obtain ⟨A1, c1, l1, hl1, rfl, ho2⟩ := HA1.out.app [y0] (k' := 89) (Nat.le_refl _) hown2 hg2 hor2; have HL1 := Lib.hid hl1; have HO1 := Lib.hid ho2; clear ho2 hl1 hown2 hg2 hor2 HA1 HR1)
    | (at_builtin; have HA2 := Lib.hid (HO1.out.alloc (.cells #[.int .u8 46] 5)); have HR2 := Lib.hid (reads_lit1 w1 46); refine wpList_append_any _ rfl (.tmp 93) (.tmp 94) 49 rfl W.heap.size 5 i0 _ 1 1 Tryz.underlying49 hi0 hz0 hz1 hz2 rfl (by omega) (.slice A1 l1.length c1) l1.length (bys l1) rfl HA2.out.own _ (some ⟨w1.heap.size, 0, none⟩) 1 1 [.int .u8 46] rfl HR2.out (by simp [Value.oneCell']) (HA2.out.room 1 (by decide)).1 (HA2.out.room 1 (by decide)).2 HA2.out.bel.size ?_; intro v2 w2 hown2 hg2 hor2; obtain ⟨A2, c2, l2, hl2, rfl, ho2⟩ := HA2.out.app [46] (k' := 88) (Nat.le_refl _) hown2 hg2 hor2; have HL2 := Lib.hid hl2; have HO2 := Lib.hid ho2; clear ho2 hl2 hown2 hg2 hor2 HA2 HR2)
    | (at_builtin; have HR3 := Lib.hid (HO2.out.tail hdl); refine wpList_append_any _ rfl (.tmp 103) (.tmp 107) 49 rfl W.heap.size 5 i0 _ 1 1 Tryz.underlying49 hi0 hz0 hz1 hz2 rfl (by omega) (.slice A2 l2.length c2) l2.length (bys l2) rfl HO2.out.own _ (some ⟨g, 1, none⟩) n1 31 (bys (ds.drop 1)) rfl HR3.out (oneC _) (HO2.out.room n1 hn1).1 (HO2.out.room n1 hn1).2 HO2.out.bel.size ?_; intro v2 w3 hown2 hg2 hor2; obtain ⟨A3, c3, l3, hl3, rfl, ho2⟩ := HO2.out.app (ds.drop 1) (k' := 58) hn2 (by rw [htl]; exact hown2) hg2 hor2; have HL3 := Lib.hid hl3; have HO3 := Lib.hid ho2; clear ho2 hl3 hown2 hg2 hor2 HR3))
  go_loopw [0, 114] (fun u v wr => u = .slice A3 l3.length c3 ∧ v = .int .i64 0 ∧ w3 = wr) (fun _ _ _ => 0)
  case atStart => exact ⟨rfl, by first | rfl | simp, rfl⟩
  case round =>
  obtain ⟨rfl, rfl, rfl⟩ := hrel
  go_wp2_with (first
    | (at_builtin; have HA4 := Lib.hid (HO3.out.alloc (.cells #[.int .u8 101] 5)); have HR4 := Lib.hid (reads_lit1 w3 101); refine wpList_append_any _ rfl (.tmp 120) (.tmp 122) 49 rfl W.heap.size 5 i0 _ 1 1 Tryz.underlying49 hi0 hz0 hz1 hz2 rfl (by omega) (.slice A3 l3.length c3) l3.length (bys l3) rfl HA4.out.own _ (some ⟨w3.heap.size, 0, none⟩) 1 1 [.int .u8 101] rfl HR4.out (by simp [Value.oneCell']) (HA4.out.room 1 (by decide)).1 (HA4.out.room 1 (by decide)).2 HA4.out.bel.size ?_; intro v2 w4 hown2 hg2 hor2; obtain ⟨A4, c4, l4, hl4, rfl, ho2⟩ := HA4.out.app [101] (k' := 57) (Nat.le_refl _) hown2 hg2 hor2; have HL4 := Lib.hid hl4; have HO4 := Lib.hid ho2; clear ho2 hl4 hown2 hg2 hor2 HA4 HR4)
    | (at_builtin; have HA5 := Lib.hid (HO4.out.alloc (.cells #[.int .u8 43] 5)); have HR5 := Lib.hid (reads_lit1 w4 43); refine wpList_append_any _ rfl (.tmp 132) (.tmp 134) 49 rfl W.heap.size 5 i0 _ 1 1 Tryz.underlying49 hi0 hz0 hz1 hz2 rfl (by omega) (.slice A4 l4.length c4) l4.length (bys l4) rfl HA5.out.own _ (some ⟨w4.heap.size, 0, none⟩) 1 1 [.int .u8 43] rfl HR5.out (by simp [Value.oneCell']) (HA5.out.room 1 (by decide)).1 (HA5.out.room 1 (by decide)).2 HA5.out.bel.size ?_; intro v2 w5 hown2 hg2 hor2; obtain ⟨A5, c5, l5, hl5, rfl, ho2⟩ := HA5.out.app [43] (k' := 56) (Nat.le_refl _) hown2 hg2 hor2; have HL5 := Lib.hid hl5; have HO5 := Lib.hid ho2; clear ho2 hl5 hown2 hg2 hor2 HA5 HR5)
    | (at_builtin; have HA6 := Lib.hid (HO5.out.alloc (.cells #[.int .u8 (b3.toNat : Int), .int .u8 (b2.toNat : Int), .int .u8 (b1.toNat : Int)] 5)); have HR6 := Lib.hid (reads_lit3 w5 (b3.toNat : Int) (b2.toNat : Int) (b1.toNat : Int)); refine wpList_append_any _ rfl (.tmp 136) (.tmp 150) 49 rfl W.heap.size 5 i0 _ 1 1 Tryz.underlying49 hi0 hz0 hz1 hz2 rfl (by omega) (.slice A5 l5.length c5) l5.length (bys l5) rfl HA6.out.own _ (some ⟨w5.heap.size, 0, none⟩) 3 3 [.int .u8 (b3.toNat : Int), .int .u8 (b2.toNat : Int), .int .u8 (b1.toNat : Int)] rfl HR6.out (by simp [Value.oneCell']) (HA6.out.room 3 (by decide)).1 (HA6.out.room 3 (by decide)).2 HA6.out.bel.size ?_; intro v2 w6 hown2 hg2 hor2; obtain ⟨A6, c6, l6, hl6, rfl, ho2⟩ := HA6.out.app [b3, b2, b1] (k' := 53) (Nat.le_refl _) hown2 hg2 hor2; have HL6 := Lib.hid hl6; have HO6 := Lib.hid ho2; clear ho2 hl6 hown2 hg2 hor2 HA6 HR6))
  go_ret
  exact ⟨_, _, _, rfl, by rw [HL6.out, HL5.out, HL4.out, HL3.out, HL2.out, HL1.out]; simp, HO6.out.fin⟩
set_option maxRecDepth 100000 in
set_option maxHeartbeats 1000000 in
theorem fm_nm1 (W w : World) (A : Option Addr) (c g E : Nat) (ds : List UInt8) (y0 b1 b2 b3 : UInt8) (dp x : Int) (HO0 : Hid (EB W w g ds A c [] 90)) (k0 : w.cell? ⟨g, 0, none⟩ = some (.int .u8 (y0.toNat : Int))) (hdp : IntKind.i64.wrap (dp - 1) = x)
    (hx0 : x < 0) (hxn : IntKind.i64.wrap (-x) = (E : Int))
    (r1 : E < 10) (e1 : IntKind.u8.wrap (E : Int) = (E : Int)) (e2 : IntKind.u8.wrap ((E : Int) + 48) = (b1.toNat : Int))
    (n1 : Nat) (hdl : ds.length = n1 + 1) (hn0 : 0 < n1) (hn1 : n1 ≤ 88) (hn32 : n1 < 31) (htl : (ds.drop 1).length = n1) (hn2 : (ds.drop 1).length + 58 ≤ 88) (hw1 : IntKind.i64.wrap ((n1 : Int) + 1) = (n1 : Int) + 1) (hmin : min ((n1 : Int) + 1) ((n1 : Int) + 1) = (n1 : Int) + 1) :
    Calls Tryz.prog 68 #[.slice A 0 c, .bool false, .slice (some ⟨g, 0, none⟩) 32 32, .int .i64 dp, .int .i64 ((n1 : Int) + 1), .int .i64 (n1 : Int), .int .u8 101, .bool true] w fun e w' => ∃ A' c' l', e = .returned (.slice A' l'.length c') ∧ l' = y0 :: (46 :: ds.drop 1 ++ 101 :: 45 :: [48, b1]) ∧ OwnB W w' A' c' l' := by
  obtain ⟨i0, hi0, hz0, hz1, hz2⟩ := info_parts u8_info
  go_enter Tryz.func68, Tryz.ntmps68
  go_wp2_with (first
    | (at_builtin; have HA1 := Lib.hid (HO0.out.alloc (.cells #[.int .u8 (y0.toNat : Int)] 5)); have HR1 := Lib.hid (reads_lit1 w (y0.toNat : Int)); refine wpList_append_any _ rfl (.tmp 87) (.tmp 89) 49 rfl W.heap.size 5 i0 _ 1 1 Tryz.underlying49 hi0 hz0 hz1 hz2 rfl (by omega) (.slice A ([] : List UInt8).length c) ([] : List UInt8).length (bys ([] : List UInt8)) rfl HA1.out.own _ (some ⟨w.heap.size, 0, none⟩) 1 1 [.int .u8 (y0.toNat : Int)] rfl HR1.out (by simp [Value.oneCell']) (HA1.out.room 1 (by decide)).1 (HA1.out.room 1 (by decide)).2 HA1.out.bel.size ?_; intro v2 w1 hown2 hg2 hor2; obtain ⟨A1, c1, l1, hl1, rfl, ho2⟩ := HA1.out.app [y0] (k' := 89) (Nat.le_refl _) hown2 hg2 hor2; have HL1 := Lib.hid hl1; have HO1 := Lib.hid ho2; clear ho2 hl1 hown2 hg2 hor2 HA1 HR1)
    | (at_builtin; have HA2 := Lib.hid (HO1.out.alloc (.cells #[.int .u8 46] 5)); have HR2 := Lib.hid (reads_lit1 w1 46); refine wpList_append_any _ rfl (.tmp 93) (.tmp 94) 49 rfl W.heap.size 5 i0 _ 1 1 Tryz.underlying49 hi0 hz0 hz1 hz2 rfl (by omega) (.slice A1 l1.length c1) l1.length (bys l1) rfl HA2.out.own _ (some ⟨w1.heap.size, 0, none⟩) 1 1 [.int .u8 46] rfl HR2.out (by simp [Value.oneCell']) (HA2.out.room 1 (by decide)).1 (HA2.out.room 1 (by decide)).2 HA2.out.bel.size ?_; intro v2 w2 hown2 hg2 hor2; obtain ⟨A2, c2, l2, hl2, rfl, ho2⟩ := HA2.out.app [46] (k' := 88) (Nat.le_refl _) hown2 hg2 hor2; have HL2 := Lib.hid hl2; have HO2 := Lib.hid ho2; clear ho2 hl2 hown2 hg2 hor2 HA2 HR2)
    | (at_builtin; have HR3 := Lib.hid (HO2.out.tail hdl); refine wpList_append_any _ rfl (.tmp 103) (.tmp 107) 49 rfl W.heap.size 5 i0 _ 1 1 Tryz.underlying49 hi0 hz0 hz1 hz2 rfl (by omega) (.slice A2 l2.length c2) l2.length (bys l2) rfl HO2.out.own _ (some ⟨g, 1, none⟩) n1 31 (bys (ds.drop 1)) rfl HR3.out (oneC _) (HO2.out.room n1 hn1).1 (HO2.out.room n1 hn1).2 HO2.out.bel.size ?_; intro v2 w3 hown2 hg2 hor2; obtain ⟨A3, c3, l3, hl3, rfl, ho2⟩ := HO2.out.app (ds.drop 1) (k' := 58) hn2 (by rw [htl]; exact hown2) hg2 hor2; have HL3 := Lib.hid hl3; have HO3 := Lib.hid ho2; clear ho2 hl3 hown2 hg2 hor2 HR3))
  go_loopw [0, 114] (fun u v wr => u = .slice A3 l3.length c3 ∧ v = .int .i64 0 ∧ w3 = wr) (fun _ _ _ => 0)
  case atStart => exact ⟨rfl, by first | rfl | simp, rfl⟩
  case round =>
  obtain ⟨rfl, rfl, rfl⟩ := hrel
  go_wp2_with (first
    | (at_builtin; have HA4 := Lib.hid (HO3.out.alloc (.cells #[.int .u8 101] 5)); have HR4 := Lib.hid (reads_lit1 w3 101); refine wpList_append_any _ rfl (.tmp 120) (.tmp 122) 49 rfl W.heap.size 5 i0 _ 1 1 Tryz.underlying49 hi0 hz0 hz1 hz2 rfl (by omega) (.slice A3 l3.length c3) l3.length (bys l3) rfl HA4.out.own _ (some ⟨w3.heap.size, 0, none⟩) 1 1 [.int .u8 101] rfl HR4.out (by simp [Value.oneCell']) (HA4.out.room 1 (by decide)).1 (HA4.out.room 1 (by decide)).2 HA4.out.bel.size ?_; intro v2 w4 hown2 hg2 hor2; obtain ⟨A4, c4, l4, hl4, rfl, ho2⟩ := HA4.out.app [101] (k' := 57) (Nat.le_refl _) hown2 hg2 hor2; have HL4 := Lib.hid hl4; have HO4 := Lib.hid ho2; clear ho2 hl4 hown2 hg2 hor2 HA4 HR4)
    | (at_builtin; have HA5 := Lib.hid (HO4.out.alloc (.cells #[.int .u8 45] 5)); have HR5 := Lib.hid (reads_lit1 w4 45); refine wpList_append_any _ rfl (.tmp 132) (.tmp 134) 49 rfl W.heap.size 5 i0 _ 1 1 Tryz.underlying49 hi0 hz0 hz1 hz2 rfl (by omega) (.slice A4 l4.length c4) l4.length (bys l4) rfl HA5.out.own _ (some ⟨w4.heap.size, 0, none⟩) 1 1 [.int .u8 45] rfl HR5.out (by simp [Value.oneCell']) (HA5.out.room 1 (by decide)).1 (HA5.out.room 1 (by decide)).2 HA5.out.bel.size ?_; intro v2 w5 hown2 hg2 hor2; obtain ⟨A5, c5, l5, hl5, rfl, ho2⟩ := HA5.out.app [45] (k' := 56) (Nat.le_refl _) hown2 hg2 hor2; have HL5 := Lib.hid hl5; have HO5 := Lib.hid ho2; clear ho2 hl5 hown2 hg2 hor2 HA5 HR5)
    | (at_builtin; have HA6 := Lib.hid (HO5.out.alloc (.cells #[.int .u8 48, .int .u8 (b1.toNat : Int)] 5)); have HR6 := Lib.hid (reads_lit2 w5 48 (b1.toNat : Int)); refine wpList_append_any _ rfl (.tmp 155) (.tmp 159) 49 rfl W.heap.size 5 i0 _ 1 1 Tryz.underlying49 hi0 hz0 hz1 hz2 rfl (by omega) (.slice A5 l5.length c5) l5.length (bys l5) rfl HA6.out.own _ (some ⟨w5.heap.size, 0, none⟩) 2 2 [.int .u8 48, .int .u8 (b1.toNat : Int)] rfl HR6.out (by simp [Value.oneCell']) (HA6.out.room 2 (by decide)).1 (HA6.out.room 2 (by decide)).2 HA6.out.bel.size ?_; intro v2 w6 hown2 hg2 hor2; obtain ⟨A6, c6, l6, hl6, rfl, ho2⟩ := HA6.out.app [48, b1] (k' := 54) (Nat.le_refl _) hown2 hg2 hor2; have HL6 := Lib.hid hl6; have HO6 := Lib.hid ho2; clear ho2 hl6 hown2 hg2 hor2 HA6 HR6))
  go_ret
  exact ⟨_, _, _, rfl, by rw [HL6.out, HL5.out, HL4.out, HL3.out, HL2.out, HL1.out]; simp, HO6.out.fin⟩
set_option maxRecDepth 100000 in
set_option maxHeartbeats 1000000 in
theorem fm_nm2 (W w : World) (A : Option Addr) (c g E : Nat) (ds : List UInt8) (y0 b1 b2 b3 : UInt8) (dp x : Int) (HO0 : Hid (EB W w g ds A c [] 90)) (k0 : w.cell? ⟨g, 0, none⟩ = some (.int .u8 (y0.toNat : Int))) (hdp : IntKind.i64.wrap (dp - 1) = x)
    (hx0 : x < 0) (hxn : IntKind.i64.wrap (-x) = (E : Int))
    (r1 : ¬ E < 10) (r2 : E < 100) (q10 m10 : Nat) (d1 : (E : Int) / 10 = (q10 : Int)) (d2 : (E : Int) % 10 = (m10 : Int)) (d3 : IntKind.i64.wrap (q10 : Int) = (q10 : Int)) (e1 : IntKind.u8.wrap (q10 : Int) = (q10 : Int)) (e2 : IntKind.u8.wrap (m10 : Int) = (m10 : Int)) (e3 : IntKind.u8.wrap ((q10 : Int) + 48) = (b2.toNat : Int)) (e4 : IntKind.u8.wrap ((m10 : Int) + 48) = (b1.toNat : Int))
    (n1 : Nat) (hdl : ds.length = n1 + 1) (hn0 : 0 < n1) (hn1 : n1 ≤ 88) (hn32 : n1 < 31) (htl : (ds.drop 1).length = n1) (hn2 : (ds.drop 1).length + 58 ≤ 88) (hw1 : IntKind.i64.wrap ((n1 : Int) + 1) = (n1 : Int) + 1) (hmin : min ((n1 : Int) + 1) ((n1 : Int) + 1) = (n1 : Int) + 1) :
    Calls Tryz.prog 68 #[.slice A 0 c, .bool false, .slice (some ⟨g, 0, none⟩) 32 32, .int .i64 dp, .int .i64 ((n1 : Int) + 1), .int .i64 (n1 : Int), .int .u8 101, .bool true] w fun e w' => ∃ A' c' l', e = .returned (.slice A' l'.length c') ∧ l' = y0 :: (46 :: ds.drop 1 ++ 101 :: 45 :: [b2, b1]) ∧ OwnB W w' A' c' l' := by
  obtain ⟨i0, hi0, hz0, hz1, hz2⟩ := info_parts u8_info
  go_enter Tryz.func68, Tryz.ntmps68
  go_wp2_with (first
    | (at_builtin; have HA1 := Lib.hid (HO0.out.alloc (.cells #[.int .u8 (y0.toNat : Int)] 5)); have HR1 := Lib.hid (reads_lit1 w (y0.toNat : Int)); refine wpList_append_any _ rfl (.tmp 87) (.tmp 89) 49 rfl W.heap.size 5 i0 _ 1 1 Tryz.underlying49 hi0 hz0 hz1 hz2 rfl (by omega) (.slice A ([] : List UInt8).length c) ([] : List UInt8).length (bys ([] : List UInt8)) rfl HA1.out.own _ (some ⟨w.heap.size, 0, none⟩) 1 1 [.int .u8 (y0.toNat : Int)] rfl HR1.out (by simp [Value.oneCell']) (HA1.out.room 1 (by decide)).1 (HA1.out.room 1 (by decide)).2 HA1.out.bel.size ?_; intro v2 w1 hown2 hg2 hor2; obtain ⟨A1, c1, l1, hl1, rfl, ho2⟩ := HA1.out.app [y0] (k' := 89) (Nat.le_refl _) hown2 hg2 hor2; have HL1 := Lib.hid hl1; have HO1 := Lib.hid ho2; clear ho2 hl1 hown2 hg2 hor2 HA1 HR1)
    | (at_builtin; have HA2 := Lib.hid (HO1.out.alloc (.cells #[.int .u8 46] 5)); have HR2 := Lib.hid (reads_lit1 w1 46); refine wpList_append_any _ rfl (.tmp 93) (.tmp 94) 49 rfl W.heap.size 5 i0 _ 1 1 Tryz.underlying49 hi0 hz0 hz1 hz2 rfl (by omega) (.slice A1 l1.length c1) l1.length (bys l1) rfl HA2.out.own _ (some ⟨w1.heap.size, 0, none⟩) 1 1 [.int .u8 46] rfl HR2.out (by simp [Value.oneCell']) (HA2.out.room 1 (by decide)).1 (HA2.out.room 1 (by decide)).2 HA2.out.bel.size ?_; intro v2 w2 hown2 hg2 hor2; obtain ⟨A2, c2, l2, hl2, rfl, ho2⟩ := HA2.out.app [46] (k' := 88) (Nat.le_refl _) hown2 hg2 hor2; have HL2 := Lib.hid hl2; have HO2 := Lib.hid ho2; clear ho2 hl2 hown2 hg2 hor2 HA2 HR2)
    | (at_builtin; have HR3 := Lib.hid (HO2.out.tail hdl); refine wpList_append_any _ rfl (.tmp 103) (.tmp 107) 49 rfl W.heap.size 5 i0 _ 1 1 Tryz.underlying49 hi0 hz0 hz1 hz2 rfl (by omega) (.slice A2 l2.length c2) l2.length (bys l2) rfl HO2.out.own _ (some ⟨g, 1, none⟩) n1 31 (bys (ds.drop 1)) rfl HR3.out (oneC _) (HO2.out.room n1 hn1).1 (HO2.out.room n1 hn1).2 HO2.out.bel.size ?_; intro v2 w3 hown2 hg2 hor2; obtain ⟨A3, c3, l3, hl3, rfl, ho2⟩ := HO2.out.app (ds.drop 1) (k' := 58) hn2 (by rw [htl]; exact hown2) hg2 hor2; have HL3 := Lib.hid hl3; have HO3 := Lib.hid ho2; clear ho2 hl3 hown2 hg2 hor2 HR3))
  go_loopw [0, 114] (fun u v wr => u = .slice A3 l3.length c3 ∧ v = .int .i64 0 ∧ w3 = wr) (fun _ _ _ => 0)
  case atStart => exact ⟨rfl, by first | rfl | simp, rfl⟩
  case round =>
  obtain ⟨rfl, rfl, rfl⟩ := hrel
  go_wp2_with (first
    | (at_builtin; have HA4 := Lib.hid (HO3.out.alloc (.cells #[.int .u8 101] 5)); have HR4 := Lib.hid (reads_lit1 w3 101); refine wpList_append_any _ rfl (.tmp 120) (.tmp 122) 49 rfl W.heap.size 5 i0 _ 1 1 Tryz.underlying49 hi0 hz0 hz1 hz2 rfl (by omega) (.slice A3 l3.length c3) l3.length (bys l3) rfl HA4.out.own _ (some ⟨w3.heap.size, 0, none⟩) 1 1 [.int .u8 101] rfl HR4.out (by simp [Value.oneCell']) (HA4.out.room 1 (by decide)).1 (HA4.out.room 1 (by decide)).2 HA4.out.bel.size ?_; intro v2 w4 hown2 hg2 hor2; obtain ⟨A4, c4, l4, hl4, rfl, ho2⟩ := HA4.out.app [101] (k' := 57) (Nat.le_refl _) hown2 hg2 hor2; have HL4 := Lib.hid hl4; have HO4 := Lib.hid ho2; clear ho2 hl4 hown2 hg2 hor2 HA4 HR4)
    | (at_builtin; have HA5 := Lib.hid (HO4.out.alloc (.cells #[.int .u8 45] 5)); have HR5 := Lib.hid (reads_lit1 w4 45); refine wpList_append_any _ rfl (.tmp 132) (.tmp 134) 49 rfl W.heap.size 5 i0 _ 1 1 Tryz.underlying49 hi0 hz0 hz1 hz2 rfl (by omega) (.slice A4 l4.length c4) l4.length (bys l4) rfl HA5.out.own _ (some ⟨w4.heap.size, 0, none⟩) 1 1 [.int .u8 45] rfl HR5.out (by simp [Value.oneCell']) (HA5.out.room 1 (by decide)).1 (HA5.out.room 1 (by decide)).2 HA5.out.bel.size ?_; intro v2 w5 hown2 hg2 hor2; obtain ⟨A5, c5, l5, hl5, rfl, ho2⟩ := HA5.out.app [45] (k' := 56) (Nat.le_refl _) hown2 hg2 hor2; have HL5 := Lib.hid hl5; have HO5 := Lib.hid ho2; clear ho2 hl5 hown2 hg2 hor2 HA5 HR5)
    | (at_builtin; have HA6 := Lib.hid (HO5.out.alloc (.cells #[.int .u8 (b2.toNat : Int), .int .u8 (b1.toNat : Int)] 5)); have HR6 := Lib.hid (reads_lit2 w5 (b2.toNat : Int) (b1.toNat : Int)); refine wpList_append_any _ rfl (.tmp 164) (.tmp 173) 49 rfl W.heap.size 5 i0 _ 1 1 Tryz.underlying49 hi0 hz0 hz1 hz2 rfl (by omega) (.slice A5 l5.length c5) l5.length (bys l5) rfl HA6.out.own _ (some ⟨w5.heap.size, 0, none⟩) 2 2 [.int .u8 (b2.toNat : Int), .int .u8 (b1.toNat : Int)] rfl HR6.out (by simp [Value.oneCell']) (HA6.out.room 2 (by decide)).1 (HA6.out.room 2 (by decide)).2 HA6.out.bel.size ?_; intro v2 w6 hown2 hg2 hor2; obtain ⟨A6, c6, l6, hl6, rfl, ho2⟩ := HA6.out.app [b2, b1] (k' := 54) (Nat.le_refl _) hown2 hg2 hor2; have HL6 := Lib.hid hl6; have HO6 := Lib.hid ho2; clear ho2 hl6 hown2 hg2 hor2 HA6 HR6))
  go_ret
  exact ⟨_, _, _, rfl, by rw [HL6.out, HL5.out, HL4.out, HL3.out, HL2.out, HL1.out]; simp, HO6.out.fin⟩
set_option maxRecDepth 100000 in
set_option maxHeartbeats 1000000 in
theorem fm_nm3 (W w : World) (A : Option Addr) (c g E : Nat) (ds : List UInt8) (y0 b1 b2 b3 : UInt8) (dp x : Int) (HO0 : Hid (EB W w g ds A c [] 90)) (k0 : w.cell? ⟨g, 0, none⟩ = some (.int .u8 (y0.toNat : Int))) (hdp : IntKind.i64.wrap (dp - 1) = x)
    (hx0 : x < 0) (hxn : IntKind.i64.wrap (-x) = (E : Int))
    (r1 : ¬ E < 10) (r2 : ¬ E < 100) (q100 q10 m10 mm : Nat) (d0 : (E : Int) / 100 = (q100 : Int)) (d1 : (E : Int) / 10 = (q10 : Int)) (d2 : (E : Int) % 10 = (m10 : Int)) (d3 : IntKind.i64.wrap (q10 : Int) = (q10 : Int)) (d4 : IntKind.i64.wrap (q100 : Int) = (q100 : Int)) (e0 : IntKind.u8.wrap (q100 : Int) = (q100 : Int)) (e1 : IntKind.u8.wrap (q10 : Int) = (q10 : Int)) (e2 : IntKind.u8.wrap (m10 : Int) = (m10 : Int)) (d5 : (q10 : Int) % 10 = (mm : Int)) (e5 : IntKind.u8.wrap ((q100 : Int) + 48) = (b3.toNat : Int)) (e3 : IntKind.u8.wrap ((mm : Int) + 48) = (b2.toNat : Int)) (e4 : IntKind.u8.wrap ((m10 : Int) + 48) = (b1.toNat : Int))
    (n1 : Nat) (hdl : ds.length = n1 + 1) (hn0 : 0 < n1) (hn1 : n1 ≤ 88) (hn32 : n1 < 31) (htl : (ds.drop 1).length = n1) (hn2 : (ds.drop 1).length + 58 ≤ 88) (hw1 : IntKind.i64.wrap ((n1 : Int) + 1) = (n1 : Int) + 1) (hmin : min ((n1 : Int) + 1) ((n1 : Int) + 1) = (n1 : Int) + 1) :
    Calls Tryz.prog 68 #[.slice A 0 c, .bool false, .slice (some ⟨g, 0, none⟩) 32 32, .int .i64 dp, .int .i64 ((n1 : Int) + 1), .int .i64 (n1 : Int), .int .u8 101, .bool true] w fun e w' => ∃ A' c' l', e = .returned (.slice A' l'.length c') ∧ l' = y0 :: (46 :: ds.drop 1 ++ 101 :: 45 :: [b3, b2, b1]) ∧ OwnB W w' A' c' l' := by
  obtain ⟨i0, hi0, hz0, hz1, hz2⟩ := info_parts u8_info
  go_enter Tryz.func68, Tryz.ntmps68
  go_wp2_with (first
    | (at_builtin; have HA1 := Lib.hid (HO0.out.alloc (.cells #[.int .u8 (y0.toNat : Int)] 5)); have HR1 := Lib.hid (reads_lit1 w (y0.toNat : Int)); refine wpList_append_any _ rfl (.tmp 87) (.tmp 89) 49 rfl W.heap.size 5 i0 _ 1 1 Tryz.underlying49 hi0 hz0 hz1 hz2 rfl (by omega) (.slice A ([] : List UInt8).length c) ([] : List UInt8).length (bys ([] : List UInt8)) rfl HA1.out.own _ (some ⟨w.heap.size, 0, none⟩) 1 1 [.int .u8 (y0.toNat : Int)] rfl HR1.out (by simp [Value.oneCell']) (HA1.out.room 1 (by decide)).1 (HA1.out.room 1 (by decide)).2 HA1.out.bel.size ?_; intro v2 w1 hown2 hg2 hor2; obtain ⟨A1, c1, l1, hl1, rfl, ho2⟩ := HA1.out.app [y0] (k' := 89) (Nat.le_refl _) hown2 hg2 hor2; have HL1 := Lib.hid hl1; have HO1 := Lib.hid ho2; clear ho2 hl1 hown2 hg2 hor2 HA1 HR1)
    | (at_builtin; have HA2 := Lib.hid (HO1.out.alloc (.cells #[.int .u8 46] 5)); have HR2 := Lib.hid (reads_lit1 w1 46); refine wpList_append_any _ rfl (.tmp 93) (.tmp 94) 49 rfl W.heap.size 5 i0 _ 1 1 Tryz.underlying49 hi0 hz0 hz1 hz2 rfl (by omega) (.slice A1 l1.length c1) l1.length (bys l1) rfl HA2.out.own _ (some ⟨w1.heap.size, 0, none⟩) 1 1 [.int .u8 46] rfl HR2.out (by simp [Value.oneCell']) (HA2.out.room 1 (by decide)).1 (HA2.out.room 1 (by decide)).2 HA2.out.bel.size ?_; intro v2 w2 hown2 hg2 hor2; obtain ⟨A2, c2, l2, hl2, rfl, ho2⟩ := HA2.out.app [46] (k' := 88) (Nat.le_refl _) hown2 hg2 hor2; have HL2 := Lib.hid hl2; have HO2 := Lib.hid ho2; clear ho2 hl2 hown2 hg2 hor2 HA2 HR2)
    | (at_builtin; have HR3 := Lib.hid (HO2.out.tail hdl); refine wpList_append_any _ rfl (.tmp 103) (.tmp 107) 49 rfl W.heap.size 5 i0 _ 1 1 Tryz.underlying49 hi0 hz0 hz1 hz2 rfl (by omega) (.slice A2 l2.length c2) l2.length (bys l2) rfl HO2.out.own _ (some ⟨g, 1, none⟩) n1 31 (bys (ds.drop 1)) rfl HR3.out (oneC _) (HO2.out.room n1 hn1).1 (HO2.out.room n1 hn1).2 HO2.out.bel.size ?_; intro v2 w3 hown2 hg2 hor2; obtain ⟨A3, c3, l3, hl3, rfl, ho2⟩ := HO2.out.app (ds.drop 1) (k' := 58) hn2 (by rw [htl]; exact hown2) hg2 hor2; have HL3 := Lib.hid hl3; have HO3 := Lib.hid ho2; clear ho2 hl3 hown2 hg2 hor2 HR3))
  go_loopw [0, 114] (fun u v wr => u = .slice A3 l3.length c3 ∧ v = .int .i64 0 ∧ w3 = wr) (fun _ _ _ => 0)
  case atStart => exact ⟨rfl, by first | rfl | simp, rfl⟩
  case round =>
  obtain ⟨rfl, rfl, rfl⟩ := hrel
  go_wp2_with (first
    | (at_builtin; have HA4 := Lib.hid (HO3.out.alloc (.cells #[.int .u8 101] 5)); have HR4 := Lib.hid (reads_lit1 w3 101); refine wpList_append_any _ rfl (.tmp 120) (.tmp 122) 49 rfl W.heap.size 5 i0 _ 1 1 Tryz.underlying49 hi0 hz0 hz1 hz2 rfl (by omega) (.slice A3 l3.length c3) l3.length (bys l3) rfl HA4.out.own _ (some ⟨w3.heap.size, 0, none⟩) 1 1 [.int .u8 101] rfl HR4.out (by simp [Value.oneCell']) (HA4.out.room 1 (by decide)).1 (HA4.out.room 1 (by decide)).2 HA4.out.bel.size ?_; intro v2 w4 hown2 hg2 hor2; obtain ⟨A4, c4, l4, hl4, rfl, ho2⟩ := HA4.out.app [101] (k' := 57) (Nat.le_refl _) hown2 hg2 hor2; have HL4 := Lib.hid hl4; have HO4 := Lib.hid ho2; clear ho2 hl4 hown2 hg2 hor2 HA4 HR4)
    | (at_builtin; have HA5 := Lib.hid (HO4.out.alloc (.cells #[.int .u8 45] 5)); have HR5 := Lib.hid (reads_lit1 w4 45); refine wpList_append_any _ rfl (.tmp 132) (.tmp 134) 49 rfl W.heap.size 5 i0 _ 1 1 Tryz.underlying49 hi0 hz0 hz1 hz2 rfl (by omega) (.slice A4 l4.length c4) l4.length (bys l4) rfl HA5.out.own _ (some ⟨w4.heap.size, 0, none⟩) 1 1 [.int .u8 45] rfl HR5.out (by simp [Value.oneCell']) (HA5.out.room 1 (by decide)).1 (HA5.out.room 1 (by decide)).2 HA5.out.bel.size ?_; intro v2 w5 hown2 hg2 hor2; obtain ⟨A5, c5, l5, hl5, rfl, ho2⟩ := HA5.out.app [45] (k' := 56) (Nat.le_refl _) hown2 hg2 hor2; have HL5 := Lib.hid hl5; have HO5 := Lib.hid ho2; clear ho2 hl5 hown2 hg2 hor2 HA5 HR5)
    | (at_builtin; have HA6 := Lib.hid (HO5.out.alloc (.cells #[.int .u8 (b3.toNat : Int), .int .u8 (b2.toNat : Int), .int .u8 (b1.toNat : Int)] 5)); have HR6 := Lib.hid (reads_lit3 w5 (b3.toNat : Int) (b2.toNat : Int) (b1.toNat : Int)); refine wpList_append_any _ rfl (.tmp 136) (.tmp 150) 49 rfl W.heap.size 5 i0 _ 1 1 Tryz.underlying49 hi0 hz0 hz1 hz2 rfl (by omega) (.slice A5 l5.length c5) l5.length (bys l5) rfl HA6.out.own _ (some ⟨w5.heap.size, 0, none⟩) 3 3 [.int .u8 (b3.toNat : Int), .int .u8 (b2.toNat : Int), .int .u8 (b1.toNat : Int)] rfl HR6.out (by simp [Value.oneCell']) (HA6.out.room 3 (by decide)).1 (HA6.out.room 3 (by decide)).2 HA6.out.bel.size ?_; intro v2 w6 hown2 hg2 hor2; obtain ⟨A6, c6, l6, hl6, rfl, ho2⟩ := HA6.out.app [b3, b2, b1] (k' := 53) (Nat.le_refl _) hown2 hg2 hor2; have HL6 := Lib.hid hl6; have HO6 := Lib.hid ho2; clear ho2 hl6 hown2 hg2 hor2 HA6 HR6))
  go_ret
  exact ⟨_, _, _, rfl, by rw [HL6.out, HL5.out, HL4.out, HL3.out, HL2.out, HL1.out]; simp, HO6.out.fin⟩
theorem bN {v : Nat} (hv : v < 10) : ((UInt8.ofNat (48 + v)).toNat : Int) = (v : Int) + 48 := by
  rw [UInt8.toNat_ofNat']; omega
theorem wu8 {v : Nat} (hv : v < 200) : IntKind.u8.wrap (v : Int) = (v : Int) := by rw [IntKind.wrap_u8]; omega
theorem wu8b {v : Nat} (hv : v < 10) : IntKind.u8.wrap ((v : Int) + 48) = ((UInt8.ofNat (48 + v)).toNat : Int) := by rw [bN hv, IntKind.wrap_u8]; omega
theorem dec3 {E : Nat} (h1 : ¬ E < 10) (h2 : ¬ E < 100) (h3 : E < 1000) : Lib.decDigits E = [UInt8.ofNat (48 + E / 100), UInt8.ofNat (48 + E / 10 % 10), UInt8.ofNat (48 + E % 10)] := by
  rw [Lib.decDigits, dif_neg h1, Lib.decDigits_two (by omega) (by omega), Nat.div_div_eq_div_mul]
  rfl
theorem ptT_o {d : Nat} {y0 : UInt8} (h : Lib.decDigits d = [y0]) : ptT d = [y0] := by
  have hl : lenD d = 1 := by unfold lenD; rw [h]; rfl
  rw [ptT_one hl, h]
theorem ptT_m {d : Nat} {y0 : UInt8} {tl : List UInt8} (h : Lib.decDigits d = y0 :: tl) (ht : 0 < tl.length) : ptT d = y0 :: 46 :: tl := by
  have hl : ¬ lenD d = 1 := by unfold lenD; rw [h, List.length_cons]; omega
  rw [ptT_more hl, h]
  rfl
theorem expT_m {x : Int} (h : x < 0) : expT x = 45 :: (if x.natAbs < 10 then 48 :: Lib.decDigits x.natAbs else Lib.decDigits x.natAbs) := by unfold expT; rw [if_pos h]
theorem expT_p {x : Int} (h : ¬ x < 0) : expT x = 43 :: (if x.natAbs < 10 then 48 :: Lib.decDigits x.natAbs else Lib.decDigits x.natAbs) := by unfold expT; rw [if_neg h]
set_option maxRecDepth 100000 in
theorem c_fmtI (W w : World) (A : Option Addr) (c g d : Nat) (dp x : Int) (ho : OwnB W w A c []) (hg : DgC w g (Lib.decDigits d)) (hne : (Value.slice A 0 c).ownBlock ≠ some g) (hl : lenD d ≤ 20) (hdp : dp = x + 1) (hx1 : -400 ≤ x) (hx2 : x ≤ 400) :
    Calls Tryz.prog 68 #[.slice A 0 c, .bool false, .slice (some ⟨g, 0, none⟩) 32 32, .int .i64 dp, .int .i64 ((lenD d : Nat) : Int), .int .i64 ((lenD d : Nat) - 1 : Int), .int .u8 101, .bool true] w fun e w' => ∃ A' c', e = .returned (.slice A' (eTxt d x).length c') ∧ OwnB W w' A' c' (eTxt d x) := by
  have HO : Hid (EB W w g (Lib.decDigits d) A c [] 90) := ⟨ho.1, ho.2, hg, hne, by decide⟩
  have hp := lenD_pos d
  obtain ⟨y0, tl, hds⟩ : ∃ y0 tl, Lib.decDigits d = y0 :: tl := by
    cases h : Lib.decDigits d with
    | nil => unfold lenD at hp; rw [h] at hp; cases hp
    | cons a t => exact ⟨a, t, rfl⟩
  have hlen : lenD d = tl.length + 1 := by unfold lenD; rw [hds]; rfl
  have k0 : w.cell? ⟨g, 0, none⟩ = some (.int .u8 (y0.toNat : Int)) := hg.2 0 y0 (by rw [hds]; rfl)
  have hdw : IntKind.i64.wrap (dp - 1) = x := by rw [IntWalk.i64_in _ (by omega)]; omega
  have key : ∀ L : List UInt8, ∀ e w', (∃ A' c' l', e = Ending.returned (.slice A' l'.length c') ∧ l' = L ∧ OwnB W w' A' c' l') → L = eTxt d x → ∃ A' c', e = .returned (.slice A' (eTxt d x).length c') ∧ OwnB W w' A' c' (eTxt d x) := by
    rintro L e w' ⟨A', c', l', h1, rfl, h3⟩ h4
    rw [h4] at h1 h3
    exact ⟨A', c', h1, h3⟩
  obtain ⟨E, hE⟩ : ∃ E, x.natAbs = E := ⟨_, rfl⟩
  rcases Nat.eq_zero_or_pos tl.length with ht | ht
  · obtain rfl := List.eq_nil_of_length_eq_zero ht
    rw [show ((lenD d : Nat) : Int) = 1 from by rw [hlen]; rfl]
    show Calls _ _ #[_, _, _, _, _, .int .i64 0, _, _] _ _
    by_cases hx0 : x < 0
    · by_cases r1 : E < 10
      · refine (fm_om1 W w A c g E (Lib.decDigits d) y0 (UInt8.ofNat (48 + E)) 0 0 dp x HO k0 hdw hx0 (by rw [IntWalk.i64_in _ (by omega)]; omega) r1 (wu8 (by omega)) (wu8b r1) ).mono fun e w' h => key _ e w' h ?_
        unfold eTxt
        rw [ptT_o hds, expT_m hx0, hE, if_pos r1, Lib.decDigits_one r1]
        rfl
      · by_cases r2 : E < 100
        · refine (fm_om2 W w A c g E (Lib.decDigits d) y0 (UInt8.ofNat (48 + E % 10)) (UInt8.ofNat (48 + E / 10)) 0 dp x HO k0 hdw hx0 (by rw [IntWalk.i64_in _ (by omega)]; omega) r1 r2 (E / 10) (E % 10) (by omega) (by omega) (IntWalk.i64_in _ (by omega)) (wu8 (by omega)) (wu8 (by omega)) (wu8b (by omega)) (wu8b (by omega)) ).mono fun e w' h => key _ e w' h ?_
          unfold eTxt
          rw [ptT_o hds, expT_m hx0, hE, if_neg r1, Lib.decDigits_two r1 r2]
          rfl
        · refine (fm_om3 W w A c g E (Lib.decDigits d) y0 (UInt8.ofNat (48 + E % 10)) (UInt8.ofNat (48 + E / 10 % 10)) (UInt8.ofNat (48 + E / 100)) dp x HO k0 hdw hx0 (by rw [IntWalk.i64_in _ (by omega)]; omega) r1 r2 (E / 100) (E / 10) (E % 10) (E / 10 % 10) (by omega) (by omega) (by omega) (IntWalk.i64_in _ (by omega)) (IntWalk.i64_in _ (by omega)) (wu8 (by omega)) (wu8 (by omega)) (wu8 (by omega)) (by omega) (wu8b (by omega)) (wu8b (by omega)) (wu8b (by omega)) ).mono fun e w' h => key _ e w' h ?_
          unfold eTxt
          rw [ptT_o hds, expT_m hx0, hE, if_neg r1, dec3 r1 r2 (by omega)]
          rfl
    · by_cases r1 : E < 10
      · refine (fm_op1 W w A c g E (Lib.decDigits d) y0 (UInt8.ofNat (48 + E)) 0 0 dp x HO k0 hdw (by omega) (by omega) r1 (wu8 (by omega)) (wu8b r1) ).mono fun e w' h => key _ e w' h ?_
        unfold eTxt
        rw [ptT_o hds, expT_p hx0, hE, if_pos r1, Lib.decDigits_one r1]
        rfl
      · by_cases r2 : E < 100
        · refine (fm_op2 W w A c g E (Lib.decDigits d) y0 (UInt8.ofNat (48 + E % 10)) (UInt8.ofNat (48 + E / 10)) 0 dp x HO k0 hdw (by omega) (by omega) r1 r2 (E / 10) (E % 10) (by omega) (by omega) (IntWalk.i64_in _ (by omega)) (wu8 (by omega)) (wu8 (by omega)) (wu8b (by omega)) (wu8b (by omega)) ).mono fun e w' h => key _ e w' h ?_
          unfold eTxt
          rw [ptT_o hds, expT_p hx0, hE, if_neg r1, Lib.decDigits_two r1 r2]
          rfl
        · refine (fm_op3 W w A c g E (Lib.decDigits d) y0 (UInt8.ofNat (48 + E % 10)) (UInt8.ofNat (48 + E / 10 % 10)) (UInt8.ofNat (48 + E / 100)) dp x HO k0 hdw (by omega) (by omega) r1 r2 (E / 100) (E / 10) (E % 10) (E / 10 % 10) (by omega) (by omega) (by omega) (IntWalk.i64_in _ (by omega)) (IntWalk.i64_in _ (by omega)) (wu8 (by omega)) (wu8 (by omega)) (wu8 (by omega)) (by omega) (wu8b (by omega)) (wu8b (by omega)) (wu8b (by omega)) ).mono fun e w' h => key _ e w' h ?_
          unfold eTxt
          rw [ptT_o hds, expT_p hx0, hE, if_neg r1, dec3 r1 r2 (by omega)]
          rfl
  · rw [show ((lenD d : Nat) : Int) = (tl.length : Int) + 1 from by omega, show (tl.length : Int) + 1 - 1 = (tl.length : Int) from by omega]
    by_cases hx0 : x < 0
    · by_cases r1 : E < 10
      · refine (fm_nm1 W w A c g E (Lib.decDigits d) y0 (UInt8.ofNat (48 + E)) 0 0 dp x HO k0 hdw hx0 (by rw [IntWalk.i64_in _ (by omega)]; omega) r1 (wu8 (by omega)) (wu8b r1) tl.length (by rw [hds]; rfl) ht (by omega) (by omega) (by rw [hds]; rfl) (by rw [hds]; show tl.length + 58 ≤ 88; omega) (IntWalk.i64_in _ (by omega)) (Int.min_self _) ).mono fun e w' h => key _ e w' h ?_
        unfold eTxt
        rw [ptT_m hds ht, expT_m hx0, hE, if_pos r1, Lib.decDigits_one r1, hds]
        simp
      · by_cases r2 : E < 100
        · refine (fm_nm2 W w A c g E (Lib.decDigits d) y0 (UInt8.ofNat (48 + E % 10)) (UInt8.ofNat (48 + E / 10)) 0 dp x HO k0 hdw hx0 (by rw [IntWalk.i64_in _ (by omega)]; omega) r1 r2 (E / 10) (E % 10) (by omega) (by omega) (IntWalk.i64_in _ (by omega)) (wu8 (by omega)) (wu8 (by omega)) (wu8b (by omega)) (wu8b (by omega)) tl.length (by rw [hds]; rfl) ht (by omega) (by omega) (by rw [hds]; rfl) (by rw [hds]; show tl.length + 58 ≤ 88; omega) (IntWalk.i64_in _ (by omega)) (Int.min_self _) ).mono fun e w' h => key _ e w' h ?_
          unfold eTxt
          rw [ptT_m hds ht, expT_m hx0, hE, if_neg r1, Lib.decDigits_two r1 r2, hds]
          simp
        · refine (fm_nm3 W w A c g E (Lib.decDigits d) y0 (UInt8.ofNat (48 + E % 10)) (UInt8.ofNat (48 + E / 10 % 10)) (UInt8.ofNat (48 + E / 100)) dp x HO k0 hdw hx0 (by rw [IntWalk.i64_in _ (by omega)]; omega) r1 r2 (E / 100) (E / 10) (E % 10) (E / 10 % 10) (by omega) (by omega) (by omega) (IntWalk.i64_in _ (by omega)) (IntWalk.i64_in _ (by omega)) (wu8 (by omega)) (wu8 (by omega)) (wu8 (by omega)) (by omega) (wu8b (by omega)) (wu8b (by omega)) (wu8b (by omega)) tl.length (by rw [hds]; rfl) ht (by omega) (by omega) (by rw [hds]; rfl) (by rw [hds]; show tl.length + 58 ≤ 88; omega) (IntWalk.i64_in _ (by omega)) (Int.min_self _) ).mono fun e w' h => key _ e w' h ?_
          unfold eTxt
          rw [ptT_m hds ht, expT_m hx0, hE, if_neg r1, dec3 r1 r2 (by omega), hds]
          simp
    · by_cases r1 : E < 10
      · refine (fm_np1 W w A c g E (Lib.decDigits d) y0 (UInt8.ofNat (48 + E)) 0 0 dp x HO k0 hdw (by omega) (by omega) r1 (wu8 (by omega)) (wu8b r1) tl.length (by rw [hds]; rfl) ht (by omega) (by omega) (by rw [hds]; rfl) (by rw [hds]; show tl.length + 58 ≤ 88; omega) (IntWalk.i64_in _ (by omega)) (Int.min_self _) ).mono fun e w' h => key _ e w' h ?_
        unfold eTxt
        rw [ptT_m hds ht, expT_p hx0, hE, if_pos r1, Lib.decDigits_one r1, hds]
        simp
      · by_cases r2 : E < 100
        · refine (fm_np2 W w A c g E (Lib.decDigits d) y0 (UInt8.ofNat (48 + E % 10)) (UInt8.ofNat (48 + E / 10)) 0 dp x HO k0 hdw (by omega) (by omega) r1 r2 (E / 10) (E % 10) (by omega) (by omega) (IntWalk.i64_in _ (by omega)) (wu8 (by omega)) (wu8 (by omega)) (wu8b (by omega)) (wu8b (by omega)) tl.length (by rw [hds]; rfl) ht (by omega) (by omega) (by rw [hds]; rfl) (by rw [hds]; show tl.length + 58 ≤ 88; omega) (IntWalk.i64_in _ (by omega)) (Int.min_self _) ).mono fun e w' h => key _ e w' h ?_
          unfold eTxt
          rw [ptT_m hds ht, expT_p hx0, hE, if_neg r1, Lib.decDigits_two r1 r2, hds]
          simp
        · refine (fm_np3 W w A c g E (Lib.decDigits d) y0 (UInt8.ofNat (48 + E % 10)) (UInt8.ofNat (48 + E / 10 % 10)) (UInt8.ofNat (48 + E / 100)) dp x HO k0 hdw (by omega) (by omega) r1 r2 (E / 100) (E / 10) (E % 10) (E / 10 % 10) (by omega) (by omega) (by omega) (IntWalk.i64_in _ (by omega)) (IntWalk.i64_in _ (by omega)) (wu8 (by omega)) (wu8 (by omega)) (wu8 (by omega)) (by omega) (wu8b (by omega)) (wu8b (by omega)) (wu8b (by omega)) tl.length (by rw [hds]; rfl) ht (by omega) (by omega) (by rw [hds]; rfl) (by rw [hds]; show tl.length + 58 ≤ 88; omega) (IntWalk.i64_in _ (by omega)) (Int.min_self _) ).mono fun e w' h => key _ e w' h ?_
          unfold eTxt
          rw [ptT_m hds ht, expT_p hx0, hE, if_neg r1, dec3 r1 r2 (by omega), hds]
          simp
end Go.Proofs.YthoifpapdefheaaGreatDoor
