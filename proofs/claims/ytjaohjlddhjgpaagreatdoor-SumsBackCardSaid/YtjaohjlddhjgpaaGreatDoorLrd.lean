/- Walk: the law on lines read (quernlaw26.SumsReads). Conditions: lengths within the reach; the library's errors as laid. -/
import Derived.Test.YtjaohjlddhjgpaaGreatDoorTr
import Derived.Test.YtjaohjlddhjgpaaGreatDoorTs
import Derived.Test.YtjaohjlddhjgpaaGreatDoorLaw
namespace Go.Proofs.YtjaohjlddhjgpaaGreatDoor
open Go.RowKit
set_option linter.unusedVariables false
attribute [local go_sem ↓] Go.wp_at_zero Go.wp_at_succ

theorem wpList_load_rowG {P : Program} {ops : Array Oper} {rest : List Oper} {o : Oper} {a : Act} {w : World} {Q : Exit → Act → World → Prop} (hgd : Region.wanted o (yielded ops a.tmps) = true) (ty : TypeId) (x : Operand) (ho : o.op = .load ty x)
    (g : Nat) (hx : a.eval x = .pointer (some ⟨g, 0, none⟩)) (t : TypeId) (cs : Array Value) (fr : Nat × Nat) (d : TypeDesc) (hg : w.heap[g]? = some (.cells cs t fr))
    (hu : P.underlying ty = some d) (hd : (match d with | .struct _ | .array _ _ => true | _ => false) = true) (hi : (P.info? ty).map (·.size) = some cs.size)
    (h : wpList P ops Q rest (a.put o.dst (.agg cs)) w) : wpList P ops Q (o :: rest) a w :=
  wpList_step fun K hK => by
    rw [if_pos hgd]
    exact wp_load_row ty x ho g hx t cs fr d hg hu hd hi (hK _ _ h)
/-- A row keeps what stands elsewhere. -/
theorem own_keep {w w' : World} {B n : Nat} {v : Value} {xs : List Value} {row : Option Nat} (h : w.ownsRow B 5 1 v n xs) (hg : w.grownBy w' row) (hr : ∀ g, row = some g → g < B) : w'.ownsRow B 5 1 v n xs := by
  cases row with
  | none => exact h.kept hg (by
      cases hv : v.ownBlock with
      | none => exact .inl rfl
      | some k => exact .inr (by simp))
  | some g => exact own_far h hg (hr g rfl)
theorem own_lt {w : World} {B n : Nat} {v : Value} {xs : List Value} (h : w.ownsRow B 5 1 v n xs) : ∀ g, v.ownBlock = some g → B ≤ g ∧ g < w.heap.size := by
  intro g hg
  rcases h.2 with ⟨rfl, _⟩ | ⟨g', cap, cur, rfl, hb, hh, _⟩
  · simp [Value.ownBlock] at hg
  · have : g' = g := by simpa [Value.ownBlock] using hg
    subst this
    exact ⟨hb, (show Blk w g' 5 cur from hh).lt⟩
theorem uhp_td (s : ByteArray) (i n : Nat) : (uhp ((s.data.toList.drop i).take n)).length ≤ s.size := by
  unfold uhp
  rw [uhk_len, List.length_take, List.length_drop]
  have : s.data.toList.length = s.size := rfl
  omega
theorem bareS_len {s : ByteArray} {i : Nat} {p : Int} {mk : Bool} {e : Sm} (h : bareS s i p mk = .inr e) : e.dg.length ≤ s.size := by
  unfold bareS at h
  repeat' (split at h)
  all_goals cases h
  exact uhp_td _ _ _
theorem tailS_len {s : ByteArray} {i n : Nat} {a : Int} {mk : Bool} {e : Sm} (h : tailS s i n a mk = .inr e) : e.dg.length ≤ s.size := by
  unfold tailS at h
  repeat' (split at h)
  all_goals cases h
  exact uhp_td _ _ _
theorem tggS_len {s : ByteArray} {i : Nat} {a : Int} {mk : Bool} {e : Sm} (h : tggS s i a mk = .inr e) : e.dg.length ≤ s.size := by
  unfold tggS at h
  split at h
  · cases h
  · exact tailS_len h
theorem lineS_len {s : ByteArray} {p : Int} {e : Sm} (h : lineS s p = .inr e) : e.dg.length ≤ s.size := by
  unfold lineS at h
  by_cases hw : wayAt s (if hpB s 92 then 1 else 0) ≠ 0
  · rw [if_pos hw] at h
    exact tggS_len h
  · rw [if_neg hw] at h
    exact bareS_len h
theorem rdA_len (s : ByteArray) (p : Int) : (rdA s p).1.dg.length ≤ 1000000 := by
  unfold rdA
  split
  · exact Nat.zero_le _
  split
  · exact Nat.zero_le _
  split
  · exact Nat.zero_le _
  · rename_i h
    exact Nat.le_trans (lineS_len h) (by omega)
set_option maxRecDepth 100000 in
set_option maxHeartbeats 16000000 in
theorem c_SumsReads (s : ByteArray) (p : Int) (w : World) (hs : s.size ≤ 140737488351232) (hL : Laid w) :
    Calls Tryz.prog 5 #[.string s, .int .i64 p] w fun e w' => e = .returned (.bool true) ∧ Below w.heap.size w w' := by
  have HRD : Hid (∀ W, Laid W → Calls Tryz.prog 14 #[.string s, .int .i64 p] W (OutS W (rdA s p).1 (rdA s p).2.1 (rdA s p).2.2)) := fun W h => c_Read s p W hs h
  have HRR : Hid (∀ W, Calls Tryz.prog 15 #[.string s, .int .i64 p] W (OutS W (rdA s p).1 (rdA s p).2.1 (rdA s p).2.2)) := fun W => c_rRead s p W hs
  have h6 := hL.lt
  have HLD := Lib.hid hL
  have hlen : (rdA s p).1.dg.length ≤ 1000000 := rdA_len s p
  clear hL
  generalize (rdA s p).1 = e at *
  generalize (rdA s p).2.1 = i at *
  generalize (rdA s p).2.2 = er at *
  have HAL : Hid (∀ (D D' : Option Addr) (c c' : Nat) W, Reads W W.heap.size 1 D e.dg.length (bys e.dg) → Reads W W.heap.size 1 D' e.dg.length (bys e.dg) → Calls Tryz.prog 16 #[smV e D e.dg.length c, smV e D' e.dg.length c'] W fun x w' => x = .returned (.bool true) ∧ Below W.heap.size W w') := fun D D' c c' W h1 h2 => c_alike e D D' e.dg.length c c' W _ (Nat.le_refl _) h1 h2 (by omega)
  have HSP : Hid (∀ (D : Option Addr) (c : Nat) B W, W.ownsRow B 5 1 (.slice D e.dg.length c) e.dg.length (bys e.dg) → B ≤ W.heap.size → Calls Tryz.prog 17 #[.slice D e.dg.length c] W fun x w' => x = .returned (.tuple #[]) ∧ W.grownBy w' (Value.slice D e.dg.length c).ownBlock) := fun D c B W h hB => c_spoil26 B D e.dg.length c (e.dg.map fun c => (c.toNat : Int)) W (by rw [bys_z]; exact h) (by omega) hB
  simp only [smV] at HAL
  go_enter Tryz.func5, Tryz.ntmps5
  go_wp2_with fail
  refine (HRD.out w HLD.out).mono ?_
  rintro x w1 ⟨D1, c1, rfl, ho1, hb1⟩
  have HO1 := Lib.hid ho1
  have HB1 := Lib.hid hb1
  have HL1 := Lib.hid (HLD.out.below hb1)
  have hz1 := hb1.size
  clear ho1 hb1
  have K2 := Lib.hid (Blk.new w1 25 (smC e D1 e.dg.length c1))
  have HO2 := Lib.hid (HO1.out.alloc (.cells (smC e D1 e.dg.length c1) 25))
  have HB2 := Lib.hid (HB1.out.alloc hz1 (.cells (smC e D1 e.dg.length c1) 25))
  have HL2 := Lib.hid (HL1.out.grown (row := none) (only_alloc (World.grownBy.refl w1 none) (.cells (smC e D1 e.dg.length c1) 25)) (by simp))
  have hd1 := Lib.hid (own_lt HO1.out)
  clear HO1 HB1 HL1
  go_wp2_with fail
  generalize w1.alloc (.cells (smC e D1 e.dg.length c1) 25) = w2 at *
  have hz2 : w1.heap.size < w2.heap.size := K2.out.lt
  have hne1 : (er != er) = false := by simp
  have hne2 : ((i : Int) != (i : Int)) = false := by simp
  refine (HRR.out w2).mono ?_
  rintro x w3 ⟨D2, c2, rfl, ho3, hb3⟩
  have hz3 := hb3.size
  have K4 := Lib.hid ((K2.out.below hb3 K2.out.lt).alloc (.cells (smC e D2 e.dg.length c2) 25))
  have HO4 := Lib.hid ((own_below HO2.out hb3).alloc (.cells (smC e D2 e.dg.length c2) 25))
  have HB4 := Lib.hid ((below_step HB2.out hb3).alloc (by have := HB2.out.size; omega) (.cells (smC e D2 e.dg.length c2) 25))
  have HL4 := Lib.hid ((HL2.out.below hb3).grown (row := none) (only_alloc (World.grownBy.refl w3 none) (.cells (smC e D2 e.dg.length c2) 25)) (by simp))
  have M4 := Lib.hid (Blk.new w3 25 (smC e D2 e.dg.length c2))
  have HP4 := Lib.hid (ho3.alloc (.cells (smC e D2 e.dg.length c2) 25))
  clear ho3 hb3 K2 HO2 HB2 HL2 HRR
  have R1 := Lib.hid (Reads.of_own HO4.out)
  have R2 := Lib.hid (Reads.of_own HP4.out)
  go_wp2_with (first
    | (refine wpList_load_rowG (by rfl) 25 (.tmp 5) rfl w1.heap.size rfl 25 _ (0, 0) _ K4.out Tryz.underlying25 rfl (by kernel_rfl) ?_)
    | (refine wpList_load_rowG (by rfl) 25 (.tmp 8) rfl w3.heap.size rfl 25 _ (0, 0) _ M4.out Tryz.underlying25 rfl (by kernel_rfl) ?_)
    | fail)
  generalize w3.alloc (.cells (smC e D2 e.dg.length c2) 25) = w4 at *
  have hz4 : w3.heap.size < w4.heap.size := M4.out.lt
  refine (HAL.out D1 D2 c1 c2 w4 R1.out R2.out).mono ?_
  rintro x w5 ⟨rfl, hb5⟩
  have K5 := Lib.hid (K4.out.below hb5 K4.out.lt)
  have HO5 := Lib.hid (own_below HO4.out hb5)
  have HB5 := Lib.hid (below_step HB4.out hb5)
  have HL5 := Lib.hid (HL4.out.below hb5)
  have M5 := Lib.hid (M4.out.below hb5 M4.out.lt)
  have HP5 := Lib.hid (own_below HP4.out hb5)
  have hz5 := hb5.size
  clear hb5 K4 HO4 HB4 HL4 M4 HP4 R1 R2
  have k2 := K5.out.cell 2
  go_wp2_with fail
  clear k2
  refine (HSP.out D1 c1 w.heap.size w5 HO5.out (by have := HB5.out.size; omega)).mono ?_
  rintro x w6 ⟨rfl, hg6⟩
  have hn1 : ∀ g, (Value.slice D1 e.dg.length c1).ownBlock = some g → w.heap.size ≤ g ∧ g < w1.heap.size := hd1.out
  have K6 := Lib.hid (K5.out.grown hg6 (fun h => by have := (hn1 _ h.symm).2; omega))
  have HB6 := Lib.hid (HB5.out.grown hg6 HB5.out.size (fun g h => (hn1 g h).1))
  have HL6 := Lib.hid (HL5.out.grown hg6 (fun g h => by have := (hn1 g h).1; omega))
  have M6 := Lib.hid (M5.out.grown hg6 (fun h => by have := (hn1 _ h.symm).2; omega))
  have HP6 := Lib.hid (own_keep HP5.out hg6 (fun g h => by have := (hn1 g h).2; omega))
  have hz6 := hg6.size
  clear hg6 K5 HO5 HB5 HL5 M5 HP5 HSP hd1 hn1
  go_wp2_with fail
  refine (HRD.out w6 HL6.out).mono ?_
  rintro x w7 ⟨D3, c3, rfl, ho7, hb7⟩
  have HO7 := Lib.hid ho7
  have K7 := Lib.hid (K6.out.below hb7 K6.out.lt)
  have HB7 := Lib.hid (below_step HB6.out hb7)
  have M7 := Lib.hid (M6.out.below hb7 M6.out.lt)
  have HP7 := Lib.hid (own_below HP6.out hb7)
  have hz7 := hb7.size
  clear hb7 ho7 K6 HB6 HL6 M6 HP6 HRD
  go_wp2_with (first
    | (refine wpList_storeB rfl 25 (.tmp 5) (.tmp 46) rfl rfl w1.heap.size (smC e D3 e.dg.length c3) rfl rfl K7.out (by kernel_rfl) rfl rfl ?_; intro w8 K8 hg8 hz8; have M8 := Lib.hid (M7.out.grown hg8 (by simp; omega)); have HO8 := Lib.hid (own_far HO7.out hg8 (by omega)); have HP8 := Lib.hid (own_far HP7.out hg8 (by omega)); have HB8 := Lib.hid (HB7.out.grown hg8 HB7.out.size (fun g h => by injection h with h; have := HB7.out.size; omega)); have R1 := Lib.hid (Reads.of_own HO8.out); have R2 := Lib.hid (Reads.of_own HP8.out); have K8 := Lib.hid K8; clear hg8 HO7 K7 HB7 M7 HP7)
    | (refine wpList_load_row rfl 25 (.tmp 5) rfl w1.heap.size rfl 25 _ (0, 0) _ K8.out Tryz.underlying25 rfl (by kernel_rfl) ?_)
    | (refine wpList_load_row rfl 25 (.tmp 8) rfl w3.heap.size rfl 25 _ (0, 0) _ M8.out Tryz.underlying25 rfl (by kernel_rfl) ?_)
    | (go_at_call 16; refine (HAL.out D3 D2 c3 c2 _ R1.out R2.out).mono ?_; rintro x w9 ⟨rfl, hb9⟩; have HB9 := Lib.hid (below_step HB8.out hb9); clear hb9)
    | fail)
  go_ret
  exact ⟨rfl, HB9.out⟩
theorem l_SumsReads (W : World) (hL : Laid W) (s : ByteArray) (hs : s.size ≤ 140737488351232) (p : Int) (wp : (Lit.int .i64 p).wf = true) :
    Calls Tryz.prog 5 #[.string s, .int .i64 p] W fun e W' => e = .returned (.bool true) ∧ Below W.heap.size W W' := c_SumsReads s p W hs hL
end Go.Proofs.YtjaohjlddhjgpaaGreatDoor
