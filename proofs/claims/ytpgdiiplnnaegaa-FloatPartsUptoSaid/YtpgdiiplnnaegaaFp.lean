/- Walk: floats sorted into a new list (slices.Clone, float.sorted, float.Sorted). Conditions: as stated. -/
import Derived.Test.YtpgdiiplnnaegaaFo
import Derived.Test.YtpgdiiplnnaegaaFw2
import Derived.Great.Walk
namespace Go.Proofs.Ytpgdiiplnnaegaa
open Go.RowKit
set_option linter.unusedVariables false
attribute [local go_sem ↓] Go.wp_at_zero Go.wp_at_succ
attribute [local go_sem] run_store_float

theorem run_build0 {P : Program} (w : World) (t e : TypeId) (ie : TypeInfo) (hu : P.underlying t = some (.slice e)) (hie : P.info? e = some ie) :
    (Instr.buildSlice t 0 #[]).run P w = .ok (.slice (some ⟨w.heap.size, 0, none⟩) 0 0) (w.alloc (.cells #[] e)) := by
  simp [Instr.buildSlice, run_underlying hu, sizeOf, typeInfo, hie, newRow, Instr.fill]
  rw [show Array.range 0 = #[] from by decide]; simp
theorem wpList_build0 {P : Program} {ops : Array Oper} {rest : List Oper} {o : Oper} {a : Act} {w : World} {Q : Exit → Act → World → Prop} (hg : o.guard = none) (t e : TypeId) (ho : o.op = .buildSlice t 0 #[])
    (ie : TypeInfo) (hu : P.underlying t = some (.slice e)) (hie : P.info? e = some ie) (d : Option Tmp) (hd : o.dst = d)
    (h : wpList P ops Q rest (a.put d (.slice (some ⟨w.heap.size, 0, none⟩) 0 0)) (w.alloc (.cells #[] e))) : wpList P ops Q (o :: rest) a w := by
  subst hd
  refine wpList_plain hg fun _ hK => ?_
  unfold Oper.wp execOp
  simp only [ho, Sem.run_bind, List.map_toArray, List.map_nil, run_build0 w t e ie hu hie, Result.andThen_ok]
  exact hK _ _ h
theorem own_empty (w : World) (e : TypeId) : (w.alloc (.cells #[] e)).ownsRow w.heap.size e 1 (.slice (some ⟨w.heap.size, 0, none⟩) 0 0) 0 [] := World.ownsRow_lit w #[] 0 (Nat.le_refl _) (by decide) rfl
theorem eql_nil_yes (c : Nat) (w : World) : (binOp BinOp.eql 31 (.slice none 0 c) (.slice none 0 0)).run Try.prog w = .ok (.bool true) w := by kernel_rfl
theorem eql_nil_no (ad : Addr) (n c : Nat) (w : World) : (binOp BinOp.eql 31 (.slice (some ad) n c) (.slice none 0 0)).run Try.prog w = .ok (.bool false) w := by kernel_rfl
set_option maxRecDepth 100000 in
theorem c_Clone (A : Option Addr) (n c : Nat) (xs : List Nat) (w : World) (h : Reads w w.heap.size 1 A n (f64s xs)) (hn : n ≤ 17592186044416) :
    Calls Try.prog 60 #[.slice A n c] w fun e w' => ∃ v, e = .returned v ∧ w'.ownsRow w.heap.size 23 1 v n (f64s xs) ∧ Below w.heap.size w w' := by
  obtain ⟨i0, hi0, hz0, hz1, hz2⟩ := info_parts f64_info
  rcases A with _ | ad
  · obtain rfl : n = 0 := by
      rcases Nat.eq_zero_or_pos n with h0 | h0
      · exact h0
      · obtain ⟨ad, h, _⟩ := h.2 h0
        cases h
    have hq := eql_nil_yes c
    have hx : f64s xs = [] := List.eq_nil_of_length_eq_zero (by simpa using h.1)
    go_enter Try.func60, Try.ntmps60
    go_wp2
    go_ret
    exact ⟨_, rfl, ⟨by rw [hx]; rfl, .inl ⟨rfl, rfl⟩⟩, Below.refl _ _⟩
  · have HR := Lib.hid h
    have hq := eql_nil_no ad n c
    clear h
    have hown := own_empty w 23
    have hb1 : Below w.heap.size w (w.alloc (.cells #[] 23)) := (Below.refl w.heap.size w).alloc (Nat.le_refl _) _
    have hrd := HR.out.step hb1
    go_enter Try.func60, Try.ntmps60
    go_wp2_with (first
      | (refine wpList_build0 rfl 31 23 rfl i0 Try.underlying31 hi0 (some 5) rfl ?_; generalize hw1 : w.alloc (.cells #[] 23) = w1 at *)
      | (at_builtin; refine wpList_append_any _ rfl (.tmp 5) (.tmp 6) _ rfl w.heap.size 23 i0 _ 1 8 Try.underlying31 hi0 hz0 hz1 hz2 rfl (by omega) (.slice (some ⟨w.heap.size, 0, none⟩) 0 0) 0 [] rfl hown _ _ n c (f64s xs) rfl hrd (f64s_one _) (by simp only [maxLen]; omega) (by omega) hb1.size ?_; intro v1 w2 hown2 hg2 _; rw [Nat.zero_add, List.nil_append] at hown2; have hb2 := below_own hb1 hown hg2; obtain ⟨A1, c1, rfl⟩ := own_slice hown2; clear hg2))
    go_ret
    exact ⟨_, rfl, hown2, hb2⟩
theorem c_insNil (w : World) : Calls Try.prog 82 #[.slice none 0 0, .int .i64 0, .int .i64 0, cmpV] w fun e w' => e = .returned (.tuple #[]) ∧ w' = w := by
  go_enter Try.func82, Try.ntmps82
  go_wp2
  go_loopw [8] (fun vi wr => vi = .int .i64 1 ∧ wr = w) (fun _ _ => 0)
  case atStart => exact ⟨rfl, rfl⟩
  case round =>
    obtain ⟨rfl, rfl⟩ := hrel
    go_wp2
    go_end0
    exact ⟨rfl, rfl⟩
theorem c_stableNil (w : World) : Calls Try.prog 75 #[.slice none 0 0, .int .i64 0, cmpV] w fun e w' => e = .returned (.tuple #[]) ∧ w' = w := by
  go_enter Try.func75, Try.ntmps75
  go_wp2_with fail
  go_loopw [7, 8] (fun va vb wr => va = .int .i64 0 ∧ vb = .int .i64 20 ∧ wr = w) (fun _ _ _ => 0)
  case atStart => exact ⟨rfl, rfl, rfl⟩
  case round =>
    obtain ⟨rfl, rfl, rfl⟩ := hrel
    go_wp2_with (go_at_call 82; refine (c_insNil _).mono ?_; rintro e w2 ⟨rfl, rfl⟩)
    go_loopw [6] (fun vs wr => vs = .int .i64 20 ∧ wr = w2) (fun _ _ => 0)
    case atStart => exact ⟨rfl, rfl⟩
    case round =>
      obtain ⟨rfl, rfl⟩ := hrel
      go_wp2_with fail
      go_end0
      exact ⟨rfl, rfl⟩
theorem c_sortNil (w : World) : Calls Try.prog 61 #[.slice none 0 0, cmpV] w fun e w' => e = .returned (.tuple #[]) ∧ w' = w := by
  go_enter Try.func61, Try.ntmps61
  go_wp2_with (go_at_call 75; refine (c_stableNil _).mono ?_; rintro e w2 ⟨rfl, rfl⟩)
  go_end0
  exact ⟨rfl, rfl⟩
theorem own_forms {w : World} {base size n : Nat} {e : TypeId} {v : Value} {xs : List Value} (h : w.ownsRow base e size v n xs) : (v = .slice none 0 0 ∧ n = 0) ∨ ∃ g cap, v = .slice (some ⟨g, 0, none⟩) n cap ∧ base ≤ g ∧ n ≤ cap := by
  rcases h.2 with h | ⟨g, cap, cur, h1, h2, _, h3, _⟩
  · exact .inl h
  · exact .inr ⟨g, cap, h1, h2, h3⟩
/-- A row of floats beside what stood before. -/
abbrev Fown (w : World) (v : Value) (n : Nat) (xs : List Nat) (w' : World) : Prop := w'.ownsRow w.heap.size 23 1 v n (f64s xs) ∧ Below w.heap.size w w'
theorem f64s_nil {xs : List Nat} (h : xs.length = 0) : xs = [] := List.eq_nil_of_length_eq_zero h
set_option maxRecDepth 100000 in
theorem c_sorted (A : Option Addr) (n c : Nat) (xs : List Nat) (w : World) (h : Reads w w.heap.size 1 A n (f64s xs)) (hx : Bit xs) (hn : n ≤ 17592186044416) :
    Calls Try.prog 37 #[.slice A n c, cmpV] w fun e w' => ∃ v ys, e = .returned v ∧ Fown w v n ys w' ∧ ys.Perm xs ∧ Up fkey ys 0 n := by
  go_enter Try.func37, Try.ntmps37
  go_wp2_with fail
  refine (c_Clone A n c xs _ h hn).mono ?_
  rintro e w1 ⟨v, rfl, hown, hb⟩
  rcases own_forms hown with ⟨rfl, rfl⟩ | ⟨g, cap, rfl, hg, hcap⟩
  · have HO : Hid (Fown w (.slice none 0 0) 0 xs w1) := ⟨hown, hb⟩
    clear hown hb h
    go_wp2_with (go_at_call 61; refine (c_sortNil _).mono ?_; rintro e w2 ⟨rfl, rfl⟩)
    go_ret
    exact ⟨_, xs, rfl, HO.out, List.Perm.refl _, Up.one _ _ (by omega)⟩
  · have HO := Lib.hid hown
    have HB := Lib.hid hb
    have HC := Lib.hid (c_sortStable w.heap.size g n cap xs w1 hown hx (by omega))
    clear hown hb h
    go_wp2_with (go_at_call 61; refine HC.out.mono ?_; rintro e w2 ⟨rfl, us, hus, hrow2, hg2⟩; have HW := Lib.hid hrow2; have HU := Lib.hid hus; have HB2 := Lib.hid (below_own HB.out HO.out hg2); clear hus hrow2 hg2)
    go_ret
    exact ⟨_, us, rfl, ⟨HW.out, HB2.out⟩, HU.out.re.perm, HU.out.up⟩
theorem tk_step (f : Nat → Nat) : ∀ (ys : List Nat) (j : Nat), j < ys.length → ((ys.take j).map f ++ ys.drop j).set j (f (ys.getD j 0)) = (ys.take (j + 1)).map f ++ ys.drop (j + 1)
  | [], j, h => absurd h (by simp)
  | y :: l, 0, _ => by simp
  | y :: l, j + 1, h => by
    have := tk_step f l j (by simpa using h)
    simpa using this
theorem tk_get (f : Nat → Nat) : ∀ (ys : List Nat) (j : Nat), ((ys.take j).map f ++ ys.drop j).getD j 0 = ys.getD j 0
  | [], j => by simp
  | y :: l, 0 => by simp
  | y :: l, j + 1 => by
    have := tk_get f l j
    simpa using this
set_option maxRecDepth 100000 in
theorem c_fSorted (A : Option Addr) (n c : Nat) (xs : List Nat) (w : World) (h : Reads w w.heap.size 1 A n (f64s xs)) (hx : Bit xs) (hn : n ≤ 17592186044416) :
    Calls Try.prog 23 #[.slice A n c] w fun e w' => ∃ v ys, e = .returned v ∧ Fown w v n (ys.map fone) w' ∧ ys.Perm xs ∧ Up fkey ys 0 n := by
  go_enter Try.func23, Try.ntmps23
  go_wp2_with fail
  refine (c_sorted A n c xs _ h hx hn).mono ?_
  rintro e w1 ⟨v, ys, rfl, ⟨hown, hb⟩, hp, hu⟩
  have HP : Hid (ys.Perm xs ∧ Up fkey ys 0 n) := ⟨hp, hu⟩
  have hyl : ys.length = n := by simpa using hown.1
  clear hp hu h
  rcases own_forms hown with ⟨rfl, rfl⟩ | ⟨g, cap, rfl, hg, hcap⟩
  · have HO : Hid (Fown w (.slice none 0 0) 0 (ys.map fone) w1) := ⟨by rw [f64s_nil hyl] at hown ⊢; exact hown, hb⟩
    clear hown hb
    go_wp2_with fail
    go_loopw [10] (fun vi wr => vi = .int .i64 0 ∧ wr = w1) (fun _ _ => 0)
    case atStart => exact ⟨rfl, rfl⟩
    case round =>
      obtain ⟨rfl, rfl⟩ := hrel
      go_wp2_with fail
      go_ret
      exact ⟨_, ys, rfl, HO.out, HP.out⟩
  · have HO := Lib.hid hown
    have HB := Lib.hid hb
    have HYL := Lib.hid hyl
    clear hown hb hyl
    go_wp2_with fail
    go_loopw [10] (fun vi wr => ∃ (j : Nat) (ws : List Nat), j ≤ n ∧ vi = .int .i64 j ∧ Hid (ws = (ys.take j).map fone ++ ys.drop j) ∧ Frow wr w.heap.size g n cap ws ∧ Hid (Below w.heap.size w wr)) (fun vi _ => n - (intOf vi).toNat)
    case atStart => exact ⟨0, ys, Nat.zero_le _, rfl, by show _ = _; simp, HO.out, HB.out⟩
    case round =>
      obtain ⟨j, ws, hj, rfl, HWS, hrow, HBL⟩ := hrel
      by_cases hlt : j < n
      · have hc1 := hrow.cell (i := j) hlt
        have hf1 := World.ownsRow.frozenAt hrow j
        have hst := World.ownsRow.stored hrow j (.float .f64 (fone (ws.getD j 0)))
        have e1 : (f64s ws).set j (.float .f64 (fone (ws.getD j 0))) = f64s (ws.set j (fone (ws.getD j 0))) := by unfold f64s; rw [List.map_set]
        rw [e1] at hst
        have HN : Hid (ws.set j (fone (ws.getD j 0)) = (ys.take (j + 1)).map fone ++ ys.drop (j + 1)) := by
          show _ = _
          rw [HWS.out, tk_get, tk_step _ _ _ (by rw [HYL.out]; exact hlt)]
        have HW2 := Lib.hid hst.1
        have HB2 := Lib.hid (below_own HBL.out hrow hst.2)
        clear e1 hst hrow
        generalize ws.getD j 0 = x at *
        go_wp2_with (first
          | (go_at_call 15; refine (c_One x _).mono ?_; rintro e w' ⟨rfl, rfl⟩)
          | (go_at_call 18; refine (c_Of (fone x) _).mono ?_; rintro e w' ⟨rfl, rfl⟩; rw [fone_fone]))
        go_roundw
        case rel => exact ⟨j + 1, _, hlt, by go_num, HN.out, HW2.out, HB2.out⟩
        case measure => simp [intOf]; omega
      · obtain rfl : j = n := by omega
        have HE : Hid (ws = ys.map fone) := by
          show _ = _
          rw [HWS.out, List.take_of_length_le (by rw [HYL.out]; exact Nat.le_refl _), List.drop_eq_nil_of_le (by rw [HYL.out]; exact Nat.le_refl _), List.append_nil]
        have HR := Lib.hid hrow
        clear hrow
        go_wp2_with fail
        go_ret
        exact ⟨_, ys, rfl, ⟨HE.out ▸ HR.out, HBL.out⟩, HP.out⟩
end Go.Proofs.Ytpgdiiplnnaegaa
