/- The law of sorted floats: both sorted lists say the same, and the given list stays as it was. Conditions: the list as an argument reads. -/
import Derived.Test.YtpgdiiplnnaegaaFk
import Derived.Test.YtpgdiiplnnaegaaLaw
namespace Go.Proofs.Ytpgdiiplnnaegaa
open Go.RowKit Go.WideShapes Go.ChangeShapes
set_option linter.unusedVariables false
attribute [local go_sem ↓] Go.wp_at_zero Go.wp_at_succ
attribute [local go_sem] run_store_float

section
variable {H : Type} {enc : TypeId × Value → H} {P : Program}
theorem trod_f64 {w : World} {base : Nat} {spare : Nat → Bool} {held : Bool} {t : TypeId} (ht : P.underlying t = some (.float .f64)) {fuel : Nat} {cs : List Value} {x : DataW H × List MemPlace} (h : DataW.trod enc P w base spare held fuel t cs = some x) :
    ∃ b, cs = [.float .f64 b] ∧ x = (.lit (.float .f64 b), []) ∧ (Lit.float .f64 b).wf = true := by
  cases fuel with
  | zero => simp [DataW.trod] at h
  | succ n =>
    unfold DataW.trod at h
    rw [ht] at h
    split at h <;> simp_all
/-- The bits that a reading says. -/
def bitOf (y : DataW H × List MemPlace) : Nat := match y.1 with | .lit (.float _ n) => n | _ => 0
/-- A slice of floats: its list, with bounds (turned from the library's law on integers). -/
theorem rd_floats {W : World} {t e : TypeId} (ht : P.underlying t = some (.slice e)) (he : P.underlying e = some (.float .f64)) (hc : P.cellsOf e = 1) (hby : P.bytesOf e = 8)
    {fuel : Nat} {cs : List Value} {x : DataW H × List MemPlace} (h : DataW.trod enc P W 0 (fun _ => true) true fuel t cs = some x) (hw : ∀ m ∈ x.1.weights P t, m ≤ reachBytes) :
    ∃ (A : Option Addr) (n c : Nat) (xs : List Nat), cs = [.slice A n c] ∧ n ≤ c ∧ c * 8 ≤ 140737488351232 ∧ (∀ z ∈ xs, (Lit.float .f64 z).wf = true) ∧ Reads W W.heap.size 1 A n (f64s xs) := by
  rcases DataW.trod_slice ht h with ⟨rfl, rfl⟩ | ⟨a, len, cap, elems, rest, n, _, rfl, rfl, hb, hl, hm, hlen, hel, hsp, hns⟩
  · exact ⟨none, 0, 0, [], rfl, Nat.le_refl _, by simp, (fun _ h => by cases h), Reads.none_⟩
  · obtain ⟨hrl, hr⟩ := hsp rfl
    have hsz : cap * 8 ≤ 140737488351232 := by
      have := hw (elems.length * 8 + rest.length * 8) (by simp [DataW.weights, ht, hby]; exact .inl (by omega))
      rw [← Nat.add_mul, show elems.length + rest.length = cap from by omega] at this
      exact this
    have each : ∀ i y, elems[i]? = some y → (Lit.float .f64 (bitOf y)).wf = true ∧ W.cell? (a.add i) = some (.float .f64 (bitOf y)) := by
      intro i y hy
      have hi : i < len := by
        have := (List.getElem?_eq_some_iff.1 hy).1
        omega
      have hb' := hel i hi
      rw [hy, hc, Nat.mul_one, Option.bind_eq_some_iff] at hb'
      obtain ⟨cs', hcs, hy'⟩ := hb'
      obtain ⟨m, rfl, rfl, hw'⟩ := trod_f64 he hy'
      exact ⟨hw', cell_of_cells?_one hcs⟩
    refine ⟨some a, len, cap, elems.map bitOf, rfl, hl, hsz, fun z hz => ?_, ⟨by simp [f64s]; omega, fun h0 => ⟨a, rfl, ?_, ?_⟩⟩⟩
    · obtain ⟨y, hy, rfl⟩ := List.mem_map.1 hz
      obtain ⟨i, hi⟩ := List.getElem?_of_mem hy
      exact (each i y hi).1
    · have hc0 := (each 0 (elems[0]'(by omega)) (List.getElem?_eq_getElem (by omega))).2
      have : a.add 0 = a := by simp [Addr.add]
      rw [this] at hc0
      exact World.block_lt_of_cell? _ _ hc0
    · intro j u hu
      rw [f64s, List.getElem?_map, List.getElem?_map] at hu
      rcases hj : elems[j]? with _ | y
      · rw [hj] at hu; simp at hu
      · rw [hj] at hu
        simp only [Option.map_some, Option.some.injEq] at hu
        rw [(each j y hj).2, ← hu]
/-- A slice of floats as an argument. -/
def RdFloats (W : World) (A : Option Addr) (n c : Nat) (xs : List Nat) : Prop := n ≤ c ∧ c * 8 ≤ 140737488351232 ∧ Bit xs ∧ Reads W W.heap.size 1 A n (f64s xs)
theorem fld_floats {W : World} {t e : TypeId} (ht : P.underlying t = some (.slice e)) (he : P.underlying e = some (.float .f64)) (hc : P.cellsOf e = 1) (hby : P.bytesOf e = 8)
    {fuel : Nat} {u : Value} {x : DataW H × List MemPlace} (h : DataW.trod enc P W 0 (fun _ => true) true fuel t [u] = some x) (hw : ∀ m ∈ x.1.weights P t, m ≤ reachBytes) :
    ∃ (A : Option Addr) (n c : Nat) (xs : List Nat), u = .slice A n c ∧ RdFloats W A n c xs := by
  obtain ⟨A, n, c, xs, h1, h2, h3, h4, h5⟩ := rd_floats ht he hc hby h hw
  injection h1 with h1
  exact ⟨A, n, c, xs, h1, h2, h3, fun z hz => by have := h4 z hz; simpa [Lit.wf] using this, h5⟩
end
theorem fkey_inj {a b : Nat} (ha : a < 18446744073709551616) (hb : b < 18446744073709551616) (h : fkey a = fkey b) : fone a = fone b := by
  rcases h1 : fnan a with _ | _ <;> rcases h2 : fnan b with _ | _
  · have k1 := fnan_no h1
    have k2 := fnan_no h2
    unfold fkey at h
    rw [h1, h2] at h
    rw [fone_no h1, fone_no h2]
    simp only [Bool.false_eq_true, if_false] at h
    split at h <;> split at h <;> omega
  · have k1 := fnan_no h1
    unfold fkey at h
    rw [h1, h2] at h
    simp only [Bool.false_eq_true, if_false, if_true] at h
    split at h <;> omega
  · have k2 := fnan_no h2
    unfold fkey at h
    rw [h1, h2] at h
    simp only [Bool.false_eq_true, if_false, if_true] at h
    split at h <;> omega
  · rw [fone_yes h1, fone_yes h2]
/-- Two lists that are sorted out of one say the same, float by float. -/
theorem sorts_same {xs ys zs : List Nat} {n : Nat} (hx : Bit xs) (hl : xs.length = n) (hp : ys.Perm xs) (hu : Up fkey ys 0 n) (hq : zs.Perm (xs.map fone)) (hv : Up fkey zs 0 n) : ∀ i, i < n → (ys.map fone).getD i 0 = fone (zs.getD i 0) := by
  have hyl : ys.length = n := hp.length_eq.trans hl
  have hzl : zs.length = n := by have := hq.length_eq; rw [List.length_map] at this; omega
  have hg : ∀ i, i < n → (ys.map fone).getD i 0 = fone (ys.getD i 0) := fun i hi => by
    simp [List.getD, List.getElem?_eq_getElem (show i < ys.length by omega)]
  have hperm : (ys.map fone).Perm zs := (hp.map fone).trans hq.symm
  have hup : Up fkey (ys.map fone) 0 (ys.map fone).length := fun i j h1 h2 h3 => by
    rw [List.length_map, hyl] at h3
    rw [hg i (by omega), hg j h3, fkey_fone, fkey_fone]
    exact hu i j h1 h2 h3
  have := up_unique (K := fkey) hperm hup (by rw [hzl]; exact hv)
  intro i hi
  have e : ((ys.map fone).map fkey).getD i 0 = (zs.map fkey).getD i 0 := by rw [this]
  have e1 : ((ys.map fone).map fkey).getD i 0 = fkey (fone (ys.getD i 0)) := by
    simp [List.getD, List.getElem?_eq_getElem (show i < ys.length by omega)]
  have e2 : (zs.map fkey).getD i 0 = fkey (zs.getD i 0) := by
    simp [List.getD, List.getElem?_eq_getElem (show i < zs.length by omega)]
  rw [e1, e2, fkey_fone] at e
  rw [hg i hi]
  refine fkey_inj ?_ ?_ e
  · exact (hx.perm hp).get _
  · exact ((bit_fone hx).perm hq).get _
theorem c_formS {x y : Nat} (h : x = fone y) (w : World) : Calls Try.prog 17 #[.float .f64 x, .float .f64 y] w fun e w' => e = .returned (.bool true) ∧ w' = w :=
  (c_form x y w).mono fun e w' ⟨h1, h2⟩ => ⟨by rw [h1, h]; simp, h2.symm⟩
theorem own_cap {w : World} {base n cap : Nat} {e : TypeId} {g : Nat} {xs : List Value} (h : w.ownsRow base e 1 (.slice (some ⟨g, 0, none⟩) n cap) n xs) : n ≤ cap := by
  rcases own_forms h with ⟨h1, _⟩ | ⟨g', cap', h1, _, h2⟩
  · cases h1
  · injection h1 with _ _ h3
    omega
theorem own_front {w : World} {base n m cap g : Nat} {e : TypeId} {xs ys : List Value} (h : w.ownsRow base e 1 (.slice (some ⟨g, 0, none⟩) (n + m) cap) (n + m) (xs ++ ys)) (hl : xs.length = n) : Reads w w.heap.size 1 (some ⟨g, 0, none⟩) n xs :=
  ⟨by omega, fun _ => ⟨_, rfl, (h.lt g rfl).2, fun j u hu => by
    have hj : j < xs.length := (List.getElem?_eq_some_iff.1 hu).1
    exact h.cells rfl j u (by rw [List.getElem?_append_left hj]; exact hu)⟩⟩
set_option maxRecDepth 100000 in
set_option maxHeartbeats 4000000 in
theorem l_FloatSorts (W : World) (A : Option Addr) (n c : Nat) (xs : List Nat) (h : RdFloats W A n c xs) :
    Calls Try.prog 5 #[.slice A n c] W fun e W' => e = .returned (.bool true) ∧ Below W.heap.size W W' := by
  obtain ⟨i0, hi0, hz0, hz1, hz2⟩ := info_parts f64_info
  obtain ⟨hnc, hcb, hbx, hrd⟩ := h
  have hn : n ≤ 17592186043904 := by omega
  have hxl : xs.length = n := by simpa using hrd.1
  clear hcb hnc
  go_enter Try.func5, Try.ntmps5
  go_wp2_with fail
  refine (c_copied A n c xs _ hrd (by omega)).mono ?_
  rintro e w1 ⟨v, rfl, hown, hb⟩
  obtain ⟨g, cap, rfl, hgb, hgl⟩ := own_form hown (by omega)
  have hcap := own_cap hown
  have HF := Lib.hid (own_front (by rw [f64s, List.map_append] at hown; exact hown) (by simpa using hxl) : Reads w1 w1.heap.size 1 (some ⟨g, 0, none⟩) n (f64s xs))
  have HFF : Hid (Reads w1 w1.heap.size 1 (some ⟨g, 0, none⟩) (n + 9) (f64s (xs ++ halves))) := Reads.of_own hown
  have HL := Lib.hid (hrd.step hb)
  have HB := Lib.hid hb
  have HBX := Lib.hid hbx
  have HXL := Lib.hid hxl
  clear hown hb hrd hbx hxl
  go_wp2_with fail
  refine (c_fSorted (some ⟨g, 0, none⟩) n cap xs _ HF.out HBX.out (by omega)).mono ?_
  rintro e w2 ⟨va, ys, rfl, ⟨hO2, hb2⟩, hp2, hu2⟩
  obtain ⟨A2, c2, rfl⟩ := own_slice hO2
  go_wp2_with fail
  refine (c_rSorted A n c xs _ (HL.out.step hb2) HBX.out (by omega)).mono ?_
  rintro e w3 ⟨vb, zs, rfl, ⟨hO3, hb3⟩, hp3, hu3⟩
  obtain ⟨A3, c3, rfl⟩ := own_slice hO3
  have HSM := Lib.hid (sorts_same HBX.out HXL.out hp2 hu2 hp3 hu3)
  have HO2 := Lib.hid (own_below hO2 hb3)
  have HO3 := Lib.hid hO3
  have HB3 := Lib.hid (below_step hb2 hb3)
  clear hp2 hu2 hp3 hu3 hO2 hO3 hb2 hb3
  go_wp2_with fail
  go_loopw [6] (fun vi wr => ∃ j : Nat, vi = .int .i64 j ∧ j ≤ n ∧ Hid (Below w3.heap.size w3 wr)) (fun vi _ => n - (intOf vi).toNat)
  case atStart => exact ⟨0, rfl, Nat.zero_le _, Below.refl _ _⟩
  case round =>
    obtain ⟨j, rfl, hj, HW⟩ := hrel
    by_cases hlt : j < n
    · obtain ⟨g2, cap2, hA2, hg2, hl2⟩ := own_form HO2.out (by omega)
      obtain ⟨g3, cap3, hA3, hg3, hl3⟩ := own_form HO3.out (by omega)
      injection hA2 with e1 _ e2
      injection hA3 with e3 _ e4
      subst e1 e2 e3 e4
      have hc1 : wr.cell? ⟨g2, j, none⟩ = some (.float .f64 ((ys.map fone).getD j 0)) := by rw [(bcell HW.out).1 _ _ hl2]; exact Frow.cell HO2.out hlt
      have hc2 : wr.cell? ⟨g3, j, none⟩ = some (.float .f64 (zs.getD j 0)) := by rw [(bcell HW.out).1 _ _ hl3]; exact Frow.cell HO3.out hlt
      have HCP := Lib.hid (c_formS (HSM.out j hlt))
      generalize (ys.map fone).getD j 0 = x at *
      generalize zs.getD j 0 = y at *
      go_wp2_with fail
      go_quiet ((go_at_call 17; exact Calls.quiet_of_same (HCP.out _)))
      have HW1 := Lib.hid (below_drewN HW.out nq)
      clear hc1 hc2 HW HCP
      generalize wr.drewN nq = w4 at *
      go_wp2_with fail
      go_roundw
      case rel => exact ⟨j + 1, by go_num, hlt, HW1.out⟩
      case measure => simp [intOf]; omega
    · obtain rfl : j = n := by omega
      obtain ⟨wo, rfl⟩ : ∃ wo : World, wo = wr := ⟨_, rfl⟩
      have HO4 := Lib.hid (own_below HO2.out HW.out)
      have HB4 := Lib.hid (below_step HB3.out HW.out)
      clear HO2 HO3 HSM HB3 HW hlt hj
      go_wp2_with fail
      go_loopw [7] (fun vi wr => ∃ (i : Nat) (ws : List Nat), vi = .int .i64 i ∧ i ≤ j ∧ Hid (Fown w1 (.slice A2 j c2) j ws wr)) (fun vi _ => j - (intOf vi).toNat)
      case atStart => exact ⟨0, _, rfl, Nat.zero_le _, HO4.out, HB4.out⟩
      case round =>
        obtain ⟨i, ws, rfl, hi, HO⟩ := hrel
        clear HO4 HB4
        by_cases hlt : i < j
        · obtain ⟨g2, cap2, hA2, hg2, hl2⟩ := own_form HO.out.1 (by omega)
          injection hA2 with e1 _ e2
          subst e1 e2
          have hf1 := World.ownsRow.frozenAt HO.out.1 i
          have hc1 := Frow.cell HO.out.1 hlt
          have hst := World.ownsRow.stored HO.out.1 i (.float .f64 4619567317775286272)
          have e1 : (f64s ws).set i (.float .f64 4619567317775286272) = f64s (ws.set i 4619567317775286272) := by unfold f64s; rw [List.map_set]
          rw [e1] at hst
          have HN : Hid (Fown w1 (.slice (some ⟨g2, 0, none⟩) j c2) j (ws.set i 4619567317775286272) (wr.setCell ⟨g2, i, none⟩ (.float .f64 4619567317775286272))) := ⟨hst.1, below_own HO.out.2 HO.out.1 hst.2⟩
          clear hst e1 HO
          go_wp2_with fail
          go_roundw
          case rel => exact ⟨i + 1, _, by go_num, hlt, HN.out⟩
          case measure => simp [intOf]; omega
        · obtain rfl : i = j := by omega
          go_wp2_with fail
          go_loopw [4, 8] (fun va vi wr => ∃ (k : Nat) (A0 : Option Addr) (c0 : Nat) (us : List Nat), va = .slice A0 ((i + k : Nat)) c0 ∧ vi = .int .i64 k ∧ k ≤ 9 ∧ Hid (Fown w1 (.slice A0 (i + k) c0) (i + k) us wr)) (fun _ vi _ => 9 - (intOf vi).toNat)
          case atStart => exact ⟨0, A2, c2, ws, rfl, rfl, by omega, HO.out⟩
          case round =>
            obtain ⟨k, A0, c0, us, rfl, rfl, hk, HO5⟩ := hrel
            clear HO
            by_cases hlt3 : k < 9
            · have hk9 : k < 9 := hlt3
              have HOA := Lib.hid (HO5.out.1.alloc (.cells #[.float .f64 4621256167635550208] 23))
              have HBA : Hid (Below w1.heap.size w1 (wr.alloc (.cells #[.float .f64 4621256167635550208] 23))) := HO5.out.2.alloc HO5.out.2.size _
              have HRA := Lib.hid (reads_one wr 23 (.float .f64 4621256167635550208))
              have HE : Hid (f64s us ++ [.float .f64 4621256167635550208] = f64s (us ++ [4621256167635550208])) := by show _ = _; simp [f64s]
              go_wp2_with (first
                | (refine wpList_buildSliceTo rfl 31 23 1 _ rfl wr.heap.size rfl (some 53) rfl Try.underlying31 #[.float .f64 4621256167635550208] (by exact built1 _) ?_)
                | (at_builtin; refine wpList_append_any _ rfl (.tmp 52) (.tmp 53) _ rfl w1.heap.size 23 i0 _ 1 8 Try.underlying31 hi0 hz0 hz1 hz2 rfl (by omega) _ (i + k) (f64s us) rfl HOA.out _ _ 1 1 [.float .f64 4621256167635550208] rfl HRA.out (by simp [Value.oneCell']) (by simp only [maxLen]; omega) (by omega) HBA.out.size ?_; intro v2 w5 hown2 hg2 _; rw [HE.out] at hown2; have HB5 := Lib.hid (below_own HBA.out HOA.out hg2); obtain ⟨A5, c5, rfl⟩ := own_slice hown2; have HW5 := Lib.hid hown2; clear hown2 hg2 HOA HBA HRA HE))
              go_roundw
              case rel => exact ⟨k + 1, A5, c5, _, rfl, by go_num, hk9, HW5.out, HB5.out⟩
              case measure => simp [intOf]; omega
            · obtain rfl : k = 9 := by omega
              have HK := Lib.hid (c_kept A (some ⟨g, 0, none⟩) i c cap xs wr (HL.out.step HO5.out.2) (HFF.out.step HO5.out.2) (by omega))
              go_wp2_with fail
              refine HK.out.mono ?_
              rintro e w6 ⟨rfl, hb6⟩
              have HB6 := Lib.hid (below_step HB.out (below_step HO5.out.2 hb6))
              clear hb6
              go_wp2_with fail
              go_ret
              exact ⟨rfl, HB6.out⟩
end Go.Proofs.Ytpgdiiplnnaegaa
