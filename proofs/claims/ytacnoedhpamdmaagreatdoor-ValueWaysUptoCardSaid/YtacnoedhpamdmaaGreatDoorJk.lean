/- Walk: a value with another one laid at the end of a way, by the document (quernref23.laid). Conditions: the values as they read; there is a value at the way's end; bulk at most 1048576. -/
import Derived.Test.YtacnoedhpamdmaaGreatDoorJj
namespace Go.Proofs.YtacnoedhpamdmaaGreatDoor
open Go.RowKit
set_option linter.unusedVariables false
set_option linter.unusedSimpArgs false
attribute [local go_sem ↓] Go.wp_at_zero Go.wp_at_succ

/-- A value that reads in every world that keeps what was there at first, and the blocks from lo on. -/
def Frs (wb : World) (lo : Nat) (w' : World) (v : Val) (cs : List Value) : Prop :=
  ∀ W, Below wb.heap.size wb W → w'.heap.size ≤ W.heap.size → (∀ i, lo ≤ i → i < w'.heap.size → W.heap[i]? = w'.heap[i]?) → RdV W W.heap.size v cs
theorem Frs.six {wb w' : World} {lo : Nat} {v : Val} {cs : List Value} (h : Frs wb lo w' v cs) (hb : Below wb.heap.size wb w') : cs.length = 6 ∧ cs.toArray.toList.all (·.oneCell') = true := by
  obtain ⟨A, A', c, c', rfl, _, _⟩ := (h w' hb (Nat.le_refl _) (fun _ _ _ => rfl)).open_
  exact ⟨rfl, rfl⟩
theorem Frs.of_rv {wb w' : World} {lo : Nat} {v : Val} {cs : List Value} (h : RV wb v cs) : Frs wb lo w' v cs := fun W hb _ _ => (h.step hb).rd
/-- An answer of laid. -/
def LdE (wb w : World) (z : Val) (e : Ending) (w' : World) : Prop := ∃ cx : List Value, e = .returned (.agg cx.toArray) ∧ Frs wb w.heap.size w' z cx ∧ Below w.heap.size w w'
/-- The value with its items in a block of their own, one of them anew. -/
theorem Frs.set_ {wb w2 w5 : World} {lo lo2 g cap j c' : Nat} {v z : Val} {A A' : Option Addr} {c : Nat} {css : List (List Value)} {cz : List Value} {cur : Array Value}
    (hv : RV wb v (vcs v A A' c c')) (hcl : css.length = v.its.length) (hrv : ∀ k, (h : k < v.its.length) → (h' : k < css.length) → RV wb v.its[k] css[k]) (hj : j < v.its.length)
    (hz : v.its.length * 6 ≤ cur.size) (hcur : ∀ k q u, k < v.its.length → (h' : k < css.length) → (css[k])[q]? = some u → cur[k * 6 + q]? = some u) (h6 : cz.length = 6)
    (hf : Frs wb lo2 w2 z cz) (hlo : lo ≤ lo2) (hs2 : w2.heap.size ≤ w5.heap.size) (hk2 : ∀ i, lo2 ≤ i → i < w2.heap.size → w5.heap[i]? = w2.heap[i]?)
    (hg : lo ≤ g) (hb : Blk w5 g 30 (cur.toList.take (j * 6) ++ cz ++ cur.toList.drop (j * 6 + 6)).toArray) :
    Frs wb lo w5 (setI v j z) (vcs (setI v j z) (some ⟨g, 0, none⟩) A' cap c') := by
  intro W hB hsz hk
  obtain ⟨A0, A0', c0, c0', e0, hnm, _⟩ := RdV_iff.1 (hv.step hB).rd
  have hA' : A0' = A' ∧ c0' = c' := by
    unfold vcs at e0
    injection e0 with _ e0
    injection e0 with _ e0
    injection e0 with _ e0
    injection e0 with _ e0
    injection e0 with _ e0
    injection e0 with e0 _
    injection e0 with e1 _ e2
    exact ⟨e1.symm, e2.symm⟩
  have hW : Blk W g 30 (cur.toList.take (j * 6) ++ cz ++ cur.toList.drop (j * 6 + 6)).toArray := (hk g hg hb.lt).trans hb
  refine RdV_iff.2 ⟨_, _, _, _, rfl, by rw [← hA'.1]; exact hnm, fun i hi => ?_⟩
  have hi' : i < v.its.length := by rw [setI_its, List.length_set] at hi; exact hi
  have hgW : g < W.heap.size := hW.lt
  by_cases hij : i = j
  · subst hij
    refine ⟨⟨g, 0, none⟩, cz, rfl, hgW, fun q u hu => ?_, ?_⟩
    · have hq : q < 6 := by have := (List.getElem?_eq_some_iff.1 hu).1; omega
      rw [Addr.add_lit, Nat.zero_add, hW.cell, splice_at h6 hi' hz i q hq hi', if_pos rfl]
      exact hu
    · have hfW := hf W hB (Nat.le_trans hs2 hsz) (fun k h1 h2 => (hk k (by omega) (by omega)).trans (hk2 k h1 h2))
      simp only [setI_its, List.getElem_set_self]
      exact hfW
  · have hc : i < css.length := by rw [hcl]; exact hi'
    refine ⟨⟨g, 0, none⟩, css[i], rfl, hgW, fun q u hu => ?_, ?_⟩
    · have hq : q < 6 := by
        have := (List.getElem?_eq_some_iff.1 hu).1
        rw [(hrv i hi' hc).six.1] at this
        exact this
      rw [Addr.add_lit, Nat.zero_add, hW.cell, splice_at h6 hj hz i q hq hi', if_neg hij]
      exact hcur i q u hi' hc hu
    · simp only [setI_its]
      rw [List.getElem_set_ne (by omega)]
      exact ((hrv i hi' hc).step hB).rd
/-- The boxes that laid makes. -/
theorem three_bx (w : World) (cs cs' : Array Value) : Blk (((w.alloc (.cells cs 30)).alloc (.cells cs' 30)).alloc (.cells vz 30)) w.heap.size 30 cs ∧
    Blk (((w.alloc (.cells cs 30)).alloc (.cells cs' 30)).alloc (.cells vz 30)) (w.heap.size + 1) 30 cs' ∧
    Blk (((w.alloc (.cells cs 30)).alloc (.cells cs' 30)).alloc (.cells vz 30)) (w.heap.size + 2) 30 vz ∧
    (((w.alloc (.cells cs 30)).alloc (.cells cs' 30)).alloc (.cells vz 30)).heap.size = w.heap.size + 3 ∧
    Below w.heap.size w (((w.alloc (.cells cs 30)).alloc (.cells cs' 30)).alloc (.cells vz 30)) := by
  have h0 := Blk.new w 30 cs
  have h1 := Blk.new (w.alloc (.cells cs 30)) 30 cs'
  have h2 := Blk.new ((w.alloc (.cells cs 30)).alloc (.cells cs' 30)) 30 vz
  simp only [World.size_alloc] at h1 h2
  exact ⟨(h0.alloc _).alloc _, h1.alloc _, h2, by simp, (((Below.refl _ _).alloc (Nat.le_refl _) _).alloc (by simp) _).alloc (by simp; omega) _⟩
theorem own_shift {w w' : World} {base n size : Nat} {e : TypeId} {v : Value} {xs : List Value} (h : w.ownsRow base e size v (0 + n) ([] ++ xs)) : w.ownsRow base e size v n xs := by
  rw [Nat.zero_add, List.nil_append] at h; exact h
set_option maxRecDepth 100000 in
set_option maxHeartbeats 4000000 in
theorem c_laid : ∀ (way : List Int) (v y x : Val) (cs cy : List Value) (A : Option Addr) (n c : Nat) (wb w : World), atV v way = some x → RV wb v cs → RV wb y cy → Below wb.heap.size wb w → Reads w w.heap.size 1 A n (i64s way) → n ≤ c → n ≤ 1099511627776 →
    Calls Tryz.prog 56 #[.agg cs.toArray, .slice A n c, .agg cy.toArray] w (LdE wb w (putV v way y)) := by
  intro way
  induction way with
  | nil =>
    intro v y x cs cy A n c wb w hat hv hy hwb hr hnc hn
    obtain rfl : n = 0 := by have := hr.1; simp at this; omega
    obtain ⟨t0, t1, t2, tz, tb⟩ := three_bx w cs.toArray cy.toArray
    have H1 := Lib.hid t1
    have H2 := Lib.hid t2
    have HB0 := Lib.hid tb
    have HRC := Lib.hid hy.row
    have HY := Lib.hid hy
    have hvz : vz.size = cy.toArray.size := by rw [row_six hy]; rfl
    have HP : Hid (putV v [] y = y) := by show _ = _; rw [putV]
    clear hat hv hy hr t0 t1 t2 tz tb
    generalize putV v [] y = R at *
    go_enter Tryz.func56, Tryz.ntmps56
    go_upto_region 1 with fail
    generalize World.alloc (World.alloc (w.alloc _) _) _ = w0 at *
    go_wp2_with (first
      | (refine wpList_load_row rfl 30 (.tmp 5) rfl (w.heap.size + 1) rfl 30 _ (0, 0) _ H1.out Tryz.underlying30 rfl HRC.out ?_)
      | (refine wpList_storeB rfl 30 (.tmp 6) (.tmp 11) rfl rfl (w.heap.size + 2) cy.toArray (by first | rfl | simp [Act.eval]) rfl H2.out HRC.out hvz HY.out.six.2 ?_; intro w3 hB3 hg3 hz3))
    refine bodyPost_ret (results_cellB (p := 6) rfl _ hB3 _ rfl Tryz.underlying30 rfl HRC.out) rfl ?_
    rw [HP.out]
    exact ⟨cy, rfl, Frs.of_rv HY.out, HB0.out.grown hg3 HB0.out.size (fun k e => by injection e with e; omega)⟩
  | cons k0 r ih =>
    intro v y x cs cy A n c wb w hat hv hy hwb hr hnc hn
    obtain ⟨j, rfl, hj, hat2⟩ := atV_cons hat
    have hnl : n = r.length + 1 := by have := hr.1; simp at this; omega
    obtain ⟨AI, A', ci, c', css, hcs, hnm, hfl, hcl, hc6, hc1, hcv⟩ := hv.items
    obtain ⟨b, off, hA, hb1, hb2, hcell⟩ := hr.form (by omega)
    subst hA
    have kw0 := hcell 0 (by omega)
    rw [getD_i64s (by simp), Nat.add_zero, List.getD_cons_zero] at kw0
    have hilen : v.its.length < 1048577 := by have := (bnd_len v).1; have := hv.bd; omega
    obtain ⟨i0, hi0, hz0, hz1, hz2⟩ := info_parts vl_info
    obtain ⟨t0, t1, t2, tz, tb⟩ := three_bx w cs.toArray cy.toArray
    have H0 := Lib.hid t0
    have H1 := Lib.hid t1
    have H2 := Lib.hid t2
    have HZ0 := Lib.hid tz
    have HB0 := Lib.hid tb
    have HWB := Lib.hid hwb
    have HV := Lib.hid hv
    have HYV := Lib.hid hy
    have HRCY := Lib.hid hy.row
    have HRCV := Lib.hid hv.row
    have HKW : Hid (∀ W, Below w.heap.size w W → W.cell? ⟨b, off, none⟩ = some (.int .i64 (j : Int))) := fun W hW => (hW.cell (p := ⟨b, off, none⟩) hb1).trans kw0
    have HFL : Hid (∀ W, Below wb.heap.size wb W → Reads W W.heap.size 6 AI v.its.length css.flatten) := fun W hW => (hfl.below hW).more hW.size
    have HIH : Hid (∀ (W : World) (A2 : Option Addr) (c2 : Nat) (cj : List Value), Below wb.heap.size wb W → RV wb v.its[j] cj → Reads W W.heap.size 1 A2 r.length (i64s r) → r.length ≤ c2 →
      Calls Tryz.prog 56 #[.agg cj.toArray, .slice A2 r.length c2, .agg cy.toArray] W (LdE wb W (putV v.its[j] r y))) := fun W A2 c2 cj h1 h2 h3 h4 => ih _ y x cj cy A2 r.length c2 wb W hat2 h2 hy h1 h3 h4 (by omega)
    have HRR : Hid (∀ W, Below w.heap.size w W → Reads W W.heap.size 1 (if c = 1 then some ⟨b, off, none⟩ else some ⟨b, off + 1, none⟩) r.length (i64s r)) := fun W hW => by
      have h1 := hr.cut (k := 1) (cap := c) (by omega) hnc
      have h2 := (h1.below hW).more hW.size
      rw [show n - 1 = r.length by omega] at h2
      have e : (if c = 1 then some (⟨b, off, none⟩ : Addr) else (some (⟨b, off, none⟩ : Addr)).map (·.add (1 * 1))) = if c = 1 then some ⟨b, off, none⟩ else some ⟨b, off + 1, none⟩ := by
        simp [Addr.add]
      rw [e] at h2
      exact h2
    have HP : Hid (putV v ((j : Int) :: r) y = setI v j (putV v.its[j] r y)) := putV_in hj r y
    have hjc : j < css.length := by rw [hcl]; exact hj
    have HCJ := Lib.hid (hcv j hj hjc)
    have HCV : Hid (∀ k, (h : k < v.its.length) → (h' : k < css.length) → RV wb v.its[k] css[k]) := hcv
    obtain ⟨u0, u1, u2, u3, u4, u5, hu⟩ := lst_six (hc6 _ (List.getElem_mem hjc))
    have HU := Lib.hid hu
    obtain ⟨y0, y1, y2, y3, y4, y5, hyy⟩ := lst_six hy.six.1
    subst hcs
    have HCS : Hid ((vcs v AI A' ci c').toArray[4]? = some (.slice AI v.its.length ci)) := rfl
    have HSET : Hid (∀ (g cap : Nat) (z : Val), (vcs v AI A' ci c').toArray.setIfInBounds 4 (.slice (some ⟨g, 0, none⟩) v.its.length cap) = (vcs (setI v j z) (some ⟨g, 0, none⟩) A' cap c').toArray) := fun g cap z => by
      unfold vcs
      simp [setI, Val.its, Val.k, Val.i, Val.f, Val.t, Val.nms]
    have HFG : Hid (∀ q, q < 6 → css.flatten[j * 6 + q]? = (css[j])[q]?) := fun q hq => flt_get css j q hjc hc6 hq
    have HFA : Hid (∀ k q u, k < v.its.length → (h' : k < css.length) → (css[k])[q]? = some u → css.flatten[k * 6 + q]? = some u) := fun k q u hk h' hq => by
      have h6q : q < 6 := by have := (List.getElem?_eq_some_iff.1 hq).1; rw [hc6 _ (List.getElem_mem h')] at this; exact this
      rw [flt_get css k q h' hc6 h6q]; exact hq
    have hone := hc1
    have HONE := Lib.hid hone
    have HCL := Lib.hid hcl
    have HYY := Lib.hid hyy
    clear ih hat hat2 hr hv hy hwb hcell kw0 hnm hfl hcl hc6 hc1 hcv t0 t1 t2 tz tb hu hyy hone
    generalize (vcs v AI A' ci c').toArray = csA at *
    generalize putV v ((j : Int) :: r) y = R at *
    obtain ⟨zj, hzj⟩ : ∃ z, putV v.its[j] r y = z := ⟨_, rfl⟩
    rw [hzj] at HIH HP
    clear hzj
    subst hnl
    go_enter Tryz.func56, Tryz.ntmps56
    go_upto_region 1 with fail
    generalize World.alloc (World.alloc (w.alloc _) _) _ = w0 at *
    have k4 : (w0.alloc (.cells #[] 30)).cell? ⟨w.heap.size, 4, none⟩ = some (.slice AI v.its.length ci) := ((H0.out.alloc _).cell 4).trans HCS.out
    have HM : Hid ((w0.alloc (.cells #[] 30)).ownsRow w0.heap.size 30 6 (.slice (some ⟨w0.heap.size, 0, none⟩) 0 0) 0 []) := World.ownsRow_made w0 #[] 0 (Nat.le_refl _) (Nat.zero_le _) (by simp)
    have HBA : Hid (Below w0.heap.size w0 (w0.alloc (.cells #[] 30))) := (Below.refl _ _).alloc (Nat.le_refl _) _
    have HW0 : Hid (Below wb.heap.size wb w0) := HWB.out.trans (HB0.out.mono HWB.out.size)
    have HRA := Lib.hid (HFL.out _ (HW0.out.trans (HBA.out.mono HW0.out.size)))
    go_upto_region 4 with (at_builtin; refine wpList_append_any _ rfl (.tmp 12) (.tmp 14) 27 rfl w0.heap.size 30 i0 _ 6 88 Tryz.underlying27 hi0 hz0 hz1 hz2 rfl (by omega) (.slice (some ⟨w0.heap.size, 0, none⟩) 0 0) 0 [] (by first | rfl | simp [Act.eval]) HM.out _ AI v.its.length ci css.flatten (by first | rfl | simp [Act.eval]) HRA.out HONE.out (by simp only [maxLen]; omega) (by omega) HBA.out.size ?_; intro v1 w1 hown hgrow _; have HO1 := Lib.hid (own_shift (w' := w) hown); have HB1 : Hid (Below w0.heap.size w0 w1) := HBA.out.grown hgrow HBA.out.size (by intro k hk; simp [Value.ownBlock] at hk; omega); clear hown hgrow)
    obtain ⟨Ag, cap, hv1⟩ := own_hdr HO1.out
    subst hv1
    obtain ⟨g, cur, hAg, hgb, hgl, hgB, hgz, hgc⟩ := own_blk HO1.out (by omega)
    subst hAg
    have HGB := Lib.hid hgB
    have HGC := Lib.hid hgc
    have H0' := Lib.hid (H0.out.below HB1.out (by have := HZ0.out; omega))
    have H1' := Lib.hid (H1.out.below HB1.out (by have := HZ0.out; omega))
    have H2' := Lib.hid (H2.out.below HB1.out (by have := HZ0.out; omega))
    have HBW : Hid (Below w.heap.size w w1) := HB0.out.trans (HB1.out.mono HB0.out.size)
    have HWW : Hid (Below wb.heap.size wb w1) := HWB.out.trans (HBW.out.mono HWB.out.size)
    have kw : w1.drew.cell? ⟨b, off, none⟩ = some (.int .i64 (j : Int)) := HKW.out w1 HBW.out
    have HUX : Hid (∀ q u, [u0, u1, u2, u3, u4, u5][q]? = some u → w1.drew.cell? ⟨g, j * 6 + q, none⟩ = some u) := fun q u hu => by
      have hq : q < 6 := (List.getElem?_eq_some_iff.1 hu).1
      show w1.cell? _ = _
      rw [hgB.cell]
      exact hgc _ u (by rw [HFG.out q hq, HU.out]; exact hu)
    have hy6 := HYV.out.six.1
    have hy1 : ∀ q u, cy[q]? = some u → w1.drew.cell? ⟨w.heap.size + 1, 0 + q, none⟩ = some u := fun q u hq => by rw [Nat.zero_add]; show w1.cell? _ = _; rw [H1'.out.cell]; simpa using hq
    clear k4 HM HBA HRA hgB hgc H0 H1 H2
    have hjl : j < v.its.length := hj
    have hjI : (j : Int) < (v.its.length : Int) := by omega
    by_cases hc1 : c = 1
    · obtain rfl := hc1
      have hr0 : r.length = 0 := by omega
      have HZG : Hid (w.heap.size + 3 ≤ g) := by have := HZ0.out; show _ ≤ _; omega
      refine wp_region_held_drew (S := (fun V => V.cell? ⟨b, off, none⟩ = some (.int .i64 (j : Int)) ∧ ∀ q u, cy[q]? = some u → V.cell? ⟨w.heap.size + 1, 0 + q, none⟩ = some u)) (by kernel_rfl) ?_ (fun hHeld => ?_)
      · (try dsimp only); exact ⟨kw, hy1⟩
      refine wpAnyH_take (i := 0) (v := ?va0) (by rw [List.getElem?_toArray]; exact rfl) (by kernel_rfl) (by kernel_rfl) (by kernel_rfl) (by exact fun _ _ _ h => h) (Or.inl ⟨by rfl, ?ya0⟩) (by assumption) ?ra0
      case ya0 => (intro wV hSw; (try dsimp only at hSw); obtain ⟨hs1, hs2⟩ := hSw; go_simp; try with_reducible rfl)
      try simp only [Act.put, List.setIfInBounds_toArray, List.set_cons_zero, List.set_cons_succ]
      refine wpAnyH_take (i := 1) (v := ?va1) (by rw [List.getElem?_toArray]; exact rfl) (by kernel_rfl) (by kernel_rfl) (by kernel_rfl) (by exact fun _ _ _ h => h) (Or.inl ⟨by rfl, ?ya1⟩) (by assumption) ?ra1
      case ya1 => (intro wV hSw; (try dsimp only at hSw); obtain ⟨hs1, hs2⟩ := hSw; go_simp; try with_reducible rfl)
      try simp only [Act.put, List.setIfInBounds_toArray, List.set_cons_zero, List.set_cons_succ]
      refine wpAnyH_take (i := 2) (v := ?va2) (by rw [List.getElem?_toArray]; exact rfl) (by kernel_rfl) (by kernel_rfl) (by kernel_rfl) (by exact fun _ _ _ h => h) (Or.inl ⟨by rfl, ?ya2⟩) (by assumption) ?ra2
      case ya2 => (intro wV hSw; (try dsimp only at hSw); obtain ⟨hs1, hs2⟩ := hSw; go_simp; try with_reducible rfl)
      try simp only [Act.put, List.setIfInBounds_toArray, List.set_cons_zero, List.set_cons_succ]
      refine wpAnyH_take (i := 3) (v := ?va3) (by rw [List.getElem?_toArray]; exact rfl) (by kernel_rfl) (by kernel_rfl) (by kernel_rfl) (by exact fun _ _ _ h => h) (Or.inl ⟨by rfl, ?ya3⟩) (by assumption) ?ra3
      case ya3 => (intro wV hSw; (try dsimp only at hSw); obtain ⟨hs1, hs2⟩ := hSw; go_simp; try with_reducible rfl)
      try simp only [Act.put, List.setIfInBounds_toArray, List.set_cons_zero, List.set_cons_succ]
      refine wpAnyH_take (i := 4) (v := ?va4) (by rw [List.getElem?_toArray]; exact rfl) (by kernel_rfl) (by kernel_rfl) (by kernel_rfl) (by exact fun _ _ _ h => h) (Or.inl ⟨by rfl, ?ya4⟩) (by assumption) ?ra4
      case ya4 => (intro wV hSw; (try dsimp only at hSw); obtain ⟨hs1, hs2⟩ := hSw; go_simp; try with_reducible rfl)
      try simp only [Act.put, List.setIfInBounds_toArray, List.set_cons_zero, List.set_cons_succ]
      refine wpAnyH_take (i := 5) (v := ?va5) (by rw [List.getElem?_toArray]; exact rfl) (by kernel_rfl) (by kernel_rfl) (by kernel_rfl) (by exact fun _ _ _ h => h) (Or.inl ⟨by rfl, ?ya5⟩) (by assumption) ?ra5
      case ya5 => (intro wV hSw; (try dsimp only at hSw); obtain ⟨hs1, hs2⟩ := hSw; go_simp; try with_reducible rfl)
      try simp only [Act.put, List.setIfInBounds_toArray, List.set_cons_zero, List.set_cons_succ]
      refine wpAnyH_take (i := 6) (v := ?va6) (by rw [List.getElem?_toArray]; exact rfl) (by kernel_rfl) (by kernel_rfl) (by kernel_rfl) (by exact fun _ _ _ h => h) (Or.inl ⟨by rfl, ?ya6⟩) (by assumption) ?ra6
      case ya6 => (intro wV hSw; (try dsimp only at hSw); obtain ⟨hs1, hs2⟩ := hSw; go_simp; try with_reducible rfl)
      try simp only [Act.put, List.setIfInBounds_toArray, List.set_cons_zero, List.set_cons_succ]
      refine wpAnyH_take (i := 7) (v := ?va7) (by rw [List.getElem?_toArray]; exact rfl) (by kernel_rfl) (by kernel_rfl) (by kernel_rfl) (by exact fun _ _ _ h => h) (Or.inl ⟨by rfl, ?ya7⟩) (by assumption) ?ra7
      case ya7 => (intro wV hSw; (try dsimp only at hSw); obtain ⟨hs1, hs2⟩ := hSw; go_simp; try with_reducible rfl)
      try simp only [Act.put, List.setIfInBounds_toArray, List.set_cons_zero, List.set_cons_succ]
      refine wpAnyH_take (i := 8) (v := ?va8) (by rw [List.getElem?_toArray]; exact rfl) (by kernel_rfl) (by kernel_rfl) (by kernel_rfl) (by exact fun _ _ _ h => h) (Or.inl ⟨by rfl, ?ya8⟩) (by assumption) ?ra8
      case ya8 => (intro wV hSw; (try dsimp only at hSw); obtain ⟨hs1, hs2⟩ := hSw; go_simp; try with_reducible rfl)
      try simp only [Act.put, List.setIfInBounds_toArray, List.set_cons_zero, List.set_cons_succ]
      refine wpAnyH_take (i := 10) (v := ?va10) (by rw [List.getElem?_toArray]; exact rfl) (by kernel_rfl) (by kernel_rfl) (by kernel_rfl) (by exact fun _ _ _ h => h) (Or.inl ⟨by rfl, ?ya10⟩) (by assumption) ?ra10
      case ya10 => (intro wV hSw; (try dsimp only at hSw); obtain ⟨hs1, hs2⟩ := hSw; go_simp; try with_reducible rfl)
      try simp only [Act.put, List.setIfInBounds_toArray, List.set_cons_zero, List.set_cons_succ]
      refine wpAnyH_take (i := 11) (v := ?va11) (by rw [List.getElem?_toArray]; exact rfl) (by kernel_rfl) (by kernel_rfl) (by kernel_rfl) (by exact fun _ _ _ h => h) (Or.inl ⟨by rfl, ?ya11⟩) (by assumption) ?ra11
      case ya11 => (intro wV hSw; (try dsimp only at hSw); obtain ⟨hs1, hs2⟩ := hSw; go_simp; try with_reducible rfl)
      try simp only [Act.put, List.setIfInBounds_toArray, List.set_cons_zero, List.set_cons_succ]
      refine wpAnyH_take (i := 12) (v := .agg cy.toArray) (by rw [List.getElem?_toArray]; exact rfl) (by kernel_rfl) (by kernel_rfl) (by kernel_rfl) (by exact fun _ _ _ h => h) (Or.inl ⟨by rfl, ?ya12⟩) (by assumption) ?ra12
      case ya12 => (intro wV hSw; (try dsimp only at hSw); obtain ⟨hs1, hs2⟩ := hSw; exact exec_load_at 30 (.tmp 5) rfl (w.heap.size + 1) 0 (by first | rfl | simp [Act.eval]) cy _ hs2 Tryz.underlying30 rfl (by rw [hy6]; exact v_info))
      try simp only [Act.put, List.setIfInBounds_toArray, List.set_cons_zero, List.set_cons_succ]
      refine wpAnyH_ready (rs := [9]) (by kernel_rfl) (by simp) ?_
      intro jj hjj
      obtain rfl := List.mem_singleton.1 hjj
      clear hjj
      refine wpOp_step (by rw [List.getElem?_toArray]; exact rfl) (fun K hK => ?_)
      replace hK := Lib.hid hK
      refine step_load_at6 rfl 30 (.tmp 24) rfl g (j * 6) (by simp [Act.eval]) [u0, u1, u2, u3, u4, u5] _ HUX.out Tryz.underlying30 rfl (inf_six rfl) ?_
      refine hK.out _ _ (and_by ?_ (fun hHeld => ?_))
      · (try dsimp only); exact ⟨kw, hy1⟩
      clear hK K
      try simp only [Act.put, List.setIfInBounds_toArray, List.set_cons_zero, List.set_cons_succ]
      refine wpAnyH_ready (rs := [13]) (by kernel_rfl) (by simp) ?_
      intro jj hjj
      obtain rfl := List.mem_singleton.1 hjj
      clear hjj
      refine wpOp_step (by rw [List.getElem?_toArray]; exact rfl) (fun K hK => ?_)
      replace hK := Lib.hid hK
      go_simp
      have hIH := HIH.out w1.drew (some ⟨b, off, none⟩) 0 css[j] HWW.out.drew HCJ.out (by have := HRR.out w1.drew HBW.out.drew; rw [if_pos rfl] at this; exact this) (by omega)
      rw [HU.out, hr0] at hIH
      refine (hIH).mono ?_
      rintro e w2 ⟨cz, rfl, hfz, hb2⟩
      have HF := Lib.hid hfz
      have HB2 := Lib.hid hb2
      have HW2 : Hid (Below wb.heap.size wb w2) := HWW.out.drew.trans (hb2.mono HWW.out.size)
      have kw2 := HKW.out w2 (HBW.out.drew.trans (hb2.mono HBW.out.size))
      have hy2 : ∀ q u, cy[q]? = some u → w2.cell? ⟨w.heap.size + 1, 0 + q, none⟩ = some u := fun q u hq => (hb2.cell (p := ⟨w.heap.size + 1, 0 + q, none⟩) H1'.out.drew.lt).trans (hy1 q u hq)
      have HEG := Lib.hid (HGB.out.drew.below hb2 HGB.out.lt)
      have HE0 := Lib.hid (H0'.out.drew.below hb2 H0'.out.lt)
      have HE2 := Lib.hid (H2'.out.drew.below hb2 H2'.out.lt)
      clear hfz hb2 hIH
      go_wp2_with fail
      refine hK.out _ _ (and_by ?_ (fun hHeld => ?_))
      · (try dsimp only); exact ⟨kw2, hy2⟩
      clear hK K
      try simp only [Act.put, List.setIfInBounds_toArray, List.set_cons_zero, List.set_cons_succ]
      refine wpAnyH_take (i := 14) (v := ?va14) (by rw [List.getElem?_toArray]; exact rfl) (by kernel_rfl) (by kernel_rfl) (by kernel_rfl) (by exact fun _ _ _ h => h) (Or.inl ⟨by rfl, ?ya14⟩) (by assumption) ?ra14
      case ya14 => (intro wV hSw; (try dsimp only at hSw); obtain ⟨hs1, hs2⟩ := hSw; go_simp; try with_reducible rfl)
      try simp only [Act.put, List.setIfInBounds_toArray, List.set_cons_zero, List.set_cons_succ]
      refine wpAnyH_ready (rs := [15]) (by kernel_rfl) (by simp) ?_
      intro jj hjj
      obtain rfl := List.mem_singleton.1 hjj
      clear hjj
      refine wpOp_step (by rw [List.getElem?_toArray]; exact rfl) (fun K hK => ?_)
      replace hK := Lib.hid hK
      obtain ⟨hz6, hzo⟩ := HF.out.six HW2.out
      have hza : cz.toArray.size = 6 := by simpa using hz6
      refine step_store_mid6 rfl 30 (.tmp 30) (.tmp 29) rfl rfl g (j * 6) cz.toArray (by simp [Act.eval]) (by simp [Act.eval]) HEG.out (by rw [hza]; exact v_info) (by rw [hza]; omega) hzo ?_
      intro w3 hB3 hg3 hz3
      refine hK.out _ _ (and_by ?_ (fun hHeld => ?_))
      · (try dsimp only); exact ⟨(gr_cell hg3 (p := ⟨b, off, none⟩) (by have := HB2.out.size; have := HBW.out.size; have hdz : w1.drew.heap.size = w1.heap.size := rfl; simp only; omega) (by have := HZG.out; simp only; omega)).trans kw2, fun q u hq => (gr_cell hg3 (p := ⟨w.heap.size + 1, 0 + q, none⟩) (by have := HB2.out.size; have := H1'.out.lt; have hdz : w1.drew.heap.size = w1.heap.size := rfl; simp only; omega) (by have := HZG.out; simp only; omega)).trans (hy2 q u hq)⟩
      clear hK K
      try simp only [Act.put, List.setIfInBounds_toArray, List.set_cons_zero, List.set_cons_succ]
      refine wpAnyH_done (by kernel_rfl) ?_ _
      have hz6 : cz.length = 6 := (HF.out.six HW2.out).1
      have hza : cz.toArray.size = 6 := by simpa using hz6
      have HDB := Lib.hid HBW.out.drew
      have HGL : Hid (g < w1.drew.heap.size) := hgl
      have HX3 : Hid (Blk w3 w.heap.size 30 csA) := HE0.out.grown hg3 (fun e => by injection e with e; have := HZG.out; omega)
      have HY3 : Hid (Blk w3 (w.heap.size + 2) 30 vz) := HE2.out.grown hg3 (fun e => by injection e with e; have := HZG.out; omega)
      have HG3 : Hid (Blk w3 g 30 (cur.toList.take (j * 6) ++ cz ++ cur.toList.drop (j * 6 + 6)).toArray) := by
        rw [hza] at hB3; exact hB3
      have HGR3 := Lib.hid hg3
      have HSZ3 := Lib.hid hz3
      have k4 : w3.cell? ⟨w.heap.size, 4, none⟩ = some (.slice AI v.its.length ci) := (HX3.out.cell 4).trans HCS.out
      have kf := HX3.out.frozen 4
      have HX4 : Hid (Blk (w3.setCell ⟨w.heap.size, 4, none⟩ (.slice (some ⟨g, 0, none⟩) v.its.length cap)) w.heap.size 30 (vcs (setI v j zj) (some ⟨g, 0, none⟩) A' cap c').toArray) := by
        have := HX3.out.set_ 4 (.slice (some ⟨g, 0, none⟩) v.its.length cap)
        rw [HSET.out g cap zj] at this
        exact this
      have HY4 : Hid (Blk (w3.setCell ⟨w.heap.size, 4, none⟩ (.slice (some ⟨g, 0, none⟩) v.its.length cap)) (w.heap.size + 2) 30 vz) := HY3.out.far (by show _ ≠ w.heap.size; omega) _
      have HG4 : Hid (Blk (w3.setCell ⟨w.heap.size, 4, none⟩ (.slice (some ⟨g, 0, none⟩) v.its.length cap)) g 30 (cur.toList.take (j * 6) ++ cz ++ cur.toList.drop (j * 6 + 6)).toArray) := HG3.out.far (by show _ ≠ w.heap.size; have := HZG.out; omega) _
      have HGR4 := Lib.hid (grown_setCell w3 w.heap.size 4 (.slice (some ⟨g, 0, none⟩) v.its.length cap))
      have HSZ4 : Hid ((w3.setCell ⟨w.heap.size, 4, none⟩ (.slice (some ⟨g, 0, none⟩) v.its.length cap)).heap.size = w3.heap.size) := by show _ = _; simp
      clear hB3 hg3 hz3 HE0 HE2 HEG HX3 HY3 HG3
      have hrow : (Tryz.prog.info? 30).map (·.size) = some (vcs (setI v j zj) (some ⟨g, 0, none⟩) A' cap c').toArray.size := v_info
      have HROW := Lib.hid hrow
      clear hrow
      go_upto_region 6 with fail
      generalize w3.setCell ⟨w.heap.size, 4, none⟩ (.slice (some ⟨g, 0, none⟩) v.its.length cap) = w4 at *
      clear k4 kf
      go_wp2_with (first
        | (refine wpList_load_row rfl 30 (.tmp 3) rfl w.heap.size rfl 30 _ (0, 0) _ HX4.out Tryz.underlying30 rfl HROW.out ?_)
        | (refine wpList_storeB rfl 30 (.tmp 6) (.tmp 33) rfl rfl (w.heap.size + 2) (vcs (setI v j zj) (some ⟨g, 0, none⟩) A' cap c').toArray (by first | rfl | simp [Act.eval]) rfl HY4.out HROW.out rfl rfl ?_; intro w5 hB5 hg5 hz5))
      refine bodyPost_ret (results_cellB (p := 6) rfl _ hB5 _ rfl Tryz.underlying30 rfl HROW.out) rfl ?_
      rw [HP.out]
      have hbw2 : Below w.heap.size w w2 := HDB.out.trans (HB2.out.mono HDB.out.size)
      have hbw3 : Below w.heap.size w w3 := hbw2.grown HGR3.out hbw2.size (fun k e => by injection e with e; have := HZG.out; omega)
      have hbw4 : Below w.heap.size w w4 := hbw3.grown HGR4.out hbw3.size (fun k e => by injection e with e; omega)
      have hbw5 : Below w.heap.size w w5 := hbw4.grown hg5 hbw4.size (fun k e => by injection e with e; omega)
      have hgd : g < w1.drew.heap.size := HGL.out
      have hwd : w.heap.size + 3 ≤ w1.drew.heap.size := by have := HZG.out; omega
      refine ⟨_, rfl, Frs.set_ (cap := cap) (css := css) (w2 := w2) (lo2 := w1.drew.heap.size) (cur := cur) (cz := cz) HV.out HCL.out HCV.out hj hgz (fun k q u hk h' hq => HGC.out _ u (HFA.out k q u hk h' hq)) hz6 HF.out HDB.out.size (by rw [hz5, HSZ4.out, HSZ3.out]; exact Nat.le_refl _) (fun i h1 h2 => ?_) (by have := HZG.out; omega) (HG4.out.grown hg5 (fun e => by injection e with e; have := HZG.out; omega)), hbw5⟩
      have s3 := HSZ3.out
      have s4 := HSZ4.out
      rw [hg5.block i (by omega) (fun e => by injection e with e; omega), HGR4.out.block i (by omega) (fun e => by injection e with e; omega), HGR3.out.block i h2 (fun e => by injection e with e; omega)]
    · have HZG : Hid (w.heap.size + 3 ≤ g) := by have := HZ0.out; show _ ≤ _; omega
      have hsl1 : (1 : Int) ≤ (r.length : Int) + 1 := by omega
      have hsl2 : r.length + 1 ≤ c := hnc
      refine wp_region_held_drew (S := (fun V => V.cell? ⟨b, off, none⟩ = some (.int .i64 (j : Int)) ∧ ∀ q u, cy[q]? = some u → V.cell? ⟨w.heap.size + 1, 0 + q, none⟩ = some u)) (by kernel_rfl) ?_ (fun hHeld => ?_)
      · (try dsimp only); exact ⟨kw, hy1⟩
      refine wpAnyH_take (i := 0) (v := ?vb0) (by rw [List.getElem?_toArray]; exact rfl) (by kernel_rfl) (by kernel_rfl) (by kernel_rfl) (by exact fun _ _ _ h => h) (Or.inl ⟨by rfl, ?yb0⟩) (by assumption) ?rb0
      case yb0 => (intro wV hSw; (try dsimp only at hSw); obtain ⟨hs1, hs2⟩ := hSw; go_simp; try with_reducible rfl)
      try simp only [Act.put, List.setIfInBounds_toArray, List.set_cons_zero, List.set_cons_succ]
      refine wpAnyH_take (i := 1) (v := ?vb1) (by rw [List.getElem?_toArray]; exact rfl) (by kernel_rfl) (by kernel_rfl) (by kernel_rfl) (by exact fun _ _ _ h => h) (Or.inl ⟨by rfl, ?yb1⟩) (by assumption) ?rb1
      case yb1 => (intro wV hSw; (try dsimp only at hSw); obtain ⟨hs1, hs2⟩ := hSw; go_simp; try with_reducible rfl)
      try simp only [Act.put, List.setIfInBounds_toArray, List.set_cons_zero, List.set_cons_succ]
      refine wpAnyH_take (i := 2) (v := ?vb2) (by rw [List.getElem?_toArray]; exact rfl) (by kernel_rfl) (by kernel_rfl) (by kernel_rfl) (by exact fun _ _ _ h => h) (Or.inl ⟨by rfl, ?yb2⟩) (by assumption) ?rb2
      case yb2 => (intro wV hSw; (try dsimp only at hSw); obtain ⟨hs1, hs2⟩ := hSw; go_simp; try with_reducible rfl)
      try simp only [Act.put, List.setIfInBounds_toArray, List.set_cons_zero, List.set_cons_succ]
      refine wpAnyH_take (i := 3) (v := ?vb3) (by rw [List.getElem?_toArray]; exact rfl) (by kernel_rfl) (by kernel_rfl) (by kernel_rfl) (by exact fun _ _ _ h => h) (Or.inl ⟨by rfl, ?yb3⟩) (by assumption) ?rb3
      case yb3 => (intro wV hSw; (try dsimp only at hSw); obtain ⟨hs1, hs2⟩ := hSw; go_simp; try with_reducible rfl)
      try simp only [Act.put, List.setIfInBounds_toArray, List.set_cons_zero, List.set_cons_succ]
      refine wpAnyH_take (i := 4) (v := ?vb4) (by rw [List.getElem?_toArray]; exact rfl) (by kernel_rfl) (by kernel_rfl) (by kernel_rfl) (by exact fun _ _ _ h => h) (Or.inl ⟨by rfl, ?yb4⟩) (by assumption) ?rb4
      case yb4 => (intro wV hSw; (try dsimp only at hSw); obtain ⟨hs1, hs2⟩ := hSw; go_simp; try with_reducible rfl)
      try simp only [Act.put, List.setIfInBounds_toArray, List.set_cons_zero, List.set_cons_succ]
      refine wpAnyH_take (i := 5) (v := ?vb5) (by rw [List.getElem?_toArray]; exact rfl) (by kernel_rfl) (by kernel_rfl) (by kernel_rfl) (by exact fun _ _ _ h => h) (Or.inl ⟨by rfl, ?yb5⟩) (by assumption) ?rb5
      case yb5 => (intro wV hSw; (try dsimp only at hSw); obtain ⟨hs1, hs2⟩ := hSw; go_simp; try with_reducible rfl)
      try simp only [Act.put, List.setIfInBounds_toArray, List.set_cons_zero, List.set_cons_succ]
      refine wpAnyH_take (i := 6) (v := ?vb6) (by rw [List.getElem?_toArray]; exact rfl) (by kernel_rfl) (by kernel_rfl) (by kernel_rfl) (by exact fun _ _ _ h => h) (Or.inl ⟨by rfl, ?yb6⟩) (by assumption) ?rb6
      case yb6 => (intro wV hSw; (try dsimp only at hSw); obtain ⟨hs1, hs2⟩ := hSw; go_simp; try with_reducible rfl)
      try simp only [Act.put, List.setIfInBounds_toArray, List.set_cons_zero, List.set_cons_succ]
      refine wpAnyH_take (i := 7) (v := ?vb7) (by rw [List.getElem?_toArray]; exact rfl) (by kernel_rfl) (by kernel_rfl) (by kernel_rfl) (by exact fun _ _ _ h => h) (Or.inl ⟨by rfl, ?yb7⟩) (by assumption) ?rb7
      case yb7 => (intro wV hSw; (try dsimp only at hSw); obtain ⟨hs1, hs2⟩ := hSw; go_simp; try with_reducible rfl)
      try simp only [Act.put, List.setIfInBounds_toArray, List.set_cons_zero, List.set_cons_succ]
      refine wpAnyH_take (i := 8) (v := ?vb8) (by rw [List.getElem?_toArray]; exact rfl) (by kernel_rfl) (by kernel_rfl) (by kernel_rfl) (by exact fun _ _ _ h => h) (Or.inl ⟨by rfl, ?yb8⟩) (by assumption) ?rb8
      case yb8 => (intro wV hSw; (try dsimp only at hSw); obtain ⟨hs1, hs2⟩ := hSw; go_simp; try with_reducible rfl)
      try simp only [Act.put, List.setIfInBounds_toArray, List.set_cons_zero, List.set_cons_succ]
      refine wpAnyH_take (i := 10) (v := ?vb10) (by rw [List.getElem?_toArray]; exact rfl) (by kernel_rfl) (by kernel_rfl) (by kernel_rfl) (by exact fun _ _ _ h => h) (Or.inl ⟨by rfl, ?yb10⟩) (by assumption) ?rb10
      case yb10 => (intro wV hSw; (try dsimp only at hSw); obtain ⟨hs1, hs2⟩ := hSw; go_simp; try with_reducible rfl)
      try simp only [Act.put, List.setIfInBounds_toArray, List.set_cons_zero, List.set_cons_succ]
      refine wpAnyH_take (i := 11) (v := ?vb11) (by rw [List.getElem?_toArray]; exact rfl) (by kernel_rfl) (by kernel_rfl) (by kernel_rfl) (by exact fun _ _ _ h => h) (Or.inl ⟨by rfl, ?yb11⟩) (by assumption) ?rb11
      case yb11 => (intro wV hSw; (try dsimp only at hSw); obtain ⟨hs1, hs2⟩ := hSw; go_simp; try with_reducible rfl)
      try simp only [Act.put, List.setIfInBounds_toArray, List.set_cons_zero, List.set_cons_succ]
      refine wpAnyH_take (i := 12) (v := .agg cy.toArray) (by rw [List.getElem?_toArray]; exact rfl) (by kernel_rfl) (by kernel_rfl) (by kernel_rfl) (by exact fun _ _ _ h => h) (Or.inl ⟨by rfl, ?yb12⟩) (by assumption) ?rb12
      case yb12 => (intro wV hSw; (try dsimp only at hSw); obtain ⟨hs1, hs2⟩ := hSw; exact exec_load_at 30 (.tmp 5) rfl (w.heap.size + 1) 0 (by first | rfl | simp [Act.eval]) cy _ hs2 Tryz.underlying30 rfl (by rw [hy6]; exact v_info))
      try simp only [Act.put, List.setIfInBounds_toArray, List.set_cons_zero, List.set_cons_succ]
      refine wpAnyH_ready (rs := [9]) (by kernel_rfl) (by simp) ?_
      intro jj hjj
      obtain rfl := List.mem_singleton.1 hjj
      clear hjj
      refine wpOp_step (by rw [List.getElem?_toArray]; exact rfl) (fun K hK => ?_)
      replace hK := Lib.hid hK
      refine step_load_at6 rfl 30 (.tmp 24) rfl g (j * 6) (by simp [Act.eval]) [u0, u1, u2, u3, u4, u5] _ HUX.out Tryz.underlying30 rfl (inf_six rfl) ?_
      refine hK.out _ _ (and_by ?_ (fun hHeld => ?_))
      · (try dsimp only); exact ⟨kw, hy1⟩
      clear hK K
      try simp only [Act.put, List.setIfInBounds_toArray, List.set_cons_zero, List.set_cons_succ]
      refine wpAnyH_ready (rs := [13]) (by kernel_rfl) (by simp) ?_
      intro jj hjj
      obtain rfl := List.mem_singleton.1 hjj
      clear hjj
      refine wpOp_step (by rw [List.getElem?_toArray]; exact rfl) (fun K hK => ?_)
      replace hK := Lib.hid hK
      go_simp
      have hIH := HIH.out w1.drew (some ⟨b, off + 1, none⟩) (c - 1) css[j] HWW.out.drew HCJ.out (by have := HRR.out w1.drew HBW.out.drew; rw [if_neg hc1] at this; exact this) (by omega)
      rw [HU.out] at hIH
      refine (hIH).mono ?_
      rintro e w2 ⟨cz, rfl, hfz, hb2⟩
      have HF := Lib.hid hfz
      have HB2 := Lib.hid hb2
      have HW2 : Hid (Below wb.heap.size wb w2) := HWW.out.drew.trans (hb2.mono HWW.out.size)
      have kw2 := HKW.out w2 (HBW.out.drew.trans (hb2.mono HBW.out.size))
      have hy2 : ∀ q u, cy[q]? = some u → w2.cell? ⟨w.heap.size + 1, 0 + q, none⟩ = some u := fun q u hq => (hb2.cell (p := ⟨w.heap.size + 1, 0 + q, none⟩) H1'.out.drew.lt).trans (hy1 q u hq)
      have HEG := Lib.hid (HGB.out.drew.below hb2 HGB.out.lt)
      have HE0 := Lib.hid (H0'.out.drew.below hb2 H0'.out.lt)
      have HE2 := Lib.hid (H2'.out.drew.below hb2 H2'.out.lt)
      clear hfz hb2 hIH
      go_wp2_with fail
      refine hK.out _ _ (and_by ?_ (fun hHeld => ?_))
      · (try dsimp only); exact ⟨kw2, hy2⟩
      clear hK K
      try simp only [Act.put, List.setIfInBounds_toArray, List.set_cons_zero, List.set_cons_succ]
      refine wpAnyH_take (i := 14) (v := ?vb14) (by rw [List.getElem?_toArray]; exact rfl) (by kernel_rfl) (by kernel_rfl) (by kernel_rfl) (by exact fun _ _ _ h => h) (Or.inl ⟨by rfl, ?yb14⟩) (by assumption) ?rb14
      case yb14 => (intro wV hSw; (try dsimp only at hSw); obtain ⟨hs1, hs2⟩ := hSw; go_simp; try with_reducible rfl)
      try simp only [Act.put, List.setIfInBounds_toArray, List.set_cons_zero, List.set_cons_succ]
      refine wpAnyH_ready (rs := [15]) (by kernel_rfl) (by simp) ?_
      intro jj hjj
      obtain rfl := List.mem_singleton.1 hjj
      clear hjj
      refine wpOp_step (by rw [List.getElem?_toArray]; exact rfl) (fun K hK => ?_)
      replace hK := Lib.hid hK
      obtain ⟨hz6, hzo⟩ := HF.out.six HW2.out
      have hza : cz.toArray.size = 6 := by simpa using hz6
      refine step_store_mid6 rfl 30 (.tmp 30) (.tmp 29) rfl rfl g (j * 6) cz.toArray (by simp [Act.eval]) (by simp [Act.eval]) HEG.out (by rw [hza]; exact v_info) (by rw [hza]; omega) hzo ?_
      intro w3 hB3 hg3 hz3
      refine hK.out _ _ (and_by ?_ (fun hHeld => ?_))
      · (try dsimp only); exact ⟨(gr_cell hg3 (p := ⟨b, off, none⟩) (by have := HB2.out.size; have := HBW.out.size; have hdz : w1.drew.heap.size = w1.heap.size := rfl; simp only; omega) (by have := HZG.out; simp only; omega)).trans kw2, fun q u hq => (gr_cell hg3 (p := ⟨w.heap.size + 1, 0 + q, none⟩) (by have := HB2.out.size; have := H1'.out.lt; have hdz : w1.drew.heap.size = w1.heap.size := rfl; simp only; omega) (by have := HZG.out; simp only; omega)).trans (hy2 q u hq)⟩
      clear hK K
      try simp only [Act.put, List.setIfInBounds_toArray, List.set_cons_zero, List.set_cons_succ]
      refine wpAnyH_done (by kernel_rfl) ?_ _
      have hz6 : cz.length = 6 := (HF.out.six HW2.out).1
      have hza : cz.toArray.size = 6 := by simpa using hz6
      have HDB := Lib.hid HBW.out.drew
      have HGL : Hid (g < w1.drew.heap.size) := hgl
      have HX3 : Hid (Blk w3 w.heap.size 30 csA) := HE0.out.grown hg3 (fun e => by injection e with e; have := HZG.out; omega)
      have HY3 : Hid (Blk w3 (w.heap.size + 2) 30 vz) := HE2.out.grown hg3 (fun e => by injection e with e; have := HZG.out; omega)
      have HG3 : Hid (Blk w3 g 30 (cur.toList.take (j * 6) ++ cz ++ cur.toList.drop (j * 6 + 6)).toArray) := by
        rw [hza] at hB3; exact hB3
      have HGR3 := Lib.hid hg3
      have HSZ3 := Lib.hid hz3
      have k4 : w3.cell? ⟨w.heap.size, 4, none⟩ = some (.slice AI v.its.length ci) := (HX3.out.cell 4).trans HCS.out
      have kf := HX3.out.frozen 4
      have HX4 : Hid (Blk (w3.setCell ⟨w.heap.size, 4, none⟩ (.slice (some ⟨g, 0, none⟩) v.its.length cap)) w.heap.size 30 (vcs (setI v j zj) (some ⟨g, 0, none⟩) A' cap c').toArray) := by
        have := HX3.out.set_ 4 (.slice (some ⟨g, 0, none⟩) v.its.length cap)
        rw [HSET.out g cap zj] at this
        exact this
      have HY4 : Hid (Blk (w3.setCell ⟨w.heap.size, 4, none⟩ (.slice (some ⟨g, 0, none⟩) v.its.length cap)) (w.heap.size + 2) 30 vz) := HY3.out.far (by show _ ≠ w.heap.size; omega) _
      have HG4 : Hid (Blk (w3.setCell ⟨w.heap.size, 4, none⟩ (.slice (some ⟨g, 0, none⟩) v.its.length cap)) g 30 (cur.toList.take (j * 6) ++ cz ++ cur.toList.drop (j * 6 + 6)).toArray) := HG3.out.far (by show _ ≠ w.heap.size; have := HZG.out; omega) _
      have HGR4 := Lib.hid (grown_setCell w3 w.heap.size 4 (.slice (some ⟨g, 0, none⟩) v.its.length cap))
      have HSZ4 : Hid ((w3.setCell ⟨w.heap.size, 4, none⟩ (.slice (some ⟨g, 0, none⟩) v.its.length cap)).heap.size = w3.heap.size) := by show _ = _; simp
      clear hB3 hg3 hz3 HE0 HE2 HEG HX3 HY3 HG3
      have hrow : (Tryz.prog.info? 30).map (·.size) = some (vcs (setI v j zj) (some ⟨g, 0, none⟩) A' cap c').toArray.size := v_info
      have HROW := Lib.hid hrow
      clear hrow
      go_upto_region 6 with fail
      generalize w3.setCell ⟨w.heap.size, 4, none⟩ (.slice (some ⟨g, 0, none⟩) v.its.length cap) = w4 at *
      clear k4 kf
      go_wp2_with (first
        | (refine wpList_load_row rfl 30 (.tmp 3) rfl w.heap.size rfl 30 _ (0, 0) _ HX4.out Tryz.underlying30 rfl HROW.out ?_)
        | (refine wpList_storeB rfl 30 (.tmp 6) (.tmp 33) rfl rfl (w.heap.size + 2) (vcs (setI v j zj) (some ⟨g, 0, none⟩) A' cap c').toArray (by first | rfl | simp [Act.eval]) rfl HY4.out HROW.out rfl rfl ?_; intro w5 hB5 hg5 hz5))
      refine bodyPost_ret (results_cellB (p := 6) rfl _ hB5 _ rfl Tryz.underlying30 rfl HROW.out) rfl ?_
      rw [HP.out]
      have hbw2 : Below w.heap.size w w2 := HDB.out.trans (HB2.out.mono HDB.out.size)
      have hbw3 : Below w.heap.size w w3 := hbw2.grown HGR3.out hbw2.size (fun k e => by injection e with e; have := HZG.out; omega)
      have hbw4 : Below w.heap.size w w4 := hbw3.grown HGR4.out hbw3.size (fun k e => by injection e with e; omega)
      have hbw5 : Below w.heap.size w w5 := hbw4.grown hg5 hbw4.size (fun k e => by injection e with e; omega)
      have hgd : g < w1.drew.heap.size := HGL.out
      have hwd : w.heap.size + 3 ≤ w1.drew.heap.size := by have := HZG.out; omega
      refine ⟨_, rfl, Frs.set_ (cap := cap) (css := css) (w2 := w2) (lo2 := w1.drew.heap.size) (cur := cur) (cz := cz) HV.out HCL.out HCV.out hj hgz (fun k q u hk h' hq => HGC.out _ u (HFA.out k q u hk h' hq)) hz6 HF.out HDB.out.size (by rw [hz5, HSZ4.out, HSZ3.out]; exact Nat.le_refl _) (fun i h1 h2 => ?_) (by have := HZG.out; omega) (HG4.out.grown hg5 (fun e => by injection e with e; have := HZG.out; omega)), hbw5⟩
      have s3 := HSZ3.out
      have s4 := HSZ4.out
      rw [hg5.block i (by omega) (fun e => by injection e with e; omega), HGR4.out.block i (by omega) (fun e => by injection e with e; omega), HGR3.out.block i h2 (fun e => by injection e with e; omega)]
end Go.Proofs.YtacnoedhpamdmaaGreatDoor
