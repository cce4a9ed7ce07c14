/- Walk: all lists of a value written over (quernlaw23.spoil): only blocks of its own memory turn. Conditions: the value's memory is its own. -/
import Derived.Test.YtacnoedhpamdmaaGreatDoorKg
namespace Go.Proofs.YtacnoedhpamdmaaGreatDoor
open Go.RowKit
set_option linter.unusedVariables false
set_option linter.unusedSimpArgs false
attribute [local go_sem ↓] Go.wp_at_zero Go.wp_at_succ

/-- Only blocks of S, and what is new, have turned. -/
structure Chg (S : Nat → Prop) (w w' : World) : Prop where
  os : w'.os = w.os
  tape : w'.tape = w.tape
  output : w'.output = w.output
  size : w.heap.size ≤ w'.heap.size
  block : ∀ i, i < w.heap.size → ¬ S i → w'.heap[i]? = w.heap[i]?
theorem Chg.refl (S : Nat → Prop) (w : World) : Chg S w w := ⟨rfl, rfl, rfl, Nat.le_refl _, fun _ _ _ => rfl⟩
theorem Chg.trans {S : Nat → Prop} {a b c : World} (h : Chg S a b) (k : Chg S b c) : Chg S a c :=
  ⟨k.os.trans h.os, k.tape.trans h.tape, k.output.trans h.output, Nat.le_trans h.size k.size, fun i hi hs => (k.block i (Nat.lt_of_lt_of_le hi h.size) hs).trans (h.block i hi hs)⟩
theorem Chg.wide {S S' : Nat → Prop} {a b : World} (h : Chg S a b) (hs : ∀ i, S i → S' i) : Chg S' a b := ⟨h.os, h.tape, h.output, h.size, fun i hi hn => h.block i hi fun hx => hn (hs i hx)⟩
theorem Chg.ofBelow {S : Nat → Prop} {a b : World} (h : Below a.heap.size a b) : Chg S a b := ⟨h.os, h.tape, h.output, h.size, fun i hi _ => h.block i hi⟩
theorem Chg.ofGrown {S : Nat → Prop} {a b : World} {g : Nat} (h : a.grownBy b (some g)) (hg : S g) : Chg S a b :=
  ⟨h.os, h.tape, h.output, h.size, fun i hi hn => h.block i hi (fun e => by injection e with e; subst e; exact hn hg)⟩
theorem Chg.below {S : Nat → Prop} {a b : World} {B : Nat} (h : Chg S a b) (hB : B ≤ a.heap.size) (hS : ∀ i, S i → B ≤ i) : Below B a b :=
  ⟨h.os, h.tape, h.output, h.size, fun i hi => h.block i (by omega) fun hx => by have := hS i hx; omega⟩
theorem Chg.blk {S : Nat → Prop} {a b : World} {g : Nat} {t : TypeId} {cs : Array Value} (h : Chg S a b) (hb : Blk a g t cs) (hg : ¬ S g) : Blk b g t cs := (h.block g hb.lt hg).trans hb
/-- What has been spoilt of a value's items: its own block, and the parts of those done. -/
def SpT (A : Option Addr) (n : Nat) (F : Nat → Nat → Prop) (j i : Nat) : Prop := (0 < n ∧ A = some ⟨i, 0, none⟩) ∨ ∃ k, k < j ∧ F k i
theorem SpT.mono {A : Option Addr} {n : Nat} {F : Nat → Nat → Prop} {j i : Nat} (h : SpT A n F j i) : SpT A n F (j + 1) i := h.elim .inl fun ⟨k, hk, hf⟩ => .inr ⟨k, by omega, hf⟩
/-- The items that are still to come stand in their block. -/
def SpR (w : World) (A : Option Addr) (n : Nat) (cc : Nat → List Value) (j : Nat) : Prop :=
  0 < n → ∃ b cur, A = some ⟨b, 0, none⟩ ∧ Blk w b 30 cur ∧ n * 6 ≤ cur.size ∧ ∀ k q u, j ≤ k → k < n → (cc k)[q]? = some u → cur[k * 6 + q]? = some u
abbrev spv : Array Value := #[.int .i64 1, .int .i64 1, .float .f64 0, .string ⟨#[]⟩, .slice none 0 0, .slice none 0 0]
theorem SpR.next {w2 w3 : World} {b n j : Nat} {cc : Nat → List Value} {cur : Array Value} (hb : Blk w3 b 30 (cur.toList.take (j * 6) ++ spv.toList ++ cur.toList.drop (j * 6 + 6)).toArray) (hj : j < n) (hz : n * 6 ≤ cur.size)
    (h6 : ∀ k, k < n → (cc k).length = 6) (hc : ∀ k q u, j ≤ k → k < n → (cc k)[q]? = some u → cur[k * 6 + q]? = some u) : SpR w3 (some ⟨b, 0, none⟩) n cc (j + 1) := by
  intro _
  refine ⟨b, _, rfl, hb, ?_, fun k q u hk hn hu => ?_⟩
  · rw [splice_size rfl (by omega)]; exact hz
  · have hq : q < 6 := by
      have := (List.getElem?_eq_some_iff.1 hu).1
      rw [h6 k hn] at this
      exact this
    rw [splice_at rfl hj hz k q hq hn, if_neg (by omega)]
    exact hc k q u (by omega) hn hu
set_option maxRecDepth 100000 in
set_option maxHeartbeats 2000000 in
theorem c_spoil : ∀ (v : Val) (cs : List Value) (w : World) (S : Nat → Prop), Tr w S v cs → (∀ i, S i → i < w.heap.size) → bnd v ≤ 1048576 →
    Calls Tryz.prog 24 #[.agg cs.toArray] w fun e w' => e = .returned (.tuple #[]) ∧ Chg S w w' := by
  refine Val.ind fun v ih cs w S ht hS hbd => ?_
  obtain ⟨A, A', c, c', F, cc, rfl, hI⟩ := ht.open_
  have h6c : ∀ k, k < v.its.length → (cc k).length = 6 := fun k hk => (hI.hk k hk).six
  have hilen : v.its.length < 1048577 := by have := (bnd_len v).1; omega
  have hnlen : v.nms.length < 1048577 := by have := (bnd_len v).2.1; omega
  have HB0 : Hid (Below w.heap.size w (w.alloc (.cells (vcs v A A' c c').toArray 30))) := (Below.refl w.heap.size w).alloc (Nat.le_refl _) _
  have HX0 := Lib.hid (Blk.new w 30 (vcs v A A' c c').toArray)
  have HIH : Hid (∀ (i : Nat) (hi : i < v.its.length) (W : World), Tr W (F i) v.its[i] (cc i) → (∀ q, F i q → q < W.heap.size) → Calls Tryz.prog 24 #[.agg (cc i).toArray] W fun e w' => e = .returned (.tuple #[]) ∧ Chg (F i) W w') :=
    fun i hi W h1 h2 => ih _ (List.getElem_mem hi) _ W _ h1 h2 (by have := bnd_item (List.getElem_mem hi); omega)
  have HSF : Hid (∀ j, j < v.its.length → ∀ i, F j i → S i) := hI.hs
  have HSS := Lib.hid hS
  have H6C := Lib.hid h6c
  have K4 : Hid ((vcs v A A' c c').toArray[4]? = some (.slice A v.its.length c)) := rfl
  have K5 : Hid ((vcs v A A' c c').toArray[5]? = some (.slice A' v.nms.length c')) := rfl
  have HR0 : Hid (SpR w A v.its.length cc 0) := fun h0 => by
    obtain ⟨b, cur, e, _, _, hb, hz, hc⟩ := hI.hi h0
    exact ⟨b, cur, e, hb, hz, fun k q u _ hk hu => hc k q u hk hu⟩
  have HNM : Hid (0 < v.nms.length → ∃ g cur, A' = some ⟨g, 0, none⟩ ∧ S g ∧ (∀ j, j < v.its.length → ¬ F j g) ∧ Blk w g 9 cur ∧ ∀ j, (h : j < v.nms.length) → ∃ s, cur[j]? = some (.string s)) := fun h0 => by
    obtain ⟨g, cur, e, h1, h2, h3, h4⟩ := hI.hn h0
    exact ⟨g, cur, e, h1, h2, h3, fun j hj => ⟨_, h4 j hj⟩⟩
  have HSP : Hid (∀ j i, j ≤ v.its.length → SpT A v.its.length F j i → S i) := fun j i hj h => by
    rcases h with ⟨h0, e⟩ | ⟨k, hk, hf⟩
    · obtain ⟨b, cur, e2, hbS, _⟩ := hI.hi h0
      rw [e] at e2
      injection e2 with e2
      injection e2 with e2
      exact e2 ▸ hbS
    · exact hI.hs k (by omega) i hf
  have HSN : Hid (∀ j i, j < v.its.length → F j i → ¬ SpT A v.its.length F j i) := fun j i hj hf h => by
    rcases h with ⟨h0, e⟩ | ⟨k, hk, hf2⟩
    · obtain ⟨b, cur, e2, _, hbF, _⟩ := hI.hi h0
      rw [e] at e2
      injection e2 with e2
      injection e2 with e2
      exact hbF j hj (e2 ▸ hf)
    · have := hI.hd k j (by omega) hj i hf2 hf
      omega
  have HTR : Hid (∀ (W : World) (j : Nat) (hj : j < v.its.length), Chg (SpT A v.its.length F j) w W → Tr W (F j) v.its[j] (cc j)) := fun W j hj hc =>
    (hI.hk j hj).keep fun i hi => hc.block i (hS i (hI.hs j hj i hi)) (HSN.out j i hj hi)
  have HFN : Hid (∀ j, j < v.its.length → ∀ b, A = some ⟨b, 0, none⟩ → ¬ F j b) := fun j hj b e => by
    obtain ⟨b2, cur, e2, _, hbF, _⟩ := hI.hi (by omega)
    rw [e] at e2
    injection e2 with e2
    injection e2 with e2
    exact e2 ▸ hbF j hj
  have HNA : Hid (∀ g, A' = some ⟨g, 0, none⟩ → 0 < v.nms.length → ¬ SpT A v.its.length F v.its.length g) := fun g e hn0 h => by
    obtain ⟨g2, cur, e2, hgS, hgF, hgb, _⟩ := hI.hn hn0
    rw [e] at e2
    injection e2 with e2
    injection e2 with e2
    subst e2
    rcases h with ⟨h0, e3⟩ | ⟨k, hk, hf⟩
    · obtain ⟨b, cur2, e4, _, _, hbb, _⟩ := hI.hi h0
      rw [e3] at e4
      injection e4 with e4
      injection e4 with e4
      exact hgb.ne_ hbb (by decide) e4
    · exact hgF k hk hf
  clear ih ht hI hS hbd h6c
  generalize v.its = its at *
  generalize v.nms = nms at *
  generalize (vcs v A A' c c') = cs at *
  go_enter Tryz.func24, Tryz.ntmps24
  go_upto_region 1 with fail
  generalize w.alloc (.cells cs.toArray 30) = w0 at *
  have HC0 : Hid (Chg (SpT A its.length F 0) w w0) := Chg.ofBelow HB0.out
  have HRr0 : Hid (SpR w0 A its.length cc 0) := fun h0 => by
    obtain ⟨b, cur, e, hb, hr⟩ := HR0.out h0
    exact ⟨b, cur, e, hb.below HB0.out hb.lt, hr⟩
  have HXL : Hid (w.heap.size < w0.heap.size) := HX0.out.lt
  have k4 : w0.cell? ⟨w.heap.size, 4, none⟩ = some (.slice A its.length c) := (HX0.out.cell 4).trans K4.out
  go_wp2_with fail
  go_loopw [7] (fun vi wr => ∃ j : Nat, vi = .int .i64 j ∧ j ≤ its.length ∧ Hid (Chg (SpT A its.length F j) w wr) ∧ Hid (SpR wr A its.length cc j) ∧ Hid (Blk wr w.heap.size 30 cs.toArray)) (fun vi _ => its.length - (intOf vi).toNat)
  case atStart => exact ⟨0, rfl, Nat.zero_le _, HC0, HRr0, HX0⟩
  case round =>
    clear HC0 HRr0 HX0 k4 HXL
    obtain ⟨j, rfl, hj, HC, HR, HX⟩ := hrel
    by_cases hlt : j < its.length
    · obtain ⟨b, cur, hA, hbk, hz, hcur⟩ := HR.out (by omega)
      have HFB := Lib.hid (HFN.out j hlt b hA)
      have HSB : Hid (SpT A its.length F (j + 1) b) := .inl ⟨by omega, hA⟩
      have HSW := Lib.hid (HSP.out (j + 1) b (by omega) HSB.out)
      have HNX : Hid (¬ F j w.heap.size) := fun hx => by have := HSS.out _ (HSF.out j hlt _ hx); omega
      have HBX : Hid (b ≠ w.heap.size) := by have := HSS.out b HSW.out; show b ≠ _; omega
      have h6 := H6C.out j hlt
      have hcell : ∀ q u, (cc j)[q]? = some u → wr.cell? ⟨b, j * 6 + q, none⟩ = some u := fun q u hu => by
        rw [hbk.cell]; exact hcur j q u (Nat.le_refl _) hlt hu
      have HCL := Lib.hid hcell
      have HTJ := Lib.hid (HTR.out wr j hlt HC.out)
      have HFS : Hid (∀ q, F j q → q < wr.heap.size) := fun q hq => Nat.lt_of_lt_of_le (HSS.out q (HSF.out j hlt q hq)) HC.out.size
      have HBK := Lib.hid hbk
      have HCU := Lib.hid hcur
      have k4 : wr.cell? ⟨w.heap.size, 4, none⟩ = some (.slice A its.length c) := (HX.out.cell 4).trans K4.out
      subst hA
      clear hcell hbk hcur
      go_wp2_with (refine wpList_load_at rfl 30 (.tmp 13) rfl b (j * 6) (by simp [Act.eval]) (cc j) _ HCL.out Tryz.underlying30 rfl (by rw [h6]; exact v_info) ?_)
      refine (HIH.out j hlt wr HTJ.out HFS.out).mono ?_; rintro e w2 ⟨rfl, hc2⟩
      have HC2 : Hid (Chg (SpT (some ⟨b, 0, none⟩) its.length F (j + 1)) w w2) := (HC.out.wide fun i hi => hi.mono).trans (hc2.wide fun i hi => .inr ⟨j, by omega, hi⟩)
      have HX2 : Hid (Blk w2 w.heap.size 30 cs.toArray) := hc2.blk HX.out HNX.out
      have HB2 : Hid (Blk w2 b 30 cur) := hc2.blk HBK.out HFB.out
      clear hc2 k4 HC HX HBK HCL HTJ HFS HR
      have k4 : w2.cell? ⟨w.heap.size, 4, none⟩ = some (.slice (some ⟨b, 0, none⟩) its.length c) := (HX2.out.cell 4).trans K4.out
      go_wp2_with (refine wpList_store_mid6 rfl 30 (.tmp 20) (.tmp 19) rfl rfl b (j * 6) spv (by simp [Act.eval]) (by simp [Act.eval]) HB2.out v_info (by show j * 6 + 6 ≤ _; omega) rfl _ rfl ?_; intro w3 hB3 hg3 hz3)
      have HC3 : Hid (Chg (SpT (some ⟨b, 0, none⟩) its.length F (j + 1)) w w3) := HC2.out.trans (Chg.ofGrown hg3 HSB.out)
      have HX3 : Hid (Blk w3 w.heap.size 30 cs.toArray) := HX2.out.grown hg3 (fun e => by injection e with e; exact HBX.out e.symm)
      have HR3 : Hid (SpR w3 (some ⟨b, 0, none⟩) its.length cc (j + 1)) := SpR.next (w2 := w2) hB3 hlt hz H6C.out HCU.out
      clear hB3 hg3 hz3 k4 HC2 HX2 HB2 HSB
      go_wp2_with fail
      go_roundw
      case rel => exact ⟨j + 1, by go_num, hlt, HC3, HR3, HX3⟩
      case measure => simp [intOf]; omega
    · obtain rfl : j = its.length := by omega
      have HCS : Hid (Chg S w wr) := HC.out.wide fun i hi => HSP.out _ i (Nat.le_refl _) hi
      have HNW : Hid (0 < nms.length → ∃ g cur, A' = some ⟨g, 0, none⟩ ∧ S g ∧ Blk wr g 9 cur ∧ ∀ j, (h : j < nms.length) → ∃ s, cur[j]? = some (.string s)) := fun h0 => by
        obtain ⟨g, cur, e, h1, _, h3, h4⟩ := HNM.out h0
        exact ⟨g, cur, e, h1, HC.out.blk h3 (HNA.out g e h0), h4⟩
      clear HC HR
      obtain ⟨wo, rfl⟩ : ∃ wo : World, wo = wr := ⟨_, rfl⟩
      have k5 : wo.cell? ⟨w.heap.size, 5, none⟩ = some (.slice A' nms.length c') := (HX.out.cell 5).trans K5.out
      go_wp2_with fail
      go_loopw [25] (fun vi wr => ∃ j : Nat, vi = .int .i64 j ∧ j ≤ nms.length ∧ Hid (Chg S w wr) ∧ Hid (0 < nms.length → ∃ g cur, A' = some ⟨g, 0, none⟩ ∧ S g ∧ Blk wr g 9 cur ∧ ∀ j, (h : j < nms.length) → ∃ s, cur[j]? = some (.string s)) ∧ Hid (Blk wr w.heap.size 30 cs.toArray)) (fun vi _ => nms.length - (intOf vi).toNat)
      case atStart => exact ⟨0, rfl, Nat.zero_le _, HCS, HNW, HX⟩
      case round =>
        clear HCS HNW HX k5
        obtain ⟨j, rfl, hj, HC, HN, HX⟩ := hrel
        by_cases hlt : j < nms.length
        · obtain ⟨g, cur, hA, hgS, hbk, hcur⟩ := HN.out (by omega)
          obtain ⟨s, hs⟩ := hcur j hlt
          have kc : wr.cell? ⟨g, j, none⟩ = some (.string s) := (hbk.cell j).trans hs
          have kf := hbk.frozen j
          have k5 : wr.cell? ⟨w.heap.size, 5, none⟩ = some (.slice A' nms.length c') := (HX.out.cell 5).trans K5.out
          have hgx : g < w.heap.size := HSS.out g hgS
          have HC3 : Hid (Chg S w (wr.setCell ⟨g, j, none⟩ (.string ⟨#[122]⟩))) := HC.out.trans (Chg.ofGrown (grown_setCell wr g j _) hgS)
          have HX3 : Hid (Blk (wr.setCell ⟨g, j, none⟩ (.string ⟨#[122]⟩)) w.heap.size 30 cs.toArray) := HX.out.far (by show _ ≠ g; omega) _
          have HN3 : Hid (0 < nms.length → ∃ g' cur, A' = some ⟨g', 0, none⟩ ∧ S g' ∧ Blk (wr.setCell ⟨g, j, none⟩ (.string ⟨#[122]⟩)) g' 9 cur ∧ ∀ j, (h : j < nms.length) → ∃ s, cur[j]? = some (.string s)) := fun _ => by
            refine ⟨g, _, hA, hgS, hbk.set_ j _, fun k hk => ?_⟩
            obtain ⟨s2, hs2⟩ := hcur k hk
            rw [Array.getElem?_setIfInBounds]
            by_cases hjk : j = k
            · subst hjk
              have : j < cur.size := (Array.getElem?_eq_some_iff.1 hs2).1
              exact ⟨⟨#[122]⟩, by simp [this]⟩
            · exact ⟨s2, by rw [if_neg hjk]; exact hs2⟩
          subst hA
          clear hbk hcur hs HC HN HX
          go_wp2_with fail
          go_roundw
          case rel => exact ⟨j + 1, by go_num, hlt, HC3, HN3, HX3⟩
          case measure => simp [intOf]; omega
        · go_wp2_with fail
          go_end0
          exact ⟨rfl, HC.out⟩
end Go.Proofs.YtacnoedhpamdmaaGreatDoor
