/- Walks: an entry with bytes of its own (quernlaw26.own); both lines of an entry (quernlaw26.SumsLines). Conditions: lengths within the reach; the library's table of tens as laid. -/
import Derived.Test.YtjaohjlddhjgpaaGreatDoorSg
import Derived.Test.YtjaohjlddhjgpaaGreatDoorLaw
namespace Go.Proofs.YtjaohjlddhjgpaaGreatDoor
open Go.RowKit
set_option linter.unusedVariables false
attribute [local go_sem ↓] Go.wp_at_zero Go.wp_at_succ

/-- An entry's own cells before it is laid. -/
abbrev smZ : Array Value := #[.int .i64 0, .string ⟨#[]⟩, .slice none 0 0, .bool false]
/-- What an entry's copy is. -/
def OwnS (w : World) (e : Sm) (n : Nat) (x : Ending) (w' : World) : Prop := ∃ D c, x = .returned (smV e D n c) ∧ RdS w' e D n c ∧ Below w.heap.size w w'
set_option maxRecDepth 100000 in
set_option maxHeartbeats 1000000 in
theorem c_own (e : Sm) (D : Option Addr) (n c : Nat) (w : World) (h : RdS w e D n c) (hn2 : n ≤ 140737488351232) :
    Calls Tryz.prog 8 #[smV e D n c] w (OwnS w e n) := by
  obtain ⟨i0, hi0, hz0, hz1, hz2⟩ := info_parts u8_info
  have hb0 := ((Below.refl w.heap.size w).alloc (Nat.le_refl _) (.cells (smC e D n c) 25)).alloc (by simp) (.cells smZ 25)
  have hs := ((h.rd.alloc (Nat.le_refl _) (.cells (smC e D n c) 25)).alloc (by simp) (.cells smZ 25))
  have hB0 := (Blk.new w 25 (smC e D n c)).alloc (.cells smZ 25)
  have hB1 := Blk.new (w.alloc (.cells (smC e D n c) 25)) 25 smZ
  have hsz : ((w.alloc (.cells (smC e D n c) 25)).alloc (.cells smZ 25)).heap.size = w.heap.size + 2 := by simp
  simp only [World.size_alloc] at hB1
  have hen := h.hn
  have HG : Hid (∀ D c w', w'.ownsRow w.heap.size 5 1 (.slice D n c) n (bys e.dg) → Below w.heap.size w w' → OwnS w e n (.returned (smV e D n c)) w') := by
    intro D c w' ho hb
    obtain ⟨A', c', he, hc, hr⟩ := own_reads ho
    cases he
    exact ⟨D, c, rfl, ⟨hen, h.bn, hr⟩, hb⟩
  have h1 : (bys e.dg).length = n := by simp [bys, hen]
  have hone : ∀ u ∈ bys e.dg, u.oneCell' = true := by simp [bys, Value.oneCell']
  clear h hen
  generalize bys e.dg = ys at *
  simp only [smV, smC] at hs hB0 hB1 hsz hb0 HG ⊢
  have HSZ := Lib.hid hsz
  have HB0 := Lib.hid hB0
  have HB1 := Lib.hid hB1
  have HBL := Lib.hid hb0
  clear hsz hB0 hB1 hb0
  go_enter Tryz.func8, Tryz.ntmps8
  go_wp2_with (first | (at_builtin; refine wpList_append_any _ rfl (.tmp 4) (.tmp 6) _ rfl (w.heap.size + 2) 5 i0 _ 1 1 Tryz.underlying23 hi0 hz0 hz1 hz2 rfl (by omega) (.slice none 0 0) 0 [] rfl ⟨by simp, .inl ⟨rfl, rfl⟩⟩ w.heap.size _ n _ ys rfl hs hone (by simp only [maxLen]; omega) (by omega) (by simp) ?_; intro v1 w2 hown1 hg1 _; rw [Nat.zero_add, List.nil_append] at hown1; obtain ⟨A1, c1, rfl⟩ := own_slice hown1; have hb2 := below_of_grown hg1; have K0 := Lib.hid (HB0.out.below hb2 (by simp; omega)); have K1 := Lib.hid (HB1.out.below hb2 (by simp)); have hz2' := hb2.size; have HL2 := Lib.hid (HBL.out.trans (hb2.mono (by simp; omega))); have f2 := K0.out.cell 2; have g2 := K0.out.frozen 2; have hown1' := own_far hown1 (grown_setCell w2 w.heap.size 2 (.slice A1 n c1)) (by omega); clear hb2 hg1 hown1; simp only [World.size_alloc] at hz2') | (refine wpList_load_row rfl 25 (.tmp 1) rfl w.heap.size rfl 25 _ (0, 0) _ (K0.out.set_ 2 (.slice A1 n c1)) Tryz.underlying25 rfl (by kernel_rfl) ?_) | (refine wpList_storeB rfl 25 (.tmp 2) (.tmp 9) rfl rfl (w.heap.size + 1) _ rfl rfl (K1.out.far (p := ⟨w.heap.size, 2, none⟩) (by simp) (.slice A1 n c1)) (by kernel_rfl) rfl rfl ?_; intro w4 hB4 hg4 hz4))
  have o1 := own_far hown1' hg4 (by omega)
  refine bodyPost_ret (results_cellB (p := 2) rfl _ hB4 _ rfl Tryz.underlying25 rfl (by kernel_rfl)) rfl (HG.out A1 c1 _ (own_base o1 (by omega)) ?_)
  exact (HL2.out.setCell (p := ⟨w.heap.size, 2, none⟩) (Nat.le_refl _) _).grown hg4 (by simp; omega) (fun _ h => by injection h with h; omega)
theorem bytes_of : ∀ xs : List Int, (∀ z ∈ xs, (Lit.int .u8 z).wf = true) → ∃ l : List UInt8, xs.map (Value.int .u8) = bys l
  | [], _ => ⟨[], rfl⟩
  | z :: zs, h => by
    obtain ⟨l, hl⟩ := bytes_of zs fun y hy => h y (List.mem_cons_of_mem _ hy)
    have hz := h z List.mem_cons_self
    have hz2 : 0 ≤ z ∧ z < 256 := by
      simp [Lit.wf] at hz
      have e1 : IntKind.u8.min = 0 := by decide
      have e2 : IntKind.u8.max = 255 := by decide
      omega
    refine ⟨UInt8.ofNat z.toNat :: l, ?_⟩
    rw [List.map_cons, hl]
    have : z = ((UInt8.ofNat z.toNat).toNat : Int) := by simp; omega
    show _ :: _ = Value.int .u8 ((UInt8.ofNat z.toNat).toNat : Int) :: bys l
    rw [← this]
set_option maxRecDepth 100000 in
set_option maxHeartbeats 1000000 in
theorem c_SumsLines (e : Sm) (D : Option Addr) (n c : Nat) (w : World) (h : RdS w e D n c) (hn2 : n ≤ 140737488351232) (htab : Lib.TabIs Tryz.prog w "internal/strconv.uint64pow10" .u64 Lib.pow10Tab) :
    Calls Tryz.prog 3 #[smV e D n c] w fun x w' => x = .returned (.bool true) ∧ Below w.heap.size w w' := by
  have hB0 := Blk.new w 25 (smC e D n c)
  have hb0 := (Below.refl w.heap.size w).alloc (Nat.le_refl _) (.cells (smC e D n c) 25)
  have HS0 := Lib.hid (h.step hb0)
  have HT : Hid (∀ W, Below w.heap.size w W → Lib.TabIs Tryz.prog W "internal/strconv.uint64pow10" .u64 Lib.pow10Tab) := fun W hb => Lib.tabBelow_of_tabIs htab W hb
  have HOW : Hid (∀ W, RdS W e D n c → Calls Tryz.prog 8 #[smV e D n c] W (OwnS W e n)) := fun W h => c_own e D n c W h hn2
  have HPL : Hid (∀ D c W, RdS W e D n c → Calls Tryz.prog 7 #[smV e D n c] W fun x w' => LineIs (rightS e) (plainS e) x ∧ Below W.heap.size W w') := fun D c W h => c_Plain e D n c W h hn2
  have HRP : Hid (∀ D c W, RdS W e D n c → Calls Tryz.prog 9 #[smV e D n c] W fun x w' => LineIs (rightS e) (plainS e) x ∧ Below W.heap.size W w') := fun D c W h => c_rPlain e D n c W h hn2
  have HTG : Hid (∀ D c W, RdS W e D n c → Below w.heap.size w W → Calls Tryz.prog 10 #[smV e D n c] W fun x w' => LineIs (rightS e) (tagS e) x ∧ Below W.heap.size W w') := fun D c W h hb => c_Tagged e D n c W h hn2 (HT.out W hb)
  have HRT : Hid (∀ D c W, RdS W e D n c → Calls Tryz.prog 11 #[smV e D n c] W fun x w' => LineIs (rightS e) (tagS e) x ∧ Below W.heap.size W w') := fun D c W h => c_rTagged e D n c W h hn2
  unfold LineIs at HPL HRP HTG HRT
  generalize (if rightS e = true then plainS e else []) = pl at *
  generalize (if rightS e = true then tagS e else []) = tg at *
  generalize (if rightS e = true then 0 else 1 : Int) = er at *
  clear h htab HT
  have HB := Lib.hid hb0
  have K0 := Lib.hid hB0
  clear hb0 hB0
  simp only [smV, smC] at HOW HPL HRP HTG HRT HB K0 ⊢
  go_enter Tryz.func3, Tryz.ntmps3
  go_wp2_with (refine wpList_load_row rfl 25 (.tmp 1) rfl w.heap.size rfl 25 _ (0, 0) _ K0.out Tryz.underlying25 rfl (by kernel_rfl) ?_)
  refine (HOW.out _ HS0.out).mono ?_
  rintro x w1 ⟨D1, c1, rfl, hr1, hb1⟩
  have HB1 := Lib.hid (below_step HB.out hb1)
  have HS1 := Lib.hid (HS0.out.step hb1)
  have K1 := Lib.hid (K0.out.below hb1 K0.out.lt)
  have HR1 := Lib.hid hr1
  clear hr1 hb1 HB HS0 K0
  go_wp2_with fail
  refine (HPL.out _ _ _ HR1.out).mono ?_
  rintro x w2 ⟨rfl, hb2⟩
  have HB2 := Lib.hid (below_step HB1.out hb2)
  have HS2 := Lib.hid (HS1.out.step hb2)
  have K2 := Lib.hid (K1.out.below hb2 K1.out.lt)
  clear hb2 HB1 HS1 K1 HR1 HPL
  go_wp2_with (refine wpList_load_row rfl 25 (.tmp 1) rfl w.heap.size rfl 25 _ (0, 0) _ K2.out Tryz.underlying25 rfl (by kernel_rfl) ?_)
  refine (HRP.out _ _ _ HS2.out).mono ?_
  rintro x w3 ⟨rfl, hb3⟩
  have HB3 := Lib.hid (below_step HB2.out hb3)
  have HS3 := Lib.hid (HS2.out.step hb3)
  have K3 := Lib.hid (K2.out.below hb3 K2.out.lt)
  clear hb3 HB2 HS2 K2 HRP
  go_wp2_with (refine wpList_load_row rfl 25 (.tmp 1) rfl w.heap.size rfl 25 _ (0, 0) _ K3.out Tryz.underlying25 rfl (by kernel_rfl) ?_)
  refine (HOW.out _ HS3.out).mono ?_
  rintro x w4 ⟨D4, c4, rfl, hr4, hb4⟩
  have HB4 := Lib.hid (below_step HB3.out hb4)
  have HS4 := Lib.hid (HS3.out.step hb4)
  have K4 := Lib.hid (K3.out.below hb4 K3.out.lt)
  have HR4 := Lib.hid hr4
  clear hr4 hb4 HB3 HS3 K3
  go_wp2_with fail
  refine (HTG.out _ _ _ HR4.out HB4.out).mono ?_
  rintro x w5 ⟨rfl, hb5⟩
  have HB5 := Lib.hid (below_step HB4.out hb5)
  have HS5 := Lib.hid (HS4.out.step hb5)
  have K5 := Lib.hid (K4.out.below hb5 K4.out.lt)
  clear hb5 HB4 HS4 K4 HR4 HTG
  go_wp2_with (refine wpList_load_row rfl 25 (.tmp 1) rfl w.heap.size rfl 25 _ (0, 0) _ K5.out Tryz.underlying25 rfl (by kernel_rfl) ?_)
  refine (HRT.out _ _ _ HS5.out).mono ?_
  rintro x w6 ⟨rfl, hb6⟩
  have HB6 := Lib.hid (below_step HB5.out hb6)
  clear hb6 HB5 HS5 K5 HRT
  go_wp2_with fail
  go_ret
  exact ⟨rfl, HB6.out⟩
theorem l_SumsLines (W : World) (htab : Lib.TabIs Tryz.prog W "internal/strconv.uint64pow10" .u64 Lib.pow10Tab) (a : Int) (wa : (Lit.int .i64 a).wf = true) (s : ByteArray) (hs : s.size ≤ 140737488351232) (A : Option Addr) (n c : Nat) (xs : List Int) (hr : RdInts W .u8 1 A n c xs) (b : Bool) :
    Calls Tryz.prog 3 #[.agg #[.int .i64 a, .string s, .slice A n c, .bool b]] W fun e W' => e = .returned (.bool true) ∧ Below W.heap.size W W' := by
  obtain ⟨hc, hm, hwf, hrd⟩ := hr
  obtain ⟨l, hl⟩ := bytes_of xs hwf
  rw [hl] at hrd
  exact c_SumsLines ⟨a, s, l, b⟩ A n c W ⟨by have := hrd.1; simpa [bys] using this, hs, hrd⟩ (by omega) htab
end Go.Proofs.YtjaohjlddhjgpaaGreatDoor
