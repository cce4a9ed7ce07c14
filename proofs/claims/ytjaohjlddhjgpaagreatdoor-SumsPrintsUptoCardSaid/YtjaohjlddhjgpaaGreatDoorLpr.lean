/- A list of entries as an argument; the law SumsPrints walked. Conditions: at most 1048576 entries; the library's table of tens as laid. -/
import Derived.Test.YtjaohjlddhjgpaaGreatDoorPu2
import Derived.DataReads
import Derived.ChangeOld
namespace Go.Proofs.YtjaohjlddhjgpaaGreatDoor
open Go.RowKit Go.WideShapes Go.ChangeShapes Go.Deep
set_option linter.unusedVariables false
attribute [local go_sem ↓] Go.wp_at_zero Go.wp_at_succ

theorem weights_all {H : Type} {P : Program} {e : TypeId} : ∀ {l : List (DataW H)} {d : DataW H}, d ∈ l → ∀ m ∈ d.weights P e, m ∈ DataW.weightsAll P e l
  | d0 :: l, d, hd, m, hm => by
    simp only [DataW.weightsAll, List.mem_append]
    rcases List.mem_cons.1 hd with rfl | h
    · exact .inl hm
    · exact .inr (weights_all h m hm)
/-- An entry as it stands in memory. -/
def EntAt (W : World) (p : Addr) (x : Ent) : Prop := (∀ j u, (smC x.e x.D x.n x.c).toList[j]? = some u → W.cell? (p.add j) = some u) ∧ RdS W x.e x.D x.n x.c ∧ x.n ≤ 140737488351232
section
variable {H : Type} {enc : TypeId × Value → H}
theorem rd_ent {W : World} {fuel : Nat} {cs : List Value} {x : DataW H × List MemPlace} (h : DataW.trod enc Tryz.prog W 0 (fun _ => true) true fuel 25 cs = some x) (hw : ∀ m ∈ x.1.weights Tryz.prog 25, m ≤ reachBytes) :
    ∃ y : Ent, cs = (smC y.e y.D y.n y.c).toList ∧ RdS W y.e y.D y.n y.c ∧ y.n ≤ 140737488351232 := by
  obtain ⟨hl, hf⟩ := rd_struct Tryz.underlying25 (by kernel_rfl) (by kernel_rfl) h hw
  obtain ⟨c0, c1, c2, c3, rfl⟩ := list_len4 hl
  obtain ⟨u0, m0, y0, e0, t0, w0⟩ := hf 0 _ rfl
  obtain ⟨u1, m1, y1, e1, t1, w1⟩ := hf 1 _ rfl
  obtain ⟨u2, m2, y2, e2, t2, w2⟩ := hf 2 _ rfl
  obtain ⟨u3, m3, y3, e3, t3, w3⟩ := hf 3 _ rfl
  cases e0; cases e1; cases e2; cases e3
  obtain ⟨a, rfl, _⟩ := fld_int Tryz.underlying22 t0
  obtain ⟨s, rfl, hs⟩ := fld_string Tryz.underlying9 t1 w1
  obtain ⟨D, n, c, xs, rfl, hc, hm, hwf, hrd⟩ := fld_ints (by_ := 1) Tryz.underlying23 Tryz.underlying5 (by kernel_rfl) (by kernel_rfl) t2 w2
  obtain ⟨b, rfl⟩ := fld_bool Tryz.underlying4 t3
  obtain ⟨l, hl⟩ := bytes_of xs hwf
  rw [hl] at hrd
  exact ⟨⟨⟨a, s, l, b⟩, D, n, c⟩, rfl, ⟨by have := hrd.1; simpa [bys] using this, hs, hrd⟩, by show n ≤ _; omega⟩
theorem rd_list {W : World} {fuel : Nat} {A : Option Addr} {n c : Nat} {x : DataW H × List MemPlace} (h : DataW.trod enc Tryz.prog W 0 (fun _ => true) true fuel 33 [.slice A n c] = some x) (hw : ∀ m ∈ x.1.weights Tryz.prog 33, m ≤ reachBytes) :
    ∃ es : List Ent, es.length = n ∧ RdL W A es := by
  rcases DataW.trod_slice Tryz.underlying33 h with ⟨h1, _⟩ | ⟨a, len, cap, elems, rest, m, _, h1, rfl, hb, hl, hm, hlen, he, _⟩
  · injection h1 with h1
    injection h1 with _ h3 _
    subst h3
    exact ⟨[], rfl, fun h => absurd h (by simp), fun _ h => by cases h⟩
  · injection h1 with h1
    injection h1 with hA h3 _
    subst hA; subst h3
    have hC : Tryz.prog.cellsOf 25 = 4 := by kernel_rfl
    rw [hC] at he
    have hex : ∀ i : Fin n, ∃ y : Ent, EntAt W (a.add (i.val * 4)) y ∧ a.block < W.heap.size := by
      rintro ⟨i, hi⟩
      have h2 := he i hi
      have hei : elems[i]? = some (elems[i]'(by omega)) := List.getElem?_eq_getElem (by omega)
      rw [hei] at h2
      obtain ⟨cs, hcs, ht⟩ := Option.bind_eq_some_iff.1 h2
      obtain ⟨y, rfl, hr, hn⟩ := rd_ent ht (fun m hm => hw m (by
        simp only [DataW.weights, Tryz.underlying33, List.mem_cons, List.mem_append]
        exact .inr (.inl (weights_all (List.mem_map.2 ⟨_, List.mem_of_getElem? hei, rfl⟩) m hm))))
      have hblk := World.cells?_block hcs (by omega)
      rw [block_of_add] at hblk
      refine ⟨y, ⟨fun j u hj => ?_, hr, hn⟩, hblk⟩
      obtain ⟨_, _, h3⟩ := World.cells?_some hcs
      have hj4 : j < 4 := (List.getElem?_eq_some_iff.1 hj).1
      exact (h3 j hj4).trans hj
    have hsp := fun i => Classical.choose_spec (hex i)
    generalize hf : (fun i => Classical.choose (hex i)) = f at hsp
    have hsp2 : ∀ i : Fin n, EntAt W (a.add (i.val * 4)) (f i) ∧ a.block < W.heap.size := fun i => by rw [← hf]; exact hsp i
    refine ⟨List.ofFn f, List.length_ofFn, fun h0 => ?_, fun x hx => ?_⟩
    · rw [List.length_ofFn] at h0
      refine ⟨a, rfl, (hsp2 ⟨0, h0⟩).2, fun k x hx => ?_⟩
      rw [List.getElem?_ofFn] at hx
      split at hx
      · rename_i hk
        obtain rfl : f ⟨k, hk⟩ = x := Option.some.inj hx
        exact (hsp2 ⟨k, hk⟩).1.1
      · cases hx
    · obtain ⟨i, rfl⟩ := List.mem_ofFn.1 hx
      exact (hsp2 i).1.2
end
set_option maxRecDepth 100000 in
set_option maxHeartbeats 1000000 in
theorem l_SumsPrints (w : World) (htab : Lib.TabIs Tryz.prog w "internal/strconv.uint64pow10" .u64 Lib.pow10Tab) (A : Option Addr) (k cap : Nat) (es : List Ent) (hk : es.length = k) (h : RdL w A es) (tg : Bool) (hn : k ≤ 1048576) :
    Calls Tryz.prog 4 #[.slice A k cap, .bool tg] w fun x w' => x = .returned (.bool true) ∧ Below w.heap.size w w' := by
  have HP := Lib.hid (c_Print tg A es k cap hk w h hn htab)
  have HR : Hid (∀ W, Below w.heap.size w W → Calls Tryz.prog 13 #[.slice A k cap, .bool tg] W fun x w' => PrnIs tg es x ∧ Below W.heap.size W w') := fun W hb => by
    refine c_rPrint tg A es k cap hk W ⟨fun h0 => ?_, fun x hx => ⟨(h.rds x hx).1.step hb, (h.rds x hx).2⟩⟩ hn
    obtain ⟨ad, e, hlt, hc⟩ := h.row h0
    exact ⟨ad, e, Nat.lt_of_lt_of_le hlt hb.size, fun i x hx j u hu => (hb.cell (by rw [block_of_add, block_of_add]; exact hlt)).trans (hc i x hx j u hu)⟩
  unfold PrnIs at HP HR
  generalize (if okS es = true then lnsS tg es else []) = tx at *
  generalize (if okS es = true then 0 else 1 : Int) = er at *
  clear h htab hn hk
  go_enter Tryz.func4, Tryz.ntmps4
  go_wp2_with fail
  refine HP.out.mono ?_
  rintro x w1 ⟨rfl, hb1⟩
  have HB1 := Lib.hid hb1
  clear hb1 HP
  go_wp2_with fail
  refine (HR.out _ HB1.out).mono ?_
  rintro x w2 ⟨rfl, hb2⟩
  have HB2 := Lib.hid (below_step HB1.out hb2)
  clear hb2 HB1 HR
  go_wp2_with fail
  go_ret
  exact ⟨rfl, HB2.out⟩
end Go.Proofs.YtjaohjlddhjgpaaGreatDoor
