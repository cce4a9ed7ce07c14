/- Words and walks: answers are spoilt, bytes with room behind them are made and held against (quernlaw02.spoil, wide, kept). Conditions: as stated. -/
import Derived.Test.YtbpbokcglicggaaPm
import Derived.Test.YtbpbokcglicggaaMem2
import Derived.WalkSpells
import Derived.WalkLawsBesides
import Derived.BigQuiet
import Derived.Deep.QuietTactic
import Derived.ArgAppend
namespace Go.Proofs.Ytbpbokcglicggaa
open Go.RowKit
set_option linter.unusedVariables false

/-- A slice of the call's own, of whatever bytes. -/
def WOwn (B : Nat) (w : World) (v : Value) (n : Nat) : Prop := ∃ xs : List Int, w.ownsRow B 5 1 v n (u8s xs)
/-- What spoiling leaves: old memory, all slices of the call's own as slices, all blocks that hold no bytes. -/
structure Pres (B : Nat) (w w' : World) : Prop where
  below : Below B w w'
  own : ∀ v n, WOwn B w v n → WOwn B w' v n
  blk : ∀ g t cs, t ≠ 5 → Blk w g t cs → Blk w' g t cs
theorem Pres.refl (B : Nat) (w : World) : Pres B w w := ⟨Below.refl _ _, fun _ _ h => h, fun _ _ _ _ h => h⟩
theorem Pres.trans {B : Nat} {a b c : World} (h : Pres B a b) (k : Pres B b c) : Pres B a c := ⟨h.below.trans k.below, fun v n x => k.own v n (h.own v n x), fun g t cs x y => k.blk g t cs x (h.blk g t cs x y)⟩
theorem u8s_set (xs : List Int) (j : Nat) (z : Int) : (u8s xs).set j (.int .u8 z) = u8s (xs.set j z) := by unfold u8s; rw [List.map_set]
theorem Pres.set_ {B g j : Nat} {w : World} {cur : Array Value} (hg : Blk w g 5 cur) (hb : B ≤ g) (z : Int) : Pres B w (w.setCell ⟨g, j, none⟩ (.int .u8 z)) := by
  refine ⟨(Below.refl _ _).setCell hb _, fun v n ⟨xs, h1, h2⟩ => ?_, fun g' t cs ht h => h.far (fun e => Blk.ne_ h hg ht e) _⟩
  rcases h2 with ⟨hv, hn⟩ | ⟨g', cap, cur', hv, h3, h4, h5, h6, h7, h8⟩
  · exact ⟨xs, h1, .inl ⟨hv, hn⟩⟩
  · by_cases he : g' = g
    · subst he
      have h9 : Blk (w.setCell ⟨g', j, none⟩ (.int .u8 z)) g' 5 (cur'.setIfInBounds j (.int .u8 z)) := Blk.set_ h4 j (.int .u8 z)
      by_cases hj : j < n
      · refine ⟨xs.set j z, by simpa using h1, .inr ⟨g', cap, _, hv, h3, h9, h5, h6, by simpa using h7, ?_⟩⟩
        rw [Array.toList_setIfInBounds, List.take_set, h8, u8s_set]
      · refine ⟨xs, h1, .inr ⟨g', cap, _, hv, h3, h9, h5, h6, by simpa using h7, ?_⟩⟩
        rw [Array.toList_setIfInBounds, List.take_set, h8]
        exact List.set_eq_of_length_le (by have : (u8s xs).length = n * 1 := h1; omega)
    · exact ⟨xs, h1, .inr ⟨g', cap, cur', hv, h3, Blk.far h4 he _, h5, h6, h7, h8⟩⟩
theorem Pres.grown {B : Nat} {w w' : World} (hg : w.grownBy w' none) (hb : B ≤ w.heap.size) : Pres B w w' :=
  ⟨(below_of_grown hg).mono hb, fun v n ⟨xs, h⟩ => ⟨xs, own_none h hg⟩, fun g t cs _ h => h.grown hg (by simp)⟩
theorem Pres.alloc {B : Nat} (w : World) (o : Obj) (hb : B ≤ w.heap.size) : Pres B w (w.alloc o) := Pres.grown (only_alloc (World.grownBy.refl w none) o) hb
theorem setCells_one (w : World) (g o : Nat) (u : Value) : w.setCells g o [u] = w.setCell ⟨g, o, none⟩ u := rfl
section
variable {P : Program} (w : World)
theorem run_append_spoil (B : Nat) (t ty : TypeId) (i : TypeInfo) (ht : P.underlying t = some (.slice 5)) (hi : P.info? 5 = some i) (hz : i.zero = some (.int .u8 0)) (hsize : i.size = 1) (hby : i.bytes = 1)
    (v : Value) (n : Nat) (xs : List Int) (hown : w.ownsRow B 5 1 v n (u8s xs)) (a : Addr) (c : Nat) (z : Int) (hnews : w.cell? a = some (.int .u8 z)) (hs : a.spot = none) (hn : n + 1 ≤ 140737488355328) (hbase : B ≤ w.heap.size) :
    ∃ v' w', (Builtin.append_ #[t, t] ty #[v, .slice (some a) 1 c]).run P w = .ok v' w' ∧ w'.ownsRow B 5 1 v' (n + 1) (u8s (xs ++ [z])) ∧ Pres B w w' := by
  have hcell : ∀ (j : Nat) (u : Value), [Value.int .u8 z][j]? = some u → w.cell? (a.add j) = some u := by
    intro j u hj
    have h0 : j = 0 := by
      rcases Nat.eq_zero_or_pos j with h | h
      · exact h
      · rw [List.getElem?_eq_none (by simp; omega)] at hj; cases hj
    subst h0
    have e : a.add 0 = a := by simp [Addr.add]
    rw [e, hnews]
    simpa using hj
  have h1c : ∀ u ∈ [Value.int .u8 z], u.oneCell' = true := by intro u hu; rw [List.mem_singleton.1 hu]; rfl
  have e : u8s xs ++ [Value.int .u8 z] = u8s (xs ++ [z]) := by simp [u8s]
  rcases hown.2 with ⟨rfl, rfl⟩ | ⟨g, cap, cur, rfl, hbg, hg, hnc, hcm, hcs, htake⟩
  · obtain ⟨v', w', h1, h2, h3, h4⟩ := run_append_any (P := P) w B t ty 5 i _ 1 1 ht hi hz hsize hby rfl (by omega) (.slice none 0 0) 0 (u8s xs) hown (a.block + 1) (some a) 1 c [.int .u8 z] ⟨rfl, fun _ => ⟨a, rfl, by omega, hcell⟩⟩ h1c (by simp only [maxLen]; omega) (by omega) hbase
    rw [e] at h2
    exact ⟨v', w', h1, h2, Pres.grown (by simpa [Value.ownBlock] using h3) hbase⟩
  · by_cases hroom : n + 1 ≤ cap
    · obtain ⟨w', h1, h2, h3⟩ := run_append_fits (P := P) w B t ty 5 i 1 ht hi hsize g n cap (u8s xs) hown a 1 c [.int .u8 z] rfl hcell h1c hroom
      have hg' : Blk w g 5 cur := hg
      have hlt : n < cur.size := by omega
      have h4 := run_append_room_cells (P := P) w t ty 5 i ht hi g 0 n cap a 1 c [.int .u8 z] (by rw [hsize]; rfl) hcell h1c hroom
        (fun j hj => by
          have h0 : j = 0 := by simp at hj; omega
          subst h0
          rw [hg'.cell, hsize, show 0 + n * 1 + 0 = n from by omega, Array.getElem?_eq_getElem hlt]; rfl)
        (fun j hj => hg'.frozen _)
      rw [h1] at h4
      injection h4 with h4 h5
      rw [hsize, show 0 + n * 1 = n from by omega, setCells_one] at h5
      rw [e] at h2
      exact ⟨_, w', h1, h2, by rw [h5]; exact Pres.set_ hg' hbg z⟩
    · obtain ⟨v', w', h1, h2, h3⟩ := run_append_arg_grows (P := P) w t ty 5 i _ 1 1 ht hi hz hsize hby rfl (by omega) ⟨g, 0, none⟩ n cap (u8s xs) hown.1 (fun j u hu => by
          have e2 : (⟨g, 0, none⟩ : Addr).add j = ⟨g, j, none⟩ := by rw [Addr.add_lit, Nat.zero_add]
          rw [e2, (show Blk w g 5 cur from hg).cell j, ← hu, ← htake, ← Array.getElem?_toList, List.getElem?_take]
          have hj : j < n * 1 := by
            rcases Nat.lt_or_ge j (n * 1) with h | h
            · exact h
            · rw [List.getElem?_eq_none (by rw [hown.1]; exact h)] at hu; cases hu
          rw [if_pos hj]) a 1 c [.int .u8 z] rfl hcell (by omega) (by simp only [maxLen]; omega) (by omega)
      rw [e] at h2
      exact ⟨v', w', h1, own_base h2 hbase, Pres.grown h3 hbase⟩
theorem wpList_append_spoil {ops : Array Oper} {rest : List Oper} {o : Oper} {a : Act} {Q : Exit → Act → World → Prop} (hgd : o.guard = none) (s x : Operand) (t : TypeId)
    (ho : o.op = .call { callee := .builtin .append, args := #[s, x], argTypes := #[t, t] })
    (B : Nat) (i : TypeInfo) (ht : P.underlying t = some (.slice 5)) (hi : P.info? 5 = some i) (hz : i.zero = some (.int .u8 0)) (hsize : i.size = 1) (hby : i.bytes = 1)
    (v : Value) (n : Nat) (xs : List Int) (hs : a.eval s = v) (hown : w.ownsRow B 5 1 v n (u8s xs)) (ad : Addr) (c : Nat) (z : Int) (hx : a.eval x = .slice (some ad) 1 c) (hnews : w.cell? ad = some (.int .u8 z)) (hsp : ad.spot = none)
    (hn : n + 1 ≤ 140737488355328) (hbase : B ≤ w.heap.size)
    (h : ∀ v' w', w'.ownsRow B 5 1 v' (n + 1) (u8s (xs ++ [z])) → Pres B w w' → wpList P ops Q rest (a.put o.dst v') w') : wpList P ops Q (o :: rest) a w :=
  wpList_plain hgd fun _ hK => by
    obtain ⟨v', w', hrun, h2, h3⟩ := run_append_spoil (P := P) w B t o.type i ht hi hz hsize hby v n xs hown ad c z hnews hsp hn hbase
    unfold Oper.wp execOp
    simp only [ho, resolve, invoke, builtin, Sem.run_bind, Sem.run_pure, Result.andThen_ok, List.map_toArray, List.map_cons, List.map_nil, hs, hx, hrun]
    exact hK _ _ (h v' w' h2 h3)
end
set_option maxHeartbeats 1000000 in
theorem c_spoil (B : Nat) (v : Value) (n : Nat) (w : World) (h : WOwn B w v n) (hn : n ≤ 140737488351232) (hB : B ≤ w.heap.size) :
    Calls Try.prog 41 #[v] w fun e w' => e = .returned (.tuple #[]) ∧ Pres B w w' := by
  obtain ⟨i0, hi0, hz0, hz1, hz2⟩ := info_parts u8_info
  obtain ⟨xs0, h0⟩ := h
  obtain ⟨A, c, rfl⟩ := own_slice h0
  go_enter Try.func41, Try.ntmps41
  go_wp2
  go_loopw [2] (fun i wr => ∃ (j : Nat) (xs : List Int), j ≤ n ∧ i = .int .i64 j ∧ wr.ownsRow B 5 1 (.slice A n c) n (u8s xs) ∧ Pres B w wr) (fun i _ => n - (intOf i).toNat)
  case atStart => exact ⟨0, xs0, Nat.zero_le _, rfl, h0, Pres.refl B w⟩
  case round =>
    obtain ⟨j, xs, hj, rfl, hown, hpr⟩ := hrel
    have hl : xs.length = n := by have := hown.1; simpa using this
    by_cases hlt : j < n
    · obtain ⟨g, cap, hv, hg1, hg2⟩ := own_form hown (by omega)
      injection hv with hv _ hv2
      subst hv; subst hv2
      have hcell : wr.cell? ⟨g, j, none⟩ = some (.int .u8 (xs.getD j 0)) := by
        rw [hown.cellAt j (by omega)]
        simp [List.getD, List.getElem?_eq_getElem (show j < xs.length by omega)]
      have hfr := hown.frozenAt j
      have hst : ∀ z, (wr.setCell ⟨g, j, none⟩ (.int .u8 z)).ownsRow B 5 1 (.slice (some ⟨g, 0, none⟩) n c) n (u8s (xs.set j z)) ∧ Pres B w (wr.setCell ⟨g, j, none⟩ (.int .u8 z)) := fun z => by
        have h1 := (hown.stored j (.int .u8 z)).1
        rw [u8s_set] at h1
        refine ⟨h1, hpr.trans ?_⟩
        rcases hown.2 with ⟨h', _⟩ | ⟨g', cap', cur, h', hb, hg, _⟩
        · cases h'
        · injection h' with h' _ _
          injection h' with h'
          injection h' with h'
          subst h'
          exact Pres.set_ hg hb z
      have HST := Lib.hid hst
      have HPR := Lib.hid hpr
      have HOW := Lib.hid hown
      clear hst hl hpr hown
      generalize xs.getD j 0 = y at *
      go_wp2
      go_roundw
      case rel => exact ⟨j + 1, _, by omega, by go_num, (HST.out _).1, (HST.out _).2⟩
      case measure => simp [intOf]; omega
    · have HPR := Lib.hid hpr
      have HOW := Lib.hid hown
      clear hpr hl
      obtain ⟨wo, rfl⟩ : ∃ wo : World, wo = wr := ⟨_, rfl⟩
      go_wp2
      go_loopw [0, 3] (fun b i wr => ∃ (j : Nat) (xs : List Int), j ≤ 70 ∧ i = .int .i64 j ∧ wr.ownsRow B 5 1 b (n + j) (u8s xs) ∧ Pres B w wr) (fun _ i _ => 70 - (intOf i).toNat)
      case atStart => exact ⟨0, xs, by omega, rfl, HOW.out, HPR.out⟩
      case round =>
        obtain ⟨j2, ys, hj2, rfl, hown2, hpr2⟩ := hrel
        have hsz : B ≤ wr.heap.size := Nat.le_trans hB hpr2.below.size
        have HPR2 := Lib.hid hpr2
        have HOW2 := Lib.hid hown2
        clear hpr2 hown2
        by_cases hlt2 : j2 < 70
        · have e1 : IntKind.u8.wrap (17 + (j2 : Int)) = 17 + (j2 : Int) := by rw [IntKind.wrap_u8]; omega
          go_wp2_with (at_builtin; refine wpList_append_spoil _ rfl (.tmp 22) (.tmp 26) _ rfl B i0 Try.underlying29 hi0 hz0 hz1 hz2 _ (n + j2) ys rfl (HOW2.out.alloc _) ⟨wr.heap.size, 0, none⟩ 1 (17 + (j2 : Int)) rfl ((Blk.new wr 5 #[.int .u8 (17 + (j2 : Int))]).cell 0) rfl (by omega) (by simp; omega) ?_; intro v1 w1 hown1 hp1; have hp2 := Lib.hid ((HPR2.out.trans (Pres.alloc wr (.cells #[.int .u8 (17 + (j2 : Int))] 5) hsz)).trans hp1); clear hp1)
          go_roundw
          case rel => exact ⟨j2 + 1, _, by omega, by go_num, hown1, hp2.out⟩
          case measure => simp [intOf]; omega
        · go_wp2
          go_end0
          exact ⟨rfl, HPR2.out⟩
def patL (j : Nat) : List Int := (List.range j).map fun (i : Nat) => 200 + ((i : Nat) : Int) % 7
theorem patL_succ (j : Nat) : patL (j + 1) = patL j ++ [200 + (j : Int) % 7] := by simp [patL, List.range_succ]
def wideL (xs : List Int) : List Int := xs ++ patL 70
theorem wideL_len (xs : List Int) : (wideL xs).length = xs.length + 70 := by simp [wideL, patL]
set_option maxHeartbeats 1000000 in
theorem c_wide (A : Option Addr) (n c : Nat) (xs : List Int) (w : World) (hr : Reads w w.heap.size 1 A n (u8s xs)) (hn : n ≤ 140737488351232) :
    Calls Try.prog 40 #[.slice A n c] w (OwnBytes w (wideL xs)) := by
  obtain ⟨i0, hi0, hz0, hz1, hz2⟩ := info_parts u8_info
  have hl : xs.length = n := by simpa using hr.1
  have HG : Hid (∀ v w', w'.ownsRow w.heap.size 5 1 v (n + 70) (u8s (xs ++ patL 70)) → Below w.heap.size w w' → OwnBytes w (wideL xs) (.returned v) w') := fun v w' h hb => ⟨v, rfl, by rw [wideL_len, hl]; exact h, hb⟩
  clear hl
  go_enter Try.func40, Try.ntmps40
  go_wp2_with (at_builtin; refine wpList_append_any _ rfl (.tmp 5) (.tmp 6) _ rfl w.heap.size 5 i0 _ 1 1 Try.underlying29 hi0 hz0 hz1 hz2 rfl (by omega) (.slice none 0 0) 0 [] rfl ⟨by simp, .inl ⟨rfl, rfl⟩⟩ w.heap.size _ n c (u8s xs) rfl hr (u8s_one _) (by simp only [maxLen]; omega) (by omega) (Nat.le_refl _) ?_; intro v1 w1 hown1 hg1 _; rw [Nat.zero_add, List.nil_append] at hown1; have HB1 := Lib.hid (below_of_grown hg1); have HO1 := Lib.hid hown1; clear hg1 hown1)
  go_loopw [3, 4] (fun v i wr => ∃ j : Nat, j ≤ 70 ∧ i = .int .i64 j ∧ wr.ownsRow w.heap.size 5 1 v (n + j) (u8s (xs ++ patL j)) ∧ Below w.heap.size w wr) (fun _ i _ => 70 - (intOf i).toNat)
  case atStart => exact ⟨0, by omega, rfl, by simpa [patL] using HO1.out, HB1.out⟩
  case round =>
    obtain ⟨j, hj, rfl, hown, hbel⟩ := hrel
    have hsz := hbel.size
    have HO := Lib.hid hown
    have HB := Lib.hid hbel
    clear hown hbel
    by_cases hlt : j < 70
    · have e1 : IntKind.u8.wrap (200 + (j : Int) % 7) = 200 + (j : Int) % 7 := by rw [IntKind.wrap_u8]; omega
      have HT : Hid (xs ++ patL (j + 1) = (xs ++ patL j) ++ [200 + (j : Int) % 7]) := by show _ = _; rw [patL_succ, List.append_assoc]
      go_wp2_with (at_builtin; refine wpList_append_any _ rfl (.tmp 12) (.tmp 17) _ rfl w.heap.size 5 i0 _ 1 1 Try.underlying29 hi0 hz0 hz1 hz2 rfl (by omega) _ (n + j) _ rfl (HO.out.alloc _) _ _ 1 1 [.int .u8 (200 + (j : Int) % 7)] rfl (reads_one _ _ _) (by intro u hu; rw [List.mem_singleton.1 hu]; rfl) (by simp only [maxLen]; omega) (by omega) (by simp; omega) ?_; intro v1 w2 hown2 hg2 _; have hb2 := Lib.hid (below_own (HB.out.alloc hsz _) (HO.out.alloc _) hg2); clear hg2)
      have hown3 : w2.ownsRow w.heap.size 5 1 v1 (n + (j + 1)) (u8s (xs ++ patL (j + 1))) := by rw [HT.out]; simpa [u8s, Nat.add_assoc] using hown2
      have HO3 := Lib.hid hown3
      clear hown2 hown3
      go_roundw
      case rel => exact ⟨j + 1, by omega, by go_num, HO3.out, hb2.out⟩
      case measure => simp [intOf]; omega
    · obtain rfl : j = 70 := by omega
      go_wp2
      go_ret
      exact HG.out _ _ HO.out HB.out
set_option maxHeartbeats 400000 in
theorem c_sameB (A A' : Option Addr) (n c n' c' : Nat) (xs ys : List Int) (w : World) (B : Nat) (hr : Reads w B 1 A n (u8s xs)) (hr' : Reads w B 1 A' n' (u8s ys)) (hn : n ≤ 140737488355328) :
    Calls Try.prog 30 #[.slice A n c, .slice A' n' c'] w fun e w' => e = .returned (.bool (decide (xs = ys))) ∧ Below w.heap.size w w' := by
  have hl : xs.length = n := by simpa using hr.1
  have hl' : ys.length = n' := by simpa using hr'.1
  by_cases hnn : n = n'
  · subst hnn
    have Hl := Lib.hid hl
    have Hl' := Lib.hid hl'
    clear hl hl'
    go_enter Try.func30, Try.ntmps30
    go_wp2
    go_loopw [5] (fun i wr => ∃ k d : Nat, k ≤ n ∧ i = .int .i64 k ∧ Hid (xs.take k = ys.take k) ∧ wr = w.drewN d) (fun i _ => n - (intOf i).toNat)
    case atStart => exact ⟨0, 0, Nat.zero_le _, rfl, rfl, rfl⟩
    case round =>
      obtain ⟨k, d, hk, rfl, HT, rfl⟩ := hrel
      by_cases hlt : k < n
      · obtain ⟨b, off, rfl, hbB, hbw, hcells⟩ := hr.form (by omega)
        obtain ⟨b', off', rfl, hbB', hbw', hcells'⟩ := hr'.form (by omega)
        have hcell := hcells k hlt
        have hcell' := hcells' k hlt
        rw [getD_u8s (by rw [Hl.out]; exact hlt)] at hcell
        rw [getD_u8s (by rw [Hl'.out]; exact hlt)] at hcell'
        clear hcells hcells'
        have HN : Hid (xs.getD k 0 = ys.getD k 0 → xs.take (k + 1) = ys.take (k + 1)) := fun he => take_next (by rw [Hl.out]; exact hlt) (by rw [Hl'.out]; exact hlt) HT.out he
        have HD : Hid (xs.getD k 0 ≠ ys.getD k 0 → xs ≠ ys) := ne_of_getD
        generalize xs.getD k 0 = z at *
        generalize ys.getD k 0 = z' at *
        by_cases hz : z = z'
        · have hz' : (z != z') = false := by simp [hz]
          have HZ : Hid (xs.take (k + 1) = ys.take (k + 1)) := HN.out hz
          clear hz HN HD
          go_wp2
          go_quiet (fail)
          go_wp2
          go_roundw
          case rel => exact ⟨k + 1, _, by omega, by go_num, HZ, rfl⟩
          case measure => simp [intOf]; omega
        · have hz' : (z != z') = true := by simp [hz]
          have HZ : Hid (xs ≠ ys) := HD.out hz
          clear hz HN HD
          go_wp2
          go_quiet (fail)
          go_wp2
          go_ret
          exact ⟨by rw [decide_eq_false HZ.out]; rfl, below_drewN (below_drewN (Below.refl _ _) _) _⟩
      · have HZ : Hid (xs = ys) := by
          have hx : xs.take k = xs := List.take_of_length_le (by rw [Hl.out]; omega)
          have hy : ys.take k = ys := List.take_of_length_le (by rw [Hl'.out]; omega)
          show xs = ys
          rw [← hx, ← hy]
          exact HT.out
        go_wp2
        go_ret
        exact ⟨by rw [decide_eq_true HZ.out]; rfl, below_drewN (Below.refl _ _) _⟩
  · have HZ : Hid (xs ≠ ys) := by
      show xs ≠ ys
      rintro rfl
      exact hnn (by omega)
    have hne : ((n : Int) != (n' : Int)) = true := by simp; omega
    clear hnn hl hl'
    go_enter Try.func30, Try.ntmps30
    go_wp2
    go_ret
    exact ⟨by rw [decide_eq_false HZ.out]; rfl, Below.refl _ _⟩
set_option maxHeartbeats 1000000 in
theorem c_kept (A A' : Option Addr) (n c n' c' : Nat) (xs : List Int) (w : World) (hr : Reads w w.heap.size 1 A n (u8s (wideL xs))) (hr' : Reads w w.heap.size 1 A' n' (u8s xs)) (hn : n' ≤ 140737488351232) :
    Calls Try.prog 42 #[.slice A n c, .slice A' n' c'] w fun e w' => e = .returned (.bool true) ∧ Below w.heap.size w w' := by
  have hl : xs.length = n' := by simpa using hr'.1
  have hl2 : (wideL xs).length = n := by simpa using hr.1
  have hlw := wideL_len xs
  have hW := c_wide A' n' c' xs w hr' (by omega)
  have HW := Lib.hid hW
  clear hW
  go_enter Try.func42, Try.ntmps42
  go_wp2_with fail
  refine HW.out.mono ?_
  rintro e w1 ⟨v1, rfl, o1, hb1⟩
  obtain ⟨A1, c1, rfl, _, r1⟩ := own_reads o1
  have hr1 := hr.step hb1
  have HB1 := Lib.hid hb1
  rw [hl2] at r1
  clear hb1 o1 hr hr'
  go_wp2_with fail
  refine (c_sameB _ _ _ _ _ _ (wideL xs) (wideL xs) _ _ hr1 r1 (by omega)).mono ?_
  rintro e w2 ⟨rfl, hb2⟩
  rw [decide_eq_true rfl]
  have HB2 := Lib.hid (below_step HB1.out hb2)
  clear hb2
  go_wp2_with fail
  go_ret
  exact ⟨rfl, HB2.out⟩
end Go.Proofs.Ytbpbokcglicggaa
