/- The library's contracts for strings.Builder (WriteString, Len, String) laid at this program, in numbers, with what they leave as it was. Conditions: none. -/
import Derived.Shelf.Strings.BuilderK
import Derived.Test.YtigbbogfnchgnaaGreatDoorProg
import Derived.Test.YtigbbogfnchgnaaGreatDoorMem2
import Derived.Test.YtigbbogfnchgnaaGreatDoorJf
import Derived.KernelRfl
namespace Go.Proofs.YtigbbogfnchgnaaGreatDoor
open Go.Shelf Go.RowKit
set_option linter.unusedVariables false
/-- The numbers that the library's texts name, in this program. -/
def lrenIa : Ren :=
  { f := fun x => match x with
      | 166 => 25
      | 240 => 42
      | 276 => 54
      | 169 => 10
      | 170 => 9
      | n => n
    t := fun x => match x with
      | 3 => 3
      | 4 => 4
      | 5 => 5
      | 9 => 9
      | 20 => 20
      | 37 => 36
      | 70 => 35
      | 72 => 38
      | 75 => 57
      | 80 => 41
      | 127 => 61
      | 164 => 95
      | n => n
    g := fun x => x }
theorem laysI166 : Lays.n166 Tryz.prog lrenIa := by constructor <;> first | kernel_rfl | (intro w; kernel_rfl) | decide
theorem laysI169 : Lays.n169 Tryz.prog lrenIa := by constructor <;> first | kernel_rfl | (intro w; kernel_rfl) | decide
theorem laysI170 : Lays.n170 Tryz.prog lrenIa := by constructor <;> first | kernel_rfl | (intro w; kernel_rfl) | decide
theorem laysIX : Builder.Extra Tryz.prog lrenIa where
  sizeBuilder := by kernel_rfl
  liesBuilder := by kernel_rfl
  t5 := by kernel_rfl
  a5 := by intro w; kernel_rfl
  z5 := by intro w; kernel_rfl
  v5 := by intro w; kernel_rfl
  infoByte := by kernel_rfl
  cellsByte := by kernel_rfl
  sizeByte := by kernel_rfl
  neB5 := by decide
/-- A builder of the call's own that holds these bytes. -/
def IsBI (B b : Nat) (xs : List Int) (w : World) : Prop := Lib.IsBuilderF 38 5 B b (u8s xs) w
/-- All blocks but the builder and rows of bytes stand. -/
def Oth (b : Nat) (w w' : World) : Prop := Lib.OthersKept 5 (some b) w w'
theorem Oth.refl (b : Nat) (w : World) : Oth b w w := Lib.OthersKept.refl _ _ _
theorem Oth.trans {b : Nat} {u v w : World} (h : Oth b u v) (k : Oth b v w) : Oth b u w := Lib.OthersKept.trans h k
theorem Oth.of_below {b : Nat} {w w' : World} (h : Below w.heap.size w w') : Oth b w w' := fun k o hk _ _ => by
  rw [h.block k (Array.getElem?_eq_some_iff.1 hk).1]; exact hk
theorem Oth.blk {b g : Nat} {w w' : World} {T : TypeId} {cs : Array Value} (h : Oth b w w') (hk : Blk w g T cs) (hg : g ≠ b) (hT : T ≠ 5) : Blk w' g T cs :=
  h g _ hk (fun e => hg (Option.some.inj e)) (fun c fz e => by injection e with _ e _; exact hT e)
theorem isBI_new (w : World) : IsBI w.heap.size w.heap.size [] (w.alloc (.cells #[.pointer none, .slice none 0 0] 38)) := Lib.IsBuilderF.of (Lib.fresh_isBuilder _ _ w)
theorem ownF_below {w w' : World} {B n : Nat} {e : TypeId} {v : Value} {xs : List Value} (h : w.ownsRowF B e 1 v n xs) (hb : Below w.heap.size w w') : w'.ownsRowF B e 1 v n xs :=
  h.kept (only_of_below hb none) (by cases h : v.ownBlock with
    | none => exact .inl rfl
    | some g => exact .inr (by simp))
theorem IsBI.step {B b : Nat} {xs : List Int} {w w' : World} (h : IsBI B b xs w) (hb : Below w.heap.size w w') : IsBI B b xs w' := by
  rcases h with ⟨h1, v, h2, h3, h4⟩ | ⟨h1, v, h2, h3, h4⟩
  · exact .inl ⟨h1, v, by rw [hb.block b (Array.getElem?_eq_some_iff.1 h2).1]; exact h2, ownF_below h3 hb, h4⟩
  · exact .inr ⟨h1, v, by rw [hb.block b (Array.getElem?_eq_some_iff.1 h2).1]; exact h2, ownF_below h3 hb, h4⟩
theorem IsBI.lt {B b : Nat} {xs : List Int} {w : World} (h : IsBI B b xs w) : b < w.heap.size := by
  rcases h with h | h <;> exact h.lt
theorem u8s_len (xs : List Int) : (u8s xs).length = xs.length := by simp [u8s]
/-- What a write leaves. -/
def WrI (B b : Nat) (zs : List Int) (w w' : World) : Prop := IsBI B b zs w' ∧ Below B w w' ∧ Oth b w w'
theorem c_WSI (B b : Nat) (xs ys : List Int) (w : World) (h : IsBI B b xs w) (hy : Bts ys) (hlen : xs.length + ys.length ≤ 140737488355328) (hB : B ≤ w.heap.size) :
    Calls Tryz.prog 25 #[.pointer (some ⟨b, 0, none⟩), nmT ys] w fun e w' => e = .returned (.tuple #[.int .i64 ((ys.length : Nat) : Int), .nilIface]) ∧ WrI B b (xs ++ ys) w w' :=
  (Any.Builder_WriteString_k laysI166 laysIX B b (u8s xs) (strOfNums ys) w h (by rw [u8s_len, nm_size]; exact hlen) hB).mono fun e w' ⟨h1, h2, h3, h4⟩ => by
    refine ⟨by rw [h1, nm_size], ?_, h3, h4⟩
    rw [strCells_u8, txB_nm hy, show u8s xs ++ u8s ys = u8s (xs ++ ys) from List.map_append.symm] at h2
    exact .inr h2
theorem c_LenI (B b : Nat) (xs : List Int) (w : World) (h : IsBI B b xs w) : Calls Tryz.prog 9 #[.pointer (some ⟨b, 0, none⟩)] w fun e w' => e = .returned (.int .i64 ((xs.length : Nat) : Int)) ∧ w = w' :=
  (Any.Builder_Len_f laysI170 B b (u8s xs) w h).mono fun e w' ⟨h1, h2⟩ => ⟨by rw [h1, u8s_len], h2.symm⟩
theorem byteC_u8 {xs : List Int} (h : Bts xs) : Lib.byteCells (xs.map fun (z : Int) => UInt8.ofNat z.toNat) = u8s xs := by
  unfold Lib.byteCells u8s
  rw [List.map_map]
  refine List.map_congr_left fun z hz => ?_
  have := h z hz
  simp only [Function.comp, UInt8.toNat_ofNat']
  congr 1
  omega
theorem c_StrI (B b : Nat) (xs : List Int) (w : World) (h : IsBI B b xs w) (hx : Bts xs) (hB : B ≤ w.heap.size) : Calls Tryz.prog 10 #[.pointer (some ⟨b, 0, none⟩)] w fun e w' => e = .returned (nmT xs) ∧ Below B w w' :=
  (Any.Builder_String_any_k laysI169 laysIX B b (xs.map fun (z : Int) => UInt8.ofNat z.toNat) w (by rw [byteC_u8 hx]; exact h) hB).mono fun e w' ⟨h1, _, h3, _⟩ => ⟨h1, h3⟩
end Go.Proofs.YtigbbogfnchgnaaGreatDoor
