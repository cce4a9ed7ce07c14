/- Walks: a field's place, a field of a block read and put (param.right, rows, find, Get, Put; quernref02.sized, place, Get, Put). Conditions: as stated. -/
import Derived.Test.YtofcdffcaiajmaaDoorFld
import Derived.Test.YtofcdffcaiajmaaDoorPl
namespace Go.Proofs.YtofcdffcaiajmaaDoor
open Go.RowKit
set_option linter.unusedVariables false

/-- Where a field stands. -/
def fat (k f : Int) : Int := if k = 1 then (if f ≤ 4 then f - 1 else if f = 5 then 4 else if f = 6 then 8 else if f = 7 then 12 else if f = 8 then 16 else 17)
  else (if f ≤ 4 then f - 1 else if f = 5 then 4 else if f = 6 then 8 else if f = 7 then 12 else if f = 8 then 14 else 15)
/-- How many bytes it has. -/
def fsz (k f : Int) : Int := if k = 1 then (if f ≤ 4 then 1 else if f = 5 then 4 else if f = 6 then 8 else if f = 7 then 4 else 1)
  else (if f ≤ 4 then 1 else if f = 5 then 4 else if f = 6 then 6 else if f = 7 then 2 else 1)
/-- The error of a block's length. -/
def szerr (k : Int) (n : Nat) : Int := if k = 1 ∨ k = 2 then (if (n : Int) < kmost k then 3 else if kmost k < (n : Int) then 2 else 0) else 1
theorem f_cases {f : Int} (h1 : 1 ≤ f) (h2 : f ≤ 9) : f = 1 ∨ f = 2 ∨ f = 3 ∨ f = 4 ∨ f = 5 ∨ f = 6 ∨ f = 7 ∨ f = 8 ∨ f = 9 := by omega
theorem fsz_bd (k f : Int) : 1 ≤ fsz k f ∧ fsz k f ≤ 8 := by unfold fsz; grind
theorem fat_bd {k f : Int} (hk : k = 1 ∨ k = 2) (h1 : 1 ≤ f) (h2 : f ≤ 9) : 0 ≤ fat k f ∧ fat k f + fsz k f ≤ kmost k := by unfold fat fsz kmost; grind
theorem c_right (k : Int) (A : Option Addr) (n c : Nat) (w : World) (hn : n ≤ 140737488355328) :
    Calls Tryd.prog 18 #[.int .i64 k, .slice A n c] w fun e w' => e = .returned (.int .i64 (szerr k n)) ∧ w = w' := by
  obtain ⟨C, hC⟩ : ∃ C, szerr k n = C := ⟨_, rfl⟩
  rw [hC]
  have Hc := Lib.hid hC
  clear hC
  go_enter Tryd.func18, Tryd.ntmps18
  go_wp2
  all_goals (go_ret; refine ⟨?_, rfl⟩; refine ret_int ?_; rw [← Hc.out]; unfold szerr kmost; clear Hc; grind)
theorem ret2i {k l : IntKind} {a b c d : Int} (h : a = b) (h2 : c = d) : Ending.returned (.tuple #[.int k a, .int l c]) = .returned (.tuple #[.int k b, .int l d]) := by rw [h, h2]
/-- A row of the fields' table. -/
def rowv (k f : Int) : Value := .agg #[.int .i64 f, .int .i64 (fat k f), .int .i64 (fsz k f), .string (if f = 1 then ⟨#[100, 105, 103, 101, 115, 116]⟩ else if f = 2 then ⟨#[107, 101, 121]⟩ else if f = 3 then ⟨#[102, 97, 110, 111, 117, 116]⟩ else if f = 4 then ⟨#[100, 101, 112, 116, 104]⟩ else if f = 5 then ⟨#[108, 101, 97, 102]⟩ else if f = 6 then ⟨#[111, 102, 102, 115, 101, 116]⟩ else if f = 7 then ⟨#[120, 111, 102]⟩ else if f = 8 then ⟨#[110, 111, 100, 101]⟩ else ⟨#[105, 110, 110, 101, 114]⟩),
  .int .i64 (if f = 1 then 20 else if f = 2 then 8 else if f = 3 then 21 else if f = 4 then 22 else if f = 5 then 1 else if f = 6 then 23 else if f = 7 then 24 else if f = 8 then 25 else 26)]
/-- The table's cells. -/
def rowsArr (k : Int) : Array Value := if k = 1 then #[.int .i64 1, .int .i64 0, .int .i64 1, .string ⟨#[100, 105, 103, 101, 115, 116]⟩, .int .i64 20, .int .i64 2, .int .i64 1, .int .i64 1, .string ⟨#[107, 101, 121]⟩, .int .i64 8, .int .i64 3, .int .i64 2, .int .i64 1, .string ⟨#[102, 97, 110, 111, 117, 116]⟩, .int .i64 21, .int .i64 4, .int .i64 3, .int .i64 1, .string ⟨#[100, 101, 112, 116, 104]⟩, .int .i64 22, .int .i64 5, .int .i64 4, .int .i64 4, .string ⟨#[108, 101, 97, 102]⟩, .int .i64 1, .int .i64 6, .int .i64 8, .int .i64 8, .string ⟨#[111, 102, 102, 115, 101, 116]⟩, .int .i64 23, .int .i64 7, .int .i64 12, .int .i64 4, .string ⟨#[120, 111, 102]⟩, .int .i64 24, .int .i64 8, .int .i64 16, .int .i64 1, .string ⟨#[110, 111, 100, 101]⟩, .int .i64 25, .int .i64 9, .int .i64 17, .int .i64 1, .string ⟨#[105, 110, 110, 101, 114]⟩, .int .i64 26]
  else #[.int .i64 1, .int .i64 0, .int .i64 1, .string ⟨#[100, 105, 103, 101, 115, 116]⟩, .int .i64 20, .int .i64 2, .int .i64 1, .int .i64 1, .string ⟨#[107, 101, 121]⟩, .int .i64 8, .int .i64 3, .int .i64 2, .int .i64 1, .string ⟨#[102, 97, 110, 111, 117, 116]⟩, .int .i64 21, .int .i64 4, .int .i64 3, .int .i64 1, .string ⟨#[100, 101, 112, 116, 104]⟩, .int .i64 22, .int .i64 5, .int .i64 4, .int .i64 4, .string ⟨#[108, 101, 97, 102]⟩, .int .i64 1, .int .i64 6, .int .i64 8, .int .i64 6, .string ⟨#[111, 102, 102, 115, 101, 116]⟩, .int .i64 23, .int .i64 7, .int .i64 12, .int .i64 2, .string ⟨#[120, 111, 102]⟩, .int .i64 24, .int .i64 8, .int .i64 14, .int .i64 1, .string ⟨#[110, 111, 100, 101]⟩, .int .i64 25, .int .i64 9, .int .i64 15, .int .i64 1, .string ⟨#[105, 110, 110, 101, 114]⟩, .int .i64 26]
set_option maxRecDepth 100000 in
set_option maxHeartbeats 1000000 in
theorem c_rows (k : Int) (hk : k = 1 ∨ k = 2) (w : World) : Calls Tryd.prog 15 #[.int .i64 k] w fun e w' => e = .returned (.slice (some ⟨w.heap.size, 0, none⟩) 9 9) ∧ Blk w' w.heap.size 50 (rowsArr k) ∧ Below w.heap.size w w' := by
  rcases hk with rfl | rfl
  · have HV : Hid (rowsArr 1 = #[.int .i64 1, .int .i64 0, .int .i64 1, .string ⟨#[100, 105, 103, 101, 115, 116]⟩, .int .i64 20, .int .i64 2, .int .i64 1, .int .i64 1, .string ⟨#[107, 101, 121]⟩, .int .i64 8, .int .i64 3, .int .i64 2, .int .i64 1, .string ⟨#[102, 97, 110, 111, 117, 116]⟩, .int .i64 21, .int .i64 4, .int .i64 3, .int .i64 1, .string ⟨#[100, 101, 112, 116, 104]⟩, .int .i64 22, .int .i64 5, .int .i64 4, .int .i64 4, .string ⟨#[108, 101, 97, 102]⟩, .int .i64 1, .int .i64 6, .int .i64 8, .int .i64 8, .string ⟨#[111, 102, 102, 115, 101, 116]⟩, .int .i64 23, .int .i64 7, .int .i64 12, .int .i64 4, .string ⟨#[120, 111, 102]⟩, .int .i64 24, .int .i64 8, .int .i64 16, .int .i64 1, .string ⟨#[110, 111, 100, 101]⟩, .int .i64 25, .int .i64 9, .int .i64 17, .int .i64 1, .string ⟨#[105, 110, 110, 101, 114]⟩, .int .i64 26]) := if_pos rfl
    go_enter Tryd.func15, Tryd.ntmps15
    go_wp2
    go_ret
    exact ⟨rfl, by rw [HV.out]; exact Blk.new _ _ _, (Below.refl _ _).alloc (Nat.le_refl _) _⟩
  · have HV : Hid (rowsArr 2 = #[.int .i64 1, .int .i64 0, .int .i64 1, .string ⟨#[100, 105, 103, 101, 115, 116]⟩, .int .i64 20, .int .i64 2, .int .i64 1, .int .i64 1, .string ⟨#[107, 101, 121]⟩, .int .i64 8, .int .i64 3, .int .i64 2, .int .i64 1, .string ⟨#[102, 97, 110, 111, 117, 116]⟩, .int .i64 21, .int .i64 4, .int .i64 3, .int .i64 1, .string ⟨#[100, 101, 112, 116, 104]⟩, .int .i64 22, .int .i64 5, .int .i64 4, .int .i64 4, .string ⟨#[108, 101, 97, 102]⟩, .int .i64 1, .int .i64 6, .int .i64 8, .int .i64 6, .string ⟨#[111, 102, 102, 115, 101, 116]⟩, .int .i64 23, .int .i64 7, .int .i64 12, .int .i64 2, .string ⟨#[120, 111, 102]⟩, .int .i64 24, .int .i64 8, .int .i64 14, .int .i64 1, .string ⟨#[110, 111, 100, 101]⟩, .int .i64 25, .int .i64 9, .int .i64 15, .int .i64 1, .string ⟨#[105, 110, 110, 101, 114]⟩, .int .i64 26]) := if_neg (by decide)
    go_enter Tryd.func15, Tryd.ntmps15
    go_wp2
    go_ret
    exact ⟨rfl, by rw [HV.out]; exact Blk.new _ _ _, (Below.refl _ _).alloc (Nat.le_refl _) _⟩
def fatN (k : Int) (i : Nat) : Nat := (fat k (i + 1)).toNat
def fszN (k : Int) (i : Nat) : Nat := (fsz k (i + 1)).toNat
theorem fatN_eq {k : Int} {i : Nat} (hk : k = 1 ∨ k = 2) (hi : i < 9) : fat k ((i : Int) + 1) = (fatN k i : Nat) := by
  have := (fat_bd hk (f := (i : Int) + 1) (by omega) (by omega)).1
  unfold fatN; omega
theorem fszN_eq (k : Int) (i : Nat) : fsz k ((i : Int) + 1) = (fszN k i : Nat) := by
  have := fsz_bd k ((i : Int) + 1)
  unfold fszN; omega
theorem fszN_bd (k : Int) (i : Nat) : 1 ≤ fszN k i ∧ fszN k i ≤ 8 := by
  have := fsz_bd k ((i : Int) + 1)
  unfold fszN; omega
theorem fatN_bd {k : Int} {i n : Nat} (hk : k = 1 ∨ k = 2) (hi : i < 9) (hz : szerr k n = 0) : fatN k i + fszN k i ≤ n := by
  have h1 := (fat_bd hk (f := (i : Int) + 1) (by omega) (by omega)).2
  rw [fatN_eq hk hi, fszN_eq] at h1
  unfold szerr at hz
  rw [if_pos hk] at hz
  split at hz
  · cases hz
  · split at hz
    · cases hz
    · omega
/-- New bytes. -/
def OwnB (w w' : World) (v : Value) (zs : List Int) : Prop := w'.ownsRow w.heap.size 5 1 v zs.length (u8s zs)
def rname (f : Int) : ByteArray := if f = 1 then ⟨#[100, 105, 103, 101, 115, 116]⟩ else if f = 2 then ⟨#[107, 101, 121]⟩ else if f = 3 then ⟨#[102, 97, 110, 111, 117, 116]⟩ else if f = 4 then ⟨#[100, 101, 112, 116, 104]⟩ else if f = 5 then ⟨#[108, 101, 97, 102]⟩ else if f = 6 then ⟨#[111, 102, 102, 115, 101, 116]⟩ else if f = 7 then ⟨#[120, 111, 102]⟩ else if f = 8 then ⟨#[110, 111, 100, 101]⟩ else ⟨#[105, 110, 110, 101, 114]⟩
def rwhy (f : Int) : Int := if f = 1 then 20 else if f = 2 then 8 else if f = 3 then 21 else if f = 4 then 22 else if f = 5 then 1 else if f = 6 then 23 else if f = 7 then 24 else if f = 8 then 25 else 26
theorem row_at (k : Int) (hk : k = 1 ∨ k = 2) (i : Nat) (hi : i < 9) : (rowsArr k)[i * 5]? = some (.int .i64 ((i : Int) + 1)) ∧ (rowsArr k)[i * 5 + 1]? = some (.int .i64 (fatN k i : Nat)) ∧ (rowsArr k)[i * 5 + 2]? = some (.int .i64 (fszN k i : Nat)) ∧ (rowsArr k)[i * 5 + 3]? = some (.string (rname (i + 1))) ∧ (rowsArr k)[i * 5 + 4]? = some (.int .i64 (rwhy (i + 1))) := by
  have : i = 0 ∨ i = 1 ∨ i = 2 ∨ i = 3 ∨ i = 4 ∨ i = 5 ∨ i = 6 ∨ i = 7 ∨ i = 8 := by omega
  rcases hk with rfl | rfl <;> rcases this with rfl | rfl | rfl | rfl | rfl | rfl | rfl | rfl | rfl <;> exact ⟨rfl, rfl, rfl, rfl, rfl⟩
end Go.Proofs.YtofcdffcaiajmaaDoor
