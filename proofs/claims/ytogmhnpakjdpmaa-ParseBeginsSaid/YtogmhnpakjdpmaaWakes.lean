/-
  The walk over the package's own example of six words; the keys of the statement on counts, by the kernel.
-/
import Derived.Test.YtogmhnpakjdpmaaOf
namespace Go.Proofs.Ytogmhnpakjdpmaa
open Go.RowKit

theorem num_any (r : Int) (w : World) : Calls Try.prog 7 #[.int .i64 r] w fun e w' => e = .returned (.int .i64 r) ∧ w = w' := by
  go_enter Try.func7, Try.ntmps7
  go_wp2
  go_ret
  exact ⟨rfl, rfl⟩

theorem new_blk (w : World) (cs : Array Value) (T : TypeId) : (w.alloc (.cells cs T)).heap[w.heap.size]? = some (.cells cs T (0, 0)) := by
  show (w.heap.push _)[w.heap.size]? = _
  rw [Array.getElem?_push, if_pos rfl]
/-- Keys in a block. -/
theorem ns_blk {w : World} {b : Nat} {T : TypeId} (l : List Int) {C : Array Value} (hC : C = (l.map fun n : Int => Value.int .i64 n).toArray) (h : w.heap[b]? = some (.cells C T (0, 0))) : Ns w (some ⟨b, 0, none⟩) l := fun i hi => by
  refine ⟨b, 0, rfl, ?_⟩
  subst hC
  rw [Nat.zero_add]
  refine blk_cell h i ?_
  simp only [List.getElem?_toArray, List.getElem?_map]
  rw [List.getElem?_eq_getElem hi]
  unfold rd
  rw [List.getD_eq_getElem?_getD, List.getElem?_eq_getElem hi]
  rfl

/-- The parser's contract, its answer told. -/
theorem of_told (a : Option Addr) (l : List Int) (c : Nat) (most : Int) (rec : Bool) (w : World) (h : Ns w a l) (hmost : 1 ≤ most ∧ most ≤ 999) (hl : l.length ≤ 1000000000000000) {x0 x1 x2 x3 x4 x5 er : Int} {m : Bool} (hR : ofR l most rec = (⟨x0, x1, x2, x3, x4, x5⟩, m, er)) :
    Calls Try.prog 6 #[.slice a l.length c, .int .i64 1, .int .i64 most, .bool rec] w fun e w' => e = .returned (.tuple #[.agg #[.int .i64 x0, .int .i64 x1, .int .i64 x2, .int .i64 x3, .int .i64 x4, .int .i64 x5], .bool m, .int .i64 er]) ∧ Below w.heap.size w w' := by
  have := of_any a l c most rec w h hmost hl
  rw [hR] at this
  exact this

theorem ex_of : ofR [50, 100, 51, 119] 99 false = (⟨0, 6, 100, 119, 0, 0⟩, false, 0) := by kernel_rfl

def keysL : Nat → List Int
  | 0 => [49, 50, 119]
  | 1 => [57, 57, 57]
  | 2 => [48]
  | 3 => [49, 48, 106]
  | 4 => [50, 100, 51, 48, 108]
  | 5 => [57, 100, 57, 100]
  | 6 => [100, 57, 57]
  | 7 => [57, 100, 27]
  | 8 => [51, 34, 97]
  | 9 => [34, 97, 51, 120]
  | _ => [103, 85, 50, 85]
def wantsL : List Int := [0, 2, 0, 0, 2, 2, 2, 0, 5, 0, 0]
def cntsL : List Int := [12, 0, 0, 10, 0, 0, 0, 0, 0, 3, 2]
theorem counts_ok : ((List.range 11).all fun i => (ofR (keysL i) 50 false).2.2 == rd wantsL i && ((ofR (keysL i) 50 false).2.1 == false && (ofR (keysL i) 50 false).1.cnt == rd cntsL i)) = true := by kernel_rfl
theorem counts_at (i : Nat) (h : i < 11) : (ofR (keysL i) 50 false).2.2 = rd wantsL i ∧ (ofR (keysL i) 50 false).2.1 = false ∧ (ofR (keysL i) 50 false).1.cnt = rd cntsL i := by
  have := List.all_eq_true.1 counts_ok i (List.mem_range.2 h)
  simp only [Bool.and_eq_true, beq_iff_eq] at this
  exact this

set_option maxHeartbeats 1000000 in
theorem wakes_any (w : World) : Calls Try.prog 9 #[] w fun e w' => e = .returned (.bool true) ∧ Below w.heap.size w w' := by
  have h0 : Below w.heap.size w (w.alloc (.cells #[.int .i64 50, .int .i64 100, .int .i64 51, .int .i64 119] 3)) := (Below.refl _ _).alloc (Nat.le_refl _) _
  have cO := of_told (some ⟨w.heap.size, 0, none⟩) [50, 100, 51, 119] 4 99 false (w.alloc (.cells #[.int .i64 50, .int .i64 100, .int .i64 51, .int .i64 119] 3)) (ns_blk _ rfl (new_blk _ _ _)) (by omega) (by simp) ex_of
  have HB := Lib.hid h0
  clear h0
  go_enter Try.func9, Try.ntmps9
  go_wp2_with (first
    | (go_at_call 6; refine cO.mono ?_; rintro e w1 ⟨rfl, hb1⟩)
    | (go_at_call 7; refine (num_any _ _).mono ?_; rintro e w2 ⟨rfl, rfl⟩))
  go_ret
  exact ⟨rfl, (HB.out.trans (hb1.mono HB.out.size)).alloc (by have := HB.out.size; have := hb1.size; omega) _⟩

end Go.Proofs.Ytogmhnpakjdpmaa
