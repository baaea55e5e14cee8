/-
  The argument of the statements, opened: lists of keys, two numbers, a bool.
-/
import Derived.Test.YtogmhnpakjdpmaaWakes
import Derived.ProofKit
import Derived.Lib.SmallJoins
import Derived.ChangeSlices
import Derived.SizedLaws
import Derived.OpenShut
namespace Go.Proofs.Ytogmhnpakjdpmaa
open Go.ChangeShapes Go.WideShapes Go.ChangeAt Go.RowKit Go.Joins Go.Shelf

theorem Try.cells24 : Try.prog.cellsOf 24 = 4 := by kernel_rfl
theorem Try.cells22 : Try.prog.cellsOf 22 = 1 := by kernel_rfl
theorem Try.cells26 : Try.prog.cellsOf 26 = 1 := by kernel_rfl
theorem Try.cells3 : Try.prog.cellsOf 3 = 1 := by kernel_rfl
theorem Try.cells4 : Try.prog.cellsOf 4 = 1 := by kernel_rfl

theorem int_cell {H : Type} {enc : TypeId × Value → H} {W : World} {sp : Nat → Bool} {fuel : Nat} {v : Value} {x : DataW H × List MemPlace}
    (h : DataW.trod enc Try.prog W 0 sp true fuel 3 [v] = some x) : ∃ n : Int, v = .int .i64 n ∧ -9223372036854775808 ≤ n ∧ n ≤ 9223372036854775807 := by
  obtain ⟨n, hn, _, hw⟩ := DataW.trod_int Try.underlying3 h
  refine ⟨n, by simpa using hn, ?_⟩
  simp only [Lit.wf, Bool.and_eq_true, decide_eq_true_eq] at hw
  have e1 : IntKind.i64.min = -9223372036854775808 := rfl
  have e2 : IntKind.i64.max = 9223372036854775807 := rfl
  rw [e1, e2] at hw
  exact hw

theorem list4 {l : List Value} (h : l.length = 4) : ∃ c0 c1 c2 c3, l = [c0, c1, c2, c3] := by
  match l, h with
  | [c0, c1, c2, c3], _ => exact ⟨c0, c1, c2, c3, rfl⟩

theorem bool_cell {H : Type} {enc : TypeId × Value → H} {W : World} {sp : Nat → Bool} {fuel : Nat} {v : Value} {x : DataW H × List MemPlace}
    (h : DataW.trod enc Try.prog W 0 sp true fuel 4 [v] = some x) : ∃ b : Bool, v = .bool b := by
  cases fuel with
  | zero => simp [DataW.trod] at h
  | succ n =>
    cases v <;> simp [DataW.trod, Try.underlying4] at h
    exact ⟨_, rfl⟩

theorem open_shape {H : Type} {enc : TypeId × Value → H} {W : World} {sp : Nat → Bool} {fuel : Nat} {cs : List Value} {x : DataW H × List MemPlace}
    (h : DataW.trod enc Try.prog W 0 sp true fuel 24 cs = some x) :
    ∃ (a : Option Addr) (n c : Nat) (x1 x2 : Int) (b : Bool), cs = [.slice a n c, .int .i64 x1, .int .i64 x2, .bool b] := by
  obtain ⟨y0, y1, y2, y3, n, rfl, hl, h0, h1, h2, h3⟩ := trod_struct4 Try.underlying24 h
  rw [Try.cells24] at hl
  obtain ⟨c0, c1, c2, c3, rfl⟩ := list4 hl
  simp only [Try.cells22, Try.cells3, Try.cells4, List.drop_zero, List.drop_succ_cons, List.take_succ_cons, List.take_zero] at h0 h1 h2 h3
  obtain ⟨x1, rfl, _⟩ := int_cell h1
  obtain ⟨x2, rfl, _⟩ := int_cell h2
  obtain ⟨b, rfl⟩ := bool_cell h3
  rcases DataW.trod_slice Try.underlying22 h0 with ⟨e, _⟩ | ⟨a, len, cap, elems, rest, n, _, e, _⟩
  · obtain rfl : c0 = .slice none 0 0 := by simpa using e
    exact ⟨none, 0, 0, x1, x2, b, rfl⟩
  · obtain rfl : c0 = .slice (some a) len cap := by simpa using e
    exact ⟨some a, len, cap, x1, x2, b, rfl⟩

end Go.Proofs.Ytogmhnpakjdpmaa
