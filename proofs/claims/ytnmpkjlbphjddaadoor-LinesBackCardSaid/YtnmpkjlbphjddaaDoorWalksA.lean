/-
  The walks over the small functions: the classes of a rune, numbers within bounds.
-/
import Derived.Test.YtnmpkjlbphjddaaDoorRows
import Derived.Test.YtnmpkjlbphjddaaDoorPlain
import Derived.WalkKit
import Derived.WalkSpells
namespace Go.Proofs.YtnmpkjlbphjddaaDoor
open Go.RowKit

theorem ret_int {k : IntKind} {a b : Int} (h : a = b) : Ending.returned (.int k a) = .returned (.int k b) := by rw [h]
theorem ret_bool {a b : Bool} (h : a = b) : Ending.returned (.bool a) = .returned (.bool b) := by rw [h]

theorem cls_split (r : Int) : r ≤ 8 ∨ (9 ≤ r ∧ r ≤ 9) ∨ (10 ≤ r ∧ r ≤ 31) ∨ (32 ≤ r ∧ r ≤ 32) ∨ (33 ≤ r ∧ r ≤ 47) ∨ (48 ≤ r ∧ r ≤ 57) ∨ (58 ≤ r ∧ r ≤ 64) ∨ (65 ≤ r ∧ r ≤ 90) ∨
    (91 ≤ r ∧ r ≤ 94) ∨ (95 ≤ r ∧ r ≤ 95) ∨ (96 ≤ r ∧ r ≤ 96) ∨ (97 ≤ r ∧ r ≤ 122) ∨ (123 ≤ r ∧ r ≤ 127) ∨ 128 ≤ r := by omega

set_option maxHeartbeats 1000000 in
theorem made_any (r : Int) (w : World) (h1 : r < 128) :
    Calls Tryd.prog 40 #[.int .i64 r] w fun e w' => e = .returned (.int .i64 (Pl.cls r)) ∧ w = w' := by
  rcases cls_split r with h | ⟨h, g⟩ | ⟨h, g⟩ | ⟨h, g⟩ | ⟨h, g⟩ | ⟨h, g⟩ | ⟨h, g⟩ | ⟨h, g⟩ | ⟨h, g⟩ | ⟨h, g⟩ | ⟨h, g⟩ | ⟨h, g⟩ | ⟨h, g⟩ | h
  all_goals try (exfalso; omega)
  all_goals
    (first | have e1 : (r == 32) = true := beq_iff_eq.mpr (by omega) | have e1 : (r == 32) = false := beq_eq_false_iff_ne.mpr (by omega))
    (first | have e2 : (r == 9) = true := beq_iff_eq.mpr (by omega) | have e2 : (r == 9) = false := beq_eq_false_iff_ne.mpr (by omega))
    (first | have e3 : (r == 95) = true := beq_iff_eq.mpr (by omega) | have e3 : (r == 95) = false := beq_eq_false_iff_ne.mpr (by omega))
    (first | have d1 := decide_eq_true (show 97 ≤ r by omega) | have d1 := decide_eq_false (show ¬ 97 ≤ r by omega))
    (first | have d2 := decide_eq_true (show r ≤ 122 by omega) | have d2 := decide_eq_false (show ¬ r ≤ 122 by omega))
    (first | have d3 := decide_eq_true (show 65 ≤ r by omega) | have d3 := decide_eq_false (show ¬ 65 ≤ r by omega))
    (first | have d4 := decide_eq_true (show r ≤ 90 by omega) | have d4 := decide_eq_false (show ¬ r ≤ 90 by omega))
    (first | have d5 := decide_eq_true (show 48 ≤ r by omega) | have d5 := decide_eq_false (show ¬ 48 ≤ r by omega))
    (first | have d6 := decide_eq_true (show r ≤ 57 by omega) | have d6 := decide_eq_false (show ¬ r ≤ 57 by omega))
    go_enter Tryd.func40, Tryd.ntmps40
    go_wp2
    go_ret
    (first | exact ⟨ret_int (Pl.cls_0 _ (by omega)), rfl⟩ | exact ⟨ret_int (Pl.cls_1 _ (by omega)), rfl⟩ | exact ⟨ret_int (Pl.cls_2 _ (by omega) (by omega)), rfl⟩)

set_option maxHeartbeats 1000000 in
theorem class_any (r : Int) (w : World) :
    Calls Tryd.prog 22 #[.int .i64 r] w fun e w' => e = .returned (.int .i64 (Pl.cls r)) ∧ w = w' := by
  by_cases hn : r < 0
  · go_enter Tryd.func22, Tryd.ntmps22
    go_wp2
    go_ret
    (first | exact ⟨ret_int (Pl.cls_0 _ (by omega)), rfl⟩ | exact ⟨ret_int (Pl.cls_1 _ (by omega)), rfl⟩ | exact ⟨ret_int (Pl.cls_2 _ (by omega) (by omega)), rfl⟩)
  · by_cases hp : 128 ≤ r
    · go_enter Tryd.func22, Tryd.ntmps22
      go_wp2
      go_ret
      (first | exact ⟨ret_int (Pl.cls_0 _ (by omega)), rfl⟩ | exact ⟨ret_int (Pl.cls_1 _ (by omega)), rfl⟩ | exact ⟨ret_int (Pl.cls_2 _ (by omega) (by omega)), rfl⟩)
    · go_enter Tryd.func22, Tryd.ntmps22
      go_wp2_with (go_at_call 40; refine (made_any _ _ (by omega)).mono ?_; rintro e w' ⟨rfl, rfl⟩)
      go_ret
      exact ⟨rfl, rfl⟩

set_option maxHeartbeats 2000000 in
theorem refclass_any (r : Int) (w : World) :
    Calls Tryd.prog 23 #[.int .i64 r] w fun e w' => e = .returned (.int .i64 (Pl.cls r)) ∧ w = w' := by
  rcases cls_split r with h | ⟨h, g⟩ | ⟨h, g⟩ | ⟨h, g⟩ | ⟨h, g⟩ | ⟨h, g⟩ | ⟨h, g⟩ | ⟨h, g⟩ | ⟨h, g⟩ | ⟨h, g⟩ | ⟨h, g⟩ | ⟨h, g⟩ | ⟨h, g⟩ | h
  all_goals
    (first | have e1 : (r == 32) = true := beq_iff_eq.mpr (by omega) | have e1 : (r == 32) = false := beq_eq_false_iff_ne.mpr (by omega))
    (first | have e2 : (r == 9) = true := beq_iff_eq.mpr (by omega) | have e2 : (r == 9) = false := beq_eq_false_iff_ne.mpr (by omega))
    (first | have e3 : (r == 95) = true := beq_iff_eq.mpr (by omega) | have e3 : (r == 95) = false := beq_eq_false_iff_ne.mpr (by omega))
    (first | have d1 := decide_eq_true (show 97 ≤ r by omega) | have d1 := decide_eq_false (show ¬ 97 ≤ r by omega))
    (first | have d2 := decide_eq_true (show r ≤ 122 by omega) | have d2 := decide_eq_false (show ¬ r ≤ 122 by omega))
    (first | have d3 := decide_eq_true (show 65 ≤ r by omega) | have d3 := decide_eq_false (show ¬ 65 ≤ r by omega))
    (first | have d4 := decide_eq_true (show r ≤ 90 by omega) | have d4 := decide_eq_false (show ¬ r ≤ 90 by omega))
    (first | have d5 := decide_eq_true (show 48 ≤ r by omega) | have d5 := decide_eq_false (show ¬ 48 ≤ r by omega))
    (first | have d6 := decide_eq_true (show r ≤ 57 by omega) | have d6 := decide_eq_false (show ¬ r ≤ 57 by omega))
    (first | have d7 := decide_eq_true (show 128 ≤ r by omega) | have d7 := decide_eq_false (show ¬ 128 ≤ r by omega))
    go_enter Tryd.func23, Tryd.ntmps23
    go_wp2
    go_ret
    (first | exact ⟨ret_int (Pl.cls_0 _ (by omega)), rfl⟩ | exact ⟨ret_int (Pl.cls_1 _ (by omega)), rfl⟩ | exact ⟨ret_int (Pl.cls_2 _ (by omega) (by omega)), rfl⟩)

theorem num1_any (r : Int) (w : World) :
    Calls Tryd.prog 28 #[.int .i64 r] w fun e w' => e = .returned (.int .i64 r) ∧ w = w' := by
  go_enter Tryd.func28, Tryd.ntmps28
  go_wp2
  go_ret
  exact ⟨rfl, rfl⟩

theorem num12_any (r : Int) (w : World) :
    Calls Tryd.prog 34 #[.int .i64 r] w fun e w' => e = .returned (.int .i64 r) ∧ w = w' := by
  go_enter Tryd.func34, Tryd.ntmps34
  go_wp2
  go_ret
  exact ⟨rfl, rfl⟩

/-- From 0 to another one? -/
def numB (n most : Int) : Bool := decide (0 ≤ n ∧ n ≤ most)

theorem Num_any (n m : Int) (w : World) :
    Calls Tryd.prog 26 #[.int .i64 n, .int .i64 m] w fun e w' => e = .returned (.bool (numB n m)) ∧ w = w' := by
  by_cases h0 : 0 ≤ n
  · by_cases h1 : n ≤ m
    · go_enter Tryd.func26, Tryd.ntmps26
      go_wp2
      go_ret
      exact ⟨ret_bool (by unfold numB; simp [h0, h1]), rfl⟩
    · have h1' : m < n := by omega
      go_enter Tryd.func26, Tryd.ntmps26
      go_wp2
      go_ret
      exact ⟨ret_bool (by unfold numB; simp; omega), rfl⟩
  · have h0' : n < 0 := by omega
    go_enter Tryd.func26, Tryd.ntmps26
    go_wp2
    go_ret
    exact ⟨ret_bool (by unfold numB; simp; omega), rfl⟩

end Go.Proofs.YtnmpkjlbphjddaaDoor
