/-
  The reference's motion by rows at every key, one contract; and the stage's own example.
-/
import Derived.Test.YtnmpkjlbphjddaaDoorRefGo
import Derived.Test.YtnmpkjlbphjddaaDoorPlace
namespace Go.Proofs.YtnmpkjlbphjddaaDoor
open Go.RowKit

theorem refMove_any (b : Nat) (t : List Int) (C a c : Nat) (key : Int) (w : World) (hr : Rn w b t) (ha : a ≤ t.length) (hl : t.length ≤ 1000000) (hc : c ≤ 999) (hb32 : ∀ i, -2147483648 ≤ Pl.rd t i ∧ Pl.rd t i ≤ 2147483647) (hk : lineB key = true) :
    Calls Tryd.prog 51 #[.slice (some ⟨b, 0, none⟩) t.length C, .int .i64 a, .int .i64 key, .int .i64 c] w (MovePost w (mvR t a c key)) := by
  have hrp : 0 < Pl.rows t := by rw [Pl.rows_eq]; omega
  have hrl := rows_le t
  have D : ∀ y : Int, ((key = 106 ∧ y = (max 1 c : Nat)) ∨ (key = 43 ∧ y = (max 1 c : Nat)) ∨ (key = 107 ∧ y = -((max 1 c : Nat) : Int)) ∨ (key = 45 ∧ y = -((max 1 c : Nat) : Int)) ∨ (key = 36 ∧ y = ((max 1 c : Nat) : Int) - 1) ∨ (key = 95 ∧ y = ((max 1 c : Nat) : Int) - 1)) → Calls Tryd.prog 51 #[.slice (some ⟨b, 0, none⟩) t.length C, .int .i64 a, .int .i64 key, .int .i64 c] w (MovePost w (downR t (Pl.rowN t a) (a - Pl.bgn t a) key y)) := fun y hky => by
    by_cases hin : 0 ≤ (Pl.rowN t a : Int) + y ∧ (Pl.rowN t a : Int) + y < Pl.rows t
    · obtain ⟨i, hi⟩ : ∃ i : Nat, (Pl.rowN t a : Int) + y = i := ⟨((Pl.rowN t a : Int) + y).toNat, by omega⟩
      exact refMove_yes b t C a c key y i w hr ha hl hc hb32 hky hi (by omega)
    · have e : downR t (Pl.rowN t a) (a - Pl.bgn t a) key y = (0, 0, 6) := by unfold downR; rw [if_neg hin]
      rw [e]
      exact refMove_no b t C a c key y w hr ha hl hc hky hin
  have I := fun hky => refMove_in b t C a c key w hr ha hl hc hb32 hky
  have G := fun row w0 hky hrow => refMove_to b t C a c key row w0 w hr ha hl hc hb32 hky hrow
  rcases key_cases key hk with rfl | rfl | rfl | rfl | rfl | rfl | rfl | rfl | rfl | rfl | rfl | rfl
  · exact I (by omega)
  · exact I (by omega)
  · exact I (by omega)
  · exact I (by omega)
  · exact D _ (by omega)
  · exact D _ (by omega)
  · exact D _ (by omega)
  · exact D _ (by omega)
  · exact D _ (by omega)
  · exact D _ (by omega)
  · by_cases hc0 : c = 0
    · have e : toRow t (max 1 c) (Pl.rows t - 1) (decide (0 < c)) = Pl.rows t - 1 := by subst hc0; rfl
      show Calls _ _ _ _ (MovePost w (((Pl.firN t (Pl.nd (Pl.begins t) (toRow t (max 1 c) (Pl.rows t - 1) (decide (0 < c)))) : Nat) : Int), 2, 0))
      rw [e]
      exact G _ t.length (.inl ⟨rfl, hc0, rfl⟩) (by omega)
    · have e : toRow t (max 1 c) (Pl.rows t - 1) (decide (0 < c)) = min (c - 1) (Pl.rows t - 1) := by
        unfold toRow; rw [if_pos (by simp; omega)]; omega
      show Calls _ _ _ _ (MovePost w (((Pl.firN t (Pl.nd (Pl.begins t) (toRow t (max 1 c) (Pl.rows t - 1) (decide (0 < c)))) : Nat) : Int), 2, 0))
      rw [e]
      exact G _ (c - 1) (.inr (.inr (.inl ⟨rfl, by omega, rfl⟩))) rfl
  · by_cases hc0 : c = 0
    · have e : toRow t (max 1 c) 0 (decide (0 < c)) = 0 := by subst hc0; rfl
      show Calls _ _ _ _ (MovePost w (((Pl.firN t (Pl.nd (Pl.begins t) (toRow t (max 1 c) 0 (decide (0 < c)))) : Nat) : Int), 2, 0))
      rw [e]
      exact G _ 0 (.inr (.inl ⟨rfl, hc0, rfl⟩)) (by omega)
    · have e : toRow t (max 1 c) 0 (decide (0 < c)) = min (c - 1) (Pl.rows t - 1) := by
        unfold toRow; rw [if_pos (by simp; omega)]; omega
      show Calls _ _ _ _ (MovePost w (((Pl.firN t (Pl.nd (Pl.begins t) (toRow t (max 1 c) 0 (decide (0 < c)))) : Nat) : Int), 2, 0))
      rw [e]
      exact G _ (c - 1) (.inr (.inr (.inr ⟨rfl, by omega, rfl⟩))) rfl

theorem ex_move : moveR ⟨#[97, 98, 10, 99]⟩ 1 106 0 = (4, 2, 0) := by
  unfold moveR
  rw [if_pos ⟨ex_may, by rw [ex_rn]; rfl, rfl, rfl⟩, ex_rn]
  kernel_rfl

set_option maxHeartbeats 400000 in
theorem wakes12_any (w : World) (hT : Tabs w) :
    Calls Tryd.prog 35 #[] w fun e w' => e = .returned (.bool true) ∧ Below w.heap.size w w' := by
  have cM := move_any ⟨#[97, 98, 10, 99]⟩ 1 106 0 w (by decide) hT
  rw [ex_move] at cM
  go_enter Tryd.func35, Tryd.ntmps35
  go_wp2_with (first
    | (go_at_call 33; refine cM.mono ?_; rintro e w1 ⟨rfl, hb⟩)
    | (go_at_call 34; refine (num12_any _ _).mono ?_; rintro e w2 ⟨rfl, rfl⟩))
  go_ret
  exact ⟨rfl, hb.alloc hb.size _⟩

end Go.Proofs.YtnmpkjlbphjddaaDoor
