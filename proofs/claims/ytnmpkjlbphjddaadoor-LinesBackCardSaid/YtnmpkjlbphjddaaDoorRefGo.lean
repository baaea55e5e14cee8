/-
  The walk over the reference's motions to a row by its number; and the reference's motion at every key, one contract.
-/
import Derived.Test.YtnmpkjlbphjddaaDoorRefDown
import Derived.Test.YtnmpkjlbphjddaaDoorMoveAll
namespace Go.Proofs.YtnmpkjlbphjddaaDoor
open Go.RowKit

theorem rowI_one {t : List Int} {j : Nat} (hj : j < Pl.rows t) : Pl.rowI t (Pl.nd (Pl.begins t) j) 1 = if j + 1 < Pl.rows t then ((Pl.nd (Pl.begins t) (j + 1) : Nat) : Int) else -1 := by
  have h1 := Pl.rowN_begins t j hj
  by_cases h : j + 1 < Pl.rows t
  · rw [if_pos h]; exact rowI_yes h (by omega)
  · rw [if_neg h]; exact rowI_no (by omega)

set_option maxHeartbeats 4000000 in
theorem refMove_to (b : Nat) (t : List Int) (C a c : Nat) (key : Int) (row w0 : Nat) (w : World) (hr : Rn w b t) (ha : a ≤ t.length) (hl : t.length ≤ 1000000) (hc : c ≤ 999) (hb32 : ∀ i, -2147483648 ≤ Pl.rd t i ∧ Pl.rd t i ≤ 2147483647)
    (hky : (key = 71 ∧ c = 0 ∧ w0 = t.length) ∨ (key = 16777319 ∧ c = 0 ∧ w0 = 0) ∨ (key = 71 ∧ 0 < c ∧ w0 = c - 1) ∨ (key = 16777319 ∧ 0 < c ∧ w0 = c - 1)) (hrow : row = min w0 (Pl.rows t - 1)) :
    Calls Tryd.prog 51 #[.slice (some ⟨b, 0, none⟩) t.length C, .int .i64 a, .int .i64 key, .int .i64 c] w (MovePost w (((Pl.firN t (Pl.nd (Pl.begins t) row) : Nat) : Int), 2, 0)) := by
  have hr0 := hr.below (new_below w)
  have cB := begin_any b t C a _ hr0 ha hl
  have cE := end_any b t C a _ hr0 ha hl
  have hrp : 0 < Pl.rows t := by rw [Pl.rows_eq]; omega
  have hrl := rows_le t
  have cW := fun j (hj : j < Pl.rows t) => row_any b t C (Pl.nd (Pl.begins t) j) 1 _ hr0 (Pl.begins_le t j hj) hl (by omega)
  have cF := first_any b t C (Pl.nd (Pl.begins t) row) _ hr0 (Pl.begins_le t row (by omega)) hl hb32
  rw [Pl.bgn_begins t row (by omega)] at cF
  obtain ⟨g, hg⟩ : ∃ g, Pl.bgn t a = g := ⟨_, rfl⟩
  obtain ⟨f, hf⟩ : ∃ f, Pl.endN t a = f := ⟨_, rfl⟩
  obtain ⟨v, hv⟩ : ∃ v, Pl.firN t (Pl.nd (Pl.begins t) row) = v := ⟨_, rfl⟩
  rw [hg] at cB
  rw [hf] at cE
  rw [hv] at cF ⊢
  have hw0 : w0 ≤ 1000000 := by omega
  have HROW := Lib.hid hrow
  obtain ⟨n, hne⟩ : ∃ n : Nat, max 1 c = n := ⟨_, rfl⟩
  have hmax : max (1 : Int) (c : Int) = (n : Int) := by omega
  have hz0 := Lib.hid (Pl.begins_zero t)
  clear hr hr0 hg hf hv hne hb32 hrow
  rcases hky with ⟨rfl, rfl, hw⟩ | ⟨rfl, rfl, hw⟩ | ⟨rfl, hc0, hw⟩ | ⟨rfl, hc0, hw⟩
  all_goals
    (try have hcb : ((c : Int) == 0) = false := by simp; omega)
    have HW := Lib.hid hw
    clear hw
    go_enter Tryd.func51, Tryd.ntmps51
    go_wp2_with (first
      | (go_at_call 47; refine cB.mono ?_; rintro e w' ⟨rfl, rfl⟩)
      | (go_at_call 46; refine cE.mono ?_; rintro e w' ⟨rfl, rfl⟩))
    clear cB cE
    go_loop [13, 17] (fun s13 s17 => ∃ j z : Nat, j < Pl.rows t ∧ z ≤ 1000000 ∧ s13 = .int .i64 (Pl.nd (Pl.begins t) j) ∧ s17 = .int .i64 z ∧ Hid (j + z = w0)) (fun _ s17 => (intOf s17).toNat)
    case atStart => exact ⟨0, w0, hrp, by omega, by rw [hz0.out]; rfl, (by have := HW.out; congr 1; omega), Nat.zero_add _⟩
    case round =>
      obtain ⟨j, z, hj, hz, rfl, rfl, hH⟩ := hrel
      cases z with
      | zero =>
        obtain rfl : j = row := by have := hH.out; have := HROW.out; omega
        have cW1 := cF
        go_wp2_with (first
          | (go_at_call 38; refine cF.mono ?_; rintro e w' ⟨rfl, rfl⟩))
        refine bodyPost_ret (v := .tuple #[.agg #[.int .i64 v, .int .i64 2], .int .i64 0]) (by simp [results, Tryd.results51, go_sem]) rfl ⟨rfl, ?_⟩
        exact (Below.refl _ _).alloc (Nat.le_refl _) _
      | succ z =>
        have cW1 := cW j hj
        rw [rowI_one hj] at cW1
        by_cases hlast : j + 1 < Pl.rows t
        · rw [if_pos hlast] at cW1
          go_wp2_with (first
            | (go_at_call 64; refine cW1.mono ?_; rintro e w' ⟨rfl, rfl⟩))
          go_round
          case rel => exact ⟨j + 1, z, hlast, by omega, rfl, by go_num, (show j + 1 + z = w0 by have := hH.out; omega)⟩
          case measure => simp [intOf]
        · rw [if_neg hlast] at cW1
          obtain rfl : j = row := by have := hH.out; have := HROW.out; omega
          go_wp2_with (first
            | (go_at_call 64; refine cW1.mono ?_; rintro e w' ⟨rfl, rfl⟩)
            | (go_at_call 38; refine cF.mono ?_; rintro e w' ⟨rfl, rfl⟩))
          refine bodyPost_ret (v := .tuple #[.agg #[.int .i64 v, .int .i64 2], .int .i64 0]) (by simp [results, Tryd.results51, go_sem]) rfl ⟨rfl, ?_⟩
          exact (Below.refl _ _).alloc (Nat.le_refl _) _

end Go.Proofs.YtnmpkjlbphjddaaDoor
