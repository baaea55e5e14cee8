/-
  The walk over the reference's motions by rows: below, above, and to a row by its number.
-/
import Derived.Test.YtnmpkjlbphjddaaDoorRefMove
namespace Go.Proofs.YtnmpkjlbphjddaaDoor
open Go.RowKit

set_option maxHeartbeats 4000000 in
theorem refMove_no (b : Nat) (t : List Int) (C a c : Nat) (key y : Int) (w : World) (hr : Rn w b t) (ha : a ≤ t.length) (hl : t.length ≤ 1000000) (hc : c ≤ 999)
    (hky : (key = 106 ∧ y = (max 1 c : Nat)) ∨ (key = 43 ∧ y = (max 1 c : Nat)) ∨ (key = 107 ∧ y = -((max 1 c : Nat) : Int)) ∨ (key = 45 ∧ y = -((max 1 c : Nat) : Int)) ∨ (key = 36 ∧ y = ((max 1 c : Nat) : Int) - 1) ∨ (key = 95 ∧ y = ((max 1 c : Nat) : Int) - 1))
    (hno : ¬ (0 ≤ (Pl.rowN t a : Int) + y ∧ (Pl.rowN t a : Int) + y < Pl.rows t)) :
    Calls Tryd.prog 51 #[.slice (some ⟨b, 0, none⟩) t.length C, .int .i64 a, .int .i64 key, .int .i64 c] w (MovePost w (0, 0, 6)) := by
  have hr0 := hr.below (new_below w)
  have cB := begin_any b t C a _ hr0 ha hl
  have cE := end_any b t C a _ hr0 ha hl
  have cW := row_any b t C a y _ hr0 ha hl (by omega)
  rw [rowI_no (by omega)] at cW
  obtain ⟨n, hne⟩ : ∃ n : Nat, max 1 c = n := ⟨_, rfl⟩
  have hmax : max (1 : Int) (c : Int) = (n : Int) := by omega
  have hn1 : 1 ≤ n := by omega
  have hn2 : n ≤ 999 := by omega
  rw [hne] at hky
  obtain ⟨g, hg⟩ : ∃ g, Pl.bgn t a = g := ⟨_, rfl⟩
  obtain ⟨f, hf⟩ : ∃ f, Pl.endN t a = f := ⟨_, rfl⟩
  rw [hg] at cB
  rw [hf] at cE
  clear hr hr0 hne hg hf hno
  rcases hky with ⟨rfl, rfl⟩ | ⟨rfl, rfl⟩ | ⟨rfl, rfl⟩ | ⟨rfl, rfl⟩ | ⟨rfl, rfl⟩ | ⟨rfl, rfl⟩
  all_goals
    go_enter Tryd.func51, Tryd.ntmps51
    go_wp2_with (first
      | (go_at_call 47; refine cB.mono ?_; rintro e w' ⟨rfl, rfl⟩)
      | (go_at_call 46; refine cE.mono ?_; rintro e w' ⟨rfl, rfl⟩)
      | (go_at_call 64; refine cW.mono ?_; rintro e w' ⟨rfl, rfl⟩))
    refine bodyPost_ret (v := .tuple #[.agg #[.int .i64 0, .int .i64 0], .int .i64 6]) (by simp [results, Tryd.results51, go_sem]) rfl ⟨rfl, ?_⟩
    exact (Below.refl _ _).alloc (Nat.le_refl _) _

set_option maxHeartbeats 4000000 in
theorem refMove_yes (b : Nat) (t : List Int) (C a c : Nat) (key y : Int) (i : Nat) (w : World) (hr : Rn w b t) (ha : a ≤ t.length) (hl : t.length ≤ 1000000) (hc : c ≤ 999) (hb32 : ∀ i, -2147483648 ≤ Pl.rd t i ∧ Pl.rd t i ≤ 2147483647)
    (hky : (key = 106 ∧ y = (max 1 c : Nat)) ∨ (key = 43 ∧ y = (max 1 c : Nat)) ∨ (key = 107 ∧ y = -((max 1 c : Nat) : Int)) ∨ (key = 45 ∧ y = -((max 1 c : Nat) : Int)) ∨ (key = 36 ∧ y = ((max 1 c : Nat) : Int) - 1) ∨ (key = 95 ∧ y = ((max 1 c : Nat) : Int) - 1))
    (hi : (Pl.rowN t a : Int) + y = i) (hir : i < Pl.rows t) :
    Calls Tryd.prog 51 #[.slice (some ⟨b, 0, none⟩) t.length C, .int .i64 a, .int .i64 key, .int .i64 c] w (MovePost w (downR t (Pl.rowN t a) (a - Pl.bgn t a) key y)) := by
  have hr0 := hr.below (new_below w)
  have cB := begin_any b t C a _ hr0 ha hl
  have cE := end_any b t C a _ hr0 ha hl
  have cW := row_any b t C a y _ hr0 ha hl (by omega)
  rw [rowI_yes hir hi] at cW
  have hql := Pl.begins_le t i hir
  have cE2 := end_any b t C (Pl.nd (Pl.begins t) i) _ hr0 hql hl
  have cF2 := first_any b t C (Pl.nd (Pl.begins t) i) _ hr0 hql hl hb32
  rw [Pl.bgn_begins t i hir] at cF2
  have hel := Pl.endN_le t _ hql
  have hbl := Pl.bgn_le t a
  obtain ⟨n, hne⟩ : ∃ n : Nat, max 1 c = n := ⟨_, rfl⟩
  have hmax : max (1 : Int) (c : Int) = (n : Int) := by omega
  have hn1 : 1 ≤ n := by omega
  have hn2 : n ≤ 999 := by omega
  have hR : downR t (Pl.rowN t a) (a - Pl.bgn t a) key y = if key = 36 then (((Pl.endN t (Pl.nd (Pl.begins t) i) : Nat) : Int), 1, 0)
    else if key = 106 ∨ key = 107 then (((min (Pl.nd (Pl.begins t) i + (a - Pl.bgn t a)) (Pl.endN t (Pl.nd (Pl.begins t) i)) : Nat) : Int), 2, 0)
    else (((Pl.firN t (Pl.nd (Pl.begins t) i) : Nat) : Int), 2, 0) := by
    unfold downR colN
    rw [hi, if_pos (by omega), Int.toNat_natCast]
  rw [hR]
  clear hR
  rw [hne] at hky
  obtain ⟨g, hg⟩ : ∃ g, Pl.bgn t a = g := ⟨_, rfl⟩
  obtain ⟨f, hf⟩ : ∃ f, Pl.endN t a = f := ⟨_, rfl⟩
  obtain ⟨q, hq⟩ : ∃ q, Pl.nd (Pl.begins t) i = q := ⟨_, rfl⟩
  rw [hq] at cW cE2 cF2 hql hel ⊢
  obtain ⟨u, hu⟩ : ∃ u, Pl.endN t q = u := ⟨_, rfl⟩
  obtain ⟨v, hv⟩ : ∃ v, Pl.firN t q = v := ⟨_, rfl⟩
  rw [hu] at cE2 hel ⊢
  rw [hv] at cF2 ⊢
  rw [hg] at cB hbl ⊢
  rw [hf] at cE
  have hcol : (((min (q + (a - g)) u : Nat)) : Int) = min (u : Int) ((q : Int) + (a : Int) - (g : Int)) := by omega
  rw [hcol]
  have hneg : decide (min (u : Int) ((q : Int) + (a : Int) - (g : Int)) < 0) = false := by simp; omega
  clear hr hr0 hne hg hf hq hu hv hi hir hb32 hcol
  rcases hky with ⟨rfl, rfl⟩ | ⟨rfl, rfl⟩ | ⟨rfl, rfl⟩ | ⟨rfl, rfl⟩ | ⟨rfl, rfl⟩ | ⟨rfl, rfl⟩
  all_goals
    (first
      | rw [if_pos rfl]
      | rw [if_neg (by decide), if_pos (by decide)]
      | rw [if_neg (by decide), if_neg (by decide)])
    go_enter Tryd.func51, Tryd.ntmps51
    go_wp2_with (first
      | (go_at_call 47; refine cB.mono ?_; rintro e w' ⟨rfl, rfl⟩)
      | (with_reducible (go_at_call 46; refine cE.mono ?_; rintro e w' ⟨rfl, rfl⟩))
      | (with_reducible (go_at_call 46; refine cE2.mono ?_; rintro e w' ⟨rfl, rfl⟩))
      | (go_at_call 38; refine cF2.mono ?_; rintro e w' ⟨rfl, rfl⟩)
      | (go_at_call 64; refine cW.mono ?_; rintro e w' ⟨rfl, rfl⟩))
    refine bodyPost_ret (v := .tuple #[.agg #[.int .i64 _, .int .i64 _], .int .i64 _]) (by simp [results, Tryd.results51, go_sem]) rfl ⟨rfl, ?_⟩
    exact (Below.refl _ _).alloc (Nat.le_refl _) _

end Go.Proofs.YtnmpkjlbphjddaaDoor
