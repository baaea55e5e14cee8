/-
  The walk over the reference's motion by rows: it answers as the program's does.
-/
import Derived.Test.YtnmpkjlbphjddaaDoorMove
namespace Go.Proofs.YtnmpkjlbphjddaaDoor
open Go.RowKit

theorem new_below (w : World) : Below w.heap.size w (w.alloc (.cells #[.int .i64 0, .int .i64 0] 44)) := (Below.refl _ _).alloc (Nat.le_refl _) _

set_option maxHeartbeats 4000000 in
theorem refMove_in (b : Nat) (t : List Int) (C a c : Nat) (key : Int) (w : World) (hr : Rn w b t) (ha : a ≤ t.length) (hl : t.length ≤ 1000000) (hc : c ≤ 999) (hb32 : ∀ i, -2147483648 ≤ Pl.rd t i ∧ Pl.rd t i ≤ 2147483647)
    (hky : key = 48 ∨ key = 94 ∨ key = 104 ∨ key = 108) :
    Calls Tryd.prog 51 #[.slice (some ⟨b, 0, none⟩) t.length C, .int .i64 a, .int .i64 key, .int .i64 c] w (MovePost w (inR t a (max 1 c) key)) := by
  have hr0 := hr.below (new_below w)
  have cB := begin_any b t C a _ hr0 ha hl
  have cE := end_any b t C a _ hr0 ha hl
  have cF := first_any b t C a _ hr0 ha hl hb32
  have hbl := Pl.bgn_le t a
  have hel := Pl.endN_ge t a
  have hen := Pl.endN_le t a ha
  obtain ⟨n, hne⟩ : ∃ n : Nat, max 1 c = n := ⟨_, rfl⟩
  have hmax : max (1 : Int) (c : Int) = (n : Int) := by omega
  have hn1 : 1 ≤ n := by omega
  have hn2 : n ≤ 999 := by omega
  have hR : inR t a (max 1 c) key = if key = 104 then (if a = Pl.bgn t a then (0, 0, 6) else (((max (Pl.bgn t a) (a - max 1 c) : Nat) : Int), 0, 0))
    else if key = 108 then (if a = Pl.endN t a then (0, 0, 6) else (((min (Pl.endN t a) (a + max 1 c) : Nat) : Int), 0, 0))
    else if key = 94 then (((Pl.firN t (Pl.bgn t a) : Nat) : Int), 0, 0) else (((Pl.bgn t a : Nat) : Int), 0, 0) := rfl
  obtain ⟨R, hRe⟩ : ∃ R, inR t a (max 1 c) key = R := ⟨_, rfl⟩
  rw [hRe] at hR ⊢
  rw [hne] at hR
  obtain ⟨g, hg⟩ : ∃ g, Pl.bgn t a = g := ⟨_, rfl⟩
  obtain ⟨f, hf⟩ : ∃ f, Pl.endN t a = f := ⟨_, rfl⟩
  obtain ⟨q, hq⟩ : ∃ q, Pl.firN t g = q := ⟨_, rfl⟩
  rw [hg] at cB hbl hR cF
  rw [hf] at cE hel hen hR
  rw [hq] at cF hR
  have hmc : ((g : Int) < (a : Int) - (n : Int)) ∨ ¬ ((g : Int) < (a : Int) - (n : Int)) := by omega
  clear hr hr0 hb32 hne hRe hg hf hq
  rcases hky with rfl | rfl | rfl | rfl
  · rw [if_neg (by decide), if_neg (by decide), if_neg (by decide)] at hR
    rw [hR]
    clear hR hmc
    go_enter Tryd.func51, Tryd.ntmps51
    go_wp2_with (first
      | (go_at_call 47; refine cB.mono ?_; rintro e w' ⟨rfl, rfl⟩)
      | (go_at_call 46; refine cE.mono ?_; rintro e w' ⟨rfl, rfl⟩))
    refine bodyPost_ret (v := .tuple #[.agg #[.int .i64 g, .int .i64 0], .int .i64 0]) (by simp [results, Tryd.results51, go_sem]) rfl ⟨rfl, ?_⟩
    exact (Below.refl _ _).alloc (Nat.le_refl _) _
  · rw [if_neg (by decide), if_neg (by decide), if_pos rfl] at hR
    rw [hR]
    clear hR hmc
    go_enter Tryd.func51, Tryd.ntmps51
    go_wp2_with (first
      | (go_at_call 47; refine cB.mono ?_; rintro e w' ⟨rfl, rfl⟩)
      | (go_at_call 46; refine cE.mono ?_; rintro e w' ⟨rfl, rfl⟩)
      | (go_at_call 38; refine cF.mono ?_; rintro e w' ⟨rfl, rfl⟩))
    refine bodyPost_ret (v := .tuple #[.agg #[.int .i64 q, .int .i64 0], .int .i64 0]) (by simp [results, Tryd.results51, go_sem]) rfl ⟨rfl, ?_⟩
    exact (Below.refl _ _).alloc (Nat.le_refl _) _
  · rw [if_pos rfl] at hR
    by_cases hab : a = g
    · rw [if_pos hab] at hR
      rw [hR]
      have hdec : (max (g : Int) ((a : Int) - (n : Int)) == (a : Int)) = true := by simp; omega
      clear hR hab hmc
      go_enter Tryd.func51, Tryd.ntmps51
      go_wp2_with (first
        | (go_at_call 47; refine cB.mono ?_; rintro e w' ⟨rfl, rfl⟩)
        | (go_at_call 46; refine cE.mono ?_; rintro e w' ⟨rfl, rfl⟩))
      refine bodyPost_ret (v := .tuple #[.agg #[.int .i64 0, .int .i64 0], .int .i64 6]) (by simp [results, Tryd.results51, go_sem]) rfl ⟨rfl, ?_⟩
      exact (Below.refl _ _).alloc (Nat.le_refl _) _
    · rw [if_neg hab] at hR
      have hval : (((max g (a - n) : Nat)) : Int) = max (g : Int) ((a : Int) - (n : Int)) := by omega
      rw [hval] at hR
      rw [hR]
      have hdec : (max (g : Int) ((a : Int) - (n : Int)) == (a : Int)) = false := by simp; omega
      have hneg : decide (max (g : Int) ((a : Int) - (n : Int)) < 0) = false := by simp; omega
      clear hR hab hval hmc
      go_enter Tryd.func51, Tryd.ntmps51
      go_wp2_with (first
        | (go_at_call 47; refine cB.mono ?_; rintro e w' ⟨rfl, rfl⟩)
        | (go_at_call 46; refine cE.mono ?_; rintro e w' ⟨rfl, rfl⟩))
      refine bodyPost_ret (v := .tuple #[.agg #[.int .i64 (max (g : Int) ((a : Int) - (n : Int))), .int .i64 0], .int .i64 0]) (by simp [results, Tryd.results51, go_sem]) rfl ⟨rfl, ?_⟩
      exact (Below.refl _ _).alloc (Nat.le_refl _) _
  · rw [if_neg (by decide), if_pos rfl] at hR
    by_cases hab : a = f
    · rw [if_pos hab] at hR
      rw [hR]
      have hdec : (min (f : Int) ((a : Int) + (n : Int)) == (a : Int)) = true := by simp; omega
      clear hR hab hmc
      go_enter Tryd.func51, Tryd.ntmps51
      go_wp2_with (first
        | (go_at_call 47; refine cB.mono ?_; rintro e w' ⟨rfl, rfl⟩)
        | (go_at_call 46; refine cE.mono ?_; rintro e w' ⟨rfl, rfl⟩))
      refine bodyPost_ret (v := .tuple #[.agg #[.int .i64 0, .int .i64 0], .int .i64 6]) (by simp [results, Tryd.results51, go_sem]) rfl ⟨rfl, ?_⟩
      exact (Below.refl _ _).alloc (Nat.le_refl _) _
    · rw [if_neg hab] at hR
      have hval : (((min f (a + n) : Nat)) : Int) = min (f : Int) ((a : Int) + (n : Int)) := by omega
      rw [hval] at hR
      rw [hR]
      have hdec : (min (f : Int) ((a : Int) + (n : Int)) == (a : Int)) = false := by simp; omega
      have hneg : decide (min (f : Int) ((a : Int) + (n : Int)) < 0) = false := by simp; omega
      clear hR hab hval hmc
      go_enter Tryd.func51, Tryd.ntmps51
      go_wp2_with (first
        | (go_at_call 47; refine cB.mono ?_; rintro e w' ⟨rfl, rfl⟩)
        | (go_at_call 46; refine cE.mono ?_; rintro e w' ⟨rfl, rfl⟩))
      refine bodyPost_ret (v := .tuple #[.agg #[.int .i64 (min (f : Int) ((a : Int) + (n : Int))), .int .i64 0], .int .i64 0]) (by simp [results, Tryd.results51, go_sem]) rfl ⟨rfl, ?_⟩
      exact (Below.refl _ _).alloc (Nat.le_refl _) _

end Go.Proofs.YtnmpkjlbphjddaaDoor
