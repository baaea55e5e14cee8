/-
  The walk over the program's motion by rows, whole.
-/
import Derived.Test.YtnmpkjlbphjddaaDoorMoverTo
namespace Go.Proofs.YtnmpkjlbphjddaaDoor
open Go.RowKit

theorem down_any (vb mb : Nat) (t : List Int) (a n : Int) (r c : Nat) (told : Bool) (key y : Int) (w : World) (hm : MapAt w mb t) (hv : VAt w vb mb a r c n told) (hr : r < Pl.rows t) (hl : t.length ≤ 1000000) (hy : -1000000 ≤ y ∧ y ≤ 1000000)
    (hb32 : ∀ i, -2147483648 ≤ Pl.rd t i ∧ Pl.rd t i ≤ 2147483647) (hc : c ≤ 1000000) :
    Calls Tryd.prog 54 #[.pointer (some ⟨vb, 0, none⟩), .int .i64 key, .int .i64 y] w (MovePost w (downR t r c key y)) := by
  by_cases hin : 0 ≤ (r : Int) + y ∧ (r : Int) + y < Pl.rows t
  · obtain ⟨i, hi⟩ : ∃ i : Nat, (r : Int) + y = i := ⟨((r : Int) + y).toNat, by omega⟩
    have hir : i < Pl.rows t := by omega
    unfold downR
    rw [if_pos hin, hi, Int.toNat_natCast]
    by_cases h1 : key = 36
    · rw [if_pos h1]; subst h1
      exact down_end vb mb t a n r c told y i w hm hv hl hy hi hir
    · rw [if_neg h1]
      by_cases h2 : key = 106 ∨ key = 107
      · rw [if_pos h2]
        exact down_col vb mb t a n r c told key y i w hm hv hl hy hc h2 hi hir
      · rw [if_neg h2]
        exact down_fir vb mb t a n r c told key y i w hm hv hl hy hb32 (by simp; omega) (by simp; omega) (by simp; omega) hi hir
  · unfold downR
    rw [if_neg hin]
    exact down_no vb mb t a n r c told key y w hm hv hr hl hy hin

/-- Where a motion leads: the offset, the kind, the error. -/
def mvR (t : List Int) (a c : Nat) (key : Int) : Int × Int × Int :=
  if key = 106 ∨ key = 43 then downR t (Pl.rowN t a) (a - Pl.bgn t a) key (max 1 c : Nat)
  else if key = 107 ∨ key = 45 then downR t (Pl.rowN t a) (a - Pl.bgn t a) key (-((max 1 c : Nat) : Int))
  else if key = 36 ∨ key = 95 then downR t (Pl.rowN t a) (a - Pl.bgn t a) key (((max 1 c : Nat) : Int) - 1)
  else if key = 71 then (((Pl.firN t (Pl.nd (Pl.begins t) (toRow t (max 1 c) (Pl.rows t - 1) (decide (0 < c)))) : Nat) : Int), 2, 0)
  else if key = 16777319 then (((Pl.firN t (Pl.nd (Pl.begins t) (toRow t (max 1 c) 0 (decide (0 < c)))) : Nat) : Int), 2, 0)
  else inR t a (max 1 c) key

/-- What the whole motion answers. -/
def moveR (s : ByteArray) (a key c : Int) : Int × Int × Int :=
  if mayB s = true ∧ numB a (rn s).length = true ∧ lineB key = true ∧ numB c 999 = true then mvR (rn s) a.toNat c.toNat key else (0, 0, 1)

set_option maxHeartbeats 2000000 in
theorem move_bad (s : ByteArray) (a key c : Int) (w : World) (hs : s.size ≤ 9223372036854775807) (hT : Tabs w) (hno : ¬ (mayB s = true ∧ lineB key = true ∧ numB c 999 = true)) :
    Calls Tryd.prog 33 #[.string s, .int .i64 a, .int .i64 key, .int .i64 c] w (MovePost w (0, 0, 1)) := by
  have hb0 : Below w.heap.size w (w.alloc (.cells #[.int .i64 0, .int .i64 0] 44)) := (Below.refl _ _).alloc (Nat.le_refl _) _
  have cM := may_any s _ hs (hT.below hb0)
  have cK := fun W => lineIs_any key W
  have HB := Lib.hid hb0
  clear hb0
  have H : mayB s = false ∨ (mayB s = true ∧ lineB key = false) ∨ (mayB s = true ∧ lineB key = true ∧ c < 0) ∨ (mayB s = true ∧ lineB key = true ∧ 0 ≤ c ∧ 999 < c) := by
    cases hm : mayB s
    · exact .inl rfl
    · cases hk : lineB key
      · exact .inr (.inl ⟨rfl, rfl⟩)
      · by_cases hc : c < 0
        · exact .inr (.inr (.inl ⟨rfl, rfl, hc⟩))
        · refine .inr (.inr (.inr ⟨rfl, rfl, by omega, ?_⟩))
          apply Int.not_le.1
          intro hle
          exact hno ⟨hm, hk, by unfold numB; simp; omega⟩
  clear hno
  rcases H with hm | ⟨hm, hk⟩ | ⟨hm, hk, hc⟩ | ⟨hm, hk, hc, hc2⟩
  all_goals
    rw [hm] at cM
    (try simp only [hk] at cK)
    (try have hcb : decide (c < 0) = true := by simp; omega)
    (try have hcb : decide (c < 0) = false := by simp; omega)
    (try have hcb2 : decide (999 < c) = true := by simp; omega)
    (try clear hk)
    clear hm
    go_enter Tryd.func33, Tryd.ntmps33
    go_wp2_with (first
      | (go_at_call 41; refine cM.mono ?_; rintro e w1 ⟨rfl, hb1⟩; obtain ⟨hx0, hx1, hf0, hf1⟩ := two_later hb1)
      | (go_at_call 52; refine (cK _).mono ?_; rintro e w2 ⟨rfl, rfl⟩))
    refine bodyPost_ret (v := .tuple #[.agg #[.int .i64 0, .int .i64 0], .int .i64 1]) (by simp [results, Tryd.results33, go_sem, hx0, hx1]) rfl ⟨rfl, ?_⟩
    exact Below.setCell (Below.setCell (HB.out.trans (hb1.mono HB.out.size)) (by simp) _) (by simp) _

end Go.Proofs.YtnmpkjlbphjddaaDoor
