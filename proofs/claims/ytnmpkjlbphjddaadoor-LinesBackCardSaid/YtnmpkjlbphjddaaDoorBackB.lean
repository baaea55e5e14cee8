/-
  The program's motions j, k, G and ^ by no count (G by its row's number), each as one contract.
-/
import Derived.Test.YtnmpkjlbphjddaaDoorBackA
namespace Go.Proofs.YtnmpkjlbphjddaaDoor
open Go.RowKit

theorem field_row (r c : Int) (w : World) : (Instr.field 24 (.agg #[.int .i64 r, .int .i64 c]) 0).run Tryd.prog w = .ok (.int .i64 r) w := by kernel_rfl

theorem moveR_ok (s : ByteArray) (a key c : Int) (p q : Nat) (hm : mayB s = true) (hp : a = p) (ha : p ≤ (rn s).length) (hk : lineB key = true) (hq : c = q) (hc : q ≤ 999) : moveR s a key c = mvR (rn s) p q key := by
  subst hp; subst hq
  unfold moveR
  rw [if_pos ⟨hm, by unfold numB; simp; omega, hk, by unfold numB; simp; omega⟩, Int.toNat_natCast, Int.toNat_natCast]

/-- A contract of the program's motion, its answer told. -/
theorem mv_told (s : ByteArray) (a key c x n e : Int) (W : World) (hs : s.size ≤ 9223372036854775807) (hT : Tabs W) (h : moveR s a key c = (x, n, e)) :
    Calls Tryd.prog 33 #[.string s, .int .i64 a, .int .i64 key, .int .i64 c] W fun E w' => E = .returned (.tuple #[.agg #[.int .i64 x, .int .i64 n], .int .i64 e]) ∧ Below W.heap.size W w' := by
  have := move_any s a key c W hs hT
  rw [h] at this
  exact this

theorem tell_G (s : ByteArray) (p r g : Nat) (hm : mayB s = true) (hp : p ≤ (rn s).length) (h200 : (rn s).length ≤ 200) (hr : Pl.rowN (rn s) p = r) (hg : Pl.firN (rn s) (Pl.bgn (rn s) p) = g) : moveR s p 71 (min ((r : Int) + 1) 999) = ((g : Int), 2, 0) := by
  have hrp := Pl.rowN_le (rn s) p
  rw [moveR_ok s p 71 (min ((r : Int) + 1) 999) p (Pl.rowN (rn s) p + 1) hm rfl hp rfl (by rw [hr]; omega) (by omega), mv_G (rn s) p hp (by omega), hg]

theorem tell_caret (s : ByteArray) (p g : Nat) (hm : mayB s = true) (hp : p ≤ (rn s).length) (hg : Pl.firN (rn s) (Pl.bgn (rn s) p) = g) : moveR s p 94 0 = ((g : Int), 0, 0) := by
  rw [moveR_ok s p 94 0 p 0 hm rfl hp rfl rfl (by omega), mv_caret, hg]

theorem tell_j_no (s : ByteArray) (p : Nat) (hm : mayB s = true) (hp : p ≤ (rn s).length) (h : ¬ Pl.rowN (rn s) p + 1 < Pl.rows (rn s)) : moveR s p 106 0 = (0, 0, 6) := by
  rw [moveR_ok s p 106 0 p 0 hm rfl hp rfl rfl (by omega), mv_j, if_neg h]

/-- j, then k: where they lead. -/
theorem tell_jk (s : ByteArray) (p : Nat) (hm : mayB s = true) (hp : p ≤ (rn s).length) (h : Pl.rowN (rn s) p + 1 < Pl.rows (rn s)) :
    ∃ x y : Nat, moveR s p 106 0 = ((x : Int), 2, 0) ∧ moveR s x 107 0 = ((y : Int), 2, 0) ∧ x ≤ (rn s).length ∧ y ≤ (rn s).length ∧ Pl.rowN (rn s) x = Pl.rowN (rn s) p + 1 ∧ Pl.rowN (rn s) y = Pl.rowN (rn s) p ∧ y ≤ p := by
  obtain ⟨h1, h2, h3, h4⟩ := col_row (rn s) (Pl.rowN (rn s) p + 1) (p - Pl.bgn (rn s) p) h
  have hb := Pl.begins_row (rn s) p hp
  have hbl := Pl.bgn_le (rn s) p
  refine ⟨colN (rn s) (Pl.rowN (rn s) p + 1) (p - Pl.bgn (rn s) p), colN (rn s) (Pl.rowN (rn s) p) (colN (rn s) (Pl.rowN (rn s) p + 1) (p - Pl.bgn (rn s) p) - Pl.bgn (rn s) (colN (rn s) (Pl.rowN (rn s) p + 1) (p - Pl.bgn (rn s) p))), ?_, ?_, h2, ?_⟩
  · rw [moveR_ok s p 106 0 p 0 hm rfl hp rfl rfl (by omega), mv_j, if_pos h]
  · rw [moveR_ok s _ 107 0 (colN (rn s) (Pl.rowN (rn s) p + 1) (p - Pl.bgn (rn s) p)) 0 hm rfl h2 rfl rfl (by omega), mv_k _ _ (Pl.rowN (rn s) p) h1 (by omega)]
  · obtain ⟨x, hx⟩ : ∃ x, colN (rn s) (Pl.rowN (rn s) p + 1) (p - Pl.bgn (rn s) p) = x := ⟨_, rfl⟩
    rw [hx] at h1 h2 h3 h4 ⊢
    have hbx := Pl.bgn_le (rn s) x
    obtain ⟨g1, g2, g3, g4⟩ := col_row (rn s) (Pl.rowN (rn s) p) (x - Pl.bgn (rn s) x) (by omega)
    exact ⟨g2, h1, g1, by omega⟩

end Go.Proofs.YtnmpkjlbphjddaaDoor
