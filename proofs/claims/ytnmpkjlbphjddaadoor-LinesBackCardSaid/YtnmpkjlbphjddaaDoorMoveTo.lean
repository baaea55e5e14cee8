/-
  The walk over the program's motion by rows: to a row by its number, and within a row.
-/
import Derived.Test.YtnmpkjlbphjddaaDoorMoveOk
namespace Go.Proofs.YtnmpkjlbphjddaaDoor
open Go.RowKit

set_option maxHeartbeats 4000000 in
theorem move_to (s : ByteArray) (a c : Nat) (key : Int) (row : Nat) (w : World) (hT : Tabs w) (hm : mayB s = true) (hk : lineB key = true) (hc : c ≤ 999) (ha : a ≤ (rn s).length)
    (hky : (key = 71 ∧ row = Pl.rows (rn s) - 1) ∨ (key = 16777319 ∧ row = 0)) :
    Calls Tryd.prog 33 #[.string s, .int .i64 a, .int .i64 key, .int .i64 c] w (MovePost w (((Pl.firN (rn s) (Pl.nd (Pl.begins (rn s)) (toRow (rn s) (max 1 c) row (decide (0 < c)))) : Nat) : Int), 2, 0)) := by
  have hb0 : Below w.heap.size w (w.alloc (.cells #[.int .i64 0, .int .i64 0] 44)) := (Below.refl _ _).alloc (Nat.le_refl _) _
  have hz := mayB_size hm
  have cM := may_any s _ (by omega) (hT.below hb0)
  have cK := fun W => lineIs_any key W
  have hlen := rn_le s
  have cO := fun W => of_any s W (by omega)
  have hcb : decide ((c : Int) < 0) = false := by simp
  have hcb2 : decide ((999 : Int) < (c : Int)) = false := by simp; omega
  have HB := Lib.hid hb0
  have hb32 := rn_i32 s
  rw [hm] at cM
  simp only [hk] at cK
  obtain ⟨t, ht⟩ : ∃ t, rn s = t := ⟨_, rfl⟩
  simp only [ht] at cO hlen ha hb32 hky ⊢
  have hn : numB (a : Int) t.length = true := by unfold numB; simp; omega
  have cI := fun mb W (h : MapAt W mb t) => Is_any mb t a W h
  simp only [hn] at cI
  have cRow := fun mb W (h : MapAt W mb t) => Row_any mb t a W h ha (by omega)
  obtain ⟨hr, hbr, hcol⟩ := row_facts t a ha
  have hrp : 0 < Pl.rows t := by rw [Pl.rows_eq]; omega
  have hD := fun vb mb (an rn cn : Int) W (hv : VAt W vb mb an rn cn (max 1 c : Nat) (decide (0 < c))) (h : MapAt W mb t) => to_any vb mb t an rn cn (max 1 c) row (decide (0 < c)) W h hv (by omega) (by omega) (by omega) hb32
  have cRows := fun mb W (h : MapAt W mb t) => Rows_any mb t W h
  obtain ⟨r, hre⟩ : ∃ r, Pl.rowN t a = r := ⟨_, rfl⟩
  obtain ⟨g, hge⟩ : ∃ g, Pl.bgn t a = g := ⟨_, rfl⟩
  obtain ⟨col, hce⟩ : ∃ col, a - g = col := ⟨_, rfl⟩
  obtain ⟨R, hRe⟩ : ∃ R, Pl.firN t (Pl.nd (Pl.begins t) (toRow t (max 1 c) row (decide (0 < c)))) = R := ⟨_, rfl⟩
  obtain ⟨n, hne⟩ : ∃ n : Nat, max 1 c = n := ⟨_, rfl⟩
  have hmax : max (1 : Int) (c : Int) = (n : Int) := by omega
  rw [hre, hge] at hbr
  rw [hge] at hcol
  rw [hce] at hcol
  rw [hRe]
  rw [hne] at hRe
  simp only [hne, hRe] at hD
  have hrm : (Pl.rows t : Int) - 1 = ((Pl.rows t - 1 : Nat) : Int) := by omega
  simp only [hre] at cRow
  rw [hre] at hr
  have HBR := Lib.hid hbr
  have HR := Lib.hid hr
  have hn1 : 1 ≤ n ∧ n ≤ 999 := by omega
  have hrl := rows_le t
  clear hm hk hb0 hn ht hbr hre hge hce hRe hne hT hb32
  rcases hky with ⟨rfl, rfl⟩ | ⟨rfl, rfl⟩
  all_goals
    go_enter Tryd.func33, Tryd.ntmps33
    go_wp2_with (first
      | (go_at_call 41; refine cM.mono ?_; rintro e w1 ⟨rfl, hb1⟩)
      | (go_at_call 52; refine (cK _).mono ?_; rintro e w2 ⟨rfl, rfl⟩)
      | (go_at_call 42; refine (cO _).mono ?_; rintro e w2 ⟨mb, rfl, hmb, hma, hb2⟩)
      | (go_at_call 43; refine (cI _ _ hma).mono ?_; rintro e w3 ⟨rfl, rfl⟩)
      | (go_at_call 53; refine (cRow _ _ hma).mono ?_; rintro e w3 ⟨rfl, rfl⟩; have HMA := Lib.hid hma; obtain ⟨rb, rc, gb, gc, m0, m1, m2, m3⟩ := hma; have hcg := m3.at _ HR.out; rw [HBR.out] at hcg; clear m0 m2 m3)
      | (go_at_call 56; refine (cRows _ _ (HMA.out.below (below_new w2 _))).mono ?_; rintro e w5 ⟨rfl, rfl⟩)
      | (go_at_call 55; refine (hD _ mb _ _ _ _ (vat_new w2 mb a r col n (decide (0 < c))) (HMA.out.below (below_new w2 _))).mono ?_; rintro e w4 ⟨rfl, hb4⟩; have hbx := chain4 hb1 hb2 hb4; obtain ⟨hx0, hx1, hf0, hf1⟩ := two_later hbx))
    refine bodyPost_ret (v := .tuple #[.agg #[.int .i64 R, .int .i64 2], .int .i64 0]) (by simp [results, Tryd.results33, go_sem, hx0, hx1]) rfl ⟨rfl, ?_⟩
    exact Below.setCell (Below.setCell (HB.out.trans (hbx.mono HB.out.size)) (by simp) _) (by simp) _


set_option maxHeartbeats 4000000 in
theorem move_in (s : ByteArray) (a c : Nat) (key : Int) (w : World) (hT : Tabs w) (hm : mayB s = true) (hk : lineB key = true) (hc : c ≤ 999) (ha : a ≤ (rn s).length)
    (hky : key = 48 ∨ key = 94 ∨ key = 104 ∨ key = 108) :
    Calls Tryd.prog 33 #[.string s, .int .i64 a, .int .i64 key, .int .i64 c] w (MovePost w (inR (rn s) a (max 1 c) key)) := by
  have hb0 : Below w.heap.size w (w.alloc (.cells #[.int .i64 0, .int .i64 0] 44)) := (Below.refl _ _).alloc (Nat.le_refl _) _
  have hz := mayB_size hm
  have cM := may_any s _ (by omega) (hT.below hb0)
  have cK := fun W => lineIs_any key W
  have hlen := rn_le s
  have cO := fun W => of_any s W (by omega)
  have hcb : decide ((c : Int) < 0) = false := by simp
  have hcb2 : decide ((999 : Int) < (c : Int)) = false := by simp; omega
  have HB := Lib.hid hb0
  have hb32 := rn_i32 s
  rw [hm] at cM
  simp only [hk] at cK
  obtain ⟨t, ht⟩ : ∃ t, rn s = t := ⟨_, rfl⟩
  simp only [ht] at cO hlen ha hb32 ⊢
  have hn : numB (a : Int) t.length = true := by unfold numB; simp; omega
  have cI := fun mb W (h : MapAt W mb t) => Is_any mb t a W h
  simp only [hn] at cI
  have cRow := fun mb W (h : MapAt W mb t) => Row_any mb t a W h ha (by omega)
  obtain ⟨hr, hbr, hcol⟩ := row_facts t a ha
  have hD := fun vb mb (cn : Int) told W (hv : VAt W vb mb a (Pl.rowN t a) cn (max 1 c : Nat) told) (h : MapAt W mb t) => within_row vb mb t a (max 1 c) cn told key W h ha hv (by omega) (by omega) hky hb32
  obtain ⟨r, hre⟩ : ∃ r, Pl.rowN t a = r := ⟨_, rfl⟩
  obtain ⟨g, hge⟩ : ∃ g, Pl.bgn t a = g := ⟨_, rfl⟩
  obtain ⟨col, hce⟩ : ∃ col, a - g = col := ⟨_, rfl⟩
  obtain ⟨R, hRe⟩ : ∃ R, inR t a (max 1 c) key = R := ⟨_, rfl⟩
  obtain ⟨n, hne⟩ : ∃ n : Nat, max 1 c = n := ⟨_, rfl⟩
  have hmax : max (1 : Int) (c : Int) = (n : Int) := by omega
  rw [hre, hge] at hbr
  rw [hge] at hcol
  rw [hce] at hcol
  rw [hRe]
  rw [hne] at hRe
  simp only [hre, hne, hRe] at hD
  simp only [hre] at cRow
  rw [hre] at hr
  have HBR := Lib.hid hbr
  have HR := Lib.hid hr
  have hn1 : 1 ≤ n ∧ n ≤ 999 := by omega
  clear hm hk hb0 hn ht hbr hre hge hce hRe hne hT hb32
  rcases hky with rfl | rfl | rfl | rfl
  all_goals
    go_enter Tryd.func33, Tryd.ntmps33
    go_wp2_with (first
      | (go_at_call 41; refine cM.mono ?_; rintro e w1 ⟨rfl, hb1⟩)
      | (go_at_call 52; refine (cK _).mono ?_; rintro e w2 ⟨rfl, rfl⟩)
      | (go_at_call 42; refine (cO _).mono ?_; rintro e w2 ⟨mb, rfl, hmb, hma, hb2⟩)
      | (go_at_call 43; refine (cI _ _ hma).mono ?_; rintro e w3 ⟨rfl, rfl⟩)
      | (go_at_call 53; refine (cRow _ _ hma).mono ?_; rintro e w3 ⟨rfl, rfl⟩; have HMA := Lib.hid hma; obtain ⟨rb, rc, gb, gc, m0, m1, m2, m3⟩ := hma; have hcg := m3.at _ HR.out; rw [HBR.out] at hcg; clear m0 m2 m3)
      | (go_at_call 57; refine (hD _ mb _ _ _ (vat_new w2 mb a r col n (decide (0 < c))) (HMA.out.below (below_new w2 _))).mono ?_; rintro e w4 ⟨rfl, hb4⟩; have hbx := chain4 hb1 hb2 hb4; obtain ⟨hx0, hx1, hf0, hf1⟩ := two_later hbx))
    refine bodyPost_ret (v := .tuple #[.agg #[.int .i64 R.1, .int .i64 R.2.1], .int .i64 R.2.2]) (by simp [results, Tryd.results33, go_sem, hx0, hx1]) rfl ⟨rfl, ?_⟩
    exact Below.setCell (Below.setCell (HB.out.trans (hbx.mono HB.out.size)) (by simp) _) (by simp) _


end Go.Proofs.YtnmpkjlbphjddaaDoor
