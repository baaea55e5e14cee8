/-
  The walk over the program's motion by rows, where the text, the key and the count may be.
-/
import Derived.Test.YtnmpkjlbphjddaaDoorMove
namespace Go.Proofs.YtnmpkjlbphjddaaDoor
open Go.RowKit

set_option maxHeartbeats 2000000 in
theorem move_off (s : ByteArray) (a key c : Int) (w : World) (hs : s.size ≤ 9223372036854775807) (hT : Tabs w) (hm : mayB s = true) (hk : lineB key = true) (hc : numB c 999 = true) (hn : numB a (rn s).length = false) :
    Calls Tryd.prog 33 #[.string s, .int .i64 a, .int .i64 key, .int .i64 c] w (MovePost w (0, 0, 1)) := by
  have hb0 : Below w.heap.size w (w.alloc (.cells #[.int .i64 0, .int .i64 0] 44)) := (Below.refl _ _).alloc (Nat.le_refl _) _
  have cM := may_any s _ hs (hT.below hb0)
  have cK := fun W => lineIs_any key W
  have hz := mayB_size hm
  have hlen := rn_le s
  have cO := fun W => of_any s W (by omega)
  have hcc : 0 ≤ c ∧ c ≤ 999 := by unfold numB at hc; simpa using hc
  obtain ⟨hc0, hc9⟩ := hcc
  have hcb : decide (c < 0) = false := by simp; omega
  have hcb2 : decide (999 < c) = false := by simp; omega
  have HB := Lib.hid hb0
  rw [hm] at cM
  simp only [hk] at cK
  obtain ⟨t, ht⟩ : ∃ t, rn s = t := ⟨_, rfl⟩
  simp only [ht] at cO hlen hn
  have cI := fun mb W (h : MapAt W mb t) => Is_any mb t a W h
  simp only [hn] at cI
  clear hm hk hb0 hc hn ht
  go_enter Tryd.func33, Tryd.ntmps33
  go_wp2_with (first
    | (go_at_call 41; refine cM.mono ?_; rintro e w1 ⟨rfl, hb1⟩)
    | (go_at_call 52; refine (cK _).mono ?_; rintro e w2 ⟨rfl, rfl⟩)
    | (go_at_call 42; refine (cO _).mono ?_; rintro e w2 ⟨mb, rfl, hmb, hma, hb2⟩; have hb12 := hb1.trans (hb2.mono hb1.size); obtain ⟨hx0, hx1, hf0, hf1⟩ := two_later hb12)
    | (go_at_call 43; refine (cI _ _ hma).mono ?_; rintro e w3 ⟨rfl, rfl⟩))
  refine bodyPost_ret (v := .tuple #[.agg #[.int .i64 0, .int .i64 0], .int .i64 1]) (by simp [results, Tryd.results33, go_sem, hx0, hx1]) rfl ⟨rfl, ?_⟩
  exact Below.setCell (Below.setCell (HB.out.trans (hb12.mono HB.out.size)) (by simp) _) (by simp) _

theorem below_new (w2 : World) (o : Obj) : Below w2.heap.size w2 (w2.alloc o) := (Below.refl _ _).alloc (Nat.le_refl _) _
theorem vat_new (w2 : World) (mb : Nat) (a r c n : Int) (told : Bool) : VAt (w2.alloc (.cells #[.pointer (some ⟨mb, 0, none⟩), .int .i64 a, .int .i64 r, .int .i64 c, .int .i64 n, .bool told] 61)) w2.heap.size mb a r c n told := by
  show (w2.heap.push _)[w2.heap.size]? = _
  rw [Array.getElem?_push, if_pos rfl]
theorem chain4 {W0 w1 w2 w4 : World} {o : Obj} (hb1 : Below W0.heap.size W0 w1) (hb2 : Below w1.heap.size w1 w2) (hb4 : Below (w2.alloc o).heap.size (w2.alloc o) w4) : Below W0.heap.size W0 w4 := by
  have h12 := hb1.trans (hb2.mono hb1.size)
  exact (h12.alloc h12.size o).trans (hb4.mono (by have := h12.size; show _ ≤ (w2.heap.push o).size; simp; omega))

/-- What the walk of the whole motion meets, behind its questions: the text taken apart, the row, the mover. -/
theorem row_facts (t : List Int) (a : Nat) (ha : a ≤ t.length) : Pl.rowN t a < Pl.rows t ∧ Pl.nd (Pl.begins t) (Pl.rowN t a) = Pl.bgn t a ∧ (a : Int) - (Pl.bgn t a : Int) = ((a - Pl.bgn t a : Nat) : Int) :=
  ⟨Pl.rowN_lt t a ha, Pl.begins_row t a ha, by have := Pl.bgn_le t a; omega⟩

set_option maxHeartbeats 4000000 in
theorem move_down (s : ByteArray) (a c : Nat) (key y : Int) (w : World) (hT : Tabs w) (hm : mayB s = true) (hk : lineB key = true) (hc : c ≤ 999) (ha : a ≤ (rn s).length)
    (hky : (key = 106 ∧ y = (max 1 c : Nat)) ∨ (key = 43 ∧ y = (max 1 c : Nat)) ∨ (key = 107 ∧ y = -((max 1 c : Nat) : Int)) ∨ (key = 45 ∧ y = -((max 1 c : Nat) : Int)) ∨ (key = 36 ∧ y = ((max 1 c : Nat) : Int) - 1) ∨ (key = 95 ∧ y = ((max 1 c : Nat) : Int) - 1)) :
    Calls Tryd.prog 33 #[.string s, .int .i64 a, .int .i64 key, .int .i64 c] w (MovePost w (downR (rn s) (Pl.rowN (rn s) a) (a - Pl.bgn (rn s) a) key y)) := by
  have hb0 : Below w.heap.size w (w.alloc (.cells #[.int .i64 0, .int .i64 0] 44)) := (Below.refl _ _).alloc (Nat.le_refl _) _
  have hz := mayB_size hm
  have cM := may_any s _ (by omega) (hT.below hb0)
  have cK := fun W => lineIs_any key W
  have hlen := rn_le s
  have cO := fun W => of_any s W (by omega)
  have hcb : decide ((c : Int) < 0) = false := by simp
  have hcb2 : decide ((999 : Int) < (c : Int)) = false := by simp; omega
  have HB := Lib.hid hb0
  have hb32 := rn_i32 s
  rw [hm] at cM
  simp only [hk] at cK
  obtain ⟨t, ht⟩ : ∃ t, rn s = t := ⟨_, rfl⟩
  simp only [ht] at cO hlen ha hb32 ⊢
  have hn : numB (a : Int) t.length = true := by unfold numB; simp; omega
  have cI := fun mb W (h : MapAt W mb t) => Is_any mb t a W h
  simp only [hn] at cI
  have cRow := fun mb W (h : MapAt W mb t) => Row_any mb t a W h ha (by omega)
  obtain ⟨hr, hbr, hcol⟩ := row_facts t a ha
  have hD := fun vb mb (an nn : Int) told W (hv : VAt W vb mb an (Pl.rowN t a) (a - Pl.bgn t a : Nat) nn told) (h : MapAt W mb t) => down_any vb mb t an nn (Pl.rowN t a) (a - Pl.bgn t a) told key y W h hv hr (by omega) (by omega) hb32 (by omega)
  obtain ⟨r, hre⟩ : ∃ r, Pl.rowN t a = r := ⟨_, rfl⟩
  obtain ⟨g, hge⟩ : ∃ g, Pl.bgn t a = g := ⟨_, rfl⟩
  obtain ⟨col, hce⟩ : ∃ col, a - g = col := ⟨_, rfl⟩
  obtain ⟨R, hRe⟩ : ∃ R, downR t r col key y = R := ⟨_, rfl⟩
  obtain ⟨n, hne⟩ : ∃ n : Nat, max 1 c = n := ⟨_, rfl⟩
  have hmax : max (1 : Int) (c : Int) = (n : Int) := by omega
  rw [hre, hge] at hbr
  rw [hge] at hcol
  rw [hce] at hcol
  simp only [hre, hge, hce, hRe] at hD
  rw [hre, hge, hce, hRe]
  simp only [hre] at cRow
  rw [hre] at hr
  have HBR := Lib.hid hbr
  have HR := Lib.hid hr
  have hn1 : 1 ≤ n ∧ n ≤ 999 := by omega
  rw [hne] at hky
  clear hm hk hb0 hn ht hbr hre hge hce hRe hne hT hb32
  rcases hky with ⟨rfl, rfl⟩ | ⟨rfl, rfl⟩ | ⟨rfl, rfl⟩ | ⟨rfl, rfl⟩ | ⟨rfl, rfl⟩ | ⟨rfl, rfl⟩
  all_goals
    go_enter Tryd.func33, Tryd.ntmps33
    go_wp2_with (first
      | (go_at_call 41; refine cM.mono ?_; rintro e w1 ⟨rfl, hb1⟩)
      | (go_at_call 52; refine (cK _).mono ?_; rintro e w2 ⟨rfl, rfl⟩)
      | (go_at_call 42; refine (cO _).mono ?_; rintro e w2 ⟨mb, rfl, hmb, hma, hb2⟩)
      | (go_at_call 43; refine (cI _ _ hma).mono ?_; rintro e w3 ⟨rfl, rfl⟩)
      | (go_at_call 53; refine (cRow _ _ hma).mono ?_; rintro e w3 ⟨rfl, rfl⟩; have HMA := Lib.hid hma; obtain ⟨rb, rc, gb, gc, m0, m1, m2, m3⟩ := hma; have hcg := m3.at _ HR.out; rw [HBR.out] at hcg; clear m0 m2 m3)
      | (go_at_call 54; refine (hD _ mb _ _ _ _ (vat_new w2 mb a r col n (decide (0 < c))) (HMA.out.below (below_new w2 _))).mono ?_; rintro e w4 ⟨rfl, hb4⟩; have hbx := chain4 hb1 hb2 hb4; obtain ⟨hx0, hx1, hf0, hf1⟩ := two_later hbx))
    refine bodyPost_ret (v := .tuple #[.agg #[.int .i64 R.1, .int .i64 R.2.1], .int .i64 R.2.2]) (by simp [results, Tryd.results33, go_sem, hx0, hx1]) rfl ⟨rfl, ?_⟩
    exact Below.setCell (Below.setCell (HB.out.trans (hbx.mono HB.out.size)) (by simp) _) (by simp) _

end Go.Proofs.YtnmpkjlbphjddaaDoor
