/-
  The walks over the program's motions by rows.
-/
import Derived.Test.YtnmpkjlbphjddaaDoorKeys
import Derived.Test.YtnmpkjlbphjddaaDoorInv
import Derived.Test.YtnmpkjlbphjddaaDoorPlace
import Derived.Deep.RegionHeld3
namespace Go.Proofs.YtnmpkjlbphjddaaDoor
open Go.RowKit

theorem MapAt.drew {w : World} {mb : Nat} {t : List Int} (h : MapAt w mb t) : MapAt w.drew mb t := h
theorem Below.one (w : World) : Below w.heap.size w w.drew := (Below.refl _ _).drew

/-- The offset at a column of a row, or its end. -/
def colN (t : List Int) (i c : Nat) : Nat := min (Pl.nd (Pl.begins t) i + c) (Pl.endN t (Pl.nd (Pl.begins t) i))

set_option maxHeartbeats 1000000 in
theorem Col_any (mb : Nat) (t : List Int) (i c : Nat) (w : World) (hm : MapAt w mb t) (hi : i < Pl.rows t) (hl : t.length ≤ 1000000) (hc : c ≤ 1000000) :
    Calls Tryd.prog 66 #[.pointer (some ⟨mb, 0, none⟩), .int .i64 i, .int .i64 c] w fun e w' => e = .returned (.int .i64 (colN t i c)) ∧ Below w.heap.size w w' := by
  have cE := End_any mb t i w.drew hm.drew hi hl
  have hcn : colN t i c = min (Pl.nd (Pl.begins t) i + c) (Pl.endN t (Pl.nd (Pl.begins t) i)) := rfl
  have hgl := Pl.begins_le t i hi
  have hel := Pl.endN_le t _ hgl
  obtain ⟨rb, rc, gb, gc, h1, h2, h3, h4⟩ := hm
  have hcell := h4.at i hi
  clear h1 h3 h4
  obtain ⟨g, hg⟩ : ∃ g, Pl.nd (Pl.begins t) i = g := ⟨_, rfl⟩
  rw [hg] at hcn cE hcell hgl hel
  obtain ⟨f, hf⟩ : ∃ f, Pl.endN t g = f := ⟨_, rfl⟩
  rw [hf] at hcn cE hel
  clear hg hf
  have hi0 : (0 : Int) ≤ (i : Int) := by omega
  have hi1 : (i : Int) < (Pl.rows t : Int) := by omega
  have hwr : IntKind.i64.wrap ((g : Int) + (c : Int)) = (g : Int) + (c : Int) := IntWalk.i64_in _ (by omega)
  have HA := Lib.hid hcn
  have HW := Lib.hid hwr
  clear hcn hwr
  go_enter Tryd.func66, Tryd.ntmps66
  go_wp2
  go_region_held3 (fun w' => w' = w.drew)
    (first | rfl | assumption)
    (first | (go_at_call 60; refine cE.mono ?_; rintro e w' ⟨rfl, rfl⟩))
  go_wp2
  go_ret
  exact ⟨ret_int (by rw [HA.out, HW.out]; omega), Below.one w⟩

theorem two_far {w2 : World} {g b o : Nat} {u v : Value} (h : b ≠ g) : ((w2.setCell ⟨g, 0, none⟩ u).setCell ⟨g, 1, none⟩ v).cell? ⟨b, o, none⟩ = w2.cell? ⟨b, o, none⟩ :=
  (World.cell?_of_block (Below.heap_setCell _ _ _ _ h)).trans (World.cell?_of_block (Below.heap_setCell _ _ _ _ h))

/-- A mover lies at a block's head. -/
def VAt (w : World) (vb mb : Nat) (a r c n : Int) (told : Bool) : Prop :=
  w.heap[vb]? = some (.cells #[.pointer (some ⟨mb, 0, none⟩), .int .i64 a, .int .i64 r, .int .i64 c, .int .i64 n, .bool told] 61 (0, 0))
theorem VAt.below {w w' : World} {vb mb : Nat} {a r c n : Int} {told : Bool} (h : VAt w vb mb a r c n told) (hb : Below w.heap.size w w') : VAt w' vb mb a r c n told := by
  unfold VAt at h ⊢
  rw [hb.block _ (lt_of_block h)]; exact h
theorem VAt.cells {w : World} {vb mb : Nat} {a r c n : Int} {told : Bool} (h : VAt w vb mb a r c n told) :
    w.cell? ⟨vb, 0, none⟩ = some (.pointer (some ⟨mb, 0, none⟩)) ∧ w.cell? ⟨vb, 1, none⟩ = some (.int .i64 a) ∧ w.cell? ⟨vb, 2, none⟩ = some (.int .i64 r) ∧ w.cell? ⟨vb, 3, none⟩ = some (.int .i64 c) ∧
    w.cell? ⟨vb, 4, none⟩ = some (.int .i64 n) ∧ w.cell? ⟨vb, 5, none⟩ = some (.bool told) :=
  ⟨cell_of h 0 rfl, cell_of h 1 rfl, cell_of h 2 rfl, cell_of h 3 rfl, cell_of h 4 rfl, cell_of h 5 rfl⟩

/-- Where a motion leads: the offset, the kind, the error. -/
def downR (t : List Int) (r c : Nat) (key y : Int) : Int × Int × Int :=
  if 0 ≤ (r : Int) + y ∧ (r : Int) + y < Pl.rows t then
    if key = 36 then (((Pl.endN t (Pl.nd (Pl.begins t) ((r : Int) + y).toNat) : Nat) : Int), 1, 0)
    else if key = 106 ∨ key = 107 then (((colN t ((r : Int) + y).toNat c : Nat) : Int), 2, 0)
    else (((Pl.firN t (Pl.nd (Pl.begins t) ((r : Int) + y).toNat) : Nat) : Int), 2, 0)
  else (0, 0, 6)

def MovePost (w : World) (R : Int × Int × Int) (e : Ending) (w' : World) : Prop := e = .returned (.tuple #[.agg #[.int .i64 R.1, .int .i64 R.2.1], .int .i64 R.2.2]) ∧ Below w.heap.size w w'

set_option maxHeartbeats 1000000 in
theorem down_no (vb mb : Nat) (t : List Int) (a n : Int) (r c : Nat) (told : Bool) (key y : Int) (w : World) (hm : MapAt w mb t) (hv : VAt w vb mb a r c n told) (hr : r < Pl.rows t) (hl : t.length ≤ 1000000) (hy : -1000000 ≤ y ∧ y ≤ 1000000)
    (hno : ¬ (0 ≤ (r : Int) + y ∧ (r : Int) + y < Pl.rows t)) :
    Calls Tryd.prog 54 #[.pointer (some ⟨vb, 0, none⟩), .int .i64 key, .int .i64 y] w (MovePost w (0, 0, 6)) := by
  have hrl := rows_le t
  have hb0 : Below w.heap.size w (w.alloc (.cells #[.int .i64 0, .int .i64 0] 44)) := (Below.refl _ _).alloc (Nat.le_refl _) _
  have cR := Rows_any mb t _ (hm.below hb0)
  obtain ⟨h0, h1, h2, h3, h4, h5⟩ := (hv.below hb0).cells
  clear h1 h3 h4 h5 hm
  obtain ⟨hy1, hy2⟩ := hy
  by_cases hn : (r : Int) + y < 0
  · have hnb : decide ((r : Int) + y < 0) = true := by simp [hn]
    clear h0
    go_enter Tryd.func54, Tryd.ntmps54
    go_wp2
    refine bodyPost_ret (v := .tuple #[.agg #[.int .i64 0, .int .i64 0], .int .i64 6]) (by simp [results, Tryd.results54, go_sem]) rfl ⟨rfl, ?_⟩
    exact (Below.refl _ _).alloc (Nat.le_refl _) _
  · have hnb : decide ((r : Int) + y < 0) = false := by simp; omega
    have hgb : decide ((Pl.rows t : Int) ≤ (r : Int) + y) = true := by simp; omega
    go_enter Tryd.func54, Tryd.ntmps54
    go_wp2_with (go_at_call 56; refine cR.mono ?_; rintro e w' ⟨rfl, rfl⟩)
    refine bodyPost_ret (v := .tuple #[.agg #[.int .i64 0, .int .i64 0], .int .i64 6]) (by simp [results, Tryd.results54, go_sem]) rfl ⟨rfl, ?_⟩
    exact (Below.refl _ _).alloc (Nat.le_refl _) _

set_option maxHeartbeats 1000000 in
theorem down_end (vb mb : Nat) (t : List Int) (a n : Int) (r c : Nat) (told : Bool) (y : Int) (i : Nat) (w : World) (hm : MapAt w mb t) (hv : VAt w vb mb a r c n told) (hl : t.length ≤ 1000000) (hy : -1000000 ≤ y ∧ y ≤ 1000000)
    (hi : (r : Int) + y = i) (hir : i < Pl.rows t) :
    Calls Tryd.prog 54 #[.pointer (some ⟨vb, 0, none⟩), .int .i64 36, .int .i64 y] w (MovePost w (((Pl.endN t (Pl.nd (Pl.begins t) i) : Nat) : Int), 1, 0)) := by
  have hrl := rows_le t
  have hb0 : Below w.heap.size w (w.alloc (.cells #[.int .i64 0, .int .i64 0] 44)) := (Below.refl _ _).alloc (Nat.le_refl _) _
  have cR := Rows_any mb t _ (hm.below hb0)
  have cE := End_any mb t i _ (hm.below hb0) hir hl
  obtain ⟨h0, h1, h2, h3, h4, h5⟩ := (hv.below hb0).cells
  obtain rfl : y = (i : Int) - r := by omega
  obtain ⟨hy1, hy2⟩ := hy
  have hnb : decide ((i : Int) < 0) = false := by simp
  have hgb : decide ((Pl.rows t : Int) ≤ (i : Int)) = false := by simp; omega
  have hsum : (r : Int) + ((i : Int) - r) = i := by omega
  have HV := Lib.hid hv
  clear h1 h3 h4 h5 hm hi hv
  go_enter Tryd.func54, Tryd.ntmps54
  go_wp2_with (first
    | (go_at_call 56; refine cR.mono ?_; rintro e w' ⟨rfl, rfl⟩)
    | (go_at_call 60; refine cE.mono ?_; rintro e w' ⟨rfl, rfl⟩))
  refine bodyPost_ret (v := .tuple #[.agg #[.int .i64 (Pl.endN t (Pl.nd (Pl.begins t) i) : Nat), .int .i64 1], .int .i64 0]) (by simp [results, Tryd.results54, go_sem]) rfl ⟨rfl, ?_⟩
  exact (Below.refl _ _).alloc (Nat.le_refl _) _

set_option maxHeartbeats 1000000 in
theorem down_fir (vb mb : Nat) (t : List Int) (a n : Int) (r c : Nat) (told : Bool) (key y : Int) (i : Nat) (w : World) (hm : MapAt w mb t) (hv : VAt w vb mb a r c n told) (hl : t.length ≤ 1000000) (hy : -1000000 ≤ y ∧ y ≤ 1000000)
    (hb32 : ∀ i, -2147483648 ≤ Pl.rd t i ∧ Pl.rd t i ≤ 2147483647) (hk1 : (key == 36) = false) (hk2 : (key == 106) = false) (hk3 : (key == 107) = false) (hi : (r : Int) + y = i) (hir : i < Pl.rows t) :
    Calls Tryd.prog 54 #[.pointer (some ⟨vb, 0, none⟩), .int .i64 key, .int .i64 y] w (MovePost w (((Pl.firN t (Pl.nd (Pl.begins t) i) : Nat) : Int), 2, 0)) := by
  have hrl := rows_le t
  have hb0 : Below w.heap.size w (w.alloc (.cells #[.int .i64 0, .int .i64 0] 44)) := (Below.refl _ _).alloc (Nat.le_refl _) _
  have cR := Rows_any mb t _ (hm.below hb0)
  have cF := First_any mb t i _ (hm.below hb0) hir hl hb32
  obtain ⟨h0, h1, h2, h3, h4, h5⟩ := (hv.below hb0).cells
  obtain rfl : y = (i : Int) - r := by omega
  obtain ⟨hy1, hy2⟩ := hy
  have hnb : decide ((i : Int) < 0) = false := by simp
  have hgb : decide ((Pl.rows t : Int) ≤ (i : Int)) = false := by simp; omega
  have hsum : (r : Int) + ((i : Int) - r) = i := by omega
  have HV := Lib.hid hv
  clear h1 h3 h4 h5 hm hi hv hb32
  go_enter Tryd.func54, Tryd.ntmps54
  go_wp2_with (first
    | (go_at_call 56; refine cR.mono ?_; rintro e w' ⟨rfl, rfl⟩)
    | (go_at_call 58; refine cF.mono ?_; rintro e w' ⟨rfl, rfl⟩))
  refine bodyPost_ret (v := .tuple #[.agg #[.int .i64 (Pl.firN t (Pl.nd (Pl.begins t) i) : Nat), .int .i64 2], .int .i64 0]) (by simp [results, Tryd.results54, go_sem]) rfl ⟨rfl, ?_⟩
  exact (Below.refl _ _).alloc (Nat.le_refl _) _

set_option maxHeartbeats 2000000 in
theorem down_col (vb mb : Nat) (t : List Int) (a n : Int) (r c : Nat) (told : Bool) (key y : Int) (i : Nat) (w : World) (hm : MapAt w mb t) (hv : VAt w vb mb a r c n told) (hl : t.length ≤ 1000000) (hy : -1000000 ≤ y ∧ y ≤ 1000000)
    (hc : c ≤ 1000000) (hkey : key = 106 ∨ key = 107) (hi : (r : Int) + y = i) (hir : i < Pl.rows t) :
    Calls Tryd.prog 54 #[.pointer (some ⟨vb, 0, none⟩), .int .i64 key, .int .i64 y] w (MovePost w (((colN t i c : Nat) : Int), 2, 0)) := by
  have hrl := rows_le t
  have hb0 : Below w.heap.size w (w.alloc (.cells #[.int .i64 0, .int .i64 0] 44)) := (Below.refl _ _).alloc (Nat.le_refl _) _
  have cR := Rows_any mb t _ (hm.below hb0)
  have cC := Col_any mb t i c ((w.alloc (.cells #[.int .i64 0, .int .i64 0] 44)).drew) (hm.below hb0).drew hir hl hc
  obtain ⟨h0, h1, h2, h3, h4, h5⟩ := (hv.below hb0).cells
  obtain rfl : y = (i : Int) - r := by omega
  obtain ⟨hy1, hy2⟩ := hy
  have hnb : decide ((i : Int) < 0) = false := by simp
  have hgb : decide ((Pl.rows t : Int) ≤ (i : Int)) = false := by simp; omega
  have hsum : (r : Int) + ((i : Int) - r) = i := by omega
  have hvl := lt_of_block hv
  have HV := Lib.hid hv
  clear h1 h4 h5 hm hi hv
  rcases hkey with rfl | rfl
  all_goals
    go_enter Tryd.func54, Tryd.ntmps54
    go_wp2_with (go_at_call 56; refine cR.mono ?_; rintro e w' ⟨rfl, rfl⟩)
    go_region_held3 (fun w' => w'.cell? ⟨vb, 0, none⟩ = some (.pointer (some ⟨mb, 0, none⟩)) ∧ w'.cell? ⟨vb, 3, none⟩ = some (.int .i64 c))
      (first | exact ⟨h0, h3⟩ | exact ⟨hq0, hq3⟩ | exact ⟨(two_far (by omega)).trans hq0, (two_far (by omega)).trans hq3⟩)
      (first | (go_at_call 66; refine cC.mono ?_; rintro e w2 ⟨rfl, hb2⟩; have hbx : Below (w.alloc (.cells #[.int .i64 0, .int .i64 0] 44)).heap.size (w.alloc (.cells #[.int .i64 0, .int .i64 0] 44)) w2 := (Below.refl _ _).drew.trans hb2; obtain ⟨hx0, hx1, hf0, hf1⟩ := two_later hbx; have hq := HV.out.below (hb0.trans (hbx.mono hb0.size)); have hq0 := hq.cells.1; have hq3 := hq.cells.2.2.2.1))
    go_wp2
    refine bodyPost_ret (v := .tuple #[.agg #[.int .i64 (colN t i c : Nat), .int .i64 2], .int .i64 0]) (by simp [results, Tryd.results54, go_sem, hx0, hx1]) rfl ⟨rfl, ?_⟩
    exact Below.setCell (Below.setCell (hb0.trans (hbx.mono hb0.size)) (by simp) _) (by simp) _

end Go.Proofs.YtnmpkjlbphjddaaDoor
