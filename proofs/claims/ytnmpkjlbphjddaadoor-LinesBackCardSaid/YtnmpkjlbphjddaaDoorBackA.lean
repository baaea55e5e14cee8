/-
  The walk over the reference's place of an offset; the plain law: k behind j leads to the same row, G of a row's number is there.
-/
import Derived.Test.YtnmpkjlbphjddaaDoorMoves
namespace Go.Proofs.YtnmpkjlbphjddaaDoor
open Go.RowKit

theorem two_setCell0 {w : World} {b : Nat} {u v u' : Value} {t : TypeId} (h : w.heap[b]? = some (.cells #[u, v] t (0, 0))) : (w.setCell ⟨b, 0, none⟩ u').heap[b]? = some (.cells #[u', v] t (0, 0)) := by
  have hlt := lt_of_block h
  have h' : w.heap[b] = .cells #[u, v] t (0, 0) := by simpa [Array.getElem?_eq_getElem hlt] using h
  show (w.heap.modify b _)[b]? = _
  rw [Array.getElem?_eq_getElem (by simpa using hlt), Array.getElem_modify_self, h']
  rfl
theorem other_setCell {w : World} {b g i : Nat} {v : Value} (h : b ≠ g) : (w.setCell ⟨g, i, none⟩ v).heap[b]? = w.heap[b]? := by
  show (w.heap.modify g _)[b]? = _
  rw [Array.getElem?_modify, if_neg (fun e => h e.symm)]

/-- What holds while the rows are counted. -/
def PlInv (w wr : World) (r c : Int) : Prop :=
  wr.heap[w.heap.size]? = some (.cells #[.int .i64 0, .int .i64 0] 24 (0, 0)) ∧ wr.heap[w.heap.size + 1]? = some (.cells #[.int .i64 r, .int .i64 c] 24 (0, 0)) ∧ Below w.heap.size w wr
theorem PlInv.start (w : World) (c : Int) :
    PlInv w ((w.alloc (.cells #[.int .i64 0, .int .i64 0] 24)).alloc (.cells #[.int .i64 0, .int .i64 c] 24)) 0 c := by
  refine ⟨blk_below (new_at w _ _) (below_new _ _), ?_, ((Below.refl _ _).alloc (Nat.le_refl _) _).alloc (by simp) _⟩
  have := new_at (w.alloc (.cells #[.int .i64 0, .int .i64 0] 24)) #[.int .i64 0, .int .i64 c] 24
  rwa [show (w.alloc (.cells #[.int .i64 0, .int .i64 0] 24)).heap.size = w.heap.size + 1 from Array.size_push _] at this
theorem PlInv.row {w wr : World} {r c : Int} (h : PlInv w wr r c) (r' : Int) : PlInv w (wr.setCell ⟨w.heap.size + 1, 0, none⟩ (.int .i64 r')) r' c :=
  ⟨by rw [other_setCell (by omega)]; exact h.1, two_setCell0 h.2.1, h.2.2.setCell (by simp) _⟩

set_option maxHeartbeats 800000 in
theorem refPlace_any (b : Nat) (t : List Int) (C a : Nat) (w : World) (hr : Rn w b t) (ha : a ≤ t.length) (hl : t.length ≤ 1000000) :
    Calls Tryd.prog 32 #[.slice (some ⟨b, 0, none⟩) t.length C, .int .i64 a] w fun e w' => e = .returned (.agg #[.int .i64 (Pl.rowN t a), .int .i64 ((a : Int) - (Pl.bgn t a : Int))]) ∧ Below w.heap.size w w' := by
  have HR := Lib.hid hr
  have h0 : Below w.heap.size w (w.alloc (.cells #[.int .i64 0, .int .i64 0] 24)) := below_new _ _
  have cB := begin_any b t C a _ (hr.below h0) ha hl
  have hle := Pl.bgn_le t a
  obtain ⟨g, hg⟩ : ∃ g, Pl.bgn t a = g := ⟨_, rfl⟩
  rw [hg] at cB hle ⊢
  obtain ⟨N, hN⟩ : ∃ N, Pl.rowN t a = N := ⟨_, rfl⟩
  rw [hN]
  have HN := Lib.hid hN
  clear hr hg hN h0
  go_enter Tryd.func32, Tryd.ntmps32
  go_wp2_with (go_at_call 47; refine cB.mono ?_; rintro e w1 ⟨rfl, rfl⟩)
  have hst := PlInv.start w ((a : Int) - (g : Int))
  have HST := Lib.hid hst
  clear hst
  go_loopw [6] (fun i wr => ∃ k : Nat, k ≤ a ∧ i = .int .i64 k ∧ PlInv w wr (Pl.rowN t k) ((a : Int) - (g : Int))) (fun i _ => a - (intOf i).toNat)
  case atStart => exact ⟨0, Nat.zero_le _, rfl, HST.out⟩
  case round =>
    clear HST
    obtain ⟨k, hk, rfl, hI⟩ := hrel
    have HI := Lib.hid hI
    have hc0 := two_cell0 hI.2.1
    have hc1 := two_cell1 hI.2.1
    have hf0 := two_free hI.2.1 0
    have hf1 := two_free hI.2.1 1
    by_cases hka : k < a
    · have hkb : decide ((k : Int) < (a : Int)) = true := by simp; omega
      have hrd := (HR.out.below hI.2.2).at k (by omega)
      have hrow := Pl.rowN_le t k
      have hk1 : (k : Int) < (t.length : Int) := by omega
      have hk0 : (0 : Int) ≤ (k : Int) := by omega
      by_cases h10 : Pl.rd t k = 10
      · have hs := Pl.rowN_succ_at t k h10
        have hb : (Pl.rd t k == 10) = true := by simp [h10]
        obtain ⟨q, hq⟩ : ∃ q, Pl.rowN t k = q := ⟨_, rfl⟩
        simp only [hq] at hc0 hrow hs
        rw [hq] at hI
        have HI := Lib.hid (hI.row ((q : Int) + 1))
        clear h10 hI
        go_wp2
        go_roundw
        case rel => exact ⟨k + 1, by omega, by go_num, by rw [hs]; exact HI.out⟩
        case measure => simp [intOf]; omega
      · have hs := Pl.rowN_succ_no t k h10
        have hb : (Pl.rd t k == 10) = false := by simp [h10]
        clear h10 hI
        go_wp2
        go_roundw
        case rel => exact ⟨k + 1, by omega, by go_num, by rw [hs]; exact HI.out⟩
        case measure => simp [intOf]; omega
    · have hkb : decide ((k : Int) < (a : Int)) = false := by simp; omega
      obtain rfl : k = a := by omega
      have g0 := two_cell0 hI.1
      have g1 := two_cell1 hI.1
      have gf0 := two_free hI.1 0
      have gf1 := two_free hI.1 1
      rw [HN.out] at hc0
      clear hI
      go_wp2
      have hfin := two_setCell (two_setCell0 HI.out.1 (u' := .int .i64 (N : Int))) (v' := .int .i64 ((k : Int) - (g : Int)))
      have e0 := two_cell0 hfin
      have e1 := two_cell1 hfin
      refine bodyPost_ret (v := .agg #[.int .i64 N, .int .i64 ((k : Int) - g)]) (by simp [results, Tryd.results32, go_sem, e0, e1]) rfl ⟨rfl, ?_⟩
      exact (HI.out.2.2.setCell (by simp) _).setCell (by simp) _

theorem col_row (t : List Int) (i c : Nat) (hi : i < Pl.rows t) :
    Pl.rowN t (colN t i c) = i ∧ colN t i c ≤ t.length ∧ Pl.bgn t (colN t i c) = Pl.nd (Pl.begins t) i ∧ colN t i c ≤ Pl.nd (Pl.begins t) i + c := by
  have hb := Pl.begins_le t i hi
  have hr := Pl.rowN_begins t i hi
  have he := Pl.endN_ge t (Pl.nd (Pl.begins t) i)
  have hel := Pl.endN_le t _ hb
  have her := Pl.rowN_end t _ hb
  have h1 : Pl.nd (Pl.begins t) i ≤ colN t i c := by unfold colN; omega
  have h2 : colN t i c ≤ Pl.endN t (Pl.nd (Pl.begins t) i) := by unfold colN; omega
  have m1 := Pl.rowN_mono t h1
  have m2 := Pl.rowN_mono t h2
  have hrow : Pl.rowN t (colN t i c) = i := by omega
  refine ⟨hrow, by omega, ?_, by unfold colN; omega⟩
  rw [← Pl.begins_row t _ (by omega), hrow]

/-- j by no count. -/
theorem mv_j (t : List Int) (a : Nat) : mvR t a 0 106 = if Pl.rowN t a + 1 < Pl.rows t then (((colN t (Pl.rowN t a + 1) (a - Pl.bgn t a) : Nat) : Int), 2, 0) else (0, 0, 6) := by
  unfold mvR
  rw [if_pos (.inl rfl)]
  unfold downR
  by_cases h : Pl.rowN t a + 1 < Pl.rows t
  · rw [if_pos h, if_pos (by omega), if_neg (by decide), if_pos (.inl rfl)]
    have : ((Pl.rowN t a : Int) + (max 1 0 : Nat)).toNat = Pl.rowN t a + 1 := by omega
    rw [this]
  · rw [if_neg h, if_neg (by omega)]

/-- k by no count, where there is a row above. -/
theorem mv_k (t : List Int) (x : Nat) (i : Nat) (h : Pl.rowN t x = i + 1) (hi : i < Pl.rows t) : mvR t x 0 107 = (((colN t i (x - Pl.bgn t x) : Nat) : Int), 2, 0) := by
  unfold mvR
  rw [if_neg (by decide), if_pos (.inl rfl)]
  unfold downR
  rw [h]
  have : ((i + 1 : Nat) : Int) + -((max 1 0 : Nat) : Int) = (i : Int) := by omega
  rw [this, if_pos (by omega), if_neg (by decide), if_pos (.inr rfl), Int.toNat_natCast]

theorem mv_caret (t : List Int) (a : Nat) : mvR t a 0 94 = (((Pl.firN t (Pl.bgn t a) : Nat) : Int), 0, 0) := by
  unfold mvR inR
  simp

theorem mv_G (t : List Int) (a : Nat) (ha : a ≤ t.length) (h : Pl.rowN t a + 1 ≤ 999) : mvR t a (Pl.rowN t a + 1) 71 = (((Pl.firN t (Pl.bgn t a) : Nat) : Int), 2, 0) := by
  unfold mvR toRow
  have hr := Pl.rowN_lt t a ha
  simp only [show ((71 : Int) = 106 ∨ (71 : Int) = 43) = False by simp, show ((71 : Int) = 107 ∨ (71 : Int) = 45) = False by simp, show ((71 : Int) = 36 ∨ (71 : Int) = 95) = False by simp, if_false, if_true]
  rw [if_pos (by simp), show min (max 1 (Pl.rowN t a + 1)) (Pl.rows t) - 1 = Pl.rowN t a by omega, Pl.begins_row t a ha]

theorem mv_Gok (t : List Int) (a c : Nat) : ∃ r : Int, mvR t a c 71 = (r, 2, 0) := by
  unfold mvR
  simp only [show ((71 : Int) = 106 ∨ (71 : Int) = 43) = False by simp, show ((71 : Int) = 107 ∨ (71 : Int) = 45) = False by simp, show ((71 : Int) = 36 ∨ (71 : Int) = 95) = False by simp, if_false, if_true]
  exact ⟨_, rfl⟩

end Go.Proofs.YtnmpkjlbphjddaaDoor
