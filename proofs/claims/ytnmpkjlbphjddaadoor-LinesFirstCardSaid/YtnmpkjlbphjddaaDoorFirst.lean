/-
  The walk over the program's first rune of a row that is no blank.
-/
import Derived.Test.YtnmpkjlbphjddaaDoorOf
import Derived.Test.YtnmpkjlbphjddaaDoorWalksC
namespace Go.Proofs.YtnmpkjlbphjddaaDoor
open Go.RowKit

/-- The first rune of a row that is no blank, and the error. -/
def firstR (s : ByteArray) (y : Int) : Int × Int := if mayB s = true then if 0 ≤ y ∧ y < Pl.rows (rn s) then (((Pl.firN (rn s) (Pl.nd (Pl.begins (rn s)) y.toNat) : Nat) : Int), 0) else (0, 3) else (0, 1)

set_option maxHeartbeats 800000 in
theorem lineFirst_any (s : ByteArray) (y : Int) (w : World) (hs : s.size ≤ 9223372036854775807) (hT : Tabs w) :
    Calls Tryd.prog 36 #[.string s, .int .i64 y] w fun e w' => e = .returned (.tuple #[.int .i64 (firstR s y).1, .int .i64 (firstR s y).2]) ∧ Below w.heap.size w w' := by
  have cM := may_any s w hs hT
  have hrr : firstR s y = if mayB s = true then if 0 ≤ y ∧ y < Pl.rows (rn s) then (((Pl.firN (rn s) (Pl.nd (Pl.begins (rn s)) y.toNat) : Nat) : Int), 0) else (0, 3) else (0, 1) := rfl
  obtain ⟨⟨R1, R2⟩, hR⟩ : ∃ R, firstR s y = R := ⟨_, rfl⟩
  rw [hR] at hrr ⊢
  clear hR
  by_cases hm : mayB s = true
  · have hz : s.size ≤ 4000 := by unfold mayB at hm; simp only [Bool.and_eq_true, decide_eq_true_eq] at hm; exact hm.1
    have hlen := rn_le s
    have h32 : ∀ i, -2147483648 ≤ Pl.rd (rn s) i ∧ Pl.rd (rn s) i ≤ 2147483647 := fun i => by have := rn_range s i; omega
    rw [if_pos hm] at hrr
    rw [hm] at cM
    have cO := fun W => of_any s W (by omega)
    clear hm
    obtain ⟨t, ht⟩ : ∃ t, rn s = t := ⟨_, rfl⟩
    simp only [ht] at cO hrr hlen h32
    clear ht
    have cR := fun mb W (h : MapAt W mb t) => Rows_any mb t W h
    by_cases hin : 0 ≤ y ∧ y < Pl.rows t
    · rw [if_pos hin] at hrr
      simp only [Prod.mk.injEq] at hrr
      obtain ⟨hr1, hr2⟩ := hrr
      have hi : y.toNat < Pl.rows t := by omega
      have cF := fun mb W (h : MapAt W mb t) => First_any mb t y.toNat W h hi (by omega) h32
      rw [Int.toNat_of_nonneg hin.1] at cF
      have HR1 := Lib.hid hr1
      subst hr2
      have hyb : decide (y < 0) = false := by simp; omega
      have hyb2 : decide ((Pl.rows t : Int) ≤ y) = false := by simp; omega
      clear hr1 hin h32
      go_enter Tryd.func36, Tryd.ntmps36
      go_wp2_with (first
        | (go_at_call 41; refine cM.mono ?_; rintro e w1 ⟨rfl, hb1⟩)
        | (go_at_call 42; refine (cO _).mono ?_; rintro e w2 ⟨mb, rfl, hmb, hma, hb2⟩; clear hmb)
        | (go_at_call 56; refine (cR _ _ (by assumption)).mono ?_; rintro e w3 ⟨rfl, rfl⟩)
        | (go_at_call 58; refine (cF _ _ (by assumption)).mono ?_; rintro e w3 ⟨rfl, rfl⟩))
      go_ret2
      exact ⟨by rw [HR1.out]; rfl, hb1.trans (hb2.mono hb1.size)⟩
    · rw [if_neg hin] at hrr
      simp only [Prod.mk.injEq] at hrr
      obtain ⟨rfl, rfl⟩ := hrr
      rcases (show y < 0 ∨ (¬ y < 0 ∧ (Pl.rows t : Int) ≤ y) by omega) with hy | ⟨hy, hy2⟩
      all_goals
        (first | have hyb : decide (y < 0) = true := by simp [hy] | have hyb : decide (y < 0) = false := by simp; omega)
        (try have hyb2 : decide ((Pl.rows t : Int) ≤ y) = true := by simp; omega)
        clear hin
        go_enter Tryd.func36, Tryd.ntmps36
        go_wp2_with (first
          | (go_at_call 41; refine cM.mono ?_; rintro e w1 ⟨rfl, hb1⟩)
          | (go_at_call 42; refine (cO _).mono ?_; rintro e w2 ⟨mb, rfl, hmb, hma, hb2⟩; clear hmb)
          | (go_at_call 56; refine (cR _ _ (by assumption)).mono ?_; rintro e w3 ⟨rfl, rfl⟩))
        go_ret2
        exact ⟨rfl, hb1.trans (hb2.mono hb1.size)⟩
  · rw [if_neg hm] at hrr
    have hm' : mayB s = false := by simpa using hm
    rw [hm'] at cM
    simp only [Prod.mk.injEq] at hrr
    obtain ⟨rfl, rfl⟩ := hrr
    clear hm hm'
    go_enter Tryd.func36, Tryd.ntmps36
    go_wp2_with (go_at_call 41; refine cM.mono ?_; rintro e w1 ⟨rfl, hb1⟩)
    go_ret2
    exact ⟨rfl, hb1⟩

end Go.Proofs.YtnmpkjlbphjddaaDoor
