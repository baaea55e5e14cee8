/-
  The walk over the statement on counts.
-/
import Derived.Test.YtogmhnpakjdpmaaCStart
namespace Go.Proofs.Ytogmhnpakjdpmaa
open Go.RowKit

theorem cell_later {w w' : World} {b o : Nat} {v : Value} (hb : Below w.heap.size w w') (h : w.cell? ⟨b, o, none⟩ = some v) : w'.cell? ⟨b, o, none⟩ = some v := by
  rw [← h]; exact hb.cell (World.block_lt_of_cell? _ _ h)

def KInv (w wr : World) (a : Option Addr) (n c ob wb cb : Nat) : Prop := CInv wr ob wb cb ∧ wr.cell? ⟨w.heap.size, 0, none⟩ = some (.slice a n c) ∧ Below w.heap.size w wr
theorem KInv.step {w wr wr' : World} {a : Option Addr} {n c ob wb cb : Nat} (h : KInv w wr a n c ob wb cb) (hb : Below wr.heap.size wr wr') : KInv w wr' a n c ob wb cb :=
  ⟨h.1.below hb, cell_later hb h.2.1, h.2.2.trans (hb.mono h.2.2.size)⟩

set_option maxRecDepth 100000 in
set_option maxHeartbeats 4000000 in
theorem counts_any (a : Option Addr) (n c : Nat) (x1 x2 : Int) (b : Bool) (w : World) :
    Calls Try.prog 4 #[.agg #[.slice a n c, .int .i64 x1, .int .i64 x2, .bool b]] w fun e w' => e = .returned (.bool true) ∧ Below w.heap.size w w' := by
  have hst := fun W hW => cstart w a n c x1 x2 b W hW
  go_enter Try.func4, Try.ntmps4
  go_wp2
  have hst2 := hst _ rfl
  clear hst
  have HST : Hid (KInv w _ a n c _ _ _) := hst2
  clear hst2
  obtain ⟨cb, hcb⟩ : ∃ cb, w.heap.size + 1 + 1 + 1 + 1 + 1 + 1 + 1 + 1 + 1 + 1 + 1 + 1 + 1 + 1 = cb := ⟨_, rfl⟩
  rw [hcb] at HST ⊢
  clear hcb
  obtain ⟨wb, hwb⟩ : ∃ wb, w.heap.size + 1 + 1 + 1 + 1 + 1 + 1 + 1 + 1 + 1 + 1 + 1 + 1 + 1 = wb := ⟨_, rfl⟩
  rw [hwb] at HST ⊢
  clear hwb
  obtain ⟨ob, hob⟩ : ∃ ob, w.heap.size + 1 + 1 + 1 + 1 + 1 + 1 + 1 + 1 + 1 + 1 + 1 + 1 = ob := ⟨_, rfl⟩
  rw [hob] at HST ⊢
  clear hob
  go_loopw [6] (fun v wr => ∃ i : Nat, i ≤ 11 ∧ v = .int .i64 i ∧ KInv w wr a n c ob wb cb) (fun v _ => 11 - (intOf v).toNat)
  case atStart => exact ⟨0, by omega, rfl, HST.out⟩
  case round =>
    clear HST
    obtain ⟨i, hi, rfl, hI⟩ := hrel
    by_cases h11 : i < 11
    · have hib : decide ((i : Int) < 11) = true := by simp; omega
      have hI0 := hI
      obtain ⟨kb, h1, h2, h3, h4⟩ := hI0.1 i h11
      obtain ⟨q1, q2, q3⟩ := counts_at i h11
      obtain ⟨⟨⟨y0, y1, y2, y3, y4, y5⟩, m, er⟩, hR⟩ : ∃ R, ofR (keysL i) 50 false = R := ⟨_, rfl⟩
      rw [hR] at q1 q2 q3
      simp only at q1 q2 q3
      have hlen : (keysL i).length ≤ 1000000000000000 := by
        match i, h11 with
        | 0, _ | 1, _ | 2, _ | 3, _ | 4, _ | 5, _ | 6, _ | 7, _ | 8, _ | 9, _ | 10, _ => decide
      have cO := fun W (hn : Ns W (some ⟨kb, 0, none⟩) (keysL i)) => of_told (some ⟨kb, 0, none⟩) (keysL i) (keysL i).length 50 false W hn (by omega) hlen hR
      rw [← q1] at h3
      rw [← q3] at h4
      subst q2
      have HI := Lib.hid hI
      have hi0 : (0 : Int) ≤ (i : Int) := by omega
      have hi1 : (i : Int) < 11 := by omega
      clear q1 q3 hR hI hI0
      obtain ⟨L, hL⟩ : ∃ L, (keysL i).length = L := ⟨_, rfl⟩
      rw [hL] at h1
      simp only [hL] at cO
      clear hL hlen
      go_upto_region 8 with (go_at_call 6; refine (cO _ h2).mono ?_; rintro e w1 ⟨rfl, hb1⟩; have g3 := cell_later (hb1.trans (Below.alloc (Below.refl _ w1) hb1.size (.cells #[.int .i64 y0, .int .i64 y1, .int .i64 y2, .int .i64 y3, .int .i64 y4, .int .i64 y5] 28))) h3; have g4 := cell_later (hb1.trans (Below.alloc (Below.refl _ w1) hb1.size (.cells #[.int .i64 y0, .int .i64 y1, .int .i64 y2, .int .i64 y3, .int .i64 y4, .int .i64 y5] 28))) h4; have HI2 := Lib.hid ((HI.out.step hb1).step ((Below.refl _ w1).alloc (Nat.le_refl _) (.cells #[.int .i64 y0, .int .i64 y1, .int .i64 y2, .int .i64 y3, .int .i64 y4, .int .i64 y5] 28))))
      have g5 := blk_cell (new_blk w1 #[.int .i64 y0, .int .i64 y1, .int .i64 y2, .int .i64 y3, .int .i64 y4, .int .i64 y5] 28) 1 (v := .int .i64 y1) rfl
      have hbl1 := World.block_lt_of_cell? _ _ g3
      have hbl2 := World.block_lt_of_cell? _ _ g4
      go_region_held3 (fun w' => w'.cell? ⟨wb, i, none⟩ = some (.int .i64 er) ∧ w'.cell? ⟨w1.heap.size, 1, none⟩ = some (.int .i64 y1) ∧ w'.cell? ⟨cb, i, none⟩ = some (.int .i64 y1)) (exact ⟨g3, g5, g4⟩) (first | (go_at_call 7; refine (num_any _ _).mono ?_; rintro e w2 ⟨rfl, rfl⟩))
      all_goals (go_wp2)
      go_roundw
      case rel => exact ⟨i + 1, by omega, by go_num, HI2.out.1, HI2.out.2.1, HI2.out.2.2.drew⟩
      case measure => simp [intOf]; omega
    · obtain rfl : i = 11 := by omega
      have hx0 := hI.2.1
      have hl0 : decide ((0 : Int) ≤ (n : Int)) = true := by simp
      have HI := Lib.hid hI
      clear hI
      go_wp2_with (go_at_call 9; refine (wakes_any _).mono ?_; rintro e w1 ⟨rfl, hb1⟩)
      go_ret
      exact ⟨rfl, (HI.out.step hb1).2.2⟩

end Go.Proofs.Ytogmhnpakjdpmaa
