/-
  Lists of keys in memory; the walk over the question whether they are too many.
-/
import Derived.Test.YtogmhnpakjdpmaaCopy
namespace Go.Proofs.Ytogmhnpakjdpmaa
open Go.RowKit

/-- Lists of keys, one in each cell. -/
def Ls (w : World) (a : Option Addr) (n : Nat) : Prop := ∀ i, i < n → ∃ b off a' l c', a = some ⟨b, off, none⟩ ∧ w.cell? ⟨b, off + i, none⟩ = some (.slice a' (l : List Int).length c') ∧ Ns w a' l ∧ l.length ≤ 1000000000000000 ∧ l.length ≤ c'
theorem Ls.below {w w' : World} {a : Option Addr} {n : Nat} (h : Ls w a n) (hb : Below w.heap.size w w') : Ls w' a n := fun i hi => by
  obtain ⟨b, off, a', l, c', e, hc, hn, h1, h2⟩ := h i hi
  exact ⟨b, off, a', l, c', e, by rw [← hc]; exact hb.cell (World.block_lt_of_cell? _ _ hc), hn.below hb, h1, h2⟩

def HvPost (w : World) (e : Ending) (w' : World) : Prop := (∃ R : Bool, e = .returned (.bool R)) ∧ Below w.heap.size w w'

set_option maxHeartbeats 800000 in
theorem heavy_any (a : Option Addr) (n c : Nat) (x1 x2 : Int) (b : Bool) (w : World) (h : Ls w a n) (hn : n ≤ 1000000000000000) :
    Calls Try.prog 5 #[.agg #[.slice a n c, .int .i64 x1, .int .i64 x2, .bool b]] w (HvPost w) := by
  have hb0 : Below w.heap.size w (w.alloc (.cells #[.slice a n c, .int .i64 x1, .int .i64 x2, .bool b] 24)) := (Below.refl _ _).alloc (Nat.le_refl _) _
  have hc0 := blk_cell (new_blk w #[.slice a n c, .int .i64 x1, .int .i64 x2, .bool b] 24) 0 (v := .slice a n c) rfl
  have HL := Lib.hid (h.below hb0)
  have HB := Lib.hid hb0
  clear h hb0
  go_enter Try.func5, Try.ntmps5
  go_wp2
  obtain ⟨W, hW⟩ : ∃ W, w.alloc (.cells #[.slice a n c, .int .i64 x1, .int .i64 x2, .bool b] 24) = W := ⟨_, rfl⟩
  rw [hW] at HL HB hc0 ⊢
  clear hW
  go_loop [3, 4] (fun v i => ∃ (z : Int) (k : Nat), 0 ≤ z ∧ z ≤ 2000000000000000 ∧ k ≤ n ∧ v = .int .i64 z ∧ i = .int .i64 k) (fun _ i => n - (intOf i).toNat)
  case atStart => exact ⟨n, 0, by omega, by omega, by omega, rfl, rfl⟩
  case round =>
    obtain ⟨z, k, hz0, hz1, hk, rfl, rfl⟩ := hrel
    by_cases hlt : k < n
    · have hltb : decide ((k : Int) < (n : Int)) = true := by simp; omega
      have hltb2 : decide (k < n) = true := by simp; omega
      obtain ⟨b', off, a', l, c', rfl, hc, _, hl, _⟩ := HL.out k hlt
      have hk0 : (0 : Int) ≤ (k : Int) := by omega
      have hk1 : (k : Int) < (n : Int) := by omega
      by_cases hz : z < 1048576
      · have hzb : decide (z < 1048576) = true := by simp; omega
        go_wp2
        go_round
        case rel => exact ⟨z + (l.length : Int), k + 1, by omega, by omega, by omega, rfl, by go_num⟩
        case measure => simp [intOf]; omega
      · have hzb : decide (z < 1048576) = false := by simp; omega
        go_wp2
        go_ret
        exact ⟨⟨_, rfl⟩, HB.out⟩
    · have hltb : decide ((k : Int) < (n : Int)) = false := by simp; omega
      have hltb2 : decide (k < n) = false := by simp; omega
      go_wp2
      go_ret
      exact ⟨⟨_, rfl⟩, HB.out⟩

end Go.Proofs.Ytogmhnpakjdpmaa
