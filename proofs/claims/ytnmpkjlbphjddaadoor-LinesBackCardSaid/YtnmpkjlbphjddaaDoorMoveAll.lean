/-
  The program's motion by rows at every input: one contract.
-/
import Derived.Test.YtnmpkjlbphjddaaDoorMoveTo
namespace Go.Proofs.YtnmpkjlbphjddaaDoor
open Go.RowKit

theorem key_cases (key : Int) (h : lineB key = true) : key = 104 ∨ key = 108 ∨ key = 48 ∨ key = 94 ∨ key = 36 ∨ key = 106 ∨ key = 107 ∨ key = 43 ∨ key = 45 ∨ key = 95 ∨ key = 71 ∨ key = 16777319 := by
  unfold lineB keyL at h
  simpa only [List.contains_eq_mem, decide_eq_true_eq, List.mem_cons, List.not_mem_nil, or_false] using h

theorem move_any (s : ByteArray) (a key c : Int) (w : World) (hs : s.size ≤ 9223372036854775807) (hT : Tabs w) :
    Calls Tryd.prog 33 #[.string s, .int .i64 a, .int .i64 key, .int .i64 c] w (MovePost w (moveR s a key c)) := by
  unfold moveR
  by_cases hok : mayB s = true ∧ lineB key = true ∧ numB c 999 = true
  · obtain ⟨hm, hk, hc⟩ := hok
    by_cases hn : numB a (rn s).length = true
    · rw [if_pos ⟨hm, hn, hk, hc⟩]
      have hcc : 0 ≤ c ∧ c ≤ 999 := by unfold numB at hc; simpa using hc
      have haa : 0 ≤ a ∧ a ≤ (rn s).length := by unfold numB at hn; simpa using hn
      obtain ⟨k, rfl⟩ : ∃ k : Nat, c = k := ⟨c.toNat, by omega⟩
      obtain ⟨b, rfl⟩ : ∃ b : Nat, a = b := ⟨a.toNat, by omega⟩
      simp only [Int.toNat_natCast]
      have D := fun y hky => move_down s b k key y w hT hm hk (by omega) (by omega) hky
      have G := fun row hky => move_to s b k key row w hT hm hk (by omega) (by omega) hky
      have I := fun hky => move_in s b k key w hT hm hk (by omega) (by omega) hky
      rcases key_cases key hk with rfl | rfl | rfl | rfl | rfl | rfl | rfl | rfl | rfl | rfl | rfl | rfl
      · exact I (by omega)
      · exact I (by omega)
      · exact I (by omega)
      · exact I (by omega)
      · exact D _ (by omega)
      · exact D _ (by omega)
      · exact D _ (by omega)
      · exact D _ (by omega)
      · exact D _ (by omega)
      · exact D _ (by omega)
      · exact G _ (by omega)
      · exact G _ (by omega)
    · rw [if_neg (fun h => hn h.2.1)]
      exact move_off s a key c w hs hT hm hk hc (by simpa using hn)
  · rw [if_neg (fun h => hok ⟨h.1, h.2.2.1, h.2.2.2⟩)]
    exact move_bad s a key c w hs hT hok

end Go.Proofs.YtnmpkjlbphjddaaDoor
