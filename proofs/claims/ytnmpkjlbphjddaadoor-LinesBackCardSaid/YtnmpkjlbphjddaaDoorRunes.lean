/-
  The runes of a string, as a list of numbers: what the conversion of a string to runes lays.
-/
import Derived.Test.YtnmpkjlbphjddaaDoorPlain
import Derived.Laws.IdiomStrings
import Derived.Below
namespace Go.Proofs.YtnmpkjlbphjddaaDoor
open Go.RowKit

theorem decode_le (s : ByteArray) (i : Nat) : (Utf8.decode s i).1 ≤ 1114111 := by
  unfold Utf8.decode
  simp only
  split
  · omega
  · split
    · split
      · simp only; omega
      · simp [Utf8.runeError]
    · split
      · split
        · simp only; omega
        · simp [Utf8.runeError]
      · split
        · split
          · rename_i h
            simp only [ge_iff_le, Bool.and_eq_true, decide_eq_true_eq] at h
            have h2 := h.2
            unfold Utf8.valid at h2
            simp only [Bool.or_eq_true, Bool.and_eq_true, decide_eq_true_eq] at h2
            simp only
            omega
          · simp [Utf8.runeError]
        · simp [Utf8.runeError]

/-- A rune, as a value. -/
def RuneV (v : Value) : Prop := ∃ n : Nat, n ≤ 1114111 ∧ v = .int .i32 n

theorem runesFrom_runes (s : ByteArray) : ∀ (bound i : Nat) (acc : Array Value), (∀ v ∈ acc.toList, RuneV v) → ∀ v ∈ (Conv.runesFrom s bound i acc).toList, RuneV v
  | 0, _, acc, h => by simpa [Conv.runesFrom] using h
  | bound + 1, i, acc, h => by
    unfold Conv.runesFrom
    split
    · apply runesFrom_runes
      intro v hv
      simp only [Array.toList_push, List.mem_append, List.mem_singleton] at hv
      rcases hv with hv | hv
      · exact h v hv
      · exact ⟨_, decode_le s i, hv⟩
    · exact h

/-- The runes of a string. -/
def rn (s : ByteArray) : List Int := (Conv.runesFrom s s.size 0 #[]).toList.map intOf

theorem map_rune : ∀ l : List Value, (∀ v ∈ l, RuneV v) → (l.map intOf).map (Value.int .i32) = l
  | [], _ => rfl
  | v :: l, h => by
    obtain ⟨n, _, hv⟩ := h v (List.mem_cons_self ..)
    rw [List.map_cons, List.map_cons, map_rune l (fun x hx => h x (List.mem_cons_of_mem _ hx)), hv]
    rfl

theorem rn_toList (s : ByteArray) : (Conv.runesFrom s s.size 0 #[]).toList = (rn s).map (Value.int .i32) :=
  (map_rune _ (runesFrom_runes s s.size 0 #[] (by simp))).symm

theorem rn_size (s : ByteArray) : (Conv.runesFrom s s.size 0 #[]).size = (rn s).length := by
  rw [← Array.length_toList, rn_toList, List.length_map]

theorem rn_le (s : ByteArray) : (rn s).length ≤ s.size := by
  rw [← rn_size]
  simpa using size_runesFrom s s.size 0 #[]

theorem rn_mem (s : ByteArray) (x : Int) (hx : x ∈ rn s) : 0 ≤ x ∧ x ≤ 1114111 := by
  unfold rn at hx
  obtain ⟨v, hv, rfl⟩ := List.mem_map.1 hx
  obtain ⟨n, hn, rfl⟩ := runesFrom_runes s s.size 0 #[] (by simp) v hv
  simp only [intOf]; omega

theorem rn_range (s : ByteArray) (i : Nat) : 0 ≤ Pl.rd (rn s) i ∧ Pl.rd (rn s) i ≤ 1114111 := by
  unfold Pl.rd
  by_cases h : i < (rn s).length
  · have e : (rn s).getD i 0 = (rn s)[i] := by simp [h]
    rw [e]
    exact rn_mem s _ (List.getElem_mem h)
  · have e : (rn s).getD i 0 = 0 := by simp [List.getElem?_eq_none (show (rn s).length ≤ i by omega)]
    rw [e]; omega

theorem rn_get (s : ByteArray) (i : Nat) (h : i < (rn s).length) : (Conv.runesFrom s s.size 0 #[])[i]? = some (.int .i32 (Pl.rd (rn s) i)) := by
  rw [← Array.getElem?_toList, rn_toList]
  rw [List.getElem?_map, List.getElem?_eq_getElem h]
  simp [Pl.rd, h]

end Go.Proofs.YtnmpkjlbphjddaaDoor
