/-
  The walks over what asks whether a text may be: the program's question and the reference's are one.
-/
import Derived.Test.YtnmpkjlbphjddaaDoorWalksD
import Derived.Test.YtnmpkjlbphjddaaDoorShelf
import Derived.Lib.IndexLaws
namespace Go.Proofs.YtnmpkjlbphjddaaDoor
open Go.RowKit

/-- The two tables of Go's unicode/utf8 hold what their text lays. -/
def Tabs (w : World) : Prop := Lib.Utf8Tabs 0 1 w
theorem Tabs.below {w w' : World} (h : Tabs w) (hb : Below w.heap.size w w') : Tabs w' := Utf8Tabs_below h hb

/-- No byte is nought. -/
def noNul (s : ByteArray) : Bool := decide (Lib.indexByte s.data.toList 0 < 0)
def wholeB (s : ByteArray) : Bool := Lib.validD s.data.toList && noNul s
def mayB (s : ByteArray) : Bool := decide (s.size ≤ 4000) && wholeB s

theorem valid_any (s : ByteArray) (w : World) (hs : s.size ≤ 9223372036854775807) (hT : Tabs w) :
    Calls Tryd.prog 45 #[.string s] w fun e w' => e = .returned (.bool (Lib.validD s.data.toList)) ∧ Below w.heap.size w w' :=
  Tryd.utf8_ValidString s w hs hT

set_option maxHeartbeats 400000 in
theorem whole_any (s : ByteArray) (w : World) (hs : s.size ≤ 9223372036854775807) (hT : Tabs w) :
    Calls Tryd.prog 59 #[.string s] w fun e w' => e = .returned (.bool (wholeB s)) ∧ Below w.heap.size w w' := by
  have cV := valid_any s w hs hT
  have cI := fun (W : World) => Tryd.strings_IndexByte s 0 W
  have hW : wholeB s = (Lib.validD s.data.toList && decide (Lib.indexByte s.data.toList 0 < 0)) := rfl
  rw [show (0 : Int).toNat.toUInt8 = 0 from rfl] at cI
  obtain ⟨V, hV⟩ : ∃ V, Lib.validD s.data.toList = V := ⟨_, rfl⟩
  obtain ⟨I, hI⟩ : ∃ I, Lib.indexByte s.data.toList 0 = I := ⟨_, rfl⟩
  rw [hV] at cV hW
  simp only [hI] at cI hW
  clear hV hI
  cases V with
  | false =>
    have HW : Hid (wholeB s = false) := hW
    clear hW cI
    go_enter Tryd.func59, Tryd.ntmps59
    go_wp2_with (go_at_call 45; refine cV.mono ?_; rintro e w' ⟨rfl, hb⟩)
    go_ret
    exact ⟨ret_bool HW.out.symm, hb⟩
  | true =>
    have HW := Lib.hid hW
    clear hW
    go_enter Tryd.func59, Tryd.ntmps59
    go_wp2_with (first | (go_at_call 45; refine cV.mono ?_; rintro e w' ⟨rfl, hb⟩) | (go_at_call 67; refine (cI _).mono ?_; rintro e w' ⟨rfl, rfl⟩))
    go_ret
    exact ⟨ret_bool (by rw [HW.out]; rfl), hb⟩

theorem may_any (s : ByteArray) (w : World) (hs : s.size ≤ 9223372036854775807) (hT : Tabs w) :
    Calls Tryd.prog 41 #[.string s] w fun e w' => e = .returned (.bool (mayB s)) ∧ Below w.heap.size w w' := by
  have cW := whole_any s w hs hT
  have hM : mayB s = (decide (s.size ≤ 4000) && wholeB s) := rfl
  by_cases hle : s.size ≤ 4000
  · have hleb : decide ((s.size : Int) ≤ 4000) = true := by simp; omega
    rw [decide_eq_true hle, Bool.true_and] at hM
    have HM := Lib.hid hM
    clear hM
    go_enter Tryd.func41, Tryd.ntmps41
    go_wp2_with (go_at_call 59; refine cW.mono ?_; rintro e w' ⟨rfl, hb⟩)
    go_ret
    exact ⟨ret_bool HM.out.symm, hb⟩
  · have hleb : decide ((s.size : Int) ≤ 4000) = false := by simp; omega
    rw [decide_eq_false hle, Bool.false_and] at hM
    have HM := Lib.hid hM
    clear hM
    go_enter Tryd.func41, Tryd.ntmps41
    go_wp2
    go_ret
    exact ⟨ret_bool HM.out.symm, Below.refl _ _⟩

theorem noNul_of (s : ByteArray) (h : ∀ k, (hk : k < s.size) → s[k] ≠ 0) : noNul s = true := by
  unfold noNul
  have := Lib.indexByte_ge s.data.toList 0
  have hn : ¬ 0 ≤ Lib.indexByte s.data.toList 0 := by
    intro h0
    obtain ⟨o, ho⟩ := Int.eq_ofNat_of_zero_le h0
    have h1 := (Lib.indexByte_some (l := s.data.toList) (c := 0) (o := o) ho).1
    obtain ⟨hlt, he⟩ := List.getElem?_eq_some_iff.1 h1
    have he' : s.data[o]'(by simpa using hlt) = 0 := by simpa using he
    exact h o (by simpa using hlt) he'
  simp; omega

theorem noNul_no (s : ByteArray) (k : Nat) (hk : k < s.size) (h : s[k] = 0) : noNul s = false := by
  unfold noNul
  simp only [decide_eq_false_iff_not, Int.not_lt]
  have := Lib.indexByte_ge s.data.toList 0
  by_cases e : Lib.indexByte s.data.toList 0 = -1
  · exfalso
    have h1 := Lib.indexByte_none e k
    apply h1
    rw [List.getElem?_eq_some_iff]
    have h' : s.data[k]'(by simpa using hk) = 0 := h
    exact ⟨by simpa using hk, by simpa using h'⟩
  · omega

set_option maxHeartbeats 400000 in
theorem refMay_any (s : ByteArray) (w : World) (hs : s.size ≤ 9223372036854775807) (hT : Tabs w) :
    Calls Tryd.prog 25 #[.string s] w fun e w' => e = .returned (.bool (mayB s)) ∧ Below w.heap.size w w' := by
  have cV := valid_any s w hs hT
  have hM : mayB s = (decide (s.size ≤ 4000) && (Lib.validD s.data.toList && noNul s)) := rfl
  by_cases hle : s.size ≤ 4000
  · have hleb : decide ((4000 : Int) < (s.size : Int)) = false := by simp; omega
    rw [decide_eq_true hle, Bool.true_and] at hM
    obtain ⟨V, hV⟩ : ∃ V, Lib.validD s.data.toList = V := ⟨_, rfl⟩
    rw [hV] at cV hM
    clear hV
    cases V with
    | false =>
      have HM : Hid (mayB s = false) := hM
      clear hM
      go_enter Tryd.func25, Tryd.ntmps25
      go_wp2_with (go_at_call 45; refine cV.mono ?_; rintro e w' ⟨rfl, hb⟩)
      go_ret
      exact ⟨ret_bool HM.out.symm, hb⟩
    | true =>
      rw [Bool.true_and] at hM
      have HM := Lib.hid hM
      clear hM
      go_enter Tryd.func25, Tryd.ntmps25
      go_wp2_with (go_at_call 45; refine cV.mono ?_; rintro e w' ⟨rfl, hb⟩)
      clear cV
      go_loop [3] (fun i => ∃ k : Nat, k ≤ s.size ∧ Hid (∀ j, (hj : j < s.size) → j < k → s[j] ≠ 0) ∧ i = .int .i64 k) (fun i => s.size - (intOf i).toNat)
      case atStart => exact ⟨0, Nat.zero_le _, fun j _ h => absurd h (Nat.not_lt_zero _), rfl⟩
      case round =>
        obtain ⟨k, hk, hH, rfl⟩ := hrel
        by_cases hlt : k < s.size
        · have hltb : decide ((k : Int) < (s.size : Int)) = true := by simp; omega
          obtain ⟨x, hx⟩ : ∃ x, s[k] = x := ⟨_, rfl⟩
          by_cases h0 : x = 0
          · have HN := Lib.hid (noNul_no s k hlt (hx.trans h0))
            have h0b : ((s[k].toNat : Int) == 0) = true := by rw [hx, h0]; rfl
            clear hx h0
            go_wp2
            go_ret
            exact ⟨ret_bool (by rw [HM.out, HN.out]), hb⟩
          · have h0b : ((s[k].toNat : Int) == 0) = false := by
              rw [hx]
              have : x.toNat ≠ 0 := fun e => h0 (UInt8.toNat_inj.1 (by simpa using e))
              simp; omega
            have HN : Hid (∀ j, (hj : j < s.size) → j < k + 1 → s[j] ≠ 0) := by
              intro j hj hjk e
              by_cases e1 : j = k
              · subst e1; exact h0 (hx.symm.trans e)
              · exact hH.out j hj (by omega) e
            clear hx h0
            go_wp2
            go_round
            case rel => exact ⟨k + 1, by omega, HN, by go_num⟩
            case measure => simp [intOf]; omega
        · have hltb : decide ((k : Int) < (s.size : Int)) = false := by simp; omega
          have HN := Lib.hid (noNul_of s (fun j hj => hH.out j hj (by omega)))
          go_wp2
          go_ret
          exact ⟨ret_bool (by rw [HM.out, HN.out]), hb⟩
  · have hleb : decide ((4000 : Int) < (s.size : Int)) = true := by simp; omega
    rw [decide_eq_false hle, Bool.false_and] at hM
    have HM := Lib.hid hM
    clear hM
    go_enter Tryd.func25, Tryd.ntmps25
    go_wp2
    go_ret
    exact ⟨ret_bool HM.out.symm, Below.refl _ _⟩

end Go.Proofs.YtnmpkjlbphjddaaDoor
