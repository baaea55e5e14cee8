/-
  The walk over what stands behind an operator.
-/
import Derived.Test.YtogmhnpakjdpmaaMotion
namespace Go.Proofs.Ytogmhnpakjdpmaa
open Go.RowKit

theorem keyP_cnt (l : List Int) (s : St) : (keyP l s).2.cnt = s.cnt := by
  unfold keyP
  split
  · rfl
  · split
    · rfl
    · split
      · rfl
      · split <;> rfl
theorem failP_cnt (e : Int) (l : List Int) (s : St) : (failP e l s).2.cnt = s.cnt := by
  show (if ov s then s else _).cnt = _
  split <;> rfl
theorem countF_cnt (most : Int) (l : List Int) : ∀ f n k s, (countF most f n k l s).2.cnt = s.cnt
  | 0, _, _, _ => rfl
  | f + 1, n, k, s => by
    unfold countF
    split
    · split
      · exact failP_cnt 2 l s
      · show (countF most f _ (keyP l s).1 l (keyP l s).2).2.cnt = _
        rw [countF_cnt most l f, keyP_cnt]
    · rfl
theorem motionB_cnt (k : Int) (l : List Int) (s : St) : (motionB k l s).2.cnt = s.cnt := by
  unfold motionB
  split
  · show ((if asksB k = true then _ else _ : P Unit) l { s with key := k }).2.cnt = _
    split
    · show (keyP l { s with key := k }).2.cnt = _; rw [keyP_cnt]
    · rfl
  · exact failP_cnt 5 l s
theorem motionP_cnt (k : Int) (l : List Int) (s : St) : (motionP k l s).2.cnt = s.cnt := by
  unfold motionP
  split
  · show (motionB _ l (keyP l s).2).2.cnt = _; rw [motionB_cnt, keyP_cnt]
  · exact motionB_cnt k l s
theorem objectP_cnt (k : Int) (l : List Int) (s : St) : (objectP k l s).2.cnt = s.cnt := by
  obtain ⟨⟨r, s1⟩, hR⟩ : ∃ R, keyP l { s with wide := k } = R := ⟨_, rfl⟩
  rw [objectP_eq hR]
  have h := keyP_cnt l { s with wide := k }
  rw [hR] at h
  split
  · exact h
  · rw [failP_cnt]; exact h

theorem countF_bd (most : Int) (l : List Int) (hm : most ≤ 999) : ∀ f n k s, 0 ≤ n → n ≤ 9999 → n ≤ most ∨ f = 0 → 0 ≤ k → k < 16777216 →
    0 ≤ (countF most f n k l s).1.1 ∧ (countF most f n k l s).1.1 ≤ 9999 ∧ 0 ≤ (countF most f n k l s).1.2 ∧ (countF most f n k l s).1.2 < 16777216
  | 0, n, k, s, h0, h1, _, h3, h4 => ⟨h0, h1, h3, h4⟩
  | f + 1, n, k, s, h0, h1, h2, h3, h4 => by
    unfold countF
    split
    · rename_i hd
      have hkk : 48 ≤ k ∧ k ≤ 57 := by
        unfold isD at hd
        simp only [Bool.or_eq_true, Bool.and_eq_true, decide_eq_true_eq, beq_iff_eq] at hd
        omega
      have h2' : n ≤ most := by rcases h2 with h | h; exact h; omega
      split
      · show 0 ≤ 10 * n + k - 48 ∧ 10 * n + k - 48 ≤ 9999 ∧ (0 : Int) ≤ 0 ∧ (0 : Int) < 16777216
        omega
      · have hb := keyP_bd l s
        exact countF_bd most l hm f _ _ _ (by omega) (by omega) (.inl (by omega)) hb.1 hb.2
    · exact ⟨h0, h1, h3, h4⟩
theorem countP_bd (most k : Int) (l : List Int) (s : St) (hm : 1 ≤ most ∧ most ≤ 999) (hk : 0 ≤ k ∧ k < 16777216) :
    0 ≤ (countP most k l s).1.1 ∧ (countP most k l s).1.1 ≤ 9999 ∧ 0 ≤ (countP most k l s).1.2 ∧ (countP most k l s).1.2 < 16777216 :=
  countF_bd most l hm.2 5 0 k s (by omega) (by omega) (.inl (by omega)) hk.1 hk.2

theorem operA_over {oper last k : Int} {l : List Int} {s : St} (h : ov s = true) : (operA oper last k l s).2 = s := by
  show ((if ov s = true then _ else _ : P Unit) l s).2 = _; rw [if_pos h]; rfl
theorem operA_last {oper last k : Int} {l : List Int} {s : St} (h : ov s = false) (h2 : k = last) : (operA oper last k l s).2 = { s with key := oper } := by
  show ((if ov s = true then _ else _ : P Unit) l s).2 = _; rw [if_neg (by simp [h]), if_pos h2]; rfl
theorem operA_obj {oper last k : Int} {l : List Int} {s : St} (h : ov s = false) (h2 : k ≠ last) (h3 : k = 105 ∨ k = 97) : (operA oper last k l s).2 = (objectP k l s).2 := by
  show ((if ov s = true then _ else _ : P Unit) l s).2 = _; rw [if_neg (by simp [h]), if_neg h2, if_pos h3]
theorem operA_mot {oper last k : Int} {l : List Int} {s : St} (h : ov s = false) (h2 : k ≠ last) (h3 : ¬ (k = 105 ∨ k = 97)) : (operA oper last k l s).2 = (motionP k l s).2 := by
  show ((if ov s = true then _ else _ : P Unit) l s).2 = _; rw [if_neg (by simp [h]), if_neg h2, if_neg h3]

theorem operZ_eq {most n : Int} {l : List Int} {s : St} : (operZ most n l s).2 = if most < (if 0 < n then max 1 s.cnt * n else s.cnt) then (failP 2 l (if 0 < n then { s with cnt := max 1 s.cnt * n } else s)).2 else if 0 < n then { s with cnt := max 1 s.cnt * n } else s := by
  unfold operZ
  show ((if most < (((if 0 < n then modP fun s => { s with cnt := max 1 s.cnt * n } else pureP ()) : P Unit) l s).2.cnt then failP 2 else pureP () : P Unit) l (((if 0 < n then modP fun s => { s with cnt := max 1 s.cnt * n } else pureP ()) : P Unit) l s).2).2 = _
  by_cases h : 0 < n
  · rw [if_pos h, if_pos h, if_pos h]
    show ((if most < max 1 s.cnt * n then failP 2 else pureP () : P Unit) l { s with cnt := max 1 s.cnt * n }).2 = _
    split <;> rfl
  · rw [if_neg h, if_neg h, if_neg h]
    show ((if most < s.cnt then failP 2 else pureP () : P Unit) l s).2 = _
    split <;> rfl

end Go.Proofs.Ytogmhnpakjdpmaa
