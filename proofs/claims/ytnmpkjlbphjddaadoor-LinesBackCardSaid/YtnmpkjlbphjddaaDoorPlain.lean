/-
  Plain lists, no program: rows of a text as a list of runes: where a row begins and ends, its first rune that is no blank, the begins of all rows.
-/
namespace Go.Proofs.YtnmpkjlbphjddaaDoor.Pl

/-- The a-th rune. -/
def rd (t : List Int) (a : Nat) : Int := t.getD a 0
/-- The i-th of a list of offsets. -/
def nd (l : List Nat) (i : Nat) : Nat := l.getD i 0

theorem nd_left (l m : List Nat) (i : Nat) (h : i < l.length) : nd (l ++ m) i = nd l i := by
  simp [nd, List.getElem?_append_left h]
theorem nd_right (l m : List Nat) (i : Nat) (h : l.length ≤ i) : nd (l ++ m) i = nd m (i - l.length) := by
  simp [nd, List.getElem?_append_right h]
theorem nd_zero (x : Nat) (l : List Nat) : nd (x :: l) 0 = x := rfl

/-- The class of a rune. -/
def cls (r : Int) : Int :=
  if r = 32 ∨ r = 9 then 0
  else if 97 ≤ r ∧ r ≤ 122 ∨ 65 ≤ r ∧ r ≤ 90 ∨ 48 ≤ r ∧ r ≤ 57 ∨ r = 95 ∨ 128 ≤ r then 1
  else 2

theorem cls_0 (r : Int) (h : r = 32 ∨ r = 9) : 0 = cls r := by unfold cls; rw [if_pos h]
theorem cls_1 (r : Int) (h : 97 ≤ r ∧ r ≤ 122 ∨ 65 ≤ r ∧ r ≤ 90 ∨ 48 ≤ r ∧ r ≤ 57 ∨ r = 95 ∨ 128 ≤ r) : 1 = cls r := by
  unfold cls; rw [if_neg (by omega), if_pos h]
theorem cls_2 (r : Int) (h : ¬ (r = 32 ∨ r = 9)) (g : ¬ (97 ≤ r ∧ r ≤ 122 ∨ 65 ≤ r ∧ r ≤ 90 ∨ 48 ≤ r ∧ r ≤ 57 ∨ r = 95 ∨ 128 ≤ r)) : 2 = cls r := by
  unfold cls; rw [if_neg h, if_neg g]

/-- Where the row of an offset begins. -/
def bgn (t : List Int) : Nat → Nat
  | 0 => 0
  | a + 1 => if rd t a = 10 then a + 1 else bgn t a

/-- Where the row of an offset ends: fuel is what is left. -/
def endF (t : List Int) : Nat → Nat → Nat
  | 0, a => a
  | k + 1, a => if rd t a = 10 then a else endF t k (a + 1)

def endN (t : List Int) (a : Nat) : Nat := endF t (t.length - a) a

def firF (t : List Int) : Nat → Nat → Nat
  | 0, a => a
  | k + 1, a => if rd t a = 10 ∨ cls (rd t a) ≠ 0 then a else firF t k (a + 1)

/-- The first rune that is no blank, from an offset on. -/
def firN (t : List Int) (a : Nat) : Nat := firF t (t.length - a) a

/-- How many newlines stand ahead of an offset. -/
def rowN (t : List Int) : Nat → Nat
  | 0 => 0
  | a + 1 => rowN t a + if rd t a = 10 then 1 else 0

/-- The begins of the rows behind the first one, of the first k runes. -/
def bgs (t : List Int) : Nat → List Nat
  | 0 => [0]
  | k + 1 => bgs t k ++ if rd t k = 10 then [k + 1] else []

def begins (t : List Int) : List Nat := bgs t t.length

theorem bgn_le (t : List Int) (a : Nat) : bgn t a ≤ a := by
  induction a with
  | zero => simp [bgn]
  | succ a ih => unfold bgn; split <;> omega

theorem endF_le (t : List Int) : ∀ k a, a ≤ endF t k a ∧ endF t k a ≤ a + k
  | 0, a => by simp [endF]
  | k + 1, a => by
    have := endF_le t k (a + 1)
    unfold endF; split <;> omega

theorem endN_ge (t : List Int) (a : Nat) : a ≤ endN t a := (endF_le t _ a).1
theorem endN_le (t : List Int) (a : Nat) (h : a ≤ t.length) : endN t a ≤ t.length := by
  have := (endF_le t (t.length - a) a).2
  unfold endN; omega

theorem endN_at (t : List Int) (a : Nat) (h : rd t a = 10) : endN t a = a := by
  unfold endN
  cases t.length - a with
  | zero => rfl
  | succ k => simp only [endF]; rw [if_pos h]

theorem endN_len (t : List Int) (a : Nat) (h : t.length ≤ a) : endN t a = a := by
  unfold endN
  rw [show t.length - a = 0 by omega]; rfl

theorem endN_step (t : List Int) (a : Nat) (h : a < t.length) (h10 : rd t a ≠ 10) : endN t a = endN t (a + 1) := by
  unfold endN
  obtain ⟨k, hk⟩ : ∃ k, t.length - a = k + 1 := ⟨t.length - a - 1, by omega⟩
  rw [hk, show t.length - (a + 1) = k by omega]
  simp only [endF]; rw [if_neg h10]

theorem firF_le (t : List Int) : ∀ k a, a ≤ firF t k a ∧ firF t k a ≤ a + k
  | 0, a => by simp [firF]
  | k + 1, a => by
    have := firF_le t k (a + 1)
    unfold firF; split <;> omega

theorem firN_ge (t : List Int) (a : Nat) : a ≤ firN t a := (firF_le t _ a).1
theorem firN_le (t : List Int) (a : Nat) (h : a ≤ t.length) : firN t a ≤ t.length := by
  have := (firF_le t (t.length - a) a).2
  unfold firN; omega

theorem firN_stop (t : List Int) (a : Nat) (h : t.length ≤ a ∨ rd t a = 10 ∨ cls (rd t a) ≠ 0) : firN t a = a := by
  unfold firN
  rcases h with h | h
  · rw [show t.length - a = 0 by omega]; rfl
  · cases t.length - a with
    | zero => rfl
    | succ k => simp only [firF]; rw [if_pos h]

theorem firN_step (t : List Int) (a : Nat) (h : a < t.length) (h10 : rd t a ≠ 10) (h0 : cls (rd t a) = 0) : firN t a = firN t (a + 1) := by
  unfold firN
  obtain ⟨k, hk⟩ : ∃ k, t.length - a = k + 1 := ⟨t.length - a - 1, by omega⟩
  rw [hk, show t.length - (a + 1) = k by omega]
  simp only [firF]; rw [if_neg (fun e => e.elim h10 (fun f => f h0))]

theorem bgn_at (t : List Int) (a : Nat) (h : rd t a = 10) : bgn t (a + 1) = a + 1 := by simp only [bgn]; rw [if_pos h]
theorem bgn_step (t : List Int) (a : Nat) (h : rd t a ≠ 10) : bgn t (a + 1) = bgn t a := by
  rw [bgn]; rw [if_neg h]

theorem rowN_le (t : List Int) (a : Nat) : rowN t a ≤ a := by
  induction a with
  | zero => simp [rowN]
  | succ a ih => unfold rowN; split <;> omega

theorem rowN_mono (t : List Int) {a b : Nat} (h : a ≤ b) : rowN t a ≤ rowN t b := by
  induction b with
  | zero => rw [show a = 0 by omega]; exact Nat.le_refl _
  | succ b ih =>
    by_cases e : a = b + 1
    · rw [e]; exact Nat.le_refl _
    · have := ih (by omega)
      rw [show rowN t (b + 1) = rowN t b + if t.getD b 0 = 10 then 1 else 0 from rfl]; omega

theorem bgs_length (t : List Int) (k : Nat) : (bgs t k).length = rowN t k + 1 := by
  induction k with
  | zero => rfl
  | succ k ih =>
    unfold bgs rowN
    rw [List.length_append, ih]
    split <;> simp

theorem begins_length (t : List Int) : (begins t).length = rowN t t.length + 1 := bgs_length t _

theorem bgs_mem_le (t : List Int) (k : Nat) : ∀ i, i < (bgs t k).length → nd (bgs t k) i ≤ k := by
  induction k with
  | zero =>
    intro i hi
    have : i = 0 := by simp [bgs] at hi; exact hi
    subst this; exact Nat.le_refl _
  | succ k ih =>
    intro i hi
    unfold bgs at hi ⊢
    by_cases h : i < (bgs t k).length
    · rw [nd_left _ _ _ h]; have := ih i h; omega
    · rw [nd_right _ _ _ (by omega)]
      split <;> rename_i h10
      · rw [if_pos h10] at hi
        simp at hi
        rw [show i - (bgs t k).length = 0 by omega]; exact Nat.le_refl _
      · exact Nat.zero_le _

/-- The i-th row of the first k runes begins where the row of any of its offsets begins. -/
theorem bgs_row (t : List Int) (k : Nat) : ∀ a, a ≤ k → nd (bgs t k) (rowN t a) = bgn t a := by
  induction k with
  | zero => intro a ha; rw [show a = 0 by omega]; rfl
  | succ k ih =>
    intro a ha
    unfold bgs
    by_cases e : a = k + 1
    · subst e
      by_cases h10 : rd t k = 10
      · rw [if_pos h10, bgn_at t k h10]
        have hl := bgs_length t k
        rw [show rowN t (k + 1) = rowN t k + 1 by show rowN t k + _ = _; rw [if_pos h10], nd_right _ _ _ (by omega), hl, Nat.sub_self]; rfl
      · rw [if_neg h10, List.append_nil, bgn_step t k h10]
        rw [show rowN t (k + 1) = rowN t k by show rowN t k + _ = _; rw [if_neg h10]; rfl]
        exact ih k (Nat.le_refl _)
    · have hl := bgs_length t k
      have := rowN_mono t (show a ≤ k by omega)
      rw [nd_left _ _ _ (by omega)]
      exact ih a (by omega)

/-- Where a row begins: one offset in it has that very row. -/
theorem rowN_bgs (t : List Int) (k : Nat) : ∀ i, i < (bgs t k).length → rowN t (nd (bgs t k) i) = i ∧ bgn t (nd (bgs t k) i) = nd (bgs t k) i := by
  induction k with
  | zero =>
    intro i hi
    have : i = 0 := by simp [bgs] at hi; exact hi
    subst this; exact ⟨rfl, rfl⟩
  | succ k ih =>
    intro i hi
    unfold bgs at hi ⊢
    by_cases h : i < (bgs t k).length
    · rw [nd_left _ _ _ h]; exact ih i h
    · rw [nd_right _ _ _ (by omega)]
      by_cases h10 : rd t k = 10
      · rw [if_pos h10] at hi ⊢
        simp at hi
        have hl := bgs_length t k
        rw [show i - (bgs t k).length = 0 by omega]
        simp only [nd_zero]
        refine ⟨?_, bgn_at t k h10⟩
        show rowN t k + _ = _; rw [if_pos h10]; omega
      · rw [if_neg h10] at hi; simp at hi; omega

/-- How many rows there are. -/
def rows (t : List Int) : Nat := (begins t).length

theorem rows_eq (t : List Int) : rows t = rowN t t.length + 1 := begins_length t
theorem rowN_lt (t : List Int) (a : Nat) (h : a ≤ t.length) : rowN t a < rows t := by
  have := rowN_mono t h
  rw [rows_eq]; omega

theorem begins_row (t : List Int) (a : Nat) (h : a ≤ t.length) : nd (begins t) (rowN t a) = bgn t a := bgs_row t _ a h
theorem rowN_begins (t : List Int) (i : Nat) (h : i < rows t) : rowN t (nd (begins t) i) = i := (rowN_bgs t _ i h).1
theorem bgn_begins (t : List Int) (i : Nat) (h : i < rows t) : bgn t (nd (begins t) i) = nd (begins t) i := (rowN_bgs t _ i h).2
theorem begins_le (t : List Int) (i : Nat) (h : i < rows t) : nd (begins t) i ≤ t.length := bgs_mem_le t _ i h
theorem begins_zero (t : List Int) : nd (begins t) 0 = 0 := by
  have := begins_row t 0 (Nat.zero_le _)
  exact this
theorem rowN_bgn (t : List Int) (a : Nat) (h : a ≤ t.length) : rowN t (bgn t a) = rowN t a := by
  rw [← begins_row t a h]; exact rowN_begins t _ (rowN_lt t a h)
theorem bgn_bgn (t : List Int) (a : Nat) (h : a ≤ t.length) : bgn t (bgn t a) = bgn t a := by
  rw [← begins_row t a h]; exact bgn_begins t _ (rowN_lt t a h)

theorem rowN_succ_at (t : List Int) (a : Nat) (h : rd t a = 10) : rowN t (a + 1) = rowN t a + 1 := by
  show rowN t a + _ = _; rw [if_pos h]
theorem rowN_succ_no (t : List Int) (a : Nat) (h : rd t a ≠ 10) : rowN t (a + 1) = rowN t a := by
  show rowN t a + _ = _; rw [if_neg h]; rfl

/-- The end of the row of an offset, and the row below. -/
theorem end_next (t : List Int) : ∀ d a, t.length - a = d → a ≤ t.length →
    (rowN t a + 1 < rows t ∧ endN t a + 1 = nd (begins t) (rowN t a + 1) ∧ endN t a < t.length ∧ rowN t (endN t a) = rowN t a) ∨
    (rowN t a + 1 = rows t ∧ endN t a = t.length)
  | 0, a, hd, ha => by
    have e : a = t.length := by omega
    subst e
    exact .inr ⟨(rows_eq t).symm, endN_len t _ (Nat.le_refl _)⟩
  | d + 1, a, hd, ha => by
    by_cases h10 : rd t a = 10
    · have h1 := rowN_succ_at t a h10
      have h2 := rowN_lt t (a + 1) (by omega)
      have h3 := begins_row t (a + 1) (by omega)
      rw [h1, bgn_at t a h10] at h3
      rw [endN_at t a h10]
      exact .inl ⟨by omega, by omega, by omega, rfl⟩
    · have h1 := rowN_succ_no t a h10
      have h2 := end_next t d (a + 1) (by omega) (by omega)
      rw [h1, ← endN_step t a (by omega) h10] at h2
      exact h2

theorem endN_next (t : List Int) (a : Nat) (ha : a ≤ t.length) (h : rowN t a + 1 < rows t) : endN t a + 1 = nd (begins t) (rowN t a + 1) ∧ endN t a < t.length := by
  rcases end_next t _ a rfl ha with g | g
  · exact ⟨g.2.1, g.2.2.1⟩
  · omega
theorem endN_last (t : List Int) (a : Nat) (ha : a ≤ t.length) (h : rows t ≤ rowN t a + 1) : endN t a = t.length := by
  rcases end_next t _ a rfl ha with g | g
  · omega
  · exact g.2
theorem rowN_end (t : List Int) (a : Nat) (ha : a ≤ t.length) : rowN t (endN t a) = rowN t a := by
  rcases end_next t _ a rfl ha with g | g
  · exact g.2.2.2
  · rw [g.2]; have := rows_eq t; omega

theorem begins_ahead (t : List Int) : ∀ a, 0 < bgn t a → rd t (bgn t a - 1) = 10
  | 0, h => by simp [bgn] at h
  | a + 1, h => by
    by_cases h10 : rd t a = 10
    · rw [bgn_at t a h10]; exact h10
    · rw [bgn_step t a h10] at h ⊢
      exact begins_ahead t a h

/-- One row up. -/
theorem row_up (t : List Int) (a : Nat) (ha : a ≤ t.length) (h : 0 < bgn t a) : rowN t (bgn t a - 1) + 1 = rowN t a := by
  have h10 := begins_ahead t a h
  have h1 := rowN_succ_at t (bgn t a - 1) h10
  rw [show bgn t a - 1 + 1 = bgn t a by omega, rowN_bgn t a ha] at h1
  omega
theorem row_zero (t : List Int) (a : Nat) (ha : a ≤ t.length) (h : bgn t a = 0) : rowN t a = 0 := by
  rw [← rowN_bgn t a ha, h]; rfl

/-- The begin of a row so many below (above); -1: there is none. -/
def rowI (t : List Int) (a : Nat) (y : Int) : Int :=
  if 0 ≤ (rowN t a : Int) + y ∧ (rowN t a : Int) + y < rows t then (nd (begins t) ((rowN t a : Int) + y).toNat : Nat) else -1
/-- The begin of a row; -1: there is none. -/
def startI (t : List Int) (y : Int) : Int := if 0 ≤ y ∧ y < rows t then (nd (begins t) y.toNat : Nat) else -1

theorem begins_le_iff (t : List Int) (a i : Nat) (ha : a ≤ t.length) (hi : i < rows t) : nd (begins t) i ≤ a ↔ i ≤ rowN t a := by
  have h1 := rowN_begins t i hi
  constructor
  · intro h
    have := rowN_mono t h
    omega
  · intro h
    by_cases e : i = rowN t a
    · rw [e, begins_row t a ha]; exact bgn_le t a
    · by_cases g : nd (begins t) i ≤ a
      · exact g
      · have := rowN_mono t (show a ≤ nd (begins t) i by omega)
        omega

theorem endN_bgn (t : List Int) (a : Nat) (ha : a ≤ t.length) : endN t (bgn t a) = endN t a := by
  have hb := bgn_le t a
  have hr := rowN_bgn t a ha
  rcases end_next t _ a rfl ha with g | g <;> rcases end_next t _ (bgn t a) rfl (by omega) with f | f <;> rw [hr] at f <;> omega

theorem endN_lt (t : List Int) (k : Nat) (h : k < endN t k) : k < t.length ∧ rd t k ≠ 10 ∧ endN t (k + 1) = endN t k := by
  have h1 : k < t.length := by
    by_cases e : k < t.length
    · exact e
    · rw [endN_len t k (by omega)] at h; omega
  have h2 : rd t k ≠ 10 := fun e => by rw [endN_at t k e] at h; omega
  exact ⟨h1, h2, (endN_step t k h1 h2).symm⟩

theorem endN_self (t : List Int) (k : Nat) (h : endN t k = k) : t.length ≤ k ∨ rd t k = 10 := by
  by_cases h1 : t.length ≤ k
  · exact .inl h1
  · by_cases h2 : rd t k = 10
    · exact .inr h2
    · have := endN_step t k (by omega) h2
      have := endN_ge t (k + 1)
      omega

/-- The end of a row, by the begins. -/
theorem endN_row (t : List Int) (i : Nat) (hi : i < rows t) : endN t (nd (begins t) i) = if i + 1 < rows t then nd (begins t) (i + 1) - 1 else t.length := by
  have h1 := rowN_begins t i hi
  have h2 := begins_le t i hi
  rcases end_next t _ _ rfl h2 with g | g
  · rw [h1] at g; rw [if_pos g.1]; omega
  · rw [h1] at g; rw [if_neg (by omega)]; exact g.2

theorem firN_endN (t : List Int) (k : Nat) (hk : k ≤ t.length) : firN t k ≤ endN t k := by
  have key : ∀ d k, t.length - k = d → k ≤ t.length → firN t k ≤ endN t k := by
    intro d
    induction d with
    | zero => intro k hd hk; rw [firN_stop t k (.inl (by omega))]; exact endN_ge t k
    | succ d ih =>
      intro k hd hk
      by_cases h10 : rd t k = 10
      · rw [firN_stop t k (.inr (.inl h10))]; exact endN_ge t k
      · by_cases h0 : cls (rd t k) = 0
        · rw [firN_step t k (by omega) h10 h0, endN_step t k (by omega) h10]
          exact ih (k + 1) (by omega) (by omega)
        · rw [firN_stop t k (.inr (.inr h0))]; exact endN_ge t k
  exact key _ k rfl hk

end Go.Proofs.YtnmpkjlbphjddaaDoor.Pl
