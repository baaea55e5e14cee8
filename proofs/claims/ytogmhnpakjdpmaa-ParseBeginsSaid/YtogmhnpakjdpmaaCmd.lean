/-
  The walks over the parser's commands: a letter, what stands behind g, a command of normal mode, a command whole.
-/
import Derived.Test.YtogmhnpakjdpmaaOperW
namespace Go.Proofs.Ytogmhnpakjdpmaa
open Go.RowKit

theorem letterP_q {k : Int} {rec : Bool} {l : List Int} {s : St} (h : k = 113 ∧ rec = true) : (letterP k rec l s).2 = { s with key := k } := by
  unfold letterP; show ((if k = 113 ∧ rec = true then _ else _ : P Unit) l { s with key := k }).2 = _; rw [if_pos h]; rfl
theorem letterP_eq {k r : Int} {rec : Bool} {l : List Int} {s s1 : St} (h : ¬ (k = 113 ∧ rec = true)) (hR : keyP l { s with key := k } = (r, s1)) :
    (letterP k rec l s).2 = ((if r < 97 ∨ 122 < r then failP 5 else pureP () : P Unit) l { s1 with rune := r }).2 := by
  unfold letterP; show ((if k = 113 ∧ rec = true then _ else _ : P Unit) l { s with key := k }).2 = _; rw [if_neg h]
  show ((if (keyP l { s with key := k }).1 < 97 ∨ 122 < (keyP l { s with key := k }).1 then failP 5 else pureP () : P Unit) l { (keyP l { s with key := k }).2 with rune := (keyP l { s with key := k }).1 }).2 = _
  rw [hR]

section
variable {w0 w : World} {pb : Nat} {a : Option Addr} {l : List Int} {c : Nat} {most : Int} {s : St}

set_option maxHeartbeats 2000000 in
theorem letter_at (k : Int) (rec : Bool) (hl : l.length ≤ 1000000000000000) (h : At w0 w pb a l c most s) :
    Calls Try.prog 23 #[.pointer (some ⟨pb, 0, none⟩), .int .i64 k, .bool rec] w fun e w' => (∃ v, e = .returned v) ∧ At w0 w' pb a l c most (letterP k rec l s).2 := by
  obtain ⟨F, hF⟩ : ∃ F, (letterP k rec l s).2 = F := ⟨_, rfl⟩
  rw [hF]
  have hx6 := h.p.c6
  have hf6 := h.p.free 6
  have hA0 := h.s6 k
  by_cases hq : k = 113 ∧ rec = true
  · have HF := Lib.hid ((letterP_q hq).symm.trans hF)
    obtain ⟨hq1, rfl⟩ := hq
    have hkb : (k == 113) = true := by simp [hq1]
    clear hq1 hF
    go_enter Try.func23, Try.ntmps23
    go_wp2
    first | go_end0 | (simp only [Exit.inBlock, Exit.then]; refine bodyPost_ret (results_none rfl _ _ _) rfl ?_) | refine bodyPost_ret (results_none rfl _ _ _) rfl ?_
    exact ⟨⟨_, rfl⟩, HF.out ▸ hA0⟩
  · obtain ⟨⟨r, s1⟩, hR⟩ : ∃ R, keyP l { s with key := k } = R := ⟨_, rfl⟩
    have hF2 := (letterP_eq hq hR).symm.trans hF
    have cK := fun W (hw : At w0 W pb a l c most { s with key := k }) => key_told hl hR W hw
    clear hF hR
    have hcond : (k == 113) = false ∨ ((k == 113) = true ∧ rec = false) := by
      by_cases h1 : k = 113
      · right; exact ⟨by simp [h1], by simpa [h1] using hq⟩
      · left; simp [h1]
    clear hq
    rcases hcond with hkb | ⟨hkb, rfl⟩
    all_goals
      rcases (show r < 97 ∨ (¬ r < 97 ∧ 122 < r) ∨ (¬ r < 97 ∧ ¬ 122 < r) by omega) with h1 | ⟨h1, h2⟩ | ⟨h1, h2⟩
      · rw [if_pos (.inl h1)] at hF2
        have HF := Lib.hid hF2
        have t1 : decide (r < 97) = true := by simp; omega
        clear h1 hF2
        go_enter Try.func23, Try.ntmps23
        go_wp2_with (first
          | (go_at_call 11; refine (cK _ hA0).mono ?_; rintro e w2 ⟨rfl, hA2⟩; have hx8 := hA2.p.c8; have hf8 := hA2.p.free 8; have hA3 := hA2.s8 r)
          | (go_at_call 13; refine (fail_at 5 hA3).mono ?_; rintro e w4 ⟨⟨v, rfl⟩, hA4⟩))
        first | go_end0 | (simp only [Exit.inBlock, Exit.then]; refine bodyPost_ret (results_none rfl _ _ _) rfl ?_) | refine bodyPost_ret (results_none rfl _ _ _) rfl ?_
        exact ⟨⟨_, rfl⟩, HF.out ▸ hA4⟩
      · rw [if_pos (.inr h2)] at hF2
        have HF := Lib.hid hF2
        have t1 : decide (r < 97) = false := by simp; omega
        have t2 : decide (122 < r) = true := by simp; omega
        clear h1 h2 hF2
        go_enter Try.func23, Try.ntmps23
        go_wp2_with (first
          | (go_at_call 11; refine (cK _ hA0).mono ?_; rintro e w2 ⟨rfl, hA2⟩; have hx8 := hA2.p.c8; have hf8 := hA2.p.free 8; have hA3 := hA2.s8 r)
          | (go_at_call 13; refine (fail_at 5 hA3).mono ?_; rintro e w4 ⟨⟨v, rfl⟩, hA4⟩))
        first | go_end0 | (simp only [Exit.inBlock, Exit.then]; refine bodyPost_ret (results_none rfl _ _ _) rfl ?_) | refine bodyPost_ret (results_none rfl _ _ _) rfl ?_
        exact ⟨⟨_, rfl⟩, HF.out ▸ hA4⟩
      · rw [if_neg (by omega)] at hF2
        have HF := Lib.hid (show { s1 with rune := r } = F from hF2)
        have t1 : decide (r < 97) = false := by simp; omega
        have t2 : decide (122 < r) = false := by simp; omega
        clear h1 h2 hF2
        go_enter Try.func23, Try.ntmps23
        go_wp2_with (go_at_call 11; refine (cK _ hA0).mono ?_; rintro e w2 ⟨rfl, hA2⟩; have hx8 := hA2.p.c8; have hf8 := hA2.p.free 8; have hA3 := hA2.s8 r)
        first | go_end0 | (simp only [Exit.inBlock, Exit.then]; refine bodyPost_ret (results_none rfl _ _ _) rfl ?_) | refine bodyPost_ret (results_none rfl _ _ _) rfl ?_
        exact ⟨⟨_, rfl⟩, HF.out ▸ hA3⟩

theorem behindP_eq {k : Int} {s1 : St} (hR : keyP l s = (k, s1)) : (behindP most l s).2 = ((if mayB k 2 = true then operatorP most (16777216 + k) k else if mayB k 8 = true ∨ k = 103 then modP fun s => { s with key := 16777216 + k } else failP 5 : P Unit) l s1).2 := by
  unfold behindP bindP
  simp only [hR]

set_option maxHeartbeats 2000000 in
theorem behind_at (hc0 : 0 ≤ s.cnt ∧ s.cnt ≤ 9999) (hmost : 1 ≤ most ∧ most ≤ 999) (hl : l.length ≤ 1000000000000000) (h : At w0 w pb a l c most s) :
    Calls Try.prog 20 #[.pointer (some ⟨pb, 0, none⟩)] w fun e w' => (∃ v, e = .returned v) ∧ At w0 w' pb a l c most (behindP most l s).2 := by
  obtain ⟨F, hF⟩ : ∃ F, (behindP most l s).2 = F := ⟨_, rfl⟩
  rw [hF]
  have hbd := keyP_bd l s
  have hct := keyP_cnt l s
  obtain ⟨⟨k, s1⟩, hR⟩ : ∃ R, keyP l s = R := ⟨_, rfl⟩
  rw [hR] at hbd hct
  obtain ⟨hb0, hb1⟩ := hbd
  simp only at hb0 hb1 hct
  have hF2 := (behindP_eq hR).symm.trans hF
  have cK := fun W (hw : At w0 W pb a l c most s) => key_told hl hR W hw
  have cM1 : ∀ W, Calls Try.prog 21 #[.int .i64 k, .int .i64 2] W fun e w' => e = .returned (.bool (mayB k 2)) ∧ Below W.heap.size W w' := fun W => may_any k 1 (by omega) 2 rfl W
  have cM2 : ∀ W, Calls Try.prog 21 #[.int .i64 k, .int .i64 8] W fun e w' => e = .returned (.bool (mayB k 8)) ∧ Below W.heap.size W w' := fun W => may_any k 3 (by omega) 8 rfl W
  have hc1 : 0 ≤ s1.cnt ∧ s1.cnt ≤ 9999 := by omega
  clear hF hR hct hc0
  rcases Bool.eq_false_or_eq_true (mayB k 2) with m1 | m1
  · rw [if_pos m1] at hF2
    simp only [m1] at cM1
    have HF := Lib.hid hF2
    have cX := fun W (hw : At w0 W pb a l c most s1) => operator_at (16777216 + k) k hc1 hmost hl hw
    clear m1 hF2
    go_enter Try.func20, Try.ntmps20
    go_wp2_with (first
      | (go_at_call 11; refine (cK _ h).mono ?_; clear cK; rintro e w1 ⟨rfl, hA1⟩)
      | (go_at_call 21; refine (cM1 _).mono ?_; clear cM1; rintro e w2 ⟨rfl, hb2⟩; have hA2 := hA1.mem hb2)
      | (go_at_call 22; refine (cX _ hA2).mono ?_; clear cX; rintro e w3 ⟨⟨v, rfl⟩, hA3⟩))
    first | go_end0 | (simp only [Exit.inBlock, Exit.then]; refine bodyPost_ret (results_none rfl _ _ _) rfl ?_) | refine bodyPost_ret (results_none rfl _ _ _) rfl ?_
    exact ⟨⟨_, rfl⟩, HF.out ▸ hA3⟩
  · rw [if_neg (by simp [m1])] at hF2
    simp only [m1] at cM1
    have hcond : (mayB k 8 = true) ∨ (mayB k 8 = false ∧ k = 103) ∨ (mayB k 8 = false ∧ k ≠ 103) := by
      rcases Bool.eq_false_or_eq_true (mayB k 8) with m | m
      · exact .inl m
      · by_cases h1 : k = 103
        · exact .inr (.inl ⟨m, h1⟩)
        · exact .inr (.inr ⟨m, h1⟩)
    rcases hcond with m2 | ⟨m2, h3⟩ | ⟨m2, h3⟩
    · rw [if_pos (.inl m2)] at hF2
      simp only [m2] at cM2
      have HF := Lib.hid (show { s1 with key := 16777216 + k } = F from hF2)
      clear m1 m2 hF2
      go_enter Try.func20, Try.ntmps20
      go_wp2_with (first
        | (go_at_call 11; refine (cK _ h).mono ?_; clear cK; rintro e w1 ⟨rfl, hA1⟩)
        | (go_at_call 21; refine (cM1 _).mono ?_; clear cM1; rintro e w2 ⟨rfl, hb2⟩; have hA2 := hA1.mem hb2)
        | (go_at_call 21; refine (cM2 _).mono ?_; clear cM2; rintro e w3 ⟨rfl, hb3⟩; have hA3 := hA2.mem hb3; have hx6 := hA3.p.c6; have hf6 := hA3.p.free 6))
      first | go_end0 | (simp only [Exit.inBlock, Exit.then]; refine bodyPost_ret (results_none rfl _ _ _) rfl ?_) | refine bodyPost_ret (results_none rfl _ _ _) rfl ?_
      exact ⟨⟨_, rfl⟩, HF.out ▸ hA3.s6 _⟩
    · rw [if_pos (.inr h3)] at hF2
      simp only [m2] at cM2
      have hkb : (k == 103) = true := by simp [h3]
      have HF := Lib.hid (show { s1 with key := 16777216 + k } = F from hF2)
      clear m1 m2 h3 hF2
      go_enter Try.func20, Try.ntmps20
      go_wp2_with (first
        | (go_at_call 11; refine (cK _ h).mono ?_; clear cK; rintro e w1 ⟨rfl, hA1⟩)
        | (go_at_call 21; refine (cM1 _).mono ?_; clear cM1; rintro e w2 ⟨rfl, hb2⟩; have hA2 := hA1.mem hb2)
        | (go_at_call 21; refine (cM2 _).mono ?_; clear cM2; rintro e w3 ⟨rfl, hb3⟩; have hA3 := hA2.mem hb3; have hx6 := hA3.p.c6; have hf6 := hA3.p.free 6))
      first | go_end0 | (simp only [Exit.inBlock, Exit.then]; refine bodyPost_ret (results_none rfl _ _ _) rfl ?_) | refine bodyPost_ret (results_none rfl _ _ _) rfl ?_
      exact ⟨⟨_, rfl⟩, HF.out ▸ hA3.s6 _⟩
    · rw [if_neg (by simp [m2, h3])] at hF2
      simp only [m2] at cM2
      have hkb : (k == 103) = false := by simp [h3]
      have HF := Lib.hid hF2
      clear m1 m2 h3 hF2
      go_enter Try.func20, Try.ntmps20
      go_wp2_with (first
        | (go_at_call 11; refine (cK _ h).mono ?_; clear cK; rintro e w1 ⟨rfl, hA1⟩)
        | (go_at_call 21; refine (cM1 _).mono ?_; clear cM1; rintro e w2 ⟨rfl, hb2⟩; have hA2 := hA1.mem hb2)
        | (go_at_call 21; refine (cM2 _).mono ?_; clear cM2; rintro e w3 ⟨rfl, hb3⟩; have hA3 := hA2.mem hb3)
        | (go_at_call 13; refine (fail_at 5 hA3).mono ?_; rintro e w4 ⟨⟨v, rfl⟩, hA4⟩))
      first | go_end0 | (simp only [Exit.inBlock, Exit.then]; refine bodyPost_ret (results_none rfl _ _ _) rfl ?_) | refine bodyPost_ret (results_none rfl _ _ _) rfl ?_
      exact ⟨⟨_, rfl⟩, HF.out ▸ hA4⟩

set_option maxHeartbeats 4000000 in
theorem normal_at (k : Int) (rec : Bool) (hc0 : 0 ≤ s.cnt ∧ s.cnt ≤ 9999) (hmost : 1 ≤ most ∧ most ≤ 999) (hl : l.length ≤ 1000000000000000) (h : At w0 w pb a l c most s) :
    Calls Try.prog 16 #[.pointer (some ⟨pb, 0, none⟩), .int .i64 k, .bool rec] w fun e w' => (∃ v, e = .returned v) ∧ At w0 w' pb a l c most (normalP most k rec l s).2 := by
  obtain ⟨F, hF⟩ : ∃ F, (normalP most k rec l s).2 = F := ⟨_, rfl⟩
  rw [hF]
  unfold normalP at hF
  have cM1 : ∀ W, Calls Try.prog 21 #[.int .i64 k, .int .i64 1] W fun e w' => e = .returned (.bool (mayB k 1)) ∧ Below W.heap.size W w' := fun W => may_any k 0 (by omega) 1 rfl W
  have cM2 : ∀ W, Calls Try.prog 21 #[.int .i64 k, .int .i64 16] W fun e w' => e = .returned (.bool (mayB k 16)) ∧ Below W.heap.size W w' := fun W => may_any k 4 (by omega) 16 rfl W
  have cM3 : ∀ W, Calls Try.prog 21 #[.int .i64 k, .int .i64 4] W fun e w' => e = .returned (.bool (mayB k 4)) ∧ Below W.heap.size W w' := fun W => may_any k 2 (by omega) 4 rfl W
  by_cases hg : k = 103
  · rw [if_pos hg] at hF
    have hgb : (k == 103) = true := by simp [hg]
    have HF := Lib.hid hF
    clear hg hF cM1 cM2 cM3
    go_enter Try.func16, Try.ntmps16
    go_wp2_with (go_at_call 20; refine (behind_at hc0 hmost hl h).mono ?_; rintro e w1 ⟨⟨v, rfl⟩, hA1⟩)
    first | go_end0 | (simp only [Exit.inBlock, Exit.then]; refine bodyPost_ret (results_none rfl _ _ _) rfl ?_) | refine bodyPost_ret (results_none rfl _ _ _) rfl ?_
    exact ⟨⟨_, rfl⟩, HF.out ▸ hA1⟩
  · rw [if_neg hg] at hF
    have hgb : (k == 103) = false := by simp [hg]
    clear hg
    rcases Bool.eq_false_or_eq_true (mayB k 1) with m1 | m1
    · rw [if_pos m1] at hF
      simp only [m1] at cM1
      have HF := Lib.hid hF
      clear m1 hF cM2 cM3
      go_enter Try.func16, Try.ntmps16
      go_wp2_with (first
        | (go_at_call 21; refine (cM1 _).mono ?_; clear cM1; rintro e w1 ⟨rfl, hb1⟩; have hA1 := h.mem hb1)
        | (go_at_call 22; refine (operator_at k k hc0 hmost hl hA1).mono ?_; rintro e w2 ⟨⟨v, rfl⟩, hA2⟩))
      first | go_end0 | (simp only [Exit.inBlock, Exit.then]; refine bodyPost_ret (results_none rfl _ _ _) rfl ?_) | refine bodyPost_ret (results_none rfl _ _ _) rfl ?_
      exact ⟨⟨_, rfl⟩, HF.out ▸ hA2⟩
    · rw [if_neg (by simp [m1])] at hF
      simp only [m1] at cM1
      clear m1
      rcases Bool.eq_false_or_eq_true (mayB k 16) with m2 | m2
      · rw [if_pos m2] at hF
        simp only [m2] at cM2
        have HF := Lib.hid hF
        clear m2 hF cM3
        go_enter Try.func16, Try.ntmps16
        go_wp2_with (first
          | (go_at_call 21; refine (cM1 _).mono ?_; clear cM1; rintro e w1 ⟨rfl, hb1⟩; have hA1 := h.mem hb1)
          | (go_at_call 21; refine (cM2 _).mono ?_; clear cM2; rintro e w2 ⟨rfl, hb2⟩; have hA2 := hA1.mem hb2)
          | (go_at_call 23; refine (letter_at k rec hl hA2).mono ?_; rintro e w3 ⟨⟨v, rfl⟩, hA3⟩))
        first | go_end0 | (simp only [Exit.inBlock, Exit.then]; refine bodyPost_ret (results_none rfl _ _ _) rfl ?_) | refine bodyPost_ret (results_none rfl _ _ _) rfl ?_
        exact ⟨⟨_, rfl⟩, HF.out ▸ hA3⟩
      · rw [if_neg (by simp [m2])] at hF
        simp only [m2] at cM2
        clear m2
        by_cases hr : k = 114
        · rw [if_pos hr] at hF
          have hrb : (k == 114) = true := by simp [hr]
          obtain ⟨⟨r, s1⟩, hR⟩ : ∃ R, keyP l { s with key := k } = R := ⟨_, rfl⟩
          have hF2 : { s1 with rune := r } = F := by
            rw [← hF]; show _ = { (keyP l { s with key := k }).2 with rune := (keyP l { s with key := k }).1 }; rw [hR]
          have cK := fun W (hw : At w0 W pb a l c most { s with key := k }) => key_told hl hR W hw
          have HF := Lib.hid hF2
          clear hr hF hF2 hR cM3
          go_enter Try.func16, Try.ntmps16
          go_wp2_with (first
            | (go_at_call 21; refine (cM1 _).mono ?_; clear cM1; rintro e w1 ⟨rfl, hb1⟩; have hA1 := h.mem hb1)
            | (go_at_call 21; refine (cM2 _).mono ?_; clear cM2; rintro e w2 ⟨rfl, hb2⟩; have hA2 := hA1.mem hb2; have hx6 := hA2.p.c6; have hf6 := hA2.p.free 6)
            | (go_at_call 11; refine (cK _ (hA2.s6 k)).mono ?_; rintro e w3 ⟨rfl, hA3⟩; have hx8 := hA3.p.c8; have hf8 := hA3.p.free 8))
          first | go_end0 | (simp only [Exit.inBlock, Exit.then]; refine bodyPost_ret (results_none rfl _ _ _) rfl ?_) | refine bodyPost_ret (results_none rfl _ _ _) rfl ?_
          exact ⟨⟨_, rfl⟩, HF.out ▸ hA3.s8 r⟩
        · rw [if_neg hr] at hF
          have hrb : (k == 114) = false := by simp [hr]
          clear hr
          rcases Bool.eq_false_or_eq_true (mayB k 4) with m3 | m3
          · rw [if_pos m3] at hF
            simp only [m3] at cM3
            have HF := Lib.hid (show { s with key := k } = F from hF)
            clear m3 hF
            go_enter Try.func16, Try.ntmps16
            go_wp2_with (first
              | (go_at_call 21; refine (cM1 _).mono ?_; clear cM1; rintro e w1 ⟨rfl, hb1⟩; have hA1 := h.mem hb1)
              | (go_at_call 21; refine (cM2 _).mono ?_; clear cM2; rintro e w2 ⟨rfl, hb2⟩; have hA2 := hA1.mem hb2)
              | (go_at_call 21; refine (cM3 _).mono ?_; clear cM3; rintro e w3 ⟨rfl, hb3⟩; have hA3 := hA2.mem hb3; have hx6 := hA3.p.c6; have hf6 := hA3.p.free 6))
            first | go_end0 | (simp only [Exit.inBlock, Exit.then]; refine bodyPost_ret (results_none rfl _ _ _) rfl ?_) | refine bodyPost_ret (results_none rfl _ _ _) rfl ?_
            exact ⟨⟨_, rfl⟩, HF.out ▸ hA3.s6 k⟩
          · rw [if_neg (by simp [m3])] at hF
            simp only [m3] at cM3
            have HF := Lib.hid hF
            clear m3 hF
            go_enter Try.func16, Try.ntmps16
            go_wp2_with (first
              | (go_at_call 21; refine (cM1 _).mono ?_; clear cM1; rintro e w1 ⟨rfl, hb1⟩; have hA1 := h.mem hb1)
              | (go_at_call 21; refine (cM2 _).mono ?_; clear cM2; rintro e w2 ⟨rfl, hb2⟩; have hA2 := hA1.mem hb2)
              | (go_at_call 21; refine (cM3 _).mono ?_; clear cM3; rintro e w3 ⟨rfl, hb3⟩; have hA3 := hA2.mem hb3)
              | (go_at_call 24; refine (motion_at k hl hA3).mono ?_; rintro e w4 ⟨⟨v, rfl⟩, hA4⟩))
            first | go_end0 | (simp only [Exit.inBlock, Exit.then]; refine bodyPost_ret (results_none rfl _ _ _) rfl ?_) | refine bodyPost_ret (results_none rfl _ _ _) rfl ?_
            exact ⟨⟨_, rfl⟩, HF.out ▸ hA4⟩
end

end Go.Proofs.Ytogmhnpakjdpmaa
