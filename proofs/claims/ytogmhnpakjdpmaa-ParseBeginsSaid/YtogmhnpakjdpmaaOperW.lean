/-
  The walk over what stands behind an operator, whole.
-/
import Derived.Test.YtogmhnpakjdpmaaOper
namespace Go.Proofs.Ytogmhnpakjdpmaa
open Go.RowKit

section
variable {w0 w : World} {pb : Nat} {a : Option Addr} {l : List Int} {c : Nat} {most : Int} {s : St}

/-- A count's contract, its answer told. -/
theorem count_told {k n k2 : Int} {s2 : St} (hk : 0 ≤ k ∧ k < 16777216) (hmost : 1 ≤ most ∧ most ≤ 999) (hl : l.length ≤ 1000000000000000) (hC : countP most k l s = ((n, k2), s2)) (w1 : World) (h : At w0 w1 pb a l c most s) :
    Calls Try.prog 14 #[.pointer (some ⟨pb, 0, none⟩), .int .i64 k] w1 fun e w' => e = .returned (.tuple #[.int .i64 n, .int .i64 k2]) ∧ At w0 w' pb a l c most s2 := by
  have := count_at k hk hmost hl h
  rw [hC] at this
  exact this

set_option maxHeartbeats 8000000 in
theorem operator_at (oper last : Int) (hc0 : 0 ≤ s.cnt ∧ s.cnt ≤ 9999) (hmost : 1 ≤ most ∧ most ≤ 999) (hl : l.length ≤ 1000000000000000) (h : At w0 w pb a l c most s) :
    Calls Try.prog 22 #[.pointer (some ⟨pb, 0, none⟩), .int .i64 oper, .int .i64 last] w fun e w' => (∃ v, e = .returned v) ∧ At w0 w' pb a l c most (operatorP most oper last l s).2 := by
  have hbd := keyP_bd l { s with oper := oper }
  have hct1 := keyP_cnt l { s with oper := oper }
  obtain ⟨⟨r, s1⟩, hR⟩ : ∃ R, keyP l { s with oper := oper } = R := ⟨_, rfl⟩
  rw [hR] at hbd hct1
  have hbd2 := countP_bd most r l s1 hmost hbd
  have hct2 := countF_cnt most l 5 0 r s1
  obtain ⟨⟨⟨n, k2⟩, s2⟩, hC⟩ : ∃ R, countP most r l s1 = R := ⟨_, rfl⟩
  have hC' : countF most 5 0 r l s1 = ((n, k2), s2) := hC
  rw [hC] at hbd2
  rw [hC'] at hct2
  have hA : (operatorP most oper last l s).2 = (operZ most n l (operA oper last k2 l s2).2).2 := by
    show (operZ most (countP most (keyP l { s with oper := oper }).1 l (keyP l { s with oper := oper }).2).1.1 l (operA oper last (countP most (keyP l { s with oper := oper }).1 l (keyP l { s with oper := oper }).2).1.2 l (countP most (keyP l { s with oper := oper }).1 l (keyP l { s with oper := oper }).2).2).2).2 = _
    rw [hR]
    show (operZ most (countP most r l s1).1.1 l (operA oper last (countP most r l s1).1.2 l (countP most r l s1).2).2).2 = _
    rw [hC]
  rw [hA]
  have cK := fun W (hw : At w0 W pb a l c most { s with oper := oper }) => key_told hl hR W hw
  have cC := fun W (hw : At w0 W pb a l c most s1) => count_told hbd hmost hl hC W hw
  have hx5 := h.p.c5
  have hf5 := h.p.free 5
  have hA0 := h.s5 oper
  have hcc : s2.cnt = s.cnt := hct2.trans hct1
  have HC := Lib.hid hcc
  have cO := fun W (hw : At w0 W pb a l c most s2) => over_at hw
  have key : ∃ s4 : St, (operA oper last k2 l s2).2 = s4 ∧ s4.cnt = s.cnt := ⟨_, rfl, by
    by_cases ho : ov s2 = true
    · rw [operA_over ho]; exact hcc
    · have ho' : ov s2 = false := by simpa using ho
      by_cases hl : k2 = last
      · rw [operA_last ho' hl]; exact hcc
      · by_cases h3 : k2 = 105 ∨ k2 = 97
        · rw [operA_obj ho' hl h3, objectP_cnt]; exact hcc
        · rw [operA_mot ho' hl h3, motionP_cnt]; exact hcc⟩
  obtain ⟨s4, hs4, hcnt4⟩ := key
  rw [hs4]
  obtain ⟨F, hF⟩ : ∃ F, (operZ most n l s4).2 = F := ⟨_, rfl⟩
  rw [hF]
  rw [operZ_eq] at hF
  simp only at hbd2
  obtain ⟨hn0, hn1, hk0, hk1⟩ := hbd2
  have hx0 : 0 ≤ s4.cnt := by omega
  have hx1 : s4.cnt ≤ 9999 := by omega
  have HF := Lib.hid hF
  clear hF hcnt4 hC hC' hR hct1 hct2 hA hcc
  rcases Bool.eq_false_or_eq_true (ov s2) with ho | ho
  · rw [operA_over ho] at hs4
    have HS4 := Lib.hid hs4
    simp only [ho] at cO
    clear ho hs4
    go_enter Try.func22, Try.ntmps22
    go_upto_region 8 with (first
          | (go_at_call 11; refine (cK _ hA0).mono ?_; clear cK; rintro e w1 ⟨rfl, hA1⟩)
          | (go_at_call 14; refine (cC _ hA1).mono ?_; clear cC; rintro e w2 ⟨rfl, hA2⟩)
          | (go_at_call 15; refine (cO _ hA2).mono ?_; clear cO; rintro e w3 ⟨rfl, rfl⟩))
    have hA4 : At w0 _ pb a l c most s4 := HS4.out ▸ hA2
    by_cases hn : 0 < n
    · have hnb : decide (0 < n) = true := by simp; omega
      have hm0 : 0 ≤ max 1 s4.cnt * n := Int.mul_nonneg (by omega) (by omega)
      have hm1 : max 1 s4.cnt * n ≤ 9999 * 9999 := Int.mul_le_mul (by omega) (by omega) (by omega) (by omega)
      have hx4 := hA4.p.c4
      have hf4 := hA4.p.free 4
      have hA5 := hA4.s4 (max 1 s4.cnt * n)
      have hy4 := blk_cell hA5.p 4 (v := .int .i64 (max 1 s4.cnt * n)) rfl
      have hy2 := hA5.p.c2
      have hF := HF.out
      simp only [if_pos hn] at hF
      by_cases hm : most < max 1 s4.cnt * n
      · rw [if_pos hm] at hF
        have HF2 := Lib.hid hF
        have hmb : decide (most < max 1 s4.cnt * n) = true := by simp; omega
        clear hF hm hn HF
        go_upto_region 10 with (fail)
        go_quiet (fail)
        go_wp2_with (go_at_call 13; refine (fail_at 2 (hA5.drewN _)).mono ?_; rintro e w6 ⟨⟨v, rfl⟩, hA6⟩)
        first | go_end0 | (simp only [Exit.inBlock, Exit.then]; refine bodyPost_ret (results_none rfl _ _ _) rfl ?_) | refine bodyPost_ret (results_none rfl _ _ _) rfl ?_
        exact ⟨⟨_, rfl⟩, HF2.out ▸ hA6⟩
      · rw [if_neg hm] at hF
        have HF2 := Lib.hid hF
        have hmb : decide (most < max 1 s4.cnt * n) = false := by simp; omega
        clear hF hm hn HF
        go_upto_region 10 with (fail)
        go_quiet (fail)
        go_wp2
        first | go_end0 | (simp only [Exit.inBlock, Exit.then]; refine bodyPost_ret (results_none rfl _ _ _) rfl ?_) | refine bodyPost_ret (results_none rfl _ _ _) rfl ?_
        exact ⟨⟨_, rfl⟩, HF2.out ▸ hA5.drewN _⟩
    · have hnb : decide (0 < n) = false := by simp; omega
      have hy4 := hA4.p.c4
      have hy2 := hA4.p.c2
      have hF := HF.out
      simp only [if_neg hn] at hF
      by_cases hm : most < s4.cnt
      · rw [if_pos hm] at hF
        have HF2 := Lib.hid hF
        have hmb : decide (most < s4.cnt) = true := by simp; omega
        clear hF hm hn HF
        go_upto_region 10 with (fail)
        go_quiet (fail)
        go_wp2_with (go_at_call 13; refine (fail_at 2 (hA4.drewN _)).mono ?_; rintro e w6 ⟨⟨v, rfl⟩, hA6⟩)
        first | go_end0 | (simp only [Exit.inBlock, Exit.then]; refine bodyPost_ret (results_none rfl _ _ _) rfl ?_) | refine bodyPost_ret (results_none rfl _ _ _) rfl ?_
        exact ⟨⟨_, rfl⟩, HF2.out ▸ hA6⟩
      · rw [if_neg hm] at hF
        have HF2 := Lib.hid hF
        have hmb : decide (most < s4.cnt) = false := by simp; omega
        clear hF hm hn HF
        go_upto_region 10 with (fail)
        go_quiet (fail)
        go_wp2
        first | go_end0 | (simp only [Exit.inBlock, Exit.then]; refine bodyPost_ret (results_none rfl _ _ _) rfl ?_) | refine bodyPost_ret (results_none rfl _ _ _) rfl ?_
        exact ⟨⟨_, rfl⟩, HF2.out ▸ hA4.drewN _⟩
  · simp only [ho] at cO
    by_cases hkl : k2 = last
    · rw [operA_last ho hkl] at hs4
      have HS4 := Lib.hid hs4
      have hkb : (k2 == last) = true := by simp [hkl]
      clear ho hs4 hkl
      go_enter Try.func22, Try.ntmps22
      go_upto_region 8 with (first
            | (go_at_call 11; refine (cK _ hA0).mono ?_; clear cK; rintro e w1 ⟨rfl, hA1⟩)
            | (go_at_call 14; refine (cC _ hA1).mono ?_; clear cC; rintro e w2 ⟨rfl, hA2⟩)
            | (go_at_call 15; refine (cO _ hA2).mono ?_; clear cO; rintro e w3 ⟨rfl, rfl⟩; have hx6 := hA2.p.c6; have hf6 := hA2.p.free 6))
      have hA4 : At w0 _ pb a l c most s4 := HS4.out ▸ hA2.s6 oper
      by_cases hn : 0 < n
      · have hnb : decide (0 < n) = true := by simp; omega
        have hm0 : 0 ≤ max 1 s4.cnt * n := Int.mul_nonneg (by omega) (by omega)
        have hm1 : max 1 s4.cnt * n ≤ 9999 * 9999 := Int.mul_le_mul (by omega) (by omega) (by omega) (by omega)
        have hx4 := hA4.p.c4
        have hf4 := hA4.p.free 4
        have hA5 := hA4.s4 (max 1 s4.cnt * n)
        have hy4 := blk_cell hA5.p 4 (v := .int .i64 (max 1 s4.cnt * n)) rfl
        have hy2 := hA5.p.c2
        have hF := HF.out
        simp only [if_pos hn] at hF
        by_cases hm : most < max 1 s4.cnt * n
        · rw [if_pos hm] at hF
          have HF2 := Lib.hid hF
          have hmb : decide (most < max 1 s4.cnt * n) = true := by simp; omega
          clear hF hm hn HF
          go_upto_region 10 with (fail)
          go_quiet (fail)
          go_wp2_with (go_at_call 13; refine (fail_at 2 (hA5.drewN _)).mono ?_; rintro e w6 ⟨⟨v, rfl⟩, hA6⟩)
          first | go_end0 | (simp only [Exit.inBlock, Exit.then]; refine bodyPost_ret (results_none rfl _ _ _) rfl ?_) | refine bodyPost_ret (results_none rfl _ _ _) rfl ?_
          exact ⟨⟨_, rfl⟩, HF2.out ▸ hA6⟩
        · rw [if_neg hm] at hF
          have HF2 := Lib.hid hF
          have hmb : decide (most < max 1 s4.cnt * n) = false := by simp; omega
          clear hF hm hn HF
          go_upto_region 10 with (fail)
          go_quiet (fail)
          go_wp2
          first | go_end0 | (simp only [Exit.inBlock, Exit.then]; refine bodyPost_ret (results_none rfl _ _ _) rfl ?_) | refine bodyPost_ret (results_none rfl _ _ _) rfl ?_
          exact ⟨⟨_, rfl⟩, HF2.out ▸ hA5.drewN _⟩
      · have hnb : decide (0 < n) = false := by simp; omega
        have hy4 := hA4.p.c4
        have hy2 := hA4.p.c2
        have hF := HF.out
        simp only [if_neg hn] at hF
        by_cases hm : most < s4.cnt
        · rw [if_pos hm] at hF
          have HF2 := Lib.hid hF
          have hmb : decide (most < s4.cnt) = true := by simp; omega
          clear hF hm hn HF
          go_upto_region 10 with (fail)
          go_quiet (fail)
          go_wp2_with (go_at_call 13; refine (fail_at 2 (hA4.drewN _)).mono ?_; rintro e w6 ⟨⟨v, rfl⟩, hA6⟩)
          first | go_end0 | (simp only [Exit.inBlock, Exit.then]; refine bodyPost_ret (results_none rfl _ _ _) rfl ?_) | refine bodyPost_ret (results_none rfl _ _ _) rfl ?_
          exact ⟨⟨_, rfl⟩, HF2.out ▸ hA6⟩
        · rw [if_neg hm] at hF
          have HF2 := Lib.hid hF
          have hmb : decide (most < s4.cnt) = false := by simp; omega
          clear hF hm hn HF
          go_upto_region 10 with (fail)
          go_quiet (fail)
          go_wp2
          first | go_end0 | (simp only [Exit.inBlock, Exit.then]; refine bodyPost_ret (results_none rfl _ _ _) rfl ?_) | refine bodyPost_ret (results_none rfl _ _ _) rfl ?_
          exact ⟨⟨_, rfl⟩, HF2.out ▸ hA4.drewN _⟩
    · have hkb : (k2 == last) = false := by simp [hkl]
      rcases (show k2 = 105 ∨ (k2 ≠ 105 ∧ k2 = 97) ∨ (k2 ≠ 105 ∧ k2 ≠ 97) by omega) with h3 | ⟨h4, h3⟩ | ⟨h4, h3⟩
      · rw [operA_obj ho hkl (.inl h3)] at hs4
        have HS4 := Lib.hid hs4
        have ht1 : (k2 == 105) = true := by simp [h3]
        have cX := fun W (hw : At w0 W pb a l c most s2) => object_at k2 hl hw
        clear ho hs4 hkl h3
        go_enter Try.func22, Try.ntmps22
        go_upto_region 8 with (first
              | (go_at_call 11; refine (cK _ hA0).mono ?_; clear cK; rintro e w1 ⟨rfl, hA1⟩)
              | (go_at_call 14; refine (cC _ hA1).mono ?_; clear cC; rintro e w2 ⟨rfl, hA2⟩)
              | (go_at_call 15; refine (cO _ hA2).mono ?_; clear cO; rintro e w3 ⟨rfl, rfl⟩)
              | (go_at_call 25; refine (cX _ hA2).mono ?_; clear cX; rintro e w4 ⟨⟨v, rfl⟩, hAx⟩))
        have hA4 : At w0 _ pb a l c most s4 := HS4.out ▸ hAx
        by_cases hn : 0 < n
        · have hnb : decide (0 < n) = true := by simp; omega
          have hm0 : 0 ≤ max 1 s4.cnt * n := Int.mul_nonneg (by omega) (by omega)
          have hm1 : max 1 s4.cnt * n ≤ 9999 * 9999 := Int.mul_le_mul (by omega) (by omega) (by omega) (by omega)
          have hx4 := hA4.p.c4
          have hf4 := hA4.p.free 4
          have hA5 := hA4.s4 (max 1 s4.cnt * n)
          have hy4 := blk_cell hA5.p 4 (v := .int .i64 (max 1 s4.cnt * n)) rfl
          have hy2 := hA5.p.c2
          have hF := HF.out
          simp only [if_pos hn] at hF
          by_cases hm : most < max 1 s4.cnt * n
          · rw [if_pos hm] at hF
            have HF2 := Lib.hid hF
            have hmb : decide (most < max 1 s4.cnt * n) = true := by simp; omega
            clear hF hm hn HF
            go_upto_region 10 with (fail)
            go_quiet (fail)
            go_wp2_with (go_at_call 13; refine (fail_at 2 (hA5.drewN _)).mono ?_; rintro e w6 ⟨⟨v, rfl⟩, hA6⟩)
            first | go_end0 | (simp only [Exit.inBlock, Exit.then]; refine bodyPost_ret (results_none rfl _ _ _) rfl ?_) | refine bodyPost_ret (results_none rfl _ _ _) rfl ?_
            exact ⟨⟨_, rfl⟩, HF2.out ▸ hA6⟩
          · rw [if_neg hm] at hF
            have HF2 := Lib.hid hF
            have hmb : decide (most < max 1 s4.cnt * n) = false := by simp; omega
            clear hF hm hn HF
            go_upto_region 10 with (fail)
            go_quiet (fail)
            go_wp2
            first | go_end0 | (simp only [Exit.inBlock, Exit.then]; refine bodyPost_ret (results_none rfl _ _ _) rfl ?_) | refine bodyPost_ret (results_none rfl _ _ _) rfl ?_
            exact ⟨⟨_, rfl⟩, HF2.out ▸ hA5.drewN _⟩
        · have hnb : decide (0 < n) = false := by simp; omega
          have hy4 := hA4.p.c4
          have hy2 := hA4.p.c2
          have hF := HF.out
          simp only [if_neg hn] at hF
          by_cases hm : most < s4.cnt
          · rw [if_pos hm] at hF
            have HF2 := Lib.hid hF
            have hmb : decide (most < s4.cnt) = true := by simp; omega
            clear hF hm hn HF
            go_upto_region 10 with (fail)
            go_quiet (fail)
            go_wp2_with (go_at_call 13; refine (fail_at 2 (hA4.drewN _)).mono ?_; rintro e w6 ⟨⟨v, rfl⟩, hA6⟩)
            first | go_end0 | (simp only [Exit.inBlock, Exit.then]; refine bodyPost_ret (results_none rfl _ _ _) rfl ?_) | refine bodyPost_ret (results_none rfl _ _ _) rfl ?_
            exact ⟨⟨_, rfl⟩, HF2.out ▸ hA6⟩
          · rw [if_neg hm] at hF
            have HF2 := Lib.hid hF
            have hmb : decide (most < s4.cnt) = false := by simp; omega
            clear hF hm hn HF
            go_upto_region 10 with (fail)
            go_quiet (fail)
            go_wp2
            first | go_end0 | (simp only [Exit.inBlock, Exit.then]; refine bodyPost_ret (results_none rfl _ _ _) rfl ?_) | refine bodyPost_ret (results_none rfl _ _ _) rfl ?_
            exact ⟨⟨_, rfl⟩, HF2.out ▸ hA4.drewN _⟩
      · rw [operA_obj ho hkl (.inr h3)] at hs4
        have HS4 := Lib.hid hs4
        have ht1 : (k2 == 105) = false := by simp; omega
        have ht2 : (k2 == 97) = true := by simp [h3]
        have cX := fun W (hw : At w0 W pb a l c most s2) => object_at k2 hl hw
        clear ho hs4 hkl h3 h4
        go_enter Try.func22, Try.ntmps22
        go_upto_region 8 with (first
              | (go_at_call 11; refine (cK _ hA0).mono ?_; clear cK; rintro e w1 ⟨rfl, hA1⟩)
              | (go_at_call 14; refine (cC _ hA1).mono ?_; clear cC; rintro e w2 ⟨rfl, hA2⟩)
              | (go_at_call 15; refine (cO _ hA2).mono ?_; clear cO; rintro e w3 ⟨rfl, rfl⟩)
              | (go_at_call 25; refine (cX _ hA2).mono ?_; clear cX; rintro e w4 ⟨⟨v, rfl⟩, hAx⟩))
        have hA4 : At w0 _ pb a l c most s4 := HS4.out ▸ hAx
        by_cases hn : 0 < n
        · have hnb : decide (0 < n) = true := by simp; omega
          have hm0 : 0 ≤ max 1 s4.cnt * n := Int.mul_nonneg (by omega) (by omega)
          have hm1 : max 1 s4.cnt * n ≤ 9999 * 9999 := Int.mul_le_mul (by omega) (by omega) (by omega) (by omega)
          have hx4 := hA4.p.c4
          have hf4 := hA4.p.free 4
          have hA5 := hA4.s4 (max 1 s4.cnt * n)
          have hy4 := blk_cell hA5.p 4 (v := .int .i64 (max 1 s4.cnt * n)) rfl
          have hy2 := hA5.p.c2
          have hF := HF.out
          simp only [if_pos hn] at hF
          by_cases hm : most < max 1 s4.cnt * n
          · rw [if_pos hm] at hF
            have HF2 := Lib.hid hF
            have hmb : decide (most < max 1 s4.cnt * n) = true := by simp; omega
            clear hF hm hn HF
            go_upto_region 10 with (fail)
            go_quiet (fail)
            go_wp2_with (go_at_call 13; refine (fail_at 2 (hA5.drewN _)).mono ?_; rintro e w6 ⟨⟨v, rfl⟩, hA6⟩)
            first | go_end0 | (simp only [Exit.inBlock, Exit.then]; refine bodyPost_ret (results_none rfl _ _ _) rfl ?_) | refine bodyPost_ret (results_none rfl _ _ _) rfl ?_
            exact ⟨⟨_, rfl⟩, HF2.out ▸ hA6⟩
          · rw [if_neg hm] at hF
            have HF2 := Lib.hid hF
            have hmb : decide (most < max 1 s4.cnt * n) = false := by simp; omega
            clear hF hm hn HF
            go_upto_region 10 with (fail)
            go_quiet (fail)
            go_wp2
            first | go_end0 | (simp only [Exit.inBlock, Exit.then]; refine bodyPost_ret (results_none rfl _ _ _) rfl ?_) | refine bodyPost_ret (results_none rfl _ _ _) rfl ?_
            exact ⟨⟨_, rfl⟩, HF2.out ▸ hA5.drewN _⟩
        · have hnb : decide (0 < n) = false := by simp; omega
          have hy4 := hA4.p.c4
          have hy2 := hA4.p.c2
          have hF := HF.out
          simp only [if_neg hn] at hF
          by_cases hm : most < s4.cnt
          · rw [if_pos hm] at hF
            have HF2 := Lib.hid hF
            have hmb : decide (most < s4.cnt) = true := by simp; omega
            clear hF hm hn HF
            go_upto_region 10 with (fail)
            go_quiet (fail)
            go_wp2_with (go_at_call 13; refine (fail_at 2 (hA4.drewN _)).mono ?_; rintro e w6 ⟨⟨v, rfl⟩, hA6⟩)
            first | go_end0 | (simp only [Exit.inBlock, Exit.then]; refine bodyPost_ret (results_none rfl _ _ _) rfl ?_) | refine bodyPost_ret (results_none rfl _ _ _) rfl ?_
            exact ⟨⟨_, rfl⟩, HF2.out ▸ hA6⟩
          · rw [if_neg hm] at hF
            have HF2 := Lib.hid hF
            have hmb : decide (most < s4.cnt) = false := by simp; omega
            clear hF hm hn HF
            go_upto_region 10 with (fail)
            go_quiet (fail)
            go_wp2
            first | go_end0 | (simp only [Exit.inBlock, Exit.then]; refine bodyPost_ret (results_none rfl _ _ _) rfl ?_) | refine bodyPost_ret (results_none rfl _ _ _) rfl ?_
            exact ⟨⟨_, rfl⟩, HF2.out ▸ hA4.drewN _⟩
      · rw [operA_mot ho hkl (by omega)] at hs4
        have HS4 := Lib.hid hs4
        have ht1 : (k2 == 105) = false := by simp; omega
        have ht2 : (k2 == 97) = false := by simp; omega
        have cX := fun W (hw : At w0 W pb a l c most s2) => motion_at k2 hl hw
        clear ho hs4 hkl h3 h4
        go_enter Try.func22, Try.ntmps22
        go_upto_region 8 with (first
              | (go_at_call 11; refine (cK _ hA0).mono ?_; clear cK; rintro e w1 ⟨rfl, hA1⟩)
              | (go_at_call 14; refine (cC _ hA1).mono ?_; clear cC; rintro e w2 ⟨rfl, hA2⟩)
              | (go_at_call 15; refine (cO _ hA2).mono ?_; clear cO; rintro e w3 ⟨rfl, rfl⟩)
              | (go_at_call 24; refine (cX _ hA2).mono ?_; clear cX; rintro e w4 ⟨⟨v, rfl⟩, hAx⟩))
        have hA4 : At w0 _ pb a l c most s4 := HS4.out ▸ hAx
        by_cases hn : 0 < n
        · have hnb : decide (0 < n) = true := by simp; omega
          have hm0 : 0 ≤ max 1 s4.cnt * n := Int.mul_nonneg (by omega) (by omega)
          have hm1 : max 1 s4.cnt * n ≤ 9999 * 9999 := Int.mul_le_mul (by omega) (by omega) (by omega) (by omega)
          have hx4 := hA4.p.c4
          have hf4 := hA4.p.free 4
          have hA5 := hA4.s4 (max 1 s4.cnt * n)
          have hy4 := blk_cell hA5.p 4 (v := .int .i64 (max 1 s4.cnt * n)) rfl
          have hy2 := hA5.p.c2
          have hF := HF.out
          simp only [if_pos hn] at hF
          by_cases hm : most < max 1 s4.cnt * n
          · rw [if_pos hm] at hF
            have HF2 := Lib.hid hF
            have hmb : decide (most < max 1 s4.cnt * n) = true := by simp; omega
            clear hF hm hn HF
            go_upto_region 10 with (fail)
            go_quiet (fail)
            go_wp2_with (go_at_call 13; refine (fail_at 2 (hA5.drewN _)).mono ?_; rintro e w6 ⟨⟨v, rfl⟩, hA6⟩)
            first | go_end0 | (simp only [Exit.inBlock, Exit.then]; refine bodyPost_ret (results_none rfl _ _ _) rfl ?_) | refine bodyPost_ret (results_none rfl _ _ _) rfl ?_
            exact ⟨⟨_, rfl⟩, HF2.out ▸ hA6⟩
          · rw [if_neg hm] at hF
            have HF2 := Lib.hid hF
            have hmb : decide (most < max 1 s4.cnt * n) = false := by simp; omega
            clear hF hm hn HF
            go_upto_region 10 with (fail)
            go_quiet (fail)
            go_wp2
            first | go_end0 | (simp only [Exit.inBlock, Exit.then]; refine bodyPost_ret (results_none rfl _ _ _) rfl ?_) | refine bodyPost_ret (results_none rfl _ _ _) rfl ?_
            exact ⟨⟨_, rfl⟩, HF2.out ▸ hA5.drewN _⟩
        · have hnb : decide (0 < n) = false := by simp; omega
          have hy4 := hA4.p.c4
          have hy2 := hA4.p.c2
          have hF := HF.out
          simp only [if_neg hn] at hF
          by_cases hm : most < s4.cnt
          · rw [if_pos hm] at hF
            have HF2 := Lib.hid hF
            have hmb : decide (most < s4.cnt) = true := by simp; omega
            clear hF hm hn HF
            go_upto_region 10 with (fail)
            go_quiet (fail)
            go_wp2_with (go_at_call 13; refine (fail_at 2 (hA4.drewN _)).mono ?_; rintro e w6 ⟨⟨v, rfl⟩, hA6⟩)
            first | go_end0 | (simp only [Exit.inBlock, Exit.then]; refine bodyPost_ret (results_none rfl _ _ _) rfl ?_) | refine bodyPost_ret (results_none rfl _ _ _) rfl ?_
            exact ⟨⟨_, rfl⟩, HF2.out ▸ hA6⟩
          · rw [if_neg hm] at hF
            have HF2 := Lib.hid hF
            have hmb : decide (most < s4.cnt) = false := by simp; omega
            clear hF hm hn HF
            go_upto_region 10 with (fail)
            go_quiet (fail)
            go_wp2
            first | go_end0 | (simp only [Exit.inBlock, Exit.then]; refine bodyPost_ret (results_none rfl _ _ _) rfl ?_) | refine bodyPost_ret (results_none rfl _ _ _) rfl ?_
            exact ⟨⟨_, rfl⟩, HF2.out ▸ hA4.drewN _⟩
end

end Go.Proofs.Ytogmhnpakjdpmaa
