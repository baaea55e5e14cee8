/-
  The walks over the parser's motion and its object.
-/
import Derived.Test.YtogmhnpakjdpmaaRun
namespace Go.Proofs.Ytogmhnpakjdpmaa
open Go.RowKit

theorem motionB_no {x : Int} {l : List Int} {s : St} (h : isB x = false) : (motionB x l s).2 = (failP 5 l s).2 := by
  unfold motionB; rw [if_neg (by simp [h])]
theorem motionB_plain {x : Int} {l : List Int} {s : St} (h : isB x = true) (h2 : asksB x = false) : (motionB x l s).2 = { s with key := x } := by
  unfold motionB; rw [if_pos h]; show ((if asksB x = true then _ else _ : P Unit) l { s with key := x }).2 = _; rw [if_neg (by simp [h2])]; rfl
theorem motionB_asks {x r2 : Int} {l : List Int} {s s2 : St} (h : isB x = true) (h2 : asksB x = true) (h3 : keyP l { s with key := x } = (r2, s2)) : (motionB x l s).2 = { s2 with rune := r2 } := by
  unfold motionB; rw [if_pos h]; show ((if asksB x = true then _ else _ : P Unit) l { s with key := x }).2 = _; rw [if_pos h2]
  show { (keyP l { s with key := x }).2 with rune := (keyP l { s with key := x }).1 } = _; rw [h3]

section
variable {w0 w : World} {pb : Nat} {a : Option Addr} {l : List Int} {c : Nat} {most : Int} {s : St}

set_option maxHeartbeats 2000000 in
theorem motion_at (k : Int) (hl : l.length ≤ 1000000000000000) (h : At w0 w pb a l c most s) :
    Calls Try.prog 24 #[.pointer (some ⟨pb, 0, none⟩), .int .i64 k] w fun e w' => (∃ v, e = .returned v) ∧ At w0 w' pb a l c most (motionP k l s).2 := by
  obtain ⟨F, hF⟩ : ∃ F, (motionP k l s).2 = F := ⟨_, rfl⟩
  rw [hF]
  by_cases hg : k = 103
  · have hbd := keyP_bd l s
    obtain ⟨⟨r, s1⟩, hR⟩ : ∃ R, keyP l s = R := ⟨_, rfl⟩
    have hF2 : (motionB (16777216 + r) l s1).2 = F := by
      rw [← hF]; unfold motionP; rw [if_pos hg]; show _ = (motionB (16777216 + (keyP l s).1) l (keyP l s).2).2; rw [hR]
    rw [hR] at hbd
    obtain ⟨hb0, hb1⟩ := hbd
    simp only at hb0 hb1
    have hgb : (k == 103) = true := by simp [hg]
    have cK := fun W (hw : At w0 W pb a l c most s) => key_told hl hR W hw
    clear hR hg
    clear hF
    have cI := fun W => moveIs_any (16777216 + r) W
    rcases Bool.eq_false_or_eq_true (isB (16777216 + r)) with hi | hi
    · rw [hi] at cI
      have cQ := fun W => asks_any (16777216 + r) W
      rcases Bool.eq_false_or_eq_true (asksB (16777216 + r)) with hq | hq
      · rw [hq] at cQ
        obtain ⟨⟨r2, s2⟩, hR2⟩ : ∃ R, keyP l { s1 with key := (16777216 + r) } = R := ⟨_, rfl⟩
        have HF := Lib.hid ((motionB_asks hi hq hR2).symm.trans hF2)
        have cK2 := fun W (hw : At w0 W pb a l c most { s1 with key := (16777216 + r) }) => key_told hl hR2 W hw
        clear hi hq hR2 hF2
        go_enter Try.func24, Try.ntmps24
        go_wp2_with (first
          | (go_at_call 11; refine (cK _ h).mono ?_; clear cK; rintro e w1 ⟨rfl, hA1⟩)
          | (go_at_call 29; refine (cI _).mono ?_; rintro e w2 ⟨rfl, hb2⟩; have hA2 := hA1.mem hb2; have hx6 := hA2.p.c6; have hf6 := hA2.p.free 6)
          | (go_at_call 30; refine (cQ _).mono ?_; rintro e w3 ⟨rfl, hb3⟩; have hA3 := (hA2.s6 (16777216 + r)).mem hb3)
          | (go_at_call 11; refine (cK2 _ hA3).mono ?_; rintro e w4 ⟨rfl, hA4⟩; have hx8 := hA4.p.c8; have hf8 := hA4.p.free 8))
        first | go_end0 | (simp only [Exit.inBlock, Exit.then]; refine bodyPost_ret (results_none rfl _ _ _) rfl ?_) | refine bodyPost_ret (results_none rfl _ _ _) rfl ?_
        exact ⟨⟨_, rfl⟩, HF.out ▸ hA4.s8 r2⟩
      · rw [hq] at cQ
        have HF := Lib.hid ((motionB_plain hi hq).symm.trans hF2)
        clear hi hq hF2
        go_enter Try.func24, Try.ntmps24
        go_wp2_with (first
          | (go_at_call 11; refine (cK _ h).mono ?_; clear cK; rintro e w1 ⟨rfl, hA1⟩)
          | (go_at_call 29; refine (cI _).mono ?_; rintro e w2 ⟨rfl, hb2⟩; have hA2 := hA1.mem hb2; have hx6 := hA2.p.c6; have hf6 := hA2.p.free 6)
          | (go_at_call 30; refine (cQ _).mono ?_; rintro e w3 ⟨rfl, hb3⟩; have hA3 := (hA2.s6 (16777216 + r)).mem hb3))
        first | go_end0 | (simp only [Exit.inBlock, Exit.then]; refine bodyPost_ret (results_none rfl _ _ _) rfl ?_) | refine bodyPost_ret (results_none rfl _ _ _) rfl ?_
        exact ⟨⟨_, rfl⟩, HF.out ▸ hA3⟩
    · rw [hi] at cI
      have HF := Lib.hid ((motionB_no hi).symm.trans hF2)
      clear hi hF2
      go_enter Try.func24, Try.ntmps24
      go_wp2_with (first
        | (go_at_call 11; refine (cK _ h).mono ?_; clear cK; rintro e w1 ⟨rfl, hA1⟩)
        | (go_at_call 29; refine (cI _).mono ?_; rintro e w2 ⟨rfl, hb2⟩; have hA2 := hA1.mem hb2; have hx6 := hA2.p.c6; have hf6 := hA2.p.free 6)
        | (go_at_call 13; refine (fail_at 5 hA2).mono ?_; rintro e w3 ⟨⟨v, rfl⟩, hA3⟩))
      first | go_end0 | (simp only [Exit.inBlock, Exit.then]; refine bodyPost_ret (results_none rfl _ _ _) rfl ?_) | refine bodyPost_ret (results_none rfl _ _ _) rfl ?_
      exact ⟨⟨_, rfl⟩, HF.out ▸ hA3⟩
  · have hF2 : (motionB k l s).2 = F := by
      rw [← hF]; unfold motionP; rw [if_neg hg]
    have hgb : (k == 103) = false := by simp [hg]
    clear hg
    clear hF
    have cI := fun W => moveIs_any k W
    rcases Bool.eq_false_or_eq_true (isB k) with hi | hi
    · rw [hi] at cI
      have cQ := fun W => asks_any k W
      rcases Bool.eq_false_or_eq_true (asksB k) with hq | hq
      · rw [hq] at cQ
        obtain ⟨⟨r2, s2⟩, hR2⟩ : ∃ R, keyP l { s with key := k } = R := ⟨_, rfl⟩
        have HF := Lib.hid ((motionB_asks hi hq hR2).symm.trans hF2)
        have cK2 := fun W (hw : At w0 W pb a l c most { s with key := k }) => key_told hl hR2 W hw
        clear hi hq hR2 hF2
        go_enter Try.func24, Try.ntmps24
        go_wp2_with (first
          | (go_at_call 29; refine (cI _).mono ?_; rintro e w2 ⟨rfl, hb2⟩; have hA2 := h.mem hb2; have hx6 := hA2.p.c6; have hf6 := hA2.p.free 6)
          | (go_at_call 30; refine (cQ _).mono ?_; rintro e w3 ⟨rfl, hb3⟩; have hA3 := (hA2.s6 k).mem hb3)
          | (go_at_call 11; refine (cK2 _ hA3).mono ?_; rintro e w4 ⟨rfl, hA4⟩; have hx8 := hA4.p.c8; have hf8 := hA4.p.free 8))
        first | go_end0 | (simp only [Exit.inBlock, Exit.then]; refine bodyPost_ret (results_none rfl _ _ _) rfl ?_) | refine bodyPost_ret (results_none rfl _ _ _) rfl ?_
        exact ⟨⟨_, rfl⟩, HF.out ▸ hA4.s8 r2⟩
      · rw [hq] at cQ
        have HF := Lib.hid ((motionB_plain hi hq).symm.trans hF2)
        clear hi hq hF2
        go_enter Try.func24, Try.ntmps24
        go_wp2_with (first
          | (go_at_call 29; refine (cI _).mono ?_; rintro e w2 ⟨rfl, hb2⟩; have hA2 := h.mem hb2; have hx6 := hA2.p.c6; have hf6 := hA2.p.free 6)
          | (go_at_call 30; refine (cQ _).mono ?_; rintro e w3 ⟨rfl, hb3⟩; have hA3 := (hA2.s6 k).mem hb3))
        first | go_end0 | (simp only [Exit.inBlock, Exit.then]; refine bodyPost_ret (results_none rfl _ _ _) rfl ?_) | refine bodyPost_ret (results_none rfl _ _ _) rfl ?_
        exact ⟨⟨_, rfl⟩, HF.out ▸ hA3⟩
    · rw [hi] at cI
      have HF := Lib.hid ((motionB_no hi).symm.trans hF2)
      clear hi hF2
      go_enter Try.func24, Try.ntmps24
      go_wp2_with (first
        | (go_at_call 29; refine (cI _).mono ?_; rintro e w2 ⟨rfl, hb2⟩; have hA2 := h.mem hb2; have hx6 := hA2.p.c6; have hf6 := hA2.p.free 6)
        | (go_at_call 13; refine (fail_at 5 hA2).mono ?_; rintro e w3 ⟨⟨v, rfl⟩, hA3⟩))
      first | go_end0 | (simp only [Exit.inBlock, Exit.then]; refine bodyPost_ret (results_none rfl _ _ _) rfl ?_) | refine bodyPost_ret (results_none rfl _ _ _) rfl ?_
      exact ⟨⟨_, rfl⟩, HF.out ▸ hA3⟩

theorem objectP_eq {k r : Int} {l : List Int} {s s1 : St} (hR : keyP l { s with wide := k } = (r, s1)) : (objectP k l s).2 = ((if objB r = true then pureP () else failP 5 : P Unit) l { s1 with key := r }).2 := by
  show ((if objB (keyP l { s with wide := k }).1 = true then pureP () else failP 5 : P Unit) l { (keyP l { s with wide := k }).2 with key := (keyP l { s with wide := k }).1 }).2 = _
  rw [hR]

set_option maxHeartbeats 2000000 in
theorem object_at (k : Int) (hl : l.length ≤ 1000000000000000) (h : At w0 w pb a l c most s) :
    Calls Try.prog 25 #[.pointer (some ⟨pb, 0, none⟩), .int .i64 k] w fun e w' => (∃ v, e = .returned v) ∧ At w0 w' pb a l c most (objectP k l s).2 := by
  obtain ⟨⟨r, s1⟩, hR⟩ : ∃ R, keyP l { s with wide := k } = R := ⟨_, rfl⟩
  obtain ⟨F, hF⟩ : ∃ F, (objectP k l s).2 = F := ⟨_, rfl⟩
  have hF2 := (objectP_eq hR).symm.trans hF
  rw [hF]
  have cK := fun W (hw : At w0 W pb a l c most { s with wide := k }) => key_told hl hR W hw
  have cI := fun W => object_any r W
  have hx7 := h.p.c7
  have hf7 := h.p.free 7
  have hA1 := h.s7 k
  clear hR hF
  rcases Bool.eq_false_or_eq_true (objB r) with hi | hi
  · rw [hi] at cI
    rw [if_pos hi] at hF2
    have HF := Lib.hid (show { s1 with key := r } = F from hF2)
    clear hi hF2
    go_enter Try.func25, Try.ntmps25
    go_wp2_with (first
      | (go_at_call 11; refine (cK _ hA1).mono ?_; rintro e w2 ⟨rfl, hA2⟩; have hx6 := hA2.p.c6; have hf6 := hA2.p.free 6; have hA3 := hA2.s6 r)
      | (go_at_call 31; refine (cI _).mono ?_; rintro e w3 ⟨rfl, rfl⟩))
    first | go_end0 | (simp only [Exit.inBlock, Exit.then]; refine bodyPost_ret (results_none rfl _ _ _) rfl ?_) | refine bodyPost_ret (results_none rfl _ _ _) rfl ?_
    exact ⟨⟨_, rfl⟩, HF.out ▸ hA3⟩
  · rw [hi] at cI
    rw [if_neg (by simp [hi])] at hF2
    have HF := Lib.hid hF2
    clear hi hF2
    go_enter Try.func25, Try.ntmps25
    go_wp2_with (first
      | (go_at_call 11; refine (cK _ hA1).mono ?_; rintro e w2 ⟨rfl, hA2⟩; have hx6 := hA2.p.c6; have hf6 := hA2.p.free 6; have hA3 := hA2.s6 r)
      | (go_at_call 31; refine (cI _).mono ?_; rintro e w3 ⟨rfl, rfl⟩)
      | (go_at_call 13; refine (fail_at 5 hA3).mono ?_; rintro e w4 ⟨⟨v, rfl⟩, hA4⟩))
    first | go_end0 | (simp only [Exit.inBlock, Exit.then]; refine bodyPost_ret (results_none rfl _ _ _) rfl ?_) | refine bodyPost_ret (results_none rfl _ _ _) rfl ?_
    exact ⟨⟨_, rfl⟩, HF.out ▸ hA4⟩
end

end Go.Proofs.Ytogmhnpakjdpmaa
