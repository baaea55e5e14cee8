/-
  The walk over the parser's command whole, of normal mode.
-/
import Derived.Test.YtogmhnpakjdpmaaCmd
namespace Go.Proofs.Ytogmhnpakjdpmaa
open Go.RowKit

theorem regP_no {k : Int} {l : List Int} {s : St} (h : k ≠ 34) : regP k l s = (k, s) := by
  unfold regP; rw [if_neg h]; rfl
theorem regP_yes {k r : Int} {l : List Int} {s s2 : St} (h : k = 34) (hR : keyP l s = (r, s2)) : regP k l s = keyP l ((if namedB r = true then pureP () else failP 5 : P Unit) l { s2 with reg := r }).2 := by
  unfold regP; rw [if_pos h]; unfold bindP modP; simp only [hR]
theorem commandP_eq {most k k' n k2 : Int} {rec : Bool} {l : List Int} {s s1 s5 s6 : St} (hK : keyP l s = (k, s1)) (hG : regP k l s1 = (k', s5)) (hC : countP most k' l s5 = ((n, k2), s6)) :
    (commandP most rec l s).2 = ((if ov { s6 with cnt := n } = true then pureP () else normalP most k2 rec : P Unit) l { s6 with cnt := n }).2 := by
  unfold commandP bindP modP getP; simp only [hK, hG, hC]

section
variable {w0 w : World} {pb : Nat} {a : Option Addr} {l : List Int} {c : Nat} {most : Int} {s : St}

set_option maxHeartbeats 4000000 in
theorem command_at (rec : Bool) (hmost : 1 ≤ most ∧ most ≤ 999) (hl : l.length ≤ 1000000000000000) (h : At w0 w pb a l c most s) :
    Calls Try.prog 10 #[.pointer (some ⟨pb, 0, none⟩), .int .i64 1, .bool rec] w fun e w' => (∃ v, e = .returned v) ∧ At w0 w' pb a l c most (commandP most rec l s).2 := by
  have hbdK := keyP_bd l s
  obtain ⟨⟨k, s1⟩, hK⟩ : ∃ R, keyP l s = R := ⟨_, rfl⟩
  rw [hK] at hbdK
  have cK1 := fun W (hw : At w0 W pb a l c most s) => key_told hl hK W hw
  by_cases hk : k = 34
  · have hkb : (k == 34) = true := by simp [hk]
    obtain ⟨⟨r, s2⟩, hR⟩ : ∃ R, keyP l s1 = R := ⟨_, rfl⟩
    have cK2 := fun W (hw : At w0 W pb a l c most s1) => key_told hl hR W hw
    have hG0 := regP_yes hk hR
    have cN := fun W => named_any r W
    rcases Bool.eq_false_or_eq_true (namedB r) with hm | hm
    · rw [if_pos hm] at hG0
      simp only [hm] at cN
      have hG1 : regP k l s1 = keyP l { s2 with reg := r } := hG0
      have hbd := keyP_bd l { s2 with reg := r }
      obtain ⟨⟨k', s5⟩, hK3⟩ : ∃ R, keyP l { s2 with reg := r } = R := ⟨_, rfl⟩
      rw [hK3] at hG1 hbd
      have cK3 := fun W (hw : At w0 W pb a l c most { s2 with reg := r }) => key_told hl hK3 W hw
      have hbd2 := countP_bd most k' l s5 hmost hbd
      obtain ⟨⟨⟨n, k2⟩, s6⟩, hC⟩ : ∃ R, countP most k' l s5 = R := ⟨_, rfl⟩
      rw [hC] at hbd2
      have cC := fun W (hw : At w0 W pb a l c most s5) => count_told hbd hmost hl hC W hw
      obtain ⟨F, hF⟩ : ∃ F, (commandP most rec l s).2 = F := ⟨_, rfl⟩
      have hF2 := (commandP_eq (rec := rec) hK hG1 hC).symm.trans hF
      rw [hF]
      obtain ⟨hn0, hn1, _, _⟩ := hbd2
      simp only at hn0 hn1
      have cO := fun W (hw : At w0 W pb a l c most { s6 with cnt := n }) => over_at hw
      clear hF hC hK
      clear hk hR hm hG0 hG1 hK3
      rcases Bool.eq_false_or_eq_true (ov { s6 with cnt := n }) with ho | ho
      · rw [if_pos ho] at hF2
        simp only [ho] at cO
        have HF := Lib.hid (show { s6 with cnt := n } = F from hF2)
        clear ho hF2
        go_enter Try.func10, Try.ntmps10
        go_wp2_with (first
          | (go_at_call 11; refine (cK1 _ h).mono ?_; clear cK1; rintro e w1 ⟨rfl, hA1⟩)
          | (go_at_call 11; refine (cK2 _ hA1).mono ?_; clear cK2; rintro e w2 ⟨rfl, hA2⟩; have hx3 := hA2.p.c3; have hf3 := hA2.p.free 3; have hA3 := hA2.s3 r)
          | (go_at_call 12; refine (cN _).mono ?_; clear cN; rintro e w3 ⟨rfl, rfl⟩)
          | (go_at_call 11; refine (cK3 _ hA3).mono ?_; clear cK3; rintro e w4 ⟨rfl, hB⟩)
          | (go_at_call 14; refine (cC _ hB).mono ?_; clear cC; rintro e w5 ⟨rfl, hA5⟩; have hx4 := hA5.p.c4; have hf4 := hA5.p.free 4; have hA6 := hA5.s4 n)
          | (go_at_call 15; refine (cO _ hA6).mono ?_; clear cO; rintro e w7 ⟨rfl, rfl⟩))
        first | go_end0 | (simp only [Exit.inBlock, Exit.then]; refine bodyPost_ret (results_none rfl _ _ _) rfl ?_) | refine bodyPost_ret (results_none rfl _ _ _) rfl ?_
        exact ⟨⟨_, rfl⟩, HF.out ▸ hA6⟩
      · rw [if_neg (by simp [ho])] at hF2
        simp only [ho] at cO
        have HF := Lib.hid hF2
        clear ho hF2
        go_enter Try.func10, Try.ntmps10
        go_wp2_with (first
          | (go_at_call 11; refine (cK1 _ h).mono ?_; clear cK1; rintro e w1 ⟨rfl, hA1⟩)
          | (go_at_call 11; refine (cK2 _ hA1).mono ?_; clear cK2; rintro e w2 ⟨rfl, hA2⟩; have hx3 := hA2.p.c3; have hf3 := hA2.p.free 3; have hA3 := hA2.s3 r)
          | (go_at_call 12; refine (cN _).mono ?_; clear cN; rintro e w3 ⟨rfl, rfl⟩)
          | (go_at_call 11; refine (cK3 _ hA3).mono ?_; clear cK3; rintro e w4 ⟨rfl, hB⟩)
          | (go_at_call 14; refine (cC _ hB).mono ?_; clear cC; rintro e w5 ⟨rfl, hA5⟩; have hx4 := hA5.p.c4; have hf4 := hA5.p.free 4; have hA6 := hA5.s4 n)
          | (go_at_call 15; refine (cO _ hA6).mono ?_; clear cO; rintro e w7 ⟨rfl, rfl⟩)
          | (go_at_call 16; refine (normal_at k2 rec ⟨hn0, hn1⟩ hmost hl hA6).mono ?_; rintro e w8 ⟨⟨v, rfl⟩, hA8⟩))
        first | go_end0 | (simp only [Exit.inBlock, Exit.then]; refine bodyPost_ret (results_none rfl _ _ _) rfl ?_) | refine bodyPost_ret (results_none rfl _ _ _) rfl ?_
        exact ⟨⟨_, rfl⟩, HF.out ▸ hA8⟩
    · rw [if_neg (by simp [hm])] at hG0
      simp only [hm] at cN
      obtain ⟨s4, hs4⟩ : ∃ s4, (failP 5 l { s2 with reg := r }).2 = s4 := ⟨_, rfl⟩
      have cF : ∀ W, At w0 W pb a l c most { s2 with reg := r } → Calls Try.prog 13 #[.pointer (some ⟨pb, 0, none⟩), .int .i64 5] W fun e w' => (∃ v, e = .returned v) ∧ At w0 w' pb a l c most s4 := fun W hw => by
        have := fail_at 5 hw
        rw [hs4] at this
        exact this
      rw [hs4] at hG0
      have hbd := keyP_bd l s4
      obtain ⟨⟨k', s5⟩, hK3⟩ : ∃ R, keyP l s4 = R := ⟨_, rfl⟩
      rw [hK3] at hG0 hbd
      have hG1 := hG0
      have cK3 := fun W (hw : At w0 W pb a l c most s4) => key_told hl hK3 W hw
      have hbd2 := countP_bd most k' l s5 hmost hbd
      obtain ⟨⟨⟨n, k2⟩, s6⟩, hC⟩ : ∃ R, countP most k' l s5 = R := ⟨_, rfl⟩
      rw [hC] at hbd2
      have cC := fun W (hw : At w0 W pb a l c most s5) => count_told hbd hmost hl hC W hw
      obtain ⟨F, hF⟩ : ∃ F, (commandP most rec l s).2 = F := ⟨_, rfl⟩
      have hF2 := (commandP_eq (rec := rec) hK hG1 hC).symm.trans hF
      rw [hF]
      obtain ⟨hn0, hn1, _, _⟩ := hbd2
      simp only at hn0 hn1
      have cO := fun W (hw : At w0 W pb a l c most { s6 with cnt := n }) => over_at hw
      clear hF hC hK
      clear hk hR hm hG0 hG1 hK3 hs4
      rcases Bool.eq_false_or_eq_true (ov { s6 with cnt := n }) with ho | ho
      · rw [if_pos ho] at hF2
        simp only [ho] at cO
        have HF := Lib.hid (show { s6 with cnt := n } = F from hF2)
        clear ho hF2
        go_enter Try.func10, Try.ntmps10
        go_wp2_with (first
          | (go_at_call 11; refine (cK1 _ h).mono ?_; clear cK1; rintro e w1 ⟨rfl, hA1⟩)
          | (go_at_call 11; refine (cK2 _ hA1).mono ?_; clear cK2; rintro e w2 ⟨rfl, hA2⟩; have hx3 := hA2.p.c3; have hf3 := hA2.p.free 3; have hA3 := hA2.s3 r)
          | (go_at_call 12; refine (cN _).mono ?_; clear cN; rintro e w3 ⟨rfl, rfl⟩)
          | (go_at_call 13; refine (cF _ hA3).mono ?_; clear cF; rintro e w9 ⟨⟨v, rfl⟩, hA4⟩)
          | (go_at_call 11; refine (cK3 _ hA4).mono ?_; clear cK3; rintro e w4 ⟨rfl, hB⟩)
          | (go_at_call 14; refine (cC _ hB).mono ?_; clear cC; rintro e w5 ⟨rfl, hA5⟩; have hx4 := hA5.p.c4; have hf4 := hA5.p.free 4; have hA6 := hA5.s4 n)
          | (go_at_call 15; refine (cO _ hA6).mono ?_; clear cO; rintro e w7 ⟨rfl, rfl⟩))
        first | go_end0 | (simp only [Exit.inBlock, Exit.then]; refine bodyPost_ret (results_none rfl _ _ _) rfl ?_) | refine bodyPost_ret (results_none rfl _ _ _) rfl ?_
        exact ⟨⟨_, rfl⟩, HF.out ▸ hA6⟩
      · rw [if_neg (by simp [ho])] at hF2
        simp only [ho] at cO
        have HF := Lib.hid hF2
        clear ho hF2
        go_enter Try.func10, Try.ntmps10
        go_wp2_with (first
          | (go_at_call 11; refine (cK1 _ h).mono ?_; clear cK1; rintro e w1 ⟨rfl, hA1⟩)
          | (go_at_call 11; refine (cK2 _ hA1).mono ?_; clear cK2; rintro e w2 ⟨rfl, hA2⟩; have hx3 := hA2.p.c3; have hf3 := hA2.p.free 3; have hA3 := hA2.s3 r)
          | (go_at_call 12; refine (cN _).mono ?_; clear cN; rintro e w3 ⟨rfl, rfl⟩)
          | (go_at_call 13; refine (cF _ hA3).mono ?_; clear cF; rintro e w9 ⟨⟨v, rfl⟩, hA4⟩)
          | (go_at_call 11; refine (cK3 _ hA4).mono ?_; clear cK3; rintro e w4 ⟨rfl, hB⟩)
          | (go_at_call 14; refine (cC _ hB).mono ?_; clear cC; rintro e w5 ⟨rfl, hA5⟩; have hx4 := hA5.p.c4; have hf4 := hA5.p.free 4; have hA6 := hA5.s4 n)
          | (go_at_call 15; refine (cO _ hA6).mono ?_; clear cO; rintro e w7 ⟨rfl, rfl⟩)
          | (go_at_call 16; refine (normal_at k2 rec ⟨hn0, hn1⟩ hmost hl hA6).mono ?_; rintro e w8 ⟨⟨v, rfl⟩, hA8⟩))
        first | go_end0 | (simp only [Exit.inBlock, Exit.then]; refine bodyPost_ret (results_none rfl _ _ _) rfl ?_) | refine bodyPost_ret (results_none rfl _ _ _) rfl ?_
        exact ⟨⟨_, rfl⟩, HF.out ▸ hA8⟩
  · have hkb : (k == 34) = false := by simp [hk]
    have hG1 : regP k l s1 = (k, s1) := regP_no hk
    have hbd := hbdK
    obtain ⟨k', hk'⟩ : ∃ k', k = k' := ⟨_, rfl⟩
    obtain ⟨s5, hs5⟩ : ∃ s5, s1 = s5 := ⟨_, rfl⟩
    subst hk'
    subst hs5
    have hbd2 := countP_bd most k l s1 hmost hbd
    obtain ⟨⟨⟨n, k2⟩, s6⟩, hC⟩ : ∃ R, countP most k l s1 = R := ⟨_, rfl⟩
    rw [hC] at hbd2
    have cC := fun W (hw : At w0 W pb a l c most s1) => count_told hbd hmost hl hC W hw
    obtain ⟨F, hF⟩ : ∃ F, (commandP most rec l s).2 = F := ⟨_, rfl⟩
    have hF2 := (commandP_eq (rec := rec) hK hG1 hC).symm.trans hF
    rw [hF]
    obtain ⟨hn0, hn1, _, _⟩ := hbd2
    simp only at hn0 hn1
    have cO := fun W (hw : At w0 W pb a l c most { s6 with cnt := n }) => over_at hw
    clear hF hC hK
    clear hk hG1
    rcases Bool.eq_false_or_eq_true (ov { s6 with cnt := n }) with ho | ho
    · rw [if_pos ho] at hF2
      simp only [ho] at cO
      have HF := Lib.hid (show { s6 with cnt := n } = F from hF2)
      clear ho hF2
      go_enter Try.func10, Try.ntmps10
      go_wp2_with (first
        | (go_at_call 11; refine (cK1 _ h).mono ?_; clear cK1; rintro e w1 ⟨rfl, hA1⟩; have hB := hA1)
        | (go_at_call 14; refine (cC _ hB).mono ?_; clear cC; rintro e w5 ⟨rfl, hA5⟩; have hx4 := hA5.p.c4; have hf4 := hA5.p.free 4; have hA6 := hA5.s4 n)
        | (go_at_call 15; refine (cO _ hA6).mono ?_; clear cO; rintro e w7 ⟨rfl, rfl⟩))
      first | go_end0 | (simp only [Exit.inBlock, Exit.then]; refine bodyPost_ret (results_none rfl _ _ _) rfl ?_) | refine bodyPost_ret (results_none rfl _ _ _) rfl ?_
      exact ⟨⟨_, rfl⟩, HF.out ▸ hA6⟩
    · rw [if_neg (by simp [ho])] at hF2
      simp only [ho] at cO
      have HF := Lib.hid hF2
      clear ho hF2
      go_enter Try.func10, Try.ntmps10
      go_wp2_with (first
        | (go_at_call 11; refine (cK1 _ h).mono ?_; clear cK1; rintro e w1 ⟨rfl, hA1⟩; have hB := hA1)
        | (go_at_call 14; refine (cC _ hB).mono ?_; clear cC; rintro e w5 ⟨rfl, hA5⟩; have hx4 := hA5.p.c4; have hf4 := hA5.p.free 4; have hA6 := hA5.s4 n)
        | (go_at_call 15; refine (cO _ hA6).mono ?_; clear cO; rintro e w7 ⟨rfl, rfl⟩)
        | (go_at_call 16; refine (normal_at k2 rec ⟨hn0, hn1⟩ hmost hl hA6).mono ?_; rintro e w8 ⟨⟨v, rfl⟩, hA8⟩))
      first | go_end0 | (simp only [Exit.inBlock, Exit.then]; refine bodyPost_ret (results_none rfl _ _ _) rfl ?_) | refine bodyPost_ret (results_none rfl _ _ _) rfl ?_
      exact ⟨⟨_, rfl⟩, HF.out ▸ hA8⟩
end

end Go.Proofs.Ytogmhnpakjdpmaa
