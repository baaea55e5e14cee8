/-
  The parser's state along a walk; the walks over its steps: a count, a motion, an object.
-/
import Derived.Test.YtogmhnpakjdpmaaKey
import Derived.Deep.LoopGhost
namespace Go.Proofs.Ytogmhnpakjdpmaa
open Go.RowKit

/-- The parser's block, its keys, and what was ahead of it is as it was. -/
structure At (w0 w : World) (pb : Nat) (a : Option Addr) (l : List Int) (c : Nat) (most : Int) (s : St) : Prop where
  p : PAt w pb (.slice a l.length c) most s
  k : Ks w pb a l
  le : s.pos ≤ l.length
  b : Below pb w0 w

section
variable {w0 w w' : World} {pb : Nat} {a : Option Addr} {l : List Int} {c : Nat} {most : Int} {s : St}
theorem At.mem (h : At w0 w pb a l c most s) (hb : Below w.heap.size w w') : At w0 w' pb a l c most s :=
  ⟨h.p.below hb, h.k.below (hb.mono (Nat.le_of_lt h.p.lt)), h.le, h.b.trans (hb.mono (Nat.le_of_lt h.p.lt))⟩
theorem At.step (h : At w0 w pb a l c most s) {s' : St} (hle : s'.pos ≤ l.length) (hs : Step w pb (.slice a l.length c) most s' w') : At w0 w' pb a l c most s' :=
  ⟨hs.1, h.k.below hs.2, hle, h.b.trans hs.2⟩
theorem At.drewN (h : At w0 w pb a l c most s) (n : Nat) : At w0 (w.drewN n) pb a l c most s := ⟨h.p, h.k, h.le, below_drewN h.b n⟩
theorem At.s3 (h : At w0 w pb a l c most s) (n : Int) : At w0 (w.setCell ⟨pb, 3, none⟩ (.int .i64 n)) pb a l c most { s with reg := n } := ⟨h.p.s3 n, h.k.below below_set, h.le, h.b.trans below_set⟩
theorem At.s4 (h : At w0 w pb a l c most s) (n : Int) : At w0 (w.setCell ⟨pb, 4, none⟩ (.int .i64 n)) pb a l c most { s with cnt := n } := ⟨h.p.s4 n, h.k.below below_set, h.le, h.b.trans below_set⟩
theorem At.s5 (h : At w0 w pb a l c most s) (n : Int) : At w0 (w.setCell ⟨pb, 5, none⟩ (.int .i64 n)) pb a l c most { s with oper := n } := ⟨h.p.s5 n, h.k.below below_set, h.le, h.b.trans below_set⟩
theorem At.s6 (h : At w0 w pb a l c most s) (n : Int) : At w0 (w.setCell ⟨pb, 6, none⟩ (.int .i64 n)) pb a l c most { s with key := n } := ⟨h.p.s6 n, h.k.below below_set, h.le, h.b.trans below_set⟩
theorem At.s7 (h : At w0 w pb a l c most s) (n : Int) : At w0 (w.setCell ⟨pb, 7, none⟩ (.int .i64 n)) pb a l c most { s with wide := n } := ⟨h.p.s7 n, h.k.below below_set, h.le, h.b.trans below_set⟩
theorem At.s8 (h : At w0 w pb a l c most s) (n : Int) : At w0 (w.setCell ⟨pb, 8, none⟩ (.int .i64 n)) pb a l c most { s with rune := n } := ⟨h.p.s8 n, h.k.below below_set, h.le, h.b.trans below_set⟩

theorem over_at (h : At w0 w pb a l c most s) : Calls Try.prog 15 #[.pointer (some ⟨pb, 0, none⟩)] w fun e w' => e = .returned (.bool (ov s)) ∧ w = w' := over_any pb _ most s w h.p
theorem fail_at (err : Int) (h : At w0 w pb a l c most s) : Calls Try.prog 13 #[.pointer (some ⟨pb, 0, none⟩), .int .i64 err] w fun e w' => (∃ v, e = .returned v) ∧ At w0 w' pb a l c most (failP err l s).2 :=
  (fail_any pb _ most s l err w h.p).mono fun _ _ hh => ⟨hh.1, h.step ((good_fail err).le l s h.le) hh.2⟩
theorem key_at (hl : l.length ≤ 1000000000000000) (h : At w0 w pb a l c most s) : Calls Try.prog 11 #[.pointer (some ⟨pb, 0, none⟩)] w fun e w' => e = .returned (.int .i64 (keyP l s).1) ∧ At w0 w' pb a l c most (keyP l s).2 :=
  (key_any pb a l c most s w h.p h.k h.le hl).mono fun _ _ hh => ⟨hh.1, h.step (good_key.le l s h.le) hh.2⟩
/-- A key's contract, its answer told. -/
theorem key_told {r : Int} {s1 : St} (hl : l.length ≤ 1000000000000000) (hR : keyP l s = (r, s1)) (w1 : World) (h : At w0 w1 pb a l c most s) : Calls Try.prog 11 #[.pointer (some ⟨pb, 0, none⟩)] w1 fun e w' => e = .returned (.int .i64 r) ∧ At w0 w' pb a l c most s1 := by
  have := key_at hl h
  rw [hR] at this
  exact this
end

theorem keyP_bd (l : List Int) (s : St) : 0 ≤ (keyP l s).1 ∧ (keyP l s).1 < 16777216 := by
  unfold keyP
  split
  · exact ⟨by simp, by simp⟩
  · split
    · exact ⟨by simp, by simp⟩
    · split
      · exact ⟨by simp, by simp⟩
      · split
        · exact ⟨by simp, by simp⟩
        · exact ⟨by simp only; omega, by simp only; omega⟩

section
variable {w0 w : World} {pb : Nat} {a : Option Addr} {l : List Int} {c : Nat} {most : Int} {s : St}

set_option maxHeartbeats 2000000 in
theorem count_at (k : Int) (hk : 0 ≤ k ∧ k < 16777216) (hmost : 1 ≤ most ∧ most ≤ 999) (hl : l.length ≤ 1000000000000000) (h : At w0 w pb a l c most s) :
    Calls Try.prog 14 #[.pointer (some ⟨pb, 0, none⟩), .int .i64 k] w fun e w' => e = .returned (.tuple #[.int .i64 (countP most k l s).1.1, .int .i64 (countP most k l s).1.2]) ∧ At w0 w' pb a l c most (countP most k l s).2 := by
  obtain ⟨F, hF⟩ : ∃ F, countP most k l s = F := ⟨_, rfl⟩
  have hF2 : countF most 5 0 k l s = F := hF
  rw [hF]
  have HF := Lib.hid hF2
  clear hF hF2
  go_enter Try.func14, Try.ntmps14
  go_wp2
  go_loopg [1, 4] 7 (fun g v1 v4 wr => ∃ (f : Nat) (n k : Int) (s' : St), f < g ∧ v1 = .int .i64 k ∧ v4 = .int .i64 n ∧ 0 ≤ n ∧ n ≤ most ∧ 0 ≤ k ∧ k < 16777216 ∧ Hid (f = 5 ∧ n = 0 ∨ f = 4 ∧ 1 ≤ n ∨ f = 3 ∧ 10 ≤ n ∨ f = 2 ∧ 100 ≤ n) ∧ Hid (countF most f n k l s' = F) ∧ At w0 wr pb a l c most s')
  case atStart => exact ⟨5, 0, k, s, by omega, rfl, rfl, by omega, by omega, hk.1, hk.2, Lib.hid (.inl ⟨rfl, rfl⟩), HF, h⟩
  case round =>
    clear HF h hk
    obtain ⟨f, n, k, s', hfg, rfl, rfl, hn0, hn1, hk0, hk1, HB, HF, hA⟩ := hrel
    obtain ⟨f, rfl⟩ : ∃ f', f = f' + 1 := ⟨f - 1, by have := HB.out; omega⟩
    obtain ⟨gq, rfl⟩ : ∃ gq, gk = gq + 1 := ⟨gk - 1, by omega⟩
    have hF : countF most (f + 1) n k l s' = F := HF.out
    have hE : countF most (f + 1) n k = if isD n k = true then (if most < 10 * n + k - 48 then bindP (failP 2) fun _ => pureP (10 * n + k - 48, 0) else bindP keyP fun k' => countF most f (10 * n + k - 48) k') else pureP (n, k) := rfl
    rw [hE] at hF
    clear hE
    by_cases hd : isD n k = true
    · have hF' : (if most < 10 * n + k - 48 then bindP (failP 2) fun _ => pureP (10 * n + k - 48, 0) else bindP keyP fun k' => countF most f (10 * n + k - 48) k') l s' = F := by
        rw [if_pos hd] at hF; exact hF
      have hkk : 48 ≤ k ∧ k ≤ 57 := by
        unfold isD at hd
        simp only [Bool.or_eq_true, Bool.and_eq_true, decide_eq_true_eq, beq_iff_eq] at hd
        omega
      have hnn : 0 < n ∨ 49 ≤ k := by
        unfold isD at hd
        simp only [Bool.or_eq_true, Bool.and_eq_true, decide_eq_true_eq, beq_iff_eq] at hd
        omega
      clear hd hF HF
      have hc2 := hA.p.c2
      by_cases hm : most < 10 * n + k - 48
      · rw [if_pos hm] at hF'
        have hmb : decide (most < 10 * n + k - 48) = true := by simp; omega
        have cF := fun W (hw : At w0 W pb a l c most s') => fail_at 2 hw
        have hF2 : F = ((10 * n + k - 48, 0), (failP 2 l s').2) := hF'.symm
        subst hF2
        clear hm hF'
        rcases (show 49 ≤ k ∨ (k = 48 ∧ 0 < n) by omega) with q | ⟨q0, q⟩
        · have t1 : decide (49 ≤ k) = true := by simp; omega
          have t2 : decide (k ≤ 57) = true := by simp; omega
          clear q
          go_wp2_with (go_at_call 13; refine (cF _ hA).mono ?_; rintro e w2 ⟨⟨v, rfl⟩, hA2⟩)
          go_ret2
          exact ⟨rfl, hA2⟩
        · have t1 : decide (49 ≤ k) = false := by simp; omega
          have t3 : (k == 48) = true := by simp; omega
          have t4 : decide (0 < n) = true := by simp; omega
          clear q q0
          go_wp2_with (go_at_call 13; refine (cF _ hA).mono ?_; rintro e w2 ⟨⟨v, rfl⟩, hA2⟩)
          go_ret2
          exact ⟨rfl, hA2⟩
      · rw [if_neg hm] at hF'
        have hmb : decide (most < 10 * n + k - 48) = false := by simp; omega
        have hbd := keyP_bd l s'
        obtain ⟨⟨r, s1⟩, hR⟩ : ∃ R, keyP l s' = R := ⟨_, rfl⟩
        have cK := fun W (hw : At w0 W pb a l c most s') => key_told hl hR W hw
        have hF2 : countF most f (10 * n + k - 48) r l s1 = F := by
          rw [← hF']; show _ = countF most f (10 * n + k - 48) (keyP l s').1 l (keyP l s').2; rw [hR]
        rw [hR] at hbd
        have HF2 := Lib.hid hF2
        have HB2 : Hid (f = 5 ∧ (10 * n + k - 48) = 0 ∨ f = 4 ∧ 1 ≤ 10 * n + k - 48 ∨ f = 3 ∧ 10 ≤ 10 * n + k - 48 ∨ f = 2 ∧ 100 ≤ 10 * n + k - 48) := Lib.hid (by have := HB.out; omega)
        simp only at hbd
        obtain ⟨hb0, hb1⟩ := hbd
        have hup : 10 * n + k - 48 ≤ most := by omega
        have hlo : 0 ≤ 10 * n + k - 48 := by omega
        clear hm hF' hF2 hR hnn
        rcases (show 49 ≤ k ∨ (k = 48 ∧ 0 < n) by have := HB.out; have := HB2.out; omega) with q | ⟨q0, q⟩
        · have t1 : decide (49 ≤ k) = true := by simp; omega
          have t2 : decide (k ≤ 57) = true := by simp; omega
          clear q
          go_wp2_with (go_at_call 11; refine (cK _ hA).mono ?_; rintro e w2 ⟨rfl, hA2⟩)
          go_roundg gq
          case measure => omega
          case rel => exact ⟨f, _, r, s1, by omega, rfl, rfl, hlo, hup, hb0, hb1, HB2, HF2, hA2⟩
        · have t1 : decide (49 ≤ k) = false := by simp; omega
          have t3 : (k == 48) = true := by simp; omega
          have t4 : decide (0 < n) = true := by simp; omega
          clear q q0
          go_wp2_with (go_at_call 11; refine (cK _ hA).mono ?_; rintro e w2 ⟨rfl, hA2⟩)
          go_roundg gq
          case measure => omega
          case rel => exact ⟨f, _, r, s1, by omega, rfl, rfl, hlo, hup, hb0, hb1, HB2, HF2, hA2⟩
    · have hF' : F = ((n, k), s') := by
        rw [if_neg hd] at hF; exact hF.symm
      have hno : ¬ (49 ≤ k ∧ k ≤ 57) ∧ ¬ (k = 48 ∧ 0 < n) := by
        unfold isD at hd
        simp only [Bool.or_eq_true, Bool.and_eq_true, decide_eq_true_eq, beq_iff_eq] at hd
        omega
      subst hF'
      clear hd hF HF
      rcases (show (49 ≤ k ∧ ¬ k ≤ 57) ∨ (¬ 49 ≤ k ∧ k ≠ 48) ∨ (k = 48 ∧ ¬ 0 < n) by omega) with ⟨q1, q2⟩ | ⟨q1, q2⟩ | ⟨q1, q2⟩
      · have t1 : decide (49 ≤ k) = true := by simp; omega
        have t2 : decide (k ≤ 57) = false := by simp; omega
        have t3 : (k == 48) = false := by simp; omega
        clear q1 q2 hno
        go_wp2
        go_ret2
        exact ⟨rfl, hA⟩
      · have t1 : decide (49 ≤ k) = false := by simp; omega
        have t3 : (k == 48) = false := by simp; omega
        clear q1 q2 hno
        go_wp2
        go_ret2
        exact ⟨rfl, hA⟩
      · have t1 : decide (49 ≤ k) = false := by simp; omega
        have t3 : (k == 48) = true := by simp; omega
        have t4 : decide (0 < n) = false := by simp; omega
        clear q1 q2 hno
        go_wp2
        go_ret2
        exact ⟨rfl, hA⟩
end

end Go.Proofs.Ytogmhnpakjdpmaa
