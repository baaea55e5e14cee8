/-
  The walk over the parser's reading of a key.
-/
import Derived.Test.YtogmhnpakjdpmaaPar
import Derived.Deep.RegionHeld3
import Derived.Deep.DeepCutAuto
namespace Go.Proofs.Ytogmhnpakjdpmaa
open Go.RowKit

/-- The keys, in blocks ahead of the parser's. -/
def Ks (w : World) (pb : Nat) (a : Option Addr) (l : List Int) : Prop := ∀ i, i < l.length → ∃ b off, a = some ⟨b, off, none⟩ ∧ b < pb ∧ w.cell? ⟨b, off + i, none⟩ = some (.int .i64 (rd l i))
theorem Ks.below {w w' : World} {pb : Nat} {a : Option Addr} {l : List Int} (h : Ks w pb a l) (hb : Below pb w w') : Ks w' pb a l := fun i hi => by
  obtain ⟨b, off, e, hlt, hc⟩ := h i hi
  exact ⟨b, off, e, hlt, by rw [← hc]; exact hb.cell hlt⟩

/-- What a step that answers a number leaves. -/
def KeyPost (w : World) (pb : Nat) (lv : Value) (most : Int) (r : Int × St) (e : Ending) (w' : World) : Prop := e = .returned (.int .i64 r.1) ∧ Step w pb lv most r.2 w'

theorem below_drewN {B : Nat} {a w : World} (h : Below B a w) (n : Nat) : Below B a (w.drewN n) := h.trans ⟨rfl, rfl, rfl, Nat.le_refl _, fun _ _ => rfl⟩
theorem PAt.drewN {w : World} {pb : Nat} {lv : Value} {most : Int} {s : St} (h : PAt w pb lv most s) (n : Nat) : PAt (w.drewN n) pb lv most s := h

set_option maxHeartbeats 2000000 in
theorem key_any (pb : Nat) (a : Option Addr) (l : List Int) (c : Nat) (most : Int) (s : St) (w : World) (h : PAt w pb (.slice a l.length c) most s) (hk : Ks w pb a l) (hp : s.pos ≤ l.length) (hl : l.length ≤ 1000000000000000) :
    Calls Try.prog 11 #[.pointer (some ⟨pb, 0, none⟩)] w (KeyPost w pb (.slice a l.length c) most (keyP l s)) := by
  have cO := over_any pb _ most s w h
  have hr : keyP l s = if ov s then (0, s)
    else if s.pos = l.length then (0, { s with more := true })
    else if rd l s.pos < 1 ∨ 16777216 ≤ rd l s.pos then (0, { s with pos := s.pos + 1, e := 5 })
    else if rd l s.pos = 27 then (0, { s with pos := s.pos + 1, esc := true })
    else (rd l s.pos, { s with pos := s.pos + 1 }) := rfl
  have HP := Lib.hid h
  obtain ⟨⟨R1, R2⟩, hR⟩ : ∃ R, keyP l s = R := ⟨_, rfl⟩
  rw [hR] at hr ⊢
  clear hR
  by_cases ho : ov s = true
  · rw [if_pos ho] at hr
    simp only [Prod.mk.injEq] at hr
    obtain ⟨rfl, rfl⟩ := hr
    rw [ho] at cO
    clear ho h hk
    go_enter Try.func11, Try.ntmps11
    go_wp2_with (go_at_call 15; refine cO.mono ?_; rintro e w1 ⟨rfl, rfl⟩)
    go_ret
    exact ⟨rfl, HP.out, Below.refl _ _⟩
  · have ho' : ov s = false := by simpa using ho
    rw [if_neg ho] at hr
    rw [ho'] at cO
    have h0 := h.c0
    have h1 := h.c1
    have h9 := h.c9
    have h10 := h.c10
    have h11 := h.c11
    have hf1 := h.free 1
    have hf4 := h.free 9
    have hf5 := h.free 10
    have hf6 := h.free 11
    clear ho ho' h
    by_cases hpl : s.pos = l.length
    · rw [if_pos hpl] at hr
      simp only [Prod.mk.injEq] at hr
      obtain ⟨rfl, hr2⟩ := hr
      have hb : ((s.pos : Int) == (l.length : Int)) = true := by simp [hpl]
      have HR := Lib.hid hr2
      clear hpl hr2 hk
      go_enter Try.func11, Try.ntmps11
      go_upto_region 3 with (go_at_call 15; refine cO.mono ?_; rintro e w1 ⟨rfl, rfl⟩)
      go_quiet (fail)
      go_wp2
      go_ret
      exact ⟨rfl, by rw [HR.out]; exact (HP.out.drewN _).s10 true, (below_drewN (Below.refl _ _) _).trans below_set⟩
    · rw [if_neg hpl] at hr
      have hb : ((s.pos : Int) == (l.length : Int)) = false := by simp; omega
      obtain ⟨b, off, rfl, hbp, hc⟩ := hk s.pos (by omega)
      have hi0 : (0 : Int) ≤ (s.pos : Int) := by omega
      have hi1 : (s.pos : Int) < (l.length : Int) := by omega
      have hs1 : ((s.pos + 1 : Nat) : Int) = (s.pos : Int) + 1 := by omega
      have HS := Lib.hid hs1
      obtain ⟨k, hk0⟩ : ∃ k, rd l s.pos = k := ⟨_, rfl⟩
      rw [hk0] at hc hr
      clear hk0 hk hs1 hpl
      rcases (show k < 1 ∨ (¬ k < 1 ∧ 16777216 ≤ k) ∨ (¬ k < 1 ∧ ¬ 16777216 ≤ k ∧ k = 27) ∨ (¬ k < 1 ∧ ¬ 16777216 ≤ k ∧ k ≠ 27) by omega) with q1 | ⟨q1, q2⟩ | ⟨q1, q2, q3⟩ | ⟨q1, q2, q3⟩
      · rw [if_pos (.inl q1)] at hr
        simp only [Prod.mk.injEq] at hr
        have hb1 : decide (k < 1) = true := by simp; omega
        clear q1
        obtain ⟨rfl, hr2⟩ := hr
        have HR := Lib.hid hr2
        clear hr2
        go_enter Try.func11, Try.ntmps11
        go_upto_region 3 with (go_at_call 15; refine cO.mono ?_; rintro e w1 ⟨rfl, rfl⟩)
        go_quiet (fail)
        go_upto_region 6 with (fail)
        go_quiet (fail)
        go_wp2
        go_ret
        exact ⟨rfl, by rw [HR.out]; exact ((HP.out.drewN _).s1 (s.pos + 1)).s9 5, (below_drewN (Below.refl _ _) _).trans (below_set.trans below_set)⟩
      · rw [if_pos (.inr q2)] at hr
        simp only [Prod.mk.injEq] at hr
        have hb1 : decide (k < 1) = false := by simp; omega
        have hb2 : decide (16777216 ≤ k) = true := by simp; omega
        clear q2
        clear q1
        obtain ⟨rfl, hr2⟩ := hr
        have HR := Lib.hid hr2
        clear hr2
        go_enter Try.func11, Try.ntmps11
        go_upto_region 3 with (go_at_call 15; refine cO.mono ?_; rintro e w1 ⟨rfl, rfl⟩)
        go_quiet (fail)
        go_upto_region 6 with (fail)
        go_quiet (fail)
        go_wp2
        go_ret
        exact ⟨rfl, by rw [HR.out]; exact ((HP.out.drewN _).s1 (s.pos + 1)).s9 5, (below_drewN (Below.refl _ _) _).trans (below_set.trans below_set)⟩
      · rw [if_neg (by omega), if_pos q3] at hr
        simp only [Prod.mk.injEq] at hr
        have hb1 : decide (k < 1) = false := by simp; omega
        have hb2 : decide (16777216 ≤ k) = false := by simp; omega
        clear q2
        have hb3 : (k == 27) = true := by simp; omega
        clear q3
        clear q1
        obtain ⟨rfl, hr2⟩ := hr
        have HR := Lib.hid hr2
        clear hr2
        go_enter Try.func11, Try.ntmps11
        go_upto_region 3 with (go_at_call 15; refine cO.mono ?_; rintro e w1 ⟨rfl, rfl⟩)
        go_quiet (fail)
        go_upto_region 6 with (fail)
        go_quiet (fail)
        go_wp2
        go_ret
        exact ⟨rfl, by rw [HR.out]; exact ((HP.out.drewN _).s1 (s.pos + 1)).s11 true, (below_drewN (Below.refl _ _) _).trans (below_set.trans below_set)⟩
      · rw [if_neg (by omega), if_neg q3] at hr
        simp only [Prod.mk.injEq] at hr
        have hb1 : decide (k < 1) = false := by simp; omega
        have hb2 : decide (16777216 ≤ k) = false := by simp; omega
        clear q2
        have hb3 : (k == 27) = false := by simp; omega
        clear q3
        clear q1
        obtain ⟨rfl, hr2⟩ := hr
        have HR := Lib.hid hr2
        clear hr2
        go_enter Try.func11, Try.ntmps11
        go_upto_region 3 with (go_at_call 15; refine cO.mono ?_; rintro e w1 ⟨rfl, rfl⟩)
        go_quiet (fail)
        go_upto_region 6 with (fail)
        go_quiet (fail)
        go_wp2
        go_ret
        exact ⟨rfl, by rw [HR.out]; exact (HP.out.drewN _).s1 (s.pos + 1), (below_drewN (Below.refl _ _) _).trans below_set⟩

end Go.Proofs.Ytogmhnpakjdpmaa
