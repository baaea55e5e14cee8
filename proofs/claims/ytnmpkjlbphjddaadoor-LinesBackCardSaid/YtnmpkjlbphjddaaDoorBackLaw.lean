/-
  The walk over the statement that k behind j leads to the same row, and G of a row's number is there.
-/
import Derived.Test.YtnmpkjlbphjddaaDoorBackB
namespace Go.Proofs.YtnmpkjlbphjddaaDoor
open Go.RowKit

/-- What lies in memory while the offsets are asked. -/
def BkInv (w wr : World) (cs : Array Value) (tb : Nat) (t : List Int) : Prop := LawInv w wr cs 39 ∧ Rn wr tb t
theorem BkInv.step {w wr wr' : World} {cs : Array Value} {tb : Nat} {t : List Int} (h : BkInv w wr cs tb t) (hb : Below wr.heap.size wr wr') : BkInv w wr' cs tb t :=
  ⟨h.1.step hb, h.2.below hb⟩

set_option maxRecDepth 100000 in
set_option maxHeartbeats 800000 in
theorem lawBack_any (a : Option Addr) (ss : List ByteArray) (c : Nat) (x1 x2 x3 x4 kk nn rr : Int) (w : World) (hr : Strs w a ss) (hl : ss.length ≤ 1000000000000000) (hs : ∀ s ∈ ss, s.size ≤ 1000000000000000)
    (hT : Tabs w) :
    Calls Tryd.prog 7 #[.agg #[.slice a ss.length c, .int .i64 x1, .int .i64 x2, .int .i64 x3, .int .i64 x4, .int .i64 kk, .int .i64 nn, .int .i64 rr]] w fun e w' => e = .returned (.bool true) ∧ Below w.heap.size w w' := by
  have h0 : Below w.heap.size w (w.alloc (.cells #[.slice a ss.length c, .int .i64 x1, .int .i64 x2, .int .i64 x3, .int .i64 x4, .int .i64 kk, .int .i64 nn, .int .i64 rr] 39)) := (Below.refl _ _).alloc (Nat.le_refl _) _
  have cH := heavy10_any a ss c x1 x2 x3 x4 kk nn rr _ (hr.below h0) hl hs
  obtain ⟨HV, hHV⟩ : ∃ HV, heavyB ss = HV := ⟨_, rfl⟩
  rw [hHV] at cH
  have HHV := Lib.hid hHV
  have HR := Lib.hid hr
  have HT := Lib.hid hT
  have H0 := Lib.hid h0
  clear hHV hr hT h0 hs
  cases HV with
  | true =>
    go_enter Tryd.func7, Tryd.ntmps7
    go_wp2_with (go_at_call 31; refine cH.mono ?_; rintro e w1 ⟨rfl, hb1⟩)
    go_ret
    exact ⟨rfl, H0.out.trans (hb1.mono H0.out.size)⟩
  | false =>
    have hsm : ∀ s ∈ ss, s.size ≤ 6000 := (txs_le ss ss.length (by omega) (by have := HHV.out; unfold heavyB at this; simpa using this)).2
    have HSM := Lib.hid hsm
    clear hsm
    obtain ⟨cs, hcs⟩ : ∃ cs : Array Value, #[.slice a ss.length c, .int .i64 x1, .int .i64 x2, .int .i64 x3, .int .i64 x4, .int .i64 kk, .int .i64 nn, .int .i64 rr] = cs := ⟨_, rfl⟩
    have HCS := Lib.hid hcs
    clear hcs
    go_enter Tryd.func7, Tryd.ntmps7
    go_wp2_with (go_at_call 31; refine cH.mono ?_; rintro e w1 ⟨rfl, hb1⟩; have HI0 := Lib.hid (LawInv.start hb1); clear hb1 cH)
    go_loopw [3] (fun i wr => ∃ k : Nat, k ≤ ss.length ∧ k ≤ 4 ∧ i = .int .i64 k ∧ LawInv w wr cs 39) (fun i _ => ss.length - (intOf i).toNat)
    case atStart => exact ⟨0, Nat.zero_le _, by omega, rfl, HCS.out ▸ HI0.out⟩
    case round =>
      clear HI0
      obtain ⟨k, hk, hk4, rfl, hI⟩ := hrel
      have hblk := hI.1
      rw [← HCS.out] at hblk
      have hc0 := cell_of hblk 0 (v := .slice a ss.length c) rfl
      clear hblk
      rcases (show (k < ss.length ∧ k < 4) ∨ ¬ k < ss.length ∨ (k < ss.length ∧ ¬ k < 4) by omega) with ⟨hlt, h4⟩ | hno
      · have hltb : decide ((k : Int) < (ss.length : Int)) = true := by simp; omega
        have h4b : decide ((k : Int) < 4) = true := by simp; omega
        obtain ⟨b, off, rfl, hcs⟩ := (HR.out.below hI.2) k hlt
        obtain ⟨s, hs⟩ : ∃ s, sd ss k = s := ⟨_, rfl⟩
        rw [hs] at hcs
        have hsz : s.size ≤ 6000 := by rw [← hs]; exact HSM.out _ (by unfold sd; simp [hlt])
        have HSD := Lib.hid hs
        have hlen := rn_le s
        have hconv := conv_run s (by omega)
        have hI2 := (hI.step (below_new wr (.cells (convA s wr) 21))).drew
        have hrn : Rn (wr.alloc (.cells (convA s wr) 21)).drew wr.heap.size (rn s) := conv_rn s wr
        have cMay := refMay_any s (wr.alloc (.cells (convA s wr) 21)).drew (by omega) (HT.out.below hI2.2)
        have HBK := Lib.hid (show BkInv w (wr.alloc (.cells (convA s wr) 21)).drew cs wr.heap.size (rn s) from ⟨hI2, hrn⟩)
        clear hI hs hI2 hrn
        rcases Bool.eq_false_or_eq_true (mayB s) with hm | hm
        · rw [hm] at cMay
          have HM := Lib.hid hm
          clear hm
          by_cases h200 : (rn s).length ≤ 200
          · have h2b : decide ((200 : Int) < ((rn s).length : Int)) = false := by simp; omega
            go_wp2_with (go_at_call 25; refine cMay.mono ?_; rintro e w2 ⟨rfl, hb2⟩)
            have HB2 := Lib.hid (HBK.out.step hb2)
            clear HBK hb2 hconv hc0 hcs cMay
            obtain ⟨tb, htb⟩ : ∃ tb, wr.heap.size = tb := ⟨_, rfl⟩
            obtain ⟨C, hC⟩ : ∃ C, grownCap wr (rn s).length 0 21 = C := ⟨_, rfl⟩
            rw [htb] at HB2
            rw [htb, hC]
            clear htb hC
            go_loopw [6] (fun i wi => ∃ p : Nat, p ≤ (rn s).length + 1 ∧ i = .int .i64 p ∧ BkInv w wi cs tb (rn s)) (fun i _ => (rn s).length + 1 - (intOf i).toNat)
            case atStart => exact ⟨0, by omega, rfl, HB2.out⟩
            case round =>
              clear HB2
              obtain ⟨p, hp, rfl, hst⟩ := hrel
              have HST := Lib.hid hst
              by_cases hpl : p ≤ (rn s).length
              · have hpb : decide ((p : Int) ≤ ((rn s).length : Int)) = true := by simp; omega
                obtain ⟨r, hr⟩ : ∃ r, Pl.rowN (rn s) p = r := ⟨_, rfl⟩
                obtain ⟨g, hg⟩ : ∃ g, Pl.firN (rn s) (Pl.bgn (rn s) p) = g := ⟨_, rfl⟩
                obtain ⟨d, hd⟩ : ∃ d, (p : Int) - (Pl.bgn (rn s) p : Int) = d := ⟨_, rfl⟩
                have cG := fun (W : World) (h : BkInv w W cs tb (rn s)) => mv_told s p 71 (min ((r : Int) + 1) 999) g 2 0 W (by omega) (HT.out.below h.1.2) (tell_G s p r g HM.out hpl h200 hr hg)
                have cH := fun (W : World) (h : BkInv w W cs tb (rn s)) => mv_told s p 94 0 g 0 0 W (by omega) (HT.out.below h.1.2) (tell_caret s p g HM.out hpl hg)
                have cP0 := fun (W : World) (h : BkInv w W cs tb (rn s)) => refPlace_any tb (rn s) C p W h.2 hpl (by omega)
                rw [hr, hd] at cP0
                have hrp : r ≤ p := hr ▸ Pl.rowN_le (rn s) p
                have hr9 : decide ((r : Int) + 1 ≤ 999) = true := by simp; omega
                have hfr := fun c W => field_row (r : Int) c W
                by_cases hj : Pl.rowN (rn s) p + 1 < Pl.rows (rn s)
                · obtain ⟨x, y, tj, tk, hxl, hyl, hxr, hyr, hyp⟩ := tell_jk s p HM.out hpl hj
                  have cJ := fun (W : World) (h : BkInv w W cs tb (rn s)) => mv_told s p 106 0 x 2 0 W (by omega) (HT.out.below h.1.2) tj
                  have cK := fun (W : World) (h : BkInv w W cs tb (rn s)) => mv_told s x 107 0 y 2 0 W (by omega) (HT.out.below h.1.2) tk
                  have cPx := fun (W : World) (h : BkInv w W cs tb (rn s)) => refPlace_any tb (rn s) C x W h.2 hxl (by omega)
                  have cPy := fun (W : World) (h : BkInv w W cs tb (rn s)) => refPlace_any tb (rn s) C y W h.2 hyl (by omega)
                  rw [hxr, hr, show ((r + 1 : Nat) : Int) = (r : Int) + 1 by omega] at cPx
                  rw [hyr, hr] at cPy
                  obtain ⟨dx, hdx⟩ : ∃ dx, (x : Int) - (Pl.bgn (rn s) x : Int) = dx := ⟨_, rfl⟩
                  obtain ⟨dy, hdy⟩ : ∃ dy, (y : Int) - (Pl.bgn (rn s) y : Int) = dy := ⟨_, rfl⟩
                  rw [hdx] at cPx
                  rw [hdy] at cPy
                  have hfr2 := fun c W => field_row ((r : Int) + 1) c W
                  have hypb : decide ((p : Int) < (y : Int)) = false := by simp; omega
                  clear hj hg hr hst hd tj tk hxr hyr hdx hdy
                  go_wp2_with (first
                    | (go_at_call 32; refine (cP0 _ HST.out).mono ?_; clear cP0; rintro e w2 ⟨rfl, hb2⟩; have HST2 := Lib.hid (HST.out.step hb2))
                    | (go_at_call 33; refine (cJ _ HST2.out).mono ?_; clear cJ; rintro e w3 ⟨rfl, hb3⟩; have HST3 := Lib.hid ((HST2.out.step hb3).step (below_new _ (.cells #[.int .i64 x, .int .i64 2] 44))))
                    | (go_at_call 33; refine (cK _ HST3.out).mono ?_; clear cK; rintro e w4 ⟨rfl, hb4⟩; have HST4 := Lib.hid ((HST3.out.step hb4).step (below_new _ (.cells #[.int .i64 y, .int .i64 2] 44))); have h43 := cell_below (below_new _ (.cells #[.int .i64 y, .int .i64 2] 44)) (two_later hb4).1)
                    | (go_at_call 32; refine (cPx _ HST4.out).mono ?_; clear cPx; rintro e w5 ⟨rfl, hb5⟩; have HST5 := Lib.hid (HST4.out.step hb5); have h53 := (two_later hb5).1)
                    | (go_at_call 32; refine (cPy _ HST5.out).mono ?_; clear cPy; rintro e w6 ⟨rfl, hb6⟩; have HST6 := Lib.hid (HST5.out.step hb6); have h63 := cell_below hb6 h53)
                    | (go_at_call 33; refine (cG _ HST6.out).mono ?_; clear cG; rintro e w7 ⟨rfl, hb7⟩; have HST7 := Lib.hid ((HST6.out.step hb7).step (below_new _ (.cells #[.int .i64 g, .int .i64 2] 44))))
                    | (go_at_call 33; refine (cH _ HST7.out).mono ?_; clear cH; rintro e w8 ⟨rfl, hb8⟩; have HST8 := Lib.hid ((HST7.out.step hb8).step (below_new _ (.cells #[.int .i64 g, .int .i64 0] 44))); have h83 := cell_below (below_new _ (.cells #[.int .i64 g, .int .i64 0] 44)) (two_later hb8).1)
                    | (go_at_call 34; refine (num12_any _ _).mono ?_; rintro e w9 ⟨rfl, rfl⟩))
                  go_roundw
                  case rel => exact ⟨p + 1, by omega, by go_num, HST8.out⟩
                  case measure => simp [intOf]; omega
                · have cJ := fun (W : World) (h : BkInv w W cs tb (rn s)) => mv_told s p 106 0 0 0 6 W (by omega) (HT.out.below h.1.2) (tell_j_no s p HM.out hpl hj)
                  clear hj hg hr hst hd
                  go_wp2_with (first
                    | (go_at_call 32; refine (cP0 _ HST.out).mono ?_; clear cP0; rintro e w2 ⟨rfl, hb2⟩; have HST2 := Lib.hid (HST.out.step hb2))
                    | (go_at_call 33; refine (cJ _ HST2.out).mono ?_; clear cJ; rintro e w3 ⟨rfl, hb3⟩; have HST3 := Lib.hid ((HST2.out.step hb3).step (below_new _ (.cells #[.int .i64 0, .int .i64 0] 44))))
                    | (go_at_call 33; refine (cG _ HST3.out).mono ?_; clear cG; rintro e w4 ⟨rfl, hb4⟩; have HST4 := Lib.hid ((HST3.out.step hb4).step (below_new _ (.cells #[.int .i64 g, .int .i64 2] 44))))
                    | (go_at_call 33; refine (cH _ HST4.out).mono ?_; clear cH; rintro e w5 ⟨rfl, hb5⟩; have HST5 := Lib.hid ((HST4.out.step hb5).step (below_new _ (.cells #[.int .i64 g, .int .i64 0] 44))); have h53 := cell_below (below_new _ (.cells #[.int .i64 g, .int .i64 0] 44)) (two_later hb5).1)
                    | (go_at_call 34; refine (num12_any _ _).mono ?_; rintro e w7 ⟨rfl, rfl⟩))
                  go_roundw
                  case rel => exact ⟨p + 1, by omega, by go_num, HST5.out⟩
                  case measure => simp [intOf]; omega
              · have hpb : decide ((p : Int) ≤ ((rn s).length : Int)) = false := by simp; omega
                clear hst
                go_wp2
                go_roundw
                case rel => exact ⟨k + 1, by omega, by omega, by go_num, HST.out.1⟩
                case measure => simp [intOf]; omega
          · have h2b : decide ((200 : Int) < ((rn s).length : Int)) = true := by simp; omega
            go_wp2_with (go_at_call 25; refine cMay.mono ?_; rintro e w2 ⟨rfl, hb2⟩)
            go_roundw
            case rel => exact ⟨k + 1, by omega, by omega, by go_num, (HBK.out.step hb2).1⟩
            case measure => simp [intOf]; omega
        · rw [hm] at cMay
          clear hm
          go_wp2_with (go_at_call 25; refine cMay.mono ?_; rintro e w2 ⟨rfl, hb2⟩)
          go_roundw
          case rel => exact ⟨k + 1, by omega, by omega, by go_num, (HBK.out.step hb2).1⟩
          case measure => simp [intOf]; omega
      · have HI := Lib.hid hI
        have cW := fun W (h : Tabs W) => wakes12_any W h
        have cHz : ∀ W, Calls Tryd.prog 21 #[.agg #[.slice none 0 0, .int .i64 0, .int .i64 0, .int .i64 0, .int .i64 0]] W fun e w' => e = .returned (.bool false) ∧ Below W.heap.size W w' := fun W => heavy_any none [] 0 0 0 0 0 W (fun i hi => absurd hi (by simp)) (by simp) (by simp)
        clear hI
        rcases hno with hlt | ⟨hlt, h4⟩
        all_goals
          (first | have hltb : decide ((k : Int) < (ss.length : Int)) = true := by simp [hlt] | have hltb : decide ((k : Int) < (ss.length : Int)) = false := by simp; omega)
          (first | have h4b : decide ((k : Int) < 4) = false := by simp; omega | skip)
          go_wp2_with (first
            | (go_at_call 21; refine (cHz _).mono ?_; rintro e w2 ⟨rfl, hb2⟩; have HI2 := Lib.hid (HI.out.step hb2))
            | (go_at_call 35; refine (cW _ (HT.out.below HI2.out.2)).mono ?_; rintro e w3 ⟨rfl, hb3⟩))
          go_ret
          exact ⟨rfl, (HI2.out.step hb3).2⟩

end Go.Proofs.YtnmpkjlbphjddaaDoor
