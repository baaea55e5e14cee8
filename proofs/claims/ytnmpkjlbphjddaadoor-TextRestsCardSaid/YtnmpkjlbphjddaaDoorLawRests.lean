/-
  The walk over the statement on the class of a rune and the cursor's rest: it answers true.
-/
import Derived.Test.YtnmpkjlbphjddaaDoorPlace
import Derived.Test.YtnmpkjlbphjddaaDoorInv
import Derived.Deep.LoopGhost
import Derived.Deep.RegionHeld3
namespace Go.Proofs.YtnmpkjlbphjddaaDoor
open Go.RowKit

set_option maxHeartbeats 2000000 in
theorem lawRests_any (a : Option Addr) (ss : List ByteArray) (c : Nat) (x1 x2 x3 x4 : Int) (w : World) (hr : Strs w a ss) (hl : ss.length ≤ 1000000000000000) (hs : ∀ s ∈ ss, s.size ≤ 1000000000000000) (hT : Tabs w) :
    Calls Tryd.prog 3 #[.agg #[.slice a ss.length c, .int .i64 x1, .int .i64 x2, .int .i64 x3, .int .i64 x4]] w fun e w' => e = .returned (.bool true) ∧ Below w.heap.size w w' := by
  obtain ⟨cs, hcs⟩ : ∃ cs : Array Value, cs = #[.slice a ss.length c, .int .i64 x1, .int .i64 x2, .int .i64 x3, .int .i64 x4] := ⟨_, rfl⟩
  have h0 : Below w.heap.size w (w.alloc (.cells #[.slice a ss.length c, .int .i64 x1, .int .i64 x2, .int .i64 x3, .int .i64 x4] 26)) := (Below.refl _ _).alloc (Nat.le_refl _) _
  have cH := heavy_any a ss c x1 x2 x3 x4 (w.alloc (.cells #[.slice a ss.length c, .int .i64 x1, .int .i64 x2, .int .i64 x3, .int .i64 x4] 26)) (hr.below h0) hl hs
  clear hcs cs
  obtain ⟨HV, hHV⟩ : ∃ HV, heavyB ss = HV := ⟨_, rfl⟩
  rw [hHV] at cH
  have HHV := Lib.hid hHV
  have HR := Lib.hid hr
  have HT := Lib.hid hT
  have H0 := Lib.hid h0
  have HS := Lib.hid hs
  clear hHV hr hT h0 hs
  cases HV with
  | true =>
    go_enter Tryd.func3, Tryd.ntmps3
    go_wp2_with (go_at_call 21; refine cH.mono ?_; rintro e w1 ⟨rfl, hb1⟩)
    go_ret
    exact ⟨rfl, H0.out.trans (hb1.mono H0.out.size)⟩
  | false =>
    have hsm : ∀ s ∈ ss, s.size ≤ 6000 := (txs_le ss ss.length (by omega) (by have := HHV.out; unfold heavyB at this; simpa using this)).2
    have HSM := Lib.hid hsm
    clear hsm
    go_enter Tryd.func3, Tryd.ntmps3
    go_wp2_with (go_at_call 21; refine cH.mono ?_; rintro e w1 ⟨rfl, hb1⟩)
    clear cH
    go_loop [3] (fun i => ∃ z : Int, -2 ≤ z ∧ z ≤ 140 ∧ i = .int .i64 z) (fun i => (140 - intOf i).toNat)
    case atStart => exact ⟨-2, by omega, by omega, rfl⟩
    case round =>
      obtain ⟨z, hz1, hz2, rfl⟩ := hrel
      by_cases hz : z < 140
      · have hzb : decide (z < 140) = true := by simp [hz]
        go_wp2_with (first
          | (go_at_call 22; refine (class_any _ _).mono ?_; rintro e w2 ⟨rfl, rfl⟩)
          | (go_at_call 23; refine (refclass_any _ _).mono ?_; rintro e w2 ⟨rfl, rfl⟩))
        go_round
        case rel => exact ⟨z + 1, by omega, by omega, rfl⟩
        case measure => simp [intOf]; omega
      · have hzb : decide (z < 140) = false := by simp; omega
        have hI := LawInv.start hb1
        clear hb1
        go_wp2
        go_loopw [4] (fun i wr => ∃ k : Nat, k ≤ ss.length ∧ k ≤ 5 ∧ i = .int .i64 k ∧ LawInv w wr #[.slice a ss.length c, .int .i64 x1, .int .i64 x2, .int .i64 x3, .int .i64 x4] 26) (fun i _ => ss.length - (intOf i).toNat)
        case atStart => exact ⟨0, Nat.zero_le _, by omega, rfl, hI⟩
        case round =>
          clear hI
          obtain ⟨k, hk, hk5, rfl, hI⟩ := hrel
          have hc0 := cell_of hI.1 0 (v := .slice a ss.length c) rfl
          have hc1 := cell_of hI.1 1 (v := .int .i64 x1) rfl
          rcases (show (k < ss.length ∧ k < 5) ∨ ¬ k < ss.length ∨ (k < ss.length ∧ ¬ k < 5) by omega) with ⟨hlt, h5⟩ | hno
          · have hltb : decide ((k : Int) < (ss.length : Int)) = true := by simp; omega
            have h5b : decide ((k : Int) < 5) = true := by simp; omega
            obtain ⟨b, off, rfl, hcs⟩ := (HR.out.below hI.2) k hlt
            obtain ⟨s, hs⟩ : ∃ s, sd ss k = s := ⟨_, rfl⟩
            rw [hs] at hcs
            have hsz : s.size ≤ 6000 := by rw [← hs]; exact HSM.out _ (by unfold sd; simp [hlt])
            have HSD := Lib.hid hs
            have hconv := conv_run s (by omega)
            have HI := Lib.hid hI
            clear hI hs hc1
            go_wp2
            have hst : LawInv w (wr.alloc (.cells (convA s wr) 21)).drew #[.slice (some ⟨b, off, none⟩) ss.length c, .int .i64 x1, .int .i64 x2, .int .i64 x3, .int .i64 x4] 26 :=
              HI.out.step ((Below.refl _ _).alloc (Nat.le_refl _) _).drew
            have hrn0 : Rn (wr.alloc (.cells (convA s wr) 21)).drew wr.heap.size (rn s) := conv_rn s wr
            have HST := Lib.hid (And.intro hst hrn0)
            have hlen := rn_le s
            clear hst hrn0 hconv hc0 hcs HI
            obtain ⟨tb, htb⟩ : ∃ tb, wr.heap.size = tb := ⟨_, rfl⟩
            obtain ⟨C, hC⟩ : ∃ C, grownCap wr (rn s).length 0 21 = C := ⟨_, rfl⟩
            obtain ⟨W2, hW2⟩ : ∃ W2, (wr.alloc (.cells (convA s wr) 21)).drew = W2 := ⟨_, rfl⟩
            rw [htb, hW2] at HST
            rw [htb, hC, hW2]
            clear htb hC hW2
            go_loopw [6] (fun i wi => ∃ z : Int, -1 ≤ z ∧ z ≤ 60 ∧ i = .int .i64 z ∧ LawInv w wi #[.slice (some ⟨b, off, none⟩) ss.length c, .int .i64 x1, .int .i64 x2, .int .i64 x3, .int .i64 x4] 26 ∧ Rn wi tb (rn s)) (fun i _ => (60 - intOf i).toNat)
            case atStart => exact ⟨-1, by omega, by omega, rfl, HST.out.1, HST.out.2⟩
            case round =>
              clear HST
              obtain ⟨z', hz3, hz4, rfl, hI, hrn⟩ := hrel
              have hc0 := cell_of hI.1 0 (v := .slice (some ⟨b, off, none⟩) ss.length c) rfl
              rcases (show (z' ≤ (rn s).length + 1 ∧ z' < 60) ∨ ¬ z' ≤ (rn s).length + 1 ∨ (z' ≤ (rn s).length + 1 ∧ ¬ z' < 60) by omega) with ⟨hle, h60⟩ | hno
              · have hleb : decide (z' ≤ ((rn s).length : Int) + 1) = true := by simp [hle]
                have h60b : decide (z' < 60) = true := by simp [h60]
                obtain ⟨b', off', hbe, hcs⟩ := (HR.out.below hI.2) k hlt
                obtain ⟨rfl, rfl⟩ : b = b' ∧ off = off' := by simpa using hbe
                rw [HSD.out] at hcs
                have hTr := HT.out.below hI.2
                have cT := fun W (h : Tabs W) => textRest_any s z' W (by omega) h
                have cM := fun W (h : Tabs W) => refMay_any s W (by omega) h
                have cN := fun W => Num_any z' (rn s).length W
                have hrr : restR s z' = if mayB s = true then if numB z' (rn s).length = true then (((restN (rn s) z'.toNat : Nat) : Int), 0) else (0, 3) else (0, 1) := rfl
                have HI := Lib.hid hI
                have HRN := Lib.hid hrn
                clear hI hrn
                by_cases hm : mayB s = true
                · rw [if_pos hm] at hrr
                  simp only [hm] at cM
                  by_cases hn : numB z' (rn s).length = true
                  · rw [if_pos hn] at hrr
                    simp only [hn] at cN
                    have ha : 0 ≤ z' ∧ z' ≤ (rn s).length := by unfold numB at hn; simpa using hn
                    obtain ⟨m, rfl⟩ : ∃ m : Nat, z' = m := ⟨z'.toNat, by omega⟩
                    rw [show ((m : Int)).toNat = m from rfl] at hrr
                    have cR := fun W (h : Rn W tb (rn s)) => rest_any tb (rn s) C m W h (by omega) (by omega)
                    obtain ⟨R, hR⟩ : ∃ R, restN (rn s) m = R := ⟨_, rfl⟩
                    simp only [hR] at cR hrr
                    simp only [hrr] at cT
                    clear hrr hR hm hn ha
                    go_wp2_with (first
                      | (go_at_call 24; refine (cT _ hTr).mono ?_; rintro e w1 ⟨rfl, hb1⟩; have HI1 := Lib.hid (HI.out.step hb1); have HRN1 := Lib.hid (HRN.out.below hb1); have hTr1 := HT.out.below HI1.out.2; have hc01 := cell_of HI1.out.1 0 (v := .slice (some ⟨b, off, none⟩) ss.length c) rfl; have hcs1 := cell_below hb1 hcs)
                      | (go_at_call 25; refine (cM _ hTr1).mono ?_; rintro e w2 ⟨rfl, hb2⟩; have HI2 := Lib.hid (HI1.out.step hb2); have HRN2 := Lib.hid (HRN1.out.below hb2))
                      | (go_at_call 26; refine (cN _).mono ?_; rintro e w3 ⟨rfl, rfl⟩)
                      | (go_at_call 27; refine (cR _ HRN2.out).mono ?_; rintro e w3 ⟨rfl, rfl⟩)
                      | (go_at_call 28; refine (num1_any _ _).mono ?_; rintro e w3 ⟨rfl, rfl⟩))
                    go_roundw
                    case rel => exact ⟨(m : Int) + 1, by omega, by omega, rfl, HI2.out, HRN2.out⟩
                    case measure => simp [intOf]; omega
                  · rw [if_neg hn] at hrr
                    have hn' : numB z' (rn s).length = false := by simpa using hn
                    simp only [hn'] at cN
                    simp only [hrr] at cT
                    clear hrr hm hn hn'
                    go_wp2_with (first
                      | (go_at_call 24; refine (cT _ hTr).mono ?_; rintro e w1 ⟨rfl, hb1⟩; have HI1 := Lib.hid (HI.out.step hb1); have HRN1 := Lib.hid (HRN.out.below hb1); have hTr1 := HT.out.below HI1.out.2; have hc01 := cell_of HI1.out.1 0 (v := .slice (some ⟨b, off, none⟩) ss.length c) rfl; have hcs1 := cell_below hb1 hcs)
                      | (go_at_call 25; refine (cM _ hTr1).mono ?_; rintro e w2 ⟨rfl, hb2⟩; have HI2 := Lib.hid (HI1.out.step hb2); have HRN2 := Lib.hid (HRN1.out.below hb2))
                      | (go_at_call 26; refine (cN _).mono ?_; rintro e w3 ⟨rfl, rfl⟩)
                      | (go_at_call 28; refine (num1_any _ _).mono ?_; rintro e w3 ⟨rfl, rfl⟩))
                    go_roundw
                    case rel => exact ⟨z' + 1, by omega, by omega, rfl, HI2.out, HRN2.out⟩
                    case measure => simp [intOf]; omega
                · rw [if_neg hm] at hrr
                  have hm' : mayB s = false := by simpa using hm
                  simp only [hm'] at cM
                  simp only [hrr] at cT
                  clear hrr hm hm'
                  go_wp2_with (first
                    | (go_at_call 24; refine (cT _ hTr).mono ?_; rintro e w1 ⟨rfl, hb1⟩; have HI1 := Lib.hid (HI.out.step hb1); have HRN1 := Lib.hid (HRN.out.below hb1); have hTr1 := HT.out.below HI1.out.2; have hc01 := cell_of HI1.out.1 0 (v := .slice (some ⟨b, off, none⟩) ss.length c) rfl; have hcs1 := cell_below hb1 hcs)
                    | (go_at_call 25; refine (cM _ hTr1).mono ?_; rintro e w2 ⟨rfl, hb2⟩; have HI2 := Lib.hid (HI1.out.step hb2); have HRN2 := Lib.hid (HRN1.out.below hb2))
                    | (go_at_call 28; refine (num1_any _ _).mono ?_; rintro e w3 ⟨rfl, rfl⟩))
                  go_roundw
                  case rel => exact ⟨z' + 1, by omega, by omega, rfl, HI2.out, HRN2.out⟩
                  case measure => simp [intOf]; omega
              · rcases hno with hle | ⟨hle, h60⟩
                all_goals
                  (first | have hleb : decide (z' ≤ ((rn s).length : Int) + 1) = true := by simp [hle] | have hleb : decide (z' ≤ ((rn s).length : Int) + 1) = false := by simp; omega)
                  (first | have h60b : decide (z' < 60) = false := by simp; omega | skip)
                  have HI := Lib.hid hI
                  clear hI hrn hc0
                  go_wp2
                  go_roundw
                  case rel => exact ⟨k + 1, by omega, by omega, by go_num, HI.out⟩
                  case measure => simp [intOf]; omega
          · have hTr := HT.out.below hI.2
            have HI := Lib.hid hI
            have cW := fun W (h : Tabs W) => wakes1_any W h
            clear hI
            rcases hno with hlt | ⟨hlt, h5⟩
            all_goals
              (first | have hltb : decide ((k : Int) < (ss.length : Int)) = true := by simp [hlt] | have hltb : decide ((k : Int) < (ss.length : Int)) = false := by simp; omega)
              (first | have h5b : decide ((k : Int) < 5) = false := by simp; omega | skip)
              go_wp2
              have heq : (Pl.cls x1 == Pl.cls x1) = true := by simp
              go_region_held3 (fun w' => w'.cell? ⟨w.heap.size, 1, none⟩ = some (.int .i64 x1) ∧ LawInv w w' #[.slice a ss.length c, .int .i64 x1, .int .i64 x2, .int .i64 x3, .int .i64 x4] 26)
                (first | exact ⟨hc1, HI.out⟩ | exact ⟨hc1, HI.out.drew⟩ | exact ⟨hc2, hI2⟩)
                (first
                  | (go_at_call 22; refine (class_any _ _).mono ?_; rintro e w2 ⟨rfl, rfl⟩)
                  | (go_at_call 23; refine (refclass_any _ _).mono ?_; rintro e w2 ⟨rfl, rfl⟩)
                  | (go_at_call 29; refine (cW _ (HT.out.below HI.out.2.drew)).mono ?_; rintro e w2 ⟨rfl, hb2⟩; have hI2 := HI.out.drew.step hb2; have hc2 := cell_of hI2.1 1 (v := .int .i64 x1) rfl))
              go_wp2
              go_ret
              exact ⟨rfl, hI2.2⟩

end Go.Proofs.YtnmpkjlbphjddaaDoor
