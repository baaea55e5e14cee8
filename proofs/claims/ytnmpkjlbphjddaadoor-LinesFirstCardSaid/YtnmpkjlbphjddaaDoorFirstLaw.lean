/-
  The walk over the statement on the first rune of a row that is no blank.
-/
import Derived.Test.YtnmpkjlbphjddaaDoorFirst
import Derived.Test.YtnmpkjlbphjddaaDoorMoves
namespace Go.Proofs.YtnmpkjlbphjddaaDoor
open Go.RowKit

theorem start_neg (b : Nat) (t : List Int) (c : Nat) (y : Int) (w : World) (hy : y < 0) :
    Calls Tryd.prog 37 #[.slice (some ⟨b, 0, none⟩) t.length c, .int .i64 y] w fun e w' => e = .returned (.int .i64 (-1)) ∧ w = w' := by
  go_enter Tryd.func37, Tryd.ntmps37
  go_wp2
  go_ret
  exact ⟨rfl, rfl⟩

theorem start_all (b : Nat) (t : List Int) (c : Nat) (y : Int) (w : World) (hr : Rn w b t) (hl : t.length ≤ 1000000) (hy : I64n y) :
    Calls Tryd.prog 37 #[.slice (some ⟨b, 0, none⟩) t.length c, .int .i64 y] w fun e w' => e = .returned (.int .i64 (Pl.startI t y)) ∧ w = w' := by
  by_cases h : y < 0
  · rw [startI_no (.inl h)]
    exact start_neg b t c y w h
  · exact start_any b t c y w hr hl ⟨by omega, hy.2⟩

/-- What lies in memory while the rows are asked. -/
def FiInv (w wr : World) (cs : Array Value) (nb tb : Nat) (nums t : List Int) : Prop := LawInv w wr cs 39 ∧ Nu wr nb nums ∧ Rn wr tb t
theorem FiInv.step {w wr wr' : World} {cs : Array Value} {nb tb : Nat} {nums t : List Int} (h : FiInv w wr cs nb tb nums t) (hb : Below wr.heap.size wr wr') : FiInv w wr' cs nb tb nums t :=
  ⟨h.1.step hb, h.2.1.below hb, h.2.2.below hb⟩

set_option maxRecDepth 100000 in
set_option maxHeartbeats 8000000 in
theorem lawFirst_any (a : Option Addr) (ss : List ByteArray) (c : Nat) (x1 x2 x3 x4 kk nn rr : Int) (w : World) (hr : Strs w a ss) (hl : ss.length ≤ 1000000000000000) (hs : ∀ s ∈ ss, s.size ≤ 1000000000000000)
    (hx3 : I64n x3) (hT : Tabs w) :
    Calls Tryd.prog 20 #[.agg #[.slice a ss.length c, .int .i64 x1, .int .i64 x2, .int .i64 x3, .int .i64 x4, .int .i64 kk, .int .i64 nn, .int .i64 rr]] w fun e w' => e = .returned (.bool true) ∧ Below w.heap.size w w' := by
  have h0 : Below w.heap.size w (w.alloc (.cells #[.slice a ss.length c, .int .i64 x1, .int .i64 x2, .int .i64 x3, .int .i64 x4, .int .i64 kk, .int .i64 nn, .int .i64 rr] 39)) := (Below.refl _ _).alloc (Nat.le_refl _) _
  have cH := heavy10_any a ss c x1 x2 x3 x4 kk nn rr _ (hr.below h0) hl hs
  obtain ⟨HV, hHV⟩ : ∃ HV, heavyB ss = HV := ⟨_, rfl⟩
  rw [hHV] at cH
  have HHV := Lib.hid hHV
  have HR := Lib.hid hr
  have HT := Lib.hid hT
  have H0 := Lib.hid h0
  have HX := Lib.hid hx3
  clear hHV hr hT h0 hs hx3
  cases HV with
  | true =>
    go_enter Tryd.func20, Tryd.ntmps20
    go_wp2_with (go_at_call 31; refine cH.mono ?_; rintro e w1 ⟨rfl, hb1⟩)
    go_ret
    exact ⟨rfl, H0.out.trans (hb1.mono H0.out.size)⟩
  | false =>
    have hsm : ∀ s ∈ ss, s.size ≤ 6000 := (txs_le ss ss.length (by omega) (by have := HHV.out; unfold heavyB at this; simpa using this)).2
    have HSM := Lib.hid hsm
    clear hsm
    obtain ⟨cs, hcs⟩ : ∃ cs : Array Value, #[.slice a ss.length c, .int .i64 x1, .int .i64 x2, .int .i64 x3, .int .i64 x4, .int .i64 kk, .int .i64 nn, .int .i64 rr] = cs := ⟨_, rfl⟩
    have HCS := Lib.hid hcs
    clear hcs
    go_enter Tryd.func20, Tryd.ntmps20
    go_wp2_with (go_at_call 31; refine cH.mono ?_; rintro e w1 ⟨rfl, hb1⟩; have HI0 := Lib.hid (LawInv.start hb1); clear hb1 cH)
    go_loopw [3] (fun i wr => ∃ k : Nat, k ≤ ss.length ∧ k ≤ 4 ∧ i = .int .i64 k ∧ LawInv w wr cs 39) (fun i _ => ss.length - (intOf i).toNat)
    case atStart => exact ⟨0, Nat.zero_le _, by omega, rfl, HCS.out ▸ HI0.out⟩
    case round =>
      clear HI0
      obtain ⟨k, hk, hk4, rfl, hI⟩ := hrel
      have hblk := hI.1
      rw [← HCS.out] at hblk
      have hc0 := cell_of hblk 0 (v := .slice a ss.length c) rfl
      clear hblk
      rcases (show (k < ss.length ∧ k < 4) ∨ ¬ k < ss.length ∨ (k < ss.length ∧ ¬ k < 4) by omega) with ⟨hlt, h4⟩ | hno
      · have hltb : decide ((k : Int) < (ss.length : Int)) = true := by simp; omega
        have h4b : decide ((k : Int) < 4) = true := by simp; omega
        obtain ⟨b, off, rfl, hcs⟩ := (HR.out.below hI.2) k hlt
        obtain ⟨s, hs⟩ : ∃ s, sd ss k = s := ⟨_, rfl⟩
        rw [hs] at hcs
        have hsz : s.size ≤ 6000 := by rw [← hs]; exact HSM.out _ (by unfold sd; simp [hlt])
        have HSD := Lib.hid hs
        have hlen := rn_le s
        have hconv := conv_run s (by omega)
        have hI2 := hI.step (below_new wr (.cells (convA s wr) 21))
        have hblk := hI2.1
        rw [← HCS.out] at hblk
        have hd3 := cell_of hblk 3 (v := .int .i64 x3) rfl
        have HI := Lib.hid hI
        have HI2 := Lib.hid hI2
        clear hI hs hblk hI2
        go_wp2
        have hst : FiInv w ((wr.alloc (.cells (convA s wr) 21)).alloc (.cells #[.int .i64 x3, .int .i64 (-1), .int .i64 0, .int .i64 1, .int .i64 2, .int .i64 3, .int .i64 100000] 3)).drew cs (wr.alloc (.cells (convA s wr) 21)).heap.size wr.heap.size [x3, -1, 0, 1, 2, 3, 100000] (rn s) :=
          ⟨(HI2.out.step (below_new _ _)).drew, nu_list (wr.alloc (.cells (convA s wr) 21)) _ _ _ rfl rfl, Rn.below (conv_rn s wr) (below_new _ _).drew⟩
        have HST := Lib.hid hst
        clear hst hconv hc0 hcs HI HI2 hd3
        obtain ⟨W5, hW5⟩ : ∃ W5, ((wr.alloc (.cells (convA s wr) 21)).alloc (.cells #[.int .i64 x3, .int .i64 (-1), .int .i64 0, .int .i64 1, .int .i64 2, .int .i64 3, .int .i64 100000] 3)).drew = W5 := ⟨_, rfl⟩
        obtain ⟨nb, hnb⟩ : ∃ nb, (wr.alloc (.cells (convA s wr) 21)).heap.size = nb := ⟨_, rfl⟩
        obtain ⟨tb, htb⟩ : ∃ tb, wr.heap.size = tb := ⟨_, rfl⟩
        obtain ⟨C, hC⟩ : ∃ C, grownCap wr (rn s).length 0 21 = C := ⟨_, rfl⟩
        rw [hW5] at HST ⊢
        rw [hnb, htb] at HST
        have hnb' : wr.heap.size + 1 = nb := by rw [← hnb]; exact (Array.size_push _).symm
        try rw [hnb']
        try rw [htb]
        try rw [hC]
        clear hW5 hnb hnb' htb hC
        go_loopg [6] 8 (fun gk i wi => ∃ z : Nat, z ≤ 7 ∧ 7 - z < gk ∧ i = .int .i64 z ∧ FiInv w wi cs nb tb [x3, -1, 0, 1, 2, 3, 100000] (rn s))
        case atStart => exact ⟨0, by omega, by omega, rfl, HST.out⟩
        case round =>
          clear HST
          obtain ⟨z, hz, hzg, rfl, hst⟩ := hrel
          obtain ⟨gq, rfl⟩ : ∃ gq, gk = gq + 1 := ⟨gk - 1, by omega⟩
          have HST := Lib.hid hst
          by_cases hz7 : z < 7
          · have hzb : decide ((z : Int) < 7) = true := by simp; omega
            obtain ⟨hlc, hlo⟩ := hst.1
            rw [← HCS.out] at hlc
            have hc0 := cell_of hlc 0 (v := .slice (some ⟨b, off, none⟩) ss.length c) rfl
            obtain ⟨b', off', hbo, hcs⟩ := (HR.out.below hlo) k hlt
            simp only [Option.some.injEq, Addr.mk.injEq, and_true] at hbo
            obtain ⟨rfl, rfl⟩ := hbo
            rw [HSD.out] at hcs
            have fn := hst.2.1.at z hz7
            obtain ⟨y, hy⟩ : ∃ y, Pl.rd [x3, -1, 0, 1, 2, 3, 100000] z = y := ⟨_, rfl⟩
            rw [hy] at fn
            have HY := Lib.hid hy
            obtain ⟨⟨R1, R2⟩, hR⟩ : ∃ R, firstR s y = R := ⟨_, rfl⟩
            have cF : ∀ W, Tabs W → Calls Tryd.prog 36 #[.string s, .int .i64 y] W fun e w' => e = .returned (.tuple #[.int .i64 R1, .int .i64 R2]) ∧ Below W.heap.size W w' := fun W hW => by
              have := lineFirst_any s y W (by omega) hW
              rw [hR] at this
              exact this
            have HRR := Lib.hid hR
            have hk0 : (0 : Int) ≤ (k : Int) := by omega
            have hk1 : (k : Int) < (ss.length : Int) := by omega
            have hz0 : (0 : Int) ≤ (z : Int) := by omega
            have hz1 : (z : Int) < (7 : Int) := by omega
            have hT1 : Tabs wr.drew := HT.out.below hlo.drew
            have hstd : FiInv w wr.drew cs nb tb [x3, -1, 0, 1, 2, 3, 100000] (rn s) := ⟨hst.1.drew, hst.2.1, hst.2.2⟩
            have HSD2 := Lib.hid hstd
            clear hstd
            have hbl0 := World.block_lt_of_cell? _ _ hc0
            have hbl1 := World.block_lt_of_cell? _ _ hcs
            have hbl2 := World.block_lt_of_cell? _ _ fn
            simp only at hbl0 hbl1 hbl2
            clear hy hR hst hlc hlo
            go_upto_region 11 with (fail)
            go_cut [7, 8] (fun s7 s8 wx => s7 = .int .i64 R1 ∧ s8 = .int .i64 R2 ∧ FiInv w wx cs nb tb [x3, -1, 0, 1, 2, 3, 100000] (rn s))
            case first =>
              go_region_held3 (fun w' => w'.cell? ⟨w.heap.size, 0, none⟩ = some (.slice (some ⟨b, off, none⟩) ss.length c) ∧ w'.cell? ⟨b, off + k, none⟩ = some (.string s) ∧ w'.cell? ⟨nb, z, none⟩ = some (.int .i64 y))
                (first | exact ⟨hc0, hcs, fn⟩ | exact ⟨cell_below (w := wr.drew) hb2 hc0, cell_below (w := wr.drew) hb2 hcs, cell_below (w := wr.drew) hb2 fn⟩)
                (first
                  | (go_at_call 36; refine (cF _ hT1).mono ?_; rintro e w2 ⟨rfl, hb2⟩))
              all_goals (go_wp2_with fail)
              all_goals go_meet
              all_goals exact ⟨rfl, rfl, HSD2.out.step hb2⟩
            case rest =>
              obtain ⟨rfl, rfl, hst2⟩ := hcut
              obtain ⟨hlc, hlo⟩ := hst2.1
              rw [← HCS.out] at hlc
              have gc0 := cell_of hlc 0 (v := .slice (some ⟨b, off, none⟩) ss.length c) rfl
              obtain ⟨b', off', hbo, gcs⟩ := (HR.out.below hlo) k hlt
              simp only [Option.some.injEq, Addr.mk.injEq, and_true] at hbo
              obtain ⟨rfl, rfl⟩ := hbo
              rw [HSD.out] at gcs
              have gn := hst2.2.1.at z hz7
              rw [HY.out] at gn
              have hT2 := HT.out.below hlo
              have cMay := refMay_any s wc (by omega) hT2
              have hR := HRR.out
              unfold firstR at hR
              have HST2 := Lib.hid hst2
              have h64 : I64n y := by
                have := HX.out
                rw [← HY.out]
                match z, hz7 with
                | 0, _ => exact this
                | 1, _ | 2, _ | 3, _ | 4, _ | 5, _ | 6, _ => constructor <;> simp [Pl.rd]
              clear hc0 hcs fn hst2 hlc hlo cF
              rcases Bool.eq_false_or_eq_true (mayB s) with hm | hm
              · rw [if_pos hm] at hR
                simp only [hm] at cMay
                clear hm
                have cS := fun W (h : Rn W tb (rn s)) => start_all tb (rn s) C y W h (by omega) h64
                by_cases hin : 0 ≤ y ∧ y < Pl.rows (rn s)
                · rw [if_pos hin] at hR
                  simp only [Prod.mk.injEq] at hR
                  obtain ⟨rfl, rfl⟩ := hR
                  have hi : y.toNat < Pl.rows (rn s) := by omega
                  have hle := Pl.begins_le (rn s) y.toNat hi
                  have hbb := Pl.bgn_begins (rn s) y.toNat hi
                  rw [startI_yes hi (by omega)] at cS
                  obtain ⟨av, hav⟩ : ∃ av, Pl.nd (Pl.begins (rn s)) y.toNat = av := ⟨_, rfl⟩
                  simp only [hav] at cS hle hbb ⊢
                  have cF1 := fun W (h : Rn W tb (rn s)) => first_any tb (rn s) C av W h hle (by omega) (rn_i32 s)
                  rw [hbb] at cF1
                  have hav0 : decide ((0 : Int) ≤ (av : Int)) = true := by simp
                  clear hin hi hle hbb hav
                  go_wp2_with (first
                    | (go_at_call 25; refine cMay.mono ?_; rintro e w3 ⟨rfl, hb3⟩; have HST3 := Lib.hid (HST2.out.step hb3); have hrn3 := HST3.out.2.2; have gn3 := cell_below hb3 gn)
                    | (go_at_call 37; refine (cS _ hrn3).mono ?_; rintro e w7 ⟨rfl, rfl⟩)
                    | (go_at_call 38; refine (cF1 _ hrn3).mono ?_; rintro e w7 ⟨rfl, rfl⟩)
                    | (go_at_call 34; refine (num12_any _ _).mono ?_; rintro e w7 ⟨rfl, rfl⟩))
                  go_roundg gq
                  case measure => omega
                  case rel => exact ⟨z + 1, by omega, by omega, by go_num, HST3.out⟩
                · rw [if_neg hin] at hR
                  simp only [Prod.mk.injEq] at hR
                  obtain ⟨rfl, rfl⟩ := hR
                  rw [startI_no (by omega)] at cS
                  clear hin
                  go_wp2_with (first
                    | (go_at_call 25; refine cMay.mono ?_; rintro e w3 ⟨rfl, hb3⟩; have HST3 := Lib.hid (HST2.out.step hb3); have hrn3 := HST3.out.2.2; have gn3 := cell_below hb3 gn)
                    | (go_at_call 37; refine (cS _ hrn3).mono ?_; rintro e w7 ⟨rfl, rfl⟩)
                    | (go_at_call 34; refine (num12_any _ _).mono ?_; rintro e w7 ⟨rfl, rfl⟩))
                  go_roundg gq
                  case measure => omega
                  case rel => exact ⟨z + 1, by omega, by omega, by go_num, HST3.out⟩
              · rw [if_neg (by simp [hm])] at hR
                simp only [Prod.mk.injEq] at hR
                obtain ⟨rfl, rfl⟩ := hR
                simp only [hm] at cMay
                clear hm
                go_wp2_with (first
                  | (go_at_call 25; refine cMay.mono ?_; rintro e w3 ⟨rfl, hb3⟩)
                  | (go_at_call 34; refine (num12_any _ _).mono ?_; rintro e w7 ⟨rfl, rfl⟩))
                go_roundg gq
                case measure => omega
                case rel => exact ⟨z + 1, by omega, by omega, by go_num, HST2.out.step hb3⟩
          · have hzb : decide ((z : Int) < 7) = false := by simp; omega
            go_wp2
            go_roundw
            case rel => exact ⟨k + 1, by omega, by omega, by go_num, HST.out.1⟩
            case measure => simp [intOf]; omega
      · have hTr := HT.out.below hI.2
        have HI := Lib.hid hI
        have cW := fun W (h : Tabs W) => wakes12_any W h
        clear hI
        rcases hno with hlt | ⟨hlt, h4⟩
        all_goals
          (first | have hltb : decide ((k : Int) < (ss.length : Int)) = true := by simp [hlt] | have hltb : decide ((k : Int) < (ss.length : Int)) = false := by simp; omega)
          (first | have h4b : decide ((k : Int) < 4) = false := by simp; omega | skip)
          go_wp2_with (go_at_call 35; refine (cW _ hTr).mono ?_; rintro e w2 ⟨rfl, hb2⟩)
          go_ret
          exact ⟨rfl, (HI.out.step hb2).2⟩

end Go.Proofs.YtnmpkjlbphjddaaDoor
