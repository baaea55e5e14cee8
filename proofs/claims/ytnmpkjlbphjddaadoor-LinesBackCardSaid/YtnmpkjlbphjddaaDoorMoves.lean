/-
  The walk over the statements' common part: some keys, from some offsets, by some counts: the program's motions are the reference's.
-/
import Derived.Test.YtnmpkjlbphjddaaDoorRefAll
import Derived.Test.YtnmpkjlbphjddaaDoorOffs
import Derived.Deep.LoopGhost
import Derived.Deep.DeepCutAuto
namespace Go.Proofs.YtnmpkjlbphjddaaDoor
open Go.RowKit

/-- What lies in memory while the motions are played. -/
def MvInv (w wr : World) (cs : Array Value) (kb ob tb cb : Nat) (keys ats t cnts : List Int) : Prop :=
  LawInv w wr cs 39 ∧ Nu wr kb keys ∧ Nu wr ob ats ∧ Rn wr tb t ∧ Nu wr cb cnts
theorem MvInv.step {w wr wr' : World} {cs : Array Value} {kb ob tb cb : Nat} {keys ats t cnts : List Int} (h : MvInv w wr cs kb ob tb cb keys ats t cnts) (hb : Below wr.heap.size wr wr') : MvInv w wr' cs kb ob tb cb keys ats t cnts :=
  ⟨h.1.step hb, h.2.1.below hb, h.2.2.1.below hb, h.2.2.2.1.below hb, h.2.2.2.2.below hb⟩
theorem MvInv.drew {w wr : World} {cs : Array Value} {kb ob tb cb : Nat} {keys ats t cnts : List Int} (h : MvInv w wr cs kb ob tb cb keys ats t cnts) : MvInv w wr.drew cs kb ob tb cb keys ats t cnts :=
  ⟨h.1.drew, h.2.1, h.2.2.1, h.2.2.2.1, h.2.2.2.2⟩

theorem nu_list (w : World) (C : Array Value) (l : List Int) (b : Nat) (hC : C = (l.map fun n : Int => Value.int .i64 n).toArray) (hb : b = w.heap.size) : Nu (w.alloc (.cells C 3)) b l := by
  subst hC; subst hb
  intro i hi
  have h : (w.alloc (.cells (l.map fun n : Int => Value.int .i64 n).toArray 3)).heap[w.heap.size]? = some (.cells (l.map fun n : Int => Value.int .i64 n).toArray 3 (0, 0)) := by
    show (w.heap.push _)[w.heap.size]? = _
    rw [Array.getElem?_push, if_pos rfl]
  simp only [World.cell?, h]
  simp [Pl.rd, hi]

theorem nu_four (w : World) (a b c d : Int) : Nu (w.alloc (.cells #[.int .i64 a, .int .i64 b, .int .i64 c, .int .i64 d] 3)) w.heap.size [a, b, c, d] := by
  intro i hi
  have h : (w.alloc (.cells #[.int .i64 a, .int .i64 b, .int .i64 c, .int .i64 d] 3)).heap[w.heap.size]? = some (.cells #[.int .i64 a, .int .i64 b, .int .i64 c, .int .i64 d] 3 (0, 0)) := by
    show (w.heap.push _)[w.heap.size]? = _
    rw [Array.getElem?_push, if_pos rfl]
  simp only [World.cell?, h]
  match i, hi with
  | 0, _ | 1, _ | 2, _ | 3, _ => rfl

theorem new_at (w2 : World) (cs : Array Value) (T : TypeId) : (w2.alloc (.cells cs T)).heap[w2.heap.size]? = some (.cells cs T (0, 0)) := by
  show (w2.heap.push _)[w2.heap.size]? = _
  rw [Array.getElem?_push, if_pos rfl]
theorem blk_below {w w' : World} {b : Nat} {o : Obj} (h : w.heap[b]? = some o) (hb : Below w.heap.size w w') : w'.heap[b]? = some o := by
  rw [hb.block _ (lt_of_block h)]; exact h
theorem stored_old {w2 : World} {g : Nat} {R1 R2 : Int} (h0 : w2.heap[g]? = some (.cells #[.int .i64 0, .int .i64 0] 44 (0, 0))) :
    ((w2.setCell ⟨g, 0, none⟩ (.int .i64 R1)).setCell ⟨g, 1, none⟩ (.int .i64 R2)).heap[g]? = some (.cells #[.int .i64 R1, .int .i64 R2] 44 (0, 0)) := by
  have hlt := lt_of_block h0
  have h1 : (w2.setCell ⟨g, 0, none⟩ (.int .i64 R1)).heap[g]? = some (.cells #[.int .i64 R1, .int .i64 0] 44 (0, 0)) := by
    have h' : w2.heap[g] = .cells #[.int .i64 0, .int .i64 0] 44 (0, 0) := by simpa [Array.getElem?_eq_getElem hlt] using h0
    show (w2.heap.modify g _)[g]? = _
    rw [Array.getElem?_eq_getElem (by simpa using hlt), Array.getElem_modify_self, h']
    rfl
  exact two_setCell h1
theorem stored_new {wr w2 : World} {R1 R2 : Int} (hb2 : Below (wr.alloc (.cells #[.int .i64 0, .int .i64 0] 44)).drew.heap.size (wr.alloc (.cells #[.int .i64 0, .int .i64 0] 44)).drew w2) :
    ((w2.setCell ⟨wr.heap.size, 0, none⟩ (.int .i64 R1)).setCell ⟨wr.heap.size, 1, none⟩ (.int .i64 R2)).heap[wr.heap.size]? = some (.cells #[.int .i64 R1, .int .i64 R2] 44 (0, 0)) ∧
      Below wr.heap.size wr ((w2.setCell ⟨wr.heap.size, 0, none⟩ (.int .i64 R1)).setCell ⟨wr.heap.size, 1, none⟩ (.int .i64 R2)) := by
  have h0 : w2.heap[wr.heap.size]? = some (.cells #[.int .i64 0, .int .i64 0] 44 (0, 0)) := by
    rw [hb2.block _ (by show wr.heap.size < (wr.heap.push _).size; simp)]
    exact new_at wr _ _
  have hlt := lt_of_block h0
  have h1 : (w2.setCell ⟨wr.heap.size, 0, none⟩ (.int .i64 R1)).heap[wr.heap.size]? = some (.cells #[.int .i64 R1, .int .i64 0] 44 (0, 0)) := by
    have h' : w2.heap[wr.heap.size] = .cells #[.int .i64 0, .int .i64 0] 44 (0, 0) := by simpa [Array.getElem?_eq_getElem hlt] using h0
    show (w2.heap.modify wr.heap.size _)[wr.heap.size]? = _
    rw [Array.getElem?_eq_getElem (by simpa using hlt), Array.getElem_modify_self, h']
    rfl
  refine ⟨two_setCell h1, ?_⟩
  have hb : Below wr.heap.size wr w2 := (below_new wr _).drew.trans (hb2.mono (by show wr.heap.size ≤ (wr.heap.push _).size; simp))
  exact (hb.setCell (Nat.le_refl _) _).setCell (Nat.le_refl _) _
theorem two_later_drew {w w2 : World} {x y : Value} {T : TypeId} (hb : Below (w.alloc (.cells #[x, y] T)).drew.heap.size (w.alloc (.cells #[x, y] T)).drew w2) :
    w2.cell? ⟨w.heap.size, 0, none⟩ = some x ∧ w2.cell? ⟨w.heap.size, 1, none⟩ = some y ∧ w2.frozen? ⟨w.heap.size, 0, none⟩ = false ∧ w2.frozen? ⟨w.heap.size, 1, none⟩ = false :=
  two_later ((Below.refl _ _).drew.trans hb)

set_option maxRecDepth 100000 in
set_option maxHeartbeats 8000000 in
theorem moves_any (a : Option Addr) (ss : List ByteArray) (c : Nat) (x1 x2 x3 x4 kk nn rr : Int) (kb kc : Nat) (keys : List Int) (w : World) (hr : Strs w a ss) (hl : ss.length ≤ 1000000000000000) (hs : ∀ s ∈ ss, s.size ≤ 1000000000000000)
    (hx1 : I64n x1) (hk : Nu w kb keys) (hkl : keys.length ≤ 100) (hT : Tabs w) :
    Calls Tryd.prog 30 #[.agg #[.slice a ss.length c, .int .i64 x1, .int .i64 x2, .int .i64 x3, .int .i64 x4, .int .i64 kk, .int .i64 nn, .int .i64 rr], .slice (some ⟨kb, 0, none⟩) keys.length kc] w fun e w' => e = .returned (.bool true) ∧ Below w.heap.size w w' := by
  have h0 : Below w.heap.size w (w.alloc (.cells #[.slice a ss.length c, .int .i64 x1, .int .i64 x2, .int .i64 x3, .int .i64 x4, .int .i64 kk, .int .i64 nn, .int .i64 rr] 39)) := (Below.refl _ _).alloc (Nat.le_refl _) _
  have cH := heavy10_any a ss c x1 x2 x3 x4 kk nn rr _ (hr.below h0) hl hs
  obtain ⟨HV, hHV⟩ : ∃ HV, heavyB ss = HV := ⟨_, rfl⟩
  rw [hHV] at cH
  have HHV := Lib.hid hHV
  have HR := Lib.hid hr
  have HT := Lib.hid hT
  have H0 := Lib.hid h0
  have HK := Lib.hid hk
  clear hHV hr hT h0 hs hk
  cases HV with
  | true =>
    go_enter Tryd.func30, Tryd.ntmps30
    go_wp2_with (go_at_call 31; refine cH.mono ?_; rintro e w1 ⟨rfl, hb1⟩)
    go_ret
    exact ⟨rfl, H0.out.trans (hb1.mono H0.out.size)⟩
  | false =>
    have hsm : ∀ s ∈ ss, s.size ≤ 6000 := (txs_le ss ss.length (by omega) (by have := HHV.out; unfold heavyB at this; simpa using this)).2
    have HSM := Lib.hid hsm
    clear hsm
    have cOf := fun ta tl tc W htl => offs_any a ss c x1 x2 x3 x4 kk nn rr ta tl tc W hx1 htl
    obtain ⟨cs, hcs⟩ : ∃ cs : Array Value, #[.slice a ss.length c, .int .i64 x1, .int .i64 x2, .int .i64 x3, .int .i64 x4, .int .i64 kk, .int .i64 nn, .int .i64 rr] = cs := ⟨_, rfl⟩
    have HCS := Lib.hid hcs
    clear hcs
    go_enter Tryd.func30, Tryd.ntmps30
    go_wp2_with (go_at_call 31; refine cH.mono ?_; rintro e w1 ⟨rfl, hb1⟩; have HI0 := Lib.hid (LawInv.start hb1); clear hb1 cH)
    go_loopw [5] (fun i wr => ∃ k : Nat, k ≤ ss.length ∧ k ≤ 4 ∧ i = .int .i64 k ∧ LawInv w wr cs 39) (fun i _ => ss.length - (intOf i).toNat)
    case atStart => exact ⟨0, Nat.zero_le _, by omega, rfl, HCS.out ▸ HI0.out⟩
    case round =>
      clear HI0
      obtain ⟨k, hk, hk4, rfl, hI⟩ := hrel
      have hblk := hI.1
      rw [← HCS.out] at hblk
      have hc0 := cell_of hblk 0 (v := .slice a ss.length c) rfl
      clear hblk
      rcases (show (k < ss.length ∧ k < 4) ∨ ¬ k < ss.length ∨ (k < ss.length ∧ ¬ k < 4) by omega) with ⟨hlt, h4⟩ | hno
      · have hltb : decide ((k : Int) < (ss.length : Int)) = true := by simp; omega
        have h4b : decide ((k : Int) < 4) = true := by simp; omega
        obtain ⟨b, off, rfl, hcs⟩ := (HR.out.below hI.2) k hlt
        obtain ⟨s, hs⟩ : ∃ s, sd ss k = s := ⟨_, rfl⟩
        rw [hs] at hcs
        have hsz : s.size ≤ 6000 := by rw [← hs]; exact HSM.out _ (by unfold sd; simp [hlt])
        have HSD := Lib.hid hs
        have hlen := rn_le s
        have hconv := conv_run s (by omega)
        have hI2 := hI.step (below_new wr (.cells (convA s wr) 21))
        have hblk := hI2.1
        rw [← HCS.out] at hblk
        have hd0 := cell_of hblk 0 (v := .slice (some ⟨b, off, none⟩) ss.length c) rfl
        have hd1 := cell_of hblk 1 (v := .int .i64 x1) rfl
        have hd2 := cell_of hblk 2 (v := .int .i64 x2) rfl
        have hd3 := cell_of hblk 3 (v := .int .i64 x3) rfl
        have hd4 := cell_of hblk 4 (v := .int .i64 x4) rfl
        have hd5 := cell_of hblk 5 (v := .int .i64 kk) rfl
        have hd6 := cell_of hblk 6 (v := .int .i64 nn) rfl
        have hd7 := cell_of hblk 7 (v := .int .i64 rr) rfl
        have HI := Lib.hid hI
        have HI2 := Lib.hid hI2
        clear hI hs hblk hI2
        go_wp2_with (first
          | (go_at_call 49; refine (cOf _ _ _ _ (by omega)).mono ?_; rintro e w2 ⟨ob, oc, ats, rfl, hat, hal, hai, hb2⟩))
        have hst : LawInv w w2 cs 39 ∧ Nu w2 kb keys ∧ Nu w2 ob ats ∧ Rn w2 wr.heap.size (rn s) := by
          have hbw : Below (wr.alloc (.cells (convA s wr) 21)).heap.size (wr.alloc (.cells (convA s wr) 21)) w2 := (Below.refl _ _).drew.trans hb2
          have hI3 := HI2.out.step hbw
          exact ⟨hI3, HK.out.below (hI3.2), hat, (conv_rn s wr).below hbw⟩
        have HST := Lib.hid hst
        have HAI := Lib.hid hai
        clear hst hconv hc0 hcs HI HI2 hd0 hd1 hd2 hd3 hd4 hd5 hd6 hd7 hat hai hb2
        obtain ⟨tb, htb⟩ : ∃ tb, wr.heap.size = tb := ⟨_, rfl⟩
        obtain ⟨C, hC⟩ : ∃ C, grownCap wr (rn s).length 0 21 = C := ⟨_, rfl⟩
        rw [htb] at HST
        rw [htb, hC]
        clear htb hC
        go_loopw [9] (fun i wi => ∃ q : Nat, q ≤ keys.length ∧ i = .int .i64 q ∧ LawInv w wi cs 39 ∧ Nu wi kb keys ∧ Nu wi ob ats ∧ Rn wi tb (rn s)) (fun i _ => keys.length - (intOf i).toNat)
        case atStart => exact ⟨0, Nat.zero_le _, rfl, HST.out⟩
        case round =>
          clear HST
          obtain ⟨q, hq, rfl, hst⟩ := hrel
          have HST := Lib.hid hst
          clear hst
          by_cases hqlt : q < keys.length
          · have hqb : decide ((q : Int) < (keys.length : Int)) = true := by simp; omega
            go_wp2
            go_loopw [10] (fun i wi => ∃ j : Nat, j ≤ ats.length ∧ i = .int .i64 j ∧ LawInv w wi cs 39 ∧ Nu wi kb keys ∧ Nu wi ob ats ∧ Rn wi tb (rn s)) (fun i _ => ats.length - (intOf i).toNat)
            case atStart => exact ⟨0, Nat.zero_le _, rfl, HST.out⟩
            case round =>
              clear HST
              obtain ⟨j, hj, rfl, hst⟩ := hrel
              have hblk := hst.1.1
              rw [← HCS.out] at hblk
              have hc6 := cell_of hblk 6 (v := .int .i64 nn) rfl
              have HST := Lib.hid hst
              clear hst hblk
              by_cases hjlt : j < ats.length
              · have hjb : decide ((j : Int) < (ats.length : Int)) = true := by simp; omega
                go_wp2
                have hmv : MvInv w (wr.alloc (.cells #[.int .i64 0, .int .i64 1, .int .i64 (2 + (j : Int) % 3), .int .i64 nn] 3)) cs kb ob tb wr.heap.size keys ats (rn s) [0, 1, 2 + (j : Int) % 3, nn] :=
                  ⟨HST.out.1.step (below_new _ _), HST.out.2.1.below (below_new _ _), HST.out.2.2.1.below (below_new _ _), HST.out.2.2.2.below (below_new _ _), nu_four wr _ _ _ _⟩
                have HMV := Lib.hid hmv
                clear hmv hc6 HST
                obtain ⟨cb, hcb⟩ : ∃ cb, wr.heap.size = cb := ⟨_, rfl⟩
                rw [hcb] at HMV
                rw [hcb]
                obtain ⟨W4, hW4⟩ : ∃ W4, wr.alloc (.cells #[.int .i64 0, .int .i64 1, .int .i64 (2 + (j : Int) % 3), .int .i64 nn] 3) = W4 := ⟨_, rfl⟩
                rw [hW4] at HMV
                rw [hW4]
                clear hcb hW4
                go_loopg [12] 5 (fun gk i wi => ∃ z : Nat, z ≤ 4 ∧ 4 - z < gk ∧ i = .int .i64 z ∧ MvInv w wi cs kb ob tb cb keys ats (rn s) [0, 1, 2 + (j : Int) % 3, nn])
                case atStart => exact ⟨0, by omega, by omega, rfl, HMV.out⟩
                case round =>
                  clear HMV
                  obtain ⟨z, hz, hzg, rfl, hmv⟩ := hrel
                  obtain ⟨gq, rfl⟩ : ∃ gq, gk = gq + 1 := ⟨gk - 1, by omega⟩
                  have HMV := Lib.hid hmv
                  clear hmv
                  by_cases hz4 : z < 4
                  · have hzb : decide ((z : Int) < 4) = true := by simp; omega
                    have fa := HMV.out.2.2.1.at j hjlt
                    have fk := HMV.out.2.1.at q hqlt
                    have fc := HMV.out.2.2.2.2.at z hz4
                    obtain ⟨av, hav⟩ : ∃ av, Pl.rd ats j = av := ⟨_, rfl⟩
                    obtain ⟨kv, hkv⟩ : ∃ kv, Pl.rd keys q = kv := ⟨_, rfl⟩
                    obtain ⟨cv, hcv⟩ : ∃ cv, Pl.rd [0, 1, 2 + (j : Int) % 3, nn] z = cv := ⟨_, rfl⟩
                    rw [hav] at fa
                    rw [hkv] at fk
                    rw [hcv] at fc
                    have HAV := Lib.hid hav
                    have HKV := Lib.hid hkv
                    have HCV := Lib.hid hcv
                    obtain ⟨⟨R1, R2, R3⟩, hR⟩ : ∃ R, moveR s av kv cv = R := ⟨_, rfl⟩
                    have cM : ∀ W, Tabs W → Calls Tryd.prog 33 #[.string s, .int .i64 av, .int .i64 kv, .int .i64 cv] W fun e w' => e = .returned (.tuple #[.agg #[.int .i64 R1, .int .i64 R2], .int .i64 R3]) ∧ Below W.heap.size W w' := fun W hW => by
                      have := move_any s av kv cv W (by omega) hW
                      rw [hR] at this
                      exact this
                    have HRR := Lib.hid hR
                    have hj0 : (0 : Int) ≤ (j : Int) := by omega
                    have hj1 : (j : Int) < (ats.length : Int) := by omega
                    have hq0 : (0 : Int) ≤ (q : Int) := by omega
                    have hq1 : (q : Int) < (keys.length : Int) := by omega
                    have hz0 : (0 : Int) ≤ (z : Int) := by omega
                    have hz1 : (z : Int) < (4 : Int) := by omega
                    have hT1 := HT.out.below HMV.out.1.2
                    have hob := World.block_lt_of_cell? _ _ fa
                    have hkbl := World.block_lt_of_cell? _ _ fk
                    have hcbl := World.block_lt_of_cell? _ _ fc
                    simp only at hob hkbl hcbl
                    clear hav hkv hcv hR
                    go_upto_region 19 with (fail)
                    go_cut [13, 14] (fun s13 s14 wx => ∃ xb : Nat, s13 = .pointer (some ⟨xb, 0, none⟩) ∧ s14 = .int .i64 R3 ∧ wx.heap[xb]? = some (.cells #[.int .i64 R1, .int .i64 R2] 44 (0, 0)) ∧ MvInv w wx cs kb ob tb cb keys ats (rn s) [0, 1, 2 + (j : Int) % 3, nn])
                    case first =>
                      go_region_held3 (fun w' => w'.cell? ⟨ob, j, none⟩ = some (.int .i64 av) ∧ w'.cell? ⟨kb, q, none⟩ = some (.int .i64 kv) ∧ w'.cell? ⟨cb, z, none⟩ = some (.int .i64 cv))
                        (first | exact ⟨fa, fk, fc⟩ | exact ⟨cell_below (below_new _ _).drew fa, cell_below (below_new _ _).drew fk, cell_below (below_new _ _).drew fc⟩ | exact ⟨ga, gk, gc⟩ | exact ⟨cell_below (below_new _ _) ga, cell_below (below_new _ _) gk, cell_below (below_new _ _) gc⟩ | exact ⟨(two_far (by omega)).trans ga, (two_far (by omega)).trans gk, (two_far (by omega)).trans gc⟩)
                        (first
                          | (go_at_call 33; refine (cM _ (by first | exact hT1 | exact hT1.below (below_new _ _).drew)).mono ?_; rintro e w2 ⟨rfl, hb2⟩; have hMV2 : MvInv w w2 cs kb ob tb cb keys ats (rn s) [0, 1, 2 + (j : Int) % 3, nn] := (by first | exact HMV.out.drew.step hb2 | exact (HMV.out.step (below_new _ _)).drew.step hb2); have ga := hMV2.2.2.1.at j hjlt; have gk := hMV2.2.1.at q hqlt; have gc := hMV2.2.2.2.2.at z hz4; rw [HAV.out] at ga; rw [HKV.out] at gk; rw [HCV.out] at gc; (try (have hxx := two_later_drew hb2; obtain ⟨hx0, hx1, hf0, hf1⟩ := hxx))))
                      all_goals (go_wp2_with fail)
                      all_goals go_meet
                      · exact ⟨_, rfl, rfl, new_at w2 _ _, hMV2.step (below_new _ _)⟩
                      · have hsn := stored_new (R1 := R1) (R2 := R2) hb2
                        exact ⟨_, rfl, rfl, hsn.1, HMV.out.step hsn.2⟩
                    case rest =>
                      obtain ⟨xb, rfl, rfl, hxb, hmv⟩ := hcut
                      have hT2 := HT.out.below hmv.1.2
                      have cMay := fun W (h : Tabs W) => refMay_any s W (by omega) h
                      have cN1 := fun W => Num_any av (rn s).length W
                      have cN2 := fun W => Num_any cv 999 W
                      have cL := fun W => refLine_any kv W
                      have ga := hmv.2.2.1.at j hjlt
                      have gk2 := hmv.2.1.at q hqlt
                      have gc := hmv.2.2.2.2.at z hz4
                      rw [HAV.out] at ga
                      rw [HKV.out] at gk2
                      rw [HCV.out] at gc
                      have HMV2 := Lib.hid hmv
                      have HXB := Lib.hid hxb
                      have hR : moveR s av kv cv = if mayB s = true ∧ numB av (rn s).length = true ∧ lineB kv = true ∧ numB cv 999 = true then mvR (rn s) av.toNat cv.toNat kv else (0, 0, 1) := rfl
                      rw [HRR.out] at hR
                      clear hmv hxb cM fa fk fc hob hkbl hcbl hT1 HMV
                      rcases Bool.eq_false_or_eq_true (mayB s) with hm | hm
                      · simp only [hm] at cMay
                        rcases Bool.eq_false_or_eq_true (numB av (rn s).length) with hn | hn
                        · simp only [hn] at cN1
                          rcases Bool.eq_false_or_eq_true (lineB kv) with hk | hk
                          · simp only [hk] at cL
                            rcases Bool.eq_false_or_eq_true (numB cv 999) with hc | hc
                            · rw [if_pos ⟨hm, hn, hk, hc⟩] at hR
                              simp only [hc] at cN2
                              have haa : 0 ≤ av ∧ av ≤ (rn s).length := by unfold numB at hn; simpa using hn
                              have hcc : 0 ≤ cv ∧ cv ≤ 999 := by unfold numB at hc; simpa using hc
                              obtain ⟨a', rfl⟩ : ∃ a' : Nat, av = a' := ⟨av.toNat, by omega⟩
                              obtain ⟨c', rfl⟩ : ∃ c' : Nat, cv = c' := ⟨cv.toNat, by omega⟩
                              simp only [Int.toNat_natCast] at hR
                              have cF : ∀ W, Rn W tb (rn s) → Calls Tryd.prog 51 #[.slice (some ⟨tb, 0, none⟩) (rn s).length C, .int .i64 a', .int .i64 kv, .int .i64 c'] W fun e w' => e = .returned (.tuple #[.agg #[.int .i64 R1, .int .i64 R2], .int .i64 R3]) ∧ Below W.heap.size W w' := fun W hW => by
                                have := refMove_any tb (rn s) C a' c' kv W hW (by omega) (by omega) (by omega) (rn_i32 s) hk
                                rw [← hR] at this
                                exact this
                              clear hm hn hk hc hR
                              go_upto_region 22 with (first
                                | (go_at_call 25; refine (cMay _ (hT2.below (below_new _ _))).mono ?_; rintro e w2 ⟨rfl, hb2⟩; have hbA := (below_new wc _).trans (hb2.mono (below_new wc _).size); have gaA := cell_below hbA ga; have gkA := cell_below hbA gk2; have gcA := cell_below hbA gc)
                                | (with_reducible (go_at_call 26; refine (cN1 _).mono ?_; rintro e w3 ⟨rfl, rfl⟩))
                                | (with_reducible (go_at_call 26; refine (cN2 _).mono ?_; rintro e w3 ⟨rfl, rfl⟩))
                                | (go_at_call 50; refine (cL _).mono ?_; rintro e w5 ⟨rfl, hb5⟩; have hb25 := hb2.trans (hb5.mono hb2.size); have hbB := hbA.trans (hb5.mono hbA.size); have hmvB := Lib.hid (HMV2.out.step hbB); have hxB := Lib.hid (blk_below HXB.out hbB); have gaB := cell_below hbB ga; have gkB := cell_below hbB gk2; have gcB := cell_below hbB gc))
                              have hob := World.block_lt_of_cell? _ _ ga
                              have hkbl := World.block_lt_of_cell? _ _ gk2
                              have hcbl := World.block_lt_of_cell? _ _ gc
                              have hxbl := lt_of_block HXB.out
                              simp only at hob hkbl hcbl
                              go_region_held3 (fun w' => w'.cell? ⟨ob, j, none⟩ = some (.int .i64 a') ∧ w'.cell? ⟨kb, q, none⟩ = some (.int .i64 kv) ∧ w'.cell? ⟨cb, z, none⟩ = some (.int .i64 c'))
                                (first | exact ⟨gaB, gkB, gcB⟩ | exact ⟨ga6, gk6, gc6⟩ | exact ⟨(two_far (by omega)).trans ga6, (two_far (by omega)).trans gk6, (two_far (by omega)).trans gc6⟩)
                                (first
                                  | (go_at_call 51; refine (cF w5.drew hmvB.out.2.2.2.1).mono ?_; rintro e w6 ⟨rfl, hb6⟩; have hb56 := (Below.one w5).trans hb6; have hb26 := hb25.trans (hb56.mono hb25.size); have hbC := hbB.trans (hb56.mono hbB.size); obtain ⟨hw0, hw1, hwf0, hwf1⟩ := two_later hb26; have ga6 := cell_below hb56 gaB; have gk6 := cell_below hb56 gkB; have gc6 := cell_below hb56 gcB))
                              have hst := stored_old (R1 := R1) (R2 := R2) (cells_later hb26)
                              have hx0 := (two_far (w2 := w6) (u := .int .i64 R1) (v := .int .i64 R2) (o := 0) (show xb ≠ wc.heap.size by omega)).trans (two_cell0 (blk_below HXB.out hbC))
                              have hx1 := (two_far (w2 := w6) (u := .int .i64 R1) (v := .int .i64 R2) (o := 1) (show xb ≠ wc.heap.size by omega)).trans (two_cell1 (blk_below HXB.out hbC))
                              have hy0 := two_cell0 hst
                              have hy1 := two_cell1 hst
                              have hmvC := Lib.hid (HMV2.out.step ((hbC.setCell (p := ⟨wc.heap.size, 0, none⟩) (Nat.le_refl _) (.int .i64 R1)).setCell (p := ⟨wc.heap.size, 1, none⟩) (Nat.le_refl _) (.int .i64 R2)))
                              clear hw0 hw1 hwf0 hwf1 ga6 gk6 gc6 gaB gkB gcB gaA gkA gcA ga gk2 gc hst
                              go_wp2_with (go_at_call 34; refine (num12_any _ _).mono ?_; rintro e w7 ⟨rfl, rfl⟩)
                              go_roundg gq
                              case measure => omega
                              case rel => exact ⟨z + 1, by omega, by omega, by go_num, hmvC.out⟩
                            · rw [if_neg (by simp [hc])] at hR
                              simp only [Prod.mk.injEq] at hR
                              obtain ⟨rfl, rfl, rfl⟩ := hR
                              simp only [hc] at cN2
                              clear hm hn hk hc
                              go_wp2_with (first
                                | (go_at_call 25; refine (cMay _ (hT2.below (below_new _ _))).mono ?_; rintro e w2 ⟨rfl, hb2⟩; have hbA := (below_new wc _).trans (hb2.mono (below_new wc _).size); have hmvA := Lib.hid (HMV2.out.step hbA); have hxA := Lib.hid (blk_below HXB.out hbA); have hx0 := two_cell0 hxA.out; have hx1 := two_cell1 hxA.out; obtain ⟨hw0, hw1, hwf0, hwf1⟩ := two_later hb2; have gaA := cell_below hbA ga; have gkA := cell_below hbA gk2; have gcA := cell_below hbA gc)
                                | (with_reducible (go_at_call 26; refine (cN1 _).mono ?_; rintro e w3 ⟨rfl, rfl⟩))
                                | (with_reducible (go_at_call 26; refine (cN2 _).mono ?_; rintro e w3 ⟨rfl, rfl⟩))
                                | (go_at_call 50; refine (cL _).mono ?_; rintro e w5 ⟨rfl, hb5⟩; have hb25 := hb2.trans (hb5.mono hb2.size); have hbB := hbA.trans (hb5.mono hbA.size); have hmvB := Lib.hid (HMV2.out.step hbB); have hxB := Lib.hid (blk_below HXB.out hbB); have hx0 := two_cell0 hxB.out; have hx1 := two_cell1 hxB.out; obtain ⟨hw0, hw1, hwf0, hwf1⟩ := two_later hb25; have gaB := cell_below hbB ga; have gkB := cell_below hbB gk2; have gcB := cell_below hbB gc)
                                | (go_at_call 34; refine (num12_any _ _).mono ?_; rintro e w7 ⟨rfl, rfl⟩))
                              go_roundg gq
                              case measure => omega
                              case rel => exact ⟨z + 1, by omega, by omega, by go_num, hmvB.out⟩
                          · rw [if_neg (by simp [hk])] at hR
                            simp only [Prod.mk.injEq] at hR
                            obtain ⟨rfl, rfl, rfl⟩ := hR
                            simp only [hk] at cL
                            clear hm hn hk
                            go_wp2_with (first
                              | (go_at_call 25; refine (cMay _ (hT2.below (below_new _ _))).mono ?_; rintro e w2 ⟨rfl, hb2⟩; have hbA := (below_new wc _).trans (hb2.mono (below_new wc _).size); have hmvA := Lib.hid (HMV2.out.step hbA); have hxA := Lib.hid (blk_below HXB.out hbA); have hx0 := two_cell0 hxA.out; have hx1 := two_cell1 hxA.out; obtain ⟨hw0, hw1, hwf0, hwf1⟩ := two_later hb2; have gaA := cell_below hbA ga; have gkA := cell_below hbA gk2; have gcA := cell_below hbA gc)
                              | (go_at_call 26; refine (cN1 _).mono ?_; rintro e w3 ⟨rfl, rfl⟩)
                              | (go_at_call 50; refine (cL _).mono ?_; rintro e w5 ⟨rfl, hb5⟩; have hb25 := hb2.trans (hb5.mono hb2.size); have hbB := hbA.trans (hb5.mono hbA.size); have hmvB := Lib.hid (HMV2.out.step hbB); have hxB := Lib.hid (blk_below HXB.out hbB); have hx0 := two_cell0 hxB.out; have hx1 := two_cell1 hxB.out; obtain ⟨hw0, hw1, hwf0, hwf1⟩ := two_later hb25; have gaB := cell_below hbB ga; have gkB := cell_below hbB gk2; have gcB := cell_below hbB gc)
                              | (go_at_call 34; refine (num12_any _ _).mono ?_; rintro e w7 ⟨rfl, rfl⟩))
                            go_roundg gq
                            case measure => omega
                            case rel => exact ⟨z + 1, by omega, by omega, by go_num, hmvB.out⟩
                        · rw [if_neg (by simp [hn])] at hR
                          simp only [Prod.mk.injEq] at hR
                          obtain ⟨rfl, rfl, rfl⟩ := hR
                          simp only [hn] at cN1
                          clear hm hn
                          go_wp2_with (first
                            | (go_at_call 25; refine (cMay _ (hT2.below (below_new _ _))).mono ?_; rintro e w2 ⟨rfl, hb2⟩; have hbA := (below_new wc _).trans (hb2.mono (below_new wc _).size); have hmvA := Lib.hid (HMV2.out.step hbA); have hxA := Lib.hid (blk_below HXB.out hbA); have hx0 := two_cell0 hxA.out; have hx1 := two_cell1 hxA.out; obtain ⟨hw0, hw1, hwf0, hwf1⟩ := two_later hb2; have gaA := cell_below hbA ga; have gkA := cell_below hbA gk2; have gcA := cell_below hbA gc)
                            | (go_at_call 26; refine (cN1 _).mono ?_; rintro e w3 ⟨rfl, rfl⟩)
                            | (go_at_call 34; refine (num12_any _ _).mono ?_; rintro e w7 ⟨rfl, rfl⟩))
                          go_roundg gq
                          case measure => omega
                          case rel => exact ⟨z + 1, by omega, by omega, by go_num, hmvA.out⟩
                      · rw [if_neg (by simp [hm])] at hR
                        simp only [Prod.mk.injEq] at hR
                        obtain ⟨rfl, rfl, rfl⟩ := hR
                        simp only [hm] at cMay
                        clear hm
                        go_wp2_with (first
                          | (go_at_call 25; refine (cMay _ (hT2.below (below_new _ _))).mono ?_; rintro e w2 ⟨rfl, hb2⟩; have hbA := (below_new wc _).trans (hb2.mono (below_new wc _).size); have hmvA := Lib.hid (HMV2.out.step hbA); have hxA := Lib.hid (blk_below HXB.out hbA); have hx0 := two_cell0 hxA.out; have hx1 := two_cell1 hxA.out; obtain ⟨hw0, hw1, hwf0, hwf1⟩ := two_later hb2; have gaA := cell_below hbA ga; have gkA := cell_below hbA gk2; have gcA := cell_below hbA gc)
                          | (go_at_call 34; refine (num12_any _ _).mono ?_; rintro e w7 ⟨rfl, rfl⟩))
                        go_roundg gq
                        case measure => omega
                        case rel => exact ⟨z + 1, by omega, by omega, by go_num, hmvA.out⟩
                  · have hzb : decide ((z : Int) < 4) = false := by simp; omega
                    go_wp2
                    go_roundw
                    case rel => exact ⟨j + 1, by omega, by go_num, HMV.out.1, HMV.out.2.1, HMV.out.2.2.1, HMV.out.2.2.2.1⟩
                    case measure => simp [intOf]; omega
              · have hjb : decide ((j : Int) < (ats.length : Int)) = false := by simp; omega
                go_wp2
                go_roundw
                case rel => exact ⟨q + 1, by omega, by go_num, HST.out⟩
                case measure => simp [intOf]; omega
          · have hqb : decide ((q : Int) < (keys.length : Int)) = false := by simp; omega
            go_wp2
            go_roundw
            case rel => exact ⟨k + 1, by omega, by omega, by go_num, HST.out.1⟩
            case measure => simp [intOf]; omega
      · have hTr := HT.out.below hI.2
        have HI := Lib.hid hI
        have cW := fun W (h : Tabs W) => wakes12_any W h
        clear hI
        rcases hno with hlt | ⟨hlt, h4⟩
        all_goals
          (first | have hltb : decide ((k : Int) < (ss.length : Int)) = true := by simp [hlt] | have hltb : decide ((k : Int) < (ss.length : Int)) = false := by simp; omega)
          (first | have h4b : decide ((k : Int) < 4) = false := by simp; omega | skip)
          go_wp2_with (go_at_call 35; refine (cW _ hTr).mono ?_; rintro e w2 ⟨rfl, hb2⟩)
          go_ret
          exact ⟨rfl, (HI.out.step hb2).2⟩

end Go.Proofs.YtnmpkjlbphjddaaDoor
