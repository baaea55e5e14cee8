/-
  The walk over what kind of motion a key is.
-/
import Derived.Test.YtogmhnpakjdpmaaMade
namespace Go.Proofs.Ytogmhnpakjdpmaa
open Go.RowKit

theorem index_kstr (j : Nat) (hj : j < 7) (W : World) : (Instr.index 50 (.agg #[.string ⟨#[104, 108, 48, 94, 36, 106, 107, 43, 45, 95, 71]⟩, .string ⟨#[119, 98, 101, 87, 66, 69]⟩, .string ⟨#[102, 70, 116, 84]⟩, .string ⟨#[59, 44]⟩, .string ⟨#[123, 125]⟩, .string ⟨#[37]⟩, .string ⟨#[39, 96]⟩]) (.int .i64 (j : Int))).run Try.prog W = .ok (.string (kstr j)) W := by
  rcases (show j = 0 ∨ j = 1 ∨ j = 2 ∨ j = 3 ∨ j = 4 ∨ j = 5 ∨ j = 6 by omega) with rfl | rfl | rfl | rfl | rfl | rfl | rfl <;> kernel_rfl

theorem inP_mono (k : Int) (s : ByteArray) (p : Nat) (h : inP k s (p + 1) = true) (hp : p < s.size) : ∀ d, p + 1 + d ≤ s.size → inP k s (p + 1 + d) = true
  | 0, _ => h
  | d + 1, hd => by
    rw [show p + 1 + (d + 1) = (p + 1 + d) + 1 by omega, inP_succ k s _ (by omega), inP_mono k s p h hp d (by omega)]; rfl
theorem inS_yes (k : Int) (s : ByteArray) (p : Nat) (hp : p < s.size) (e : k = ((s[p]'hp).toNat : Int)) : inS k s = true := by
  have h1 : inP k s (p + 1) = true := by rw [inP_succ k s p hp]; simp [e]
  have := inP_mono k s p h1 hp (s.size - (p + 1)) (by omega)
  rwa [show p + 1 + (s.size - (p + 1)) = s.size by omega] at this

set_option maxHeartbeats 4000000 in
theorem kind_any (k : Int) (w : World) : Calls Try.prog 32 #[.int .i64 k] w fun e w' => e = .returned (.int .i64 (kindN k)) ∧ Below w.heap.size w w' := by
  by_cases h18 : k = 16777319
  · have hm : kindN k = 1 := by unfold kindN; rw [if_pos h18]
    have HM := Lib.hid hm
    have hb : (k == 16777319) = true := by simp [h18]
    clear hm h18
    go_enter Try.func32, Try.ntmps32
    go_wp2
    go_ret
    exact ⟨ret_int (by rw [HM.out]; rfl), Below.refl _ _⟩
  · have hm : kindN k = kindF k 7 0 := by unfold kindN; rw [if_neg h18]
    have HM := Lib.hid hm
    have hb : (k == 16777319) = false := by simp [h18]
    clear hm h18
    go_enter Try.func32, Try.ntmps32
    go_wp2
    go_loopw [10] (fun i wr => ∃ (j : Nat), j ≤ 7 ∧ i = .int .i64 j ∧ Hid (kindN k = kindF k (7 - j) j) ∧ Below w.heap.size w wr) (fun i _ => 7 - (intOf i).toNat)
    case atStart => exact ⟨0, by omega, rfl, HM, Below.refl _ _⟩
    case round =>
      obtain ⟨j, hj, rfl, HF, hb⟩ := hrel
      by_cases h6 : j < 7
      · have hsa := kstr_ascii j
        have HB := Lib.hid (hb.alloc hb.size (.stringIter (kstr j) 0))
        have hBw := hb.size
        have hf := HF.out
        rw [show 7 - j = (7 - (j + 1)) + 1 by omega] at hf
        have hpe : kindN k = if inS k (kstr j) then j + 1 else kindF k (7 - (j + 1)) (j + 1) := hf
        have HP := Lib.hid hpe
        have HIT := Lib.hid (new_iter wr (kstr j))
        clear hb hf hpe HF
        have hix := index_kstr j h6
        have h6b : decide ((j : Int) < 7) = true := by simp; omega
        obtain ⟨t, ht⟩ : ∃ t, kstr j = t := ⟨_, rfl⟩
        rw [ht] at HP HIT HB hsa
        simp only [ht] at hix
        clear ht
        go_wp2
        obtain ⟨B, hB⟩ : ∃ B, wr.heap.size = B := ⟨_, rfl⟩
        rw [hB] at HIT hBw
        try rw [hB]
        clear hB
        go_loopw [6] (fun v wi => ∃ p : Nat, p ≤ t.size ∧ Hid (inP k t p = false) ∧ wi.heap[B]? = some (.stringIter t p) ∧ Below w.heap.size w wi) (fun _ wi => t.size - wi.iterPos B)
        case atStart => exact ⟨0, Nat.zero_le _, Lib.hid (inP_zero k t), HIT.out, HB.out⟩
        case round =>
          obtain ⟨p, hp, HI, hit, hbi⟩ := hrel
          have hpos0 := iterPos_of hit
          by_cases hpt : p < t.size
          · have hnx := fun ty => Lib.run_next_ascii_at (P := Try.prog) wr B t p ty hit hpt (ascii_at hsa p hpt)
            have hit2 := Lib.iterAt_heap wr B t p (p + 1) hit
            have hbi2 := Lib.below_iterAt hbi (k := B) hBw t (p + 1)
            obtain ⟨W1, hW1⟩ : ∃ W1, wr.iterAt B t (p + 1) = W1 := ⟨_, rfl⟩
            rw [hW1] at hit2 hbi2
            simp only [hW1] at hnx
            have hpy := inS_yes k t p hpt
            have hpn := inP_succ k t p hpt
            have hc128 := ascii_at hsa p hpt
            obtain ⟨c, hc⟩ : ∃ c, (t[p]'hpt).toNat = c := ⟨_, rfl⟩
            rw [hc] at hpy hpn hc128
            simp only [hc] at hnx
            clear hW1 hc hit hbi
            by_cases hkc : k = (c : Int)
            · have HY := Lib.hid (hpy hkc)
              have hkb : (k == (c : Int)) = true := by simp [hkc]
              clear hpy hpn hkc
              go_wp2
              go_ret
              exact ⟨ret_int (by rw [HP.out, HY.out, if_pos rfl]; omega), hbi2⟩
            · have hkb : (k == (c : Int)) = false := by simp [hkc]
              have hkb2 : ((c : Int) == k) = false := by simp; omega
              rw [HI.out, hkb2] at hpn
              have HN := Lib.hid hpn
              clear hpy hpn hkc hkb2
              go_wp2
              go_roundw
              case rel => exact ⟨p + 1, by omega, HN, hit2, hbi2⟩
              case measure => rw [iterPos_of hit2, hpos0]; omega
          · obtain rfl : p = t.size := by omega
            have hnx := fun ty => Lib.run_next_end_at (P := Try.prog) wr B t t.size ty hit (by omega)
            clear hit
            go_wp2
            go_roundw
            case rel => exact ⟨j + 1, by omega, by go_num, Lib.hid (by rw [HP.out, if_neg (by unfold inS; rw [HI.out]; decide)]), hbi⟩
            case measure => simp [intOf]; omega
      · obtain rfl : j = 7 := by omega
        go_wp2
        go_ret
        exact ⟨ret_int (by rw [HF.out]; rfl), hb⟩

def isB (k : Int) : Bool := kindN k != 0
def asksB (k : Int) : Bool := kindN k == 3 || kindN k == 7

theorem moveIs_any (k : Int) (w : World) : Calls Try.prog 29 #[.int .i64 k] w fun e w' => e = .returned (.bool (isB k)) ∧ Below w.heap.size w w' := by
  have cK := kind_any k w
  have hm : isB k = (kindN k != 0) := rfl
  obtain ⟨m, hmk⟩ : ∃ m, kindN k = m := ⟨_, rfl⟩
  rw [hmk] at hm
  simp only [hmk] at cK
  have HM := Lib.hid hm
  clear hm hmk
  go_enter Try.func29, Try.ntmps29
  go_wp2_with (go_at_call 32; refine cK.mono ?_; rintro e w1 ⟨rfl, hb1⟩)
  go_ret
  refine ⟨ret_bool ?_, hb1⟩
  rw [HM.out]
  by_cases h : m = 0
  · subst h; rfl
  · rw [show (m != 0) = true by simp [h], show ((m : Int) != 0) = true by simp [h]]

theorem asks_any (k : Int) (w : World) : Calls Try.prog 30 #[.int .i64 k] w fun e w' => e = .returned (.bool (asksB k)) ∧ Below w.heap.size w w' := by
  have cK := fun W => kind_any k W
  have hm : asksB k = (kindN k == 3 || kindN k == 7) := rfl
  obtain ⟨m, hmk⟩ : ∃ m, kindN k = m := ⟨_, rfl⟩
  rw [hmk] at hm
  simp only [hmk] at cK
  have HM := Lib.hid hm
  clear hm hmk
  by_cases h3 : m = 3
  · have hb : ((m : Int) == 3) = true := by simp [h3]
    have HR := Lib.hid (show asksB k = true by rw [HM.out, h3]; rfl)
    clear h3
    go_enter Try.func30, Try.ntmps30
    go_wp2_with (go_at_call 32; refine (cK _).mono ?_; rintro e w1 ⟨rfl, hb1⟩)
    go_ret
    exact ⟨ret_bool HR.out.symm, hb1⟩
  · have hb : ((m : Int) == 3) = false := by simp; omega
    have HR := Lib.hid (show asksB k = ((m : Int) == 7) by
      rw [HM.out, show (m == 3) = false by simp [h3], Bool.false_or]
      by_cases h : m = 7
      · subst h; rfl
      · rw [show (m == 7) = false by simp [h], show ((m : Int) == 7) = false by simp; omega])
    clear h3
    go_enter Try.func30, Try.ntmps30
    go_wp2_with (first
      | (go_at_call 32; refine (cK _).mono ?_; have _ := hb1; rintro e w2 ⟨rfl, hb2⟩)
      | (go_at_call 32; refine (cK _).mono ?_; rintro e w1 ⟨rfl, hb1⟩))
    go_ret
    exact ⟨ret_bool HR.out.symm, hb1.trans (hb2.mono hb1.size)⟩

end Go.Proofs.Ytogmhnpakjdpmaa
