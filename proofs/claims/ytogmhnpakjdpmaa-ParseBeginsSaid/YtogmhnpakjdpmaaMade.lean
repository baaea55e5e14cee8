/-
  The walk over what a key may be.
-/
import Derived.Test.YtogmhnpakjdpmaaRows
import Derived.Test.YtogmhnpakjdpmaaPlain
import Derived.WalkKit
import Derived.WalkSpells
import Derived.Lib.OthersKept
import Derived.Lib.Hide
import Derived.Below
namespace Go.Proofs.Ytogmhnpakjdpmaa
open Go.RowKit

theorem ret_int {k : IntKind} {a b : Int} (h : a = b) : Ending.returned (.int k a) = .returned (.int k b) := by rw [h]
theorem ret_bool {a b : Bool} (h : a = b) : Ending.returned (.bool a) = .returned (.bool b) := by rw [h]
theorem iterPos_of {w : World} {k : Nat} {s : ByteArray} {p : Nat} (h : w.heap[k]? = some (.stringIter s p)) : w.iterPos k = p := by simp [World.iterPos, h]
theorem below_new (w2 : World) (o : Obj) : Below w2.heap.size w2 (w2.alloc o) := (Below.refl _ _).alloc (Nat.le_refl _) _
theorem new_iter (w : World) (s : ByteArray) : (w.alloc (.stringIter s 0)).heap[w.heap.size]? = some (.stringIter s 0) := by
  show (w.heap.push _)[w.heap.size]? = _
  rw [Array.getElem?_push, if_pos rfl]

/-- What the walk's number is, while one text's bytes are asked. -/
def part (k : Int) (s : ByteArray) (m j p : Nat) : Nat := if inP k s p then m ||| 2 ^ j else m
theorem part_zero (k : Int) (s : ByteArray) (m j : Nat) : part k s m j 0 = m := by unfold part; rw [inP_zero]; rfl
theorem part_yes (k : Int) (s : ByteArray) (m j p : Nat) (h : p < s.size) (e : k = ((s[p]'h).toNat : Int)) : part k s m j (p + 1) = part k s m j p ||| 2 ^ j := by
  unfold part
  rw [inP_succ k s p h, show (((s[p]'h).toNat : Int) == k) = true by simp [e], Bool.or_true, if_pos rfl]
  split
  · rw [Nat.or_assoc, Nat.or_self]
  · rfl
theorem part_no (k : Int) (s : ByteArray) (m j p : Nat) (h : p < s.size) (e : k ≠ ((s[p]'h).toNat : Int)) : part k s m j (p + 1) = part k s m j p := by
  unfold part
  rw [inP_succ k s p h, show (((s[p]'h).toNat : Int) == k) = false by simp; omega, Bool.or_false]
theorem part_lt (k : Int) (s : ByteArray) (m j p : Nat) (hm : m < 64) (hj : j < 6) : part k s m j p < 64 := by
  unfold part; split
  · exact or_lt _ _ hm hj
  · exact hm
theorem part_end (k : Int) (j : Nat) : part k (str j) (madeF k j) j (str j).size = madeF k (j + 1) := rfl

theorem bits_or : ((List.range 64).all fun m => (List.range 6).all fun j => bits .or .i64 (m : Int) (wrap64 (2 ^ j)) == ((m ||| 2 ^ j : Nat) : Int)) = true := by kernel_rfl
theorem bits_or_at (m j : Nat) (hm : m < 64) (hj : j < 6) : bits .or .i64 (m : Int) (wrap64 (2 ^ j)) = ((m ||| 2 ^ j : Nat) : Int) := by
  have := List.all_eq_true.1 (List.all_eq_true.1 bits_or m (List.mem_range.2 hm)) j (List.mem_range.2 hj)
  exact eq_of_beq this
theorem bits_and : ((List.range 64).all fun m => (List.range 6).all fun j => (bits .and .i64 (m : Int) ((2 ^ j : Nat) : Int) != 0) == (m &&& 2 ^ j != 0)) = true := by kernel_rfl
theorem bits_and_at (m j : Nat) (hm : m < 64) (hj : j < 6) : (bits .and .i64 (m : Int) ((2 ^ j : Nat) : Int) != 0) = (m &&& 2 ^ j != 0) := by
  have := List.all_eq_true.1 (List.all_eq_true.1 bits_and m (List.mem_range.2 hm)) j (List.mem_range.2 hj)
  exact eq_of_beq this

theorem index_str (j : Nat) (hj : j < 6) (W : World) : (Instr.index 48 (.agg #[.string ⟨#[100, 99, 121, 62, 60]⟩, .string ⟨#[117, 85, 126]⟩, .string ⟨#[120, 88, 115, 83, 68, 67, 89, 112, 80, 74, 126, 105, 97, 73, 65, 111, 79, 117, 118, 86, 46]⟩, .string ⟨#[45, 43]⟩, .string ⟨#[109, 64, 113]⟩, .string ⟨#[100, 120, 99, 115, 121, 62, 60, 117, 85, 126, 74, 111, 118, 86]⟩]) (.int .i64 (j : Int))).run Try.prog W = .ok (.string (str j)) W := by
  rcases (show j = 0 ∨ j = 1 ∨ j = 2 ∨ j = 3 ∨ j = 4 ∨ j = 5 by omega) with rfl | rfl | rfl | rfl | rfl | rfl <;> kernel_rfl

set_option maxHeartbeats 4000000 in
theorem made_any (k : Int) (w : World) : Calls Try.prog 28 #[.int .i64 k] w fun e w' => e = .returned (.int .i64 (madeN k)) ∧ Below w.heap.size w w' := by
  by_cases h18 : k = 18
  · have hm : madeN k = 4 := by unfold madeN; rw [if_pos h18]
    have HM := Lib.hid hm
    have hb : (k == 18) = true := by simp [h18]
    clear hm h18
    go_enter Try.func28, Try.ntmps28
    go_wp2
    go_ret
    exact ⟨ret_int (by rw [HM.out]; rfl), Below.refl _ _⟩
  · have hm : madeN k = madeF k 6 := by unfold madeN; rw [if_neg h18]
    have HM := Lib.hid hm
    have hb : (k == 18) = false := by simp [h18]
    clear hm h18
    go_enter Try.func28, Try.ntmps28
    go_wp2
    go_loopw [3, 11] (fun v i wr => ∃ (j : Nat), j ≤ 6 ∧ i = .int .i64 j ∧ v = .int .i64 (madeF k j) ∧ Below w.heap.size w wr) (fun _ i _ => 6 - (intOf i).toNat)
    case atStart => exact ⟨0, by omega, rfl, rfl, Below.refl _ _⟩
    case round =>
      obtain ⟨j, hj, rfl, rfl, hb⟩ := hrel
      by_cases h6 : j < 6
      · have hm := madeF_lt k j hj
        have hsa := str_ascii j
        have HB := Lib.hid (hb.alloc hb.size (.stringIter (str j) 0))
        have hBw := hb.size
        have hpe := part_end k j
        have hor : ∀ p, bits .or .i64 (part k (str j) (madeF k j) j p : Int) (wrap64 (2 ^ j)) = ((part k (str j) (madeF k j) j p ||| 2 ^ j : Nat) : Int) := fun p => bits_or_at _ _ (part_lt _ _ _ _ _ hm h6) h6
        have hit0 := new_iter wr (str j)
        have hp0 := part_zero k (str j) (madeF k j) j
        have HP := Lib.hid hpe
        have HP0 := Lib.hid hp0
        have HOR := Lib.hid hor
        have HIT := Lib.hid hit0
        clear hpe hp0 hor hb hit0
        obtain ⟨m, hmf⟩ : ∃ m, madeF k j = m := ⟨_, rfl⟩
        rw [hmf] at HP HP0 HOR hm ⊢
        have hix := index_str j h6
        have h6b : decide ((j : Int) < 6) = true := by simp; omega
        obtain ⟨t, ht⟩ : ∃ t, str j = t := ⟨_, rfl⟩
        rw [ht] at HP HP0 HOR HIT HB hsa
        simp only [ht] at hix
        clear hmf ht
        go_wp2
        obtain ⟨B, hB⟩ : ∃ B, wr.heap.size = B := ⟨_, rfl⟩
        rw [hB] at HIT hBw
        try rw [hB]
        clear hB
        go_loopw [3] (fun v wi => ∃ p : Nat, p ≤ t.size ∧ v = .int .i64 (part k t m j p) ∧ wi.heap[B]? = some (.stringIter t p) ∧ Below w.heap.size w wi) (fun _ wi => t.size - wi.iterPos B)
        case atStart => exact ⟨0, Nat.zero_le _, by rw [HP0.out], HIT.out, HB.out⟩
        case round =>
          obtain ⟨p, hp, rfl, hit, hbi⟩ := hrel
          have hpos0 := iterPos_of hit
          by_cases hpt : p < t.size
          · have hnx := fun ty => Lib.run_next_ascii_at (P := Try.prog) wr B t p ty hit hpt (ascii_at hsa p hpt)
            have hit2 := Lib.iterAt_heap wr B t p (p + 1) hit
            have hbi2 := Lib.below_iterAt hbi (k := B) hBw t (p + 1)
            obtain ⟨W1, hW1⟩ : ∃ W1, wr.iterAt B t (p + 1) = W1 := ⟨_, rfl⟩
            rw [hW1] at hit2 hbi2
            simp only [hW1] at hnx
            have hpy := part_yes k t m j p hpt
            have hpn := part_no k t m j p hpt
            have hc128 := ascii_at hsa p hpt
            obtain ⟨c, hc⟩ : ∃ c, (t[p]'hpt).toNat = c := ⟨_, rfl⟩
            rw [hc] at hpy hpn hc128
            simp only [hc] at hnx
            clear hW1 hc hit hbi
            by_cases hkc : k = (c : Int)
            · have hpe := hpy hkc
              have hor := HOR.out p
              rw [← hpe] at hor
              have HO := Lib.hid hor
              have hkb : (k == (c : Int)) = true := by simp [hkc]
              clear hpy hpn hkc hpe hor
              go_wp2
              go_roundw
              case rel => exact ⟨p + 1, by omega, by rw [HO.out], hit2, hbi2⟩
              case measure => rw [iterPos_of hit2, hpos0]; omega
            · have hpe := hpn hkc
              have hkb : (k == (c : Int)) = false := by simp [hkc]
              clear hpy hpn hkc
              go_wp2
              go_roundw
              case rel => exact ⟨p + 1, by omega, by rw [hpe], hit2, hbi2⟩
              case measure => rw [iterPos_of hit2, hpos0]; omega
          · obtain rfl : p = t.size := by omega
            have hnx := fun ty => Lib.run_next_end_at (P := Try.prog) wr B t t.size ty hit (by omega)
            clear hit
            go_wp2
            go_roundw
            case rel => exact ⟨j + 1, by omega, by go_num, by rw [HP.out], hbi⟩
            case measure => simp [intOf]; omega
      · obtain rfl : j = 6 := by omega
        go_wp2
        go_ret
        exact ⟨ret_int (by rw [HM.out]), hb⟩

theorem may_any (k : Int) (j : Nat) (hj : j < 6) (is : Int) (his : is = ((2 ^ j : Nat) : Int)) (w : World) : Calls Try.prog 21 #[.int .i64 k, .int .i64 is] w fun e w' => e = .returned (.bool (mayB k (2 ^ j))) ∧ Below w.heap.size w w' := by
  have cM := fun W => made_any k W
  have hlt : madeN k < 64 := by
    unfold madeN
    split
    · decide
    · exact madeF_lt k 6 (Nat.le_refl _)
  have hb := bits_and_at (madeN k) j hlt hj
  rw [← his] at hb
  have hm : mayB k (2 ^ j) = (madeN k &&& 2 ^ j != 0) := rfl
  obtain ⟨m, hmk⟩ : ∃ m, madeN k = m := ⟨_, rfl⟩
  rw [hmk] at hb hm hlt
  simp only [hmk] at cM
  have HB := Lib.hid hb
  have HM := Lib.hid hm
  clear hmk hb hm his
  go_enter Try.func21, Try.ntmps21
  go_wp2_with (go_at_call 28; refine (cM _).mono ?_; rintro e w1 ⟨rfl, hb1⟩)
  go_ret
  exact ⟨ret_bool (by rw [HB.out, HM.out]), hb1⟩

end Go.Proofs.Ytogmhnpakjdpmaa
