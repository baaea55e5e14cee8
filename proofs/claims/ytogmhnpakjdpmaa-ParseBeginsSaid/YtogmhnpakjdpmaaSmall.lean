/-
  The walks over the small questions: a register's name, an object's key.
-/
import Derived.Test.YtogmhnpakjdpmaaKind
import Derived.Test.YtogmhnpakjdpmaaShelf
namespace Go.Proofs.Ytogmhnpakjdpmaa
open Go.RowKit

def greatB (k : Int) : Bool := decide (65 ≤ k) && decide (k ≤ 90)
def digitB (k : Int) : Bool := decide (48 ≤ k) && decide (k ≤ 57)
def smallB (k : Int) : Bool := decide (97 ≤ k) && decide (k ≤ 122)
def keptB (k : Int) : Bool := k == 34 || (k == 45 || (digitB k || smallB k))
def namedB (k : Int) : Bool := keptB k || (greatB k || k == 95)
def objB (k : Int) : Bool := decide (0 < k) && (decide (k < 128) && decide (0 ≤ Lib.indexByte [119, 87, 34, 40, 41, 98, 91, 93, 123, 125, 66, 112] k.toNat.toUInt8))

theorem great_any (k : Int) (w : World) : Calls Try.prog 19 #[.int .i64 k] w fun e w' => e = .returned (.bool (greatB k)) ∧ w = w' := by
  have HG := Lib.hid (show greatB k = (decide (65 ≤ k) && decide (k ≤ 90)) from rfl)
  obtain ⟨A, hA⟩ : ∃ A, decide ((65 : Int) ≤ k) = A := ⟨_, rfl⟩
  obtain ⟨B, hB⟩ : ∃ B, decide (k ≤ (90 : Int)) = B := ⟨_, rfl⟩
  rw [hA, hB] at HG
  cases A <;> cases B <;>
  · go_enter Try.func19, Try.ntmps19
    go_wp2
    go_ret
    exact ⟨ret_bool (by rw [HG.out]; rfl), rfl⟩
theorem digit_any (k : Int) (w : World) : Calls Try.prog 26 #[.int .i64 k] w fun e w' => e = .returned (.bool (digitB k)) ∧ w = w' := by
  have HG := Lib.hid (show digitB k = (decide (48 ≤ k) && decide (k ≤ 57)) from rfl)
  obtain ⟨A, hA⟩ : ∃ A, decide ((48 : Int) ≤ k) = A := ⟨_, rfl⟩
  obtain ⟨B, hB⟩ : ∃ B, decide (k ≤ (57 : Int)) = B := ⟨_, rfl⟩
  rw [hA, hB] at HG
  cases A <;> cases B <;>
  · go_enter Try.func26, Try.ntmps26
    go_wp2
    go_ret
    exact ⟨ret_bool (by rw [HG.out]; rfl), rfl⟩
theorem small_any (k : Int) (w : World) : Calls Try.prog 27 #[.int .i64 k] w fun e w' => e = .returned (.bool (smallB k)) ∧ w = w' := by
  have HG := Lib.hid (show smallB k = (decide (97 ≤ k) && decide (k ≤ 122)) from rfl)
  obtain ⟨A, hA⟩ : ∃ A, decide ((97 : Int) ≤ k) = A := ⟨_, rfl⟩
  obtain ⟨B, hB⟩ : ∃ B, decide (k ≤ (122 : Int)) = B := ⟨_, rfl⟩
  rw [hA, hB] at HG
  cases A <;> cases B <;>
  · go_enter Try.func27, Try.ntmps27
    go_wp2
    go_ret
    exact ⟨ret_bool (by rw [HG.out]; rfl), rfl⟩

theorem kept_any (k : Int) (w : World) : Calls Try.prog 18 #[.int .i64 k] w fun e w' => e = .returned (.bool (keptB k)) ∧ w = w' := by
  have HG := Lib.hid (show keptB k = (k == 34 || (k == 45 || (digitB k || smallB k))) from rfl)
  have cD := fun W => digit_any k W
  have cS := fun W => small_any k W
  obtain ⟨A, hA⟩ : ∃ A, (k == (34 : Int)) = A := ⟨_, rfl⟩
  obtain ⟨B, hB⟩ : ∃ B, (k == (45 : Int)) = B := ⟨_, rfl⟩
  obtain ⟨C, hC⟩ : ∃ C, digitB k = C := ⟨_, rfl⟩
  obtain ⟨D, hD⟩ : ∃ D, smallB k = D := ⟨_, rfl⟩
  rw [hA, hB, hC, hD] at HG
  simp only [hC] at cD
  simp only [hD] at cS
  clear hC hD
  cases A <;> cases B <;> cases C <;>
  · go_enter Try.func18, Try.ntmps18
    go_wp2_with (first
      | (go_at_call 26; refine (cD _).mono ?_; rintro e w1 ⟨rfl, rfl⟩)
      | (go_at_call 27; refine (cS _).mono ?_; rintro e w1 ⟨rfl, rfl⟩))
    go_ret
    exact ⟨ret_bool (by rw [HG.out]; rfl), rfl⟩

theorem named_any (k : Int) (w : World) : Calls Try.prog 12 #[.int .i64 k] w fun e w' => e = .returned (.bool (namedB k)) ∧ w = w' := by
  have HG := Lib.hid (show namedB k = (keptB k || (greatB k || k == 95)) from rfl)
  have cD := fun W => kept_any k W
  have cS := fun W => great_any k W
  obtain ⟨A, hA⟩ : ∃ A, keptB k = A := ⟨_, rfl⟩
  obtain ⟨B, hB⟩ : ∃ B, greatB k = B := ⟨_, rfl⟩
  obtain ⟨C, hC⟩ : ∃ C, (k == (95 : Int)) = C := ⟨_, rfl⟩
  rw [hA, hB, hC] at HG
  simp only [hA] at cD
  simp only [hB] at cS
  clear hA hB
  cases A <;> cases B <;> cases C <;>
  · go_enter Try.func12, Try.ntmps12
    go_wp2_with (first
      | (go_at_call 18; refine (cD _).mono ?_; rintro e w1 ⟨rfl, rfl⟩)
      | (go_at_call 19; refine (cS _).mono ?_; rintro e w1 ⟨rfl, rfl⟩))
    go_ret
    exact ⟨ret_bool (by rw [HG.out]; rfl), rfl⟩

theorem object_any (k : Int) (w : World) : Calls Try.prog 31 #[.int .i64 k] w fun e w' => e = .returned (.bool (objB k)) ∧ w = w' := by
  have HG := Lib.hid (show objB k = (decide (0 < k) && (decide (k < 128) && decide (0 ≤ Lib.indexByte [119, 87, 34, 40, 41, 98, 91, 93, 123, 125, 66, 112] k.toNat.toUInt8))) from rfl)
  by_cases h0 : 0 < k
  · by_cases h1 : k < 128
    · have h0b : decide (0 < k) = true := by simp; omega
      have h1b : decide (k < 128) = true := by simp; omega
      have cC := fun W => Try.strings_ContainsRune_ascii ⟨#[119, 87, 34, 40, 41, 98, 91, 93, 123, 125, 66, 112]⟩ k W (by omega) h1
      obtain ⟨R, hR⟩ : ∃ R, decide (0 ≤ Lib.indexByte [119, 87, 34, 40, 41, 98, 91, 93, 123, 125, 66, 112] k.toNat.toUInt8) = R := ⟨_, rfl⟩
      rw [hR, h0b, h1b] at HG
      have cC2 : ∀ W, Calls Try.prog 33 #[.string ⟨#[119, 87, 34, 40, 41, 98, 91, 93, 123, 125, 66, 112]⟩, .int .i32 k] W fun e w' => e = .returned (.bool R) ∧ w' = W := fun W => by
        have := cC W
        rw [show decide (0 ≤ Lib.indexByte (⟨#[119, 87, 34, 40, 41, 98, 91, 93, 123, 125, 66, 112]⟩ : ByteArray).data.toList k.toNat.toUInt8) = R from hR] at this
        exact this
      clear hR cC
      go_enter Try.func31, Try.ntmps31
      go_wp2_with (go_at_call 33; refine (cC2 _).mono ?_; rintro e w' ⟨rfl, rfl⟩)
      go_ret
      exact ⟨ret_bool (by rw [HG.out]; rfl), rfl⟩
    · have h0b : decide ((0 : Int) < k) = true := by simp; omega
      have h1b : decide (k < 128) = false := by simp; omega
      rw [h0b, h1b] at HG
      go_enter Try.func31, Try.ntmps31
      go_wp2
      go_ret
      exact ⟨ret_bool (by rw [HG.out]; rfl), rfl⟩
  · have h0b : decide ((0 : Int) < k) = false := by simp; omega
    rw [h0b] at HG
    go_enter Try.func31, Try.ntmps31
    go_wp2
    go_ret
    exact ⟨ret_bool (by rw [HG.out]; rfl), rfl⟩

end Go.Proofs.Ytogmhnpakjdpmaa
