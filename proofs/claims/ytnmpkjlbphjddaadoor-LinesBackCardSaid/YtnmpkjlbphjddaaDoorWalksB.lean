/-
  The walks over the references' functions that read a text's runes: where a row begins and ends, its first rune that is no blank.
-/
import Derived.Test.YtnmpkjlbphjddaaDoorWalksA
import Derived.Lib.Hide
namespace Go.Proofs.YtnmpkjlbphjddaaDoor
open Go.RowKit

/-- Block b holds the runes t from its head on. -/
def Rn (w : World) (b : Nat) (t : List Int) : Prop := ∀ i, i < t.length → w.cell? ⟨b, i, none⟩ = some (.int .i32 (Pl.rd t i))

theorem Rn.at {w : World} {b : Nat} {t : List Int} (h : Rn w b t) (i : Nat) (hi : i < t.length) : w.cell? ⟨b, i, none⟩ = some (.int .i32 (Pl.rd t i)) := h i hi

set_option maxHeartbeats 400000 in
theorem begin_any (b : Nat) (t : List Int) (c a : Nat) (w : World) (hr : Rn w b t) (ha : a ≤ t.length) (hl : t.length ≤ 1000000) :
    Calls Tryd.prog 47 #[.slice (some ⟨b, 0, none⟩) t.length c, .int .i64 a] w fun e w' => e = .returned (.int .i64 (Pl.bgn t a)) ∧ w = w' := by
  have HR := Lib.hid hr
  clear hr
  go_enter Tryd.func47, Tryd.ntmps47
  go_wp2
  go_loop [1] (fun i => ∃ k : Nat, k ≤ a ∧ Hid (Pl.bgn t k = Pl.bgn t a) ∧ i = .int .i64 k) (fun i => (intOf i).toNat)
  case atStart => exact ⟨a, Nat.le_refl _, rfl, rfl⟩
  case round =>
    obtain ⟨k, hk, hb, rfl⟩ := hrel
    cases k with
    | zero =>
      have hb' : (0 : Int) = (Pl.bgn t a : Int) := by rw [← hb.out]; rfl
      have HB := Lib.hid hb'
      clear hb hb'
      go_wp2
      go_ret
      exact ⟨ret_int HB.out, rfl⟩
    | succ j =>
      have hj : j < t.length := by omega
      have hc := HR.out.at j hj
      by_cases h10 : Pl.rd t j = 10
      · have hb' : (((j + 1 : Nat)) : Int) = (Pl.bgn t a : Int) := by rw [← hb.out, Pl.bgn_at t j h10]
        have HB := Lib.hid hb'
        have h10b : (Pl.rd t j != 10) = false := by simp [h10]
        clear hb hb' h10
        go_wp2
        go_ret
        exact ⟨ret_int HB.out, rfl⟩
      · have hb' : Pl.bgn t j = Pl.bgn t a := by rw [← hb.out, Pl.bgn_step t j h10]
        have HB := Lib.hid hb'
        have h10b : (Pl.rd t j != 10) = true := by simp [h10]
        clear hb hb' h10
        go_wp2
        go_round
        case rel => exact ⟨j, by omega, HB, by go_num⟩
        case measure => simp [intOf]

set_option maxHeartbeats 400000 in
theorem end_any (b : Nat) (t : List Int) (c a : Nat) (w : World) (hr : Rn w b t) (ha : a ≤ t.length) (hl : t.length ≤ 1000000) :
    Calls Tryd.prog 46 #[.slice (some ⟨b, 0, none⟩) t.length c, .int .i64 a] w fun e w' => e = .returned (.int .i64 (Pl.endN t a)) ∧ w = w' := by
  have HR := Lib.hid hr
  clear hr
  go_enter Tryd.func46, Tryd.ntmps46
  go_wp2
  go_loop [1] (fun i => ∃ k : Nat, k ≤ t.length ∧ Hid (Pl.endN t k = Pl.endN t a) ∧ i = .int .i64 k) (fun i => t.length - (intOf i).toNat)
  case atStart => exact ⟨a, ha, rfl, rfl⟩
  case round =>
    obtain ⟨k, hk, hb, rfl⟩ := hrel
    by_cases hlt : k < t.length
    · have hc := HR.out.at k hlt
      by_cases h10 : Pl.rd t k = 10
      · have hb' : ((k : Nat) : Int) = (Pl.endN t a : Int) := by rw [← hb.out, Pl.endN_at t k h10]
        have HB := Lib.hid hb'
        have h10b : (Pl.rd t k != 10) = false := by simp [h10]
        clear hb hb' h10
        go_wp2
        go_ret
        exact ⟨ret_int HB.out, rfl⟩
      · have hb' : Pl.endN t (k + 1) = Pl.endN t a := by rw [← hb.out, Pl.endN_step t k hlt h10]
        have HB := Lib.hid hb'
        have h10b : (Pl.rd t k != 10) = true := by simp [h10]
        clear hb hb' h10
        go_wp2
        go_round
        case rel => exact ⟨k + 1, by omega, HB, by go_num⟩
        case measure => simp [intOf]; omega
    · have hb' : ((k : Nat) : Int) = (Pl.endN t a : Int) := by rw [← hb.out, Pl.endN_len t k (by omega)]
      have HB := Lib.hid hb'
      clear hb hb'
      go_wp2
      go_ret
      exact ⟨ret_int HB.out, rfl⟩

set_option maxHeartbeats 800000 in
theorem first_any (b : Nat) (t : List Int) (c a : Nat) (w : World) (hr : Rn w b t) (ha : a ≤ t.length) (hl : t.length ≤ 1000000) (hb32 : ∀ i, -2147483648 ≤ Pl.rd t i ∧ Pl.rd t i ≤ 2147483647) :
    Calls Tryd.prog 38 #[.slice (some ⟨b, 0, none⟩) t.length c, .int .i64 a] w fun e w' => e = .returned (.int .i64 (Pl.firN t (Pl.bgn t a))) ∧ w = w' := by
  have HR := Lib.hid hr
  have H32 := Lib.hid hb32
  clear hb32
  have hbl := Pl.bgn_le t a
  obtain ⟨g, hg⟩ : ∃ g, Pl.bgn t a = g := ⟨_, rfl⟩
  have cB : Calls Tryd.prog 47 #[.slice (some ⟨b, 0, none⟩) t.length c, .int .i64 a] w fun e w' => e = .returned (.int .i64 g) ∧ w = w' := by
    rw [← hg]; exact begin_any b t c a w hr ha hl
  rw [hg] at hbl ⊢
  clear hg hr
  go_enter Tryd.func38, Tryd.ntmps38
  go_wp2_with (go_at_call 47; refine cB.mono ?_; rintro e w' ⟨rfl, rfl⟩)
  clear cB
  go_loop [1] (fun i => ∃ k : Nat, k ≤ t.length ∧ Hid (Pl.firN t k = Pl.firN t g) ∧ i = .int .i64 k) (fun i => t.length - (intOf i).toNat)
  case atStart => exact ⟨g, by omega, rfl, rfl⟩
  case round =>
    obtain ⟨k, hk, hb, rfl⟩ := hrel
    by_cases hlt : k < t.length
    · have hc := HR.out.at k hlt
      obtain ⟨hlo, hhi⟩ := H32.out k
      by_cases h10 : Pl.rd t k = 10
      · have hb' : ((k : Nat) : Int) = (Pl.firN t g : Int) := by rw [← hb.out, Pl.firN_stop t k (.inr (.inl h10))]
        have HB := Lib.hid hb'
        have h10b : (Pl.rd t k != 10) = false := by simp [h10]
        clear hb hb' h10
        go_wp2
        go_ret
        exact ⟨ret_int HB.out, rfl⟩
      · have h10b : (Pl.rd t k != 10) = true := by simp [h10]
        by_cases h0 : Pl.cls (Pl.rd t k) = 0
        · have hb' : Pl.firN t (k + 1) = Pl.firN t g := by rw [← hb.out, Pl.firN_step t k hlt h10 h0]
          have HB := Lib.hid hb'
          have h0b : (Pl.cls (Pl.rd t k) == 0) = true := by simp [h0]
          clear hb hb' h10 h0
          go_wp2_with (go_at_call 23; refine (refclass_any _ _).mono ?_; rintro e w' ⟨rfl, rfl⟩)
          go_round
          case rel => exact ⟨k + 1, by omega, HB, by go_num⟩
          case measure => simp [intOf]; omega
        · have hb' : ((k : Nat) : Int) = (Pl.firN t g : Int) := by rw [← hb.out, Pl.firN_stop t k (.inr (.inr h0))]
          have HB := Lib.hid hb'
          have h0b : (Pl.cls (Pl.rd t k) == 0) = false := by simp [h0]
          clear hb hb' h10 h0
          go_wp2_with (go_at_call 23; refine (refclass_any _ _).mono ?_; rintro e w' ⟨rfl, rfl⟩)
          go_ret
          exact ⟨ret_int HB.out, rfl⟩
    · have hb' : ((k : Nat) : Int) = (Pl.firN t g : Int) := by rw [← hb.out, Pl.firN_stop t k (.inl (by omega))]
      have HB := Lib.hid hb'
      clear hb hb'
      go_wp2
      go_ret
      exact ⟨ret_int HB.out, rfl⟩

/-- Where normal mode's cursor stands. -/
def restN (t : List Int) (a : Nat) : Nat := if a = Pl.endN t a ∧ Pl.bgn t a < a then a - 1 else a

set_option maxHeartbeats 400000 in
theorem rest_any (b : Nat) (t : List Int) (c a : Nat) (w : World) (hr : Rn w b t) (ha : a ≤ t.length) (hl : t.length ≤ 1000000) :
    Calls Tryd.prog 27 #[.slice (some ⟨b, 0, none⟩) t.length c, .int .i64 a] w fun e w' => e = .returned (.int .i64 (restN t a)) ∧ w = w' := by
  have cB := begin_any b t c a w hr ha hl
  have cE := end_any b t c a w hr ha hl
  have hR : restN t a = if a = Pl.endN t a ∧ Pl.bgn t a < a then a - 1 else a := rfl
  obtain ⟨g, hg⟩ : ∃ g, Pl.bgn t a = g := ⟨_, rfl⟩
  obtain ⟨f, hf⟩ : ∃ f, Pl.endN t a = f := ⟨_, rfl⟩
  rw [hg] at cB
  rw [hf] at cE
  rw [hg, hf] at hR
  clear hg hf hr
  by_cases h1 : a = f
  · have h1b : ((a : Int) == (f : Int)) = true := by simp [h1]
    by_cases h2 : g < a
    · have h2b : decide ((g : Int) < (a : Int)) = true := by simp [h2]
      rw [if_pos ⟨h1, h2⟩] at hR
      have HA := Lib.hid hR
      clear h1 hR
      go_enter Tryd.func27, Tryd.ntmps27
      go_wp2_with (first | (go_at_call 46; refine cE.mono ?_; rintro e w' ⟨rfl, rfl⟩) | (go_at_call 47; refine cB.mono ?_; rintro e w' ⟨rfl, rfl⟩))
      go_ret
      exact ⟨ret_int (by rw [HA.out]; omega), rfl⟩
    · have h2b : decide ((g : Int) < (a : Int)) = false := by simp; omega
      rw [if_neg (fun e => h2 e.2)] at hR
      have HA := Lib.hid hR
      clear h1 hR
      go_enter Tryd.func27, Tryd.ntmps27
      go_wp2_with (first | (go_at_call 46; refine cE.mono ?_; rintro e w' ⟨rfl, rfl⟩) | (go_at_call 47; refine cB.mono ?_; rintro e w' ⟨rfl, rfl⟩))
      go_ret
      exact ⟨ret_int (by rw [HA.out]), rfl⟩
  · have h1b : ((a : Int) == (f : Int)) = false := by simp; omega
    rw [if_neg (fun e => h1 e.1)] at hR
    have HA := Lib.hid hR
    clear hR
    go_enter Tryd.func27, Tryd.ntmps27
    go_wp2_with (first | (go_at_call 46; refine cE.mono ?_; rintro e w' ⟨rfl, rfl⟩) | (go_at_call 47; refine cB.mono ?_; rintro e w' ⟨rfl, rfl⟩))
    go_ret
    exact ⟨ret_int (by rw [HA.out]), rfl⟩

end Go.Proofs.YtnmpkjlbphjddaaDoor
