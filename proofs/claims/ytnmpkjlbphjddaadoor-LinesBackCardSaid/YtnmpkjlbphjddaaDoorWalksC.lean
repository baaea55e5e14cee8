/-
  The walks over the references' functions that go by rows: the begin of a row by its number, and of one so many rows below or above.
-/
import Derived.Test.YtnmpkjlbphjddaaDoorWalksB
namespace Go.Proofs.YtnmpkjlbphjddaaDoor
open Go.RowKit

theorem startI_yes {t : List Int} {y : Int} {j : Nat} (hj : j < Pl.rows t) (h : y = j) : Pl.startI t y = (Pl.nd (Pl.begins t) j : Nat) := by
  subst h; unfold Pl.startI; rw [if_pos (by omega)]; rfl
theorem startI_no {t : List Int} {y : Int} (h : y < 0 ∨ (Pl.rows t : Int) ≤ y) : Pl.startI t y = -1 := by
  unfold Pl.startI; rw [if_neg (by omega)]

set_option maxHeartbeats 800000 in
theorem start_any (b : Nat) (t : List Int) (c : Nat) (y : Int) (w : World) (hr : Rn w b t) (hl : t.length ≤ 1000000) (hy : -1000000000 ≤ y ∧ y ≤ 9223372036854775807) :
    Calls Tryd.prog 37 #[.slice (some ⟨b, 0, none⟩) t.length c, .int .i64 y] w fun e w' => e = .returned (.int .i64 (Pl.startI t y)) ∧ w = w' := by
  obtain ⟨R, hR⟩ : ∃ R, Pl.startI t y = R := ⟨_, rfl⟩
  rw [hR]
  have HS := Lib.hid hR
  have HR := Lib.hid hr
  clear hr hR
  by_cases hn : y < 0
  · go_enter Tryd.func37, Tryd.ntmps37
    go_wp2
    go_ret
    exact ⟨ret_int (by rw [← HS.out, startI_no (.inl hn)]), rfl⟩
  · have h0 : 0 ≤ y := by omega
    go_enter Tryd.func37, Tryd.ntmps37
    go_wp2
    go_loop [1, 5] (fun s1 s5 => ∃ (z : Int) (k : Nat), 0 ≤ z ∧ z ≤ y ∧ k ≤ t.length ∧ Hid (∃ j : Nat, j < Pl.rows t ∧ k = Pl.nd (Pl.begins t) j ∧ y = j + z) ∧ s1 = .int .i64 z ∧ s5 = .int .i64 k) (fun s1 _ => (intOf s1).toNat)
    case atStart => exact ⟨y, 0, h0, by omega, Nat.zero_le _, (⟨0, by rw [Pl.rows_eq]; omega, (Pl.begins_zero t).symm, by omega⟩ : ∃ j : Nat, j < Pl.rows t ∧ 0 = Pl.nd (Pl.begins t) j ∧ y = j + y), rfl, rfl⟩
    case round =>
      obtain ⟨z, k, hz, hzy, hk, hH, rfl, rfl⟩ := hrel
      by_cases hz0 : 0 < z
      · have cE := end_any b t c k w HR.out hk hl
        obtain ⟨f, hf⟩ : ∃ f, Pl.endN t k = f := ⟨_, rfl⟩
        rw [hf] at cE
        have HF := Lib.hid hf
        clear hf
        by_cases hlast : f = t.length
        · have hb : ((f : Int) == (t.length : Int)) = true := by simp [hlast]
          have HL := Lib.hid hlast
          clear hlast
          go_wp2_with (go_at_call 46; refine cE.mono ?_; rintro e w' ⟨rfl, rfl⟩)
          go_ret
          refine ⟨ret_int ?_, rfl⟩
          obtain ⟨j, hj, hkj, hyj⟩ := hH.out
          rw [← HS.out, startI_no]
          have hrow := Pl.rowN_begins t j hj
          rw [← hkj] at hrow
          rcases Pl.end_next t _ k rfl hk with g | g
          · have := HF.out; have := HL.out; omega
          · omega
        · have hb : ((f : Int) == (t.length : Int)) = false := by simp; omega
          have hfle : f ≤ t.length := HF.out ▸ Pl.endN_le t k hk
          go_wp2_with (go_at_call 46; refine cE.mono ?_; rintro e w' ⟨rfl, rfl⟩)
          go_round
          case rel =>
            refine ⟨z - 1, f + 1, by omega, by omega, by omega, ?_, rfl, by go_num⟩
            obtain ⟨j, hj, hkj, hyj⟩ := hH.out
            have hrow := Pl.rowN_begins t j hj
            rw [← hkj] at hrow
            rcases Pl.end_next t _ k rfl hk with g | g
            · rw [HF.out, hrow] at g
              exact ⟨j + 1, g.1, g.2.1, by omega⟩
            · have := HF.out; omega
          case measure => simp [intOf]; omega
      · have hz1 : z = 0 := by omega
        subst hz1
        go_wp2
        go_ret
        refine ⟨ret_int ?_, rfl⟩
        obtain ⟨j, hj, hkj, hyj⟩ := hH.out
        rw [← HS.out, startI_yes hj (by omega), hkj]

theorem rowI_yes {t : List Int} {a : Nat} {y : Int} {j : Nat} (hj : j < Pl.rows t) (h : (Pl.rowN t a : Int) + y = j) : Pl.rowI t a y = (Pl.nd (Pl.begins t) j : Nat) := by
  unfold Pl.rowI; rw [h, if_pos (by omega)]; rfl
theorem rowI_no {t : List Int} {a : Nat} {y : Int} (h : (Pl.rowN t a : Int) + y < 0 ∨ (Pl.rows t : Int) ≤ (Pl.rowN t a : Int) + y) : Pl.rowI t a y = -1 := by
  unfold Pl.rowI; rw [if_neg (by omega)]

set_option maxHeartbeats 1000000 in
theorem row_any (b : Nat) (t : List Int) (c a : Nat) (y : Int) (w : World) (hr : Rn w b t) (ha : a ≤ t.length) (hl : t.length ≤ 1000000) (hy : -1000000000 ≤ y ∧ y ≤ 1000000000) :
    Calls Tryd.prog 64 #[.slice (some ⟨b, 0, none⟩) t.length c, .int .i64 a, .int .i64 y] w fun e w' => e = .returned (.int .i64 (Pl.rowI t a y)) ∧ w = w' := by
  obtain ⟨R, hR⟩ : ∃ R, Pl.rowI t a y = R := ⟨_, rfl⟩
  rw [hR]
  have HS := Lib.hid hR
  have HR := Lib.hid hr
  clear hr hR
  obtain ⟨hylo, hyhi⟩ := hy
  go_enter Tryd.func64, Tryd.ntmps64
  go_wp2
  go_loop [1, 2] (fun s1 s2 => ∃ (k : Nat) (z : Int), -1000000000 ≤ z ∧ z ≤ 1000000000 ∧ k ≤ t.length ∧ Hid ((Pl.rowN t a : Int) + y = (Pl.rowN t k : Int) + z) ∧ s1 = .int .i64 k ∧ s2 = .int .i64 z) (fun _ s2 => (intOf s2).toNat)
  case atStart => exact ⟨a, y, by omega, by omega, ha, rfl, rfl, rfl⟩
  case round =>
    obtain ⟨k, z, hz1, hz2, hk, hH, rfl, rfl⟩ := hrel
    by_cases hz0 : 0 < z
    · have cE := end_any b t c k w HR.out hk hl
      obtain ⟨f, hf⟩ : ∃ f, Pl.endN t k = f := ⟨_, rfl⟩
      rw [hf] at cE
      have HF := Lib.hid hf
      clear hf
      by_cases hlast : f = t.length
      · have hb : ((f : Int) == (t.length : Int)) = true := by simp [hlast]
        have HL := Lib.hid hlast
        clear hlast
        go_wp2_with (go_at_call 46; refine cE.mono ?_; rintro e w' ⟨rfl, rfl⟩)
        go_ret
        refine ⟨ret_int ?_, rfl⟩
        have h1 := hH.out
        rw [← HS.out, rowI_no]
        rcases Pl.end_next t _ k rfl hk with g | g
        · have := HF.out; have := HL.out; omega
        · omega
      · have hb : ((f : Int) == (t.length : Int)) = false := by simp; omega
        have hfle : f ≤ t.length := HF.out ▸ Pl.endN_le t k hk
        go_wp2_with (go_at_call 46; refine cE.mono ?_; rintro e w' ⟨rfl, rfl⟩)
        go_round
        case rel =>
          refine ⟨f + 1, z - 1, by omega, by omega, by omega, ?_, by go_num, rfl⟩
          have h1 := hH.out
          rcases Pl.end_next t _ k rfl hk with g | g
          · rw [HF.out] at g
            have h2 := Pl.rowN_begins t (Pl.rowN t k + 1) g.1
            rw [← g.2.1] at h2
            show (Pl.rowN t a : Int) + y = (Pl.rowN t (f + 1) : Int) + (z - 1)
            omega
          · have := HF.out; omega
        case measure => simp [intOf]; omega
    · have cB := begin_any b t c k w HR.out hk hl
      go_wp2_with (go_at_call 47; refine cB.mono ?_; rintro e w' ⟨rfl, rfl⟩)
      clear cB
      go_loop [1, 2] (fun s1 s2 => ∃ (k : Nat) (z : Int), -1000000000 ≤ z ∧ z ≤ 0 ∧ k ≤ t.length ∧ Hid ((Pl.rowN t a : Int) + y = (Pl.rowN t k : Int) + z ∧ Pl.bgn t k = k) ∧ s1 = .int .i64 k ∧ s2 = .int .i64 z) (fun _ s2 => (- intOf s2).toNat)
      case atStart =>
        refine ⟨Pl.bgn t k, z, by omega, by omega, ?_, ⟨?_, Pl.bgn_bgn t k hk⟩, rfl, rfl⟩
        · have := Pl.bgn_le t k; omega
        · rw [Pl.rowN_bgn t k hk]; exact hH.out
      case round =>
        clear hH
        obtain ⟨k, z, hz1, hz2, hk, hH, rfl, rfl⟩ := hrel
        by_cases hzn : z < 0
        · by_cases hk0 : k = 0
          · have hkb : ((k : Int) == 0) = true := by simp [hk0]
            have HK := Lib.hid hk0
            clear hk0
            go_wp2
            go_ret
            refine ⟨ret_int ?_, rfl⟩
            obtain ⟨h1, h2⟩ := hH.out
            rw [HK.out] at h1
            rw [← HS.out, rowI_no]
            have : Pl.rowN t 0 = 0 := rfl
            omega
          · obtain ⟨m, rfl⟩ : ∃ m, k = m + 1 := ⟨k - 1, by omega⟩
            have hkb : (((m + 1 : Nat) : Int) == 0) = false := by simp; omega
            have cB := begin_any b t c m w HR.out (by omega) hl
            go_wp2_with (go_at_call 47; refine cB.mono ?_; rintro e w' ⟨rfl, rfl⟩)
            go_round
            case rel =>
              obtain ⟨h1, h2⟩ := hH.out
              have h3 := Pl.row_up t (m + 1) hk (by omega)
              rw [h2] at h3
              simp only [Nat.add_sub_cancel] at h3
              refine ⟨Pl.bgn t m, z + 1, by omega, by omega, ?_, ⟨?_, Pl.bgn_bgn t m (by omega)⟩, rfl, rfl⟩
              · have := Pl.bgn_le t m; omega
              · rw [Pl.rowN_bgn t m (by omega)]; omega
            case measure => simp [intOf]; omega
        · go_wp2
          go_ret
          refine ⟨ret_int ?_, rfl⟩
          obtain ⟨h1, h2⟩ := hH.out
          have h3 := Pl.begins_row t k hk
          rw [h2] at h3
          rw [← HS.out, rowI_yes (Pl.rowN_lt t k hk) (by omega), h3]

end Go.Proofs.YtnmpkjlbphjddaaDoor
