/-
  The walks over the methods of a text that is taken apart: its rows, by the begins that it keeps.
-/
import Derived.Test.YtnmpkjlbphjddaaDoorWalksC
import Derived.RegionTactic
import Derived.Deep.QuietTactic
import Derived.BigQuiet
namespace Go.Proofs.YtnmpkjlbphjddaaDoor
open Go.RowKit

/-- Block b holds the offsets gs from its head on. -/
def Gs (w : World) (b : Nat) (gs : List Nat) : Prop := ∀ i, i < gs.length → w.cell? ⟨b, i, none⟩ = some (.int .i64 (Pl.nd gs i))

/-- At a block's head lies a text that is taken apart: its runes, the begins of its rows. -/
def MapAt (w : World) (mb : Nat) (t : List Int) : Prop :=
  ∃ rb rc gb gc, w.cell? ⟨mb, 0, none⟩ = some (.slice (some ⟨rb, 0, none⟩) t.length rc) ∧ w.cell? ⟨mb, 1, none⟩ = some (.slice (some ⟨gb, 0, none⟩) (Pl.rows t) gc) ∧ Rn w rb t ∧ Gs w gb (Pl.begins t)

theorem Gs.at {w : World} {b : Nat} {t : List Int} (h : Gs w b (Pl.begins t)) (i : Nat) (hi : i < Pl.rows t) : w.cell? ⟨b, i, none⟩ = some (.int .i64 (Pl.nd (Pl.begins t) i)) := h i hi

theorem cell_below {w w' : World} {a : Addr} {v : Value} (hb : Below w.heap.size w w') (h : w.cell? a = some v) : w'.cell? a = some v :=
  (hb.cell (World.block_lt_of_cell? w a h)).trans h
theorem Rn.below {w w' : World} {b : Nat} {t : List Int} (h : Rn w b t) (hb : Below w.heap.size w w') : Rn w' b t := fun i hi => cell_below hb (h i hi)
theorem Gs.below {w w' : World} {b : Nat} {t : List Nat} (h : Gs w b t) (hb : Below w.heap.size w w') : Gs w' b t := fun i hi => cell_below hb (h i hi)
theorem MapAt.below {w w' : World} {mb : Nat} {t : List Int} (h : MapAt w mb t) (hb : Below w.heap.size w w') : MapAt w' mb t := by
  obtain ⟨rb, rc, gb, gc, h1, h2, h3, h4⟩ := h
  exact ⟨rb, rc, gb, gc, cell_below hb h1, cell_below hb h2, h3.below hb, h4.below hb⟩

theorem rows_le (t : List Int) : Pl.rows t ≤ t.length + 1 := by
  have := Pl.rows_eq t; have := Pl.rowN_le t t.length; omega

theorem Is_any (mb : Nat) (t : List Int) (a : Int) (w : World) (hm : MapAt w mb t) :
    Calls Tryd.prog 43 #[.pointer (some ⟨mb, 0, none⟩), .int .i64 a] w fun e w' => e = .returned (.bool (numB a t.length)) ∧ w = w' := by
  obtain ⟨rb, rc, gb, gc, h1, h2, _, _⟩ := hm
  clear h2
  by_cases h0 : 0 ≤ a
  · by_cases h3 : a ≤ t.length
    · go_enter Tryd.func43, Tryd.ntmps43
      go_wp2
      go_ret
      exact ⟨ret_bool (by unfold numB; simp [h0, h3]), rfl⟩
    · have h3' : (t.length : Int) < a := by omega
      go_enter Tryd.func43, Tryd.ntmps43
      go_wp2
      go_ret
      exact ⟨ret_bool (by unfold numB; simp; omega), rfl⟩
  · have h0' : a < 0 := by omega
    go_enter Tryd.func43, Tryd.ntmps43
    go_wp2
    go_ret
    exact ⟨ret_bool (by unfold numB; simp; omega), rfl⟩

theorem Rows_any (mb : Nat) (t : List Int) (w : World) (hm : MapAt w mb t) :
    Calls Tryd.prog 56 #[.pointer (some ⟨mb, 0, none⟩)] w fun e w' => e = .returned (.int .i64 (Pl.rows t)) ∧ w = w' := by
  obtain ⟨rb, rc, gb, gc, h1, h2, _, _⟩ := hm
  clear h1
  go_enter Tryd.func56, Tryd.ntmps56
  go_wp2
  go_ret
  exact ⟨rfl, rfl⟩

set_option maxHeartbeats 400000 in
theorem Row_any (mb : Nat) (t : List Int) (a : Nat) (w : World) (hm : MapAt w mb t) (ha : a ≤ t.length) (hl : t.length ≤ 1000000) :
    Calls Tryd.prog 53 #[.pointer (some ⟨mb, 0, none⟩), .int .i64 a] w fun e w' => e = .returned (.int .i64 (Pl.rowN t a)) ∧ w = w' := by
  obtain ⟨rb, rc, gb, gc, h1, h2, _, h4⟩ := hm
  clear h1
  have HG := Lib.hid h4
  clear h4
  have hrl := rows_le t
  have hra := Pl.rowN_lt t a ha
  go_enter Tryd.func53, Tryd.ntmps53
  go_wp2
  go_loop [5] (fun s => ∃ j : Nat, j ≤ Pl.rowN t a ∧ s = .int .i64 j) (fun s => Pl.rows t - (intOf s).toNat)
  case atStart => exact ⟨0, Nat.zero_le _, rfl⟩
  case round =>
    obtain ⟨j, hj, rfl⟩ := hrel
    by_cases hlt : j + 1 < Pl.rows t
    · have hltb : decide (((j : Int) + 1) < (Pl.rows t : Int)) = true := by simp; omega
      have hc := HG.out.at (j + 1) hlt
      have hiff := Pl.begins_le_iff t a (j + 1) ha hlt
      by_cases hle : Pl.nd (Pl.begins t) (j + 1) ≤ a
      · have hleb : decide ((Pl.nd (Pl.begins t) (j + 1) : Int) ≤ (a : Int)) = true := by simp; omega
        have hj1 : j + 1 ≤ Pl.rowN t a := hiff.1 hle
        clear hiff
        go_wp2
        go_round
        case rel => exact ⟨j + 1, hj1, by go_num⟩
        case measure => simp [intOf]; omega
      · have hleb : decide ((Pl.nd (Pl.begins t) (j + 1) : Int) ≤ (a : Int)) = false := by simp; omega
        have hj1 : ¬ j + 1 ≤ Pl.rowN t a := fun e => hle (hiff.2 e)
        clear hiff
        go_wp2
        go_ret
        exact ⟨ret_int (by omega), rfl⟩
    · have hltb : decide (((j : Int) + 1) < (Pl.rows t : Int)) = false := by simp; omega
      go_wp2
      go_ret
      exact ⟨ret_int (by omega), rfl⟩

set_option maxHeartbeats 400000 in
theorem End_any (mb : Nat) (t : List Int) (i : Nat) (w : World) (hm : MapAt w mb t) (hi : i < Pl.rows t) (hl : t.length ≤ 1000000) :
    Calls Tryd.prog 60 #[.pointer (some ⟨mb, 0, none⟩), .int .i64 i] w fun e w' => e = .returned (.int .i64 (Pl.endN t (Pl.nd (Pl.begins t) i))) ∧ w = w' := by
  obtain ⟨rb, rc, gb, gc, h1, h2, _, h4⟩ := hm
  have hrl := rows_le t
  have he := Pl.endN_row t i hi
  by_cases hlt : i + 1 < Pl.rows t
  · rw [if_pos hlt] at he
    have hltb : decide (((i : Int) + 1) < (Pl.rows t : Int)) = true := by simp; omega
    have hc := h4.at (i + 1) hlt
    have hp : 1 ≤ Pl.nd (Pl.begins t) (i + 1) := by
      have h5 := Pl.rowN_begins t (i + 1) hlt
      cases hz : Pl.nd (Pl.begins t) (i + 1) with
      | zero => rw [hz] at h5; simp [Pl.rowN] at h5
      | succ n => omega
    have hq := Pl.begins_le t (i + 1) hlt
    have HE := Lib.hid he
    clear he h4 h1
    go_enter Tryd.func60, Tryd.ntmps60
    go_wp2
    go_ret
    exact ⟨ret_int (by rw [HE.out]; omega), rfl⟩
  · rw [if_neg hlt] at he
    have hltb : decide (((i : Int) + 1) < (Pl.rows t : Int)) = false := by simp; omega
    have HE := Lib.hid he
    clear he h4
    go_enter Tryd.func60, Tryd.ntmps60
    go_wp2
    go_ret
    exact ⟨ret_int (by rw [HE.out]), rfl⟩

set_option maxHeartbeats 800000 in
theorem First_any (mb : Nat) (t : List Int) (i : Nat) (w : World) (hm : MapAt w mb t) (hi : i < Pl.rows t) (hl : t.length ≤ 1000000) (hb32 : ∀ i, -2147483648 ≤ Pl.rd t i ∧ Pl.rd t i ≤ 2147483647) :
    Calls Tryd.prog 58 #[.pointer (some ⟨mb, 0, none⟩), .int .i64 i] w fun e w' => e = .returned (.int .i64 (Pl.firN t (Pl.nd (Pl.begins t) i))) ∧ w = w' := by
  have cE := End_any mb t i w hm hi hl
  obtain ⟨rb, rc, gb, gc, h1, h2, h3, h4⟩ := hm
  have hrl := rows_le t
  have H32 := Lib.hid hb32
  clear hb32
  have hc := h4.at i hi
  have hq := Pl.begins_le t i hi
  have HR := Lib.hid h3
  obtain ⟨g, hg⟩ : ∃ g, Pl.nd (Pl.begins t) i = g := ⟨_, rfl⟩
  rw [hg] at cE hc hq ⊢
  obtain ⟨f, hf⟩ : ∃ f, Pl.endN t g = f := ⟨_, rfl⟩
  rw [hf] at cE
  have hfl : f ≤ t.length := hf ▸ Pl.endN_le t g hq
  have hgf : g ≤ f := hf ▸ Pl.endN_ge t g
  have HF := Lib.hid hf
  clear hf hg h3 h4
  go_enter Tryd.func58, Tryd.ntmps58
  go_wp2
  go_loop [5] (fun s => ∃ k : Nat, g ≤ k ∧ k ≤ f ∧ Hid (Pl.firN t k = Pl.firN t g ∧ Pl.endN t k = f) ∧ s = .int .i64 k) (fun s => t.length - (intOf s).toNat)
  case atStart => exact ⟨g, Nat.le_refl _, hgf, ⟨rfl, HF.out⟩, rfl⟩
  case round =>
    obtain ⟨k, hgk, hkf, hH, rfl⟩ := hrel
    by_cases hlt : k < f
    · have hltb : decide ((k : Int) < (f : Int)) = true := by simp; omega
      obtain ⟨e1, e2, e3⟩ := Pl.endN_lt t k (by rw [hH.out.2]; exact hlt)
      have hcr := HR.out.at k e1
      obtain ⟨hlo, hhi⟩ := H32.out k
      have HE := Lib.hid e3
      by_cases h0 : Pl.cls (Pl.rd t k) = 0
      · have h0b : (Pl.cls (Pl.rd t k) == 0) = true := by simp [h0]
        have HS := Lib.hid (Pl.firN_step t k e1 e2 h0)
        clear e2 e3 h0
        go_wp2_with (first | (go_at_call 60; refine cE.mono ?_; rintro e w' ⟨rfl, rfl⟩) | (go_at_call 22; refine (class_any _ _).mono ?_; rintro e w' ⟨rfl, rfl⟩))
        go_round
        case rel => exact ⟨k + 1, by omega, by omega, ⟨HS.out.symm.trans hH.out.1, HE.out.trans hH.out.2⟩, by go_num⟩
        case measure => simp [intOf]; omega
      · have h0b : (Pl.cls (Pl.rd t k) == 0) = false := by simp [h0]
        have HS := Lib.hid (Pl.firN_stop t k (.inr (.inr h0)))
        clear e2 e3 h0
        go_wp2_with (first | (go_at_call 60; refine cE.mono ?_; rintro e w' ⟨rfl, rfl⟩) | (go_at_call 22; refine (class_any _ _).mono ?_; rintro e w' ⟨rfl, rfl⟩))
        go_ret
        exact ⟨ret_int (by rw [← hH.out.1, HS.out]), rfl⟩
    · have hltb : decide ((k : Int) < (f : Int)) = false := by simp; omega
      have hkk : k = f := by omega
      have hs : Pl.firN t k = k := by
        rcases Pl.endN_self t k (by rw [hH.out.2, hkk]) with h | h
        · exact Pl.firN_stop t k (.inl h)
        · exact Pl.firN_stop t k (.inr (.inl h))
      have HS := Lib.hid hs
      clear hs hkk
      go_wp2_with (go_at_call 60; refine cE.mono ?_; rintro e w' ⟨rfl, rfl⟩)
      go_ret
      exact ⟨ret_int (by rw [← hH.out.1, HS.out]), rfl⟩

set_option maxHeartbeats 400000 in
theorem Rest_any (mb : Nat) (t : List Int) (a : Nat) (w : World) (hm : MapAt w mb t) (ha : a ≤ t.length) (hl : t.length ≤ 1000000) :
    Calls Tryd.prog 44 #[.pointer (some ⟨mb, 0, none⟩), .int .i64 a] w fun e w' => e = .returned (.int .i64 (restN t a)) ∧ w = w' := by
  have hra := Pl.rowN_lt t a ha
  have cR := Row_any mb t a w hm ha hl
  have cE := End_any mb t (Pl.rowN t a) w hm hra hl
  obtain ⟨rb, rc, gb, gc, h1, h2, h3, h4⟩ := hm
  have hc := h4.at _ hra
  rw [Pl.begins_row t a ha] at hc cE
  rw [Pl.endN_bgn t a ha] at cE
  have hR : restN t a = if a = Pl.endN t a ∧ Pl.bgn t a < a then a - 1 else a := rfl
  obtain ⟨g, hg⟩ : ∃ g, Pl.bgn t a = g := ⟨_, rfl⟩
  obtain ⟨f, hf⟩ : ∃ f, Pl.endN t a = f := ⟨_, rfl⟩
  obtain ⟨j, hj⟩ : ∃ j, Pl.rowN t a = j := ⟨_, rfl⟩
  rw [hg, hj] at hc
  rw [hf, hj] at cE
  rw [hj] at cR hra
  rw [hg, hf] at hR
  clear hg hf hj h3 h4 h1
  by_cases h5 : a = f
  · have h5b : ((a : Int) == (f : Int)) = true := by simp [h5]
    by_cases h6 : g < a
    · have h6b : decide ((g : Int) < (a : Int)) = true := by simp [h6]
      rw [if_pos ⟨h5, h6⟩] at hR
      have HA := Lib.hid hR
      clear h5 hR
      go_enter Tryd.func44, Tryd.ntmps44
      go_wp2_with (first | (go_at_call 53; refine cR.mono ?_; rintro e w' ⟨rfl, rfl⟩) | (go_at_call 60; refine cE.mono ?_; rintro e w' ⟨rfl, rfl⟩))
      go_ret
      exact ⟨ret_int (by rw [HA.out]; omega), rfl⟩
    · have h6b : decide ((g : Int) < (a : Int)) = false := by simp; omega
      rw [if_neg (fun e => h6 e.2)] at hR
      have HA := Lib.hid hR
      clear h5 hR
      go_enter Tryd.func44, Tryd.ntmps44
      go_wp2_with (first | (go_at_call 53; refine cR.mono ?_; rintro e w' ⟨rfl, rfl⟩) | (go_at_call 60; refine cE.mono ?_; rintro e w' ⟨rfl, rfl⟩))
      go_ret
      exact ⟨ret_int (by rw [HA.out]), rfl⟩
  · have h5b : ((a : Int) == (f : Int)) = false := by simp; omega
    rw [if_neg (fun e => h5 e.1)] at hR
    have HA := Lib.hid hR
    clear hR
    go_enter Tryd.func44, Tryd.ntmps44
    go_wp2_with (first | (go_at_call 53; refine cR.mono ?_; rintro e w' ⟨rfl, rfl⟩) | (go_at_call 60; refine cE.mono ?_; rintro e w' ⟨rfl, rfl⟩))
    go_ret
    exact ⟨ret_int (by rw [HA.out]), rfl⟩

end Go.Proofs.YtnmpkjlbphjddaaDoor
