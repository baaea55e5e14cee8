/-
  The walks over the program's motions to a row, and within one.
-/
import Derived.Test.YtnmpkjlbphjddaaDoorMover
namespace Go.Proofs.YtnmpkjlbphjddaaDoor
open Go.RowKit

theorem VAt.drew {w : World} {vb mb : Nat} {a r c n : Int} {told : Bool} (h : VAt w vb mb a r c n told) : VAt w.drew vb mb a r c n told := h

/-- The row that G and gg lead to. -/
def toRow (t : List Int) (n row : Nat) (told : Bool) : Nat := if told then min n (Pl.rows t) - 1 else row

set_option maxHeartbeats 1000000 in
theorem to_any (vb mb : Nat) (t : List Int) (a r c : Int) (n row : Nat) (told : Bool) (w : World) (hm : MapAt w mb t) (hv : VAt w vb mb a r c n told) (hl : t.length ≤ 1000000) (hn : 1 ≤ n ∧ n ≤ 1000000) (hrow : row < Pl.rows t)
    (hb32 : ∀ i, -2147483648 ≤ Pl.rd t i ∧ Pl.rd t i ≤ 2147483647) :
    Calls Tryd.prog 55 #[.pointer (some ⟨vb, 0, none⟩), .int .i64 row] w (MovePost w (((Pl.firN t (Pl.nd (Pl.begins t) (toRow t n row told)) : Nat) : Int), 2, 0)) := by
  have hrl := rows_le t
  have hrp : 0 < Pl.rows t := by rw [Pl.rows_eq]; omega
  have hb0 : Below w.heap.size w (w.alloc (.cells #[.int .i64 0, .int .i64 0] 44)) := (Below.refl _ _).alloc (Nat.le_refl _) _
  have cR := fun W (h : MapAt W mb t) => Rows_any mb t W h
  have hm0 := hm.below hb0
  have hmd := hm0.drew
  obtain ⟨h0, h1, h2, h3, h4, h5⟩ := (hv.below hb0).cells
  obtain ⟨hn1, hn2⟩ := hn
  cases told with
  | false =>
    have cF := First_any mb t row _ hm0 hrow hl hb32
    have ht : toRow t n row false = row := rfl
    rw [ht]
    clear h1 h2 h3 h4 hm hmd hv hb32 ht
    go_enter Tryd.func55, Tryd.ntmps55
    go_wp2_with (first | (go_at_call 58; refine cF.mono ?_; rintro e w' ⟨rfl, rfl⟩))
    refine bodyPost_ret (v := .tuple #[.agg #[.int .i64 (Pl.firN t (Pl.nd (Pl.begins t) row) : Nat), .int .i64 2], .int .i64 0]) (by simp [results, Tryd.results55, go_sem]) rfl ⟨rfl, ?_⟩
    exact (Below.refl _ _).alloc (Nat.le_refl _) _
  | true =>
    have ht : toRow t n row true = min n (Pl.rows t) - 1 := rfl
    obtain ⟨q, hq⟩ : ∃ q, toRow t n row true = q := ⟨_, rfl⟩
    rw [hq] at ht ⊢
    have cF := First_any mb t q _ hmd (by omega) hl hb32
    have hw : IntKind.i64.wrap (min (n : Int) (Pl.rows t : Int) - 1) = (q : Int) := by rw [IntWalk.i64_in _ (by omega)]; omega
    have hw2 : min (n : Int) (Pl.rows t : Int) - 1 = (q : Int) := by omega
    clear h1 h2 h3 hm hv hb32 ht hq
    go_enter Tryd.func55, Tryd.ntmps55
    go_wp2
    go_region_held3 (fun w' => w'.cell? ⟨vb, 4, none⟩ = some (.int .i64 n) ∧ w'.cell? ⟨vb, 0, none⟩ = some (.pointer (some ⟨mb, 0, none⟩)))
      (first | exact ⟨h4, h0⟩ | assumption)
      (first | (go_at_call 56; refine (cR _ hmd).mono ?_; rintro e w' ⟨rfl, rfl⟩))
    go_wp2_with (first | (go_at_call 58; refine cF.mono ?_; rintro e w' ⟨rfl, rfl⟩))
    refine bodyPost_ret (v := .tuple #[.agg #[.int .i64 (Pl.firN t (Pl.nd (Pl.begins t) q) : Nat), .int .i64 2], .int .i64 0]) (by simp [results, Tryd.results55, go_sem]) rfl ⟨rfl, ?_⟩
    exact ((Below.refl _ _).alloc (Nat.le_refl _) _).drew

/-- What a motion within a row leads to. -/
def inR (t : List Int) (a n : Nat) (key : Int) : Int × Int × Int :=
  if key = 104 then (if a = Pl.bgn t a then (0, 0, 6) else (((max (Pl.bgn t a) (a - n) : Nat) : Int), 0, 0))
  else if key = 108 then (if a = Pl.endN t a then (0, 0, 6) else (((min (Pl.endN t a) (a + n) : Nat) : Int), 0, 0))
  else if key = 94 then (((Pl.firN t (Pl.bgn t a) : Nat) : Int), 0, 0)
  else (((Pl.bgn t a : Nat) : Int), 0, 0)

set_option maxHeartbeats 6000000 in
theorem within_row (vb mb : Nat) (t : List Int) (a n : Nat) (c : Int) (told : Bool) (key : Int) (w : World) (hm : MapAt w mb t) (ha : a ≤ t.length) (hv : VAt w vb mb a (Pl.rowN t a) c n told) (hl : t.length ≤ 1000000) (hn : 1 ≤ n ∧ n ≤ 1000000)
    (hk : key = 48 ∨ key = 94 ∨ key = 104 ∨ key = 108) (hb32 : ∀ i, -2147483648 ≤ Pl.rd t i ∧ Pl.rd t i ≤ 2147483647) :
    Calls Tryd.prog 57 #[.pointer (some ⟨vb, 0, none⟩), .int .i64 key] w (MovePost w (inR t a n key)) := by
  have hrl := rows_le t
  have hra := Pl.rowN_lt t a ha
  have hb0 : Below w.heap.size w (w.alloc (.cells #[.int .i64 0, .int .i64 0] 44)) := (Below.refl _ _).alloc (Nat.le_refl _) _
  have hm0 := hm.below hb0
  have hmd := hm0.drew
  have cE := End_any mb t (Pl.rowN t a) _ hmd hra hl
  rw [Pl.begins_row t a ha, Pl.endN_bgn t a ha] at cE
  have cF := First_any mb t (Pl.rowN t a) _ hmd.drew hra hl hb32
  rw [Pl.begins_row t a ha] at cF
  obtain ⟨h0, h1, h2, h3, h4, h5⟩ := (hv.below hb0).cells
  obtain ⟨rb, rc, gb, gc, m0, m1, m2, m3⟩ := hm0
  have hg := m3.at _ hra
  rw [Pl.begins_row t a ha] at hg
  obtain ⟨i, hi⟩ : ∃ i, Pl.rowN t a = i := ⟨_, rfl⟩
  have hbl := Pl.bgn_le t a
  have hel := Pl.endN_ge t a
  have hen := Pl.endN_le t a ha
  obtain ⟨b, hb⟩ : ∃ b, Pl.bgn t a = b := ⟨_, rfl⟩
  obtain ⟨f, hf⟩ : ∃ f, Pl.endN t a = f := ⟨_, rfl⟩
  rw [hi] at hra h2 cE cF hg
  rw [hb] at hg hbl cF
  rw [hf] at cE hel hen
  have hi0 : (0 : Int) ≤ (i : Int) := by omega
  have hi1 : (i : Int) < (Pl.rows t : Int) := by omega
  have HB := Lib.hid hb
  have HF := Lib.hid hf
  obtain ⟨hn1, hn2⟩ := hn
  clear hm hmd hv hb32 hi hb hf h3 h5 m0 m2 m3
  rcases hk with rfl | rfl | rfl | rfl
  · have hR : inR t a n 48 = (((Pl.bgn t a : Nat) : Int), 0, 0) := rfl
    rw [hR, HB.out]
    clear hR
    have hdec : (((b : Nat) : Int) == (a : Int)) = true ∨ (((b : Nat) : Int) == (a : Int)) = false := by cases (((b : Nat) : Int) == (a : Int)) <;> simp
    rcases hdec with hdec | hdec
    all_goals
      go_enter Tryd.func57, Tryd.ntmps57
      go_wp2
      go_region_held3 (fun w' => w' = (w.alloc (.cells #[.int .i64 0, .int .i64 0] 44)).drew)
        (first | rfl | assumption)
        (first | (go_at_call 60; refine cE.mono ?_; rintro e w' ⟨rfl, rfl⟩))
      go_wp2
      refine bodyPost_ret (v := .tuple #[.agg #[.int .i64 b, .int .i64 0], .int .i64 0]) (by simp [results, Tryd.results57, go_sem]) rfl ⟨rfl, ?_⟩
      exact ((Below.refl _ _).alloc (Nat.le_refl _) _).drew
  · have hR : inR t a n 94 = (((Pl.firN t (Pl.bgn t a) : Nat) : Int), 0, 0) := rfl
    rw [hR, HB.out]
    clear hR
    obtain ⟨q, hq⟩ : ∃ q, Pl.firN t b = q := ⟨_, rfl⟩
    rw [hq] at cF ⊢
    have hdec : (((q : Nat) : Int) == (a : Int)) = true ∨ (((q : Nat) : Int) == (a : Int)) = false := by cases (((q : Nat) : Int) == (a : Int)) <;> simp
    clear hq
    rcases hdec with hdec | hdec
    all_goals
      go_enter Tryd.func57, Tryd.ntmps57
      go_wp2
      go_region_held3 (fun w' => w' = (w.alloc (.cells #[.int .i64 0, .int .i64 0] 44)).drew)
        (first | rfl | assumption)
        (first | (go_at_call 60; refine cE.mono ?_; rintro e w' ⟨rfl, rfl⟩))
      go_wp2
      go_region_held3 (fun w' => w' = (w.alloc (.cells #[.int .i64 0, .int .i64 0] 44)).drew.drew)
        (first | rfl | assumption)
        (first | (go_at_call 58; refine cF.mono ?_; rintro e w' ⟨rfl, rfl⟩))
      go_wp2
      refine bodyPost_ret (v := .tuple #[.agg #[.int .i64 q, .int .i64 0], .int .i64 0]) (by simp [results, Tryd.results57, go_sem]) rfl ⟨rfl, ?_⟩
      exact ((Below.refl _ _).alloc (Nat.le_refl _) _).drew.drew
  · have hw : IntKind.i64.wrap ((a : Int) - (n : Int)) = (a : Int) - (n : Int) := IntWalk.i64_in _ (by omega)
    have hR : inR t a n 104 = (if a = Pl.bgn t a then (0, 0, 6) else (((max (Pl.bgn t a) (a - n) : Nat) : Int), 0, 0)) := rfl
    rw [HB.out] at hR
    by_cases hab : a = b
    · rw [if_pos hab] at hR
      rw [hR]
      have hdec : (max (b : Int) ((a : Int) - (n : Int)) == (a : Int)) = true := by simp; omega
      clear hR hab
      go_enter Tryd.func57, Tryd.ntmps57
      go_wp2
      go_region_held3 (fun w' => w' = (w.alloc (.cells #[.int .i64 0, .int .i64 0] 44)).drew)
        (first | rfl | assumption)
        (first | (go_at_call 60; refine cE.mono ?_; rintro e w' ⟨rfl, rfl⟩))
      go_wp2
      go_region_held3 (fun w' => w' = (w.alloc (.cells #[.int .i64 0, .int .i64 0] 44)).drew.drew)
        (first | rfl | assumption)
        (fail)
      go_wp2
      refine bodyPost_ret (v := .tuple #[.agg #[.int .i64 0, .int .i64 0], .int .i64 6]) (by simp [results, Tryd.results57, go_sem]) rfl ⟨rfl, ?_⟩
      exact ((Below.refl _ _).alloc (Nat.le_refl _) _).drew.drew
    · rw [if_neg hab] at hR
      have hval : (((max b (a - n) : Nat)) : Int) = max (b : Int) ((a : Int) - (n : Int)) := by omega
      rw [hval] at hR
      rw [hR]
      have hdec : (max (b : Int) ((a : Int) - (n : Int)) == (a : Int)) = false := by simp; omega
      clear hR hab hval
      go_enter Tryd.func57, Tryd.ntmps57
      go_wp2
      go_region_held3 (fun w' => w' = (w.alloc (.cells #[.int .i64 0, .int .i64 0] 44)).drew)
        (first | rfl | assumption)
        (first | (go_at_call 60; refine cE.mono ?_; rintro e w' ⟨rfl, rfl⟩))
      go_wp2
      go_region_held3 (fun w' => w' = (w.alloc (.cells #[.int .i64 0, .int .i64 0] 44)).drew.drew)
        (first | rfl | assumption)
        (fail)
      go_wp2
      refine bodyPost_ret (v := .tuple #[.agg #[.int .i64 (max (b : Int) ((a : Int) - (n : Int))), .int .i64 0], .int .i64 0]) (by simp [results, Tryd.results57, go_sem]) rfl ⟨rfl, ?_⟩
      exact ((Below.refl _ _).alloc (Nat.le_refl _) _).drew.drew
  · have hw : IntKind.i64.wrap ((a : Int) + (n : Int)) = (a : Int) + (n : Int) := IntWalk.i64_in _ (by omega)
    have hR : inR t a n 108 = (if a = Pl.endN t a then (0, 0, 6) else (((min (Pl.endN t a) (a + n) : Nat) : Int), 0, 0)) := rfl
    rw [HF.out] at hR
    by_cases hab : a = f
    · rw [if_pos hab] at hR
      rw [hR]
      have hdec : (min (f : Int) ((a : Int) + (n : Int)) == (a : Int)) = true := by simp; omega
      clear hR hab
      go_enter Tryd.func57, Tryd.ntmps57
      go_wp2
      go_region_held3 (fun w' => w' = (w.alloc (.cells #[.int .i64 0, .int .i64 0] 44)).drew)
        (first | rfl | assumption)
        (first | (go_at_call 60; refine cE.mono ?_; rintro e w' ⟨rfl, rfl⟩))
      go_wp2
      go_region_held3 (fun w' => w' = (w.alloc (.cells #[.int .i64 0, .int .i64 0] 44)).drew.drew)
        (first | rfl | assumption)
        (fail)
      go_wp2
      refine bodyPost_ret (v := .tuple #[.agg #[.int .i64 0, .int .i64 0], .int .i64 6]) (by simp [results, Tryd.results57, go_sem]) rfl ⟨rfl, ?_⟩
      exact ((Below.refl _ _).alloc (Nat.le_refl _) _).drew.drew
    · rw [if_neg hab] at hR
      have hval : (((min f (a + n) : Nat)) : Int) = min (f : Int) ((a : Int) + (n : Int)) := by omega
      rw [hval] at hR
      rw [hR]
      have hdec : (min (f : Int) ((a : Int) + (n : Int)) == (a : Int)) = false := by simp; omega
      clear hR hab hval
      go_enter Tryd.func57, Tryd.ntmps57
      go_wp2
      go_region_held3 (fun w' => w' = (w.alloc (.cells #[.int .i64 0, .int .i64 0] 44)).drew)
        (first | rfl | assumption)
        (first | (go_at_call 60; refine cE.mono ?_; rintro e w' ⟨rfl, rfl⟩))
      go_wp2
      go_region_held3 (fun w' => w' = (w.alloc (.cells #[.int .i64 0, .int .i64 0] 44)).drew.drew)
        (first | rfl | assumption)
        (fail)
      go_wp2
      refine bodyPost_ret (v := .tuple #[.agg #[.int .i64 (min (f : Int) ((a : Int) + (n : Int))), .int .i64 0], .int .i64 0]) (by simp [results, Tryd.results57, go_sem]) rfl ⟨rfl, ?_⟩
      exact ((Below.refl _ _).alloc (Nat.le_refl _) _).drew.drew

end Go.Proofs.YtnmpkjlbphjddaaDoor
