/-
  The walk over the parser whole: which command keys are.
-/
import Derived.Test.YtogmhnpakjdpmaaWhole
namespace Go.Proofs.Ytogmhnpakjdpmaa
open Go.RowKit

/-- The keys, wherever they lie. -/
def Ns (w : World) (a : Option Addr) (l : List Int) : Prop := ∀ i, i < l.length → ∃ b off, a = some ⟨b, off, none⟩ ∧ w.cell? ⟨b, off + i, none⟩ = some (.int .i64 (rd l i))
theorem Ns.below {w w' : World} {a : Option Addr} {l : List Int} (h : Ns w a l) (hb : Below w.heap.size w w') : Ns w' a l := fun i hi => by
  obtain ⟨b, off, e, hc⟩ := h i hi
  exact ⟨b, off, e, by rw [← hc]; exact hb.cell (World.block_lt_of_cell? _ _ hc)⟩
theorem Ns.ks {w w' : World} {a : Option Addr} {l : List Int} (h : Ns w a l) (hb : Below w.heap.size w w') {pb : Nat} (hpb : w.heap.size ≤ pb) : Ks w' pb a l := fun i hi => by
  obtain ⟨b, off, e, hc⟩ := h i hi
  have hlt := World.block_lt_of_cell? _ _ hc
  exact ⟨b, off, e, Nat.lt_of_lt_of_le hlt hpb, by rw [← hc]; exact hb.cell hlt⟩

/-- A command's cells. -/
def cmv (m : Cm) : Array Value := #[.int .i64 m.reg, .int .i64 m.cnt, .int .i64 m.oper, .int .i64 m.key, .int .i64 m.wide, .int .i64 m.rune]
def zc : Array Value := #[.int .i64 0, .int .i64 0, .int .i64 0, .int .i64 0, .int .i64 0, .int .i64 0]

def OfPost (w : World) (r : Cm × Bool × Int) (e : Ending) (w' : World) : Prop := e = .returned (.tuple #[.agg (cmv r.1), .bool r.2.1, .int .i64 r.2.2]) ∧ Below w.heap.size w w'

theorem start_at {w : World} {a : Option Addr} {l : List Int} (c : Nat) (most : Int) (h : Ns w a l) :
    At ((w.alloc (.cells zc 28)).alloc (.cells (pcs (.slice a l.length c) most st0) 37)) ((w.alloc (.cells zc 28)).alloc (.cells (pcs (.slice a l.length c) most st0) 37)) (w.heap.size + 1) a l c most st0 := by
  have hs : (w.alloc (.cells zc 28)).heap.size = w.heap.size + 1 := Array.size_push _
  have hb : Below w.heap.size w ((w.alloc (.cells zc 28)).alloc (.cells (pcs (.slice a l.length c) most st0) 37)) := ((Below.refl _ _).alloc (Nat.le_refl _) _).alloc (by omega) _
  refine ⟨?_, h.ks hb (by omega), Nat.zero_le _, Below.refl _ _⟩
  show ((w.alloc (.cells zc 28)).heap.push _)[w.heap.size + 1]? = _
  rw [Array.getElem?_push, if_pos hs.symm]
theorem start_zero {w : World} {a : Option Addr} {l : List Int} {c : Nat} {most : Int} {s : St} {wc : World}
    (h : At ((w.alloc (.cells zc 28)).alloc (.cells (pcs (.slice a l.length c) most st0) 37)) wc (w.heap.size + 1) a l c most s) : wc.heap[w.heap.size]? = some (.cells zc 28 (0, 0)) ∧ Below w.heap.size w wc := by
  have hs : (w.alloc (.cells zc 28)).heap.size = w.heap.size + 1 := Array.size_push _
  have hb : Below w.heap.size w ((w.alloc (.cells zc 28)).alloc (.cells (pcs (.slice a l.length c) most st0) 37)) := ((Below.refl _ _).alloc (Nat.le_refl _) _).alloc (by omega) _
  refine ⟨?_, hb.trans (h.b.mono (by omega))⟩
  rw [h.b.block _ (by omega), Below.heap_alloc _ _ _ (by omega)]
  show (w.heap.push _)[w.heap.size]? = _
  rw [Array.getElem?_push, if_pos rfl]

theorem six_set {w : World} {B : Nat} (h : w.heap[B]? = some (.cells zc 28 (0, 0))) (v0 v1 v2 v3 v4 v5 : Value) :
    ((((((w.setCell ⟨B, 0, none⟩ v0).setCell ⟨B, 1, none⟩ v1).setCell ⟨B, 2, none⟩ v2).setCell ⟨B, 3, none⟩ v3).setCell ⟨B, 4, none⟩ v4).setCell ⟨B, 5, none⟩ v5).heap[B]? = some (.cells #[v0, v1, v2, v3, v4, v5] 28 (0, 0)) :=
  blk_set (blk_set (blk_set (blk_set (blk_set (blk_set h 0 v0) 1 v1) 2 v2) 3 v3) 4 v4) 5 v5
theorem six_below {w0 w : World} {B : Nat} (h : Below B w0 w) (v0 v1 v2 v3 v4 v5 : Value) :
    Below B w0 ((((((w.setCell ⟨B, 0, none⟩ v0).setCell ⟨B, 1, none⟩ v1).setCell ⟨B, 2, none⟩ v2).setCell ⟨B, 3, none⟩ v3).setCell ⟨B, 4, none⟩ v4).setCell ⟨B, 5, none⟩ v5) :=
  (((((h.trans below_set).trans below_set).trans below_set).trans below_set).trans below_set).trans below_set

set_option maxHeartbeats 4000000 in
theorem of_any (a : Option Addr) (l : List Int) (c : Nat) (most : Int) (rec : Bool) (w : World) (h : Ns w a l) (hmost : 1 ≤ most ∧ most ≤ 999) (hl : l.length ≤ 1000000000000000) :
    Calls Try.prog 6 #[.slice a l.length c, .int .i64 1, .int .i64 most, .bool rec] w (OfPost w (ofR l most rec)) := by
  have hA := start_at c most h
  have cC := command_at rec hmost hl hA
  obtain ⟨s, hs⟩ : ∃ s, (commandP most rec l st0).2 = s := ⟨_, rfl⟩
  have hr : ofR l most rec = ofS l.length s := by unfold ofR; rw [hs]
  rw [hs] at cC
  rw [hr]
  clear hs hr h hA
  have t1 : decide (most < 1) = false := by simp; omega
  have t2 : decide (999 < most) = false := by simp; omega
  clear hmost
  by_cases he : s.e ≠ 0
  · have hO : ofS l.length s = (cm0, false, s.e) := by unfold ofS; rw [if_pos he]
    rw [hO]
    have heb : (s.e != 0) = true := by simpa using he
    clear hO he
    go_enter Try.func6, Try.ntmps6
    go_upto_region 6 with (go_at_call 10; refine cC.mono ?_; rintro e wc ⟨⟨v, rfl⟩, hA1⟩; have hz := start_zero hA1; have hx9 := hA1.p.c9)
    have z0 := blk_cell hz.1 0 (v := .int .i64 0) rfl
    have z1 := blk_cell hz.1 1 (v := .int .i64 0) rfl
    have z2 := blk_cell hz.1 2 (v := .int .i64 0) rfl
    have z3 := blk_cell hz.1 3 (v := .int .i64 0) rfl
    have z4 := blk_cell hz.1 4 (v := .int .i64 0) rfl
    have z5 := blk_cell hz.1 5 (v := .int .i64 0) rfl
    have f0 := blk_free hz.1 0
    have f1 := blk_free hz.1 1
    have f2 := blk_free hz.1 2
    have f3 := blk_free hz.1 3
    have f4 := blk_free hz.1 4
    have f5 := blk_free hz.1 5
    have HZ := Lib.hid hz
    clear hz
    go_region
    go_wp2
    have hfin := six_set HZ.out.1 (.int .i64 0) (.int .i64 0) (.int .i64 0) (.int .i64 0) (.int .i64 0) (.int .i64 0)
    have e0 := blk_cell hfin 0 (v := .int .i64 0) rfl
    have e1 := blk_cell hfin 1 (v := .int .i64 0) rfl
    have e2 := blk_cell hfin 2 (v := .int .i64 0) rfl
    have e3 := blk_cell hfin 3 (v := .int .i64 0) rfl
    have e4 := blk_cell hfin 4 (v := .int .i64 0) rfl
    have e5 := blk_cell hfin 5 (v := .int .i64 0) rfl
    refine bodyPost_ret (v := .tuple #[.agg #[.int .i64 0, .int .i64 0, .int .i64 0, .int .i64 0, .int .i64 0, .int .i64 0], .bool false, .int .i64 s.e]) (by simp [results, Try.results6, go_sem, e0, e1, e2, e3, e4, e5]) rfl ⟨rfl, (six_below HZ.out.2 _ _ _ _ _ _).drew⟩
  · have heb : (s.e != 0) = false := by simpa using he
    rcases Bool.eq_false_or_eq_true s.more with hm | hm
    · have hO : ofS l.length s = (cm0, true, 0) := by unfold ofS; rw [if_neg he, if_pos hm]
      rw [hO]
      have HM := Lib.hid hm
      clear hO he hm
      go_enter Try.func6, Try.ntmps6
      go_upto_region 8 with (go_at_call 10; refine cC.mono ?_; rintro e wc ⟨⟨v, rfl⟩, hA1⟩; have hz := start_zero hA1; have hx9 := hA1.p.c9; have hx10 := hA1.p.c10; rw [HM.out] at hx10)
      have z0 := blk_cell hz.1 0 (v := .int .i64 0) rfl
      have z1 := blk_cell hz.1 1 (v := .int .i64 0) rfl
      have z2 := blk_cell hz.1 2 (v := .int .i64 0) rfl
      have z3 := blk_cell hz.1 3 (v := .int .i64 0) rfl
      have z4 := blk_cell hz.1 4 (v := .int .i64 0) rfl
      have z5 := blk_cell hz.1 5 (v := .int .i64 0) rfl
      have f0 := blk_free hz.1 0
      have f1 := blk_free hz.1 1
      have f2 := blk_free hz.1 2
      have f3 := blk_free hz.1 3
      have f4 := blk_free hz.1 4
      have f5 := blk_free hz.1 5
      have HZ := Lib.hid hz
      clear hz
      go_wp2
      have hfin := six_set HZ.out.1 (.int .i64 0) (.int .i64 0) (.int .i64 0) (.int .i64 0) (.int .i64 0) (.int .i64 0)
      have e0 := blk_cell hfin 0 (v := .int .i64 0) rfl
      have e1 := blk_cell hfin 1 (v := .int .i64 0) rfl
      have e2 := blk_cell hfin 2 (v := .int .i64 0) rfl
      have e3 := blk_cell hfin 3 (v := .int .i64 0) rfl
      have e4 := blk_cell hfin 4 (v := .int .i64 0) rfl
      have e5 := blk_cell hfin 5 (v := .int .i64 0) rfl
      refine bodyPost_ret (v := .tuple #[.agg #[.int .i64 0, .int .i64 0, .int .i64 0, .int .i64 0, .int .i64 0, .int .i64 0], .bool true, .int .i64 0]) (by simp [results, Try.results6, go_sem, e0, e1, e2, e3, e4, e5]) rfl ⟨rfl, six_below HZ.out.2 _ _ _ _ _ _⟩
    · have HM := Lib.hid hm
      by_cases hp : s.pos < l.length
      · have hO : ofS l.length s = (cm0, false, 5) := by unfold ofS; rw [if_neg he, if_neg (by simp [hm]), if_pos hp]
        rw [hO]
        have hpb : decide ((s.pos : Int) < (l.length : Int)) = true := by simp; omega
        have hpb2 : decide (s.pos < l.length) = true := by simp; omega
        clear hO he hm hp
        go_enter Try.func6, Try.ntmps6
        go_upto_region 10 with (go_at_call 10; refine cC.mono ?_; rintro e wc ⟨⟨v, rfl⟩, hA1⟩; have hz := start_zero hA1; have hx9 := hA1.p.c9; have hx10 := hA1.p.c10; rw [HM.out] at hx10; have hx1 := hA1.p.c1)
        have z0 := blk_cell hz.1 0 (v := .int .i64 0) rfl
        have z1 := blk_cell hz.1 1 (v := .int .i64 0) rfl
        have z2 := blk_cell hz.1 2 (v := .int .i64 0) rfl
        have z3 := blk_cell hz.1 3 (v := .int .i64 0) rfl
        have z4 := blk_cell hz.1 4 (v := .int .i64 0) rfl
        have z5 := blk_cell hz.1 5 (v := .int .i64 0) rfl
        have f0 := blk_free hz.1 0
        have f1 := blk_free hz.1 1
        have f2 := blk_free hz.1 2
        have f3 := blk_free hz.1 3
        have f4 := blk_free hz.1 4
        have f5 := blk_free hz.1 5
        have HZ := Lib.hid hz
        clear hz
        go_wp2
        have hfin := six_set HZ.out.1 (.int .i64 0) (.int .i64 0) (.int .i64 0) (.int .i64 0) (.int .i64 0) (.int .i64 0)
        have e0 := blk_cell hfin 0 (v := .int .i64 0) rfl
        have e1 := blk_cell hfin 1 (v := .int .i64 0) rfl
        have e2 := blk_cell hfin 2 (v := .int .i64 0) rfl
        have e3 := blk_cell hfin 3 (v := .int .i64 0) rfl
        have e4 := blk_cell hfin 4 (v := .int .i64 0) rfl
        have e5 := blk_cell hfin 5 (v := .int .i64 0) rfl
        refine bodyPost_ret (v := .tuple #[.agg #[.int .i64 0, .int .i64 0, .int .i64 0, .int .i64 0, .int .i64 0, .int .i64 0], .bool false, .int .i64 5]) (by simp [results, Try.results6, go_sem, e0, e1, e2, e3, e4, e5]) rfl ⟨rfl, six_below HZ.out.2 _ _ _ _ _ _⟩
      · have hpb : decide ((s.pos : Int) < (l.length : Int)) = false := by simp; omega
        have hpb2 : decide (s.pos < l.length) = false := by simp; omega
        rcases Bool.eq_false_or_eq_true s.esc with hc | hc
        · have hO : ofS l.length s = (⟨0, 0, 0, 27, 0, 0⟩, false, 0) := by unfold ofS; rw [if_neg he, if_neg (by simp [hm]), if_neg hp, if_pos hc]
          rw [hO]
          have HE := Lib.hid hc
          clear hO he hm hp hc
          go_enter Try.func6, Try.ntmps6
          go_upto_region 12 with (go_at_call 10; refine cC.mono ?_; rintro e wc ⟨⟨v, rfl⟩, hA1⟩; have hz := start_zero hA1; have hx9 := hA1.p.c9; have hx10 := hA1.p.c10; rw [HM.out] at hx10; have hx1 := hA1.p.c1; have hx11 := hA1.p.c11; rw [HE.out] at hx11)
          have z0 := blk_cell hz.1 0 (v := .int .i64 0) rfl
          have z1 := blk_cell hz.1 1 (v := .int .i64 0) rfl
          have z2 := blk_cell hz.1 2 (v := .int .i64 0) rfl
          have z3 := blk_cell hz.1 3 (v := .int .i64 0) rfl
          have z4 := blk_cell hz.1 4 (v := .int .i64 0) rfl
          have z5 := blk_cell hz.1 5 (v := .int .i64 0) rfl
          have f0 := blk_free hz.1 0
          have f1 := blk_free hz.1 1
          have f2 := blk_free hz.1 2
          have f3 := blk_free hz.1 3
          have f4 := blk_free hz.1 4
          have f5 := blk_free hz.1 5
          have HZ := Lib.hid hz
          clear hz
          go_wp2
          have hfin := six_set HZ.out.1 (.int .i64 0) (.int .i64 0) (.int .i64 0) (.int .i64 27) (.int .i64 0) (.int .i64 0)
          have e0 := blk_cell hfin 0 (v := .int .i64 0) rfl
          have e1 := blk_cell hfin 1 (v := .int .i64 0) rfl
          have e2 := blk_cell hfin 2 (v := .int .i64 0) rfl
          have e3 := blk_cell hfin 3 (v := .int .i64 27) rfl
          have e4 := blk_cell hfin 4 (v := .int .i64 0) rfl
          have e5 := blk_cell hfin 5 (v := .int .i64 0) rfl
          refine bodyPost_ret (v := .tuple #[.agg #[.int .i64 0, .int .i64 0, .int .i64 0, .int .i64 27, .int .i64 0, .int .i64 0], .bool false, .int .i64 0]) (by simp [results, Try.results6, go_sem, e0, e1, e2, e3, e4, e5]) rfl ⟨rfl, six_below HZ.out.2 _ _ _ _ _ _⟩
        · have hO : ofS l.length s = (⟨s.reg, s.cnt, s.oper, s.key, s.wide, s.rune⟩, false, 0) := by unfold ofS; rw [if_neg he, if_neg (by simp [hm]), if_neg hp, if_neg (by simp [hc])]
          rw [hO]
          have HE := Lib.hid hc
          clear hO he hm hp hc
          go_enter Try.func6, Try.ntmps6
          go_upto_region 13 with (go_at_call 10; refine cC.mono ?_; rintro e wc ⟨⟨v, rfl⟩, hA1⟩; have hz := start_zero hA1; have hx9 := hA1.p.c9; have hx10 := hA1.p.c10; rw [HM.out] at hx10; have hx1 := hA1.p.c1; have hx11 := hA1.p.c11; rw [HE.out] at hx11)
          have z0 := blk_cell hz.1 0 (v := .int .i64 0) rfl
          have z1 := blk_cell hz.1 1 (v := .int .i64 0) rfl
          have z2 := blk_cell hz.1 2 (v := .int .i64 0) rfl
          have z3 := blk_cell hz.1 3 (v := .int .i64 0) rfl
          have z4 := blk_cell hz.1 4 (v := .int .i64 0) rfl
          have z5 := blk_cell hz.1 5 (v := .int .i64 0) rfl
          have f0 := blk_free hz.1 0
          have f1 := blk_free hz.1 1
          have f2 := blk_free hz.1 2
          have f3 := blk_free hz.1 3
          have f4 := blk_free hz.1 4
          have f5 := blk_free hz.1 5
          have p3 := hA1.p.c3
          have p4 := hA1.p.c4
          have p5 := hA1.p.c5
          have p6 := hA1.p.c6
          have p7 := hA1.p.c7
          have p8 := hA1.p.c8
          have HZ := Lib.hid hz
          clear hz
          go_wp2
          have hfin := six_set HZ.out.1 (.int .i64 s.reg) (.int .i64 s.cnt) (.int .i64 s.oper) (.int .i64 s.key) (.int .i64 s.wide) (.int .i64 s.rune)
          have e0 := blk_cell hfin 0 (v := .int .i64 s.reg) rfl
          have e1 := blk_cell hfin 1 (v := .int .i64 s.cnt) rfl
          have e2 := blk_cell hfin 2 (v := .int .i64 s.oper) rfl
          have e3 := blk_cell hfin 3 (v := .int .i64 s.key) rfl
          have e4 := blk_cell hfin 4 (v := .int .i64 s.wide) rfl
          have e5 := blk_cell hfin 5 (v := .int .i64 s.rune) rfl
          refine bodyPost_ret (v := .tuple #[.agg #[.int .i64 s.reg, .int .i64 s.cnt, .int .i64 s.oper, .int .i64 s.key, .int .i64 s.wide, .int .i64 s.rune], .bool false, .int .i64 0]) (by simp [results, Try.results6, go_sem, e0, e1, e2, e3, e4, e5]) rfl ⟨rfl, six_below HZ.out.2 _ _ _ _ _ _⟩

end Go.Proofs.Ytogmhnpakjdpmaa
