/-
  The parser's block of memory; the walks over its least steps: is it over, it fails, it reads a key.
-/
import Derived.Test.YtogmhnpakjdpmaaParse
import Derived.OneCell
import Derived.BigQuiet
import Derived.Deep.QuietTactic
namespace Go.Proofs.Ytogmhnpakjdpmaa
open Go.RowKit

def pcs (lv : Value) (most : Int) (s : St) : Array Value :=
  #[lv, .int .i64 s.pos, .int .i64 most, .int .i64 s.reg, .int .i64 s.cnt, .int .i64 s.oper, .int .i64 s.key, .int .i64 s.wide, .int .i64 s.rune, .int .i64 s.e, .bool s.more, .bool s.esc]
/-- The parser's block. -/
def PAt (w : World) (pb : Nat) (lv : Value) (most : Int) (s : St) : Prop := w.heap[pb]? = some (.cells (pcs lv most s) 37 (0, 0))

theorem blk_cell {w : World} {b : Nat} {cs : Array Value} {T : TypeId} (h : w.heap[b]? = some (.cells cs T (0, 0))) (i : Nat) {v : Value} (hv : cs[i]? = some v) : w.cell? ⟨b, i, none⟩ = some v := by
  simp [World.cell?, h, hv]
theorem blk_free {w : World} {b : Nat} {cs : Array Value} {T : TypeId} (h : w.heap[b]? = some (.cells cs T (0, 0))) (i : Nat) : w.frozen? ⟨b, i, none⟩ = false := by simp [World.frozen?, h]
theorem blk_set {w : World} {b : Nat} {cs : Array Value} {T : TypeId} (h : w.heap[b]? = some (.cells cs T (0, 0))) (i : Nat) (v : Value) : (w.setCell ⟨b, i, none⟩ v).heap[b]? = some (.cells (cs.setIfInBounds i v) T (0, 0)) := by
  have hlt := lt_of_block h
  have h' : w.heap[b] = .cells cs T (0, 0) := by simpa [Array.getElem?_eq_getElem hlt] using h
  show (w.heap.modify b _)[b]? = _
  rw [Array.getElem?_eq_getElem (by simpa using hlt), Array.getElem_modify_self, h']
  rfl

theorem PAt.lt {w : World} {pb : Nat} {lv : Value} {most : Int} {s : St} (h : PAt w pb lv most s) : pb < w.heap.size := lt_of_block h
theorem PAt.below {w w' : World} {pb : Nat} {lv : Value} {most : Int} {s : St} (h : PAt w pb lv most s) (hb : Below w.heap.size w w') : PAt w' pb lv most s := by
  unfold PAt; rw [hb.block _ h.lt]; exact h
theorem PAt.c0 {w : World} {pb : Nat} {lv : Value} {most : Int} {s : St} (h : PAt w pb lv most s) : w.cell? ⟨pb, 0, none⟩ = some lv := blk_cell h 0 rfl
theorem PAt.c1 {w : World} {pb : Nat} {lv : Value} {most : Int} {s : St} (h : PAt w pb lv most s) : w.cell? ⟨pb, 1, none⟩ = some (.int .i64 s.pos) := blk_cell h 1 rfl
theorem PAt.c2 {w : World} {pb : Nat} {lv : Value} {most : Int} {s : St} (h : PAt w pb lv most s) : w.cell? ⟨pb, 2, none⟩ = some (.int .i64 most) := blk_cell h 2 rfl
theorem PAt.c3 {w : World} {pb : Nat} {lv : Value} {most : Int} {s : St} (h : PAt w pb lv most s) : w.cell? ⟨pb, 3, none⟩ = some (.int .i64 s.reg) := blk_cell h 3 rfl
theorem PAt.c4 {w : World} {pb : Nat} {lv : Value} {most : Int} {s : St} (h : PAt w pb lv most s) : w.cell? ⟨pb, 4, none⟩ = some (.int .i64 s.cnt) := blk_cell h 4 rfl
theorem PAt.c5 {w : World} {pb : Nat} {lv : Value} {most : Int} {s : St} (h : PAt w pb lv most s) : w.cell? ⟨pb, 5, none⟩ = some (.int .i64 s.oper) := blk_cell h 5 rfl
theorem PAt.c6 {w : World} {pb : Nat} {lv : Value} {most : Int} {s : St} (h : PAt w pb lv most s) : w.cell? ⟨pb, 6, none⟩ = some (.int .i64 s.key) := blk_cell h 6 rfl
theorem PAt.c7 {w : World} {pb : Nat} {lv : Value} {most : Int} {s : St} (h : PAt w pb lv most s) : w.cell? ⟨pb, 7, none⟩ = some (.int .i64 s.wide) := blk_cell h 7 rfl
theorem PAt.c8 {w : World} {pb : Nat} {lv : Value} {most : Int} {s : St} (h : PAt w pb lv most s) : w.cell? ⟨pb, 8, none⟩ = some (.int .i64 s.rune) := blk_cell h 8 rfl
theorem PAt.c9 {w : World} {pb : Nat} {lv : Value} {most : Int} {s : St} (h : PAt w pb lv most s) : w.cell? ⟨pb, 9, none⟩ = some (.int .i64 s.e) := blk_cell h 9 rfl
theorem PAt.c10 {w : World} {pb : Nat} {lv : Value} {most : Int} {s : St} (h : PAt w pb lv most s) : w.cell? ⟨pb, 10, none⟩ = some (.bool s.more) := blk_cell h 10 rfl
theorem PAt.c11 {w : World} {pb : Nat} {lv : Value} {most : Int} {s : St} (h : PAt w pb lv most s) : w.cell? ⟨pb, 11, none⟩ = some (.bool s.esc) := blk_cell h 11 rfl
theorem PAt.free {w : World} {pb : Nat} {lv : Value} {most : Int} {s : St} (h : PAt w pb lv most s) (i : Nat) : w.frozen? ⟨pb, i, none⟩ = false := blk_free h i
theorem PAt.s1 {w : World} {pb : Nat} {lv : Value} {most : Int} {s : St} (h : PAt w pb lv most s) (n : Nat) : PAt (w.setCell ⟨pb, 1, none⟩ (.int .i64 n)) pb lv most { s with pos := n } := blk_set h 1 _
theorem PAt.s3 {w : World} {pb : Nat} {lv : Value} {most : Int} {s : St} (h : PAt w pb lv most s) (n : Int) : PAt (w.setCell ⟨pb, 3, none⟩ (.int .i64 n)) pb lv most { s with reg := n } := blk_set h 3 _
theorem PAt.s4 {w : World} {pb : Nat} {lv : Value} {most : Int} {s : St} (h : PAt w pb lv most s) (n : Int) : PAt (w.setCell ⟨pb, 4, none⟩ (.int .i64 n)) pb lv most { s with cnt := n } := blk_set h 4 _
theorem PAt.s5 {w : World} {pb : Nat} {lv : Value} {most : Int} {s : St} (h : PAt w pb lv most s) (n : Int) : PAt (w.setCell ⟨pb, 5, none⟩ (.int .i64 n)) pb lv most { s with oper := n } := blk_set h 5 _
theorem PAt.s6 {w : World} {pb : Nat} {lv : Value} {most : Int} {s : St} (h : PAt w pb lv most s) (n : Int) : PAt (w.setCell ⟨pb, 6, none⟩ (.int .i64 n)) pb lv most { s with key := n } := blk_set h 6 _
theorem PAt.s7 {w : World} {pb : Nat} {lv : Value} {most : Int} {s : St} (h : PAt w pb lv most s) (n : Int) : PAt (w.setCell ⟨pb, 7, none⟩ (.int .i64 n)) pb lv most { s with wide := n } := blk_set h 7 _
theorem PAt.s8 {w : World} {pb : Nat} {lv : Value} {most : Int} {s : St} (h : PAt w pb lv most s) (n : Int) : PAt (w.setCell ⟨pb, 8, none⟩ (.int .i64 n)) pb lv most { s with rune := n } := blk_set h 8 _
theorem PAt.s9 {w : World} {pb : Nat} {lv : Value} {most : Int} {s : St} (h : PAt w pb lv most s) (n : Int) : PAt (w.setCell ⟨pb, 9, none⟩ (.int .i64 n)) pb lv most { s with e := n } := blk_set h 9 _
theorem PAt.s10 {w : World} {pb : Nat} {lv : Value} {most : Int} {s : St} (h : PAt w pb lv most s) (n : Bool) : PAt (w.setCell ⟨pb, 10, none⟩ (.bool n)) pb lv most { s with more := n } := blk_set h 10 _
theorem PAt.s11 {w : World} {pb : Nat} {lv : Value} {most : Int} {s : St} (h : PAt w pb lv most s) (n : Bool) : PAt (w.setCell ⟨pb, 11, none⟩ (.bool n)) pb lv most { s with esc := n } := blk_set h 11 _
theorem below_set {w : World} {pb i : Nat} {v : Value} : Below pb w (w.setCell ⟨pb, i, none⟩ v) := (Below.refl pb w).setCell (Nat.le_refl _) _
theorem PAt.drew {w : World} {pb : Nat} {lv : Value} {most : Int} {s : St} (h : PAt w pb lv most s) : PAt w.drew pb lv most s := h

theorem over_any (pb : Nat) (lv : Value) (most : Int) (s : St) (w : World) (h : PAt w pb lv most s) :
    Calls Try.prog 15 #[.pointer (some ⟨pb, 0, none⟩)] w fun e w' => e = .returned (.bool (ov s)) ∧ w = w' := by
  have h9 := h.c9
  have h10 := h.c10
  have h11 := h.c11
  have HO := Lib.hid (show ov s = (s.e != 0 || (s.more || s.esc)) from rfl)
  clear h
  obtain ⟨E, hE⟩ : ∃ E, s.e = E := ⟨_, rfl⟩
  obtain ⟨M, hM⟩ : ∃ M, s.more = M := ⟨_, rfl⟩
  obtain ⟨C, hC⟩ : ∃ C, s.esc = C := ⟨_, rfl⟩
  rw [hE] at h9 HO
  rw [hM] at h10 HO
  rw [hC] at h11 HO
  obtain ⟨B, hB⟩ : ∃ B, (E != 0) = B := ⟨_, rfl⟩
  rw [hB] at HO
  clear hE hM hC
  cases B <;> cases M <;> cases C <;>
  · go_enter Try.func15, Try.ntmps15
    go_wp2
    go_ret
    exact ⟨ret_bool (by rw [HO.out]; rfl), rfl⟩

/-- What a step of the parser leaves. -/
def Step (w : World) (pb : Nat) (lv : Value) (most : Int) (s' : St) (w' : World) : Prop := PAt w' pb lv most s' ∧ Below pb w w'
theorem Step.trans {w w1 w2 : World} {pb : Nat} {lv : Value} {most : Int} {s1 s2 : St} (h : Step w pb lv most s1 w1) (k : Step w1 pb lv most s2 w2) : Step w pb lv most s2 w2 := ⟨k.1, h.2.trans k.2⟩

theorem fail_any (pb : Nat) (lv : Value) (most : Int) (s : St) (l : List Int) (err : Int) (w : World) (h : PAt w pb lv most s) :
    Calls Try.prog 13 #[.pointer (some ⟨pb, 0, none⟩), .int .i64 err] w fun e w' => (∃ v, e = .returned v) ∧ Step w pb lv most (failP err l s).2 w' := by
  have cO := over_any pb lv most s w h
  have hf := h.free 9
  have h9 := h.c9
  have hr : (failP err l s).2 = if ov s then s else { s with e := err } := rfl
  have HP := Lib.hid h
  obtain ⟨O, hO⟩ : ∃ O, ov s = O := ⟨_, rfl⟩
  rw [hO] at cO hr
  have HR := Lib.hid hr
  clear h hr hO
  cases O with
  | true =>
    go_enter Try.func13, Try.ntmps13
    go_wp2_with (go_at_call 15; refine cO.mono ?_; rintro e w1 ⟨rfl, rfl⟩)
    first | go_end0 | (simp only [Exit.inBlock, Exit.then]; refine bodyPost_ret (results_none rfl _ _ _) rfl ?_) | refine bodyPost_ret (results_none rfl _ _ _) rfl ?_
    exact ⟨⟨_, rfl⟩, by rw [HR.out]; exact HP.out, Below.refl _ _⟩
  | false =>
    go_enter Try.func13, Try.ntmps13
    go_wp2_with (go_at_call 15; refine cO.mono ?_; rintro e w1 ⟨rfl, rfl⟩)
    first | go_end0 | (simp only [Exit.inBlock, Exit.then]; refine bodyPost_ret (results_none rfl _ _ _) rfl ?_) | refine bodyPost_ret (results_none rfl _ _ _) rfl ?_
    exact ⟨⟨_, rfl⟩, by rw [HR.out]; exact HP.out.s9 err, below_set⟩

end Go.Proofs.Ytogmhnpakjdpmaa
