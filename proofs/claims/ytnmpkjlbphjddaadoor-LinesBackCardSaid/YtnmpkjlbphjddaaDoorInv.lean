/-
  What holds of memory while a statement runs: its own block stays, what was there ahead of it is as it was; what the conversion of a string to runes leaves.
-/
import Derived.Test.YtnmpkjlbphjddaaDoorRests
namespace Go.Proofs.YtnmpkjlbphjddaaDoor
open Go.RowKit

/-- What a block of some cells holds, later on. -/
theorem cells_later {w w2 : World} {cs : Array Value} {T : TypeId} (hb : Below (w.alloc (.cells cs T)).heap.size (w.alloc (.cells cs T)) w2) :
    w2.heap[w.heap.size]? = some (.cells cs T (0, 0)) := by
  rw [hb.block _ (by simp)]
  show (w.heap.push _)[w.heap.size]? = _
  rw [Array.getElem?_push, if_pos rfl]

theorem cell_of {w : World} {b : Nat} {cs : Array Value} {T : TypeId} (h : w.heap[b]? = some (.cells cs T (0, 0))) (i : Nat) {v : Value} (hv : cs[i]? = some v) : w.cell? ⟨b, i, none⟩ = some v := by
  simp [World.cell?, h, hv]

/-- What the conversion of a string to runes leaves. -/
def convA (s : ByteArray) (W : World) : Array Value := Conv.runesFrom s s.size 0 #[] ++ Array.replicate (grownCap W (rn s).length 0 21 - (rn s).length) (.int .i32 0)

theorem conv_run (s : ByteArray) (hs : s.size ≤ 1000000) (W : World) : (convert 9 29 (.string s)).run Tryd.prog W = .ok (.slice (some ⟨W.heap.size, 0, none⟩) (rn s).length (grownCap W (rn s).length 0 21)) ((W.alloc (.cells (convA s W) 21)).drew) := by
  have h := run_runes_of_string (P := Tryd.prog) W 9 29 21 s Tryd.underlying9 Tryd.underlying29 Tryd.underlying21 (by have := size_runesFrom s s.size 0 #[]; simp at this; omega)
  rw [rn_size] at h
  exact h

theorem conv_rn (s : ByteArray) (W : World) : Rn (W.alloc (.cells (convA s W) 21)) W.heap.size (rn s) := by
  intro i hi
  have h : (W.alloc (.cells (convA s W) 21)).heap[W.heap.size]? = some (.cells (convA s W) 21 (0, 0)) := by
    show (W.heap.push _)[W.heap.size]? = _
    rw [Array.getElem?_push, if_pos rfl]
  exact cell_of h i (by unfold convA; rw [Array.getElem?_append_left (by rw [rn_size]; exact hi)]; exact rn_get s i hi)

/-- What holds of memory while the statement runs: its own block; what was there ahead of it is as it was. -/
def LawInv (w wr : World) (cs : Array Value) (T : TypeId) : Prop := wr.heap[w.heap.size]? = some (.cells cs T (0, 0)) ∧ Below w.heap.size w wr

theorem LawInv.step {w wr wr' : World} {cs : Array Value} {T : TypeId} (h : LawInv w wr cs T) (hb : Below wr.heap.size wr wr') : LawInv w wr' cs T :=
  ⟨by rw [hb.block _ (lt_of_block h.1)]; exact h.1, h.2.trans (hb.mono h.2.size)⟩

theorem LawInv.drew {w wr : World} {cs : Array Value} {T : TypeId} (h : LawInv w wr cs T) : LawInv w wr.drew cs T := ⟨h.1, h.2.drew⟩

theorem LawInv.start {w w2 : World} {cs : Array Value} {T : TypeId} (hb : Below (w.alloc (.cells cs T)).heap.size (w.alloc (.cells cs T)) w2) : LawInv w w2 cs T :=
  ⟨cells_later hb, ((Below.refl _ _).alloc (Nat.le_refl _) _).trans (hb.mono (by simp))⟩

end Go.Proofs.YtnmpkjlbphjddaaDoor
