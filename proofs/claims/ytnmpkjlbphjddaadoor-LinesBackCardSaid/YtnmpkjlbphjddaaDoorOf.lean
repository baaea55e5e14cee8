/-
  The walk over the function that takes a text apart.
-/
import Derived.Test.YtnmpkjlbphjddaaDoorWalksE
import Derived.Test.YtnmpkjlbphjddaaDoorRunes
import Derived.OneCell
namespace Go.Proofs.YtnmpkjlbphjddaaDoor
open Go.RowKit

theorem Tryd.info3 : (Tryd.prog.info? 3).map (fun i => (i.zero, i.size, i.bytes)) = some (some (.int .i64 0), 1, 8) := by kernel_rfl

def OfPost (w : World) (t : List Int) (e : Ending) (w' : World) : Prop := ∃ mb, e = .returned (.pointer (some ⟨mb, 0, none⟩)) ∧ w.heap.size ≤ mb ∧ MapAt w' mb t ∧ Below w.heap.size w w'

/-- What holds at each round's head: the text's block, its runes, the begins so far. -/
def OfInv (w wr : World) (t : List Int) (rc k : Nat) (v : Value) : Prop :=
  wr.heap[w.heap.size + 1 + 1]? = some (.cells #[.slice (some ⟨w.heap.size, 0, none⟩) t.length rc, v] 59 (0, 0)) ∧ Rn wr w.heap.size t ∧
    wr.ownsRow (w.heap.size + 1) 3 1 v (Pl.bgs t k).length ((Pl.bgs t k).map fun n : Nat => Value.int .i64 n) ∧ Below w.heap.size w wr
theorem OfInv.blk {w wr : World} {t : List Int} {rc k : Nat} {v : Value} (h : OfInv w wr t rc k v) : wr.heap[w.heap.size + 1 + 1]? = some (.cells #[.slice (some ⟨w.heap.size, 0, none⟩) t.length rc, v] 59 (0, 0)) := h.1
theorem OfInv.run {w wr : World} {t : List Int} {rc k : Nat} {v : Value} (h : OfInv w wr t rc k v) : Rn wr w.heap.size t := h.2.1
theorem OfInv.own {w wr : World} {t : List Int} {rc k : Nat} {v : Value} (h : OfInv w wr t rc k v) : wr.ownsRow (w.heap.size + 1) 3 1 v (Pl.bgs t k).length ((Pl.bgs t k).map fun n : Nat => Value.int .i64 n) := h.2.2.1
theorem OfInv.bel {w wr : World} {t : List Int} {rc k : Nat} {v : Value} (h : OfInv w wr t rc k v) : Below w.heap.size w wr := h.2.2.2

theorem own_other {wr : World} {base : Nat} {v : Value} {n : Nat} {xs : List Value} (h : wr.ownsRow base 3 1 v n xs) {g : Nat} {cs : Array Value} {fr : Nat × Nat} (hb : wr.heap[g]? = some (.cells cs 59 fr)) : v.ownBlock ≠ some g := by
  intro e
  rcases h.2 with ⟨rfl, _⟩ | ⟨g', cap, cur, rfl, _, hh, _⟩
  · simp [Value.ownBlock] at e
  · simp only [Value.ownBlock, Option.some.injEq] at e
    subst e
    rw [hb] at hh
    simp at hh

theorem own_base {wr : World} {base : Nat} {v : Value} {n : Nat} {xs : List Value} (h : wr.ownsRow base 3 1 v n xs) {g : Nat} (hg : g < base) : v.ownBlock ≠ some g := by
  intro e
  have := h.lt g e
  omega

theorem two_setCell {w : World} {b : Nat} {u v v' : Value} {t : TypeId} (h : w.heap[b]? = some (.cells #[u, v] t (0, 0))) : (w.setCell ⟨b, 1, none⟩ v').heap[b]? = some (.cells #[u, v'] t (0, 0)) := by
  have hlt := lt_of_block h
  have h' : w.heap[b] = .cells #[u, v] t (0, 0) := by simpa [Array.getElem?_eq_getElem hlt] using h
  show (w.heap.modify b _)[b]? = _
  rw [Array.getElem?_eq_getElem (by simpa using hlt), Array.getElem_modify_self, h']
  rfl

theorem two_cell0 {w : World} {b : Nat} {u v : Value} {t : TypeId} (h : w.heap[b]? = some (.cells #[u, v] t (0, 0))) : w.cell? ⟨b, 0, none⟩ = some u := by simp [World.cell?, h]
theorem two_cell1 {w : World} {b : Nat} {u v : Value} {t : TypeId} (h : w.heap[b]? = some (.cells #[u, v] t (0, 0))) : w.cell? ⟨b, 1, none⟩ = some v := by simp [World.cell?, h]
theorem two_free {w : World} {b : Nat} {u v : Value} {t : TypeId} (h : w.heap[b]? = some (.cells #[u, v] t (0, 0))) (o : Nat) : w.frozen? ⟨b, o, none⟩ = false := by simp [World.frozen?, h]

theorem OfInv.blk1 {w wr : World} {t : List Int} {rc k : Nat} {v : Value} (h : OfInv w wr t rc k v) {o : Obj} {w1 : World} (hg : (wr.alloc o).grownBy w1 v.ownBlock) :
    w1.heap[w.heap.size + 1 + 1]? = some (.cells #[.slice (some ⟨w.heap.size, 0, none⟩) t.length rc, v] 59 (0, 0)) := by
  have hlt := lt_of_block h.blk
  rw [hg.block _ (by show _ < (wr.heap.push o).size; simp; omega) (fun e => own_other h.own h.blk e.symm)]
  rw [Below.heap_alloc _ _ _ hlt]
  exact h.blk

theorem OfInv.step {w wr : World} {t : List Int} {rc k : Nat} {v : Value} (h : OfInv w wr t rc k v) (h10 : Pl.rd t k = 10) {o : Obj} {w1 : World} {v' : Value}
    (hown : w1.ownsRow (w.heap.size + 1) 3 1 v' ((Pl.bgs t k).length + 1) ((Pl.bgs t k).map (fun n : Nat => Value.int .i64 n) ++ [.int .i64 ((k : Int) + 1)])) (hg : (wr.alloc o).grownBy w1 v.ownBlock) :
    OfInv w (w1.setCell ⟨w.heap.size + 1 + 1, 1, none⟩ v') t rc (k + 1) v' := by
  have hb := h.blk1 hg
  have hbg : Pl.bgs t (k + 1) = Pl.bgs t k ++ [k + 1] := by show Pl.bgs t k ++ _ = _; rw [if_pos h10]
  have hlt := lt_of_block h.blk
  refine ⟨two_setCell hb, ?_, ?_, ?_⟩
  · intro i hi
    have h1 : w1.cell? ⟨w.heap.size, i, none⟩ = some (.int .i32 (Pl.rd t i)) :=
      hg.cell (a := ⟨w.heap.size, i, none⟩) ((World.cell?_alloc_lt (w := wr) (a := ⟨w.heap.size, i, none⟩) o (show w.heap.size < wr.heap.size by omega)).trans (h.run i hi)) (fun e => own_base (g := w.heap.size) h.own (by omega) e.symm)
    rw [show (w1.setCell ⟨w.heap.size + 1 + 1, 1, none⟩ v').cell? ⟨w.heap.size, i, none⟩ = w1.cell? ⟨w.heap.size, i, none⟩ from World.cell?_of_block (Below.heap_setCell _ _ _ _ (by show w.heap.size ≠ w.heap.size + 1 + 1; omega))]
    exact h1
  · rw [hbg]
    refine ownsRow_setCell_other ?_ (own_other hown hb) v'
    rw [List.length_append, List.map_append]
    exact hown
  · refine Below.setCell (((h.bel.alloc h.bel.size o).grown hg ?_ ?_)) (by show w.heap.size ≤ w.heap.size + 1 + 1; omega) v'
    · have := h.bel.size; simp; omega
    · intro q hq
      have := h.own.lt q hq
      omega

theorem OfInv.skip {w wr : World} {t : List Int} {rc k : Nat} {v : Value} (h : OfInv w wr t rc k v) (h10 : Pl.rd t k ≠ 10) : OfInv w wr t rc (k + 1) v := by
  have hbg : Pl.bgs t (k + 1) = Pl.bgs t k := by show Pl.bgs t k ++ _ = _; rw [if_neg h10, List.append_nil]
  exact ⟨h.blk, h.run, by rw [hbg]; exact h.own, h.bel⟩

theorem own_slice {wr : World} {base : Nat} {v : Value} {n : Nat} {xs : List Value} (h : wr.ownsRow base 3 1 v n xs) (hn : 0 < n) : ∃ g cap, v = .slice (some ⟨g, 0, none⟩) n cap := by
  rcases h.2 with ⟨_, h0⟩ | ⟨g, cap, cur, hv, _⟩
  · omega
  · exact ⟨g, cap, hv⟩

theorem OfInv.mapAt {w wr : World} {t : List Int} {rc : Nat} {v : Value} (h : OfInv w wr t rc t.length v) : MapAt wr (w.heap.size + 1 + 1) t := by
  have hl : 0 < (Pl.begins t).length := by rw [Pl.begins_length]; omega
  rcases h.own.2 with ⟨rfl, h0⟩ | ⟨g, cap, cur, rfl, h1, h2, h3, h4, h5, h6⟩
  · exact absurd h0 (by show ¬ (Pl.begins t).length = 0; omega)
  · refine ⟨w.heap.size, rc, g, cap, two_cell0 h.blk, two_cell1 h.blk, h.run, fun i hi => ?_⟩
    rw [World.ownsRow.cellAt h.own i (by show i < (Pl.begins t).length * 1; omega)]
    rw [List.getElem?_map]
    show Option.map _ (Pl.begins t)[i]? = _
    rw [List.getElem?_eq_getElem hi]
    simp [Pl.nd, hi]

theorem OfInv.start {w : World} {t : List Int} {A : Array Value} {rc : Nat} (hA : A.size = t.length) (hget : ∀ i, i < t.length → A[i]? = some (.int .i32 (Pl.rd t i))) (X : Array Value) :
    OfInv w ((((w.alloc (.cells (A ++ X) 21)).alloc (.cells #[.int .i64 0] 3)).alloc (.cells #[.slice (some ⟨w.heap.size, 0, none⟩) t.length rc, .slice (some ⟨w.heap.size + 1, 0, none⟩) 1 1] 59)).drew) t rc 0 (.slice (some ⟨w.heap.size + 1, 0, none⟩) 1 1) := by
  have z1 : (w.alloc (.cells (A ++ X) 21)).heap.size = w.heap.size + 1 := by simp
  refine ⟨?_, ?_, ?_, ?_⟩
  · show (((w.heap.push _).push _).push _)[w.heap.size + 1 + 1]? = _
    rw [Array.getElem?_push, if_pos (by simp)]
  · intro i hi
    have h0 : ((((w.alloc (.cells (A ++ X) 21)).alloc (.cells #[.int .i64 0] 3)).alloc (.cells #[.slice (some ⟨w.heap.size, 0, none⟩) t.length rc, .slice (some ⟨w.heap.size + 1, 0, none⟩) 1 1] 59)).drew).heap[w.heap.size]? = some (.cells (A ++ X) 21 (0, 0)) := by
      show (((w.heap.push _).push _).push _)[w.heap.size]? = _
      rw [Array.getElem?_push, if_neg (by simp; omega), Array.getElem?_push, if_neg (by simp), Array.getElem?_push, if_pos rfl]
    simp only [World.cell?, h0]
    rw [if_neg (by simp), Array.getElem?_append_left (by omega)]
    exact hget i hi
  · refine ⟨rfl, .inr ⟨w.heap.size + 1, 1, #[.int .i64 0], rfl, Nat.le_refl _, ?_, Nat.le_refl _, by decide, rfl, rfl⟩⟩
    show (((w.heap.push _).push _).push _)[w.heap.size + 1]? = _
    rw [Array.getElem?_push, if_neg (by simp), Array.getElem?_push, if_pos (by simp)]
  · exact ((((Below.refl _ _).alloc (Nat.le_refl _) _).alloc (by simp) _).alloc (by simp; omega) _).drew

set_option maxHeartbeats 800000 in
theorem of_any (s : ByteArray) (w : World) (hs : s.size ≤ 1000000) :
    Calls Tryd.prog 42 #[.string s] w (OfPost w (rn s)) := by
  have hconv := fun W => run_runes_of_string (P := Tryd.prog) W 9 29 21 s Tryd.underlying9 Tryd.underlying29 Tryd.underlying21 (by have := size_runesFrom s s.size 0 #[]; simp at this; omega)
  have hlen := rn_le s
  have hget := Lib.hid (rn_get s)
  have hsz := rn_size s
  rw [rn_size] at hconv
  obtain ⟨t, ht⟩ : ∃ t, rn s = t := ⟨_, rfl⟩
  rw [ht] at hconv hlen hget hsz ⊢
  obtain ⟨A, hA⟩ : ∃ A, Conv.runesFrom s s.size 0 #[] = A := ⟨_, rfl⟩
  simp only [hA] at hconv hget hsz
  have hSZ := Lib.hid hsz
  clear hA ht hsz
  obtain ⟨i0, hi, hz0, hz1, hz2⟩ := info_parts Tryd.info3
  have hI := Lib.hid (And.intro hi (And.intro hz0 (And.intro hz1 hz2)))
  clear hi hz0 hz1 hz2
  go_enter Tryd.func42, Tryd.ntmps42
  go_wp2
  go_loopw [16] (fun i wr => ∃ (k : Nat) (v : Value), k ≤ t.length ∧ i = .int .i64 k ∧ OfInv w wr t (grownCap w t.length 0 21) k v) (fun i _ => t.length - (intOf i).toNat)
  case atStart => exact ⟨0, _, Nat.zero_le _, rfl, OfInv.start hSZ.out hget.out _⟩
  case round =>
    obtain ⟨k, v, hk, rfl, hinv⟩ := hrel
    clear hconv hget
    by_cases hlt : k < t.length
    · have hltb : decide ((k : Int) < (t.length : Int)) = true := by simp; omega
      have hc := hinv.run.at k hlt
      by_cases h10 : Pl.rd t k = 10
      · have h10b : (Pl.rd t k == 10) = true := by simp [h10]
        have hv := two_cell1 hinv.blk
        have H10 := Lib.hid h10
        have hbl : (Pl.bgs t k).length ≤ k + 1 := by rw [Pl.bgs_length]; have := Pl.rowN_le t k; omega
        have hsz := hinv.bel.size
        have hlb := lt_of_block hinv.blk
        clear h10
        go_wp2_with (at_builtin; refine wpList_append_own _ rfl _ _ 47 rfl (w.heap.size + 1) 3 i0 (.int .i64 0) 1 8 Tryd.underlying47 hI.out.1 hI.out.2.1 hI.out.2.2.1 hI.out.2.2.2 rfl (by decide) _ _ _ rfl (hinv.own.alloc _) ⟨wr.heap.size, 0, none⟩ 1 1 [.int .i64 ((k : Int) + 1)] rfl rfl ?c1 ?c2 ?c3 ?c4 ?c5 ?_)
        case c1 =>
          intro j u hj
          match j, hj with
          | 0, hj => simp at hj; subst hj; simp [Addr.add]
        case c2 => intro u hu; simp at hu; subst hu; rfl
        case c3 => unfold maxLen; omega
        case c4 => omega
        case c5 => simp; omega
        intro v' w1 hown' hgrow _
        obtain ⟨g', cap', rfl⟩ := own_slice hown' (by omega)
        have hs1 := hinv.step H10.out hown' hgrow
        have hb1 := hinv.blk1 hgrow
        have hv1 := two_cell1 hb1
        have hf1 := two_free hb1 1
        have HS := Lib.hid hs1
        clear hown' hgrow hinv hb1 hs1 hc hv
        go_wp2
        go_roundw
        case rel => exact ⟨k + 1, _, by omega, by go_num, HS.out⟩
        case measure => simp [intOf]; omega
      · have h10b : (Pl.rd t k == 10) = false := by simp [h10]
        have HS := Lib.hid (hinv.skip h10)
        clear h10 hinv
        go_wp2
        go_roundw
        case rel => exact ⟨k + 1, v, by omega, by go_num, HS.out⟩
        case measure => simp [intOf]; omega
    · have hltb : decide ((k : Int) < (t.length : Int)) = false := by simp; omega
      obtain rfl : k = t.length := by omega
      have hm := hinv.mapAt
      have hb := hinv.bel
      clear hinv
      go_wp2
      go_ret
      exact ⟨_, rfl, by omega, hm, hb⟩

end Go.Proofs.YtnmpkjlbphjddaaDoor
