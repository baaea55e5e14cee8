/-
  The walks over the offsets that the statements play, and over the weight of an Ask.
-/
import Derived.Test.YtnmpkjlbphjddaaDoorKeys
import Derived.Test.YtnmpkjlbphjddaaDoorInv
namespace Go.Proofs.YtnmpkjlbphjddaaDoor
open Go.RowKit

set_option maxHeartbeats 400000 in
theorem heavy10_any (a : Option Addr) (ss : List ByteArray) (c : Nat) (x1 x2 x3 x4 k n r : Int) (w : World) (hr : Strs w a ss) (hl : ss.length ≤ 1000000000000000) (hs : ∀ s ∈ ss, s.size ≤ 1000000000000000) :
    Calls Tryd.prog 31 #[.agg #[.slice a ss.length c, .int .i64 x1, .int .i64 x2, .int .i64 x3, .int .i64 x4, .int .i64 k, .int .i64 n, .int .i64 r]] w fun e w' => e = .returned (.bool (heavyB ss)) ∧ Below w.heap.size w w' := by
  have cH := fun W hW => heavy_any a ss c x1 x2 x3 x4 W hW hl hs
  have HR := Lib.hid hr
  clear hr hs
  go_enter Tryd.func31, Tryd.ntmps31
  go_wp2_with (go_at_call 21; refine (cH _ (HR.out.below ((Below.refl _ _).alloc (Nat.le_refl _) _))).mono ?_; rintro e w' ⟨rfl, hb⟩)
  go_ret
  exact ⟨rfl, ((Below.refl _ _).alloc (Nat.le_refl _) _).trans (hb.mono (by simp))⟩

/-- A number that an int holds. -/
def I64n (n : Int) : Prop := -9223372036854775808 ≤ n ∧ n ≤ 9223372036854775807

def OffsPost (w : World) (e : Ending) (w' : World) : Prop :=
  ∃ (g cap : Nat) (l : List Int), e = .returned (.slice (some ⟨g, 0, none⟩) l.length cap) ∧ Nu w' g l ∧ l.length ≤ 20 ∧ (∀ x ∈ l, I64n x) ∧ Below w.heap.size w w'

/-- What holds at each round's head: the offsets so far. -/
def OffInv (w wr : World) (cs : Array Value) (l : List Int) (v : Value) : Prop :=
  LawInv w wr cs 39 ∧ wr.ownsRow (w.heap.size + 1) 3 1 v l.length (l.map fun n : Int => Value.int .i64 n) ∧ ∀ x ∈ l, I64n x

theorem OffInv.step {w wr : World} {cs : Array Value} {l : List Int} {v : Value} (h : OffInv w wr cs l v) {o : Obj} {w1 : World} {v' : Value} {r : Int} (hr : I64n r)
    (hown : w1.ownsRow (w.heap.size + 1) 3 1 v' (l.length + 1) (l.map (fun n : Int => Value.int .i64 n) ++ [.int .i64 r])) (hg : (wr.alloc o).grownBy w1 v.ownBlock) :
    OffInv w w1 cs (l ++ [r]) v' := by
  have hlt := lt_of_block h.1.1
  refine ⟨⟨?_, ?_⟩, ?_, ?_⟩
  · rw [hg.block _ (by show _ < (wr.heap.push o).size; simp; omega) (fun e => own_base (g := w.heap.size) h.2.1 (by omega) e.symm)]
    rw [Below.heap_alloc _ _ _ hlt]
    exact h.1.1
  · refine (h.1.2.alloc h.1.2.size o).grown hg ?_ ?_
    · have := h.1.2.size; show _ ≤ (wr.heap.push o).size; simp; omega
    · intro q hq
      have := h.2.1.lt q hq
      omega
  · rw [List.length_append, List.map_append]; exact hown
  · intro x hx
    rcases List.mem_append.1 hx with hx | hx
    · exact h.2.2 x hx
    · rw [List.mem_singleton.1 hx]; exact hr

theorem OffInv.out {w wr : World} {cs : Array Value} {l : List Int} {v : Value} (h : OffInv w wr cs l v) (hl : 0 < l.length) (hl2 : l.length ≤ 20) : OffsPost w (.returned v) wr := by
  rcases h.2.1.2 with ⟨_, h0⟩ | ⟨g, cap, cur, rfl, h1, h2, h3, h4, h5, h6⟩
  · omega
  · refine ⟨g, cap, l, rfl, fun i hi => ?_, hl2, h.2.2, h.1.2⟩
    rw [World.ownsRow.cellAt h.2.1 i (by omega)]
    rw [List.getElem?_map, List.getElem?_eq_getElem hi]
    simp [Pl.rd, hi]

theorem OffInv.start {w : World} {cs : Array Value} {a b c : Int} (h1 : I64n a) (h2 : I64n b) (h3 : I64n c) :
    OffInv w ((w.alloc (.cells cs 39)).alloc (.cells #[.int .i64 a, .int .i64 b, .int .i64 c] 3)) cs [a, b, c] (.slice (some ⟨w.heap.size + 1, 0, none⟩) 3 3) := by
  refine ⟨LawInv.start ((Below.refl _ _).alloc (Nat.le_refl _) _), ⟨rfl, .inr ⟨w.heap.size + 1, 3, #[.int .i64 a, .int .i64 b, .int .i64 c], rfl, Nat.le_refl _, ?_, Nat.le_refl _, by decide, rfl, rfl⟩⟩, ?_⟩
  · show ((w.heap.push _).push _)[w.heap.size + 1]? = _
    rw [Array.getElem?_push, if_pos (by simp)]
  · intro x hx
    simp only [List.mem_cons, List.not_mem_nil, or_false] at hx
    rcases hx with rfl | rfl | rfl <;> assumption

set_option maxHeartbeats 1000000 in
theorem offs_any (a : Option Addr) (ss : List ByteArray) (c : Nat) (x1 x2 x3 x4 kk nn rr : Int) (ta : Option Addr) (tl tc : Nat) (w : World) (hx1 : I64n x1) (hl : tl ≤ 1000000) :
    Calls Tryd.prog 49 #[.agg #[.slice a ss.length c, .int .i64 x1, .int .i64 x2, .int .i64 x3, .int .i64 x4, .int .i64 kk, .int .i64 nn, .int .i64 rr], .slice ta tl tc] w (OffsPost w) := by
  have HX := Lib.hid hx1
  obtain ⟨hx1a, hx1b⟩ := hx1
  obtain ⟨i0, hi, hz0, hz1, hz2⟩ := info_parts Tryd.info3
  have hI := Lib.hid (And.intro hi (And.intro hz0 (And.intro hz1 hz2)))
  clear hi hz0 hz1 hz2
  go_enter Tryd.func49, Tryd.ntmps49
  go_wp2
  go_loopw [5, 6] (fun v i wr => ∃ (k : Nat) (l : List Int), k ≤ 12 ∧ l.length = k + 3 ∧ i = .int .i64 k ∧ OffInv w wr #[.slice a ss.length c, .int .i64 x1, .int .i64 x2, .int .i64 x3, .int .i64 x4, .int .i64 kk, .int .i64 nn, .int .i64 rr] l v) (fun _ i _ => 12 - (intOf i).toNat)
  case atStart => exact ⟨0, [x1, -1, (tl : Int) + 1], by omega, rfl, rfl, OffInv.start HX.out (by unfold I64n; omega) (by unfold I64n; omega)⟩
  case round =>
    obtain ⟨k, l, hk, hlk, rfl, hinv⟩ := hrel
    have HK := Lib.hid hlk
    clear hlk
    rcases (show (k ≤ tl ∧ k < 12) ∨ ¬ k ≤ tl ∨ (k ≤ tl ∧ ¬ k < 12) by omega) with ⟨hle, h12⟩ | hno
    · have hleb : decide ((k : Int) ≤ (tl : Int)) = true := by simp; omega
      have h12b : decide ((k : Int) < 12) = true := by simp; omega
      have hc1 := cell_of hinv.1.1 1 (v := .int .i64 x1) rfl
      have hsz := hinv.1.2.size
      have hlb := lt_of_block hinv.1.1
      go_wp2_with (first
        | (go_at_call 62; refine (within_any _ _ _ (by omega) (by omega)).mono ?_; rintro e w' ⟨⟨r, rfl, hr0, hr1⟩, rfl⟩)
        | (at_builtin; refine wpList_append_own _ rfl _ _ 47 rfl (w.heap.size + 1) 3 i0 (.int .i64 0) 1 8 Tryd.underlying47 hI.out.1 hI.out.2.1 hI.out.2.2.1 hI.out.2.2.2 rfl (by decide) _ _ _ rfl (hinv.2.1.alloc _) ⟨wr.heap.size, 0, none⟩ 1 1 [.int .i64 r] rfl rfl ?c1 ?c2 ?c3 ?c4 ?c5 ?_))
      case c1 =>
        intro j u hj
        match j, hj with
        | 0, hj => simp at hj; subst hj; simp [Addr.add]
      case c2 => intro u hu; simp at hu; subst hu; rfl
      case c3 => have := HK.out; unfold maxLen; omega
      case c4 => have := HK.out; omega
      case c5 => simp; omega
      intro v' w1 hown' hgrow _
      have hs1 := hinv.step (show I64n r by unfold I64n; omega) hown' hgrow
      have HS := Lib.hid hs1
      clear hown' hgrow hinv hs1 hc1
      go_wp2
      go_roundw
      case rel => exact ⟨k + 1, l ++ [r], by omega, by have := HK.out; simp; omega, by go_num, HS.out⟩
      case measure => simp [intOf]; omega
    · have hpost := hinv.out (by have := HK.out; omega) (by have := HK.out; omega)
      have HP := Lib.hid hpost
      clear hpost hinv
      rcases hno with hle | ⟨hle, h12⟩
      all_goals
        (first | have hleb : decide ((k : Int) ≤ (tl : Int)) = true := by simp [hle] | have hleb : decide ((k : Int) ≤ (tl : Int)) = false := by simp; omega)
        (first | have h12b : decide ((k : Int) < 12) = false := by simp; omega | skip)
        go_wp2
        go_ret
        exact HP.out

end Go.Proofs.YtnmpkjlbphjddaaDoor
