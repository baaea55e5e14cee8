/-
  The arguments of the statements, opened: a struct of texts and numbers; the two tables of Go's unicode/utf8, as the rows list them.
-/
import Derived.Test.YtnmpkjlbphjddaaDoorRests
import Derived.ProofKit
import Derived.Lib.SmallJoins
import Derived.SliceStrings
import Derived.SizedLaws
import Derived.Lib.LaidU8T
import Derived.PinnedBridge
import Derived.MakeChecks
namespace Go.Proofs.YtnmpkjlbphjddaaDoor
open Go.ChangeShapes Go.WideShapes Go.ChangeAt Go.RowKit Go.Joins Go.Shelf

theorem Tryd.cells26 : Tryd.prog.cellsOf 26 = 5 := by kernel_rfl
theorem Tryd.cells39 : Tryd.prog.cellsOf 39 = 8 := by kernel_rfl
theorem Tryd.cells24 : Tryd.prog.cellsOf 24 = 2 := by kernel_rfl
theorem Tryd.cells22 : Tryd.prog.cellsOf 22 = 1 := by kernel_rfl
theorem Tryd.cells9 : Tryd.prog.cellsOf 9 = 1 := by kernel_rfl
theorem Tryd.cells3 : Tryd.prog.cellsOf 3 = 1 := by kernel_rfl
theorem Tryd.bytes9 : Tryd.prog.bytesOf 9 = 16 := by kernel_rfl

theorem strs_weights {H : Type} (ss : List ByteArray) : ∀ s ∈ ss, s.data.toList.length ∈ DataW.weightsAll Tryd.prog 9 (strs ss : List (DataW H)) := by
  induction ss with
  | nil => intro s hs; cases hs
  | cons x l ih =>
    intro s hs
    unfold strs
    rw [List.map_cons]
    unfold DataW.weightsAll
    rw [List.mem_append]
    rcases List.mem_cons.1 hs with rfl | hs
    · exact .inl (by simp [DataW.weights])
    · exact .inr (ih s hs)

theorem spot_none {w : World} {a : Addr} {v : Value} (h : w.cell? a = some v) : a.spot = none := by
  unfold World.cell? at h
  split at h
  · split at h
    · cases h
    · rename_i hs
      cases e : a.spot with
      | none => rfl
      | some z => rw [e] at hs; exact absurd rfl hs
  · cases h
theorem add_none (b off i : Nat) : (⟨b, off, none⟩ : Addr).add i = ⟨b, off + i, none⟩ := by
  by_cases h : i = 0
  · subst h; simp [Addr.add]
  · simp [Addr.add, h]

/-- Texts, as the walks want them. -/
def TextsArg (W : World) (a : Option Addr) (ss : List ByteArray) : Prop := Strs W a ss ∧ ss.length ≤ 1000000000000000 ∧ ∀ s ∈ ss, s.size ≤ 1000000000000000

theorem open_texts {H : Type} {enc : TypeId × Value → H} {W : World} {sp : Nat → Bool} {fuel : Nat} {cs : List Value} {x : DataW H × List MemPlace}
    (h : DataW.trod enc Tryd.prog W 0 sp true fuel 22 cs = some x) (hw : ∀ n ∈ DataW.weights Tryd.prog 22 x.1, n ≤ reachBytes) :
    ∃ (a : Option Addr) (ss : List ByteArray) (cap : Nat), cs = [.slice a ss.length cap] ∧ TextsArg W a ss := by
  rcases open_strings Tryd.underlying22 Tryd.underlying9 Tryd.cells9 h with ⟨rfl, hx⟩ | ⟨a, len, cap, ss, rfl, _, hl, hm, hz, hx, hcell, hws⟩
  · exact ⟨none, [], 0, rfl, fun i hi => absurd hi (Nat.not_lt_zero _), by simp, fun s hs => by cases hs⟩
  · have hlen : len ≤ ss.length := by rw [hz]; split <;> omega
    have hlt : (ss.take len).length = len := by rw [List.length_take]; omega
    have hx1 : x.1 = .slice (strs (ss.take len)) (strs (ss.drop len)) := by rw [hx]
    rw [hx1] at hw
    simp only [DataW.weights, Tryd.underlying22, List.mem_cons, List.mem_append, Tryd.bytes9] at hw
    have hR : reachBytes = 140737488351232 := by rfl
    refine ⟨some a, ss.take len, cap, by rw [hlt], fun i hi => ?_, ?_, fun s hs => ?_⟩
    · rw [hlt] at hi
      have hsp : a.spot = none := by
        have h1 := hcell 0 (by omega)
        rw [show a.add 0 = a by simp [Addr.add]] at h1
        exact spot_none h1
      obtain ⟨b, off, s0⟩ := a
      simp only at hsp
      subst hsp
      refine ⟨b, off, rfl, ?_⟩
      have h1 := hcell i (by omega)
      rw [add_none] at h1
      rw [h1]
      unfold sd
      simp [hi]
    · have := hw _ (.inl rfl)
      rw [strs, List.length_map, hlt, hR] at this
      rw [hlt]; omega
    · have := hw _ (.inr (.inl (strs_weights _ s hs)))
      rw [hR] at this
      rw [← ByteArray.size_data, ← Array.length_toList]; omega

theorem int_cell {H : Type} {enc : TypeId × Value → H} {W : World} {sp : Nat → Bool} {fuel : Nat} {v : Value} {x : DataW H × List MemPlace}
    (h : DataW.trod enc Tryd.prog W 0 sp true fuel 3 [v] = some x) : ∃ n : Int, v = .int .i64 n ∧ -9223372036854775808 ≤ n ∧ n ≤ 9223372036854775807 := by
  obtain ⟨n, hn, _, hw⟩ := DataW.trod_int Tryd.underlying3 h
  refine ⟨n, by simpa using hn, ?_⟩
  simp only [Lit.wf, Bool.and_eq_true, decide_eq_true_eq] at hw
  have e1 : IntKind.i64.min = -9223372036854775808 := rfl
  have e2 : IntKind.i64.max = 9223372036854775807 := rfl
  rw [e1, e2] at hw
  exact hw

/-- A number that an int holds. -/
def I64 (n : Int) : Prop := -9223372036854775808 ≤ n ∧ n ≤ 9223372036854775807

theorem list5 {l : List Value} (h : l.length = 5) : ∃ c0 c1 c2 c3 c4, l = [c0, c1, c2, c3, c4] := by
  match l, h with
  | [c0, c1, c2, c3, c4], _ => exact ⟨_, _, _, _, _, rfl⟩
theorem list8 {l : List Value} (h : l.length = 8) : ∃ c0 c1 c2 c3 c4 c5 c6 c7, l = [c0, c1, c2, c3, c4, c5, c6, c7] := by
  match l, h with
  | [c0, c1, c2, c3, c4, c5, c6, c7], _ => exact ⟨_, _, _, _, _, _, _, _, rfl⟩

theorem open_ask1 {H : Type} {enc : TypeId × Value → H} {W : World} {sp : Nat → Bool} {fuel : Nat} {cs : List Value} {x : DataW H × List MemPlace}
    (h : DataW.trod enc Tryd.prog W 0 sp true fuel 26 cs = some x) (hw : ∀ n ∈ DataW.weights Tryd.prog 26 x.1, n ≤ reachBytes) :
    ∃ (a : Option Addr) (ss : List ByteArray) (cap : Nat) (x1 x2 x3 x4 : Int), cs = [.slice a ss.length cap, .int .i64 x1, .int .i64 x2, .int .i64 x3, .int .i64 x4] ∧ TextsArg W a ss ∧ I64 x1 ∧ I64 x2 ∧ I64 x3 ∧ I64 x4 := by
  obtain ⟨y0, y1, y2, y3, n, rfl, hl, h0, h1, h2, h3⟩ := trod_struct4 Tryd.underlying26 h
  rw [Tryd.cells26] at hl
  obtain ⟨c0, c1, c2, c3, c4, rfl⟩ := list5 hl
  simp only [Tryd.cells22, Tryd.cells3, Tryd.cells24, List.drop_zero, List.drop_succ_cons, List.take_succ_cons, List.take_zero] at h0 h1 h2 h3
  obtain ⟨z0, z1, n', rfl, _, g0, g1⟩ := trod_struct2 Tryd.underlying24 h3
  simp only [Tryd.cells3, List.drop_zero, List.drop_succ_cons, List.take_succ_cons, List.take_zero] at g0 g1
  obtain ⟨x1, rfl, b1⟩ := int_cell h1
  obtain ⟨x2, rfl, b2⟩ := int_cell h2
  obtain ⟨x3, rfl, b3⟩ := int_cell g0
  obtain ⟨x4, rfl, b4⟩ := int_cell g1
  obtain ⟨a, ss, cap, e, ht⟩ := open_texts h0 (fun k hk => hw k (by
    unfold DataW.weights
    rw [Tryd.underlying26]
    simp only [List.map_cons, DataW.weightsEach, List.mem_append]
    exact .inl hk))
  obtain rfl : c0 = .slice a ss.length cap := by simpa using e
  exact ⟨a, ss, cap, x1, x2, x3, x4, rfl, ht, b1, b2, b3, b4⟩

theorem open_ask10 {H : Type} {enc : TypeId × Value → H} {W : World} {sp : Nat → Bool} {fuel : Nat} {cs : List Value} {x : DataW H × List MemPlace}
    (h : DataW.trod enc Tryd.prog W 0 sp true fuel 39 cs = some x) (hw : ∀ n ∈ DataW.weights Tryd.prog 39 x.1, n ≤ reachBytes) :
    ∃ (a : Option Addr) (ss : List ByteArray) (cap : Nat) (x1 x2 x3 x4 k n r : Int), cs = [.slice a ss.length cap, .int .i64 x1, .int .i64 x2, .int .i64 x3, .int .i64 x4, .int .i64 k, .int .i64 n, .int .i64 r] ∧
      TextsArg W a ss ∧ I64 x1 ∧ I64 x2 ∧ I64 x3 ∧ I64 x4 ∧ I64 k ∧ I64 n ∧ I64 r := by
  obtain ⟨y0, y1, y2, y3, n, rfl, hl, h0, h1, h2, h3⟩ := trod_struct4 Tryd.underlying39 h
  rw [Tryd.cells39] at hl
  obtain ⟨c0, c1, c2, c3, c4, c5, c6, c7, rfl⟩ := list8 hl
  simp only [Tryd.cells26, Tryd.cells3, List.drop_zero, List.drop_succ_cons, List.take_succ_cons, List.take_zero] at h0 h1 h2 h3
  obtain ⟨k, rfl, b5⟩ := int_cell h1
  obtain ⟨m, rfl, b6⟩ := int_cell h2
  obtain ⟨r, rfl, b7⟩ := int_cell h3
  obtain ⟨a, ss, cap, x1, x2, x3, x4, e, ht, b1, b2, b3, b4⟩ := open_ask1 h0 (fun k hk => hw k (by
    unfold DataW.weights
    rw [Tryd.underlying39]
    simp only [List.map_cons, DataW.weightsEach, List.mem_append]
    exact .inl hk))
  simp only [List.cons.injEq, and_true] at e
  obtain ⟨rfl, rfl, rfl, rfl, rfl⟩ := e
  exact ⟨a, ss, cap, x1, x2, x3, x4, k, m, r, rfl, ht, b1, b2, b3, b4, b5, b6, b7⟩

/-- What the rows list. -/
def laidL : List (String × DataW Unit) := [("unicode/utf8.acceptRanges", Rows.laid_unicode_utf8_acceptRanges), ("unicode/utf8.first", Rows.laid_unicode_utf8_first)]

theorem accept_eq : (Rows.laid_unicode_utf8_acceptRanges : DataW Unit) = Lib.acceptData := by kernel_rfl
theorem first_eq : Rows.laid_unicode_utf8_first = Lib.firstData := Pinned.utf8First_eq

theorem tabs_of_laid {W : World} (h : laidMetH Tryd.prog laidL W) : Tabs W := by
  rw [MakeChecks.laidMetH_plain _ _ _ (by kernel_rfl)] at h
  have h3 := Lib.laidMet.reads h (n := "unicode/utf8.first") (d := Rows.laid_unicode_utf8_first) (.tail _ (.head _))
  have h4 := Lib.laidMet.reads h (n := "unicode/utf8.acceptRanges") (d := Rows.laid_unicode_utf8_acceptRanges) (.head _)
  rw [first_eq] at h3
  rw [accept_eq] at h4
  exact utf8Tabs_of_readsT (U8Types.of196 Tryd.lays196) ⟨by kernel_rfl, by kernel_rfl, by kernel_rfl, by kernel_rfl, by kernel_rfl, by kernel_rfl, by kernel_rfl⟩ h3 h4

end Go.Proofs.YtnmpkjlbphjddaaDoor
