/-
  The walks over the keys of the motions by rows, and over small numbers: the program's question and the reference's are one.
-/
import Derived.Test.YtnmpkjlbphjddaaDoorRests
namespace Go.Proofs.YtnmpkjlbphjddaaDoor
open Go.RowKit

/-- The keys of the motions by rows. -/
def keyL : List Int := [104, 108, 48, 94, 36, 106, 107, 43, 45, 95, 71, 16777319]
def lineB (k : Int) : Bool := keyL.contains k

theorem keys_ascii : ((List.range 128).all fun n => n == 0 || (decide (0 ≤ Lib.indexByte [104, 108, 48, 94, 36, 106, 107, 43, 45, 95, 71] n.toUInt8) == lineB (n : Int))) = true := by kernel_rfl

theorem lineB_ascii (n : Nat) (h0 : 0 < n) (h : n < 128) : decide (0 ≤ Lib.indexByte [104, 108, 48, 94, 36, 106, 107, 43, 45, 95, 71] n.toUInt8) = lineB (n : Int) := by
  have := List.all_eq_true.1 keys_ascii n (List.mem_range.2 h)
  have hn : (n == 0) = false := by simp; omega
  rw [hn, Bool.false_or] at this
  simpa using this

theorem lineB_no (k : Int) (h : k ≤ 0 ∨ 128 ≤ k) (hg : k ≠ 16777319) : lineB k = false := by
  unfold lineB keyL
  simp only [List.contains_eq_mem, decide_eq_false_iff_not, List.mem_cons, List.not_mem_nil, or_false]
  omega

set_option maxHeartbeats 400000 in
theorem lineIs_any (k : Int) (w : World) :
    Calls Tryd.prog 52 #[.int .i64 k] w fun e w' => e = .returned (.bool (lineB k)) ∧ w = w' := by
  by_cases hg : k = 16777319
  · have h1 : lineB k = true := by rw [hg]; rfl
    have H1 := Lib.hid h1
    have hgb : (k == 16777319) = true := by simp [hg]
    clear hg h1
    go_enter Tryd.func52, Tryd.ntmps52
    go_wp2
    go_ret
    exact ⟨ret_bool H1.out.symm, rfl⟩
  · have hgb : (k == 16777319) = false := by simp [hg]
    by_cases h0 : 0 < k
    · by_cases h1 : k < 128
      · have h0b : decide (0 < k) = true := by simp; omega
        have h1b : decide (k < 128) = true := by simp; omega
        have cC := fun W => Tryd.strings_ContainsRune_ascii ⟨#[104, 108, 48, 94, 36, 106, 107, 43, 45, 95, 71]⟩ k W (by omega) h1
        have hk : decide (0 ≤ Lib.indexByte (⟨#[104, 108, 48, 94, 36, 106, 107, 43, 45, 95, 71]⟩ : ByteArray).data.toList k.toNat.toUInt8) = lineB k := by
          have := lineB_ascii k.toNat (by omega) (by omega)
          rw [show ((k.toNat : Nat) : Int) = k by omega] at this
          exact this
        simp only [hk] at cC
        clear hk hg
        go_enter Tryd.func52, Tryd.ntmps52
        go_wp2_with (go_at_call 65; refine (cC _).mono ?_; rintro e w' ⟨rfl, rfl⟩)
        go_ret
        exact ⟨rfl, rfl⟩
      · have h2 := lineB_no k (.inr (by omega)) hg
        have H2 := Lib.hid h2
        have h0b : decide ((0 : Int) < k) = true := by simp; omega
        have h1b : decide (k < 128) = false := by simp; omega
        clear h2 hg
        go_enter Tryd.func52, Tryd.ntmps52
        go_wp2
        go_ret
        exact ⟨ret_bool H2.out.symm, rfl⟩
    · have h2 := lineB_no k (.inl (by omega)) hg
      have H2 := Lib.hid h2
      have h0b : decide ((0 : Int) < k) = false := by simp; omega
      clear h2 hg
      go_enter Tryd.func52, Tryd.ntmps52
      go_wp2
      go_ret
      exact ⟨ret_bool H2.out.symm, rfl⟩

/-- Block b holds the numbers l from its head on. -/
def Nu (w : World) (b : Nat) (l : List Int) : Prop := ∀ i, i < l.length → w.cell? ⟨b, i, none⟩ = some (.int .i64 (Pl.rd l i))
theorem Nu.at {w : World} {b : Nat} {l : List Int} (h : Nu w b l) (i : Nat) (hi : i < l.length) : w.cell? ⟨b, i, none⟩ = some (.int .i64 (Pl.rd l i)) := h i hi
theorem Nu.below {w w' : World} {b : Nat} {l : List Int} (h : Nu w b l) (hb : Below w.heap.size w w') : Nu w' b l := fun i hi => cell_below hb (h i hi)

def InPost (l : List Int) (n : Int) (w : World) (e : Ending) (w' : World) : Prop := (∃ r : Int, e = .returned (.int .i64 r) ∧ decide (0 ≤ r) = l.contains n) ∧ w = w'

theorem rd_mem (l : List Int) (i : Nat) (h : i < l.length) : Pl.rd l i ∈ l := by
  unfold Pl.rd
  have e : l.getD i 0 = l[i] := by simp [h]
  rw [e]; exact List.getElem_mem h
theorem mem_rd (l : List Int) (n : Int) (h : n ∈ l) : ∃ i, i < l.length ∧ Pl.rd l i = n := by
  obtain ⟨i, hi, e⟩ := List.getElem_of_mem h
  exact ⟨i, hi, by unfold Pl.rd; simp [hi, e]⟩

set_option maxHeartbeats 400000 in
theorem In_any (b : Nat) (l : List Int) (c : Nat) (n : Int) (w : World) (hr : Nu w b l) (hl : l.length ≤ 1000000) :
    Calls Tryd.prog 63 #[.slice (some ⟨b, 0, none⟩) l.length c, .int .i64 n] w (InPost l n w) := by
  have HR := Lib.hid hr
  clear hr
  go_enter Tryd.func63, Tryd.ntmps63
  go_wp2
  go_loop [5] (fun i => ∃ k : Nat, k ≤ l.length ∧ Hid (∀ j, j < k → Pl.rd l j ≠ n) ∧ i = .int .i64 k) (fun i => l.length - (intOf i).toNat)
  case atStart => exact ⟨0, Nat.zero_le _, fun j h => absurd h (Nat.not_lt_zero _), rfl⟩
  case round =>
    obtain ⟨k, hk, hH, rfl⟩ := hrel
    by_cases hlt : k < l.length
    · have hltb : decide ((k : Int) < (l.length : Int)) = true := by simp; omega
      have hc := HR.out.at k hlt
      by_cases he : Pl.rd l k = n
      · have heb : (Pl.rd l k == n) = true := by simp [he]
        have HM : Hid (n ∈ l) := by have := rd_mem l k hlt; rw [he] at this; exact this
        clear he
        go_wp2
        go_ret
        exact ⟨⟨k, rfl, by have := HM.out; simp [this]⟩, rfl⟩
      · have heb : (Pl.rd l k == n) = false := by simp [he]
        have HN : Hid (∀ j, j < k + 1 → Pl.rd l j ≠ n) := by
          intro j hj
          by_cases e : j = k
          · rw [e]; exact he
          · exact hH.out j (by omega)
        clear he hH
        go_wp2
        go_round
        case rel => exact ⟨k + 1, by omega, HN, by go_num⟩
        case measure => simp [intOf]; omega
    · have hltb : decide ((k : Int) < (l.length : Int)) = false := by simp; omega
      go_wp2
      go_ret
      refine ⟨⟨-1, rfl, ?_⟩, rfl⟩
      have hno : ¬ n ∈ l := fun h => by
        obtain ⟨i, hi, e⟩ := mem_rd l n h
        exact hH.out i (by omega) e
      simp [hno]

theorem keyL_cells (w : World) (C : Array Value) (hC : C = #[.int .i64 104, .int .i64 108, .int .i64 48, .int .i64 94, .int .i64 36, .int .i64 106, .int .i64 107, .int .i64 43, .int .i64 45, .int .i64 95, .int .i64 71, .int .i64 16777319]) :
    Nu (w.alloc (.cells C 3)) w.heap.size keyL := by
  subst hC
  intro i hi
  have h : (w.alloc (.cells #[.int .i64 104, .int .i64 108, .int .i64 48, .int .i64 94, .int .i64 36, .int .i64 106, .int .i64 107, .int .i64 43, .int .i64 45, .int .i64 95, .int .i64 71, .int .i64 16777319] 3)).heap[w.heap.size]? = some (.cells #[.int .i64 104, .int .i64 108, .int .i64 48, .int .i64 94, .int .i64 36, .int .i64 106, .int .i64 107, .int .i64 43, .int .i64 45, .int .i64 95, .int .i64 71, .int .i64 16777319] 3 (0, 0)) := by
    show (w.heap.push _)[w.heap.size]? = _
    rw [Array.getElem?_push, if_pos rfl]
  simp only [World.cell?, h]
  match i, hi with
  | 0, _ | 1, _ | 2, _ | 3, _ | 4, _ | 5, _ | 6, _ | 7, _ | 8, _ | 9, _ | 10, _ | 11, _ => rfl

set_option maxHeartbeats 400000 in
theorem refLine_any (k : Int) (w : World) :
    Calls Tryd.prog 50 #[.int .i64 k] w fun e w' => e = .returned (.bool (lineB k)) ∧ Below w.heap.size w w' := by
  have cI := In_any w.heap.size keyL 12 k _ (keyL_cells w _ rfl) (by decide)
  rw [show keyL.length = 12 from rfl] at cI
  go_enter Tryd.func50, Tryd.ntmps50
  go_wp2_with (go_at_call 63; refine cI.mono ?_; rintro e w' ⟨⟨r, rfl, hr⟩, rfl⟩; have HR := Lib.hid hr; clear hr)
  go_ret
  exact ⟨ret_bool HR.out, (Below.refl _ _).alloc (Nat.le_refl _) _⟩

def WithinPost (n : Int) (w : World) (e : Ending) (w' : World) : Prop := (∃ r : Int, e = .returned (.int .i64 r) ∧ 0 ≤ r ∧ r < n) ∧ w = w'

set_option maxHeartbeats 400000 in
theorem within_any (i n : Int) (w : World) (h0 : 0 < n) (h1 : n ≤ 1000001) :
    Calls Tryd.prog 62 #[.int .i64 i, .int .i64 n] w (WithinPost n w) := by
  go_enter Tryd.func62, Tryd.ntmps62
  go_wp2
  go_ret
  refine ⟨⟨_, rfl, ?_⟩, rfl⟩
  have hx : 0 ≤ IntKind.u64.wrap i := by
    have e : IntKind.u64.wrap i = i % 18446744073709551616 := by rfl
    rw [e]; exact Int.emod_nonneg _ (by decide)
  rw [Int.tmod_eq_emod_of_nonneg hx]
  have h2 := Int.emod_nonneg (IntKind.u64.wrap i) (show n ≠ 0 by omega)
  have h3 := Int.emod_lt_of_pos (IntKind.u64.wrap i) h0
  rw [IntWalk.wrap64_in _ ⟨by omega, by omega⟩]
  exact ⟨h2, h3⟩

end Go.Proofs.YtnmpkjlbphjddaaDoor
