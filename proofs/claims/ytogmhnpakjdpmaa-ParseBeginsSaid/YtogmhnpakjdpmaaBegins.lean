/-
  The walk over the statement on beginnings.
-/
import Derived.Test.YtogmhnpakjdpmaaLists
import Derived.Deep.AppendLies
namespace Go.Proofs.Ytogmhnpakjdpmaa
open Go.RowKit

/-- What holds of memory while the statement runs. -/
def BInv (w wr : World) (cs : Array Value) : Prop := wr.heap[w.heap.size]? = some (.cells cs 24 (0, 0)) ∧ Below w.heap.size w wr
theorem BInv.step {w wr wr' : World} {cs : Array Value} (h : BInv w wr cs) (hb : Below wr.heap.size wr wr') : BInv w wr' cs :=
  ⟨by rw [hb.block _ (lt_of_block h.1)]; exact h.1, h.2.trans (hb.mono h.2.size)⟩
theorem BInv.start {w w2 : World} {cs : Array Value} (hb : Below (w.alloc (.cells cs 24)).heap.size (w.alloc (.cells cs 24)) w2) : BInv w w2 cs :=
  ⟨by rw [hb.block _ (by simp)]; exact new_blk w cs 24, ((Below.refl _ _).alloc (Nat.le_refl _) _).trans (hb.mono (by simp))⟩

theorem later6 {w w2 : World} (hb : Below (w.alloc (.cells zc 28)).drew.heap.size (w.alloc (.cells zc 28)).drew w2) : w2.heap[w.heap.size]? = some (.cells zc 28 (0, 0)) := by
  rw [hb.block _ (by show w.heap.size < (w.heap.push _).size; simp)]
  exact new_blk w zc 28
theorem later6c {w w2 : World} (hb : Below (w.alloc (.cells zc 28)).drew.heap.size (w.alloc (.cells zc 28)).drew w2) :
    (w2.cell? ⟨w.heap.size, 0, none⟩ = some (.int .i64 0) ∧ w2.cell? ⟨w.heap.size, 1, none⟩ = some (.int .i64 0) ∧ w2.cell? ⟨w.heap.size, 2, none⟩ = some (.int .i64 0) ∧ w2.cell? ⟨w.heap.size, 3, none⟩ = some (.int .i64 0) ∧ w2.cell? ⟨w.heap.size, 4, none⟩ = some (.int .i64 0) ∧ w2.cell? ⟨w.heap.size, 5, none⟩ = some (.int .i64 0)) ∧
      (w2.frozen? ⟨w.heap.size, 0, none⟩ = false ∧ w2.frozen? ⟨w.heap.size, 1, none⟩ = false ∧ w2.frozen? ⟨w.heap.size, 2, none⟩ = false ∧ w2.frozen? ⟨w.heap.size, 3, none⟩ = false ∧ w2.frozen? ⟨w.heap.size, 4, none⟩ = false ∧ w2.frozen? ⟨w.heap.size, 5, none⟩ = false) := by
  have h := later6 hb
  exact ⟨⟨blk_cell h 0 rfl, blk_cell h 1 rfl, blk_cell h 2 rfl, blk_cell h 3 rfl, blk_cell h 4 rfl, blk_cell h 5 rfl⟩, blk_free h 0, blk_free h 1, blk_free h 2, blk_free h 3, blk_free h 4, blk_free h 5⟩
theorem six_far {w : World} {B b o : Nat} (h : b ≠ B) (v0 v1 v2 v3 v4 v5 : Value) :
    ((((((w.setCell ⟨B, 0, none⟩ v0).setCell ⟨B, 1, none⟩ v1).setCell ⟨B, 2, none⟩ v2).setCell ⟨B, 3, none⟩ v3).setCell ⟨B, 4, none⟩ v4).setCell ⟨B, 5, none⟩ v5).cell? ⟨b, o, none⟩ = w.cell? ⟨b, o, none⟩ := by
  have one : ∀ (W : World) (i : Nat) (v : Value), (W.setCell ⟨B, i, none⟩ v).cell? ⟨b, o, none⟩ = W.cell? ⟨b, o, none⟩ := fun W i v => by
    have hh : (W.setCell ⟨B, i, none⟩ v).heap[b]? = W.heap[b]? := by
      show (W.heap.modify B _)[b]? = _
      rw [Array.getElem?_modify, if_neg (fun e => h e.symm)]
    simp only [World.cell?, hh]
  rw [one, one, one, one, one, one]

/-- The box and the rest of memory, seen from one round of the inner loop. -/
def QX (w wr W : World) (cs : Array Value) : Prop := BInv w W cs ∧ Below wr.heap.size wr W
theorem sx_alloc {w wr W : World} {cs : Array Value} {b : Bool} (h : W.cell? ⟨w.heap.size, 3, none⟩ = some (.bool b) ∧ QX w wr W cs) (o : Obj) :
    (W.alloc o).cell? ⟨w.heap.size, 3, none⟩ = some (.bool b) ∧ QX w wr (W.alloc o) cs :=
  ⟨cell_later (below_new W o) h.1, h.2.1.step (below_new W o), h.2.2.alloc h.2.2.size o⟩
theorem sx_alloc_drew {w wr W : World} {cs : Array Value} {b : Bool} (h : W.drew.cell? ⟨w.heap.size, 3, none⟩ = some (.bool b) ∧ QX w wr W.drew cs) (o : Obj) :
    (W.alloc o).drew.cell? ⟨w.heap.size, 3, none⟩ = some (.bool b) ∧ QX w wr (W.alloc o).drew cs := by
  have h1 := sx_alloc h o
  exact ⟨h1.1, ⟨h1.2.1.1, ⟨h1.2.1.2.os, h1.2.1.2.tape, h1.2.1.2.output, h1.2.1.2.size, h1.2.1.2.block⟩⟩, ⟨h1.2.2.os, h1.2.2.tape, h1.2.2.output, h1.2.2.size, h1.2.2.block⟩⟩
theorem sx_step {w wr W W' : World} {cs : Array Value} {b : Bool} (h : W.cell? ⟨w.heap.size, 3, none⟩ = some (.bool b) ∧ QX w wr W cs) (hb : Below W.heap.size W W') :
    W'.cell? ⟨w.heap.size, 3, none⟩ = some (.bool b) ∧ QX w wr W' cs :=
  ⟨cell_later hb h.1, h.2.1.step hb, h.2.2.trans (hb.mono h.2.2.size)⟩
theorem sx_grown {w wr W W' : World} {cs : Array Value} {b : Bool} {v : Value} (h : W.cell? ⟨w.heap.size, 3, none⟩ = some (.bool b) ∧ QX w wr W cs) (hg : W.grownBy W' v.ownBlock)
    (hrow : ∀ k, v.ownBlock = some k → wr.heap.size ≤ k) (hwl : w.heap.size < wr.heap.size) :
    W'.cell? ⟨w.heap.size, 3, none⟩ = some (.bool b) ∧ QX w wr W' cs := by
  have hne : some w.heap.size ≠ v.ownBlock := fun e => by have := hrow _ e.symm; omega
  have hk : W'.heap[w.heap.size]? = W.heap[w.heap.size]? := hg.block _ (lt_of_block h.2.1.1) hne
  refine ⟨?_, ⟨hk.trans h.2.1.1, Below.grown h.2.1.2 hg h.2.1.2.size (fun k e => by have := hrow k e; omega)⟩, Below.grown h.2.2 hg h.2.2.size hrow⟩
  rw [← h.1]; simp [World.cell?, hk]
theorem sx_six {w wr W : World} {cs : Array Value} {b : Bool} {B : Nat} (h : W.cell? ⟨w.heap.size, 3, none⟩ = some (.bool b) ∧ QX w wr W cs) (hwl : w.heap.size < wr.heap.size) (hB : wr.heap.size ≤ B) (v0 v1 v2 v3 v4 v5 : Value) :
    ((((((W.setCell ⟨B, 0, none⟩ v0).setCell ⟨B, 1, none⟩ v1).setCell ⟨B, 2, none⟩ v2).setCell ⟨B, 3, none⟩ v3).setCell ⟨B, 4, none⟩ v4).setCell ⟨B, 5, none⟩ v5).cell? ⟨w.heap.size, 3, none⟩ = some (.bool b) ∧
      QX w wr ((((((W.setCell ⟨B, 0, none⟩ v0).setCell ⟨B, 1, none⟩ v1).setCell ⟨B, 2, none⟩ v2).setCell ⟨B, 3, none⟩ v3).setCell ⟨B, 4, none⟩ v4).setCell ⟨B, 5, none⟩ v5) cs := by
  have hb : ∀ (C : Nat), C ≤ B → Below C W ((((((W.setCell ⟨B, 0, none⟩ v0).setCell ⟨B, 1, none⟩ v1).setCell ⟨B, 2, none⟩ v2).setCell ⟨B, 3, none⟩ v3).setCell ⟨B, 4, none⟩ v4).setCell ⟨B, 5, none⟩ v5) := fun C hC =>
    ((((((Below.refl C W).setCell hC _).setCell hC _).setCell hC _).setCell hC _).setCell hC _).setCell hC _
  have h2 := hb wr.heap.size hB
  refine ⟨(six_far (by omega) v0 v1 v2 v3 v4 v5).trans h.1, ⟨?_, h.2.1.2.trans (hb _ (by omega))⟩, h.2.2.trans h2⟩
  rw [(hb (w.heap.size + 1) (by omega)).block _ (by omega)]
  exact h.2.1.1
theorem below_blk {W W' : World} (hb : Below W.heap.size W W') (B : Nat) (o : Obj) (h : W.heap[B]? = some o) : W'.heap[B]? = some o := by
  rw [hb.block _ (lt_of_block h)]; exact h
theorem grown_blk {W W' : World} {v : Value} (hg : W.grownBy W' v.ownBlock) (B : Nat) (o : Obj) (h : W.heap[B]? = some o) (hne : some B ≠ v.ownBlock) : W'.heap[B]? = some o := by
  rw [hg.block _ (lt_of_block h) hne]; exact h
theorem six_all {W : World} {B : Nat} (h : W.heap[B]? = some (.cells #[.int .i64 0, .int .i64 0, .int .i64 0, .int .i64 0, .int .i64 0, .int .i64 0] 28 (0, 0))) :
    (W.cell? ⟨B, 0, none⟩ = some (.int .i64 0) ∧ W.cell? ⟨B, 1, none⟩ = some (.int .i64 0) ∧ W.cell? ⟨B, 2, none⟩ = some (.int .i64 0) ∧ W.cell? ⟨B, 3, none⟩ = some (.int .i64 0) ∧ W.cell? ⟨B, 4, none⟩ = some (.int .i64 0) ∧ W.cell? ⟨B, 5, none⟩ = some (.int .i64 0)) ∧
      (W.frozen? ⟨B, 0, none⟩ = false ∧ W.frozen? ⟨B, 1, none⟩ = false ∧ W.frozen? ⟨B, 2, none⟩ = false ∧ W.frozen? ⟨B, 3, none⟩ = false ∧ W.frozen? ⟨B, 4, none⟩ = false ∧ W.frozen? ⟨B, 5, none⟩ = false) :=
  ⟨⟨blk_cell h 0 rfl, blk_cell h 1 rfl, blk_cell h 2 rfl, blk_cell h 3 rfl, blk_cell h 4 rfl, blk_cell h 5 rfl⟩, blk_free h 0, blk_free h 1, blk_free h 2, blk_free h 3, blk_free h 4, blk_free h 5⟩
theorem ns_own {W : World} {base g cap : Nat} {l : List Int} (h : W.ownsRow base 3 1 (.slice (some ⟨g, 0, none⟩) (l.length + 1) cap) (l.length + 1) ((l.map fun n : Int => Value.int .i64 n) ++ [.int .i64 120])) :
    Ns W (some ⟨g, 0, none⟩) (l ++ [120]) := fun i hi => by
  rw [List.length_append, List.length_singleton] at hi
  refine ⟨g, 0, rfl, ?_⟩
  rw [Nat.zero_add, World.ownsRow.cellAt h i (by omega)]
  have e : (l.map fun n : Int => Value.int .i64 n) ++ [.int .i64 120] = (l ++ [120]).map fun n : Int => Value.int .i64 n := by simp
  rw [e, List.getElem?_map, List.getElem?_eq_getElem (by simpa using hi)]
  simp [rd, List.getD_eq_getElem?_getD, List.getElem?_eq_getElem (show i < (l ++ [120]).length by simpa using hi)]
theorem sx_b {w wr W : World} {cs : Array Value} {b : Bool} (h : W.cell? ⟨w.heap.size, 3, none⟩ = some (.bool b) ∧ QX w wr W cs) : BInv w W cs := h.2.1
theorem sx_size {w wr W : World} {cs : Array Value} {b : Bool} (h : W.cell? ⟨w.heap.size, 3, none⟩ = some (.bool b) ∧ QX w wr W cs) : wr.heap.size ≤ W.heap.size := h.2.2.size
theorem blk_alloc {W : World} {B : Nat} {o : Obj} (h : W.heap[B]? = some o) (o' : Obj) : (W.alloc o').heap[B]? = some o := by
  rw [(below_new W o').block B (lt_of_block h)]; exact h
theorem told_x {W : World} {base g cap : Nat} {l : List Int} {b : Bool} (h : W.ownsRow base 3 1 (.slice (some ⟨g, 0, none⟩) (l.length + 1) cap) (l.length + 1) ((l.map fun n : Int => Value.int .i64 n) ++ [.int .i64 120])) (hl : l.length ≤ 30)
    (hQ : ofR (l ++ [120]) 99 b = (⟨0, 0, 0, 0, 0, 0⟩, false, 5)) :
    Calls Try.prog 6 #[.slice (some ⟨g, 0, none⟩) (l.length + 1) cap, .int .i64 1, .int .i64 99, .bool b] W fun e w' => e = .returned (.tuple #[.agg #[.int .i64 0, .int .i64 0, .int .i64 0, .int .i64 0, .int .i64 0, .int .i64 0], .bool false, .int .i64 5]) ∧ Below W.heap.size W w' := by
  have h1 := of_told (some ⟨g, 0, none⟩) (l ++ [120]) cap 99 b W (ns_own h) (by omega) (by simp; omega) hQ
  rw [List.length_append, List.length_singleton] at h1
  exact h1
theorem new_at (W : World) (cs : Array Value) (T : TypeId) (B : Nat) (h : W.heap.size = B) : (W.alloc (.cells cs T)).heap[B]? = some (.cells cs T (0, 0)) := by rw [← h]; exact new_blk W cs T
theorem step_x {ops : Array Oper} {o : Oper} {a : Act} {K : Act → World → Prop} {Q : Exit → Act → World → Prop} {E : Prop} {w wr W : World} {cs : Array Value} {b : Bool} {v : Value} {base B : Nat} {l : List Int} (hgd : o.guard = none) (s x : Operand)
    (ho : o.op = .call { callee := .builtin .append, args := #[s, x], argTypes := #[26, 26] }) (hs : a.eval s = v) (hx : a.eval x = .slice (some ⟨B, 0, none⟩) 1 1) (hl : l.length ≤ 30)
    (hS : W.cell? ⟨w.heap.size, 3, none⟩ = some (.bool b) ∧ QX w wr W cs) (hwl : w.heap.size < wr.heap.size) (hb : wr.heap.size ≤ base)
    (hown : W.ownsRow base 3 1 v l.length (l.map fun n : Int => Value.int .i64 n)) (hX : W.heap[B]? = some (.cells #[.int .i64 120] 3 (0, 0)))
    (h : ∀ g cap W', W'.ownsRow wr.heap.size 3 1 (.slice (some ⟨g, 0, none⟩) (l.length + 1) cap) (l.length + 1) ((l.map fun n : Int => Value.int .i64 n) ++ [.int .i64 120]) → W.grownBy W' v.ownBlock →
      (W'.cell? ⟨w.heap.size, 3, none⟩ = some (.bool b) ∧ QX w wr W' cs) → wr.heap.size ≤ W'.heap.size → K (a.put o.dst (.slice (some ⟨g, 0, none⟩) (l.length + 1) cap)) W') :
    if Region.wanted o (yielded ops a.tmps) = true then Oper.wp Try.prog o a W K Q else E := by
  obtain ⟨i0, hi0, hi1, hi2, hi3⟩ := info_parts Try.info3
  have hown' : W.ownsRow wr.heap.size 3 1 v l.length (l.map fun n : Int => Value.int .i64 n) := ⟨hown.1, by
    rcases hown.2 with h0 | ⟨g, cap, cur, h1, h2, h3⟩
    · exact .inl h0
    · exact .inr ⟨g, cap, cur, h1, by omega, h3⟩⟩
  refine step_append_lies W hgd s x 26 ho wr.heap.size 3 i0 (.int .i64 0) 1 8 Try.underlying26 hi0 hi1 hi2 hi3 rfl (by decide) v l.length (l.map fun n : Int => Value.int .i64 n) hs hown' ⟨B, 0, none⟩ 1 1 [.int .i64 120] hx rfl
    (World.news_of_block (cs := #[.int .i64 120]) (t := 3) (fr := (0, 0)) hX) (by simp [Value.oneCell']) (by omega) (by unfold maxLen; omega) (by omega) (sx_size hS) W.heap.size rfl ?_
  intro g cap w5 hown5 hgrow _ _
  have hs5 := sx_grown hS hgrow (fun k e => (hown'.lt k e).1) hwl
  exact h g cap w5 hown5 hgrow hs5 (sx_size hs5)
theorem sx_base {w wr W W' : World} {cs : Array Value} {b : Bool} (h : W.cell? ⟨w.heap.size, 3, none⟩ = some (.bool b) ∧ QX w wr W cs) (_hb : Below W.heap.size W W') : wr.heap.size ≤ W.heap.size := h.2.2.size

set_option maxRecDepth 100000 in
set_option maxHeartbeats 4000000 in
theorem begins_any (a : Option Addr) (n c : Nat) (x1 x2 : Int) (b : Bool) (w : World) (h : Ls w a n) (hn : n ≤ 1000000000000000) :
    Calls Try.prog 3 #[.agg #[.slice a n c, .int .i64 x1, .int .i64 x2, .bool b]] w fun e w' => e = .returned (.bool true) ∧ Below w.heap.size w w' := by
  have hb0 : Below w.heap.size w (w.alloc (.cells #[.slice a n c, .int .i64 x1, .int .i64 x2, .bool b] 24)) := (Below.refl _ _).alloc (Nat.le_refl _) _
  have cH := heavy_any a n c x1 x2 b _ (h.below hb0) hn
  unfold HvPost at cH
  have HL := Lib.hid h
  have HB0 := Lib.hid hb0
  clear h hb0
  obtain ⟨cs, hcs⟩ : ∃ cs : Array Value, #[.slice a n c, .int .i64 x1, .int .i64 x2, .bool b] = cs := ⟨_, rfl⟩
  have HCS := Lib.hid hcs
  clear hcs
  go_enter Try.func3, Try.ntmps3
  go_upto_region 1 with (fail)
  go_cut [16] (fun s16 wx => ∃ R : Bool, s16 = .bool R ∧ BInv w wx cs)
  case first =>
    go_wp2_with (go_at_call 5; refine cH.mono ?_; rintro e w1 ⟨⟨R, rfl⟩, hb1⟩)
    go_meet
    exact ⟨R, rfl, HCS.out ▸ BInv.start hb1⟩
  case rest =>
    obtain ⟨R, rfl, hI⟩ := hcut
    cases R with
    | true =>
      go_wp2
      go_ret
      exact ⟨rfl, hI.2⟩
    | false =>
      clear cH HB0
      have HI0 := Lib.hid hI
      clear hI
      go_wp2
      go_loopw [3] (fun v wr => ∃ k : Nat, k ≤ n ∧ k ≤ 8 ∧ v = .int .i64 k ∧ BInv w wr cs) (fun v _ => n - (intOf v).toNat)
      case atStart => exact ⟨0, Nat.zero_le _, by omega, rfl, HI0.out⟩
      case round =>
        clear HI0
        obtain ⟨k, hk, hk8, rfl, hI⟩ := hrel
        have hblk := hI.1
        rw [← HCS.out] at hblk
        have hc0 := blk_cell hblk 0 (v := .slice a n c) rfl
        have hc3 := blk_cell hblk 3 (v := .bool b) rfl
        clear hblk
        rcases (show (k < n ∧ k < 8) ∨ ¬ k < n ∨ (k < n ∧ ¬ k < 8) by omega) with ⟨hlt, h8⟩ | hno
        · have t1 : decide ((k : Int) < (n : Int)) = true := by simp; omega
          have t2 : decide (k < n) = true := by simp; omega
          have t3 : decide ((k : Int) < 8) = true := by simp; omega
          obtain ⟨b', off, a', l, c', rfl, hcl, hn', hl15, hcap⟩ := (HL.out.below hI.2) k hlt
          have hk0 : (0 : Int) ≤ (k : Int) := by omega
          have hk1 : (k : Int) < (n : Int) := by omega
          by_cases h30 : l.length ≤ 30
          · have t4 : decide ((30 : Int) < (l.length : Int)) = false := by simp; omega
            have cO := of_any a' l c' 99 b wr hn' (by omega) hl15
            unfold OfPost at cO
            obtain ⟨⟨⟨y0, y1, y2, y3, y4, y5⟩, m, er⟩, hR⟩ : ∃ R, ofR l 99 b = R := ⟨_, rfl⟩
            have cO := of_told a' l c' 99 b wr hn' (by omega) hl15 hR
            by_cases hok : m = false ∧ er = 0
            · obtain ⟨rfl, rfl⟩ := hok
              have hP : ∀ q, q < l.length → ofR (l.take q) 99 b = (⟨0, 0, 0, 0, 0, 0⟩, true, 0) := fun q hq => begins_more l 99 b (by rw [hR]) (by rw [hR]) q hq
              have hQ : ofR (l ++ [120]) 99 b = (⟨0, 0, 0, 0, 0, 0⟩, false, 5) := behind_none l 120 99 b (by rw [hR]) (by rw [hR])
              have HI := Lib.hid hI
              have HN := Lib.hid hn'
              have hlw : ∀ i, i < l.length → ∃ b off, a' = some ⟨b, off, none⟩ := fun i hi => by obtain ⟨b, off, e, _⟩ := hn' i hi; exact ⟨b, off, e⟩
              have HW := Lib.hid hlw
              have HNW : Hid (∀ W, Below wr.heap.size wr W → Ns W a' l) := Lib.hid fun W hW => HN.out.below hW
              clear hI hR hn' hlw HN
              go_wp2_with (first
                | (go_at_call 6; refine cO.mono ?_; rintro e w2 ⟨rfl, hb2⟩)
                | (go_at_call 7; refine (num_any _ _).mono ?_; rintro e w3 ⟨rfl, rfl⟩))
              have HI2 : Hid (BInv w _ cs ∧ Below wr.heap.size wr _) := Lib.hid ⟨(HI.out.step hb2).step (Below.alloc (Below.refl _ w2) (Nat.le_refl _) (.cells #[.int .i64 y0, .int .i64 y1, .int .i64 y2, .int .i64 y3, .int .i64 y4, .int .i64 y5] 28)), hb2.trans (Below.alloc (Below.refl _ w2) hb2.size (.cells #[.int .i64 y0, .int .i64 y1, .int .i64 y2, .int .i64 y3, .int .i64 y4, .int .i64 y5] 28))⟩
              obtain ⟨WR, hWR⟩ : ∃ WR, WR = wr := ⟨_, rfl⟩
              rw [← hWR] at HI2 HNW
              clear HI hb2 cO hcl hc0 hc3 hWR
              go_loopg [8] 40 (fun gk v wi => ∃ q : Nat, q ≤ l.length ∧ l.length - q < gk ∧ v = .int .i64 q ∧ BInv w wi cs ∧ Below WR.heap.size WR wi)
              case atStart => exact ⟨0, by omega, by omega, rfl, HI2.out⟩
              case round =>
                clear HI2
                obtain ⟨q, hq, hqg, rfl, hI, hBW⟩ := hrel
                obtain ⟨gq, rfl⟩ : ∃ gq, gk = gq + 1 := ⟨gk - 1, by omega⟩
                have hblk := hI.1
                rw [← HCS.out] at hblk
                have hc3 := blk_cell hblk 3 (v := .bool b) rfl
                clear hblk
                have HI := Lib.hid hI
                by_cases hql : q < l.length
                · have t6 : decide ((q : Int) < (l.length : Int)) = true := by simp; omega
                  have t7 : decide (q < l.length) = true := by simp; omega
                  obtain ⟨ab, ao, rfl⟩ := HW.out q hql
                  have htl : (l.take q).length = q := by rw [List.length_take]; omega
                  have cT : ∀ W, Below WR.heap.size WR W → Calls Try.prog 6 #[.slice (some ⟨ab, ao, none⟩) q c', .int .i64 1, .int .i64 99, .bool b] W fun e w' => e = .returned (.tuple #[.agg #[.int .i64 0, .int .i64 0, .int .i64 0, .int .i64 0, .int .i64 0, .int .i64 0], .bool true, .int .i64 0]) ∧ Below W.heap.size W w' := fun W hW => by
                    have := of_told (some ⟨ab, ao, none⟩) (l.take q) c' 99 b W (fun i hi => by
                      rw [htl] at hi
                      obtain ⟨b1, o1, e1, hc1⟩ := HNW.out W hW i (by omega)
                      exact ⟨b1, o1, e1, by rw [rd_take l q i hi]; exact hc1⟩) (by omega) (by omega) (hP q hql)
                    rw [htl] at this
                    exact this
                  have hq0 : (0 : Int) ≤ (q : Int) := by omega
                  have hq1 : (q : Int) ≤ (l.length : Int) := by omega
                  have hq2 : (q : Int) ≤ (c' : Int) := by omega
                  have HBW := Lib.hid hBW
                  have hBd : Below WR.heap.size WR wr.drew := hBW.drew
                  have hId : BInv w wr.drew cs := ⟨hI.1, hI.2.drew⟩
                  have HID := Lib.hid (And.intro hId hBd)
                  clear htl hP hQ hI hBW hId hBd
                  have hc3d : wr.drew.cell? ⟨w.heap.size, 3, none⟩ = some (.bool b) := hc3
                  have hc3a : (wr.alloc (.cells #[.int .i64 0, .int .i64 0, .int .i64 0, .int .i64 0, .int .i64 0, .int .i64 0] 28)).drew.cell? ⟨w.heap.size, 3, none⟩ = some (.bool b) := cell_later (below_new wr _).drew hc3
                  have hwl : w.heap.size < wr.heap.size := lt_of_block HI.out.1
                  go_upto_region 13 with (fail)
                  go_cut [9, 10, 11] (fun s9 s10 s11 wx => ∃ xb : Nat, s9 = .pointer (some ⟨xb, 0, none⟩) ∧ s10 = .bool true ∧ s11 = .int .i64 0 ∧ wx.heap[xb]? = some (.cells zc 28 (0, 0)) ∧ BInv w wx cs ∧ Below WR.heap.size WR wx)
                  case first =>
                    go_region_held3 (fun w' => w'.cell? ⟨w.heap.size, 3, none⟩ = some (.bool b)) (first | with_reducible exact hc3 | with_reducible exact hc3d | with_reducible exact hc3a | with_reducible exact g3 | with_reducible exact g3a | with_reducible exact g3s)
                      (first
                        | (go_at_call 6; refine (cT _ (by first | exact HID.out.2 | exact (HBW.out.alloc HBW.out.size _).drew)).mono ?_; rintro e w3 ⟨rfl, hb3⟩; have hB3 : BInv w w3 cs ∧ Below WR.heap.size WR w3 := (by first | exact ⟨HID.out.1.step hb3, HID.out.2.trans (hb3.mono HID.out.2.size)⟩ | exact ⟨(HI.out.step ((below_new wr (.cells zc 28)).drew)).step hb3, (HBW.out.alloc HBW.out.size (.cells zc 28)).drew.trans (hb3.mono (HBW.out.alloc HBW.out.size (.cells zc 28)).drew.size)⟩); have hblk3 := hB3.1.1; rw [← HCS.out] at hblk3; have g3 := blk_cell hblk3 3 (v := .bool b) rfl; have g3a : (w3.alloc (.cells #[.int .i64 0, .int .i64 0, .int .i64 0, .int .i64 0, .int .i64 0, .int .i64 0] 28)).cell? ⟨w.heap.size, 3, none⟩ = some (.bool b) := cell_later (below_new w3 _) g3; have g3s := (six_far (w := w3) (B := wr.heap.size) (b := w.heap.size) (o := 3) (by omega) (.int .i64 0) (.int .i64 0) (.int .i64 0) (.int .i64 0) (.int .i64 0) (.int .i64 0)).trans g3; (try (have h6 := later6c hb3; obtain ⟨⟨z0, z1, z2, z3, z4, z5⟩, f0, f1, f2, f3, f4, f5⟩ := h6))))
                    all_goals (go_wp2_with fail)
                    all_goals go_meet
                    · exact ⟨_, rfl, rfl, rfl, new_blk w3 _ _, hB3.1.step (below_new _ _), hB3.2.trans (Below.alloc (Below.refl _ w3) hB3.2.size _)⟩
                    · have hbs : Below wr.heap.size wr _ := six_below ((below_new wr (.cells zc 28)).drew.trans (hb3.mono (below_new wr (.cells zc 28)).drew.size)) (.int .i64 0) (.int .i64 0) (.int .i64 0) (.int .i64 0) (.int .i64 0) (.int .i64 0)
                      exact ⟨_, rfl, rfl, rfl, six_set (later6 hb3) _ _ _ _ _ _, HI.out.step hbs, HBW.out.trans (hbs.mono HBW.out.size)⟩
                  case rest =>
                    obtain ⟨xb, rfl, rfl, rfl, hxb, hI2, hBW2⟩ := hcut
                    have z0 := blk_cell hxb 0 (v := .int .i64 0) rfl
                    have z1 := blk_cell hxb 1 (v := .int .i64 0) rfl
                    have z2 := blk_cell hxb 2 (v := .int .i64 0) rfl
                    have z3 := blk_cell hxb 3 (v := .int .i64 0) rfl
                    have z4 := blk_cell hxb 4 (v := .int .i64 0) rfl
                    have z5 := blk_cell hxb 5 (v := .int .i64 0) rfl
                    have HI2 := Lib.hid (And.intro hI2 hBW2)
                    clear hxb hI2 hBW2 cT hc3 hc3d hc3a HID
                    go_wp2_with (go_at_call 7; refine (num_any _ _).mono ?_; rintro e w3 ⟨rfl, rfl⟩)
                    go_roundg gq
                    case measure => omega
                    case rel => exact ⟨q + 1, by omega, by omega, by go_num, HI2.out⟩
                · have t6 : decide ((q : Int) < (l.length : Int)) = false := by simp; omega
                  have t7 : decide (q < l.length) = false := by simp; omega
                  have hc3d : wr.drew.cell? ⟨w.heap.size, 3, none⟩ = some (.bool b) := hc3
                  have hsd : wr.drew.cell? ⟨w.heap.size, 3, none⟩ = some (.bool b) ∧ QX w wr wr.drew cs := ⟨hc3, ⟨HI.out.1, HI.out.2.drew⟩, (Below.refl _ wr).drew⟩
                  have hwl : w.heap.size < wr.heap.size := lt_of_block HI.out.1
                  have HNX : Hid (∀ W, (W.cell? ⟨w.heap.size, 3, none⟩ = some (.bool b) ∧ QX w wr W cs) → Ns W a' l) := Lib.hid fun W hW => HNW.out W (hBW.trans (hW.2.2.mono hBW.size))
                  clear hI hBW hP
                  go_upto_region 16 with (fail)
                  go_cut [12, 13, 14] (fun _ _ s14 wx => s14 = .int .i64 5 ∧ BInv w wx cs)
                  case first =>
                    clear cO HCS HL HI HNW
                    go_region_held3 (fun w' => w'.cell? ⟨w.heap.size, 3, none⟩ = some (.bool b) ∧ QX w wr w' cs)
                      (first
                        | with_reducible assumption
                        | with_reducible exact sx_alloc_drew (by assumption) _
                        | with_reducible exact sx_alloc (by assumption) _
                        | with_reducible exact sx_alloc hs6 _
                        | with_reducible exact sx_six (by assumption) hwl (by omega) _ _ _ _ _ _)
                      (first
                        | (go_at_call 8; refine (copy_any a' l c' _ (HNX.out _ (by assumption)) (by omega)).mono ?_; rintro e w4 ⟨v, rfl, hown, hb4⟩; have hs4 := sx_step (w := w) (wr := wr) (cs := cs) (b := b) (by assumption) hb4; have hsz4 := sx_size hs4; have hbs4 := sx_base (w := w) (wr := wr) (cs := cs) (b := b) (by assumption) hb4; (try have hx4 := below_blk hb4 wr.heap.size (.cells #[.int .i64 120] 3 (0, 0)) (by first | exact new_at wr #[.int .i64 120] 3 _ rfl | exact blk_alloc (new_at wr #[.int .i64 120] 3 _ rfl) _)); (try have hx4 := below_blk hb4 (wr.heap.size + 1) (.cells #[.int .i64 120] 3 (0, 0)) (by exact new_at (wr.alloc _) #[.int .i64 120] 3 _ (by simp))); (try have hz4 := below_blk hb4 wr.heap.size (.cells #[.int .i64 0, .int .i64 0, .int .i64 0, .int .i64 0, .int .i64 0, .int .i64 0] 28 (0, 0)) (by first | exact new_at wr #[.int .i64 0, .int .i64 0, .int .i64 0, .int .i64 0, .int .i64 0, .int .i64 0] 28 _ rfl | exact blk_alloc (new_at wr #[.int .i64 0, .int .i64 0, .int .i64 0, .int .i64 0, .int .i64 0, .int .i64 0] 28 _ rfl) _)); (try have hz4 := below_blk hb4 (wr.heap.size + 1) (.cells #[.int .i64 0, .int .i64 0, .int .i64 0, .int .i64 0, .int .i64 0, .int .i64 0] 28 (0, 0)) (by exact new_at (wr.alloc _) #[.int .i64 0, .int .i64 0, .int .i64 0, .int .i64 0, .int .i64 0, .int .i64 0] 28 _ (by simp))))
                        | (go_at_call 6; refine (told_x (by first | with_reducible exact hown5 | with_reducible exact hown5.alloc _) h30 hQ).mono ?_; rintro e w6 ⟨rfl, hb6⟩; have hs6 := sx_step (w := w) (wr := wr) (cs := cs) (b := b) (by assumption) hb6; (try (have hz6 := below_blk hb6 _ (.cells #[.int .i64 0, .int .i64 0, .int .i64 0, .int .i64 0, .int .i64 0, .int .i64 0] 28 (0, 0)) (by first | with_reducible exact hz5 | with_reducible exact new_at w5 _ _ _ rfl); obtain ⟨⟨z0, z1, z2, z3, z4, z5⟩, f0, f1, f2, f3, f4, f5⟩ := six_all hz6)))
                        | (refine step_x (w := w) (wr := wr) (cs := cs) (b := b) (v := v) (l := l) (by rfl) _ _ (by rfl) (by rfl) (by rfl) h30 (by assumption) hwl hbs4 (by first | with_reducible exact hown | with_reducible exact hown.alloc _ | with_reducible exact (hown.alloc _).alloc _) (by first | with_reducible exact hx4 | with_reducible exact blk_alloc hx4 _ | with_reducible exact new_at w4 _ _ _ rfl | with_reducible exact blk_alloc (new_at w4 _ _ _ rfl) _ | exact new_at (w4.alloc _) _ _ _ (by simp)) ?_; intro g cap w5 hown5 hgrow hs5 hsz5; (try have hz5 := grown_blk hgrow _ (.cells #[.int .i64 0, .int .i64 0, .int .i64 0, .int .i64 0, .int .i64 0, .int .i64 0] 28 (0, 0)) (by first | with_reducible exact hz4 | with_reducible exact blk_alloc hz4 _ | with_reducible exact new_at w4 _ _ _ rfl | with_reducible exact blk_alloc (new_at w4 _ _ _ rfl) _ | exact new_at (w4.alloc _) _ _ (w4.heap.size + 1) (by simp)) (fun e => by have h1 := hown.lt _ e.symm; (try simp at h1) <;> omega)))
                        | fail)
                    all_goals (go_wp2_with fail)
                    all_goals go_meet
                    all_goals exact ⟨rfl, sx_b (by assumption)⟩
                  case rest =>
                    obtain ⟨rfl, hI2⟩ := hcut
                    have HI2 := Lib.hid hI2
                    clear hI2 hc3
                    go_wp2_with (go_at_call 7; refine (num_any _ _).mono ?_; rintro e w3 ⟨rfl, rfl⟩)
                    go_roundw
                    case rel => exact ⟨k + 1, by omega, by omega, by go_num, HI2.out⟩
                    case measure => simp [intOf]; omega
            · have HI := Lib.hid hI
              have hcond : (er != 0) = true ∨ ((er != 0) = false ∧ m = true) := by
                by_cases he : er = 0
                · right; exact ⟨by simp [he], by cases m with | true => rfl | false => exact absurd ⟨rfl, he⟩ hok⟩
                · left; simp [he]
              clear hI hok hR
              rcases hcond with t5 | ⟨t5, rfl⟩
              all_goals
                go_wp2_with (first
                  | (go_at_call 6; refine cO.mono ?_; rintro e w2 ⟨rfl, hb2⟩)
                  | (go_at_call 7; refine (num_any _ _).mono ?_; rintro e w3 ⟨rfl, rfl⟩))
                go_roundw
                case rel => exact ⟨k + 1, by omega, by omega, by go_num, (HI.out.step hb2).step (Below.alloc (Below.refl _ _) (Nat.le_refl _) _)⟩
                case measure => simp [intOf]; omega
          · have t4 : decide ((30 : Int) < (l.length : Int)) = true := by simp; omega
            have HI := Lib.hid hI
            clear hI
            go_wp2
            go_roundw
            case rel => exact ⟨k + 1, by omega, by omega, by go_num, HI.out⟩
            case measure => simp [intOf]; omega
        · have HI := Lib.hid hI
          clear hI
          rcases hno with hlt | ⟨hlt, h8⟩
          all_goals
            (first | have t1 : decide ((k : Int) < (n : Int)) = true := by simp [hlt] | have t1 : decide ((k : Int) < (n : Int)) = false := by simp; omega)
            (first | have t2 : decide (k < n) = true := by simp [hlt] | have t2 : decide (k < n) = false := by simp; omega)
            (first | have t3 : decide ((k : Int) < 8) = false := by simp; omega | skip)
            go_wp2_with (go_at_call 9; refine (wakes_any _).mono ?_; rintro e w2 ⟨rfl, hb2⟩)
            go_ret
            exact ⟨rfl, (HI.out.step hb2).2⟩

end Go.Proofs.Ytogmhnpakjdpmaa
