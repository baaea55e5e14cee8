/-
  The walks over what the statement on the cursor's rest calls: the weight of texts, the rest of an offset, the place of one.
-/
import Derived.Test.YtnmpkjlbphjddaaDoorOf
namespace Go.Proofs.YtnmpkjlbphjddaaDoor
open Go.RowKit

/-- The i-th string. -/
def sd (ss : List ByteArray) (i : Nat) : ByteArray := ss.getD i ByteArray.empty

/-- The strings lie from an address on. -/
def Strs (w : World) (a : Option Addr) (ss : List ByteArray) : Prop := ∀ i, i < ss.length → ∃ b off, a = some ⟨b, off, none⟩ ∧ w.cell? ⟨b, off + i, none⟩ = some (.string (sd ss i))

theorem Strs.below {w w' : World} {a : Option Addr} {ss : List ByteArray} (h : Strs w a ss) (hb : Below w.heap.size w w') : Strs w' a ss := fun i hi => by
  obtain ⟨b, off, h1, h2⟩ := h i hi
  exact ⟨b, off, h1, cell_below hb h2⟩

def txs : List ByteArray → Int → Int
  | [], n => n
  | s :: l, n => if n < 1048576 then txs l (n + s.size) else n

theorem txs_drop (ss : List ByteArray) (i : Nat) (h : i < ss.length) (n : Int) : txs (ss.drop i) n = if n < 1048576 then txs (ss.drop (i + 1)) (n + (sd ss i).size) else n := by
  rw [List.drop_eq_getElem_cons h]
  simp [txs, sd, h]

theorem txs_le (l : List ByteArray) : ∀ n : Int, 0 ≤ n → txs l n ≤ 6000 → n ≤ 6000 ∧ ∀ s ∈ l, s.size ≤ 6000 := by
  induction l with
  | nil => intro n _ h; exact ⟨h, fun s hs => by cases hs⟩
  | cons s l ih =>
    intro n hn h
    unfold txs at h
    by_cases hlt : n < 1048576
    · rw [if_pos hlt] at h
      obtain ⟨h1, h2⟩ := ih _ (by omega) h
      refine ⟨by omega, fun x hx => ?_⟩
      rcases List.mem_cons.1 hx with rfl | hx
      · omega
      · exact h2 x hx
    · rw [if_neg hlt] at h; omega

set_option maxHeartbeats 400000 in
theorem texts_any (a : Option Addr) (ss : List ByteArray) (c : Nat) (w : World) (hr : Strs w a ss) (hl : ss.length ≤ 1000000000000000) (hs : ∀ s ∈ ss, s.size ≤ 1000000000000000) :
    Calls Tryd.prog 39 #[.slice a ss.length c] w fun e w' => e = .returned (.int .i64 (txs ss ss.length)) ∧ w = w' := by
  obtain ⟨R, hR⟩ : ∃ R, txs ss ss.length = R := ⟨_, rfl⟩
  rw [hR]
  have HR := Lib.hid hR
  have HS := Lib.hid hr
  have HZ := Lib.hid hs
  clear hr hs hR
  go_enter Tryd.func39, Tryd.ntmps39
  go_wp2
  go_loop [3, 4] (fun n i => ∃ (k : Nat) (z : Int), k ≤ ss.length ∧ 0 ≤ z ∧ z ≤ 3000000000000000 ∧ Hid (txs (ss.drop k) z = R) ∧ n = .int .i64 z ∧ i = .int .i64 k) (fun _ i => ss.length - (intOf i).toNat)
  case atStart => exact ⟨0, ss.length, Nat.zero_le _, by omega, by omega, HR.out, rfl, rfl⟩
  case round =>
    obtain ⟨k, z, hk, hz0, hz1, hH, rfl, rfl⟩ := hrel
    by_cases hlt : k < ss.length
    · have hltb : decide ((k : Int) < (ss.length : Int)) = true := by simp; omega
      have hst := hH.out
      rw [txs_drop ss k hlt] at hst
      by_cases hz : z < 1048576
      · have hzb : decide (z < 1048576) = true := by simp [hz]
        rw [if_pos hz] at hst
        have HN := Lib.hid hst
        obtain ⟨b, off, rfl, hc⟩ := HS.out k hlt
        have hsz : (sd ss k).size ≤ 1000000000000000 := HZ.out _ (by unfold sd; simp [hlt])
        clear hst
        go_wp2
        go_round
        case rel => exact ⟨k + 1, z + (sd ss k).size, by omega, by omega, by omega, HN.out, rfl, by go_num⟩
        case measure => simp [intOf]; omega
      · have hzb : decide (z < 1048576) = false := by simp; omega
        rw [if_neg hz] at hst
        have HN := Lib.hid hst
        clear hst
        go_wp2
        go_ret
        exact ⟨ret_int HN.out, rfl⟩
    · have hltb : decide ((k : Int) < (ss.length : Int)) = false := by simp; omega
      have hst := hH.out
      rw [List.drop_eq_nil_of_le (by omega)] at hst
      have HN := Lib.hid hst
      clear hst
      go_wp2
      go_ret
      exact ⟨ret_int HN.out, rfl⟩

/-- More than is played? -/
def heavyB (ss : List ByteArray) : Bool := decide (6000 < txs ss ss.length)

set_option maxHeartbeats 400000 in
theorem heavy_any (a : Option Addr) (ss : List ByteArray) (c : Nat) (x1 x2 x3 x4 : Int) (w : World) (hr : Strs w a ss) (hl : ss.length ≤ 1000000000000000) (hs : ∀ s ∈ ss, s.size ≤ 1000000000000000) :
    Calls Tryd.prog 21 #[.agg #[.slice a ss.length c, .int .i64 x1, .int .i64 x2, .int .i64 x3, .int .i64 x4]] w fun e w' => e = .returned (.bool (heavyB ss)) ∧ Below w.heap.size w w' := by
  have cT := fun W hW => texts_any a ss c W hW hl hs
  have hH : heavyB ss = decide (6000 < txs ss ss.length) := rfl
  obtain ⟨R, hR⟩ : ∃ R, txs ss ss.length = R := ⟨_, rfl⟩
  simp only [hR] at cT hH
  have HH := Lib.hid hH
  have HR := Lib.hid hr
  clear hR hH hs hr
  go_enter Tryd.func21, Tryd.ntmps21
  go_wp2_with (go_at_call 39; refine (cT _ (HR.out.below ((Below.refl _ _).alloc (Nat.le_refl _) _))).mono ?_; rintro e w' ⟨rfl, rfl⟩)
  go_ret
  exact ⟨ret_bool (by rw [HH.out]), (Below.refl _ _).alloc (Nat.le_refl _) _⟩

/-- The rest of an offset, and the error. -/
def restR (s : ByteArray) (a : Int) : Int × Int := if mayB s = true then if numB a (rn s).length = true then (((restN (rn s) a.toNat : Nat) : Int), 0) else (0, 3) else (0, 1)

def RestPost (w : World) (r : Int × Int) (e : Ending) (w' : World) : Prop := e = .returned (.tuple #[.int .i64 r.1, .int .i64 r.2]) ∧ Below w.heap.size w w'

theorem mayB_size {s : ByteArray} (h : mayB s = true) : s.size ≤ 4000 := by
  unfold mayB at h
  simp only [Bool.and_eq_true, decide_eq_true_eq] at h
  exact h.1

theorem rn_i32 (s : ByteArray) : ∀ i, -2147483648 ≤ Pl.rd (rn s) i ∧ Pl.rd (rn s) i ≤ 2147483647 := fun i => by have := rn_range s i; omega

set_option maxHeartbeats 400000 in
theorem textRest_any (s : ByteArray) (a : Int) (w : World) (hs : s.size ≤ 9223372036854775807) (hT : Tabs w) :
    Calls Tryd.prog 24 #[.string s, .int .i64 a] w (RestPost w (restR s a)) := by
  have cM := may_any s w hs hT
  have hrr : restR s a = if mayB s = true then if numB a (rn s).length = true then (((restN (rn s) a.toNat : Nat) : Int), 0) else (0, 3) else (0, 1) := rfl
  by_cases hm : mayB s = true
  · have hz := mayB_size hm
    have hlen := rn_le s
    rw [if_pos hm] at hrr
    rw [hm] at cM
    have cO := fun W => of_any s W (by omega)
    clear hm
    obtain ⟨t, ht⟩ : ∃ t, rn s = t := ⟨_, rfl⟩
    simp only [ht] at cO hrr hlen
    clear ht
    have cI := fun mb W (h : MapAt W mb t) => Is_any mb t a W h
    by_cases hn : numB a t.length = true
    · rw [if_pos hn] at hrr
      have HR := Lib.hid hrr
      simp only [hn] at cI
      have ha : 0 ≤ a ∧ a ≤ t.length := by unfold numB at hn; simpa using hn
      obtain ⟨k, rfl⟩ : ∃ k : Nat, a = k := ⟨a.toNat, by omega⟩
      have cR := fun mb W (h : MapAt W mb t) => Rest_any mb t k W h (by omega) (by omega)
      clear hrr hn ha
      go_enter Tryd.func24, Tryd.ntmps24
      go_wp2_with (first
        | (go_at_call 41; refine cM.mono ?_; rintro e w1 ⟨rfl, hb1⟩)
        | (go_at_call 42; refine (cO _).mono ?_; rintro e w2 ⟨mb, rfl, hmb, hma, hb2⟩; clear hmb)
        | (go_at_call 43; refine (cI _ _ (by assumption)).mono ?_; rintro e w3 ⟨rfl, rfl⟩)
        | (go_at_call 44; refine (cR _ _ (by assumption)).mono ?_; rintro e w3 ⟨rfl, rfl⟩))
      go_ret2
      exact ⟨by rw [HR.out]; rfl, hb1.trans (hb2.mono hb1.size)⟩
    · rw [if_neg hn] at hrr
      have hn' : numB a t.length = false := by simpa using hn
      simp only [hn'] at cI
      have HR := Lib.hid hrr
      clear hrr hn hn'
      go_enter Tryd.func24, Tryd.ntmps24
      go_wp2_with (first
        | (go_at_call 41; refine cM.mono ?_; rintro e w1 ⟨rfl, hb1⟩)
        | (go_at_call 42; refine (cO _).mono ?_; rintro e w2 ⟨mb, rfl, hmb, hma, hb2⟩; clear hmb)
        | (go_at_call 43; refine (cI _ _ (by assumption)).mono ?_; rintro e w3 ⟨rfl, rfl⟩))
      go_ret2
      exact ⟨by rw [HR.out]; rfl, hb1.trans (hb2.mono hb1.size)⟩
  · rw [if_neg hm] at hrr
    have hm' : mayB s = false := by simpa using hm
    rw [hm'] at cM
    have HR := Lib.hid hrr
    clear hrr hm hm'
    go_enter Tryd.func24, Tryd.ntmps24
    go_wp2_with (go_at_call 41; refine cM.mono ?_; rintro e w1 ⟨rfl, hb1⟩)
    go_ret2
    exact ⟨by rw [HR.out]; rfl, hb1⟩

end Go.Proofs.YtnmpkjlbphjddaaDoor
