/-
  The walks over the place of an offset, and over the first stage's own example.
-/
import Derived.Test.YtnmpkjlbphjddaaDoorRests
namespace Go.Proofs.YtnmpkjlbphjddaaDoor
open Go.RowKit

def PlacePost (w : World) (r c x : Int) (e : Ending) (w' : World) : Prop := e = .returned (.tuple #[.agg #[.int .i64 r, .int .i64 c], .int .i64 x]) ∧ Below w.heap.size w w'

/-- A new block of two cells, later on. -/
theorem two_later {w w2 : World} {x y : Value} {T : TypeId} (hb : Below (w.alloc (.cells #[x, y] T)).heap.size (w.alloc (.cells #[x, y] T)) w2) :
    w2.cell? ⟨w.heap.size, 0, none⟩ = some x ∧ w2.cell? ⟨w.heap.size, 1, none⟩ = some y ∧ w2.frozen? ⟨w.heap.size, 0, none⟩ = false ∧ w2.frozen? ⟨w.heap.size, 1, none⟩ = false := by
  have h : w2.heap[w.heap.size]? = some (.cells #[x, y] T (0, 0)) := by
    rw [hb.block _ (by simp)]
    show (w.heap.push _)[w.heap.size]? = _
    rw [Array.getElem?_push, if_pos rfl]
  exact ⟨two_cell0 h, two_cell1 h, two_free h 0, two_free h 1⟩

set_option maxHeartbeats 400000 in
theorem textPlace_any (s : ByteArray) (k : Nat) (w : World) (hm : mayB s = true) (hk : k ≤ (rn s).length) (hT : Tabs w) :
    Calls Tryd.prog 48 #[.string s, .int .i64 k] w (PlacePost w (Pl.rowN (rn s) k) ((k - Pl.bgn (rn s) k : Nat) : Int) 0) := by
  have hz := mayB_size hm
  have hlen := rn_le s
  have cM := fun W (h : Tabs W) => may_any s W (by omega) h
  simp only [hm] at cM
  have cO := fun W => of_any s W (by omega)
  clear hm
  obtain ⟨t, ht⟩ : ∃ t, rn s = t := ⟨_, rfl⟩
  simp only [ht] at cO hlen hk ⊢
  clear ht
  have cI := fun mb W (h : MapAt W mb t) => Is_any mb t k W h
  have hn : numB (k : Int) t.length = true := by unfold numB; simp; omega
  simp only [hn] at cI
  have cR := fun mb W (h : MapAt W mb t) => Row_any mb t k W h hk (by omega)
  have hrow := Pl.rowN_lt t k hk
  have hb := Pl.begins_row t k hk
  have hble := Pl.bgn_le t k
  obtain ⟨r, hr⟩ : ∃ r, Pl.rowN t k = r := ⟨_, rfl⟩
  obtain ⟨g, hg⟩ : ∃ g, Pl.bgn t k = g := ⟨_, rfl⟩
  rw [hg] at hble hb ⊢
  rw [hr] at hrow hb ⊢
  simp only [hr] at cR
  clear hn hr hg
  have HB := Lib.hid hb
  have HT := Lib.hid hT
  clear hb hT
  go_enter Tryd.func48, Tryd.ntmps48
  go_wp2_with (first
    | (go_at_call 41; refine (cM _ (HT.out.below ((Below.refl _ _).alloc (Nat.le_refl _) _))).mono ?_; rintro e w1 ⟨rfl, hb1⟩)
    | (go_at_call 42; refine (cO _).mono ?_; rintro e w2 ⟨mb, rfl, hmb, hma, hb2⟩; obtain ⟨hx0, hx1, hf0, hf1⟩ := two_later (hb1.trans (hb2.mono hb1.size)))
    | (go_at_call 43; refine (cI _ _ (by assumption)).mono ?_; rintro e w3 ⟨rfl, rfl⟩)
    | (go_at_call 53; refine (cR _ _ (by assumption)).mono ?_; rintro e w3 ⟨rfl, rfl⟩; obtain ⟨rb, rc, gb, gc, h1, h2, h3, h4⟩ := hma; have hcg := h4.at _ hrow; rw [HB.out] at hcg; clear h1 h3 h4))
  refine bodyPost_ret (v := .tuple #[.agg #[.int .i64 r, .int .i64 ((k : Int) - g)], .int .i64 0]) (by simp [results, Tryd.results48, go_sem, hx0, hx1]) rfl ⟨?_, ?_⟩
  · rw [show ((k : Int) - g) = ((k - g : Nat) : Int) by omega]
  · have hbb := hb1.trans (hb2.mono hb1.size)
    have hs := hbb.size
    have hw : w.heap.size ≤ (w.alloc (.cells #[.int .i64 0, .int .i64 0] 24)).heap.size := by simp
    refine Below.setCell (Below.setCell (((Below.refl _ _).alloc (Nat.le_refl _) _).trans (hbb.mono hw)) (by simp) _) (by simp) _

theorem ex_may : mayB ⟨#[97, 98, 10, 99]⟩ = true := by kernel_rfl
theorem ex_rn : rn ⟨#[97, 98, 10, 99]⟩ = [97, 98, 10, 99] := by kernel_rfl

set_option maxHeartbeats 400000 in
theorem wakes1_any (w : World) (hT : Tabs w) :
    Calls Tryd.prog 29 #[] w fun e w' => e = .returned (.bool true) ∧ Below w.heap.size w w' := by
  have cP := textPlace_any ⟨#[97, 98, 10, 99]⟩ 3 w ex_may (by rw [ex_rn]; decide) hT
  rw [ex_rn, show (((Pl.rowN [97, 98, 10, 99] 3 : Nat)) : Int) = 1 from rfl, show (((3 - Pl.bgn [97, 98, 10, 99] 3 : Nat)) : Int) = 0 from rfl] at cP
  go_enter Tryd.func29, Tryd.ntmps29
  go_wp2_with (first
    | (go_at_call 48; refine cP.mono ?_; rintro e w1 ⟨rfl, hb⟩)
    | (go_at_call 28; refine (num1_any _ _).mono ?_; rintro e w2 ⟨rfl, rfl⟩))
  go_ret
  exact ⟨rfl, hb.alloc hb.size _⟩

end Go.Proofs.YtnmpkjlbphjddaaDoor
