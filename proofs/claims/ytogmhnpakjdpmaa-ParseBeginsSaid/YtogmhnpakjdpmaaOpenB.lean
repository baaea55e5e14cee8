/-
  The argument of the statement on beginnings, opened with its lists of keys and their sizes.
-/
import Derived.Test.YtogmhnpakjdpmaaOpenA
import Derived.Test.YtogmhnpakjdpmaaLists
import Derived.Deep.Matrix
namespace Go.Proofs.Ytogmhnpakjdpmaa
open Go.ChangeShapes Go.WideShapes Go.ChangeAt Go.RowKit Go.Joins Go.Shelf

theorem Try.bytes26 : Try.prog.bytesOf 26 = 24 := by kernel_rfl
theorem Try.bytes3 : Try.prog.bytesOf 3 = 8 := by kernel_rfl

theorem spot_none {w : World} {a : Addr} {v : Value} (h : w.cell? a = some v) : a.spot = none := by
  unfold World.cell? at h
  split at h
  · split at h
    · cases h
    · rename_i hs
      cases e : a.spot with
      | none => rfl
      | some z => rw [e] at hs; exact absurd rfl hs
  · cases h
theorem add_none (b off i : Nat) : (⟨b, off, none⟩ : Addr).add i = ⟨b, off + i, none⟩ := by
  by_cases h : i = 0
  · subst h; simp [Addr.add]
  · simp [Addr.add, h]

theorem weights_all_mem {H : Type} {t : TypeId} : ∀ {l : List (DataW H)} {d : DataW H}, d ∈ l → ∀ n ∈ DataW.weights Try.prog t d, n ∈ DataW.weightsAll Try.prog t l
  | [], _, hd, _, _ => by cases hd
  | x :: l, d, hd, n, hn => by
    unfold DataW.weightsAll
    rw [List.mem_append]
    rcases List.mem_cons.1 hd with rfl | hd
    · exact .inl hn
    · exact .inr (weights_all_mem hd n hn)

theorem open_rows {H : Type} {enc : TypeId × Value → H} {W : World} {fuel : Nat} {cs : List Value} {x : DataW H × List MemPlace}
    (h : DataW.trod enc Try.prog W 0 (fun _ => true) true fuel 22 cs = some x) (hw : ∀ n ∈ DataW.weights Try.prog 22 x.1, n ≤ reachBytes) :
    ∃ (a : Option Addr) (n c : Nat), cs = [.slice a n c] ∧ Ls W a n ∧ n ≤ 1000000000000000 := by
  have hR : reachBytes = 140737488351232 := by rfl
  rcases Deep.open_int_rows Try.underlying22 Try.underlying26 Try.underlying3 Try.cells26 Try.cells3 h with ⟨rfl, _⟩ | ⟨a, len, cap, A, L, C, Z, rfl, _, hl, _, hx, hrow⟩
  · exact ⟨none, 0, 0, rfl, fun i hi => absurd hi (Nat.not_lt_zero _), by simp⟩
  · have hx1 : x.1 = .slice ((List.range len).map fun r => Deep.intRow .i64 (A r) (L r) (Z r)) ((List.range (cap - len)).map fun j => Deep.intRow .i64 (A (len + j)) (L (len + j)) (Z (len + j))) := by rw [hx]
    rw [hx1] at hw
    simp only [DataW.weights, Try.underlying22, List.mem_cons, List.mem_append, Try.bytes26] at hw
    refine ⟨some a, len, cap, rfl, fun i hi => ?_, ?_⟩
    · obtain ⟨hcell, hLC, _, hZ, _, hnone, hsome⟩ := hrow i (by omega)
      have hsp : a.spot = none := by
        have h1 := (hrow 0 (by omega)).1
        rw [show a.add 0 = a by simp [Addr.add]] at h1
        exact spot_none h1
      obtain ⟨b, off, s0⟩ := a
      simp only at hsp
      subst hsp
      rw [add_none] at hcell
      have hlt : ((Z i).take (L i)).length = L i := by rw [List.length_take]; omega
      refine ⟨b, off, A i, (Z i).take (L i), C i, rfl, by rw [hlt]; exact hcell, fun j hj => ?_, ?_, by rw [hlt]; exact hLC⟩
      · rw [hlt] at hj
        cases hA : A i with
        | none => have := hnone hA; omega
        | some a' =>
          obtain ⟨_, hc⟩ := hsome a' hA
          have hsp' : a'.spot = none := by
            have h1 := hc 0 (by omega)
            rw [show a'.add 0 = a' by simp [Addr.add]] at h1
            exact spot_none h1
          obtain ⟨b', off', s0'⟩ := a'
          simp only at hsp'
          subst hsp'
          refine ⟨b', off', rfl, ?_⟩
          have h1 := hc j (by omega)
          rw [add_none] at h1
          rw [h1]
          unfold rd
          simp [List.getD_eq_getElem?_getD, hj]
      · rw [hlt]
        cases hA : A i with
        | none => have := hnone hA; omega
        | some a' =>
          have := hw _ (.inr (.inl (weights_all_mem (t := 26) (List.mem_map.2 ⟨i, List.mem_range.2 hi, rfl⟩) (((lits .i64 ((Z i).take (L i)) : List (DataW H)).length + (lits .i64 ((Z i).drop (L i)) : List (DataW H)).length) * 8) (by
            simp [Deep.intRow, hA, DataW.weights, Try.underlying26, Try.bytes3]))))
          rw [hR] at this
          simp [lits] at this
          omega
    · have := hw _ (.inl rfl)
      rw [hR, List.length_map, List.length_map, List.length_range, List.length_range] at this
      omega

theorem open_begins {H : Type} {enc : TypeId × Value → H} {W : World} {fuel : Nat} {cs : List Value} {x : DataW H × List MemPlace}
    (h : DataW.trod enc Try.prog W 0 (fun _ => true) true fuel 24 cs = some x) (hw : ∀ n ∈ DataW.weights Try.prog 24 x.1, n ≤ reachBytes) :
    ∃ (a : Option Addr) (n c : Nat) (x1 x2 : Int) (b : Bool), cs = [.slice a n c, .int .i64 x1, .int .i64 x2, .bool b] ∧ Ls W a n ∧ n ≤ 1000000000000000 := by
  obtain ⟨y0, y1, y2, y3, n, rfl, hl, h0, h1, h2, h3⟩ := trod_struct4 Try.underlying24 h
  rw [Try.cells24] at hl
  obtain ⟨c0, c1, c2, c3, rfl⟩ := list4 hl
  simp only [Try.cells22, Try.cells3, Try.cells4, List.drop_zero, List.drop_succ_cons, List.take_succ_cons, List.take_zero] at h0 h1 h2 h3
  obtain ⟨x1, rfl, _⟩ := int_cell h1
  obtain ⟨x2, rfl, _⟩ := int_cell h2
  obtain ⟨b, rfl⟩ := bool_cell h3
  obtain ⟨a, n, c, e, hL, hn⟩ := open_rows h0 (fun k hk => hw k (by
    unfold DataW.weights
    rw [Try.underlying24]
    simp only [List.map_cons, DataW.weightsEach, List.mem_append]
    exact .inl hk))
  obtain rfl : c0 = .slice a n c := by simpa using e
  exact ⟨a, n, c, x1, x2, b, rfl, hL, hn⟩

end Go.Proofs.Ytogmhnpakjdpmaa
