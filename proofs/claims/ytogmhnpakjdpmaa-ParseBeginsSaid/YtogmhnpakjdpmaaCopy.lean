/-
  The walk over the copy of a list of keys.
-/
import Derived.Test.YtogmhnpakjdpmaaWakes
namespace Go.Proofs.Ytogmhnpakjdpmaa
open Go.RowKit

theorem Try.info3 : (Try.prog.info? 3).map (fun i => (i.zero, i.size, i.bytes)) = some (some (.int .i64 0), 1, 8) := by kernel_rfl

theorem take_vals (l : List Int) (k : Nat) (h : k < l.length) : ((l.map fun n : Int => Value.int .i64 n).take k) ++ [.int .i64 (rd l k)] = (l.map fun n : Int => Value.int .i64 n).take (k + 1) := by
  rw [List.take_succ_eq_append_getElem (by simpa using h), List.getElem_map]
  unfold rd
  rw [List.getD_eq_getElem?_getD, List.getElem?_eq_getElem h]
  rfl

/-- The copy so far. -/
def CpInv (w wr : World) (l : List Int) (k : Nat) (v : Value) : Prop := wr.ownsRow w.heap.size 3 1 v k ((l.map fun n : Int => Value.int .i64 n).take k) ∧ Below w.heap.size w wr

def CopyPost (w : World) (l : List Int) (e : Ending) (w' : World) : Prop := ∃ v, e = .returned v ∧ w'.ownsRow w.heap.size 3 1 v l.length (l.map fun n : Int => Value.int .i64 n) ∧ Below w.heap.size w w'

set_option maxHeartbeats 800000 in
theorem copy_any (a : Option Addr) (l : List Int) (c : Nat) (w : World) (h : Ns w a l) (hl : l.length ≤ 1000000) :
    Calls Try.prog 8 #[.slice a l.length c] w (CopyPost w l) := by
  obtain ⟨i0, hi, hz0, hz1, hz2⟩ := info_parts Try.info3
  have hI := Lib.hid (And.intro hi (And.intro hz0 (And.intro hz1 hz2)))
  have HN := Lib.hid h
  clear hi hz0 hz1 hz2 h
  go_enter Try.func8, Try.ntmps8
  go_wp2
  go_loopw [3, 4] (fun v i wr => ∃ k : Nat, k ≤ l.length ∧ i = .int .i64 k ∧ CpInv w wr l k v) (fun _ i _ => l.length - (intOf i).toNat)
  case atStart => exact ⟨0, Nat.zero_le _, rfl, World.ownsRow_nil _ _ _ _, Below.refl _ _⟩
  case round =>
    obtain ⟨k, hk, rfl, hinv⟩ := hrel
    by_cases hlt : k < l.length
    · have hltb : decide ((k : Int) < (l.length : Int)) = true := by simp; omega
      have hltc : decide (k < l.length) = true := by simp; omega
      obtain ⟨b, off, rfl, hc⟩ := (HN.out.below hinv.2) k hlt
      have hk0 : (0 : Int) ≤ (k : Int) := by omega
      have hk1 : (k : Int) < (l.length : Int) := by omega
      have hsz := hinv.2.size
      have hlb := World.block_lt_of_cell? _ _ hc
      have htv := take_vals l k hlt
      obtain ⟨kv, hkv⟩ : ∃ kv, rd l k = kv := ⟨_, rfl⟩
      rw [hkv] at hc htv
      have HTV := Lib.hid htv
      clear hkv htv
      go_wp2_with (at_builtin; refine wpList_append_own _ rfl _ _ 26 rfl w.heap.size 3 i0 (.int .i64 0) 1 8 Try.underlying26 hI.out.1 hI.out.2.1 hI.out.2.2.1 hI.out.2.2.2 rfl (by decide) _ _ _ rfl (hinv.1.alloc _) ⟨wr.heap.size, 0, none⟩ 1 1 [.int .i64 kv] rfl rfl ?c1 ?c2 ?c3 ?c4 ?c5 ?_)
      case c2 => first | (intro u hu; simp at hu; subst hu; rfl) | simp [Value.isFloat] | simp | rfl
      case c3 => unfold maxLen; omega
      case c4 => omega
      case c5 => first | omega | (simp; omega)
      intro v' w1 hown' hgrow _
      have hb1 : Below w.heap.size w w1 := Below.grown (hinv.2.alloc hinv.2.size _) hgrow (by simp; omega) (fun j hj => by have := (hinv.1.lt _ hj).1; omega)
      have HS : Hid (CpInv w w1 l (k + 1) v') := Lib.hid ⟨by have := hown'; rw [HTV.out] at this; exact this, hb1⟩
      clear hown' hgrow hinv hc hb1
      go_wp2
      go_roundw
      case rel => exact ⟨k + 1, by omega, by go_num, HS.out⟩
      case measure => simp [intOf]; omega
    · obtain rfl : k = l.length := by omega
      go_wp2
      go_ret
      exact ⟨_, rfl, by have := hinv.1; rw [List.take_of_length_le (by simp)] at this; exact this, hinv.2⟩

end Go.Proofs.Ytogmhnpakjdpmaa
