/-
  Which bytes stand in a text, as numbers; what a key may be, as a number of six bits.
-/
import Derived.Lib.Hide
namespace Go.Proofs.Ytogmhnpakjdpmaa

/-- Does a number stand among the first bytes of a text? -/
def inP (k : Int) (s : ByteArray) (p : Nat) : Bool := (s.data.toList.take p).any fun b => (b.toNat : Int) == k
def inS (k : Int) (s : ByteArray) : Bool := inP k s s.size

theorem inP_zero (k : Int) (s : ByteArray) : inP k s 0 = false := rfl
theorem inP_succ (k : Int) (s : ByteArray) (p : Nat) (h : p < s.size) : inP k s (p + 1) = (inP k s p || (((s[p]'h).toNat : Int) == k)) := by
  unfold inP
  have h' : p < s.data.toList.length := by simpa using h
  rw [List.take_succ_eq_append_getElem h', List.any_append]
  simp only [List.any_cons, List.any_nil, Bool.or_false]
  rfl

def str : Nat → ByteArray
  | 0 => ⟨#[100, 99, 121, 62, 60]⟩
  | 1 => ⟨#[117, 85, 126]⟩
  | 2 => ⟨#[120, 88, 115, 83, 68, 67, 89, 112, 80, 74, 126, 105, 97, 73, 65, 111, 79, 117, 118, 86, 46]⟩
  | 3 => ⟨#[45, 43]⟩
  | 4 => ⟨#[109, 64, 113]⟩
  | _ => ⟨#[100, 120, 99, 115, 121, 62, 60, 117, 85, 126, 74, 111, 118, 86]⟩

def ascii (s : ByteArray) : Bool := s.data.toList.all fun b => decide (b.toNat < 128)
theorem ascii_at {s : ByteArray} (h : ascii s = true) (p : Nat) (hp : p < s.size) : (s[p]'hp).toNat < 128 := by
  have := List.all_eq_true.1 h (s.data.toList[p]'(by simpa using hp)) (List.getElem_mem _)
  exact of_decide_eq_true this
theorem str_ascii : ∀ j, ascii (str j) = true
  | 0 | 1 | 2 | 3 | 4 => rfl
  | _ + 5 => rfl

/-- What a key may be, of the first texts. -/
def madeF (k : Int) : Nat → Nat
  | 0 => 0
  | j + 1 => if inS k (str j) then madeF k j ||| 2 ^ j else madeF k j
def madeN (k : Int) : Nat := if k = 18 then 4 else madeF k 6

theorem or_lt (m j : Nat) (hm : m < 64) (hj : j < 6) : m ||| 2 ^ j < 64 := by
  have : (2 : Nat) ^ j < 2 ^ 6 := Nat.pow_lt_pow_right (by omega) hj
  exact Nat.or_lt_two_pow (n := 6) hm this
theorem madeF_lt (k : Int) : ∀ j, j ≤ 6 → madeF k j < 64
  | 0, _ => (by decide : (0 : Nat) < 64)
  | j + 1, h => by
    unfold madeF
    have := madeF_lt k j (by omega)
    split
    · exact or_lt _ _ this (by omega)
    · exact this

/-- May a key be that? -/
def mayB (k : Int) (is : Nat) : Bool := madeN k &&& is != 0

def kstr : Nat → ByteArray
  | 0 => ⟨#[104, 108, 48, 94, 36, 106, 107, 43, 45, 95, 71]⟩
  | 1 => ⟨#[119, 98, 101, 87, 66, 69]⟩
  | 2 => ⟨#[102, 70, 116, 84]⟩
  | 3 => ⟨#[59, 44]⟩
  | 4 => ⟨#[123, 125]⟩
  | 5 => ⟨#[37]⟩
  | _ => ⟨#[39, 96]⟩
theorem kstr_ascii : ∀ j, ascii (kstr j) = true
  | 0 | 1 | 2 | 3 | 4 | 5 => rfl
  | _ + 6 => rfl

/-- The first text, from j on, with a key in it: its number plus one; 0: none. -/
def kindF (k : Int) : Nat → Nat → Nat
  | 0, _ => 0
  | n + 1, j => if inS k (kstr j) then j + 1 else kindF k n (j + 1)
def kindN (k : Int) : Nat := if k = 16777319 then 1 else kindF k 7 0

end Go.Proofs.Ytogmhnpakjdpmaa
