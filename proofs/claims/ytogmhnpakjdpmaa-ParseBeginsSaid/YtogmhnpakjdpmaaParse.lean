/-
  The parser as plain functions; what it makes of the beginning of a list of keys.
-/
import Derived.Test.YtogmhnpakjdpmaaSmall
namespace Go.Proofs.Ytogmhnpakjdpmaa

def rd (l : List Int) (i : Nat) : Int := l.getD i 0

/-- What the parser holds: how many keys were read, the command, the error, whether more must follow, whether it was left. -/
structure St where
  pos : Nat
  reg : Int
  cnt : Int
  oper : Int
  key : Int
  wide : Int
  rune : Int
  e : Int
  more : Bool
  esc : Bool

def ov (s : St) : Bool := s.e != 0 || (s.more || s.esc)

abbrev P (α : Type) := List Int → St → α × St
def pureP {α : Type} (a : α) : P α := fun _ s => (a, s)
def bindP {α β : Type} (m : P α) (f : α → P β) : P β := fun l s => f (m l s).1 l (m l s).2
def modP (f : St → St) : P Unit := fun _ s => ((), f s)
def getP {α : Type} (f : St → α) : P α := fun _ s => (f s, s)
def failP (e : Int) : P Unit := fun _ s => ((), if ov s then s else { s with e := e })
def keyP : P Int := fun l s =>
  if ov s then (0, s)
  else if s.pos = l.length then (0, { s with more := true })
  else if rd l s.pos < 1 ∨ 16777216 ≤ rd l s.pos then (0, { s with pos := s.pos + 1, e := 5 })
  else if rd l s.pos = 27 then (0, { s with pos := s.pos + 1, esc := true })
  else (rd l s.pos, { s with pos := s.pos + 1 })

/-- Does a key go on a count? -/
def isD (n k : Int) : Bool := decide (49 ≤ k) && decide (k ≤ 57) || k == 48 && decide (0 < n)
def countF (most : Int) : Nat → Int → Int → P (Int × Int)
  | 0, n, k => pureP (n, k)
  | f + 1, n, k =>
    if isD n k = true then
      (if most < 10 * n + k - 48 then bindP (failP 2) fun _ => pureP (10 * n + k - 48, 0)
       else bindP keyP fun k' => countF most f (10 * n + k - 48) k')
    else pureP (n, k)
def countP (most k : Int) : P (Int × Int) := countF most 5 0 k

def motionB (k : Int) : P Unit :=
  if isB k = true then bindP (modP fun s => { s with key := k }) fun _ => if asksB k = true then bindP keyP fun r => modP fun s => { s with rune := r } else pureP ()
  else failP 5
def motionP (k : Int) : P Unit := if k = 103 then bindP keyP fun r => motionB (16777216 + r) else motionB k
def objectP (k : Int) : P Unit :=
  bindP (modP fun s => { s with wide := k }) fun _ => bindP keyP fun r => bindP (modP fun s => { s with key := r }) fun _ => if objB r = true then pureP () else failP 5

def operA (oper last k : Int) : P Unit :=
  bindP (getP ov) fun o =>
    if o = true then pureP () else if k = last then modP fun s => { s with key := oper } else if k = 105 ∨ k = 97 then objectP k else motionP k
def operZ (most n : Int) : P Unit :=
  bindP (if 0 < n then modP fun s => { s with cnt := max 1 s.cnt * n } else pureP ()) fun _ => bindP (getP (·.cnt)) fun c => if most < c then failP 2 else pureP ()
def operatorP (most oper last : Int) : P Unit :=
  bindP (modP fun s => { s with oper := oper }) fun _ => bindP keyP fun k0 => bindP (countP most k0) fun nk => bindP (operA oper last nk.2) fun _ => operZ most nk.1

def letterP (k : Int) (rec : Bool) : P Unit :=
  bindP (modP fun s => { s with key := k }) fun _ =>
    if k = 113 ∧ rec = true then pureP () else bindP keyP fun r => bindP (modP fun s => { s with rune := r }) fun _ => if r < 97 ∨ 122 < r then failP 5 else pureP ()
def behindP (most : Int) : P Unit :=
  bindP keyP fun k => if mayB k 2 = true then operatorP most (16777216 + k) k else if mayB k 8 = true ∨ k = 103 then modP fun s => { s with key := 16777216 + k } else failP 5
def normalP (most k : Int) (rec : Bool) : P Unit :=
  if k = 103 then behindP most else if mayB k 1 = true then operatorP most k k else if mayB k 16 = true then letterP k rec
  else if k = 114 then bindP (modP fun s => { s with key := k }) fun _ => bindP keyP fun r => modP fun s => { s with rune := r }
  else if mayB k 4 = true then modP fun s => { s with key := k } else motionP k
def regP (k : Int) : P Int :=
  if k = 34 then bindP keyP fun r => bindP (modP fun s => { s with reg := r }) fun _ => bindP (if namedB r = true then pureP () else failP 5) fun _ => keyP
  else pureP k
def commandP (most : Int) (rec : Bool) : P Unit :=
  bindP keyP fun k => bindP (regP k) fun k => bindP (countP most k) fun nk => bindP (modP fun s => { s with cnt := nk.1 }) fun _ =>
    bindP (getP ov) fun o => if o = true then pureP () else normalP most nk.2 rec

def st0 : St := ⟨0, 0, 0, 0, 0, 0, 0, 0, false, false⟩

/-- A command's numbers: register, count, operator, key, wide, rune. -/
structure Cm where
  reg : Int
  cnt : Int
  oper : Int
  key : Int
  wide : Int
  rune : Int
def cm0 : Cm := ⟨0, 0, 0, 0, 0, 0⟩
def ofS (n : Nat) (s : St) : Cm × Bool × Int :=
  if s.e ≠ 0 then (cm0, false, s.e)
  else if s.more = true then (cm0, true, 0)
  else if s.pos < n then (cm0, false, 5)
  else if s.esc = true then (⟨0, 0, 0, 27, 0, 0⟩, false, 0)
  else (⟨s.reg, s.cnt, s.oper, s.key, s.wide, s.rune⟩, false, 0)
def ofR (l : List Int) (most : Int) (rec : Bool) : Cm × Bool × Int := ofS l.length (commandP most rec l st0).2

/-- More is asked for, and nothing failed. -/
def Stuck (s : St) : Prop := s.e = 0 ∧ s.more = true
theorem Stuck.ov {s : St} (h : Stuck s) : ov s = true := by unfold Ytogmhnpakjdpmaa.ov; simp [h.2]

structure Good {α : Type} (m : P α) : Prop where
  le : ∀ l s, s.pos ≤ l.length → (m l s).2.pos ≤ l.length
  stuck : ∀ l s, Stuck s → Stuck (m l s).2
  sim : ∀ L n s, n ≤ L.length → s.pos ≤ n → (m (L.take n) s = m L s ∧ (m L s).2.pos ≤ n) ∨ Stuck (m (L.take n) s).2

theorem good_pure {α : Type} (a : α) : Good (pureP a) := ⟨fun _ _ h => h, fun _ _ h => h, fun _ _ _ _ h => .inl ⟨rfl, h⟩⟩
theorem good_get {α : Type} (f : St → α) : Good (getP f) := ⟨fun _ _ h => h, fun _ _ h => h, fun _ _ _ _ h => .inl ⟨rfl, h⟩⟩
theorem good_mod {f : St → St} (hf : ∀ s, (f s).pos = s.pos ∧ (f s).e = s.e ∧ (f s).more = s.more) : Good (modP f) := by
  refine ⟨fun l s h => ?_, fun l s h => ?_, fun L n s _ h => .inl ⟨rfl, ?_⟩⟩
  · show (f s).pos ≤ _; rw [(hf s).1]; exact h
  · show Stuck (f s); unfold Stuck; rw [(hf s).2.1, (hf s).2.2]; exact h
  · show (f s).pos ≤ _; rw [(hf s).1]; exact h
theorem good_bind {α β : Type} {m : P α} {f : α → P β} (hm : Good m) (hf : ∀ a, Good (f a)) : Good (bindP m f) := by
  refine ⟨fun l s h => (hf _).le _ _ (hm.le _ _ h), fun l s h => (hf _).stuck _ _ (hm.stuck _ _ h), fun L n s hn h => ?_⟩
  rcases hm.sim L n s hn h with ⟨e, hp⟩ | hs
  · show (f (m (L.take n) s).1 (L.take n) (m (L.take n) s).2 = f (m L s).1 L (m L s).2 ∧ _) ∨ Stuck (f (m (L.take n) s).1 (L.take n) (m (L.take n) s).2).2
    rw [e]
    exact (hf _).sim L n _ hn hp
  · exact .inr ((hf _).stuck _ _ hs)
theorem good_if {α : Type} {c : Prop} [Decidable c] {a b : P α} (ha : Good a) (hb : Good b) : Good (if c then a else b) := by
  split
  · exact ha
  · exact hb
theorem good_fail (e : Int) : Good (failP e) := by
  refine ⟨fun l s h => ?_, fun l s h => ?_, fun L n s _ h => .inl ⟨rfl, ?_⟩⟩
  · show (if ov s then s else _).pos ≤ _; split <;> exact h
  · show Stuck (if ov s then s else _); rw [h.ov]; exact h
  · show (if ov s then s else _).pos ≤ _; split <;> exact h

theorem rd_take (L : List Int) (n i : Nat) (h : i < n) : rd (L.take n) i = rd L i := by
  unfold rd
  rw [List.getD_eq_getElem?_getD, List.getD_eq_getElem?_getD, List.getElem?_take, if_pos h]

theorem good_key : Good keyP := by
  refine ⟨fun l s h => ?_, fun l s h => ?_, fun L n s hn h => ?_⟩
  · unfold keyP
    split
    · exact h
    · split
      · exact h
      · split
        · show s.pos + 1 ≤ _; omega
        · split <;> (show s.pos + 1 ≤ _; omega)
  · unfold keyP
    rw [if_pos h.ov]; exact h
  · by_cases ho : ov s = true
    · left
      unfold keyP
      rw [if_pos ho, if_pos ho]
      exact ⟨rfl, h⟩
    · by_cases hp : s.pos = n
      · right
        unfold keyP
        rw [if_neg ho, if_pos (by rw [List.length_take]; omega)]
        refine ⟨?_, rfl⟩
        show s.e = 0
        unfold ov at ho
        simp only [Bool.or_eq_true, bne_iff_ne, ne_eq] at ho
        by_cases he : s.e = 0
        · exact he
        · exact absurd (.inl he) ho
      · left
        have e : rd (L.take n) s.pos = rd L s.pos := rd_take L n _ (by omega)
        unfold keyP
        rw [if_neg ho, if_neg ho, if_neg (show ¬ s.pos = (L.take n).length by rw [List.length_take]; omega), if_neg (show ¬ s.pos = L.length by omega), e]
        refine ⟨rfl, ?_⟩
        split
        · show s.pos + 1 ≤ _; omega
        · split <;> (show s.pos + 1 ≤ _; omega)

theorem good_countF (most : Int) : ∀ f n k, Good (countF most f n k)
  | 0, _, _ => good_pure _
  | f + 1, n, k => by
    unfold countF
    exact good_if (good_if (good_bind (good_fail 2) fun _ => good_pure _) (good_bind good_key fun k' => good_countF most f _ k')) (good_pure _)
theorem good_count (most k : Int) : Good (countP most k) := good_countF most 5 0 k
theorem good_motionB (k : Int) : Good (motionB k) := by
  unfold motionB
  exact good_if (good_bind (good_mod fun s => ⟨rfl, rfl, rfl⟩) fun _ => good_if (good_bind good_key fun r => good_mod fun s => ⟨rfl, rfl, rfl⟩) (good_pure _)) (good_fail 5)
theorem good_motion (k : Int) : Good (motionP k) := by
  unfold motionP
  exact good_if (good_bind good_key fun r => good_motionB _) (good_motionB k)
theorem good_object (k : Int) : Good (objectP k) := by
  unfold objectP
  exact good_bind (good_mod fun s => ⟨rfl, rfl, rfl⟩) fun _ => good_bind good_key fun r => good_bind (good_mod fun s => ⟨rfl, rfl, rfl⟩) fun _ => good_if (good_pure _) (good_fail 5)
theorem good_operA (oper last k : Int) : Good (operA oper last k) := by
  unfold operA
  exact good_bind (good_get _) fun o => good_if (good_pure _) (good_if (good_mod fun s => ⟨rfl, rfl, rfl⟩) (good_if (good_object k) (good_motion k)))
theorem good_operZ (most n : Int) : Good (operZ most n) := by
  unfold operZ
  exact good_bind (good_if (good_mod fun s => ⟨rfl, rfl, rfl⟩) (good_pure _)) fun _ => good_bind (good_get _) fun c => good_if (good_fail 2) (good_pure _)
theorem good_operator (most oper last : Int) : Good (operatorP most oper last) := by
  unfold operatorP
  exact good_bind (good_mod fun s => ⟨rfl, rfl, rfl⟩) fun _ => good_bind good_key fun k0 => good_bind (good_count most k0) fun nk => good_bind (good_operA _ _ _) fun _ => good_operZ _ _
theorem good_letter (k : Int) (rec : Bool) : Good (letterP k rec) := by
  unfold letterP
  exact good_bind (good_mod fun s => ⟨rfl, rfl, rfl⟩) fun _ => good_if (good_pure _) (good_bind good_key fun r => good_bind (good_mod fun s => ⟨rfl, rfl, rfl⟩) fun _ => good_if (good_fail 5) (good_pure _))
theorem good_behind (most : Int) : Good (behindP most) := by
  unfold behindP
  exact good_bind good_key fun k => good_if (good_operator _ _ _) (good_if (good_mod fun s => ⟨rfl, rfl, rfl⟩) (good_fail 5))
theorem good_normal (most k : Int) (rec : Bool) : Good (normalP most k rec) := by
  unfold normalP
  exact good_if (good_behind most) (good_if (good_operator _ _ _) (good_if (good_letter _ _) (good_if (good_bind (good_mod fun s => ⟨rfl, rfl, rfl⟩) fun _ => good_bind good_key fun r => good_mod fun s => ⟨rfl, rfl, rfl⟩) (good_if (good_mod fun s => ⟨rfl, rfl, rfl⟩) (good_motion k)))))
theorem good_reg (k : Int) : Good (regP k) := by
  unfold regP
  exact good_if (good_bind good_key fun r => good_bind (good_mod fun s => ⟨rfl, rfl, rfl⟩) fun _ => good_bind (good_if (good_pure _) (good_fail 5)) fun _ => good_key) (good_pure _)
theorem good_command (most : Int) (rec : Bool) : Good (commandP most rec) := by
  unfold commandP
  exact good_bind good_key fun k => good_bind (good_reg k) fun k => good_bind (good_count most k) fun nk => good_bind (good_mod fun s => ⟨rfl, rfl, rfl⟩) fun _ => good_bind (good_get _) fun o => good_if (good_pure _) (good_normal _ _ _)

/-- Of keys that are a command, or an escape: all were read. -/
theorem ofS_ok (n : Nat) (s : St) (h1 : (ofS n s).2.1 = false) (h2 : (ofS n s).2.2 = 0) : s.e = 0 ∧ s.more = false ∧ n ≤ s.pos := by
  unfold ofS at h1 h2
  by_cases he : s.e ≠ 0
  · rw [if_pos he] at h2; exact absurd h2 he
  · rw [if_neg he] at h1 h2
    by_cases hm : s.more = true
    · rw [if_pos hm] at h1; cases h1
    · rw [if_neg hm] at h1 h2
      by_cases hp : s.pos < n
      · rw [if_pos hp] at h2; cases h2
      · exact ⟨by simpa using he, by simpa using hm, by omega⟩

/-- Each beginning of a command asks for more. -/
theorem begins_more (L : List Int) (most : Int) (rec : Bool) (h1 : (ofR L most rec).2.1 = false) (h2 : (ofR L most rec).2.2 = 0) (n : Nat) (hn : n < L.length) : ofR (L.take n) most rec = (cm0, true, 0) := by
  obtain ⟨he, hm, hp⟩ := ofS_ok _ _ h1 h2
  rcases (good_command most rec).sim L n st0 (by omega) (Nat.zero_le _) with ⟨_, hpos⟩ | hs
  · omega
  · unfold ofR ofS
    rw [if_neg (by rw [hs.1]; simp), if_pos hs.2]

/-- Behind a command nothing more may come. -/
theorem behind_none (L : List Int) (x most : Int) (rec : Bool) (h1 : (ofR L most rec).2.1 = false) (h2 : (ofR L most rec).2.2 = 0) : ofR (L ++ [x]) most rec = (cm0, false, 5) := by
  obtain ⟨he, hm, hp⟩ := ofS_ok _ _ h1 h2
  have ht : (L ++ [x]).take L.length = L := by simp
  rcases (good_command most rec).sim (L ++ [x]) L.length st0 (by simp) (Nat.zero_le _) with ⟨e, hpos⟩ | hs
  · rw [ht] at e
    unfold ofR ofS
    rw [← e] at hpos ⊢
    rw [if_neg (by rw [he]; simp), if_neg (by rw [hm]; decide), if_pos (by rw [List.length_append]; simp; omega)]
  · rw [ht] at hs
    rw [hs.2] at hm
    cases hm

end Go.Proofs.Ytogmhnpakjdpmaa
