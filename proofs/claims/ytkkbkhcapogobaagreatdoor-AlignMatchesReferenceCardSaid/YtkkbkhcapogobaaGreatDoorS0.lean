/- Plain words: letters of scripts, folding, tables of rules, and the least cost of bringing two words to one form. No Go, no memory. -/
import Derived.KernelRfl
namespace Go.Proofs.YtkkbkhcapogobaaGreatDoor.S
set_option linter.unusedVariables false
set_option linter.unusedSimpArgs false

abbrev Str := List UInt8

def small : Str := [97, 98, 99, 100, 101, 102, 103, 104, 105, 106, 107, 108, 109, 110, 111, 112, 113, 114, 115, 116, 117, 118, 119, 120, 121, 122]
def accents : Str := [39, 96, 94]
def abjad : Str := [98, 100, 102, 103, 104, 106, 107, 108, 109, 110, 112, 113, 114, 115, 116, 119, 120, 121, 122, 39]
def onsets : Str := [107, 115, 116, 110, 104, 109, 121, 114, 119, 103, 122, 100, 98, 112]
def vowels : Str := [97, 105, 117, 101, 111]

/-- The byte at an index is one of some. -/
def isAt (l : Str) (i : Nat) (set : Str) : Bool := match l[i]? with | some c => set.contains c | none => false

def lower1 (c : UInt8) : UInt8 := if 65 ≤ c ∧ c ≤ 90 then c + 32 else c

/-- The length of the letter with which a text begins; 0: none. -/
def lenL (k : Int) (l : Str) : Nat :=
  if k = 1 then (if isAt l 0 small then 1 else 0)
  else if k = 2 then (if isAt (l.map lower1) 0 small then (if isAt l 1 accents then 2 else 1) else 0)
  else if k = 3 then (if isAt l 0 abjad then 1 else 0)
  else if k = 4 then (if isAt l 0 onsets && isAt l 1 vowels then 2 else if isAt l 0 vowels || isAt l 0 [110] then 1 else 0)
  else 0

theorem isAt_lt {l : Str} {i : Nat} {set : Str} (h : isAt l i set = true) : i < l.length := by
  unfold isAt at h
  split at h
  · rename_i c hc; exact (List.getElem?_eq_some_iff.1 hc).1
  · cases h
theorem lenL_le (k : Int) (l : Str) : lenL k l ≤ l.length := by
  unfold lenL
  repeat' split
  all_goals first
    | omega
    | (rename_i h; have := isAt_lt h; omega)
    | (rename_i h; have := isAt_lt h; simp at this; omega)
    | (rename_i h h'; have := isAt_lt h; have := isAt_lt h'; simp at *; omega)
    | (rename_i h; simp at h; have := isAt_lt h.2; omega)
    | (rename_i h h'; simp at h'; rcases h' with h' | h' <;> (have := isAt_lt h'; omega))
    | (rename_i h h'; have := isAt_lt h; simp at *; omega)
theorem lenL_le2 (k : Int) (l : Str) : lenL k l ≤ 2 := by
  unfold lenL
  repeat' split
  all_goals omega

/-- The letters with which a text begins, and what is left. -/
def piecesF (k : Int) : Nat → Str → List Str × Str
  | 0, l => ([], l)
  | n + 1, l => if lenL k l = 0 then ([], l) else (l.take (lenL k l) :: (piecesF k n (l.drop (lenL k l))).1, (piecesF k n (l.drop (lenL k l))).2)
def pieces (k : Int) (l : Str) : List Str := (piecesF k l.length l).1
def leftover (k : Int) (l : Str) : Str := (piecesF k l.length l).2

theorem piecesF_more (k : Int) : ∀ (n m : Nat) (l : Str), l.length ≤ n → l.length ≤ m → piecesF k n l = piecesF k m l
  | 0, 0, l, _, _ => rfl
  | 0, m + 1, l, h, _ => by
    have : lenL k l = 0 := by have := lenL_le k l; omega
    simp [piecesF, this]
  | n + 1, 0, l, _, h => by
    have : lenL k l = 0 := by have := lenL_le k l; omega
    simp [piecesF, this]
  | n + 1, m + 1, l, h1, h2 => by
    unfold piecesF
    split
    · rfl
    · have hl : (l.drop (lenL k l)).length ≤ n := by simp; omega
      have hm : (l.drop (lenL k l)).length ≤ m := by simp; omega
      rw [piecesF_more k n m _ hl hm]
theorem pieces_none {k : Int} {l : Str} (h : lenL k l = 0) : pieces k l = [] ∧ leftover k l = l := by
  unfold pieces leftover
  cases hl : l.length with
  | zero => exact ⟨rfl, rfl⟩
  | succ n => simp [piecesF, h]
theorem pieces_some {k : Int} {l : Str} (h : lenL k l ≠ 0) :
    pieces k l = l.take (lenL k l) :: pieces k (l.drop (lenL k l)) ∧ leftover k l = leftover k (l.drop (lenL k l)) := by
  unfold pieces leftover
  have hle := lenL_le k l
  cases hl : l.length with
  | zero => omega
  | succ n =>
    have hn : (l.drop (lenL k l)).length ≤ n := by simp; omega
    have := piecesF_more k n (l.drop (lenL k l)).length (l.drop (lenL k l)) hn (Nat.le_refl _)
    have e : piecesF k (n + 1) l = (l.take (lenL k l) :: (piecesF k n (l.drop (lenL k l))).1, (piecesF k n (l.drop (lenL k l))).2) := by
      show (if lenL k l = 0 then ([], l) else _) = _
      rw [if_neg h]
    rw [e, this]
    exact ⟨rfl, rfl⟩
theorem pieces_flatten (k : Int) : ∀ (n : Nat) (l : Str), l.length ≤ n → (pieces k l).flatten ++ leftover k l = l
  | 0, l, h => by
    have hl : l = [] := List.eq_nil_of_length_eq_zero (by omega)
    subst hl; rfl
  | n + 1, l, h => by
    by_cases h0 : lenL k l = 0
    · have := pieces_none h0; rw [this.1, this.2]; rfl
    · have e := pieces_some h0
      rw [e.1, e.2, List.flatten_cons, List.append_assoc, pieces_flatten k n _ (by simp; omega), List.take_append_drop]
theorem flatten_leftover (k : Int) (l : Str) : (pieces k l).flatten ++ leftover k l = l := pieces_flatten k l.length l (Nat.le_refl _)
theorem pieces_pos (k : Int) : ∀ (n : Nat) (l : Str), l.length ≤ n → ∀ p ∈ pieces k l, 0 < p.length ∧ p.length ≤ 2
  | 0, l, h => by
    have hl : l = [] := List.eq_nil_of_length_eq_zero (by omega)
    subst hl; intro p hp; cases hp
  | n + 1, l, h => by
    by_cases h0 : lenL k l = 0
    · have := pieces_none h0; rw [this.1]; intro p hp; cases hp
    · have e := pieces_some h0
      have := lenL_le k l
      have := lenL_le2 k l
      rw [e.1]
      intro p hp
      rcases List.mem_cons.1 hp with rfl | hp
      · simp; omega
      · exact pieces_pos k n _ (by simp; omega) p hp

/-- The letters of a word; none if it is no word of the script. -/
def lettersS (k : Int) (l : Str) : Option (List Str) :=
  if leftover k l = [] ∧ 1 ≤ (pieces k l).length ∧ (pieces k l).length ≤ 12 then some (pieces k l) else none
def lowerS (l : Str) : Str := l.map lower1
def foldS (k : Int) (l : Str) : Option Str := if (lettersS k l).isSome then some (lowerS l) else none

structure Rul where
  script : Int
  frm : Str
  to : Str
  cost : Int
deriving DecidableEq
structure Drp where
  script : Int
  word : Str
  cost : Int
deriving DecidableEq
structure Tab where
  rules : List Rul
  drops : List Drp
  ends : List Drp
  drop : Int
  order : Int
  initial : Int

def foldedS (k : Int) (s : Str) (most : Nat) : Bool :=
  decide (foldS k s = some s) && (match lettersS k s with | some ls => decide (ls.length ≤ most) | none => false)
def formS (s : Str) : Bool := decide (s.length ≤ 3) && s.all (small.contains ·)
def costS (n : Int) : Bool := decide (0 ≤ n) && decide (n ≤ 1000)
/-- No element twice. -/
def distinctB {α : Type} [DecidableEq α] : List α → Bool
  | [] => true
  | x :: xs => !(decide (x ∈ xs)) && distinctB xs
def Rul.key (r : Rul) : Int × Str × Str := (r.script, r.frm, r.to)
def Drp.key (d : Drp) : Int × Str × Str := (d.script, d.word, [])
def ruleOK (r : Rul) : Bool := foldedS r.script r.frm 3 && formS r.to && costS r.cost
def dropOK (most : Nat) (d : Drp) : Bool := foldedS d.script d.word most && costS d.cost
def dropsS (l : List Drp) (most : Nat) : Bool := distinctB (l.map Drp.key) && l.all (dropOK most) && decide (l.length ≤ 40)
def validS (t : Tab) : Bool :=
  (decide (t.rules ≠ []) && decide (t.rules.length ≤ 80) && costS t.drop && costS t.order && costS t.initial) &&
  (distinctB (t.rules.map Rul.key) && t.rules.all ruleOK) && dropsS t.drops 12 && dropsS t.ends 4

/-- A rule with the letters of its From. -/
structure ARule where
  index : Int
  cost : Int
  frm : List Str
  to : Str
deriving DecidableEq
structure Side where
  letters : List Str
  rules : List ARule
def aruleOf (k : Int) (i : Nat) (r : Rul) : Option ARule := if r.script = k then (lettersS k r.frm).map fun f => ⟨i, r.cost, f, r.to⟩ else none
def sideRules (k : Int) : Nat → List Rul → List ARule
  | _, [] => []
  | i, r :: rs => (aruleOf k i r).toList ++ sideRules k (i + 1) rs
def sideS (t : Tab) (k : Int) (w : Str) : Option Side :=
  match foldS k w with
  | none => none
  | some f => (lettersS k f).map fun ls => ⟨ls, sideRules k 0 t.rules⟩

structure St where
  i : Nat
  j : Nat
  ahead : Str
  right : Bool
deriving DecidableEq
def St.start : St := ⟨0, 0, [], false⟩
def fitsS (s : Side) (r : ARule) (a : Nat) : Bool := decide (a + r.frm.length ≤ s.letters.length) && decide ((s.letters.drop a).take r.frm.length = r.frm)
def doneS (L R : Side) (s : St) : Bool := decide (s.i = L.letters.length) && decide (s.j = R.letters.length) && decide (s.ahead = [])
def turnS (L : Side) (s : St) : Bool := s.right || (decide (s.ahead = []) && decide (s.i < L.letters.length))
def stepS (left : Bool) (s : St) (r : ARule) : Option St :=
  let i := if left then s.i + r.frm.length else s.i
  let j := if left then s.j else s.j + r.frm.length
  if r.to.isPrefixOf s.ahead then some ⟨i, j, s.ahead.drop r.to.length, s.right && decide (s.ahead.drop r.to.length ≠ [])⟩
  else if s.ahead.isPrefixOf r.to then some ⟨i, j, r.to.drop s.ahead.length, !left⟩
  else none
def moveS (L R : Side) (s : St) (r : ARule) : Option (ARule × St) :=
  if fitsS (if turnS L s then L else R) r (if turnS L s then s.i else s.j) then (stepS (turnS L s) s r).map fun n => (r, n) else none
def movesS (L R : Side) (s : St) : List (ARule × St) := (if turnS L s then L.rules else R.rules).filterMap (moveS L R s)

def endless : Int := 1099511627776
def valF (L R : Side) : Nat → St → Int
  | 0, s => if doneS L R s then 0 else endless
  | n + 1, s => (movesS L R s).foldl (fun h m => min h (m.1.cost + valF L R n m.2)) (if doneS L R s then 0 else endless)
/-- How far a state is from the end of both words. -/
def remS (L R : Side) (s : St) : Nat := (L.letters.length - s.i) + (R.letters.length - s.j)
def val (L R : Side) (s : St) : Int := valF L R (remS L R s) s

structure Der where
  cost : Int
  left : List Int
  right : List Int
  form : Str
deriving DecidableEq
def Der.zero : Der := ⟨0, [], [], []⟩
def takeS (d : Der) (s : St) (m : ARule × St) : Der :=
  if s.i < m.2.i then { d with left := d.left ++ [m.1.index], form := d.form ++ m.1.to } else { d with right := d.right ++ [m.1.index] }
def nextS (L R : Side) (s : St) : Option (ARule × St) := (movesS L R s).find? fun m => decide (m.1.cost + val L R m.2 = val L R s)
def pathF (L R : Side) : Nat → St → Der → Der
  | 0, _, d => d
  | n + 1, s, d => if doneS L R s then d else match nextS L R s with
    | none => d
    | some m => pathF L R n m.2 (takeS d s m)
def bestS (t : Tab) (a : Int) (x : Str) (b : Int) (y : Str) : Der × Int :=
  match sideS t a x, sideS t b y, validS t with
  | some L, some R, true => if val L R St.start ≥ endless then (Der.zero, 11) else (pathF L R (remS L R St.start) St.start { Der.zero with cost := val L R St.start }, 0)
  | _, _, _ => (Der.zero, 1)

/-- What rules, by their numbers, write of a side's word. -/
def writtenF (s : Side) : List Int → Nat → Str → Int → Option (Nat × Str × Int)
  | [], a, f, c => some (a, f, c)
  | i :: is, a, f, c => match s.rules.find? (fun r => decide (r.index = i)) with
    | none => none
    | some r => if fitsS s r a then writtenF s is (a + r.frm.length) (f ++ r.to) (c + r.cost) else none
def writtenS (s : Side) (is : List Int) : Str × Int × Bool :=
  match writtenF s is 0 [] 0 with
  | none => ([], 0, false)
  | some (a, f, c) => (f, c, decide (a = s.letters.length))
def checkS (t : Tab) (a : Int) (x : Str) (b : Int) (y : Str) (d : Der) : Bool :=
  match sideS t a x, sideS t b y, validS t with
  | some L, some R, true => (writtenS L d.left).2.2 && (writtenS R d.right).2.2 && decide ((writtenS L d.left).1 = d.form) && decide ((writtenS R d.right).1 = d.form) && decide ((writtenS L d.left).2.1 + (writtenS R d.right).2.1 = d.cost)
  | _, _, _ => false
end Go.Proofs.YtkkbkhcapogobaaGreatDoor.S
