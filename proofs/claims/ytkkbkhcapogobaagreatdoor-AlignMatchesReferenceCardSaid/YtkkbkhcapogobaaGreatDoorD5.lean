/- Words for the sides of align in memory; strings.CutPrefix. -/
import Derived.Test.YtkkbkhcapogobaaGreatDoorD4
import Derived.Test.YtkkbkhcapogobaaGreatDoorB4
namespace Go.Proofs.YtkkbkhcapogobaaGreatDoor
open Go Go.RowKit Go.Lib Go.Proofs S Go.Shelf Go.Maps
set_option linter.unusedVariables false
set_option linter.unusedSimpArgs false

/-- W holds what w held, cell by cell. -/
def Cells (w W : World) : Prop := ∀ a v, w.cell? a = some v → W.cell? a = some v
theorem Cells.refl (w : World) : Cells w w := fun _ _ h => h
theorem Cells.trans {a b c : World} (h : Cells a b) (k : Cells b c) : Cells a c := fun x v hx => k x v (h x v hx)
theorem cell_block {w : World} {a : Addr} {v : Value} (h : w.cell? a = some v) : ∃ cs t m, w.heap[a.block]? = some (.cells cs t m) := by
  unfold World.cell? at h
  split at h
  · rename_i cs t m hb; exact ⟨cs, t, m, hb⟩
  · cases h
theorem cell_not_book {w : World} {a : Addr} {v : Value} (h : w.cell? a = some v) : ¬ Book w a.block := by
  obtain ⟨cs, t, m, hb⟩ := cell_block h
  rintro (⟨_, h'⟩ | ⟨_, h'⟩) <;> (rw [hb] at h'; cases h')
theorem cell_same {w W : World} {a : Addr} (h : W.heap[a.block]? = w.heap[a.block]?) : W.cell? a = w.cell? a := by unfold World.cell?; rw [h]
theorem Cells.of_mod {w W : World} {S : Nat → Prop} (hm : Mod S w W) (hn : ∀ a v, w.cell? a = some v → ¬ S a.block) : Cells w W := fun a v h =>
  (cell_same (hm.block _ (World.block_lt_of_cell? w _ h) (hn a v h))).trans h
theorem Cells.of_ext {w W : World} (h : Ext w W) : Cells w W := Cells.of_mod (h.mod (fun _ => False)) (fun _ _ _ h => h)
/-- From an early world on: what a later step writes lies above it, or is book-keeping. -/
theorem Cells.step {w W W' : World} {S : Nat → Prop} (h : Cells w W) (hm : Mod S W W') (hn : ∀ k, S k → w.heap.size ≤ k ∨ Book W k) : Cells w W' := fun a v ha => by
  have h1 := h a v ha
  refine (cell_same (hm.block _ (World.block_lt_of_cell? W _ h1) (fun hs => ?_))).trans h1
  rcases hn _ hs with h2 | h2
  · have := World.block_lt_of_cell? w _ ha; omega
  · exact cell_not_book h1 h2
theorem LetAt.cells {w W : World} {g c : Nat} {ls : List Str} (h : LetAt w g c ls) (hc : Cells w W) : LetAt W g c ls := ⟨h.cap, h.few, h.pos, fun j x hx => hc _ _ (h.cell j x hx)⟩
theorem ElemsAt.cells {w W : World} {A : Option Addr} {size : Nat} {rows : List (List Value)} (h : ElemsAt w A size rows) (hc : Cells w W) : ElemsAt W A size rows := fun i r hr => by
  obtain ⟨a, ha, h2⟩ := h i r hr
  exact ⟨a, ha, fun j v hv => hc _ _ (h2 j v hv)⟩
theorem block_keep {w W : World} {S : Nat → Prop} {b : Nat} {o : Obj} (h : w.heap[b]? = some o) (hm : Mod S w W) (hn : ¬ S b) : W.heap[b]? = some o := (hm.block b (Array.getElem?_eq_some_iff.1 h).1 hn).trans h
theorem block_ext {w W : World} {b : Nat} {o : Obj} (h : w.heap[b]? = some o) (hm : Ext w W) : W.heap[b]? = some o := (hm.block b (Array.getElem?_eq_some_iff.1 h).1).trans h
theorem cells_not_book {w : World} {b : Nat} {cs : Array Value} {t : TypeId} {m : Nat × Nat} (h : w.heap[b]? = some (.cells cs t m)) : ¬ Book w b := by
  rintro (⟨_, h'⟩ | ⟨_, h'⟩) <;> (rw [h] at h'; cases h')

/-- A rule in memory: with the block and the room of its letters. -/
abbrev MR := ARule × Nat × Nat
def mrVals (m : MR) : List Value := [.int .i64 m.1.index, .int .i64 m.1.cost, letVal m.2.1 m.2.2 m.1.frm, .string (B m.1.to)]
def mrVal (m : MR) : Value := .agg #[.int .i64 m.1.index, .int .i64 m.1.cost, letVal m.2.1 m.2.2 m.1.frm, .string (B m.1.to)]
/-- A side in memory. -/
structure MSide where
  letters : List Str
  lg : Nat
  lc : Nat
  A : Option Addr
  rc : Nat
  rules : List MR
def MSide.side (m : MSide) : Side := ⟨m.letters, m.rules.map (·.1)⟩
structure MSide.At (m : MSide) (w : World) : Prop where
  lets : LetAt w m.lg m.lc m.letters
  elems : ElemsAt w m.A 4 (m.rules.map mrVals)
  frms : ∀ r ∈ m.rules, LetAt w r.2.1 r.2.2 r.1.frm
  len : m.rules.length ≤ 1000
theorem MSide.At.cells {m : MSide} {w W : World} (h : m.At w) (hc : Cells w W) : m.At W := ⟨h.lets.cells hc, h.elems.cells hc, fun r hr => (h.frms r hr).cells hc, h.len⟩
def MSide.vals (m : MSide) : List Value := [letVal m.lg m.lc m.letters, .slice m.A m.rules.length m.rc]
def sideVal (m : MSide) : Value := .agg #[letVal m.lg m.lc m.letters, .slice m.A m.rules.length m.rc]
def wordsVal (L R : MSide) : Value := .agg #[letVal L.lg L.lc L.letters, .slice L.A L.rules.length L.rc, letVal R.lg R.lc R.letters, .slice R.A R.rules.length R.rc]

/-- The moves from a state, with the rules as they lie in memory. -/
def movM (L R : MSide) (s : St) (m : MR) : Option (MR × St) := (moveS L.side R.side s m.1).map fun p => (m, p.2)
def movesM (L R : MSide) (s : St) : List (MR × St) := (if turnS L.side s then L.rules else R.rules).filterMap (movM L R s)
theorem movesM_S (L R : MSide) (s : St) : (movesM L R s).map (fun p => (p.1.1, p.2)) = movesS L.side R.side s := by
  unfold movesM movesS
  have h : ∀ rs : List MR, (rs.filterMap (movM L R s)).map (fun p => (p.1.1, p.2)) = (rs.map (·.1)).filterMap (moveS L.side R.side s) := by
    intro rs
    induction rs with
    | nil => rfl
    | cons r rs ih =>
      have hf : ∀ p, moveS L.side R.side s r.1 = some p → p.1 = r.1 := by
        intro p hp
        unfold moveS at hp
        generalize fitsS _ _ _ = b at hp
        generalize stepS _ _ _ = st at hp
        cases b <;> cases st <;> simp at hp
        rw [← hp]
      cases hm : moveS L.side R.side s r.1 with
      | none => simp only [List.filterMap_cons, List.map_cons, movM, hm, Option.map_none, ih]
      | some p =>
        have := hf p hm
        simp only [List.filterMap_cons, List.map_cons, movM, hm, Option.map_some, ih]
        rw [← this]
  split
  · exact h L.rules
  · exact h R.rules

def stVals (s : St) : Array Value := #[.int .i64 s.i, .int .i64 s.j, .string (B s.ahead), .bool s.right]
def cutS (s p : Str) : Str := if p.isPrefixOf s then s.drop p.length else s
/-- strings.CutPrefix. -/
theorem cut_any (s p : Str) (w : World) : Calls Tryz.prog 30 #[.string (B s), .string (B p)] w fun e w' => e = .returned (.tuple #[.string (B (cutS s p)), .bool (p.isPrefixOf s)]) ∧ w = w' := by
  refine (Tryz.strings_CutPrefix (B s) (B p) w).mono ?_
  rintro e w' ⟨rfl, rfl⟩
  refine ⟨?_, rfl⟩
  have h1 : Lib.hasPrefix s p = p.isPrefixOf s := by
    simp [Lib.hasPrefix]
  have h2 : Lib.trimPrefix s p = cutS s p := by
    unfold cutS Lib.trimPrefix
    rw [← h1]
  show Ending.returned (.tuple #[.string ⟨(Lib.trimPrefix s p).toArray⟩, .bool (Lib.hasPrefix s p)]) = _
  rw [h1, h2]
end Go.Proofs.YtkkbkhcapogobaaGreatDoor
