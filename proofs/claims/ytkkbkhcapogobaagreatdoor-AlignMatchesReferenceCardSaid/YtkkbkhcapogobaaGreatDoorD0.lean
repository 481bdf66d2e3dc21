/- Words for maps whose keys are structs, and for rows of structs that were handed in. -/
import Derived.Test.YtkkbkhcapogobaaGreatDoorC5
import Derived.Test.YtkkbkhcapogobaaGreatDoorB1
import Derived.DeepKeys4
namespace Go.Proofs.YtkkbkhcapogobaaGreatDoor
open Go Go.RowKit Go.Lib Go.Proofs S Go.Shelf Go.Maps Go.WideMaps
set_option linter.unusedVariables false
set_option linter.unusedSimpArgs false

/-- Elements of so many cells each lie in a row, from an address on. -/
def ElemsAt (w : World) (A : Option Addr) (size : Nat) (rows : List (List Value)) : Prop :=
  ∀ i r, rows[i]? = some r → ∃ a, A = some a ∧ ∀ j v, r[j]? = some v → w.cell? ((a.add (i * size)).add j) = some v
theorem ElemsAt.ext {w w' : World} {A : Option Addr} {size : Nat} {rows : List (List Value)} (h : ElemsAt w A size rows) (hb : Ext w w') : ElemsAt w' A size rows := fun i r hr => by
  obtain ⟨a, ha, hc⟩ := h i r hr
  exact ⟨a, ha, fun j v hv => (hb.cell (World.block_lt_of_cell? w _ (hc j v hv))).trans (hc j v hv)⟩
theorem ElemsAt.elem {α : Type} {f : α → List Value} {w : World} {A : Option Addr} {size : Nat} {l : List α} (h : ElemsAt w A size (l.map f)) {k : Nat} {x : α} (hk : l[k]? = some x) :
    ∃ a, A = some a ∧ ∀ j v, (f x)[j]? = some v → w.cell? ((a.add (k * size)).add j) = some v := h k (f x) (by rw [List.getElem?_map, hk]; rfl)
theorem Addr.add_zero (a : Addr) : a.add 0 = a := by simp [Addr.add]
theorem Addr.add_pos (a : Addr) (j : Nat) : a.add (j + 1) = { block := a.block, off := a.off + (j + 1) } := by simp [Addr.add]
theorem elem3 {w : World} {a : Addr} {v0 v1 v2 : Value} (h : ∀ j v, [v0, v1, v2][j]? = some v → w.cell? (a.add j) = some v) :
    w.cell? a = some v0 ∧ w.cell? { block := a.block, off := a.off + 1 } = some v1 ∧ w.cell? { block := a.block, off := a.off + 2 } = some v2 :=
  ⟨by have := h 0 v0 rfl; rwa [Addr.add_zero] at this, by have := h 1 v1 rfl; rwa [Addr.add_pos] at this, by have := h 2 v2 rfl; rwa [Addr.add_pos] at this⟩
theorem elem4 {w : World} {a : Addr} {v0 v1 v2 v3 : Value} (h : ∀ j v, [v0, v1, v2, v3][j]? = some v → w.cell? (a.add j) = some v) :
    w.cell? a = some v0 ∧ w.cell? { block := a.block, off := a.off + 1 } = some v1 ∧ w.cell? { block := a.block, off := a.off + 2 } = some v2 ∧ w.cell? { block := a.block, off := a.off + 3 } = some v3 :=
  ⟨by have := h 0 v0 rfl; rwa [Addr.add_zero] at this, by have := h 1 v1 rfl; rwa [Addr.add_pos] at this, by have := h 2 v2 rfl; rwa [Addr.add_pos] at this, by have := h 3 v3 rfl; rwa [Addr.add_pos] at this⟩
def dropVals (d : Drp) : List Value := [.int .i64 d.script, .string (B d.word), .int .i64 d.cost]
def ruleVals (r : Rul) : List Value := [.int .i64 r.script, .string (B r.frm), .string (B r.to), .int .i64 r.cost]
def tiny (s : Str) : Prop := s.length ≤ 140737488351232
def I64 (n : Int) : Prop := (Lit.int .i64 n).wf = true
def DropFit (d : Drp) : Prop := I64 d.script ∧ tiny d.word ∧ I64 d.cost
def RuleFit (r : Rul) : Prop := I64 r.script ∧ tiny r.frm ∧ tiny r.to ∧ I64 r.cost

/-- A table that was handed in: its three rows' addresses. -/
structure TabAt (w : World) (A1 A2 A3 : Option Addr) (t : Tab) : Prop where
  rules : ElemsAt w A1 4 (t.rules.map ruleVals)
  drops : ElemsAt w A2 3 (t.drops.map dropVals)
  ends : ElemsAt w A3 3 (t.ends.map dropVals)
  rfit : ∀ r ∈ t.rules, RuleFit r
  dfit : ∀ d ∈ t.drops, DropFit d
  efit : ∀ d ∈ t.ends, DropFit d
  rlen : t.rules.length ≤ 140737488351232
  dlen : t.drops.length ≤ 140737488351232
  elen : t.ends.length ≤ 140737488351232
def tabVal (A1 : Option Addr) (c1 : Nat) (A2 : Option Addr) (c2 : Nat) (A3 : Option Addr) (c3 : Nat) (t : Tab) : Value :=
  .agg #[.slice A1 t.rules.length c1, .slice A2 t.drops.length c2, .slice A3 t.ends.length c3, .int .i64 t.drop, .int .i64 t.order, .int .i64 t.initial]
theorem TabAt.ext {w w' : World} {A1 A2 A3 : Option Addr} {t : Tab} (h : TabAt w A1 A2 A3 t) (hb : Ext w w') : TabAt w' A1 A2 A3 t :=
  { h with rules := h.rules.ext hb, drops := h.drops.ext hb, ends := h.ends.ext hb }

/-! ### Cells of new variables -/
theorem cell_of {w : World} {b : Nat} {cs : Array Value} {ty : TypeId} {m : Nat × Nat} (h : w.heap[b]? = some (.cells cs ty m)) (i : Nat) : w.cell? ⟨b, i, none⟩ = cs[i]? := by
  simp [World.cell?, h]
theorem Ext.put {w w' : World} (h : Ext w w') {b : Nat} (hb : w.heap.size ≤ b) (o : Obj) : Ext w (w'.putObj b o) :=
  ((h.mod (fun _ => False)).putObj (.inr hb) o).ext_of_none (fun _ _ h => h)
theorem Ext.new (w : World) (o : Obj) : Ext w (w.alloc o) := (Below.refl _ w).alloc (Nat.le_refl _) o
theorem Ext.alloc {w w' : World} (h : Ext w w') (o : Obj) : Ext w (w'.alloc o) := Below.alloc h h.size o
theorem cells_new2 {w w1 : World} {cs1 cs2 : Array Value} {t1 t2 : TypeId} {m1 m2 : Nat × Nat} (h : Ext ((w.alloc (.cells cs1 t1 m1)).alloc (.cells cs2 t2 m2)) w1) :
    (∀ i, w1.cell? ⟨w.heap.size, i, none⟩ = cs1[i]?) ∧ (∀ i, w1.cell? ⟨w.heap.size + 1, i, none⟩ = cs2[i]?) ∧ Ext w w1 := by
  have h0 : Ext w ((w.alloc (.cells cs1 t1 m1)).alloc (.cells cs2 t2 m2)) := (Ext.new w _).alloc _
  refine ⟨cell_of (ty := t1) (m := m1) ?_, cell_of (ty := t2) (m := m2) ?_, Ext.trans h0 h⟩
  · rw [h.block _ (by simp; omega), Below.heap_alloc _ _ _ (by simp)]; exact World.alloc_heap_new w _
  · rw [h.block _ (by simp)]; have := World.alloc_heap_new (w.alloc (.cells cs1 t1 m1)) (.cells cs2 t2 m2); rwa [World.size_alloc] at this

/-! ### The map of what was seen -/
def keyVal (k : Int × Str × Str) : Value := .agg #[.int .i64 k.1, .string (B k.2.1), .string (B k.2.2)]
theorem B_inj {a b : Str} (h : B a = B b) : a = b := by have := congrArg (fun s => s.data.toList) h; simpa [B] using this
theorem keyVal_inj {a b : Int × Str × Str} (h : keyVal a = keyVal b) : a = b := by
  obtain ⟨a1, a2, a3⟩ := a; obtain ⟨b1, b2, b3⟩ := b
  simp only [keyVal, Value.agg.injEq, Array.mk.injEq, List.cons.injEq, Value.int.injEq, Value.string.injEq, true_and, and_true] at h
  obtain ⟨rfl, h2, h3⟩ := h
  rw [B_inj h2, B_inj h3]
theorem tiny_max {s : Str} (h : tiny s) : (B s).size ≤ maxLen := by unfold tiny at h; rw [B_size]; unfold maxLen; omega
theorem Tryz.size_types : ∃ n, Tryz.prog.types.size = n + 1 := Nat.exists_eq_succ_of_ne_zero (Nat.ne_of_gt (of_decide_eq_true (by kernel_rfl)))
theorem Tryz.laidOutB : laidOutB Tryz.prog = true := by kernel_rfl
theorem Tryz.key_cells : Tryz.prog.cellsOf 96 = 3 := by kernel_rfl
theorem Tryz.key_ok : Tryz.prog.keyType 96 = true := by kernel_rfl
theorem Tryz.int_cells : Tryz.prog.cellsOf 3 = 1 := by kernel_rfl
theorem Tryz.string_cells : Tryz.prog.cellsOf 9 = 1 := by kernel_rfl
theorem key_of {k : Int × Str × Str} (h1 : I64 k.1) (h2 : tiny k.2.1) (h3 : tiny k.2.2) : ∃ l, keyOf Tryz.prog 96 (keyVal k) = some l := by
  obtain ⟨m, hm⟩ := Tryz.size_types
  unfold keyOf keyVal
  simp only [Tryz.underlying96]
  rw [if_pos (by simp [Tryz.key_ok, Value.formed, Tryz.underlying96, Tryz.key_cells]), hm]
  unfold Program.keyLits
  simp only [Tryz.underlying96, Value.cells]
  rw [if_pos (by rw [Tryz.key_cells]; exact ⟨rfl, by simp⟩)]
  have h1' : (Lit.int .i64 k.1).wf = true := h1
  have := tiny_max h2
  have := tiny_max h3
  simp [Program.keyLits, Tryz.underlying3, Tryz.underlying9, Tryz.int_cells, Tryz.string_cells, *]
set_option maxRecDepth 100000 in
theorem key_keyed : Keyed Tryz.prog 96 := Keyed.of_law (deep_law_laid Tryz.laidOutB (m := 2) (by omega) (of_decide_eq_true (by kernel_rfl)) (by kernel_rfl) (by kernel_rfl))

open Classical in
noncomputable def seenF (ks : List (Int × Str × Str)) : Value → Option Value := fun v => if ∃ k ∈ ks, keyVal k = v then some (.bool true) else none
theorem seenF_nil : seenF [] = fun _ => none := by funext v; simp [seenF]
theorem seenF_get (ks : List (Int × Str × Str)) (k : Int × Str × Str) : (seenF ks (keyVal k)).getD (.bool false) = .bool (decide (k ∈ ks)) := by
  unfold seenF
  by_cases h : k ∈ ks
  · rw [if_pos ⟨k, h, rfl⟩]; simp [h]
  · rw [if_neg (by rintro ⟨k', h1, h2⟩; rw [keyVal_inj h2] at h1; exact h h1)]; simp [h]
theorem seenF_upd (ks : List (Int × Str × Str)) (k : Int × Str × Str) : upd (seenF ks) (keyVal k) (.bool true) = seenF (ks ++ [k]) := by
  funext v
  unfold upd seenF
  by_cases h : v = keyVal k
  · rw [if_pos h, if_pos ⟨k, by simp, h.symm⟩]
  · rw [if_neg h]
    congr 1
    simp only [List.mem_append, List.mem_singleton, eq_iff_iff]
    constructor
    · rintro ⟨k', h1, h2⟩; exact ⟨k', .inl h1, h2⟩
    · rintro ⟨k', h1 | rfl, h2⟩
      · exact ⟨k', h1, h2⟩
      · exact absurd h2.symm h

/-- Block b holds the map of the keys that were seen. -/
def Seen (w : World) (b : Nat) (ks : List (Int × Str × Str)) : Prop := MapAt Tryz.prog 96 w b ks.length (seenF ks)
theorem Seen.new (w : World) : Seen (w.alloc (.map #[] 0)) w.heap.size [] := by unfold Seen; rw [seenF_nil]; exact MapAt.new _ _ _
theorem Seen.mod {w w' : World} {b : Nat} {ks : List (Int × Str × Str)} {S : Nat → Prop} (h : Seen w b ks) (hm : Mod S w w') (hn : ¬ S b) : Seen w' b ks := MapAt.mod h hm hn
theorem Seen.ext {w w' : World} {b : Nat} {ks : List (Int × Str × Str)} (h : Seen w b ks) (hm : Ext w w') : Seen w' b ks := h.mod (hm.mod (fun _ => False)) (fun h => h)
theorem Seen.look {w : World} {b : Nat} {ks : List (Int × Str × Str)} (h : Seen w b ks) {k : Int × Str × Str} (h1 : I64 k.1) (h2 : tiny k.2.1) (h3 : tiny k.2.2) :
    (Instr.lookup 94 (.map (some b)) (keyVal k) false).run Tryz.prog w = .ok (.bool (decide (k ∈ ks))) w := by
  have := MapAt.look h key_keyed Tryz.underlying94 (z := .bool false) (w := w) (by simp [go_sem]) (key_of h1 h2 h3) false
  rw [this, seenF_get]; rfl
theorem Seen.update {w : World} {b : Nat} {ks : List (Int × Str × Str)} (h : Seen w b ks) {k : Int × Str × Str} (h1 : I64 k.1) (h2 : tiny k.2.1) (h3 : tiny k.2.2) :
    ∃ es clock, (Instr.mapUpdate 94 (.map (some b)) (keyVal k) (.bool true)).run Tryz.prog w = .ok () (w.putObj b (.map es clock)) ∧ Seen (w.putObj b (.map es clock)) b (ks ++ [k]) := by
  obtain ⟨es, clock, h4, h5⟩ := MapAt.update h key_keyed Tryz.underlying94 (key_of h1 h2 h3) (.bool true)
  refine ⟨es, clock, h4, ?_⟩
  unfold Seen
  rw [← seenF_upd, List.length_append]
  exact h5
theorem Seen.lt {w : World} {b : Nat} {ks : List (Int × Str × Str)} (h : Seen w b ks) : b < w.heap.size := MapAt.lt h

/-! ### No key twice -/
theorem distinct_snoc {α : Type} [DecidableEq α] : ∀ (xs : List α) (y : α), distinctB (xs ++ [y]) = (distinctB xs && !decide (y ∈ xs))
  | [], y => by simp [distinctB]
  | x :: xs, y => by
    simp only [List.cons_append, distinctB, distinct_snoc xs y, List.mem_append, List.mem_singleton, List.mem_cons]
    by_cases h1 : x ∈ xs <;> by_cases h2 : x = y <;> by_cases h3 : y ∈ xs <;> simp [h1, h2, h3, eq_comm]
theorem distinct_append {α : Type} [DecidableEq α] : ∀ (xs ys : List α), distinctB (xs ++ ys) = true → distinctB xs = true
  | [], ys, _ => rfl
  | x :: xs, ys, h => by
    simp only [List.cons_append, distinctB, Bool.and_eq_true] at h ⊢
    refine ⟨?_, distinct_append xs ys h.2⟩
    have h1 := h.1
    simp only [List.mem_append, Bool.not_eq_true', decide_eq_false_iff_not, not_or] at h1 ⊢
    exact h1.1
/-- What a loop that looks for what is seen twice, or not good, knows of the first k. -/
structure SoFar {α β : Type} [DecidableEq β] (key : α → β) (ok : α → Bool) (l : List α) (k : Nat) : Prop where
  le : k ≤ l.length
  dist : distinctB ((l.take k).map key) = true
  good : (l.take k).all ok = true
theorem SoFar.zero {α β : Type} [DecidableEq β] (key : α → β) (ok : α → Bool) (l : List α) : SoFar key ok l 0 := ⟨by simp, rfl, rfl⟩
theorem SoFar.step {α β : Type} [DecidableEq β] {key : α → β} {ok : α → Bool} {l : List α} {k : Nat} (h : SoFar key ok l k) (hk : k < l.length) (h1 : ¬ key l[k] ∈ (l.take k).map key) (h2 : ok l[k] = true) : SoFar key ok l (k + 1) := by
  replace h1 := decide_eq_false h1
  refine ⟨hk, ?_, ?_⟩
  · rw [← List.take_append_getElem hk, List.map_append, List.map_cons, List.map_nil, distinct_snoc, h.dist, h1]; rfl
  · rw [← List.take_append_getElem hk, List.all_append, h.good]; simp [h2]
theorem SoFar.done {α β : Type} [DecidableEq β] {key : α → β} {ok : α → Bool} {l : List α} (h : SoFar key ok l l.length) : (distinctB (l.map key) && l.all ok) = true := by
  have h1 := h.dist; have h2 := h.good
  rw [List.take_length] at h1 h2
  rw [h1, h2]; rfl
theorem SoFar.bad {α β : Type} [DecidableEq β] {key : α → β} {ok : α → Bool} {l : List α} {k : Nat} (h : SoFar key ok l k) (hk : k < l.length) (h1 : key l[k] ∈ (l.take k).map key ∨ ok l[k] = false) : (distinctB (l.map key) && l.all ok) = false := by
  replace h1 : decide (key l[k] ∈ (l.take k).map key) = true ∨ ok l[k] = false := h1.imp decide_eq_true id
  rw [Bool.and_eq_false_iff]
  rcases h1 with h1 | h1
  · left
    cases hd : distinctB (l.map key) with
    | false => rfl
    | true =>
      rw [← List.take_append_drop (k + 1) l, List.map_append] at hd
      have := distinct_append _ _ hd
      rw [← List.take_append_getElem hk, List.map_append, List.map_cons, List.map_nil, distinct_snoc, h1] at this
      simp at this
  · right
    cases ha : l.all ok with
    | false => rfl
    | true => rw [List.all_eq_true.1 ha _ (List.getElem_mem hk)] at h1; cases h1
end Go.Proofs.YtkkbkhcapogobaaGreatDoor
