/- The readings of the arguments: tables, rules, derivations, lists of numbers. -/
import Derived.Test.YtkkbkhcapogobaaGreatDoorE7
import Derived.ProofKit
import Derived.Deep.Slices
import Derived.Lib.SmallJoins
namespace Go.Proofs.YtkkbkhcapogobaaGreatDoor
open Go Go.RowKit Go.Lib Go.Proofs S Go.Shelf Go.Maps Go.WideMaps Go.Deep Go.Joins Go.WideShapes
set_option linter.unusedVariables false
set_option linter.unusedSimpArgs false

theorem list_of {α : Type} {p : Nat → α → Prop} : ∀ n, (∀ i, i < n → ∃ v, p i v) → ∃ l : List α, l.length = n ∧ ∀ i v, l[i]? = some v → p i v
  | 0, _ => ⟨[], rfl, by simp⟩
  | n + 1, h => by
    obtain ⟨l, h1, h2⟩ := list_of n (fun i hi => h i (by omega))
    obtain ⟨v, hv⟩ := h n (by omega)
    refine ⟨l ++ [v], by simp [h1], fun i u hu => ?_⟩
    by_cases hi : i < l.length
    · rw [List.getElem?_append_left hi] at hu; exact h2 _ _ hu
    · rw [List.getElem?_append_right (by omega)] at hu
      have hlt := (List.getElem?_eq_some_iff.1 hu).1
      simp only [List.length_cons, List.length_nil] at hlt
      have h0 : i - l.length = 0 := by omega
      rw [h0] at hu
      simp only [List.getElem?_cons_zero, Option.some.injEq] at hu
      subst hu
      have : i = n := by omega
      subst this; exact hv

/-- What the reading of a table gives. -/
structure TabRd (w : World) (A1 A2 A3 : Option Addr) (t : Tab) : Prop where
  rules : ElemsAt w A1 4 (t.rules.map ruleVals)
  drops : ElemsAt w A2 3 (t.drops.map dropVals)
  ends : ElemsAt w A3 3 (t.ends.map dropVals)
  rfit : ∀ r ∈ t.rules, I64 r.script ∧ r.frm.length ≤ Go.maxLen ∧ r.to.length ≤ Go.maxLen ∧ I64 r.cost
  dfit : ∀ d ∈ t.drops, I64 d.script ∧ d.word.length ≤ Go.maxLen ∧ I64 d.cost
  efit : ∀ d ∈ t.ends, I64 d.script ∧ d.word.length ≤ Go.maxLen ∧ I64 d.cost
  rlen : t.rules.length ≤ Go.maxLen
  dlen : t.drops.length ≤ Go.maxLen
  elen : t.ends.length ≤ Go.maxLen
theorem TabRd.ext {w w' : World} {A1 A2 A3 : Option Addr} {t : Tab} (h : TabRd w A1 A2 A3 t) (hb : Ext w w') : TabRd w' A1 A2 A3 t :=
  { h with rules := h.rules.ext hb, drops := h.drops.ext hb, ends := h.ends.ext hb }
def fewRule (r : Rul) : Bool := decide (r.frm.length ≤ 12) && decide (r.to.length ≤ 12)
def fewDrop (d : Drp) : Bool := decide (d.word.length ≤ 60)
def fewWord (s : Str) : Bool := decide (s.length ≤ 30)
def fewS (t : Tab) (ws : List Str) : Bool :=
  decide (t.rules.length ≤ 80) && decide (t.drops.length ≤ 40) && decide (t.ends.length ≤ 40) && t.rules.all fewRule && t.drops.all fewDrop && t.ends.all fewDrop && ws.all fewWord
theorem TabRd.at {w : World} {A1 A2 A3 : Option Addr} {t : Tab} {ws : List Str} (h : TabRd w A1 A2 A3 t) (hf : fewS t ws = true) : TabAt w A1 A2 A3 t ∧ t.rules.length ≤ 1000 ∧ ∀ x ∈ ws, tiny x ∧ x.length ≤ 30 := by
  unfold fewS at hf
  simp only [Bool.and_eq_true, decide_eq_true_eq, List.all_eq_true] at hf
  obtain ⟨⟨⟨⟨⟨⟨f1, f2⟩, f3⟩, f4⟩, f5⟩, f6⟩, f7⟩ := hf
  refine ⟨⟨h.rules, h.drops, h.ends, fun r hr => ?_, fun d hd => ?_, fun d hd => ?_, by omega, by omega, by omega⟩, by omega, fun x hx => ?_⟩
  · have g := h.rfit r hr
    have := f4 r hr
    unfold fewRule at this
    simp only [Bool.and_eq_true, decide_eq_true_eq] at this
    exact ⟨g.1, by unfold tiny; omega, by unfold tiny; omega, g.2.2.2⟩
  · have g := h.dfit d hd
    have := f5 d hd
    unfold fewDrop at this
    simp only [decide_eq_true_eq] at this
    exact ⟨g.1, by unfold tiny; omega, g.2.2⟩
  · have g := h.efit d hd
    have := f6 d hd
    unfold fewDrop at this
    simp only [decide_eq_true_eq] at this
    exact ⟨g.1, by unfold tiny; omega, g.2.2⟩
  · have := f7 x hx
    unfold fewWord at this
    simp only [decide_eq_true_eq] at this
    exact ⟨by unfold tiny; omega, this⟩

section
variable {H : Type} {enc : TypeId × Value → H} {w : World} {base : Nat} {spare : Nat → Bool} {held : Bool}
theorem open_elems {P : Program} {α : Type} (f : α → List Value) (ok : α → Prop) {t e : TypeId} {size fuel : Nat} {cs : List Value} {x : DataW H × List MemPlace} (ht : P.underlying t = some (.slice e)) (hsz : P.cellsOf e = size)
    (h : DataW.trod enc P w base spare held fuel t cs = some x) (hel : ∀ n cs' y, cs'.length = size → DataW.trod enc P w base spare held n e cs' = some y → ∃ v, cs' = f v ∧ ok v) :
    ∃ (A : Option Addr) (l : List α) (q : Nat), cs = [.slice A l.length q] ∧ ElemsAt w A size (l.map f) ∧ (∀ v ∈ l, ok v) ∧ l.length ≤ q ∧ q ≤ Go.maxLen := by
  rcases open_slice ht h with ⟨rfl, _⟩ | ⟨a, len, cap, m, n, D, Pl, rfl, hb, hl, hm, hmm, rfl, hx⟩
  · exact ⟨none, [], 0, rfl, fun i r hr => by simp at hr, by simp, by simp, by simp⟩
  · obtain ⟨l, h1, h2⟩ := list_of (p := fun i v => w.cells? base (a.add (i * size)) size = some (f v) ∧ ok v) len (fun i hi => by
      obtain ⟨cs', g1, g2⟩ := hx i (by rw [hmm]; split <;> omega)
      rw [hsz] at g1
      obtain ⟨v, rfl, hv⟩ := hel n cs' _ (World.cells?_some g1).2.1 g2
      exact ⟨v, g1, hv⟩)
    refine ⟨some a, l, cap, by rw [h1], fun i r hr => ?_, fun v hv => ?_, by omega, hm⟩
    · rw [List.getElem?_map] at hr
      obtain ⟨v, hv, rfl⟩ := Option.map_eq_some_iff.1 hr
      obtain ⟨g1, _⟩ := h2 i v hv
      refine ⟨a, rfl, fun j u hu => ?_⟩
      obtain ⟨_, g3, g4⟩ := World.cells?_some g1
      have hj : j < size := by rw [← g3]; exact (List.getElem?_eq_some_iff.1 hu).1
      rw [g4 j hj]; exact hu
    · obtain ⟨i, hi, rfl⟩ := List.mem_iff_getElem.1 hv
      exact (h2 i _ (List.getElem?_eq_getElem hi)).2
theorem read_str {fuel : Nat} {cs : List Value} {x : DataW H × List MemPlace} (h : DataW.trod enc Tryz.prog w base spare held fuel 9 cs = some x) : ∃ s : Str, cs = [.string (B s)] ∧ s.length ≤ Go.maxLen := by
  obtain ⟨⟨⟨l⟩⟩, h1, _, h2⟩ := DataW.trod_string Tryz.underlying9 h
  exact ⟨l, h1, h2⟩
theorem read_int {fuel : Nat} {cs : List Value} {x : DataW H × List MemPlace} (h : DataW.trod enc Tryz.prog w base spare held fuel 3 cs = some x) : ∃ k : Int, cs = [.int .i64 k] ∧ I64 k := by
  obtain ⟨k, h1, _, h2⟩ := DataW.trod_int Tryz.underlying3 h
  exact ⟨k, h1, h2⟩
set_option maxRecDepth 10000 in
theorem read_rule {n : Nat} {cs : List Value} {y : DataW H × List MemPlace} (hl : cs.length = 4) (h : DataW.trod enc Tryz.prog w base spare held n 68 cs = some y) : ∃ r : Rul, cs = ruleVals r ∧ (I64 r.script ∧ r.frm.length ≤ Go.maxLen ∧ r.to.length ≤ Go.maxLen ∧ I64 r.cost) := by
  obtain ⟨y0, y1, y2, y3, m, _, _, h0, h1, h2, h3⟩ := trod_struct4 Tryz.underlying68 h
  match cs, hl with
  | [c0, c1, c2, c3], _ =>
    simp only [Tryz.int_cells, Tryz.string_cells, List.drop_zero, List.drop_succ_cons, List.take_succ_cons, List.take_zero] at h0 h1 h2 h3
    obtain ⟨k0, e0, w0⟩ := read_int h0
    obtain ⟨k1, e1, w1⟩ := read_str h1
    obtain ⟨k2, e2, w2⟩ := read_str h2
    obtain ⟨k3, e3, w3⟩ := read_int h3
    cases e0; cases e1; cases e2; cases e3
    exact ⟨⟨k0, k1, k2, k3⟩, rfl, w0, w1, w2, w3⟩
set_option maxRecDepth 10000 in
theorem read_drop {n : Nat} {cs : List Value} {y : DataW H × List MemPlace} (hl : cs.length = 3) (h : DataW.trod enc Tryz.prog w base spare held n 74 cs = some y) : ∃ d : Drp, cs = dropVals d ∧ (I64 d.script ∧ d.word.length ≤ Go.maxLen ∧ I64 d.cost) := by
  obtain ⟨y0, y1, y2, m, _, _, h0, h1, h2⟩ := trod_struct3 Tryz.underlying74 h
  match cs, hl with
  | [c0, c1, c2], _ =>
    simp only [Tryz.int_cells, Tryz.string_cells, List.drop_zero, List.drop_succ_cons, List.take_succ_cons, List.take_zero] at h0 h1 h2
    obtain ⟨k0, e0, w0⟩ := read_int h0
    obtain ⟨k1, e1, w1⟩ := read_str h1
    obtain ⟨k2, e2, w2⟩ := read_int h2
    cases e0; cases e1; cases e2
    exact ⟨⟨k0, k1, k2⟩, rfl, w0, w1, w2⟩
theorem Tryz.rule_cells : Tryz.prog.cellsOf 68 = 4 := by kernel_rfl
theorem Tryz.drop_cells : Tryz.prog.cellsOf 74 = 3 := by kernel_rfl
theorem Tryz.table_cells : Tryz.prog.cellsOf 25 = 6 := by kernel_rfl
theorem Tryz.rules_cells : Tryz.prog.cellsOf 22 = 1 := by kernel_rfl
theorem Tryz.drops_cells : Tryz.prog.cellsOf 23 = 1 := by kernel_rfl
theorem Tryz.ints_cells : Tryz.prog.cellsOf 26 = 1 := by kernel_rfl
theorem Tryz.der_cells : Tryz.prog.cellsOf 28 = 4 := by kernel_rfl
theorem read_ints {n : Nat} {cs : List Value} {y : DataW H × List MemPlace} (h : DataW.trod enc Tryz.prog w base spare held n 26 cs = some y) :
    ∃ (A : Option Addr) (l : List Int) (q : Nat), cs = [.slice A l.length q] ∧ ElemsAt w A 1 (l.map (fun i => [Value.int .i64 i])) ∧ (∀ k ∈ l, I64 k) ∧ l.length ≤ q ∧ q ≤ Go.maxLen :=
  open_elems (fun i => [Value.int .i64 i]) I64 Tryz.underlying26 Tryz.int_cells h (fun n cs' y hl hy => by
    obtain ⟨k, h1, h2⟩ := read_int hy
    exact ⟨k, h1, h2⟩)
set_option maxRecDepth 10000 in
theorem read_table {r : Reach} {b0 : Nat} {v : Value} {d : DataW H} {p : List MemPlace} (hv : Value.okWide Tryz.prog w r b0 25 v) (h : DataW.Trod enc Tryz.prog w base spare held 25 v d p) :
    ∃ (A1 A2 A3 : Option Addr) (q1 q2 q3 : Nat) (t : Tab), v = tabVal A1 q1 A2 q2 A3 q3 t ∧ TabRd w A1 A2 A3 t ∧ t.rules.length ≤ q1 ∧ q1 ≤ Go.maxLen := by
  obtain ⟨cs, rfl, hsz⟩ := okWide_struct Tryz.underlying25 hv
  obtain ⟨fuel, hf⟩ := h
  obtain ⟨xs, n, _, _, _, hlen, hx⟩ := DataW.trod_struct Tryz.underlying25 hf
  rw [Tryz.table_cells] at hsz
  obtain ⟨l⟩ := cs
  match l, hsz with
  | [c0, c1, c2, c3, c4, c5], _ =>
    match xs, hlen with
    | [x0, x1, x2, x3, x4, x5], _ =>
      have h0 := hx 0 _ rfl
      have h1 := hx 1 _ rfl
      have h2 := hx 2 _ rfl
      have h3 := hx 3 _ rfl
      have h4 := hx 4 _ rfl
      have h5 := hx 5 _ rfl
      simp only [Value.cells, Tryz.int_cells, Tryz.rules_cells, Tryz.drops_cells, List.drop_zero, List.drop_succ_cons, List.take_succ_cons, List.take_zero, List.getElem?_cons_zero, List.getElem?_cons_succ] at h0 h1 h2 h3 h4 h5
      obtain ⟨A1, l1, q1, e1, g1, g2, g3, g4⟩ := open_elems ruleVals _ Tryz.underlying22 Tryz.rule_cells h0 (fun n cs' y hl hy => read_rule hl hy)
      obtain ⟨A2, l2, q2, e2, f1, f2, f3, f4⟩ := open_elems dropVals _ Tryz.underlying23 Tryz.drop_cells h1 (fun n cs' y hl hy => read_drop hl hy)
      obtain ⟨A3, l3, q3, e3, k1, k2, k3, k4⟩ := open_elems dropVals _ Tryz.underlying23 Tryz.drop_cells h2 (fun n cs' y hl hy => read_drop hl hy)
      obtain ⟨n3, e4, _⟩ := read_int h3
      obtain ⟨n4, e5, _⟩ := read_int h4
      obtain ⟨n5, e6, _⟩ := read_int h5
      cases e1; cases e2; cases e3; cases e4; cases e5; cases e6
      exact ⟨A1, A2, A3, q1, q2, q3, ⟨l1, l2, l3, n3, n4, n5⟩, rfl, ⟨g1, f1, k1, g2, f2, k2, by dsimp only; omega, by dsimp only; omega, by dsimp only; omega⟩, g3, g4⟩
set_option maxRecDepth 10000 in
theorem read_der {r : Reach} {b0 : Nat} {v : Value} {d : DataW H} {p : List MemPlace} (hv : Value.okWide Tryz.prog w r b0 28 v) (h : DataW.Trod enc Tryz.prog w base spare held 28 v d p) :
    ∃ (A4 A5 : Option Addr) (q4 q5 : Nat) (d : Der), v = derVal d.cost A4 d.left.length q4 A5 d.right.length q5 d.form ∧ ElemsAt w A4 1 (d.left.map (fun i => [Value.int .i64 i])) ∧ ElemsAt w A5 1 (d.right.map (fun i => [Value.int .i64 i])) ∧
      I64 d.cost ∧ d.form.length ≤ Go.maxLen ∧ d.left.length ≤ Go.maxLen ∧ d.right.length ≤ Go.maxLen := by
  obtain ⟨cs, rfl, hsz⟩ := okWide_struct Tryz.underlying28 hv
  obtain ⟨fuel, hf⟩ := h
  obtain ⟨y0, y1, y2, y3, m, _, _, h0, h1, h2, h3⟩ := trod_struct4 Tryz.underlying28 hf
  rw [Tryz.der_cells] at hsz
  obtain ⟨l⟩ := cs
  match l, hsz with
  | [c0, c1, c2, c3], _ =>
    simp only [Value.cells, Tryz.int_cells, Tryz.string_cells, Tryz.ints_cells, List.drop_zero, List.drop_succ_cons, List.take_succ_cons, List.take_zero] at h0 h1 h2 h3
    obtain ⟨k0, e0, w0⟩ := read_int h0
    obtain ⟨A4, l4, q4, e1, g1, g2, g3, g4⟩ := read_ints h1
    obtain ⟨A5, l5, q5, e2, f1, f2, f3, f4⟩ := read_ints h2
    obtain ⟨s3, e3, w3⟩ := read_str h3
    cases e0; cases e1; cases e2; cases e3
    exact ⟨A4, A5, q4, q5, ⟨k0, l4, l5, s3⟩, rfl, g1, f1, w0, w3, by dsimp only; omega, by dsimp only; omega⟩
end
end Go.Proofs.YtkkbkhcapogobaaGreatDoor
