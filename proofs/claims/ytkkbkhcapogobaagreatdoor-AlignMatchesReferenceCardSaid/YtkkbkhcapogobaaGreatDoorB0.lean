/- Base words for the proofs of this seat: worlds that differ in few blocks, and a law for a range over a function whose iterator may write a block of its own. -/
import Derived.RangeFuncNested
import Derived.RangeFuncBound
import Derived.RangeFuncCalls
import Derived.RangeFuncLeaves
import Derived.WalkKit
import Derived.Deep.Draws
namespace Go.Proofs.YtkkbkhcapogobaaGreatDoor
open Go Go.RowKit

/-- w' is w with new blocks, and with other contents in blocks of S. -/
structure Mod (S : Nat → Prop) (w w' : World) : Prop where
  os : w'.os = w.os
  tape : w'.tape = w.tape
  output : w'.output = w.output
  size : w.heap.size ≤ w'.heap.size
  block : ∀ k, k < w.heap.size → ¬ S k → w'.heap[k]? = w.heap[k]?

theorem Mod.refl (S : Nat → Prop) (w : World) : Mod S w w := ⟨rfl, rfl, rfl, Nat.le_refl _, fun _ _ _ => rfl⟩
theorem Mod.mono {S S' : Nat → Prop} {w w' : World} (h : Mod S w w') (hs : ∀ k, k < w.heap.size → S k → S' k) : Mod S' w w' :=
  ⟨h.os, h.tape, h.output, h.size, fun k hk hn => h.block k hk (fun hS => hn (hs k hk hS))⟩
theorem Mod.trans {S : Nat → Prop} {a b c : World} (h : Mod S a b) (k : Mod S b c) : Mod S a c :=
  ⟨k.os.trans h.os, k.tape.trans h.tape, k.output.trans h.output, Nat.le_trans h.size k.size,
   fun i hi hn => (k.block i (Nat.lt_of_lt_of_le hi h.size) hn).trans (h.block i hi hn)⟩
theorem Mod.trans' {S S' T : Nat → Prop} {a b c : World} (h : Mod S a b) (k : Mod S' b c) (h1 : ∀ i, i < a.heap.size → S i → T i) (h2 : ∀ i, i < a.heap.size → S' i → T i) : Mod T a c :=
  ⟨k.os.trans h.os, k.tape.trans h.tape, k.output.trans h.output, Nat.le_trans h.size k.size,
   fun i hi hn => (k.block i (Nat.lt_of_lt_of_le hi h.size) (fun hS => hn (h2 i hi hS))).trans (h.block i hi (fun hS => hn (h1 i hi hS)))⟩
theorem Mod.alloc {S : Nat → Prop} {a w : World} (h : Mod S a w) (o : Obj) : Mod S a (w.alloc o) :=
  h.trans ⟨rfl, rfl, rfl, by simp, fun k hk _ => Below.heap_alloc _ _ _ hk⟩
theorem Mod.drew {S : Nat → Prop} {a w : World} (h : Mod S a w) : Mod S a w.drew := ⟨h.os, h.tape, h.output, h.size, h.block⟩
theorem Mod.drewN {S : Nat → Prop} {a w : World} (h : Mod S a w) (n : Nat) : Mod S a (w.drewN n) := ⟨h.os, h.tape, h.output, h.size, h.block⟩
theorem Mod.setCell {S : Nat → Prop} {a w : World} (h : Mod S a w) {p : Addr} (hp : S p.block ∨ a.heap.size ≤ p.block) (u : Value) : Mod S a (w.setCell p u) :=
  ⟨h.os, h.tape, h.output, Nat.le_trans h.size (by simp [World.setCell]), fun k hk hn => by
    have hne : k ≠ p.block := by
      rintro rfl
      rcases hp with hp | hp
      · exact hn hp
      · omega
    exact (Below.heap_setCell _ _ _ _ hne).trans (h.block k hk hn)⟩
theorem Mod.putObj {S : Nat → Prop} {a w : World} (h : Mod S a w) {b : Nat} (hp : S b ∨ a.heap.size ≤ b) (o : Obj) : Mod S a (w.putObj b o) :=
  ⟨h.os, h.tape, h.output, by simpa using h.size, fun k hk hn => by
    have hne : k ≠ b := by
      rintro rfl
      rcases hp with hp | hp
      · exact hn hp
      · omega
    exact (World.putObj_heap_other hne).trans (h.block k hk hn)⟩
theorem Mod.grown {S : Nat → Prop} {a w w' : World} {row : Option Nat} (h : Mod S a w) (hg : w.grownBy w' row) (hr : ∀ k, row = some k → S k ∨ a.heap.size ≤ k) : Mod S a w' :=
  ⟨hg.os.trans h.os, hg.tape.trans h.tape, hg.output.trans h.output, Nat.le_trans h.size hg.size, fun k hk hn => by
    refine (hg.block k (Nat.lt_of_lt_of_le hk h.size) (fun e => ?_)).trans (h.block k hk hn)
    rcases hr k e.symm with h1 | h1
    · exact hn h1
    · omega⟩
theorem Mod.of_grown {w w' : World} {row : Option Nat} (hg : w.grownBy w' row) : Mod (fun k => row = some k) w w' :=
  ⟨hg.os, hg.tape, hg.output, hg.size, fun k hk hn => hg.block k hk (fun e => hn e.symm)⟩
theorem Mod.below {S : Nat → Prop} {w w' : World} (h : Mod S w w') {B : Nat} (hS : ∀ k, S k → B ≤ k) (hB : B ≤ w.heap.size) : Below B w w' :=
  ⟨h.os, h.tape, h.output, h.size, fun k hk => h.block k (Nat.lt_of_lt_of_le hk hB) (fun hs => by have := hS k hs; omega)⟩
theorem Mod.of_below {B : Nat} {w w' : World} (h : Below B w w') : Mod (fun k => B ≤ k) w w' :=
  ⟨h.os, h.tape, h.output, h.size, fun k _ hn => h.block k (by omega)⟩
/-- Nothing that was there has changed. -/
abbrev Ext (w w' : World) : Prop := Below w.heap.size w w'
theorem Ext.trans {a b c : World} (h : Ext a b) (k : Ext b c) : Ext a c := Below.trans h (Below.mono k h.size)
theorem Ext.mod {w w' : World} (h : Ext w w') (S : Nat → Prop) : Mod S w w' := ⟨h.os, h.tape, h.output, h.size, fun k hk _ => h.block k hk⟩
theorem Mod.ext {S : Nat → Prop} {a b c : World} (h : Mod S a b) (k : Ext b c) : Mod S a c := h.trans (k.mod S)
theorem below_ext {B : Nat} {a b c : World} (h : Below B a b) (hB : B ≤ b.heap.size) (k : Ext b c) : Below B a c := Below.trans h (Below.mono k hB)
theorem Mod.ext_of_none {w w' : World} {S : Nat → Prop} (h : Mod S w w') (hS : ∀ k, k < w.heap.size → ¬ S k) : Ext w w' :=
  ⟨h.os, h.tape, h.output, h.size, fun k hk => h.block k hk (hS k hk)⟩
theorem Mod.boxed {S : Nat → Prop} {w w' : World} (h : Mod S w w') {B : Nat} {t : TypeId} {v : Value} (hb : Boxed w B t v) (hn : ¬ S B) : Boxed w' B t v := (h.block B hb.lt hn).trans hb
theorem Mod.below_trans {S : Nat → Prop} {a b c : World} {B : Nat} (h : Below B a b) (k : Mod S b c) (hB : B ≤ b.heap.size) (hS : ∀ i, i < B → ¬ S i) : Below B a c :=
  ⟨k.os.trans h.os, k.tape.trans h.tape, k.output.trans h.output, Nat.le_trans h.size k.size, fun i hi => (k.block i (by omega) (hS i hi)).trans (h.block i hi)⟩

/-! ### A range over a function -/
/-- The fence that lets everything in, in a round or not. -/
abbrev WF (r : Option Nat) : Fence := { Fence.wide with round := r }

/-- A block of the book-keeping of a range over a function. -/
def Book (W : World) (k : Nat) : Prop := (∃ lp, W.heap[k]? = some (.loop lp)) ∨ (∃ d, W.heap[k]? = some (.deferred d))
/-- What may happen between two rounds: the iterator's own blocks S, and book-keeping from block B on. -/
def Step (B : Nat) (S : Nat → Prop) (W W' : World) : Prop := Mod (fun k => S k ∨ (B ≤ k ∧ Book W k)) W W'
/-- What a body may do: its own blocks T, and whatever is no book-keeping from block B on. -/
def BMod (B : Nat) (T : Nat → Prop) (W W' : World) : Prop := Mod (fun k => T k ∨ (B ≤ k ∧ ¬ Book W k)) W W'

/-- The function value g (captured: lb) hands the elements of xs to yield, one after the other; between two rounds it may write blocks of S; it reads blocks of R, which a round must keep. -/
def IterAt {α : Type} (P : Program) (g : Nat) (lb : Array Value) (encs : α → Array Value) (xs : List α) (S R : Nat → Prop) (w0 : World) : Prop :=
  ∀ (l : Nat) (J Jx : List α → World → Prop) (W : World), Mod (fun k => w0.heap.size ≤ k) w0 W →
    (∀ pre W1 W2, J pre W1 → Mod S W1 W2 → J pre W2) → (∀ pre W1 W2, Jx pre W1 → Mod S W1 W2 → Jx pre W2) →
    (∀ pre x rest W1, xs = pre ++ x :: rest → J pre W1 → YieldAt Fence.wide 3 P l (encs x) W1 fun e W' =>
      (e = .returned (.bool true) ∧ J (pre ++ [x]) W' ∧ Mod (fun k => ¬ R k) W1 W') ∨
      (e = .returned (.bool false) ∧ Jx (pre ++ [x]) W')) →
    J [] W →
    Calls P g (#[.func (.yield l) #[] #[]] ++ lb) W fun e W' => (∃ v, e = .returned v) ∧ (J xs W' ∨ ∃ pre, pre <+: xs ∧ Jx pre W')

/-- How a body may be left. -/
def rfPost {α : Type} (B : Nat) (T : Nat → Prop) (I : List α → World → Prop) (Ix : Code → List α → World → Prop) (xs : List α) (W : World) : Exit → Act → World → Prop
  | .normal, _, W' => BMod B T W W' ∧ I xs W'
  | .ret, _, W' => BMod B T W W' ∧ Ix .ret xs W'
  | .exit id, _, W' => BMod B T W W' ∧ Ix (.exit id) xs W'
  | .goto t, _, W' => BMod B T W W' ∧ Ix (.goto t) xs W'
  | .panic _, _, _ => False
  | .outgrown, _, _ => False

theorem BMod.keeps {B : Nat} {T : Nat → Prop} {W W' : World} (h : BMod B T W W') {k : Nat} (hk : k < W.heap.size) (hT : ¬ T k) (hB : k < B ∨ Book W k) : W'.heap[k]? = W.heap[k]? :=
  h.block k hk (fun hs => by
    rcases hs with hs | ⟨h1, h2⟩
    · exact hT hs
    · rcases hB with hB | hB
      · omega
      · exact h2 hB)
theorem BMod.refl (B : Nat) (T : Nat → Prop) (W : World) : BMod B T W W := Mod.refl _ _
theorem Book.mono {S : Nat → Prop} {W W' : World} (h : Mod S W W') {k : Nat} (hb : Book W k) (hn : ¬ S k) : Book W' k := by
  rcases hb with ⟨lp, hb⟩ | ⟨d, hb⟩
  · exact .inl ⟨lp, (h.block k (Array.getElem?_eq_some_iff.1 hb).1 hn).trans hb⟩
  · exact .inr ⟨d, (h.block k (Array.getElem?_eq_some_iff.1 hb).1 hn).trans hb⟩
/-- From a round's beginning on: what the body did with the record busy it did with the record ready. -/
theorem BMod.trans {B : Nat} {T : Nat → Prop} {a b c : World} (h : BMod B T a b) (k : BMod B T b c) (hT : ∀ i, T i → i < B) : BMod B T a c :=
  ⟨k.os.trans h.os, k.tape.trans h.tape, k.output.trans h.output, Nat.le_trans h.size k.size, fun i hi hn => by
    refine (k.block i (Nat.lt_of_lt_of_le hi h.size) (fun hs => hn ?_)).trans (h.block i hi hn)
    rcases hs with hs | ⟨h1, h2⟩
    · exact .inl hs
    · refine .inr ⟨h1, fun hb => h2 (Book.mono h hb ?_)⟩
      rintro (h3 | ⟨_, h3⟩)
      · have := hT i h3; omega
      · exact h3 hb⟩

section
variable {α : Type} {P : Program} {g : Operand} {ps : Array Tmp} {assign body : Code} {Q : Exit → Act → World → Prop} {a : Act} {w : World}

/-- A range over a function, outside every round. -/
theorem rangeFunc_outer {gf : Nat} {lb : Array Value} (hg : a.eval g = .func (.func gf) #[] lb) (eg : ∀ args w, (callFunc gf args).run P w = .ok (.enter gf args) w)
    {encs : α → Array Value} {xs : List α} {S R T : Nat → Prop} {w0 : World} (hit : IterAt P gf lb encs xs S R w0) (hb0 : Mod (fun k => w0.heap.size ≤ k) w0 w)
    (hS : ∀ k, S k → k < w.heap.size) (hT : ∀ k, T k → k < w.heap.size) (hR : ∀ k, R k → k < w.heap.size ∧ ¬ T k) (hps : ∀ x, (encs x).size = ps.size)
    (I : List α → World → Prop) (Ix : Code → List α → World → Prop) (hI : ∀ pre W W', I pre W → Step w.heap.size S W W' → I pre W') (hIx : ∀ c pre W W', Ix c pre W → Step w.heap.size S W W' → Ix c pre W') (h0 : I [] w)
    (Ax : α → Act → World → Prop) (hAx : ∀ x a' W W', Ax x a' W → Step w.heap.size S W W' → Ax x a' W')
    (hassign : ∀ (l : Nat) (pre : List α) (x : α) (rest : List α) (W : World) (K : Act → World → Prop), xs = pre ++ x :: rest → I pre W → (∀ a' W', BMod w.heap.size T W W' → I pre W' → Ax x a' W' → K a' W') →
      assign.wpIn (WF (some l)) 3 P (Exit.then K (fun _ _ _ => False)) { tmps := (ps.zip (encs x)).foldl (fun t (p, v) => t.setIfInBounds p v) a.tmps, defers := [] } W)
    (hbody : ∀ (l : Nat) (pre : List α) (x : α) (rest : List α) (a' : Act) (W : World), xs = pre ++ x :: rest → w.heap.size ≤ l → (∃ r, W.heap[l]? = some (.loop r)) → I pre W → Ax x a' W →
      body.wpIn (WF (some l)) 3 P (rfPost w.heap.size T I Ix (pre ++ [x]) W) a' W)
    (hdone : ∀ (D : Nat) (W : World), w.heap.size ≤ D → I xs W → W.heap[D]? = some (.deferred (some [])) → Q .normal { a with defers := { target := .collected D, args := #[] } :: a.defers } W)
    (hstop : ∀ (D : Nat) (c : Code) (pre : List α) (W : World), w.heap.size ≤ D → pre <+: xs → Ix c pre W → W.heap[D]? = some (.deferred (some [])) → c.wpIn (WF none) 3 P Q { a with defers := { target := .collected D, args := #[] } :: a.defers } W) :
    (Code.rangeFunc g ps assign body).wpIn (WF none) 3 P Q a w := by
  refine wpIn_rangeFunc ?_
  intro fn hfn
  show ∃ l mark w₁ d w₁' f args w₂, (Instr.enterLoop fn a.tmps ps assign body none).run P w = _ ∧ _
  obtain ⟨rec, hrec⟩ : ∃ rec : LoopState → Option Code → Loop, rec = fun st pe => { state := st, pending := pe, fn, tmps := a.tmps, params := ps, assign, body, defers := w.heap.size } := ⟨_, rfl⟩
  obtain ⟨W1, hW1⟩ : ∃ W1, (w.alloc (.deferred (some []))).alloc (.loop (rec .ready none)) = W1 := ⟨_, rfl⟩
  have hL1 : W1.heap[w.heap.size + 1]? = some (.loop (rec .ready none)) := by
    rw [← hW1]; have := World.alloc_heap_new (w.alloc (.deferred (some []))) (.loop (rec .ready none)); rwa [World.size_alloc] at this
  have hK1 : W1.heap[w.heap.size]? = some (.deferred (some [])) := by
    rw [← hW1]; exact (Below.heap_alloc _ _ _ (by simp)).trans (World.alloc_heap_new w _)
  have hb1 : Mod (fun k => w0.heap.size ≤ k) w0 W1 := by rw [← hW1]; exact (hb0.alloc _).alloc _
  have hI1 : I [] W1 := by rw [← hW1]; exact hI _ _ _ h0 (((Mod.refl _ w).alloc _).alloc _)
  have hs1 : ∀ {A B : World}, Mod S A B → Step w.heap.size S A B := fun h => h.mono (fun k _ hk => .inl hk)
  refine ⟨w.heap.size + 1, [{ target := .collected w.heap.size, args := #[] }], W1, { target := .fn (.func gf) lb, args := #[.func (.yield (w.heap.size + 1)) #[] #[]] }, W1, gf,
    #[.func (.yield (w.heap.size + 1)) #[] #[]] ++ lb, W1, ?_, ?_, ?_, ?_, fun h => by simp [Fence.wide] at h, ?_⟩
  · rw [← hW1, hrec]; exact run_enterLoop_outer _ _ _ _ _
  · simp only [resolve, hg]
    simp [go_sem]
  · intro f' _; trivial
  · simp [invoke, go_sem, eg]
  · have hput : ∀ (W : World) (o o' : Loop), W.heap[w.heap.size + 1]? = some (.loop o) → Step w.heap.size S W (W.putObj (w.heap.size + 1) (.loop o')) := fun W o o' h =>
      (Mod.refl _ W).putObj (.inl (.inr ⟨by omega, .inl ⟨_, h⟩⟩)) _
    have hit' := hit (w.heap.size + 1)
      (fun pre W => I pre W ∧ W.heap[w.heap.size + 1]? = some (.loop (rec .ready none)) ∧ W.heap[w.heap.size]? = some (.deferred (some [])))
      (fun pre W => ∃ c, Ix c pre W ∧ W.heap[w.heap.size + 1]? = some (.loop (rec .done (some c))) ∧ W.heap[w.heap.size]? = some (.deferred (some [])))
      W1 hb1
      (fun pre A B hj hm => ⟨hI _ _ _ hj.1 (hs1 hm), (hm.block _ (Array.getElem?_eq_some_iff.1 hj.2.1).1 (fun h => by have := hS _ h; omega)).trans hj.2.1, (hm.block _ (Array.getElem?_eq_some_iff.1 hj.2.2).1 (fun h => by have := hS _ h; omega)).trans hj.2.2⟩)
      (fun pre A B hj hm => by
        obtain ⟨c, hc, hl, hk⟩ := hj
        exact ⟨c, hIx _ _ _ _ hc (hs1 hm), (hm.block _ (Array.getElem?_eq_some_iff.1 hl).1 (fun h => by have := hS _ h; omega)).trans hl, (hm.block _ (Array.getElem?_eq_some_iff.1 hk).1 (fun h => by have := hS _ h; omega)).trans hk⟩)
      ?_ ⟨hI1, hL1, hK1⟩
    · refine ((callsIn_wide (n := 3 - 1)).2 hit').mono ?_
      rintro e W2 ⟨⟨v, rfl⟩, (⟨hi, hl, hk⟩ | ⟨pre, hpre, c, hi, hl, hk⟩)⟩
      · exact ⟨none, _, by have := run_endLoop (P := P) hl (by rw [hrec]; simp); rw [hrec] at this; exact this, hdone _ _ (Nat.le_refl _) (hI _ _ _ hi (hput _ _ _ hl)) ((World.putObj_heap_other (by omega)).trans hk)⟩
      · exact ⟨some c, _, by have := run_endLoop (P := P) hl (by rw [hrec]; simp); rw [hrec] at this; exact this, hstop _ c pre _ (Nat.le_refl _) hpre (hIx _ _ _ _ hi (hput _ _ _ hl)) ((World.putObj_heap_other (by omega)).trans hk)⟩
    · rintro pre x rest W hxs ⟨hi, hl, hk⟩
      have hlt : w.heap.size + 1 < W.heap.size := (Array.getElem?_eq_some_iff.1 hl).1
      have hy := run_yield (P := P) (args := encs x) hl (by rw [hrec]; exact hps x)
      rw [hrec] at hy
      refine ⟨fn, _, assign, body, hy, (show RoundIn Fence.wide 3 P _ fn _ assign body W _ from roundIn_of_wpIn trivial (hassign _ pre x rest W _ hxs hi ?_))⟩
      clear hy
      intro a' Wa hbm hia hax
      have hla : Wa.heap[w.heap.size + 1]? = some (.loop (rec .ready none)) := (hbm.keeps hlt (fun h => by have := hT _ h; omega) (.inr (.inl ⟨_, hl⟩))).trans hl
      have hka : Wa.heap[w.heap.size]? = some (.deferred (some [])) := (hbm.keeps (by omega) (fun h => by have := hT _ h; omega) (.inr (.inr ⟨_, hk⟩))).trans hk
      have hlta : w.heap.size + 1 < Wa.heap.size := (Array.getElem?_eq_some_iff.1 hla).1
      refine ⟨_, run_beginRound hla (by rw [hrec]), ?_⟩
      have hl2 : (Wa.putObj (w.heap.size + 1) (.loop { rec .ready none with state := .busy })).heap[w.heap.size + 1]? = some (.loop { rec .ready none with state := .busy }) := World.putObj_heap_same hlta
      have hk2 : (Wa.putObj (w.heap.size + 1) (.loop { rec .ready none with state := .busy })).heap[w.heap.size]? = some (.deferred (some [])) := (World.putObj_heap_other (by omega)).trans hka
      refine wpIn_mono (hbody _ pre x rest a' _ hxs (by omega) ⟨_, hl2⟩ (hI _ _ _ hia (hput _ _ _ hla)) (hAx _ _ _ _ hax (hput _ _ _ hla))) ?_
      have fin : ∀ (jump : Option Code) (W3 : World), BMod w.heap.size T (Wa.putObj (w.heap.size + 1) (.loop { rec .ready none with state := .busy })) W3 →
          (Instr.endRound (w.heap.size + 1) jump).run P W3 = .ok (.bool jump.isNone) (W3.putObj (w.heap.size + 1) (.loop (rec (if jump.isNone then .ready else .done) jump))) ∧
          Step w.heap.size S W3 (W3.putObj (w.heap.size + 1) (.loop (rec (if jump.isNone then .ready else .done) jump))) ∧
          (W3.putObj (w.heap.size + 1) (.loop (rec (if jump.isNone then .ready else .done) jump))).heap[w.heap.size + 1]? = some (.loop (rec (if jump.isNone then .ready else .done) jump)) ∧
          (W3.putObj (w.heap.size + 1) (.loop (rec (if jump.isNone then .ready else .done) jump))).heap[w.heap.size]? = some (.deferred (some [])) := fun jump W3 hk3 => by
        have hl3 := (hk3.keeps (k := w.heap.size + 1) (by simpa using hlta) (fun h => by have := hT _ h; omega) (.inr (.inl ⟨_, hl2⟩))).trans hl2
        have hk3' := (hk3.keeps (k := w.heap.size) (by simp; omega) (fun h => by have := hT _ h; omega) (.inr (.inr ⟨_, hk2⟩))).trans hk2
        have := run_endRound (P := P) jump hl3
        rw [hrec] at this ⊢
        exact ⟨this, hput _ _ _ hl3, World.putObj_heap_same (Array.getElem?_eq_some_iff.1 hl3).1, (World.putObj_heap_other (by omega)).trans hk3'⟩
      rintro e a3 W3 hp
      cases e with
      | normal =>
        obtain ⟨hk3, hi3⟩ := hp
        obtain ⟨hr, hst, hl4, hk4⟩ := fin none W3 hk3
        refine ⟨_, _, hr, .inl ⟨rfl, ⟨hI _ _ _ hi3 hst, hl4, hk4⟩, ?_⟩⟩
        have hnR : ∀ {A : World} {k : Nat}, (T k ∨ (w.heap.size ≤ k ∧ ¬ Book A k)) → ¬ R k := fun h hRk => by
          obtain ⟨h1, h2⟩ := hR _ hRk
          rcases h with h | h
          · exact h2 h
          · omega
        have hl : ¬ R (w.heap.size + 1) := fun h => by have := (hR _ h).1; omega
        exact (((hbm.mono (fun k _ h => hnR h)).putObj (.inl hl) _).trans (hk3.mono (fun k _ h => hnR h))).putObj (.inl hl) _
      | ret =>
        obtain ⟨hk3, hi3⟩ := hp
        obtain ⟨hr, hst, hl4, hk4⟩ := fin (some .ret) W3 hk3
        exact ⟨_, _, hr, .inr ⟨rfl, .ret, hIx _ _ _ _ hi3 hst, hl4, hk4⟩⟩
      | exit id =>
        obtain ⟨hk3, hi3⟩ := hp
        obtain ⟨hr, hst, hl4, hk4⟩ := fin (some (.exit id)) W3 hk3
        exact ⟨_, _, hr, .inr ⟨rfl, .exit id, hIx _ _ _ _ hi3 hst, hl4, hk4⟩⟩
      | goto t =>
        obtain ⟨hk3, hi3⟩ := hp
        obtain ⟨hr, hst, hl4, hk4⟩ := fin (some (.goto t)) W3 hk3
        exact ⟨_, _, hr, .inr ⟨rfl, .goto t, hIx _ _ _ _ hi3 hst, hl4, hk4⟩⟩
      | panic ch => exact hp.elim
      | outgrown => exact hp.elim
end
end Go.Proofs.YtkkbkhcapogobaaGreatDoor
