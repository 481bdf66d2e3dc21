/- Base words: a range over an iterator that has blocks of its own; the bodies write known blocks and new ones. -/
import Derived.Test.YtkkbkhcapogobaaGreatDoorB0
namespace Go.Proofs.YtkkbkhcapogobaaGreatDoor
open Go Go.RowKit

/-- What may happen between two rounds: new blocks, and book-keeping from block B on. -/
def StepX (B : Nat) (W W' : World) : Prop := Mod (fun k => B ≤ k ∧ Book W k) W W'
/-- The function value g (captured: lb) hands the elements of xs to yield, one after the other; it writes new blocks alone; a round writes blocks of T, book-keeping and new blocks. -/
def IterX {α : Type} (P : Program) (g : Nat) (lb : Array Value) (encs : α → Array Value) (xs : List α) (T : Nat → Prop) (w0 : World) : Prop :=
  ∀ (l : Nat) (J Jx : List α → World → Prop) (W : World), Mod (fun k => w0.heap.size ≤ k) w0 W →
    (∀ pre W1 W2, J pre W1 → Ext W1 W2 → J pre W2) → (∀ pre W1 W2, Jx pre W1 → Ext W1 W2 → Jx pre W2) →
    (∀ pre x rest W1, xs = pre ++ x :: rest → J pre W1 → YieldAt Fence.wide 3 P l (encs x) W1 fun e W' =>
      (e = .returned (.bool true) ∧ J (pre ++ [x]) W' ∧ Mod (fun k => T k ∨ Book W1 k) W1 W') ∨
      (e = .returned (.bool false) ∧ Jx (pre ++ [x]) W')) →
    J [] W →
    Calls P g (#[.func (.yield l) #[] #[]] ++ lb) W fun e W' => (∃ v, e = .returned v) ∧ (J xs W' ∨ ∃ pre, pre <+: xs ∧ Jx pre W')

/-- How a body may be left. -/
def rfPostX {α : Type} (T : Nat → Prop) (I : List α → World → Prop) (Ix : Code → List α → World → Prop) (xs : List α) (W : World) : Exit → Act → World → Prop
  | .normal, _, W' => Mod T W W' ∧ I xs W'
  | .ret, _, W' => Mod T W W' ∧ Ix .ret xs W'
  | .exit id, _, W' => Mod T W W' ∧ Ix (.exit id) xs W'
  | .goto t, _, W' => Mod T W W' ∧ Ix (.goto t) xs W'
  | .panic _, _, _ => False
  | .outgrown, _, _ => False

section
variable {α : Type} {P : Program} {g : Operand} {ps : Array Tmp} {assign body : Code} {Q : Exit → Act → World → Prop} {a : Act} {w : World}

/-- A range over a function, outside every round; between two rounds the iterator writes blocks of its own alone, and the bodies write T and new blocks. -/
theorem rangeFunc_tight {gf : Nat} {lb : Array Value} (hg : a.eval g = .func (.func gf) #[] lb) (eg : ∀ args w, (callFunc gf args).run P w = .ok (.enter gf args) w)
    {encs : α → Array Value} {xs : List α} {T : Nat → Prop} {w0 : World} (hit : IterX P gf lb encs xs T w0) (hb0 : Mod (fun k => w0.heap.size ≤ k) w0 w)
    (hT : ∀ k, T k → k < w.heap.size) (hps : ∀ x, (encs x).size = ps.size)
    (I : List α → World → Prop) (Ix : Code → List α → World → Prop) (hI : ∀ pre W W', I pre W → StepX w.heap.size W W' → I pre W') (hIx : ∀ c pre W W', Ix c pre W → StepX w.heap.size W W' → Ix c pre W') (h0 : I [] w)
    (Ax : α → Act → World → Prop) (hAx : ∀ x a' W W', Ax x a' W → StepX w.heap.size W W' → Ax x a' W')
    (hassign : ∀ (l : Nat) (pre : List α) (x : α) (rest : List α) (W : World) (K : Act → World → Prop), xs = pre ++ x :: rest → I pre W → (∀ a' W', Mod T W W' → I pre W' → Ax x a' W' → K a' W') →
      assign.wpIn (WF (some l)) 3 P (Exit.then K (fun _ _ _ => False)) { tmps := (ps.zip (encs x)).foldl (fun t (p, v) => t.setIfInBounds p v) a.tmps, defers := [] } W)
    (hbody : ∀ (l : Nat) (pre : List α) (x : α) (rest : List α) (a' : Act) (W : World), xs = pre ++ x :: rest → w.heap.size ≤ l → (∃ r, W.heap[l]? = some (.loop r)) → I pre W → Ax x a' W →
      body.wpIn (WF (some l)) 3 P (rfPostX T I Ix (pre ++ [x]) W) a' W)
    (hdone : ∀ (D : Nat) (W : World), w.heap.size ≤ D → I xs W → W.heap[D]? = some (.deferred (some [])) → Q .normal { a with defers := { target := .collected D, args := #[] } :: a.defers } W)
    (hstop : ∀ (D : Nat) (c : Code) (pre : List α) (W : World), w.heap.size ≤ D → pre <+: xs → Ix c pre W → W.heap[D]? = some (.deferred (some [])) → c.wpIn (WF none) 3 P Q { a with defers := { target := .collected D, args := #[] } :: a.defers } W) :
    (Code.rangeFunc g ps assign body).wpIn (WF none) 3 P Q a w := by
  refine wpIn_rangeFunc ?_
  intro fn hfn
  show ∃ l mark w₁ d w₁' f args w₂, (Instr.enterLoop fn a.tmps ps assign body none).run P w = _ ∧ _
  obtain ⟨rec, hrec⟩ : ∃ rec : LoopState → Option Code → Loop, rec = fun st pe => { state := st, pending := pe, fn, tmps := a.tmps, params := ps, assign, body, defers := w.heap.size } := ⟨_, rfl⟩
  obtain ⟨W1, hW1⟩ : ∃ W1, (w.alloc (.deferred (some []))).alloc (.loop (rec .ready none)) = W1 := ⟨_, rfl⟩
  have hL1 : W1.heap[w.heap.size + 1]? = some (.loop (rec .ready none)) := by
    rw [← hW1]; have := World.alloc_heap_new (w.alloc (.deferred (some []))) (.loop (rec .ready none)); rwa [World.size_alloc] at this
  have hK1 : W1.heap[w.heap.size]? = some (.deferred (some [])) := by
    rw [← hW1]; exact (Below.heap_alloc _ _ _ (by simp)).trans (World.alloc_heap_new w _)
  have hb1 : Mod (fun k => w0.heap.size ≤ k) w0 W1 := by rw [← hW1]; exact (hb0.alloc _).alloc _
  have hI1 : I [] W1 := by rw [← hW1]; exact hI _ _ _ h0 (((Mod.refl _ w).alloc _).alloc _)
  have hs1 : ∀ {A B : World}, Ext A B → StepX w.heap.size A B := fun h => h.mod _
  refine ⟨w.heap.size + 1, [{ target := .collected w.heap.size, args := #[] }], W1, { target := .fn (.func gf) lb, args := #[.func (.yield (w.heap.size + 1)) #[] #[]] }, W1, gf,
    #[.func (.yield (w.heap.size + 1)) #[] #[]] ++ lb, W1, ?_, ?_, ?_, ?_, fun h => by simp [Fence.wide] at h, ?_⟩
  · rw [← hW1, hrec]; exact run_enterLoop_outer _ _ _ _ _
  · simp only [resolve, hg]
    simp [go_sem]
  · intro f' _; trivial
  · simp [invoke, go_sem, eg]
  · have hput : ∀ (W : World) (o o' : Loop), W.heap[w.heap.size + 1]? = some (.loop o) → StepX w.heap.size W (W.putObj (w.heap.size + 1) (.loop o')) := fun W o o' h =>
      (Mod.refl _ W).putObj (.inl ⟨by omega, .inl ⟨_, h⟩⟩) _
    have hit' := hit (w.heap.size + 1)
      (fun pre W => I pre W ∧ W.heap[w.heap.size + 1]? = some (.loop (rec .ready none)) ∧ W.heap[w.heap.size]? = some (.deferred (some [])))
      (fun pre W => ∃ c, Ix c pre W ∧ W.heap[w.heap.size + 1]? = some (.loop (rec .done (some c))) ∧ W.heap[w.heap.size]? = some (.deferred (some [])))
      W1 hb1
      (fun pre A B hj hm => ⟨hI _ _ _ hj.1 (hs1 hm), (hm.block _ (Array.getElem?_eq_some_iff.1 hj.2.1).1).trans hj.2.1, (hm.block _ (Array.getElem?_eq_some_iff.1 hj.2.2).1).trans hj.2.2⟩)
      (fun pre A B hj hm => by
        obtain ⟨c, hc, hl, hk⟩ := hj
        exact ⟨c, hIx _ _ _ _ hc (hs1 hm), (hm.block _ (Array.getElem?_eq_some_iff.1 hl).1).trans hl, (hm.block _ (Array.getElem?_eq_some_iff.1 hk).1).trans hk⟩)
      ?_ ⟨hI1, hL1, hK1⟩
    · refine ((callsIn_wide (n := 3 - 1)).2 hit').mono ?_
      rintro e W2 ⟨⟨v, rfl⟩, (⟨hi, hl, hk⟩ | ⟨pre, hpre, c, hi, hl, hk⟩)⟩
      · exact ⟨none, _, by have := run_endLoop (P := P) hl (by rw [hrec]; simp); rw [hrec] at this; exact this, hdone _ _ (Nat.le_refl _) (hI _ _ _ hi (hput _ _ _ hl)) ((World.putObj_heap_other (by omega)).trans hk)⟩
      · exact ⟨some c, _, by have := run_endLoop (P := P) hl (by rw [hrec]; simp); rw [hrec] at this; exact this, hstop _ c pre _ (Nat.le_refl _) hpre (hIx _ _ _ _ hi (hput _ _ _ hl)) ((World.putObj_heap_other (by omega)).trans hk)⟩
    · rintro pre x rest W hxs ⟨hi, hl, hk⟩
      have hlt : w.heap.size + 1 < W.heap.size := (Array.getElem?_eq_some_iff.1 hl).1
      have hy := run_yield (P := P) (args := encs x) hl (by rw [hrec]; exact hps x)
      rw [hrec] at hy
      refine ⟨fn, _, assign, body, hy, (show RoundIn Fence.wide 3 P _ fn _ assign body W _ from roundIn_of_wpIn trivial (hassign _ pre x rest W _ hxs hi ?_))⟩
      clear hy
      intro a' Wa hbm hia hax
      have hla : Wa.heap[w.heap.size + 1]? = some (.loop (rec .ready none)) := (hbm.block _ hlt (fun h => by have := hT _ h; omega)).trans hl
      have hka : Wa.heap[w.heap.size]? = some (.deferred (some [])) := (hbm.block _ (by omega) (fun h => by have := hT _ h; omega)).trans hk
      have hlta : w.heap.size + 1 < Wa.heap.size := (Array.getElem?_eq_some_iff.1 hla).1
      refine ⟨_, run_beginRound hla (by rw [hrec]), ?_⟩
      have hl2 : (Wa.putObj (w.heap.size + 1) (.loop { rec .ready none with state := .busy })).heap[w.heap.size + 1]? = some (.loop { rec .ready none with state := .busy }) := World.putObj_heap_same hlta
      have hk2 : (Wa.putObj (w.heap.size + 1) (.loop { rec .ready none with state := .busy })).heap[w.heap.size]? = some (.deferred (some [])) := (World.putObj_heap_other (by omega)).trans hka
      refine wpIn_mono (hbody _ pre x rest a' _ hxs (by omega) ⟨_, hl2⟩ (hI _ _ _ hia (hput _ _ _ hla)) (hAx _ _ _ _ hax (hput _ _ _ hla))) ?_
      have fin : ∀ (jump : Option Code) (W3 : World), Mod T (Wa.putObj (w.heap.size + 1) (.loop { rec .ready none with state := .busy })) W3 →
          (Instr.endRound (w.heap.size + 1) jump).run P W3 = .ok (.bool jump.isNone) (W3.putObj (w.heap.size + 1) (.loop (rec (if jump.isNone then .ready else .done) jump))) ∧
          StepX w.heap.size W3 (W3.putObj (w.heap.size + 1) (.loop (rec (if jump.isNone then .ready else .done) jump))) ∧
          (W3.putObj (w.heap.size + 1) (.loop (rec (if jump.isNone then .ready else .done) jump))).heap[w.heap.size + 1]? = some (.loop (rec (if jump.isNone then .ready else .done) jump)) ∧
          (W3.putObj (w.heap.size + 1) (.loop (rec (if jump.isNone then .ready else .done) jump))).heap[w.heap.size]? = some (.deferred (some [])) := fun jump W3 hk3 => by
        have hl3 := (hk3.block (w.heap.size + 1) (by simpa using hlta) (fun h => by have := hT _ h; omega)).trans hl2
        have hk3' := (hk3.block w.heap.size (by simp; omega) (fun h => by have := hT _ h; omega)).trans hk2
        have := run_endRound (P := P) jump hl3
        rw [hrec] at this ⊢
        exact ⟨this, hput _ _ _ hl3, World.putObj_heap_same (Array.getElem?_eq_some_iff.1 hl3).1, (World.putObj_heap_other (by omega)).trans hk3'⟩
      rintro e a3 W3 hp
      cases e with
      | normal =>
        obtain ⟨hk3, hi3⟩ := hp
        obtain ⟨hr, hst, hl4, hk4⟩ := fin none W3 hk3
        refine ⟨_, _, hr, .inl ⟨rfl, ⟨hI _ _ _ hi3 hst, hl4, hk4⟩, ?_⟩⟩
        have hbl : Book W (w.heap.size + 1) := .inl ⟨_, hl⟩
        exact (((hbm.mono (fun k _ h => .inl h)).putObj (.inl (.inr hbl)) _).trans (hk3.mono (fun k _ h => .inl h))).putObj (.inl (.inr hbl)) _
      | ret =>
        obtain ⟨hk3, hi3⟩ := hp
        obtain ⟨hr, hst, hl4, hk4⟩ := fin (some .ret) W3 hk3
        exact ⟨_, _, hr, .inr ⟨rfl, .ret, hIx _ _ _ _ hi3 hst, hl4, hk4⟩⟩
      | exit id =>
        obtain ⟨hk3, hi3⟩ := hp
        obtain ⟨hr, hst, hl4, hk4⟩ := fin (some (.exit id)) W3 hk3
        exact ⟨_, _, hr, .inr ⟨rfl, .exit id, hIx _ _ _ _ hi3 hst, hl4, hk4⟩⟩
      | goto t =>
        obtain ⟨hk3, hi3⟩ := hp
        obtain ⟨hr, hst, hl4, hk4⟩ := fin (some (.goto t)) W3 hk3
        exact ⟨_, _, hr, .inr ⟨rfl, .goto t, hIx _ _ _ _ hi3 hst, hl4, hk4⟩⟩
      | panic ch => exact hp.elim
      | outgrown => exact hp.elim
end
end Go.Proofs.YtkkbkhcapogobaaGreatDoor
