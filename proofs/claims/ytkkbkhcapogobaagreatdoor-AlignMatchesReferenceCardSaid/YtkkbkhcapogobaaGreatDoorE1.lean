/- Contracts: words.costs: the closure that calls itself. -/
import Derived.Test.YtkkbkhcapogobaaGreatDoorE0
namespace Go.Proofs.YtkkbkhcapogobaaGreatDoor
open Go Go.RowKit Go.Lib Go.Proofs S Go.Shelf Go.Maps Go.WideMaps
set_option linter.unusedVariables false
set_option linter.unusedSimpArgs false
attribute [local go_sem] Oper.semAt_some

theorem stVal_inj {a b : St} (h : stVal a = stVal b) : a = b := by
  obtain ⟨a1, a2, a3, a4⟩ := a; obtain ⟨b1, b2, b3, b4⟩ := b
  simp only [stVal, Value.agg.injEq, Array.mk.injEq, List.cons.injEq, Value.int.injEq, Value.string.injEq, Value.bool.injEq, true_and, and_true] at h
  obtain ⟨h1, h2, h3, h4⟩ := h
  rw [Int.ofNat_inj.1 h1, Int.ofNat_inj.1 h2, B_inj h3, h4]
theorem Tryz.st_cells : Tryz.prog.cellsOf 49 = 4 := by kernel_rfl
theorem Tryz.st_ok : Tryz.prog.keyType 49 = true := by kernel_rfl
theorem Tryz.bool_cells : Tryz.prog.cellsOf 4 = 1 := by kernel_rfl
theorem st_key {s : St} (h1 : s.i ≤ 1000) (h2 : s.j ≤ 1000) (h3 : s.ahead.length ≤ 3) : ∃ l, keyOf Tryz.prog 49 (stVal s) = some l := by
  obtain ⟨m, hm⟩ := Tryz.size_types
  unfold keyOf stVal
  simp only [Tryz.underlying49]
  rw [if_pos (by simp [Tryz.st_ok, Value.formed, Tryz.underlying49, Tryz.st_cells]), hm]
  unfold Program.keyLits
  simp only [Tryz.underlying49, Value.cells]
  rw [if_pos (by rw [Tryz.st_cells]; exact ⟨rfl, by simp⟩)]
  have h1' : (Lit.int .i64 s.i).wf = true := by simp [Lit.wf, IntKind.min, IntKind.max, IntKind.signed, IntKind.bits]; omega
  have h2' : (Lit.int .i64 s.j).wf = true := by simp [Lit.wf, IntKind.min, IntKind.max, IntKind.signed, IntKind.bits]; omega
  have h3' : (B s.ahead).size ≤ maxLen := by rw [B_size]; unfold maxLen; omega
  simp [Program.keyLits, Tryz.underlying3, Tryz.underlying9, Tryz.underlying4, Tryz.int_cells, Tryz.string_cells, Tryz.bool_cells, *]
set_option maxRecDepth 100000 in
theorem st_keyed : Keyed Tryz.prog 49 := Keyed.of_law (deep_law_laid Tryz.laidOutB (m := 2) (by omega) (of_decide_eq_true (by kernel_rfl)) (by kernel_rfl) (by kernel_rfl))

/-- What the map of costs says. -/
def Inv (L R : Side) (f : Value → Option Value) : Prop := ∀ v x, f v = some x → ∃ s, v = stVal s ∧ In L R s ∧ x = .int .i64 (val L R s) ∧ ∀ m ∈ movesS L R s, (f (stVal m.2)).isSome = true
theorem Inv.at {L R : Side} {f : Value → Option Value} (h : Inv L R f) {s : St} (hs : (f (stVal s)).isSome = true) : f (stVal s) = some (.int .i64 (val L R s)) ∧ ∀ m ∈ movesS L R s, (f (stVal m.2)).isSome = true := by
  obtain ⟨x, hx⟩ := Option.isSome_iff_exists.1 hs
  obtain ⟨s', h1, h2, h3, h4⟩ := h _ _ hx
  cases stVal_inj h1
  exact ⟨by rw [hx, h3], h4⟩
theorem upd_some {f : Value → Option Value} {k x v : Value} (h : (f v).isSome = true) : (upd f k x v).isSome = true := by
  unfold upd; split
  · rfl
  · exact h
theorem Inv.upd {L R : Side} {f : Value → Option Value} (h : Inv L R f) {s : St} (hs : In L R s) (hm : ∀ m ∈ movesS L R s, (f (stVal m.2)).isSome = true) : Inv L R (upd f (stVal s) (.int .i64 (val L R s))) := by
  intro v x hx
  by_cases hv : v = stVal s
  · subst hv
    rw [upd_same] at hx; cases hx
    exact ⟨s, rfl, hs, rfl, fun m h => upd_some (hm m h)⟩
  · rw [upd_other _ _ _ hv] at hx
    obtain ⟨s', h1, h2, h3, h4⟩ := h v x hx
    exact ⟨s', h1, h2, h3, fun m h => upd_some (h4 m h)⟩
theorem inv_none (L R : Side) : Inv L R (fun _ => none) := by intro v x h; cases h

/-- The variables that the closure has captured. -/
structure Mem (w00 : World) (L R : MSide) (Bk Bw Bf b : Nat) (W : World) : Prop where
  cells : Cells w00 W
  known : W.heap[Bk]? = some (.cells #[.map (some b)] 46)
  words : W.heap[Bw]? = some (.cells (wordsCells L R) 43)
  walk : W.heap[Bf]? = some (.cells #[.func (.func 27) #[] #[.pointer (some ⟨Bk, 0, none⟩), .pointer (some ⟨Bw, 0, none⟩), .pointer (some ⟨Bf, 0, none⟩)]] 78)
theorem Mem.step {w00 : World} {L R : MSide} {Bk Bw Bf b : Nat} {W W' : World} {S : Nat → Prop} (h : Mem w00 L R Bk Bw Bf b W) (hm : Mod S W W') (hS : ∀ k, S k → (w00.heap.size ≤ k ∧ k ≠ Bk ∧ k ≠ Bw ∧ k ≠ Bf) ∨ Book W k) : Mem w00 L R Bk Bw Bf b W' := by
  refine ⟨h.cells.step hm (fun k hk => (hS k hk).imp (fun h => h.1) id), block_keep h.known hm ?_, block_keep h.words hm ?_, block_keep h.walk hm ?_⟩
  · intro hs
    rcases hS _ hs with h1 | h1
    · exact h1.2.1 rfl
    · exact cells_not_book h.known h1
  · intro hs
    rcases hS _ hs with h1 | h1
    · exact h1.2.2.1 rfl
    · exact cells_not_book h.words h1
  · intro hs
    rcases hS _ hs with h1 | h1
    · exact h1.2.2.2 rfl
    · exact cells_not_book h.walk h1
theorem Mem.ext {w00 : World} {L R : MSide} {Bk Bw Bf b : Nat} {W W' : World} (h : Mem w00 L R Bk Bw Bf b W) (hm : Ext W W') : Mem w00 L R Bk Bw Bf b W' := h.step (hm.mod (fun _ => False)) (fun _ h => h.elim)
end Go.Proofs.YtkkbkhcapogobaaGreatDoor
