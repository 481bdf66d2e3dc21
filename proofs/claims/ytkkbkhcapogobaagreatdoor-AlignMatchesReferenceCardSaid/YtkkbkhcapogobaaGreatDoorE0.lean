/- Contracts: words.moves; plain laws on costs. -/
import Derived.Test.YtkkbkhcapogobaaGreatDoorD9
namespace Go.Proofs.YtkkbkhcapogobaaGreatDoor
open Go Go.RowKit Go.Lib Go.Proofs S Go.Shelf Go.Maps Go.WideMaps
set_option linter.unusedVariables false
set_option linter.unusedSimpArgs false

def wordsCells (L R : MSide) : Array Value := #[letVal L.lg L.lc L.letters, .slice L.A L.rules.length L.rc, letVal R.lg R.lc R.letters, .slice R.A R.rules.length R.rc]
/-- (align.words).moves. -/
theorem moves_any (L R : MSide) (s : St) (w : World) :
    Calls Tryz.prog 17 #[wordsVal L R, stVal s] w fun e w' => e = .returned (.func (.func 28) #[] #[.pointer (some ⟨w.heap.size + 1, 0, none⟩), .pointer (some ⟨w.heap.size, 0, none⟩)]) ∧ (w.alloc (.cells (wordsCells L R) 43)).alloc (.cells (stVals s) 49) = w' := by
  unfold wordsVal stVal wordsCells stVals
  go_enter Tryz.func17, Tryz.ntmps17
  go_wp2
  go_ret
  exact ⟨by simp, rfl⟩

namespace S
theorem stepS_right {left : Bool} {s n : St} {r : ARule} (h : stepS left s r = some n) : n.i = (if left then s.i + r.frm.length else s.i) ∧ n.j = (if left then s.j else s.j + r.frm.length) := by
  unfold stepS at h
  dsimp only at h
  split at h
  · cases h; exact ⟨rfl, rfl⟩
  · split at h
    · cases h; exact ⟨rfl, rfl⟩
    · cases h
/-- What a move is. -/
theorem mem_moves {L R : Side} {s : St} {m : ARule × St} (h : m ∈ movesS L R s) :
    m.1 ∈ (if turnS L s then L.rules else R.rules) ∧ fitsS (if turnS L s then L else R) m.1 (if turnS L s then s.i else s.j) = true ∧ stepS (turnS L s) s m.1 = some m.2 := by
  unfold movesS at h
  obtain ⟨r, hr, hm⟩ := List.mem_filterMap.1 h
  unfold moveS at hm
  cases hf : fitsS (if turnS L s then L else R) r (if turnS L s then s.i else s.j) with
  | false => rw [hf] at hm; simp at hm
  | true =>
    cases hst : stepS (turnS L s) s r with
    | none => rw [hf, hst] at hm; simp at hm
    | some n => rw [hf, hst] at hm; simp at hm; rw [← hm]; exact ⟨hr, hf, hst⟩
/-- Sides whose rules have letters, and costs. -/
structure Fine (s : Side) : Prop where
  frm : ∀ r ∈ s.rules, 0 < r.frm.length
  cost : ∀ r ∈ s.rules, 0 ≤ r.cost ∧ r.cost ≤ 1000
  short : ∀ r ∈ s.rules, r.to.length ≤ 3
/-- A state within the words. -/
structure In (L R : Side) (s : St) : Prop where
  i : s.i ≤ L.letters.length
  j : s.j ≤ R.letters.length
  ahead : s.ahead.length ≤ 3
theorem start_in (L R : Side) : In L R St.start := ⟨Nat.zero_le _, Nat.zero_le _, Nat.zero_le _⟩
theorem step_ahead {left : Bool} {s n : St} {r : ARule} (h : stepS left s r = some n) (h1 : s.ahead.length ≤ 3) (h2 : r.to.length ≤ 3) : n.ahead.length ≤ 3 := by
  unfold stepS at h
  dsimp only at h
  split at h
  · cases h; simp; omega
  · split at h
    · cases h; simp; omega
    · cases h
theorem move_rem {L R : Side} (hL : Fine L) (hR : Fine R) {s : St} (hs : In L R s) {m : ARule × St} (h : m ∈ movesS L R s) : In L R m.2 ∧ remS L R m.2 < remS L R s ∧ 0 ≤ m.1.cost ∧ m.1.cost ≤ 1000 := by
  obtain ⟨h1, h2, h3⟩ := mem_moves h
  obtain ⟨h4, h5⟩ := stepS_right h3
  obtain ⟨h6, h7, h8⟩ := hs
  unfold fitsS at h2
  simp only [Bool.and_eq_true, decide_eq_true_eq] at h2
  cases ht : turnS L s with
  | true =>
    rw [ht] at h1 h2 h4 h5
    simp only [if_true] at h1 h2 h4 h5
    have := hL.frm _ h1
    have := hL.cost _ h1
    refine ⟨⟨by omega, by omega, step_ahead h3 h8 (hL.short _ h1)⟩, ?_, this⟩
    unfold remS; omega
  | false =>
    rw [ht] at h1 h2 h4 h5
    simp only [Bool.false_eq_true, if_false] at h1 h2 h4 h5
    have := hR.frm _ h1
    have := hR.cost _ h1
    refine ⟨⟨by omega, by omega, step_ahead h3 h8 (hR.short _ h1)⟩, ?_, this⟩
    unfold remS; omega
theorem foldl_congr {α β : Type} {f g : β → α → β} : ∀ (l : List α) (b : β), (∀ b, ∀ x ∈ l, f b x = g b x) → l.foldl f b = l.foldl g b
  | [], b, _ => rfl
  | x :: xs, b, h => by
    rw [List.foldl_cons, List.foldl_cons, h b x (by simp)]
    exact foldl_congr xs _ (fun b y hy => h b y (by simp [hy]))
theorem valF_more {L R : Side} (hL : Fine L) (hR : Fine R) : ∀ (n m : Nat) (s : St), In L R s → remS L R s ≤ n → remS L R s ≤ m → valF L R n s = valF L R m s
  | 0, 0, s, _, _, _ => rfl
  | 0, m + 1, s, hs, h, _ => by
    have : movesS L R s = [] := by
      apply List.eq_nil_iff_forall_not_mem.2
      intro x hx
      have := (move_rem hL hR hs hx).2.1
      omega
    simp [valF, this]
  | n + 1, 0, s, hs, _, h => by
    have : movesS L R s = [] := by
      apply List.eq_nil_iff_forall_not_mem.2
      intro x hx
      have := (move_rem hL hR hs hx).2.1
      omega
    simp [valF, this]
  | n + 1, m + 1, s, hs, h1, h2 => by
    simp only [valF]
    refine foldl_congr _ _ (fun b x hx => ?_)
    obtain ⟨h3, h4, _⟩ := move_rem hL hR hs hx
    rw [valF_more hL hR n m x.2 h3 (by omega) (by omega)]
theorem val_eq {L R : Side} (hL : Fine L) (hR : Fine R) {s : St} (hs : In L R s) :
    val L R s = (movesS L R s).foldl (fun h m => min h (m.1.cost + val L R m.2)) (if doneS L R s then 0 else endless) := by
  unfold val
  have h := valF_more hL hR (remS L R s) (remS L R s + 1) s hs (Nat.le_refl _) (by omega)
  rw [h]
  simp only [valF]
  refine foldl_congr _ _ (fun b x hx => ?_)
  obtain ⟨h3, h4, _⟩ := move_rem hL hR hs hx
  rw [valF_more hL hR (remS L R s) (remS L R x.2) x.2 h3 (by omega) (Nat.le_refl _)]
theorem fold_range {α : Type} (f : α → Int) : ∀ (l : List α) (b : Int), 0 ≤ b → b ≤ endless → (∀ x ∈ l, 0 ≤ f x) → 0 ≤ l.foldl (fun h m => min h (f m)) b ∧ l.foldl (fun h m => min h (f m)) b ≤ endless
  | [], b, h1, h2, _ => ⟨h1, h2⟩
  | x :: xs, b, h1, h2, h3 => by
    have := h3 x (by simp)
    exact fold_range f xs (min b (f x)) (by omega) (by omega) (fun y hy => h3 y (by simp [hy]))
theorem val_range {L R : Side} (hL : Fine L) (hR : Fine R) : ∀ (n : Nat) (s : St), In L R s → remS L R s ≤ n → 0 ≤ val L R s ∧ val L R s ≤ endless
  | n, s, hs, hn => by
    rw [val_eq hL hR hs]
    refine fold_range (fun m : ARule × St => m.1.cost + val L R m.2) _ _ (by split <;> simp [endless]) (by split <;> simp [endless]) (fun m hm => ?_)
    obtain ⟨h3, h4, h5, h6⟩ := move_rem hL hR hs hm
    cases n with
    | zero => omega
    | succ n =>
      have := val_range hL hR n m.2 h3 (by omega)
      omega
end S
end Go.Proofs.YtkkbkhcapogobaaGreatDoor
