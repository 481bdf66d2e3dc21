/- Plain laws: a further rule. -/
import Derived.Test.YtpcfjflfeecinaaDoorS5
namespace Go.Proofs.YtpcfjflfeecinaaDoor.S
set_option linter.unusedVariables false
set_option linter.unusedSimpArgs false

theorem written_more {s s' : Side} {ex : List ARule} (hl : s'.letters = s.letters) (hr : s'.rules = s.rules ++ ex) : ∀ (is : List Int) (a : Nat) (f : Str) (c : Int) (q : Nat × Str × Int), writtenF s is a f c = some q → writtenF s' is a f c = some q
  | [], a, f, c, q, h => h
  | i :: is, a, f, c, q, h => by
    rw [writtenF] at h ⊢
    cases hf : s.rules.find? (fun r => decide (r.index = i)) with
    | none => rw [hf] at h; cases h
    | some r =>
      rw [hf] at h
      rw [hr, List.find?_append, hf]
      simp only [Option.some_or]
      dsimp only at h
      have hfit : fitsS s' r a = fitsS s r a := by unfold fitsS; rw [hl]
      rw [hfit]
      split at h
      · rename_i hb
        rw [if_pos hb]
        exact written_more hl hr is _ _ _ q h
      · cases h
theorem writtenS_more {s s' : Side} {ex : List ARule} (hl : s'.letters = s.letters) (hr : s'.rules = s.rules ++ ex) {is : List Int} (h : (writtenS s is).2.2 = true) : writtenS s' is = writtenS s is := by
  unfold writtenS at h ⊢
  cases hw : writtenF s is 0 [] 0 with
  | none => rw [hw] at h; cases h
  | some q => rw [written_more hl hr is 0 [] 0 q hw, hl]
theorem side_more {t m : Tab} {r : Rul} (hr : m.rules = t.rules ++ [r]) {k : Int} {x : Str} {s : Side} (hs : sideS t k x = some s) : ∃ s' ex, sideS m k x = some s' ∧ s'.letters = s.letters ∧ s'.rules = s.rules ++ ex := by
  unfold sideS at hs ⊢
  cases hf : foldS k x with
  | none => rw [hf] at hs; cases hs
  | some f =>
    rw [hf] at hs
    obtain ⟨ls, h1, rfl⟩ := Option.map_eq_some_iff.1 hs
    refine ⟨⟨ls, sideRules k 0 m.rules⟩, (aruleOf k (0 + t.rules.length) r).toList, by simp [h1], rfl, ?_⟩
    show sideRules k 0 m.rules = _
    rw [hr, sideRules_snoc]
/-- With a further rule a derivation stays right. -/
theorem check_more {t m : Tab} {r : Rul} (hr : m.rules = t.rules ++ [r]) (hv : validS m = true) {a b : Int} {x y : Str} {d : Der} (h : checkS t a x b y d = true) : checkS m a x b y d = true := by
  unfold checkS at h ⊢
  cases h1 : sideS t a x with
  | none => rw [h1] at h; cases h
  | some L =>
    cases h2 : sideS t b y with
    | none => rw [h1, h2] at h; cases h
    | some R =>
      cases h3 : validS t with
      | false => rw [h1, h2, h3] at h; cases h
      | true =>
        rw [h1, h2, h3] at h
        obtain ⟨L', e1, k1, k2, k3⟩ := side_more hr h1
        obtain ⟨R', e2, j1, j2, j3⟩ := side_more hr h2
        rw [k1, j1, hv]
        simp only [Bool.and_eq_true, decide_eq_true_eq] at h
        obtain ⟨⟨⟨⟨g1, g2⟩, g3⟩, g4⟩, g5⟩ := h
        simp [writtenS_more k2 k3 g1, writtenS_more j2 j3 g2, g1, g2, g3, g4, g5]
/-- A right derivation's cost. -/
theorem check_cost {t : Tab} {a b : Int} {x y : Str} {d : Der} (h : checkS t a x b y d = true) : d.cost ≤ 1000 * d.left.length + 1000 * d.right.length := by
  unfold checkS at h
  cases h1 : sideS t a x with
  | none => rw [h1] at h; cases h
  | some L =>
    cases h2 : sideS t b y with
    | none => rw [h1, h2] at h; cases h
    | some R =>
      cases h3 : validS t with
      | false => rw [h1, h2, h3] at h; cases h
      | true =>
        rw [h1, h2, h3] at h
        simp only [Bool.and_eq_true, decide_eq_true_eq] at h
        have c1 := (writtenS_cost (fine_of h1 h3) d.left).2
        have c2 := (writtenS_cost (fine_of h2 h3) d.right).2
        have := h.2
        omega
/-- With a further rule the least cost is not greater. -/
theorem best_more {t m : Tab} {r : Rul} (hr : m.rules = t.rules ++ [r]) (hv : validS m = true) {a b : Int} {x y : Str} {d : Der} (h : bestS t a x b y = (d, 0)) : ∃ p, bestS m a x b y = (p, 0) ∧ p.cost ≤ d.cost :=
  best_least (check_more hr hv (best_sound h)) (best_cost h)
theorem side_some (t m : Tab) (k : Int) (x : Str) : (sideS t k x).isSome = (sideS m k x).isSome := by
  unfold sideS
  cases foldS k x with
  | none => rfl
  | some f => cases h : lettersS k f <;> simp [h]
/-- No words of the scripts stay none. -/
theorem best_arg {t m : Tab} (hv : validS t = true) (hm : validS m = true) {a b : Int} {x y : Str} (h : (bestS t a x b y).2 = 1) : (bestS m a x b y).2 = 1 := by
  rcases best_cases t a x b y with ⟨_, h2⟩ | ⟨h1, _⟩ | ⟨d, h1, _⟩
  · rcases best_cases m a x b y with ⟨g1, _⟩ | ⟨_, g2⟩ | ⟨q, _, g2⟩
    · rw [g1]
    · rw [side_some m t, side_some m t b y, hm] at g2; rw [hv] at h2; rw [h2] at g2; cases g2
    · rw [side_some m t, side_some m t b y, hm] at g2; rw [hv] at h2; rw [h2] at g2; cases g2
  · rw [h1] at h; cases h
  · rw [h1] at h; cases h
end Go.Proofs.YtpcfjflfeecinaaDoor.S
