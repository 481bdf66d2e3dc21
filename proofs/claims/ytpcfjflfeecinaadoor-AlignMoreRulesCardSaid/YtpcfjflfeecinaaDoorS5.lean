/- Plain laws: both words exchanged. -/
import Derived.Test.YtpcfjflfeecinaaDoorS4
import Derived.Test.YtpcfjflfeecinaaDoorS1
namespace Go.Proofs.YtpcfjflfeecinaaDoor.S
set_option linter.unusedVariables false
set_option linter.unusedSimpArgs false

def swapD (d : Der) : Der := { d with left := d.right, right := d.left }
theorem check_swap {t : Tab} {a b : Int} {x y : Str} {d : Der} (h : checkS t a x b y d = true) : checkS t b y a x (swapD d) = true := by
  unfold checkS at h ⊢
  cases h1 : sideS t a x with
  | none => rw [h1] at h; cases h
  | some L =>
    cases h2 : sideS t b y with
    | none => rw [h1, h2] at h; cases h
    | some R =>
      cases h3 : validS t with
      | false => rw [h1, h2, h3] at h; cases h
      | true =>
        rw [h1, h2, h3] at h
        simp only [Bool.and_eq_true, decide_eq_true_eq] at h
        obtain ⟨⟨⟨⟨g1, g2⟩, g3⟩, g4⟩, g5⟩ := h
        simp [swapD, g1, g2, g3, g4, ← g5, Int.add_comm]
theorem best_cost {t : Tab} {a b : Int} {x y : Str} {d : Der} (h : bestS t a x b y = (d, 0)) : d.cost < endless := by
  unfold bestS at h
  cases h1 : sideS t a x with
  | none => rw [h1] at h; cases h
  | some L =>
    cases h2 : sideS t b y with
    | none => rw [h1, h2] at h; cases h
    | some R =>
      cases h3 : validS t with
      | false => rw [h1, h2, h3] at h; cases h
      | true =>
        rw [h1, h2, h3] at h
        dsimp only at h
        split at h
        · cases h
        · rename_i hv
          have fL := fine_of h1 h3
          have fR := fine_of h2 h3
          obtain ⟨ls, rs, k1, _⟩ := path_ok fL fR (remS L R St.start) St.start { Der.zero with cost := val L R St.start } (Nat.le_refl _) (start_in _ _) (by intro h; cases h) (by omega)
          rw [k1] at h
          simp only [Prod.mk.injEq, and_true] at h
          subst h
          show val L R St.start < endless
          omega
/-- The three answers. -/
theorem best_cases (t : Tab) (a : Int) (x : Str) (b : Int) (y : Str) :
    (bestS t a x b y = (Der.zero, 1) ∧ ((sideS t a x).isSome && (sideS t b y).isSome && validS t) = false) ∨
    (bestS t a x b y = (Der.zero, 11) ∧ ((sideS t a x).isSome && (sideS t b y).isSome && validS t) = true) ∨
    (∃ d, bestS t a x b y = (d, 0) ∧ ((sideS t a x).isSome && (sideS t b y).isSome && validS t) = true) := by
  unfold bestS
  cases h1 : sideS t a x with
  | none => exact .inl ⟨rfl, rfl⟩
  | some L =>
    cases h2 : sideS t b y with
    | none => exact .inl ⟨rfl, rfl⟩
    | some R =>
      cases h3 : validS t with
      | false => exact .inl ⟨rfl, rfl⟩
      | true =>
        dsimp only
        split
        · exact .inr (.inl ⟨rfl, rfl⟩)
        · exact .inr (.inr ⟨_, rfl, rfl⟩)
/-- With both words exchanged the error and the least cost are the same. -/
theorem best_swap (t : Tab) (a : Int) (x : Str) (b : Int) (y : Str) : (bestS t b y a x).2 = (bestS t a x b y).2 ∧ (bestS t b y a x).1.cost = (bestS t a x b y).1.cost := by
  have hsym : ∀ a x b y, ((sideS t b y).isSome && (sideS t a x).isSome && validS t) = ((sideS t a x).isSome && (sideS t b y).isSome && validS t) := fun a x b y => by
    rw [Bool.and_comm (sideS t b y).isSome]
  rcases best_cases t a x b y with ⟨h1, h2⟩ | ⟨h1, h2⟩ | ⟨d, h1, h2⟩ <;> rcases best_cases t b y a x with ⟨g1, g2⟩ | ⟨g1, g2⟩ | ⟨q, g1, g2⟩ <;>
    (try (rw [hsym a x b y, h2] at g2; cases g2; done))
  · rw [h1, g1]; exact ⟨rfl, rfl⟩
  · rw [h1, g1]; exact ⟨rfl, rfl⟩
  · obtain ⟨p, hp, _⟩ := best_least (d := swapD q) (check_swap (best_sound g1)) (show q.cost < endless from best_cost g1)
    rw [h1] at hp; cases hp
  · obtain ⟨p, hp, _⟩ := best_least (d := swapD d) (check_swap (best_sound h1)) (show d.cost < endless from best_cost h1)
    rw [g1] at hp; cases hp
  · obtain ⟨p, hp, hle⟩ := best_least (d := swapD d) (check_swap (best_sound h1)) (show d.cost < endless from best_cost h1)
    obtain ⟨p', hp', hle'⟩ := best_least (d := swapD q) (check_swap (best_sound g1)) (show q.cost < endless from best_cost g1)
    rw [g1] at hp; cases hp
    rw [h1] at hp'; cases hp'
    rw [h1, g1]
    refine ⟨rfl, ?_⟩
    have e1 : (swapD d).cost = d.cost := rfl
    have e2 : (swapD q).cost = q.cost := rfl
    show q.cost = d.cost
    omega
end Go.Proofs.YtpcfjflfeecinaaDoor.S
