/- Plain laws: the examples of the chapter. -/
import Derived.Test.YtkkbkhcapogobaaGreatDoorS4
import Derived.Test.YtkkbkhcapogobaaGreatDoorS1
section
namespace Go.Proofs.YtkkbkhcapogobaaGreatDoor.S
set_option linter.unusedVariables false
set_option linter.unusedSimpArgs false

def swapD (d : Der) : Der := { d with left := d.right, right := d.left }
theorem check_swap {t : Tab} {a b : Int} {x y : Str} {d : Der} (h : checkS t a x b y d = true) : checkS t b y a x (swapD d) = true := by
  unfold checkS at h ⊢
  cases h1 : sideS t a x with
  | none => rw [h1] at h; cases h
  | some L =>
    cases h2 : sideS t b y with
    | none => rw [h1, h2] at h; cases h
    | some R =>
      cases h3 : validS t with
      | false => rw [h1, h2, h3] at h; cases h
      | true =>
        rw [h1, h2, h3] at h
        simp only [Bool.and_eq_true, decide_eq_true_eq] at h
        obtain ⟨⟨⟨⟨g1, g2⟩, g3⟩, g4⟩, g5⟩ := h
        simp [swapD, g1, g2, g3, g4, ← g5, Int.add_comm]
theorem best_cost {t : Tab} {a b : Int} {x y : Str} {d : Der} (h : bestS t a x b y = (d, 0)) : d.cost < endless := by
  unfold bestS at h
  cases h1 : sideS t a x with
  | none => rw [h1] at h; cases h
  | some L =>
    cases h2 : sideS t b y with
    | none => rw [h1, h2] at h; cases h
    | some R =>
      cases h3 : validS t with
      | false => rw [h1, h2, h3] at h; cases h
      | true =>
        rw [h1, h2, h3] at h
        dsimp only at h
        split at h
        · cases h
        · rename_i hv
          have fL := fine_of h1 h3
          have fR := fine_of h2 h3
          obtain ⟨ls, rs, k1, _⟩ := path_ok fL fR (remS L R St.start) St.start { Der.zero with cost := val L R St.start } (Nat.le_refl _) (start_in _ _) (by intro h; cases h) (by omega)
          rw [k1] at h
          simp only [Prod.mk.injEq, and_true] at h
          subst h
          show val L R St.start < endless
          omega
/-- The three answers. -/
theorem best_cases (t : Tab) (a : Int) (x : Str) (b : Int) (y : Str) :
    (bestS t a x b y = (Der.zero, 1) ∧ ((sideS t a x).isSome && (sideS t b y).isSome && validS t) = false) ∨
    (bestS t a x b y = (Der.zero, 11) ∧ ((sideS t a x).isSome && (sideS t b y).isSome && validS t) = true) ∨
    (∃ d, bestS t a x b y = (d, 0) ∧ ((sideS t a x).isSome && (sideS t b y).isSome && validS t) = true) := by
  unfold bestS
  cases h1 : sideS t a x with
  | none => exact .inl ⟨rfl, rfl⟩
  | some L =>
    cases h2 : sideS t b y with
    | none => exact .inl ⟨rfl, rfl⟩
    | some R =>
      cases h3 : validS t with
      | false => exact .inl ⟨rfl, rfl⟩
      | true =>
        dsimp only
        split
        · exact .inr (.inl ⟨rfl, rfl⟩)
        · exact .inr (.inr ⟨_, rfl, rfl⟩)
/-- With both words exchanged the error and the least cost are the same. -/
theorem best_swap (t : Tab) (a : Int) (x : Str) (b : Int) (y : Str) : (bestS t b y a x).2 = (bestS t a x b y).2 ∧ (bestS t b y a x).1.cost = (bestS t a x b y).1.cost := by
  have hsym : ∀ a x b y, ((sideS t b y).isSome && (sideS t a x).isSome && validS t) = ((sideS t a x).isSome && (sideS t b y).isSome && validS t) := fun a x b y => by
    rw [Bool.and_comm (sideS t b y).isSome]
  rcases best_cases t a x b y with ⟨h1, h2⟩ | ⟨h1, h2⟩ | ⟨d, h1, h2⟩ <;> rcases best_cases t b y a x with ⟨g1, g2⟩ | ⟨g1, g2⟩ | ⟨q, g1, g2⟩ <;>
    (try (rw [hsym a x b y, h2] at g2; cases g2; done))
  · rw [h1, g1]; exact ⟨rfl, rfl⟩
  · rw [h1, g1]; exact ⟨rfl, rfl⟩
  · obtain ⟨p, hp, _⟩ := best_least (d := swapD q) (check_swap (best_sound g1)) (show q.cost < endless from best_cost g1)
    rw [h1] at hp; cases hp
  · obtain ⟨p, hp, _⟩ := best_least (d := swapD d) (check_swap (best_sound h1)) (show d.cost < endless from best_cost h1)
    rw [g1] at hp; cases hp
  · obtain ⟨p, hp, hle⟩ := best_least (d := swapD d) (check_swap (best_sound h1)) (show d.cost < endless from best_cost h1)
    obtain ⟨p', hp', hle'⟩ := best_least (d := swapD q) (check_swap (best_sound g1)) (show q.cost < endless from best_cost g1)
    rw [g1] at hp; cases hp
    rw [h1] at hp'; cases hp'
    rw [h1, g1]
    refine ⟨rfl, ?_⟩
    have e1 : (swapD d).cost = d.cost := rfl
    have e2 : (swapD q).cost = q.cost := rfl
    show q.cost = d.cost
    omega
end Go.Proofs.YtkkbkhcapogobaaGreatDoor.S
end
section
namespace Go.Proofs.YtkkbkhcapogobaaGreatDoor.S
set_option linter.unusedVariables false
set_option linter.unusedSimpArgs false

theorem written_more {s s' : Side} {ex : List ARule} (hl : s'.letters = s.letters) (hr : s'.rules = s.rules ++ ex) : ∀ (is : List Int) (a : Nat) (f : Str) (c : Int) (q : Nat × Str × Int), writtenF s is a f c = some q → writtenF s' is a f c = some q
  | [], a, f, c, q, h => h
  | i :: is, a, f, c, q, h => by
    rw [writtenF] at h ⊢
    cases hf : s.rules.find? (fun r => decide (r.index = i)) with
    | none => rw [hf] at h; cases h
    | some r =>
      rw [hf] at h
      rw [hr, List.find?_append, hf]
      simp only [Option.some_or]
      dsimp only at h
      have hfit : fitsS s' r a = fitsS s r a := by unfold fitsS; rw [hl]
      rw [hfit]
      split at h
      · rename_i hb
        rw [if_pos hb]
        exact written_more hl hr is _ _ _ q h
      · cases h
theorem writtenS_more {s s' : Side} {ex : List ARule} (hl : s'.letters = s.letters) (hr : s'.rules = s.rules ++ ex) {is : List Int} (h : (writtenS s is).2.2 = true) : writtenS s' is = writtenS s is := by
  unfold writtenS at h ⊢
  cases hw : writtenF s is 0 [] 0 with
  | none => rw [hw] at h; cases h
  | some q => rw [written_more hl hr is 0 [] 0 q hw, hl]
theorem side_more {t m : Tab} {r : Rul} (hr : m.rules = t.rules ++ [r]) {k : Int} {x : Str} {s : Side} (hs : sideS t k x = some s) : ∃ s' ex, sideS m k x = some s' ∧ s'.letters = s.letters ∧ s'.rules = s.rules ++ ex := by
  unfold sideS at hs ⊢
  cases hf : foldS k x with
  | none => rw [hf] at hs; cases hs
  | some f =>
    rw [hf] at hs
    obtain ⟨ls, h1, rfl⟩ := Option.map_eq_some_iff.1 hs
    refine ⟨⟨ls, sideRules k 0 m.rules⟩, (aruleOf k (0 + t.rules.length) r).toList, by simp [h1], rfl, ?_⟩
    show sideRules k 0 m.rules = _
    rw [hr, sideRules_snoc]
/-- With a further rule a derivation stays right. -/
theorem check_more {t m : Tab} {r : Rul} (hr : m.rules = t.rules ++ [r]) (hv : validS m = true) {a b : Int} {x y : Str} {d : Der} (h : checkS t a x b y d = true) : checkS m a x b y d = true := by
  unfold checkS at h ⊢
  cases h1 : sideS t a x with
  | none => rw [h1] at h; cases h
  | some L =>
    cases h2 : sideS t b y with
    | none => rw [h1, h2] at h; cases h
    | some R =>
      cases h3 : validS t with
      | false => rw [h1, h2, h3] at h; cases h
      | true =>
        rw [h1, h2, h3] at h
        obtain ⟨L', e1, k1, k2, k3⟩ := side_more hr h1
        obtain ⟨R', e2, j1, j2, j3⟩ := side_more hr h2
        rw [k1, j1, hv]
        simp only [Bool.and_eq_true, decide_eq_true_eq] at h
        obtain ⟨⟨⟨⟨g1, g2⟩, g3⟩, g4⟩, g5⟩ := h
        simp [writtenS_more k2 k3 g1, writtenS_more j2 j3 g2, g1, g2, g3, g4, g5]
/-- A right derivation's cost. -/
theorem check_cost {t : Tab} {a b : Int} {x y : Str} {d : Der} (h : checkS t a x b y d = true) : d.cost ≤ 1000 * d.left.length + 1000 * d.right.length := by
  unfold checkS at h
  cases h1 : sideS t a x with
  | none => rw [h1] at h; cases h
  | some L =>
    cases h2 : sideS t b y with
    | none => rw [h1, h2] at h; cases h
    | some R =>
      cases h3 : validS t with
      | false => rw [h1, h2, h3] at h; cases h
      | true =>
        rw [h1, h2, h3] at h
        simp only [Bool.and_eq_true, decide_eq_true_eq] at h
        have c1 := (writtenS_cost (fine_of h1 h3) d.left).2
        have c2 := (writtenS_cost (fine_of h2 h3) d.right).2
        have := h.2
        omega
/-- With a further rule the least cost is not greater. -/
theorem best_more {t m : Tab} {r : Rul} (hr : m.rules = t.rules ++ [r]) (hv : validS m = true) {a b : Int} {x y : Str} {d : Der} (h : bestS t a x b y = (d, 0)) : ∃ p, bestS m a x b y = (p, 0) ∧ p.cost ≤ d.cost :=
  best_least (check_more hr hv (best_sound h)) (best_cost h)
theorem side_some (t m : Tab) (k : Int) (x : Str) : (sideS t k x).isSome = (sideS m k x).isSome := by
  unfold sideS
  cases foldS k x with
  | none => rfl
  | some f => cases h : lettersS k f <;> simp [h]
/-- No words of the scripts stay none. -/
theorem best_arg {t m : Tab} (hv : validS t = true) (hm : validS m = true) {a b : Int} {x y : Str} (h : (bestS t a x b y).2 = 1) : (bestS m a x b y).2 = 1 := by
  rcases best_cases t a x b y with ⟨_, h2⟩ | ⟨h1, _⟩ | ⟨d, h1, _⟩
  · rcases best_cases m a x b y with ⟨g1, _⟩ | ⟨_, g2⟩ | ⟨q, _, g2⟩
    · rw [g1]
    · rw [side_some m t, side_some m t b y, hm] at g2; rw [hv] at h2; rw [h2] at g2; cases g2
    · rw [side_some m t, side_some m t b y, hm] at g2; rw [hv] at h2; rw [h2] at g2; cases g2
  · rw [h1] at h; cases h
  · rw [h1] at h; cases h
end Go.Proofs.YtkkbkhcapogobaaGreatDoor.S
end
section
namespace Go.Proofs.YtkkbkhcapogobaaGreatDoor.S
def exTab : Tab := { rules := [⟨1, [97], [97], 0⟩, ⟨1, [110], [110], 0⟩, ⟨1, [110, 110], [110], 1⟩, ⟨3, [110], [110], 0⟩, ⟨3, [110], [110, 97], 2⟩], drops := [], ends := [], drop := 0, order := 0, initial := 0 }
theorem ex_valid : validS exTab = true := by kernel_rfl
theorem ex1 : bestS exTab 1 [97, 110, 97] 1 [97, 110, 97] = (⟨0, [0, 1, 0], [0, 1, 0], [97, 110, 97]⟩, 0) := by kernel_rfl
theorem ex2 : bestS exTab 1 [97, 110, 110, 97] 1 [97, 110, 97] = (⟨1, [0, 2, 0], [0, 1, 0], [97, 110, 97]⟩, 0) := by kernel_rfl
theorem ex3 : bestS exTab 1 [110, 97] 3 [110] = (⟨2, [1, 0], [4], [110, 97]⟩, 0) := by kernel_rfl
theorem ex4 : bestS exTab 1 [97] 3 [110] = (Der.zero, 11) := by kernel_rfl
theorem ex5 : checkS exTab 1 [110, 97] 3 [110] ⟨2, [1, 0], [4], [110, 97]⟩ = true := by kernel_rfl
theorem ex6 : checkS exTab 1 [110, 97] 3 [110, 110] ⟨2, [1, 0], [4], [110, 97]⟩ = false := by kernel_rfl
end Go.Proofs.YtkkbkhcapogobaaGreatDoor.S
end
