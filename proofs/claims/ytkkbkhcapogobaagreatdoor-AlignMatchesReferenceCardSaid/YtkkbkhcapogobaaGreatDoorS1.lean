/- Plain laws: folding twice; what Best answers for folded words. -/
import Derived.Test.YtkkbkhcapogobaaGreatDoorS0
namespace Go.Proofs.YtkkbkhcapogobaaGreatDoor.S
set_option linter.unusedVariables false
set_option linter.unusedSimpArgs false

theorem lower1_idem (c : UInt8) : lower1 (lower1 c) = lower1 c := by
  have g : ∀ c : Fin 256, lower1 (lower1 c.val.toUInt8) = lower1 c.val.toUInt8 := by decide +kernel
  have := g ⟨c.toNat, c.toNat_lt⟩
  simpa using this
theorem lowerS_idem (l : Str) : lowerS (lowerS l) = lowerS l := by simp [lowerS, Function.comp_def, lower1_idem]
theorem mem_lower {set : Str} (h : ∀ c : Fin 256, set.contains (lower1 c.val.toUInt8) = set.contains c.val.toUInt8) (c : UInt8) : set.contains (lower1 c) = set.contains c := by
  have := h ⟨c.toNat, c.toNat_lt⟩
  simpa using this
theorem accents_lower (c : UInt8) : accents.contains (lower1 c) = accents.contains c := mem_lower (by decide +kernel) c
theorem lenL2_lower (l : Str) : lenL 2 (lowerS l) = lenL 2 l := by
  unfold lenL
  have h1 : (lowerS l).map lower1 = l.map lower1 := by
    have := lowerS_idem l
    unfold lowerS at this ⊢; exact this
  have h2 : isAt (lowerS l) 1 accents = isAt l 1 accents := by
    unfold isAt lowerS
    rw [List.getElem?_map]
    cases l[1]? with
    | none => rfl
    | some c => exact accents_lower c
  rw [h1, h2]; simp
theorem pieces2_lower : ∀ (n : Nat) (l : Str), l.length ≤ n → pieces 2 (lowerS l) = (pieces 2 l).map lowerS ∧ leftover 2 (lowerS l) = lowerS (leftover 2 l)
  | 0, l, h => by
    have hl : l = [] := List.eq_nil_of_length_eq_zero (by omega)
    subst hl; exact ⟨rfl, rfl⟩
  | n + 1, l, h => by
    by_cases h0 : lenL 2 l = 0
    · have h0' : lenL 2 (lowerS l) = 0 := by rw [lenL2_lower]; exact h0
      rw [(pieces_none h0).1, (pieces_none h0).2, (pieces_none h0').1, (pieces_none h0').2]
      exact ⟨rfl, rfl⟩
    · have h0' : lenL 2 (lowerS l) ≠ 0 := by rw [lenL2_lower]; exact h0
      have ih := pieces2_lower n (l.drop (lenL 2 l)) (by simp; omega)
      have hd : (lowerS l).drop (lenL 2 l) = lowerS (l.drop (lenL 2 l)) := by simp [lowerS, List.map_drop]
      have ht : (lowerS l).take (lenL 2 l) = lowerS (l.take (lenL 2 l)) := by simp [lowerS, List.map_take]
      rw [(pieces_some h0).1, (pieces_some h0).2, (pieces_some h0').1, (pieces_some h0').2, lenL2_lower, hd, ht, ih.1, ih.2]
      exact ⟨rfl, rfl⟩
theorem set_lower {set : Str} (h : set.all (fun c => decide (lower1 c = c)) = true) {c : UInt8} (hc : set.contains c = true) : lower1 c = c := by
  have := List.all_eq_true.1 h c (by simpa using hc)
  simpa using this
theorem isAt_lower {l : Str} {i : Nat} {set : Str} (h : set.all (fun c => decide (lower1 c = c)) = true) (hi : isAt l i set = true) : ∀ c, l[i]? = some c → lower1 c = c := by
  intro c hc
  unfold isAt at hi
  rw [hc] at hi
  exact set_lower h hi
/-- Of a script without capitals: what a letter takes is lower. -/
theorem take_lower {k : Int} (hk : k ≠ 2) (l : Str) : lowerS (l.take (lenL k l)) = l.take (lenL k l) := by
  have hb : ∀ i c, i < lenL k l → l[i]? = some c → lower1 c = c := by
    intro i c hi hc
    unfold lenL at hi
    rw [if_neg hk] at hi
    split at hi
    · split at hi
      · rename_i h; have : i = 0 := by omega
        subst this; exact isAt_lower (by decide) h c hc
      · omega
    · split at hi
      · split at hi
        · rename_i h; have : i = 0 := by omega
          subst this; exact isAt_lower (by decide) h c hc
        · omega
      · split at hi
        · split at hi
          · rename_i h
            simp only [Bool.and_eq_true] at h
            have : i = 0 ∨ i = 1 := by omega
            rcases this with rfl | rfl
            · exact isAt_lower (by decide) h.1 c hc
            · exact isAt_lower (by decide) h.2 c hc
          · split at hi
            · rename_i h
              simp only [Bool.or_eq_true] at h
              have : i = 0 := by omega
              subst this
              rcases h with h | h
              · exact isAt_lower (by decide) h c hc
              · exact isAt_lower (by decide) h c hc
            · omega
        · omega
  refine List.ext_getElem? (fun i => ?_)
  unfold lowerS
  rw [List.getElem?_map]
  by_cases hi : i < lenL k l
  · rw [List.getElem?_take_of_lt hi]
    cases hc : l[i]? with
    | none => rfl
    | some c => simp [hb i c hi hc]
  · rw [List.getElem?_take_eq_none (by omega)]; rfl
theorem pieces_lower {k : Int} (hk : k ≠ 2) : ∀ (n : Nat) (l : Str), l.length ≤ n → ∀ p ∈ pieces k l, lowerS p = p
  | 0, l, h => by
    have hl : l = [] := List.eq_nil_of_length_eq_zero (by omega)
    subst hl; intro p hp; cases hp
  | n + 1, l, h => by
    by_cases h0 : lenL k l = 0
    · rw [(pieces_none h0).1]; intro p hp; cases hp
    · rw [(pieces_some h0).1]
      intro p hp
      rcases List.mem_cons.1 hp with rfl | hp
      · exact take_lower hk l
      · exact pieces_lower hk n _ (by simp; omega) p hp
/-- A folded word folds to itself. -/
theorem fold_fold {k : Int} {x u : Str} (h : foldS k x = some u) : foldS k u = some u := by
  unfold foldS at h
  split at h
  · rename_i hs
    cases h
    unfold lettersS at hs
    split at hs
    · rename_i hl
      obtain ⟨h1, h2, h3⟩ := hl
      by_cases hk : k = 2
      · subst hk
        obtain ⟨g1, g2⟩ := pieces2_lower x.length x (Nat.le_refl _)
        have hl2 : lettersS 2 (lowerS x) = some ((pieces 2 x).map lowerS) := by
          unfold lettersS
          rw [g1, g2, h1]
          exact if_pos ⟨rfl, by simpa using h2, by simpa using h3⟩
        unfold foldS
        rw [hl2, lowerS_idem]; rfl
      · have hx : lowerS x = x := by
          have hf := flatten_leftover k x
          rw [h1, List.append_nil] at hf
          have : lowerS (pieces k x).flatten = (pieces k x).flatten := by
            have hp := pieces_lower hk x.length x (Nat.le_refl _)
            generalize pieces k x = ps at hp
            induction ps with
            | nil => rfl
            | cons p ps ih =>
              unfold lowerS at ih ⊢
              rw [List.flatten_cons, List.map_append]
              have h4 := hp p (by simp)
              unfold lowerS at h4
              rw [h4, ih (fun q hq => hp q (by simp [hq]))]
          rw [hf] at this; exact this
        rw [hx]
        have hl2 : lettersS k x = some (pieces k x) := by
          unfold lettersS
          exact if_pos ⟨h1, h2, h3⟩
        unfold foldS
        rw [hl2, hx]; rfl
    · cases hs
  · cases h
theorem side_fold {t : Tab} {k : Int} {x u : Str} (h : foldS k x = some u) : sideS t k u = sideS t k x := by
  unfold sideS
  rw [h, fold_fold h]
theorem best_fold {t : Tab} {a b : Int} {x y u v : Str} (h : foldS a x = some u) (h2 : foldS b y = some v) : bestS t a u b v = bestS t a x b y := by
  unfold bestS
  rw [side_fold h, side_fold h2]
end Go.Proofs.YtkkbkhcapogobaaGreatDoor.S
