/- Plain laws: no two rewritings to one form cost less than what the states say. -/
import Derived.Test.YtkkbkhcapogobaaGreatDoorE0
namespace Go.Proofs.YtkkbkhcapogobaaGreatDoor.S
set_option linter.unusedVariables false
set_option linter.unusedSimpArgs false

/-- Rules that rewrite the letters of a side from a place on. -/
inductive Runs (s : Side) : Nat → List ARule → Prop
  | nil : Runs s s.letters.length []
  | cons {a : Nat} {r : ARule} {rs : List ARule} : r ∈ s.rules → fitsS s r a = true → Runs s (a + r.frm.length) rs → Runs s a (r :: rs)
def outOf (rs : List ARule) : Str := (rs.map ARule.to).flatten
def costOf (rs : List ARule) : Int := (rs.map ARule.cost).sum
theorem outOf_cons (r : ARule) (rs : List ARule) : outOf (r :: rs) = r.to ++ outOf rs := rfl
theorem costOf_cons (r : ARule) (rs : List ARule) : costOf (r :: rs) = r.cost + costOf rs := by simp [costOf]
theorem fold_min_le {α : Type} (f : α → Int) : ∀ (l : List α) (b : Int), l.foldl (fun h m => min h (f m)) b ≤ b ∧ ∀ x ∈ l, l.foldl (fun h m => min h (f m)) b ≤ f x
  | [], b => ⟨Int.le_refl _, fun x h => by cases h⟩
  | y :: ys, b => by
    have ih := fold_min_le f ys (min b (f y))
    refine ⟨by simp only [List.foldl_cons]; have := ih.1; omega, fun x hx => ?_⟩
    simp only [List.foldl_cons]
    rcases List.mem_cons.1 hx with rfl | hx
    · have := ih.1; omega
    · exact ih.2 x hx
theorem val_le_move {L R : Side} (hL : Fine L) (hR : Fine R) {s : St} (hs : In L R s) {m : ARule × St} (h : m ∈ movesS L R s) : val L R s ≤ m.1.cost + val L R m.2 := by
  rw [val_eq hL hR hs]
  exact (fold_min_le (fun m : ARule × St => m.1.cost + val L R m.2) _ _).2 m h
theorem val_le_done {L R : Side} (hL : Fine L) (hR : Fine R) {s : St} (hs : In L R s) (h : doneS L R s = true) : val L R s ≤ 0 := by
  rw [val_eq hL hR hs, h]
  exact (fold_min_le (fun m : ARule × St => m.1.cost + val L R m.2) _ _).1
theorem in_moves {L R : Side} {s n : St} {r : ARule} (h1 : r ∈ (if turnS L s then L.rules else R.rules)) (h2 : fitsS (if turnS L s then L else R) r (if turnS L s then s.i else s.j) = true) (h3 : stepS (turnS L s) s r = some n) : (r, n) ∈ movesS L R s := by
  unfold movesS
  refine List.mem_filterMap.2 ⟨r, h1, ?_⟩
  unfold moveS
  rw [h2, h3]; rfl
/-- What is ahead, of what is still to be written. -/
def Fit (s : St) (ls rs : List ARule) : Prop := if s.right then s.ahead ≠ [] ∧ outOf ls = s.ahead ++ outOf rs else s.ahead ++ outOf ls = outOf rs
theorem prefix_cases {a b x y : Str} (h : a ++ x = b ++ y) : a.isPrefixOf b = true ∨ b.isPrefixOf a = true := by
  rcases List.append_eq_append_iff.1 h with ⟨c, h1, _⟩ | ⟨c, h1, _⟩
  · exact .inl (by rw [List.isPrefixOf_iff_prefix]; exact ⟨c, h1.symm⟩)
  · exact .inr (by rw [List.isPrefixOf_iff_prefix]; exact ⟨c, h1.symm⟩)
theorem isPre {a b : Str} (h : a.isPrefixOf b = true) : ∃ c, b = a ++ c := by
  rw [List.isPrefixOf_iff_prefix] at h
  obtain ⟨c, hc⟩ := h
  exact ⟨c, hc.symm⟩
theorem pre_app (a c : Str) : a.isPrefixOf (a ++ c) = true := by rw [List.isPrefixOf_iff_prefix]; exact ⟨c, rfl⟩
theorem step_left {L : Side} {s : St} {r : ARule} {ls rs : List ARule} (ht : turnS L s = true) (h : Fit s (r :: ls) rs) : ∃ n, stepS true s r = some n ∧ Fit n ls rs := by
  obtain ⟨i, j, ah, rt⟩ := s
  unfold Fit at h
  simp only [outOf_cons] at h
  cases rt with
  | true =>
    simp only [if_true] at h
    obtain ⟨h1, h2⟩ := h
    cases hp : r.to.isPrefixOf ah with
    | true =>
      obtain ⟨c, hc⟩ := isPre hp
      subst hc
      rw [List.append_assoc] at h2
      have h3 := List.append_cancel_left h2
      refine ⟨_, by unfold stepS; simp only [hp, if_true]; rfl, ?_⟩
      unfold Fit
      simp only [List.drop_left, Bool.true_and]
      by_cases hc0 : c = []
      · subst hc0; simpa using h3
      · rw [if_pos (by simpa using hc0)]; exact ⟨hc0, h3⟩
    | false =>
      rcases prefix_cases h2 with h4 | h4
      · rw [h4] at hp; cases hp
      · obtain ⟨c, hc⟩ := isPre h4
        rw [hc, List.append_assoc] at h2
        have h3 := List.append_cancel_left h2
        refine ⟨_, by unfold stepS; simp only [hp, h4, if_true, Bool.false_eq_true, if_false]; rfl, ?_⟩
        unfold Fit
        simp only [hc, List.drop_left, Bool.not_true, Bool.false_eq_true, if_false]
        exact h3
  | false =>
    simp only [Bool.false_eq_true, if_false] at h
    have ha : ah = [] := by
      unfold turnS at ht
      simp only [Bool.false_or, Bool.and_eq_true, decide_eq_true_eq] at ht
      exact ht.1
    subst ha
    cases hp : r.to.isPrefixOf ([] : Str) with
    | true =>
      obtain ⟨c, hc⟩ := isPre hp
      have hr : r.to = [] := (List.append_eq_nil_iff.1 hc.symm).1
      refine ⟨_, by unfold stepS; simp only [hp, if_true]; rfl, ?_⟩
      unfold Fit
      simp only [hr, List.nil_append] at h
      simpa using h
    | false =>
      refine ⟨_, by unfold stepS; simp only [hp, Bool.false_eq_true, if_false]; rfl, ?_⟩
      unfold Fit
      simpa using h
theorem step_right {L : Side} {s : St} {r : ARule} {ls rs : List ARule} (ht : turnS L s = false) (h : Fit s ls (r :: rs)) : ∃ n, stepS false s r = some n ∧ Fit n ls rs := by
  obtain ⟨i, j, ah, rt⟩ := s
  have hrt : rt = false := by
    unfold turnS at ht
    simp only [Bool.or_eq_false_iff] at ht
    exact ht.1
  subst hrt
  unfold Fit at h
  simp only [outOf_cons, Bool.false_eq_true, if_false] at h
  cases hp : r.to.isPrefixOf ah with
  | true =>
    obtain ⟨c, hc⟩ := isPre hp
    subst hc
    rw [List.append_assoc] at h
    have h3 := List.append_cancel_left h
    refine ⟨_, by unfold stepS; simp only [hp, if_true]; rfl, ?_⟩
    unfold Fit
    simpa using h3
  | false =>
    rcases prefix_cases h with h4 | h4
    · obtain ⟨c, hc⟩ := isPre h4
      rw [hc, List.append_assoc] at h
      have h3 := List.append_cancel_left h
      refine ⟨_, by unfold stepS; simp only [hp, h4, if_true, Bool.false_eq_true, if_false]; rfl, ?_⟩
      unfold Fit
      simp only [hc, List.drop_left, Bool.not_false, if_true]
      refine ⟨?_, h3⟩
      rintro rfl
      rw [hc, List.append_nil] at hp
      have := pre_app ah []
      rw [List.append_nil] at this
      rw [this] at hp; cases hp
    · rw [h4] at hp; cases hp
theorem outOf_nil : outOf [] = [] := rfl
theorem runs_cons {s : Side} {a : Nat} {r : ARule} {rs : List ARule} (h : Runs s a (r :: rs)) : r ∈ s.rules ∧ fitsS s r a = true ∧ Runs s (a + r.frm.length) rs := by
  cases h with
  | cons h1 h2 h3 => exact ⟨h1, h2, h3⟩
/-- No two rewritings from a state on to one form cost less than what the state's cost says. -/
theorem val_le {L R : Side} (hL : Fine L) (hR : Fine R) : ∀ (n : Nat) (s : St) (ls rs : List ARule), ls.length + rs.length ≤ n → In L R s → Runs L s.i ls → Runs R s.j rs → Fit s ls rs → val L R s ≤ costOf ls + costOf rs
  | n, s, ls, rs, hn, hs, hl, hr, hf => by
    cases ht : turnS L s with
    | true =>
      have hstep : ∀ r ls', ls = r :: ls' → val L R s ≤ costOf ls + costOf rs := by
        rintro r ls' rfl
        obtain ⟨h1, h2, h3⟩ := runs_cons hl
        · obtain ⟨m, h4, h5⟩ := step_left ht hf
          obtain ⟨h6, h7⟩ := stepS_right h4
          simp only [if_true] at h6 h7
          have hm : (r, m) ∈ movesS L R s := in_moves (by rw [ht]; exact h1) (by rw [ht]; exact h2) (by rw [ht]; exact h4)
          obtain ⟨h8, _, _, _⟩ := move_rem hL hR hs hm
          have h9 := val_le_move hL hR hs hm
          cases n with
          | zero => simp at hn
          | succ n =>
            have := val_le hL hR n m ls' rs (by simp at hn; omega) h8 (by rw [h6]; exact h3) (by rw [h7]; exact hr) h5
            rw [costOf_cons]
            dsimp only at h9
            omega
      cases ls with
      | cons r ls' => exact hstep r ls' rfl
      | nil =>
        exfalso
        unfold turnS at ht
        simp only [Bool.or_eq_true, Bool.and_eq_true, decide_eq_true_eq] at ht
        unfold Fit at hf
        rcases ht with ht | ⟨_, ht⟩
        · rw [if_pos ht, outOf_nil] at hf
          exact hf.1 (List.append_eq_nil_iff.1 hf.2.symm).1
        · generalize hsi : s.i = q at hl ht
          cases hl
          omega
    | false =>
      have hstep : ∀ r rs', rs = r :: rs' → val L R s ≤ costOf ls + costOf rs := by
        rintro r rs' rfl
        obtain ⟨h1, h2, h3⟩ := runs_cons hr
        · obtain ⟨m, h4, h5⟩ := step_right ht hf
          obtain ⟨h6, h7⟩ := stepS_right h4
          simp only [Bool.false_eq_true, if_false] at h6 h7
          have hm : (r, m) ∈ movesS L R s := in_moves (by rw [ht]; exact h1) (by rw [ht]; exact h2) (by rw [ht]; exact h4)
          obtain ⟨h8, _, _, _⟩ := move_rem hL hR hs hm
          have h9 := val_le_move hL hR hs hm
          cases n with
          | zero => simp at hn
          | succ n =>
            have := val_le hL hR n m ls rs' (by simp at hn; omega) h8 (by rw [h6]; exact hl) (by rw [h7]; exact h3) h5
            rw [costOf_cons]
            dsimp only at h9
            omega
      cases rs with
      | cons r rs' => exact hstep r rs' rfl
      | nil =>
        unfold turnS at ht
        simp only [Bool.or_eq_false_iff, Bool.and_eq_false_iff, decide_eq_false_iff_not] at ht
        obtain ⟨hrt, ht⟩ := ht
        unfold Fit at hf
        rw [hrt] at hf
        simp only [Bool.false_eq_true, if_false, outOf_nil] at hf
        obtain ⟨ha, ho⟩ := List.append_eq_nil_iff.1 hf
        have hi : ¬ s.i < L.letters.length := by
          rcases ht with h | h
          · exact absurd ha h
          · exact h
        have hls : ls = [] := by
          generalize hsi : s.i = q at hl hi
          cases hl with
          | nil => rfl
          | cons h1 h2 h3 =>
            exfalso
            unfold fitsS at h2
            simp only [Bool.and_eq_true, decide_eq_true_eq] at h2
            have := hL.frm _ h1
            omega
        have hsi : s.i = L.letters.length := by
          subst hls
          generalize s.i = q at hl
          cases hl; rfl
        have hsj : s.j = R.letters.length := by
          generalize s.j = q at hr
          cases hr; rfl
        have := val_le_done hL hR hs (by unfold doneS; simp [hsi, hsj, ha])
        subst hls
        simp [costOf]; exact this
termination_by n => n
end Go.Proofs.YtkkbkhcapogobaaGreatDoor.S
