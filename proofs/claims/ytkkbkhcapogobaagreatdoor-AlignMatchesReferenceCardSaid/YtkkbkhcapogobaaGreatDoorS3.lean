/- Plain laws: the way that Best takes. -/
import Derived.Test.YtkkbkhcapogobaaGreatDoorS2
namespace Go.Proofs.YtkkbkhcapogobaaGreatDoor.S
set_option linter.unusedVariables false
set_option linter.unusedSimpArgs false

def WFs (s : St) : Prop := s.right = true → s.ahead ≠ []
theorem step_wf {left : Bool} {s n : St} {r : ARule} (h : stepS left s r = some n) : WFs n := by
  unfold stepS at h
  dsimp only at h
  unfold WFs
  split at h
  · cases h
    simp only [Bool.and_eq_true, decide_eq_true_eq]
    exact fun h => h.2
  · rename_i hp
    split at h
    · rename_i hq
      cases h
      dsimp only
      intro hl he
      obtain ⟨c, hc⟩ := isPre hq
      rw [hc, List.drop_left] at he
      subst he
      rw [List.append_nil] at hc
      apply hp
      rw [hc]
      have := pre_app s.ahead []
      rwa [List.append_nil] at this
    · cases h
theorem back_left {L : Side} {s n : St} {r : ARule} {ls rs : List ARule} (ht : turnS L s = true) (hw : WFs s) (h : stepS true s r = some n) (hf : Fit n ls rs) : Fit s (r :: ls) rs := by
  obtain ⟨i, j, ah, rt⟩ := s
  unfold stepS at h
  dsimp only at h
  unfold Fit
  simp only [outOf_cons]
  have ha : rt = false → ah = [] := by
    rintro rfl
    unfold turnS at ht
    simp only [Bool.false_or, Bool.and_eq_true, decide_eq_true_eq] at ht
    exact ht.1
  split at h
  · rename_i hp
    cases h
    obtain ⟨c, hc⟩ := isPre hp
    subst hc
    unfold Fit at hf
    simp only [List.drop_left] at hf
    cases rt with
    | true =>
      simp only [Bool.true_and] at hf
      simp only [if_true]
      refine ⟨hw rfl, ?_⟩
      by_cases hc0 : c = []
      · subst hc0
        simp only [ne_eq, not_true_eq_false, decide_false, Bool.false_eq_true, if_false, List.nil_append] at hf
        rw [hf, List.append_nil]
      · rw [if_pos (by simpa using hc0)] at hf
        rw [hf.2, List.append_assoc]
    | false =>
      have := ha rfl
      obtain ⟨h1, h2⟩ := List.append_eq_nil_iff.1 this
      simp only [Bool.false_and, Bool.false_eq_true, if_false] at hf ⊢
      rw [h1, h2] at *
      simpa using hf
  · split at h
    · rename_i hq
      cases h
      obtain ⟨c, hc⟩ := isPre hq
      unfold Fit at hf
      simp only [hc, List.drop_left, Bool.not_true, Bool.false_eq_true, if_false] at hf
      cases rt with
      | true =>
        simp only [if_true]
        exact ⟨hw rfl, by rw [hc, List.append_assoc, hf]⟩
      | false =>
        have h1 := ha rfl
        subst h1
        simp only [Bool.false_eq_true, if_false, List.nil_append] at hc ⊢
        rw [hc, hf]
    · cases h
theorem back_right {L : Side} {s n : St} {r : ARule} {ls rs : List ARule} (ht : turnS L s = false) (h : stepS false s r = some n) (hf : Fit n ls rs) : Fit s ls (r :: rs) := by
  obtain ⟨i, j, ah, rt⟩ := s
  have hrt : rt = false := by
    unfold turnS at ht
    simp only [Bool.or_eq_false_iff] at ht
    exact ht.1
  subst hrt
  unfold stepS at h
  dsimp only at h
  unfold Fit
  simp only [outOf_cons, Bool.false_eq_true, if_false]
  split at h
  · rename_i hp
    cases h
    obtain ⟨c, hc⟩ := isPre hp
    subst hc
    unfold Fit at hf
    simp only [List.drop_left, Bool.false_and, Bool.false_eq_true, if_false] at hf
    rw [List.append_assoc, hf]
  · split at h
    · rename_i hq
      cases h
      obtain ⟨c, hc⟩ := isPre hq
      unfold Fit at hf
      simp only [hc, List.drop_left, Bool.not_false, if_true] at hf
      rw [hc, List.append_assoc, ← hf.2]
    · cases h
theorem fold_attains {α : Type} (f : α → Int) : ∀ (l : List α) (b : Int), l.foldl (fun h m => min h (f m)) b = b ∨ ∃ x ∈ l, l.foldl (fun h m => min h (f m)) b = f x
  | [], b => .inl rfl
  | y :: ys, b => by
    simp only [List.foldl_cons]
    rcases fold_attains f ys (min b (f y)) with h | ⟨x, hx, h⟩
    · rw [h]
      by_cases hb : b ≤ f y
      · left; omega
      · right; exact ⟨y, by simp, by omega⟩
    · right; exact ⟨x, by simp [hx], h⟩
theorem done_moves {L R : Side} (hL : Fine L) (hR : Fine R) {s : St} (hs : In L R s) (h : remS L R s = 0) : movesS L R s = [] := by
  apply List.eq_nil_iff_forall_not_mem.2
  intro x hx
  have := (move_rem hL hR hs hx).2.1
  omega
theorem done_rem {L R : Side} {s : St} (h : doneS L R s = true) : s.i = L.letters.length ∧ s.j = R.letters.length ∧ s.ahead = [] ∧ remS L R s = 0 := by
  unfold doneS at h
  simp only [Bool.and_eq_true, decide_eq_true_eq] at h
  refine ⟨h.1.1, h.1.2, h.2, ?_⟩
  unfold remS; omega
theorem done_val {L R : Side} (hL : Fine L) (hR : Fine R) {s : St} (hs : In L R s) (h : doneS L R s = true) : val L R s = 0 := by
  rw [val_eq hL hR hs, done_moves hL hR hs (done_rem h).2.2.2, h]; rfl
theorem next_some {L R : Side} (hL : Fine L) (hR : Fine R) {s : St} (hs : In L R s) (hv : val L R s < endless) (hd : doneS L R s = false) : ∃ m, nextS L R s = some m ∧ m ∈ movesS L R s ∧ m.1.cost + val L R m.2 = val L R s := by
  have h0 := val_eq hL hR hs
  rw [hd] at h0
  simp only [Bool.false_eq_true, if_false] at h0
  rcases fold_attains (fun m : ARule × St => m.1.cost + val L R m.2) (movesS L R s) endless with h | ⟨x, hx, h⟩
  · rw [h] at h0; omega
  · rw [h] at h0
    unfold nextS
    cases hf : (movesS L R s).find? (fun m => decide (m.1.cost + val L R m.2 = val L R s)) with
    | none =>
      rw [List.find?_eq_none] at hf
      exact absurd (by simpa using h0.symm) (hf x hx)
    | some m =>
      have := List.find?_some hf
      exact ⟨m, rfl, List.mem_of_find?_eq_some hf, by simpa using this⟩
def addTo (d : Der) (ls rs : List ARule) : Der := { d with left := d.left ++ ls.map ARule.index, right := d.right ++ rs.map ARule.index, form := d.form ++ outOf ls }
theorem path_nil {L R : Side} (hL : Fine L) (hR : Fine R) {s : St} (d : Der) (hs : In L R s) (hw : WFs s) (h : doneS L R s = true) :
    d = addTo d [] [] ∧ Runs L s.i [] ∧ Runs R s.j [] ∧ Fit s [] [] ∧ costOf [] + costOf [] = val L R s := by
  obtain ⟨h1, h2, h3, h4⟩ := done_rem h
  refine ⟨by simp [addTo, outOf_nil], by rw [h1]; exact .nil, by rw [h2]; exact .nil, ?_, by rw [done_val hL hR hs h]; rfl⟩
  unfold Fit
  rw [if_neg (fun hr => hw hr h3), h3]; rfl
/-- The way that Best takes is a derivation of the least cost. -/
theorem path_ok {L R : Side} (hL : Fine L) (hR : Fine R) : ∀ (n : Nat) (s : St) (d : Der), remS L R s ≤ n → In L R s → WFs s → val L R s < endless →
    ∃ ls rs, pathF L R n s d = addTo d ls rs ∧ Runs L s.i ls ∧ Runs R s.j rs ∧ Fit s ls rs ∧ costOf ls + costOf rs = val L R s
  | 0, s, d, hn, hs, hw, hv => by
    have hd : doneS L R s = true := by
      cases hd : doneS L R s with
      | true => rfl
      | false =>
        obtain ⟨m, _, hm, _⟩ := next_some hL hR hs hv hd
        rw [done_moves hL hR hs (by omega)] at hm; cases hm
    obtain ⟨h1, h2⟩ := path_nil hL hR d hs hw hd
    exact ⟨[], [], h1, h2⟩
  | n + 1, s, d, hn, hs, hw, hv => by
    cases hd : doneS L R s with
    | true =>
      obtain ⟨h1, h2⟩ := path_nil hL hR d hs hw hd
      exact ⟨[], [], by unfold pathF; rw [if_pos hd]; exact h1, h2⟩
    | false =>
      obtain ⟨m, h1, h2, h3⟩ := next_some hL hR hs hv hd
      obtain ⟨h4, h5, h6, _⟩ := move_rem hL hR hs h2
      obtain ⟨g1, g2, g3⟩ := mem_moves h2
      obtain ⟨g4, g5⟩ := stepS_right g3
      obtain ⟨ls, rs, k1, k2, k3, k4, k5⟩ := path_ok hL hR n m.2 (takeS d s m) (by omega) h4 (step_wf g3) (by omega)
      have hp : pathF L R (n + 1) s d = pathF L R n m.2 (takeS d s m) := by
        rw [pathF, if_neg (by simp [hd]), h1]
      rw [hp, k1]
      cases ht : turnS L s with
      | true =>
        rw [ht] at g1 g2 g3 g4 g5
        simp only [if_true] at g1 g2 g4 g5
        have hfr := hL.frm _ g1
        refine ⟨m.1 :: ls, rs, ?_, .cons g1 g2 (by rw [← g4]; exact k2), by rw [← g5]; exact k3, back_left ht hw g3 k4, by rw [costOf_cons]; omega⟩
        unfold takeS addTo
        rw [if_pos (by omega)]
        simp [outOf_cons]
      | false =>
        rw [ht] at g1 g2 g3 g4 g5
        simp only [Bool.false_eq_true, if_false] at g1 g2 g4 g5
        refine ⟨ls, m.1 :: rs, ?_, by rw [← g4]; exact k2, .cons g1 g2 (by rw [← g5]; exact k3), back_right ht g3 k4, by rw [costOf_cons]; omega⟩
        unfold takeS addTo
        rw [if_neg (by omega)]
        simp
end Go.Proofs.YtkkbkhcapogobaaGreatDoor.S
