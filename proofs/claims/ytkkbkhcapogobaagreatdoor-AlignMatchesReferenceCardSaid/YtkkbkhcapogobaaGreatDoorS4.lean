/- Plain laws: what Check says, and what Best answers. -/
import Derived.Test.YtkkbkhcapogobaaGreatDoorS3
import Derived.Test.YtkkbkhcapogobaaGreatDoorE6
namespace Go.Proofs.YtkkbkhcapogobaaGreatDoor.S
set_option linter.unusedVariables false
set_option linter.unusedSimpArgs false

/-- A rule is found by its number. -/
def Idx (s : Side) : Prop := ∀ r ∈ s.rules, s.rules.find? (fun x => decide (x.index = r.index)) = some r
theorem arule_index {k : Int} {j : Nat} {rl : Rul} {r : ARule} (h : aruleOf k j rl = some r) : r.index = j := by
  unfold aruleOf at h
  split at h
  · obtain ⟨f, _, rfl⟩ := Option.map_eq_some_iff.1 h; rfl
  · cases h
theorem sideRules_ge {k : Int} : ∀ {rs : List Rul} {i : Nat} {r : ARule}, r ∈ sideRules k i rs → (i : Int) ≤ r.index
  | [], i, r, h => by cases h
  | x :: xs, i, r, h => by
    simp only [sideRules, List.mem_append] at h
    rcases h with h | h
    · have := arule_index (k := k) (j := i) (rl := x) (r := r) (by simpa using h); omega
    · have := sideRules_ge h; omega
theorem sideRules_find {k : Int} : ∀ {rs : List Rul} {i : Nat} {r : ARule}, r ∈ sideRules k i rs → (sideRules k i rs).find? (fun x => decide (x.index = r.index)) = some r
  | [], i, r, h => by cases h
  | x :: xs, i, r, h => by
    simp only [sideRules, List.mem_append] at h ⊢
    rw [List.find?_append]
    cases hx : aruleOf k i x with
    | none =>
      rw [hx] at h
      simp only [Option.toList_none, List.not_mem_nil, false_or] at h
      simp only [Option.toList_none, List.find?_nil, Option.none_or]
      exact sideRules_find h
    | some y =>
      rw [hx] at h
      have hy := arule_index hx
      rcases h with h | h
      · have : r = y := by simpa using h
        subst this; simp
      · have := sideRules_ge h
        have hne : ¬ y.index = r.index := by omega
        simp only [Option.toList_some, List.find?_cons, hne, decide_false, List.find?_nil, Option.none_or]
        exact sideRules_find h
theorem idx_of {t : Tab} {k : Int} {x : Str} {s : Side} (hs : sideS t k x = some s) : Idx s := by
  have hr : s.rules = sideRules k 0 t.rules := by
    unfold sideS at hs
    split at hs
    · cases hs
    · obtain ⟨ls, _, rfl⟩ := Option.map_eq_some_iff.1 hs
      rfl
  intro r h
  rw [hr] at h ⊢
  exact sideRules_find h
theorem written_runs {s : Side} (hi : Idx s) : ∀ {a : Nat} {rs : List ARule}, Runs s a rs → ∀ (f : Str) (c : Int), writtenF s (rs.map ARule.index) a f c = some (s.letters.length, f ++ outOf rs, c + costOf rs)
  | _, _, .nil, f, c => by simp [writtenF, outOf_nil, costOf]
  | a, _, .cons (r := r) (rs := rs) h1 h2 h3, f, c => by
    rw [List.map_cons, writtenF, hi r h1]
    dsimp only
    rw [if_pos h2, written_runs hi h3, outOf_cons, costOf_cons, List.append_assoc, Int.add_assoc]
theorem runs_written {s : Side} : ∀ (is : List Int) (a : Nat) (f f' : Str) (c c' : Int), writtenF s is a f c = some (s.letters.length, f', c') → ∃ rs, is = rs.map ARule.index ∧ Runs s a rs ∧ f' = f ++ outOf rs ∧ c' = c + costOf rs
  | [], a, f, f', c, c', h => by
    simp only [writtenF, Option.some.injEq, Prod.mk.injEq] at h
    obtain ⟨rfl, rfl, rfl⟩ := h
    exact ⟨[], rfl, .nil, by simp [outOf_nil], by simp [costOf]⟩
  | i :: is, a, f, f', c, c', h => by
    rw [writtenF] at h
    cases hf : s.rules.find? (fun r => decide (r.index = i)) with
    | none => rw [hf] at h; cases h
    | some r =>
      rw [hf] at h
      dsimp only at h
      split at h
      · rename_i hfit
        obtain ⟨rs, h1, h2, h3, h4⟩ := runs_written is _ _ _ _ _ h
        have hr := List.find?_some hf
        refine ⟨r :: rs, by rw [List.map_cons, ← h1]; congr 1; exact (by simpa using hr : r.index = i).symm, .cons (List.mem_of_find?_eq_some hf) hfit h2, by rw [h3, outOf_cons, List.append_assoc], by rw [h4, costOf_cons, Int.add_assoc]⟩
      · cases h
theorem writtenS_true {s : Side} {is : List Int} (h : (writtenS s is).2.2 = true) : ∃ rs, is = rs.map ARule.index ∧ Runs s 0 rs ∧ (writtenS s is).1 = outOf rs ∧ (writtenS s is).2.1 = costOf rs := by
  unfold writtenS at h ⊢
  cases hw : writtenF s is 0 [] 0 with
  | none => rw [hw] at h; cases h
  | some r =>
    obtain ⟨a, f, c⟩ := r
    rw [hw] at h
    simp only [decide_eq_true_eq] at h
    subst h
    obtain ⟨rs, h1, h2, h3, h4⟩ := runs_written is 0 [] f 0 c hw
    exact ⟨rs, h1, h2, by simpa using h3, by simpa using h4⟩
theorem writtenS_runs {s : Side} (hi : Idx s) {rs : List ARule} (h : Runs s 0 rs) : writtenS s (rs.map ARule.index) = (outOf rs, costOf rs, true) := by
  unfold writtenS
  rw [written_runs hi h]
  simp

/-- What Best answers is right. -/
theorem best_sound {t : Tab} {a b : Int} {x y : Str} {d : Der} (h : bestS t a x b y = (d, 0)) : checkS t a x b y d = true := by
  unfold bestS at h
  unfold checkS
  cases h1 : sideS t a x with
  | none => rw [h1] at h; cases h
  | some L =>
    cases h2 : sideS t b y with
    | none => rw [h1, h2] at h; cases h
    | some R =>
      cases h3 : validS t with
      | false => rw [h1, h2, h3] at h; cases h
      | true =>
        rw [h1, h2, h3] at h
        dsimp only at h ⊢
        split at h
        · cases h
        · rename_i hv
          have fL := fine_of h1 h3
          have fR := fine_of h2 h3
          obtain ⟨ls, rs, k1, k2, k3, k4, k5⟩ := path_ok fL fR (remS L R St.start) St.start { Der.zero with cost := val L R St.start } (Nat.le_refl _) (start_in _ _) (by intro h; cases h) (by omega)
          rw [k1] at h
          simp only [Prod.mk.injEq, and_true] at h
          subst h
          have hf : outOf ls = outOf rs := by
            unfold Fit at k4
            simpa [St.start] using k4
          have e1 := writtenS_runs (idx_of h1) k2
          have e2 := writtenS_runs (idx_of h2) k3
          simp [addTo, Der.zero, e1, e2, hf, k5]
/-- Best costs no more than any derivation that is right. -/
theorem best_least {t : Tab} {a b : Int} {x y : Str} {d : Der} (h : checkS t a x b y d = true) (hb : d.cost < endless) : ∃ p, bestS t a x b y = (p, 0) ∧ p.cost ≤ d.cost := by
  unfold checkS at h
  cases h1 : sideS t a x with
  | none => rw [h1] at h; cases h
  | some L =>
    cases h2 : sideS t b y with
    | none => rw [h1, h2] at h; cases h
    | some R =>
      cases h3 : validS t with
      | false => rw [h1, h2, h3] at h; cases h
      | true =>
        rw [h1, h2, h3] at h
        simp only [Bool.and_eq_true, decide_eq_true_eq] at h
        obtain ⟨⟨⟨⟨g1, g2⟩, g3⟩, g4⟩, g5⟩ := h
        obtain ⟨ls, _, k1, k2, k3⟩ := writtenS_true g1
        obtain ⟨rs, _, j1, j2, j3⟩ := writtenS_true g2
        have fL := fine_of h1 h3
        have fR := fine_of h2 h3
        have hv := val_le fL fR _ St.start ls rs (Nat.le_refl _) (start_in _ _) k1 j1 (by unfold Fit; rw [if_neg (by simp [St.start])]; show [] ++ outOf ls = _; rw [List.nil_append, ← k2, ← j2, g3, g4])
        have hle : val L R St.start ≤ d.cost := by rw [← g5, k3, j3]; exact hv
        obtain ⟨p1, p2, q1, _, _, _, _⟩ := path_ok fL fR (remS L R St.start) St.start { Der.zero with cost := val L R St.start } (Nat.le_refl _) (start_in _ _) (by intro h; cases h) (by omega)
        unfold bestS
        rw [h1, h2, h3]
        dsimp only
        rw [if_neg (by omega), q1]
        exact ⟨_, rfl, hle⟩
end Go.Proofs.YtkkbkhcapogobaaGreatDoor.S
