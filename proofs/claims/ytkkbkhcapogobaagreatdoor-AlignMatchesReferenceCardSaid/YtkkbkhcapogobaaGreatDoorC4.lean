/- Contracts: script.Fold; rewrite.isCost, isForm, folded. -/
import Derived.Test.YtkkbkhcapogobaaGreatDoorC3
namespace Go.Proofs.YtkkbkhcapogobaaGreatDoor
open Go Go.RowKit Go.Lib Go.Proofs S Go.Shelf
set_option linter.unusedVariables false
set_option linter.unusedSimpArgs false

theorem lower_eq : Lib.lowerB = lower1 := by
  have h : ∀ c : Fin 256, Lib.lowerB c.val.toUInt8 = lower1 c.val.toUInt8 := by decide +kernel
  funext c
  have := h ⟨c.toNat, c.toNat_lt⟩
  simpa using this
theorem toLowerA_eq (l : Str) : Lib.toLowerA l = lowerS l := by unfold Lib.toLowerA lowerS; rw [lower_eq]

theorem sets_ascii : (∀ c ∈ small, c.toNat < 128) ∧ (∀ c ∈ accents, c.toNat < 128) ∧ (∀ c ∈ abjad, c.toNat < 128) ∧ (∀ c ∈ onsets, c.toNat < 128) ∧ (∀ c ∈ vowels, c.toNat < 128) := by decide
theorem isAt_mem {l : Str} {i : Nat} {set : Str} (h : isAt l i set = true) : ∃ c, l[i]? = some c ∧ c ∈ set := by
  unfold isAt at h
  split at h
  · rename_i c hc; exact ⟨c, hc, by simpa using h⟩
  · cases h
theorem lower_ascii {c : UInt8} (h : (lower1 c).toNat < 128) : c.toNat < 128 := by
  have g : ∀ c : Fin 256, (lower1 c.val.toUInt8).toNat < 128 → c.val < 128 := by decide +kernel
  have := g ⟨c.toNat, c.toNat_lt⟩
  simp at this
  exact this h
theorem take_ascii (k : Int) (l : Str) : ∀ c ∈ l.take (lenL k l), c.toNat < 128 := by
  obtain ⟨a1, a2, a3, a4, a5⟩ := sets_ascii
  have one : ∀ {set : Str}, (∀ c ∈ set, c.toNat < 128) → isAt l 0 set = true → ∀ c ∈ l.take 1, c.toNat < 128 := by
    intro set hset h c hc
    obtain ⟨d, hd, hm⟩ := isAt_mem h
    cases l with
    | nil => simp at hd
    | cons x xs => simp at hd hc; subst hd; subst hc; exact hset _ hm
  have two : ∀ {s0 s1 : Str}, (∀ c ∈ s0, c.toNat < 128) → (∀ c ∈ s1, c.toNat < 128) → isAt l 0 s0 = true → isAt l 1 s1 = true → ∀ c ∈ l.take 2, c.toNat < 128 := by
    intro s0 s1 h0 h1 g0 g1 c hc
    obtain ⟨d0, hd0, hm0⟩ := isAt_mem g0
    obtain ⟨d1, hd1, hm1⟩ := isAt_mem g1
    match l, hd0, hd1, hc with
    | x :: y :: xs, hd0, hd1, hc =>
      simp at hd0 hd1 hc; subst hd0; subst hd1
      rcases hc with rfl | rfl
      · exact h0 _ hm0
      · exact h1 _ hm1
  have lowone : isAt (l.map lower1) 0 small = true → ∀ c ∈ l.take 1, c.toNat < 128 := by
    intro h c hc
    obtain ⟨d, hd, hm⟩ := isAt_mem h
    cases l with
    | nil => simp at hd
    | cons x xs => simp at hd hc; subst hc; subst hd; exact lower_ascii (a1 _ hm)
  unfold lenL
  split
  · split
    · rename_i h; exact one a1 h
    · simp
  · split
    · split
      · rename_i h
        split
        · rename_i h1
          intro c hc
          obtain ⟨d1, hd1, hm1⟩ := isAt_mem h1
          match l, hd1, hc, lowone h with
          | x :: y :: xs, hd1, hc, g =>
            simp at hd1 hc; subst hd1
            rcases hc with rfl | rfl
            · exact g _ (by simp)
            · exact a2 _ hm1
        · exact lowone h
      · simp
    · split
      · split
        · rename_i h; exact one a3 h
        · simp
      · split
        · split
          · rename_i h; simp at h; exact two a4 a5 h.1 h.2
          · split
            · rename_i h; simp at h
              rcases h with h | h
              · exact one a5 h
              · exact one (set := [110]) (by decide) h
            · simp
        · simp
theorem pieces_ascii (k : Int) : ∀ (n : Nat) (l : Str), l.length ≤ n → ∀ c ∈ (pieces k l).flatten, c.toNat < 128
  | 0, l, h => by
    have hl : l = [] := List.eq_nil_of_length_eq_zero (by omega)
    subst hl; intro c hc; cases hc
  | n + 1, l, h => by
    by_cases h0 : lenL k l = 0
    · have := pieces_none h0; rw [this.1]; intro c hc; cases hc
    · have e := pieces_some h0
      rw [e.1, List.flatten_cons]
      intro c hc
      rcases List.mem_append.1 hc with hc | hc
      · exact take_ascii k l c hc
      · exact pieces_ascii k n _ (by simp; omega) c hc
theorem word_ascii {k : Int} {l : Str} {ls : List Str} (h : lettersS k l = some ls) : ∀ c ∈ l, c.toNat < 128 := by
  unfold lettersS at h
  split at h
  · rename_i hc
    have hf := flatten_leftover k l
    rw [hc.1, List.append_nil] at hf
    intro c hcm
    rw [← hf] at hcm
    exact pieces_ascii k l.length l (Nat.le_refl _) c hcm
  · cases h

/-- script.Fold. -/
theorem Fold_any (k : Int) (s : ByteArray) (w : World) (hs : s.size ≤ 140737488351232) (hT : Tabs w) :
    Calls Tryz.prog 39 #[.int .i64 k, .string s] w fun e w' => Below w.heap.size w w' ∧
      ((foldS k s.data.toList = none ∧ e = .returned (.tuple #[.string ⟨#[]⟩, .int .i64 1])) ∨
       (∃ f, foldS k s.data.toList = some f ∧ e = .returned (.tuple #[.string (B f), .int .i64 0]))) := by
  have hl := Letters_any k s w hs hT
  cases hc : lettersS k s.data.toList with
  | none =>
    have HF : Hid (foldS k s.data.toList = none) := by unfold foldS; rw [hc]; exact Lib.hid rfl
    have hl' : Calls Tryz.prog 40 #[.int .i64 k, .string s] w fun e w' => e = .returned (.tuple #[.slice none 0 0, .int .i64 1]) ∧ Ext w w' := hl.mono (fun e w' ⟨h1, h2⟩ => by
      rcases h2 with ⟨_, h2⟩ | ⟨_, _, h2, _⟩
      · exact ⟨h2, h1⟩
      · rw [hc] at h2; cases h2)
    clear hl hc
    go_enter Tryz.func39, Tryz.ntmps39
    go_wp2_with (go_at_call 40; (with_reducible refine hl'.mono ?_); rintro e w1 ⟨rfl, hb⟩)
    go_ret2
    exact ⟨hb, .inl ⟨HF.out, rfl⟩⟩
  | some ls =>
    have HF : Hid (foldS k s.data.toList = some (lowerS s.data.toList)) := by unfold foldS; rw [hc]; exact Lib.hid rfl
    have ha := word_ascii hc
    have hl' : Calls Tryz.prog 40 #[.int .i64 k, .string s] w fun e w' => ∃ v, e = .returned (.tuple #[v, .int .i64 0]) ∧ Ext w w' := hl.mono (fun e w' ⟨h1, h2⟩ => by
      rcases h2 with ⟨h2, _⟩ | ⟨v, _, _, h2, _⟩
      · rw [hc] at h2; cases h2
      · exact ⟨v, h2, h1⟩)
    have hlow : ∀ w, Calls Tryz.prog 52 #[.string s] w fun e w' => e = .returned (.string (B (lowerS s.data.toList))) ∧ Below w.heap.size w w' := fun w => by
      have := Tryz.strings_ToLower_ascii s w (by omega) (fun j b hj => ha b (List.mem_of_getElem? hj))
      rw [toLowerA_eq] at this
      exact this
    clear hl hc ha
    have HLOW := Lib.hid hlow; clear hlow
    go_enter Tryz.func39, Tryz.ntmps39
    go_wp2_with (first | (go_at_call 40; (with_reducible refine hl'.mono ?_); rintro e w1 ⟨v, rfl, hb⟩) | (go_at_call 52; (with_reducible refine (HLOW.out _).mono ?_); rintro e w2 ⟨rfl, hb2⟩))
    go_ret2
    exact ⟨Ext.trans hb hb2, .inr ⟨_, HF.out, rfl⟩⟩
end Go.Proofs.YtkkbkhcapogobaaGreatDoor
