/- Contracts: rewrite.isCost, isForm, folded. -/
import Derived.Test.YtkkbkhcapogobaaGreatDoorC4
namespace Go.Proofs.YtkkbkhcapogobaaGreatDoor
open Go Go.RowKit Go.Lib Go.Proofs S Go.Shelf
set_option linter.unusedVariables false
set_option linter.unusedSimpArgs false

/-- rewrite.isCost. -/
theorem isCost_any (n : Int) (w : World) : Calls Tryz.prog 41 #[.int .i64 n] w fun e w' => e = .returned (.bool (costS n)) ∧ w = w' := by
  have HC : Hid (costS n = (decide (0 ≤ n) && decide (n ≤ 1000))) := Lib.hid rfl
  generalize costS n = c at HC ⊢
  go_enter Tryz.func41, Tryz.ntmps41
  go_wp2
  all_goals (go_ret; refine ⟨ret_bool ?_, rfl⟩; rw [HC.out]; first | (simp [*]; done) | (simp [*]; omega))

theorem dropWhile_nil {p : UInt8 → Bool} : ∀ (l : Str), l.dropWhile p = [] ↔ l.all p = true
  | [] => by simp
  | x :: xs => by
    rw [List.dropWhile_cons, List.all_cons]
    cases hp : p x
    · simp
    · simpa using dropWhile_nil xs
theorem dropWhile_head {p : UInt8 → Bool} : ∀ (l : Str) (x : UInt8) (xs : Str), l.dropWhile p = x :: xs → p x = false
  | [], _, _, h => by simp at h
  | y :: ys, x, xs, h => by
    rw [List.dropWhile_cons] at h
    cases hp : p y
    · rw [hp] at h; simp at h; rw [← h.1]; exact hp
    · rw [hp] at h; exact dropWhile_head ys x xs (by simpa using h)
theorem trim_nil (l cs : Str) : Lib.trimS l cs = [] ↔ l.all (cs.contains ·) = true := by
  unfold Lib.trimS Lib.trimLeftS Lib.trimRightS
  rw [dropWhile_nil]
  constructor
  · intro h
    cases hd : l.reverse.dropWhile (cs.contains ·) with
    | nil => rw [dropWhile_nil] at hd; simpa using hd
    | cons x xs =>
      have := dropWhile_head _ _ _ hd
      rw [hd] at h
      have := List.all_eq_true.1 h x (by simp)
      simp_all
  · intro h
    have : l.reverse.dropWhile (cs.contains ·) = [] := by rw [dropWhile_nil]; simpa using h
    rw [this]; rfl

/-- rewrite.isForm. -/
theorem isForm_any (s : ByteArray) (w : World) (hs : s.size ≤ 140737488351232) : Calls Tryz.prog 43 #[.string s] w fun e w' => e = .returned (.bool (formS s.data.toList)) ∧ Ext w w' := by
  have htrim : ∀ w, Calls Tryz.prog 54 #[.string s, .string ⟨#[97, 98, 99, 100, 101, 102, 103, 104, 105, 106, 107, 108, 109, 110, 111, 112, 113, 114, 115, 116, 117, 118, 119, 120, 121, 122]⟩] w fun e w' => e = .returned (.string (B (Lib.trimS s.data.toList small))) ∧ Below w.heap.size w w' := fun w =>
    Any.strings_Trim_laid Tryz.lays160 (by kernel_rfl) s ⟨#[97, 98, 99, 100, 101, 102, 103, 104, 105, 106, 107, 108, 109, 110, 111, 112, 113, 114, 115, 116, 117, 118, 119, 120, 121, 122]⟩ w (by omega) (by decide) (ascii_of_all (by decide))
  have hn := trim_nil s.data.toList small
  have HN := Lib.hid hn
  have HT := Lib.hid htrim
  clear hn htrim
  have HC : Hid (formS s.data.toList = (decide (s.size ≤ 3) && s.data.toList.all (small.contains ·))) := Lib.hid rfl
  generalize formS s.data.toList = c at HC ⊢
  generalize Lib.trimS s.data.toList small = t at HN HT
  by_cases h3 : s.size ≤ 3
  · cases he : t.isEmpty with
    | true =>
      have HE : Hid (t = []) := by cases t; exact Lib.hid rfl; cases he
      go_enter Tryz.func43, Tryz.ntmps43
      go_wp2_with (go_at_call 54; (with_reducible refine (HT.out _).mono ?_); rintro e w1 ⟨rfl, hb⟩)
      go_ret
      exact ⟨ret_bool (by rw [HC.out, HN.out.1 HE.out]; simp [h3]), hb⟩
    | false =>
      have HE : Hid (t ≠ []) := by cases t; cases he; exact Lib.hid (by simp)
      go_enter Tryz.func43, Tryz.ntmps43
      go_wp2_with (go_at_call 54; (with_reducible refine (HT.out _).mono ?_); rintro e w1 ⟨rfl, hb⟩)
      go_ret
      refine ⟨ret_bool ?_, hb⟩
      have h4 : s.data.toList.all (small.contains ·) = false := by
        cases h5 : s.data.toList.all (small.contains ·)
        · rfl
        · exact absurd (HN.out.2 h5) HE.out
      rw [HC.out, h4]; simp
  · go_enter Tryz.func43, Tryz.ntmps43
    go_wp2_with (go_at_call 54; (with_reducible refine (HT.out _).mono ?_); rintro e w1 ⟨rfl, hb⟩)
    go_ret
    exact ⟨ret_bool (by rw [HC.out]; simp [h3]), Below.refl _ _⟩

/-- rewrite.folded. -/
theorem folded_any (k : Int) (s : ByteArray) (m : Nat) (w : World) (hs : s.size ≤ 140737488351232) (hT : Tabs w) :
    Calls Tryz.prog 42 #[.int .i64 k, .string s, .int .i64 m] w fun e w' => e = .returned (.bool (foldedS k s.data.toList m)) ∧ Ext w w' := by
  have hf := Fold_any k s w hs hT
  have hl := fun w' (hw : Below w.heap.size w w') => Letters_any k s w' hs (hT.below hw)
  have hfl : foldedS k s.data.toList m = (decide (foldS k s.data.toList = some s.data.toList) && (match lettersS k s.data.toList with | some ls => decide (ls.length ≤ m) | none => false)) := rfl
  have HFL := Lib.hid hfl; clear hfl
  cases hc : foldS k s.data.toList with
  | none =>
    have hf' : Calls Tryz.prog 39 #[.int .i64 k, .string s] w fun e w' => e = .returned (.tuple #[.string ⟨#[]⟩, .int .i64 1]) ∧ Ext w w' := hf.mono (fun e w' ⟨h1, h2⟩ => by
      rcases h2 with ⟨_, h2⟩ | ⟨_, h2, _⟩
      · exact ⟨h2, h1⟩
      · rw [hc] at h2; cases h2)
    have HR : Hid (foldedS k s.data.toList m = false) := by rw [HFL.out, hc]; exact Lib.hid rfl
    clear hf hl hc HFL
    go_enter Tryz.func42, Tryz.ntmps42
    go_wp2_with (go_at_call 39; (with_reducible refine hf'.mono ?_); rintro e w1 ⟨rfl, hb⟩)
    go_ret
    exact ⟨ret_bool HR.out.symm, hb⟩
  | some f =>
    have hf' : Calls Tryz.prog 39 #[.int .i64 k, .string s] w fun e w' => e = .returned (.tuple #[.string (B f), .int .i64 0]) ∧ Ext w w' := hf.mono (fun e w' ⟨h1, h2⟩ => by
      rcases h2 with ⟨h2, _⟩ | ⟨f', h2, h3⟩
      · rw [hc] at h2; cases h2
      · rw [hc] at h2; cases h2; exact ⟨h3, h1⟩)
    obtain ⟨ls, hls⟩ : ∃ ls, lettersS k s.data.toList = some ls := by
      unfold foldS at hc
      split at hc
      · rename_i h; exact Option.isSome_iff_exists.1 h
      · cases hc
    have hl' : ∀ w', Below w.heap.size w w' → Calls Tryz.prog 40 #[.int .i64 k, .string s] w' fun e w'' => (∃ A c, e = .returned (.tuple #[.slice A ls.length c, .int .i64 0])) ∧ Ext w' w'' := fun w' hw => (hl w' hw).mono (fun e w'' ⟨h1, h2⟩ => by
      rcases h2 with ⟨h2, _⟩ | ⟨v, ls', h2, h3, h4⟩
      · rw [hls] at h2; cases h2
      · rw [hls] at h2; cases h2
        rcases h4.2 with ⟨rfl, h5⟩ | ⟨g, cap, cur, rfl, _⟩
        · rw [h5]; exact ⟨⟨_, _, h3⟩, h1⟩
        · exact ⟨⟨_, _, h3⟩, h1⟩)
    have hlen : ls.length ≤ 12 := by
      unfold lettersS at hls
      split at hls
      · rename_i h; cases hls; exact h.2.2
      · cases hls
    have HL := Lib.hid hl'
    clear hl hf hl'
    by_cases hfs : f = s.data.toList
    · have HR : Hid (foldedS k s.data.toList m = decide (ls.length ≤ m)) := by rw [HFL.out, hc, hls, hfs]; exact Lib.hid (by simp)
      have HFS : Hid (B f = s) := by rw [hfs]; exact Lib.hid rfl
      rw [HFS.out] at hf'
      clear hfs hc hls HFL HFS
      go_enter Tryz.func42, Tryz.ntmps42
      go_wp2_with (first | (go_at_call 39; (with_reducible refine hf'.mono ?_); rintro e w1 ⟨rfl, hb⟩) | (go_at_call 40; (with_reducible refine (HL.out _ hb).mono ?_); rintro e w2 ⟨⟨A, c, rfl⟩, hb2⟩))
      go_ret
      exact ⟨ret_bool (by rw [HR.out]), Ext.trans hb hb2⟩
    · have HR : Hid (foldedS k s.data.toList m = false) := by
        rw [HFL.out, hc]
        have : decide (some f = some s.data.toList) = false := by simpa using hfs
        rw [this]; exact Lib.hid rfl
      have hne : (f == s.toList) = false := by rw [Lib.toList_data]; simpa using hfs
      clear hc hls HFL hfs
      go_enter Tryz.func42, Tryz.ntmps42
      go_wp2_with (first | (go_at_call 39; (with_reducible refine hf'.mono ?_); rintro e w1 ⟨rfl, hb⟩) | (go_at_call 40; (with_reducible refine (HL.out _ hb).mono ?_); rintro e w2 ⟨⟨A, c, rfl⟩, hb2⟩))
      go_ret
      exact ⟨ret_bool HR.out.symm, hb⟩
end Go.Proofs.YtkkbkhcapogobaaGreatDoor
