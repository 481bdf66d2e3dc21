/- Contracts: package script: the byte at an index, the length of a letter. -/
import Derived.Test.YtkkbkhcapogobaaGreatDoorShelf
import Derived.Test.YtkkbkhcapogobaaGreatDoorS0
import Derived.Test.YtkkbkhcapogobaaGreatDoorB1
import Derived.Lib.IndexAny
import Derived.WalkKit
import Derived.WalkLawsBesides
import Derived.WalkSpells
import Derived.Lib.Hide
import Derived.BigQuiet
import Derived.Deep.QuietTactic
namespace Go.Proofs.YtkkbkhcapogobaaGreatDoor
open Go Go.RowKit Go.Lib Go.Proofs S
set_option linter.unusedVariables false
set_option linter.unusedSimpArgs false

/-- The tables of Go's library that ToLower reads. -/
structure Tabs (w : World) : Prop where
  case : CaseVar 0 caseA w
  utf8 : Lib.Utf8Tabs 2 3 w
theorem caseVar_below {g : Nat} {T : Array CaseRow} {w w' : World} (h : CaseVar g T w) (hb : Below w.heap.size w w') : CaseVar g T w' := by
  obtain ⟨R, oR, cap, h1, h2⟩ := h
  have keep : ∀ a v, w.cell? a = some v → w'.cell? a = some v := fun a v ha => (hb.cell (World.block_lt_of_cell? w a ha)).trans ha
  refine ⟨R, oR, cap, keep _ _ h1, ?_⟩
  intro j hj
  have := h2 j hj
  obtain ⟨a1, a2, a3, a4, a5⟩ := this
  exact ⟨keep _ _ a1, keep _ _ a2, keep _ _ a3, keep _ _ a4, keep _ _ a5⟩
theorem Tabs.below {w w' : World} (h : Tabs w) (hb : Below w.heap.size w w') : Tabs w' := ⟨caseVar_below h.case hb, Utf8Tabs_below h.utf8 hb⟩

theorem ret_bool {a b : Bool} (h : a = b) : Ending.returned (.bool a) = .returned (.bool b) := by rw [h]
theorem ret_int {k : IntKind} {a b : Int} (h : a = b) : Ending.returned (.int k a) = .returned (.int k b) := by rw [h]
theorem toUInt8_toNat (c : UInt8) : ((c.toNat : Int)).toNat.toUInt8 = c := by simp

theorem isAt_hit {s : ByteArray} {i : Nat} (h : i < s.size) (set : Str) : isAt s.data.toList i set = decide (0 ≤ Lib.indexByte set s[i]) := by
  unfold isAt
  rw [show s.data.toList[i]? = some s[i] from by
    rw [List.getElem?_eq_getElem (by simpa using h)]; rfl]
  exact Lib.contains_iff_indexByte _ _
theorem isAt_miss {s : ByteArray} {i : Nat} (h : ¬ i < s.size) (set : Str) : isAt s.data.toList i set = false := by
  unfold isAt
  rw [List.getElem?_eq_none (by simpa using h)]

/-- script.is: the byte at an index is one of some. -/
theorem is_any (s : ByteArray) (i : Nat) (set : ByteArray) (w : World) (hs : s.size ≤ 9223372036854775807) :
    Calls Tryz.prog 83 #[.string s, .int .i64 i, .string set] w fun e w' => e = .returned (.bool (isAt s.data.toList i set.data.toList)) ∧ w = w' := by
  have hh := fun h => isAt_hit (s := s) (i := i) h set.data.toList
  have hm := fun h => isAt_miss (s := s) (i := i) h set.data.toList
  generalize isAt s.data.toList i set.data.toList = r at hh hm ⊢
  have HH := Lib.hid hh
  have HM := Lib.hid hm
  clear hh hm
  go_enter Tryz.func83, Tryz.ntmps83
  go_wp2_with (go_at_call 92; (with_reducible refine (Tryz.strings_IndexByte _ _ _).mono ?_); rintro e w' ⟨rfl, rfl⟩)
  · have h : i < s.size := by assumption
    go_ret
    exact ⟨ret_bool (HH.out h).symm, rfl⟩
  · have h : ¬ i < s.size := by assumption
    go_ret
    exact ⟨ret_bool (HM.out h).symm, rfl⟩

theorem is_at (s : ByteArray) (i : Nat) (z : Int) (hz : z = i) (set : ByteArray) (w : World) (hs : s.size ≤ 9223372036854775807) :
    Calls Tryz.prog 83 #[.string s, .int .i64 z, .string set] w fun e w' => e = .returned (.bool (isAt s.data.toList i set.data.toList)) ∧ w = w' := by
  subst hz; exact is_any s i set w hs

/-- strings.ToLower of at most one byte: what length asks of it. -/
theorem lower_one (s : ByteArray) (hs : s.size ≤ 1) : isAt (Lib.toLowerD s.data.toList) 0 small = isAt (s.data.toList.map lower1) 0 small := by
  have h256 : ∀ c : Fin 256, isAt (Lib.toLowerD [c.val.toUInt8]) 0 small = isAt [lower1 c.val.toUInt8] 0 small := by decide +kernel
  have hl : s.data.toList.length ≤ 1 := by simpa using hs
  match h : s.data.toList, hl with
  | [], _ => rfl
  | [c], _ =>
    have := h256 ⟨c.toNat, c.toNat_lt⟩
    simpa using this
theorem isAt_take (l : Str) (n i : Nat) (set : Str) (h : i < n) : isAt (l.take n) i set = isAt l i set := by
  unfold isAt
  rw [List.getElem?_take_of_lt h]

theorem low_one (s : ByteArray) : (s.extract 0 (min 1 (s.size : Int)).toNat).size ≤ 1 ∧ (⟨(Lib.toLowerD (s.extract 0 (min 1 (s.size : Int)).toNat).data.toList).toArray⟩ : ByteArray).size ≤ 9223372036854775807 ∧
    isAt (⟨(Lib.toLowerD (s.extract 0 (min 1 (s.size : Int)).toNat).data.toList).toArray⟩ : ByteArray).data.toList 0 small = isAt (s.data.toList.map lower1) 0 small := by
  have h256 : ∀ c : Fin 256, (Lib.toLowerD [c.val.toUInt8]).length ≤ 3 := by decide +kernel
  have e : (min 1 (s.size : Int)).toNat = min 1 s.size := by omega
  have h1 : (s.extract 0 (min 1 (s.size : Int)).toNat).size ≤ 1 := by rw [e]; simp; omega
  have hd : (s.extract 0 (min 1 (s.size : Int)).toNat).data.toList = s.data.toList.take 1 := by
    rw [e, Lib.extract_data, List.drop_zero, Nat.sub_zero]
    by_cases h : 1 ≤ s.size
    · rw [Nat.min_eq_left h]
    · have h0 : s.size = 0 := by omega
      have : s.data.toList = [] := List.eq_nil_of_length_eq_zero (by simpa using h0)
      simp [this]
  refine ⟨h1, ?_, ?_⟩
  · show (Lib.toLowerD _).toArray.size ≤ _
    rw [List.size_toArray, hd]
    match s.data.toList with
    | [] => exact (by decide +kernel : (Lib.toLowerD (List.take 1 [])).length ≤ 9223372036854775807)
    | c :: r =>
      have := h256 ⟨c.toNat, c.toNat_lt⟩
      simp at this ⊢
      omega
  · show isAt (Lib.toLowerD _) 0 small = _
    rw [lower_one _ h1, hd, List.map_take, isAt_take _ _ _ _ (by omega)]

abbrev smallB : ByteArray := ⟨#[97, 98, 99, 100, 101, 102, 103, 104, 105, 106, 107, 108, 109, 110, 111, 112, 113, 114, 115, 116, 117, 118, 119, 120, 121, 122]⟩
set_option maxHeartbeats 1000000 in
/-- script.length. -/
theorem length_any (k : Int) (s : ByteArray) (w : World) (hs : s.size ≤ 140737488351232) (hT : Tabs w) :
    Calls Tryz.prog 67 #[.int .i64 k, .string s] w fun e w' => e = .returned (.int .i64 (lenL k s.data.toList)) ∧ Ext w w' := by
  have hs' : s.size ≤ 9223372036854775807 := by omega
  by_cases h1 : k = 1
  · subst h1
    have E1 : Hid (lenL 1 s.data.toList = if isAt s.data.toList 0 small then 1 else 0) := Lib.hid rfl
    go_enter Tryz.func67, Tryz.ntmps67
    go_wp2_with (go_at_call 83; (with_reducible refine (is_at _ 0 0 rfl _ _ hs').mono ?_); rintro e w' ⟨rfl, rfl⟩)
    all_goals (go_ret; refine ⟨ret_int ?_, Below.refl _ _⟩; rw [E1.out]; simp [small, *])
  by_cases h2 : k = 2
  · subst h2
    have E1 : Hid (lenL 2 s.data.toList = if isAt (s.data.toList.map lower1) 0 small then (if isAt s.data.toList 1 accents then 2 else 1) else 0) := Lib.hid rfl
    have hx := low_one s
    generalize hL : (⟨(Lib.toLowerD (s.extract 0 (min 1 (s.size : Int)).toNat).data.toList).toArray⟩ : ByteArray) = low at hx
    have HL := Lib.hid hL; clear hL
    obtain ⟨hx1, hx2, hx3⟩ := hx
    have HX3 := Lib.hid hx3; clear hx3
    have hlow : ∀ w, Tabs w → Calls Tryz.prog 52 #[.string (s.extract 0 (min 1 (s.size : Int)).toNat)] w fun e w' => e = .returned (.string low) ∧ Below w.heap.size w w' := fun w hT => by
      have := Tryz.strings_ToLower_any (s.extract 0 (min 1 (s.size : Int)).toNat) w (by omega) hT.case hT.utf8
      rw [HL.out] at this
      exact this
    clear hx1
    go_enter Tryz.func67, Tryz.ntmps67
    go_wp2_with (first | (go_at_call 52; (with_reducible refine (hlow _ hT).mono ?_); rintro e w1 ⟨rfl, hb⟩) | (go_at_call 83; (with_reducible refine (is_at low 0 0 rfl _ _ hx2).mono ?_); rintro e w' ⟨rfl, rfl⟩) | (go_at_call 83; (with_reducible refine (is_at s 1 1 rfl _ _ hs').mono ?_); rintro e w' ⟨rfl, rfl⟩))
    all_goals (go_ret; refine ⟨ret_int ?_, by assumption⟩; rw [E1.out, ← HX3.out]; clear hlow hb; (try simp only [Bool.not_eq_eq_eq_not, Bool.not_true, Bool.not_false] at *); simp [small, accents, *])
  have hs1 : s.size ≤ 9223372036854775807 := hs'
  by_cases h3 : k = 3
  · subst h3
    have E1 : Hid (lenL 3 s.data.toList = if isAt s.data.toList 0 abjad then 1 else 0) := Lib.hid rfl
    go_enter Tryz.func67, Tryz.ntmps67
    go_wp2_with (go_at_call 83; (with_reducible refine (is_at _ 0 0 rfl _ _ hs').mono ?_); rintro e w' ⟨rfl, rfl⟩)
    all_goals (go_ret; refine ⟨ret_int ?_, Below.refl _ _⟩; rw [E1.out]; simp [abjad, *])
  by_cases h4 : k = 4
  · subst h4
    have E1 : Hid (lenL 4 s.data.toList = if isAt s.data.toList 0 onsets && isAt s.data.toList 1 vowels then 2 else if isAt s.data.toList 0 vowels || isAt s.data.toList 0 [110] then 1 else 0) := Lib.hid rfl
    go_enter Tryz.func67, Tryz.ntmps67
    go_wp2_with (first | (go_at_call 83; (with_reducible refine (is_at _ 0 0 rfl _ _ hs').mono ?_); rintro e w' ⟨rfl, rfl⟩) | (go_at_call 83; (with_reducible refine (is_at _ 1 1 rfl _ _ hs').mono ?_); rintro e w' ⟨rfl, rfl⟩))
    all_goals (go_ret; refine ⟨ret_int ?_, Below.refl _ _⟩; rw [E1.out]; first | (simp [onsets, vowels, *]; done) | simp_all [onsets, vowels])
  have E1 : Hid (lenL k s.data.toList = 0) := Lib.hid (by unfold lenL; simp [h1, h2, h3, h4])
  have g1 : (k == 1) = false := by simpa using h1
  have g2 : (k == 2) = false := by simpa using h2
  have g3 : (k == 3) = false := by simpa using h3
  have g4 : (k == 4) = false := by simpa using h4
  clear h1 h2 h3 h4
  go_enter Tryz.func67, Tryz.ntmps67
  go_wp2_with fail
  go_ret
  exact ⟨ret_int (by rw [E1.out]; rfl), Below.refl _ _⟩

end Go.Proofs.YtkkbkhcapogobaaGreatDoor
