/- Contracts: the reference's letters: among, Length. -/
import Derived.Test.YtkkbkhcapogobaaGreatDoorC5
import Derived.Deep.QuietTactic
import Derived.BigQuiet
namespace Go.Proofs.YtkkbkhcapogobaaGreatDoor
open Go Go.RowKit Go.Lib Go.Proofs S Go.Shelf
set_option linter.unusedVariables false
set_option linter.unusedSimpArgs false

theorem isAt_some {s : Str} {i : Nat} {set : Str} {c : UInt8} (h : s[i]? = some c) : isAt s i set = set.contains c := by
  unfold isAt; rw [h]
set_option maxRecDepth 100000 in
theorem among_any (s set : Str) (i : Nat) (w : World) (hs : s.length ≤ 140737488351232) (hset : set.length ≤ 1000) (hi : i ≤ 140737488351232) :
    Calls Tryz.prog 59 #[.string (B s), .int .i64 i, .string (B set)] w fun e w' => Below w.heap.size w w' ∧ e = .returned (.bool (isAt s i set)) := by
  have z1 : (B s).size = s.length := rfl
  have z2 : (B set).size = set.length := rfl
  by_cases h : i < s.length
  · have hx : s[i]? = some s[i] := List.getElem?_eq_getElem h
    have HA := Lib.hid (isAt_some (set := set) hx)
    generalize s[i] = c at hx HA
    have q2 : ∀ h : i < (B s).size, (B s)[i]'h = c := fun h => (List.getElem?_eq_some_iff.1 hx).2
    go_enter Tryz.func59, Tryz.ntmps59
    go_wp2
    go_loopw [7] (fun v wr => ∃ k : Nat, k ≤ set.length ∧ v = .int .i64 k ∧ Below w.heap.size w wr ∧ ∀ j x, j < k → set[j]? = some x → x ≠ c) (fun v _ => set.length - (intOf v).toNat)
    case atStart => exact ⟨0, Nat.zero_le _, rfl, Below.refl _ w, fun _ _ h => absurd h (Nat.not_lt_zero _)⟩
    case round =>
      rename_i hrel
      obtain ⟨k, hk, rfl, hb, hall⟩ := hrel
      by_cases hkk : k < set.length
      · have hy : set[k]? = some set[k] := List.getElem?_eq_getElem hkk
        generalize set[k] = x at hy
        have q1 : ∀ h : k < (B set).size, (B set)[k]'h = x := fun h => (List.getElem?_eq_some_iff.1 hy).2
        by_cases hxc : x = c
        · subst hxc
          have R : Hid (isAt s i set = true) := Lib.hid (by rw [HA.out]; exact List.contains_iff_mem.2 (List.mem_of_getElem? hy))
          go_wp2
          go_quiet (fail)
          go_wp2
          go_ret
          exact ⟨below_drewN hb _, ret_bool R.out.symm⟩
        · have hne : ((x.toNat : Int) == (c.toNat : Int)) = false := by
            rw [beq_eq_false_iff_ne]
            intro h
            exact hxc (UInt8.toNat_inj.1 (Int.ofNat_inj.1 h))
          have HALL : Hid (∀ j y, j < k + 1 → set[j]? = some y → y ≠ c) := Lib.hid (fun j y hj hy' => by
            by_cases hjk : j = k
            · subst hjk; rw [hy] at hy'; cases hy'; exact hxc
            · exact hall j y (by omega) hy')
          clear hxc hall hx hy
          go_wp2
          go_quiet (fail)
          go_wp2
          go_roundw
          case rel => exact ⟨k + 1, by omega, by simp, below_drewN hb _, HALL.out⟩
          case measure => simp [intOf]; omega
      · have hkl : k = set.length := by omega
        have R : Hid (isAt s i set = false) := Lib.hid (by
          rw [HA.out, ← Bool.not_eq_true, List.contains_iff_mem]
          intro hm
          obtain ⟨j, hj, he⟩ := List.getElem_of_mem hm
          exact hall j _ (by omega) (List.getElem?_eq_getElem hj) he)
        clear hall
        go_wp2
        go_ret
        exact ⟨hb, ret_bool R.out.symm⟩
  · have HA : Hid (isAt s i set = false) := Lib.hid (by unfold isAt; rw [List.getElem?_eq_none (by omega)])
    go_enter Tryz.func59, Tryz.ntmps59
    go_wp2
    go_ret
    exact ⟨Below.refl _ w, ret_bool HA.out.symm⟩
def capitals : Str := [65, 66, 67, 68, 69, 70, 71, 72, 73, 74, 75, 76, 77, 78, 79, 80, 81, 82, 83, 84, 85, 86, 87, 88, 89, 90]
theorem isAt_map (s : Str) (i : Nat) : isAt (s.map lower1) i small = isAt s i (small ++ capitals) := by
  have h : ∀ c : Fin 256, small.contains (lower1 c.val.toUInt8) = (small ++ capitals).contains c.val.toUInt8 := by decide +kernel
  unfold isAt
  rw [List.getElem?_map]
  cases s[i]? with
  | none => rfl
  | some c =>
    have := h ⟨c.toNat, c.toNat_lt⟩
    simpa using this
theorem isAt_drop (s : Str) (i j : Nat) (set : Str) : isAt (s.drop i) j set = isAt s (i + j) set := by
  unfold isAt; rw [List.getElem?_drop]
set_option maxRecDepth 100000 in
set_option maxHeartbeats 4000000 in
/-- The reference's length of a letter. -/
theorem Length_any (k : Int) (s : Str) (i : Nat) (w : World) (hs : s.length ≤ 140737488351232) (hi : i ≤ 140737488351000) :
    Calls Tryz.prog 51 #[.int .i64 k, .string (B s), .int .i64 i] w fun e w' => Below w.heap.size w w' ∧ e = .returned (.int .i64 (lenL k (s.drop i))) := by
  have HAM : Hid (∀ (w' : World) (set : Str) (j : Nat), set.length ≤ 1000 → j ≤ i + 1 → Calls Tryz.prog 59 #[.string (B s), .int .i64 j, .string (B set)] w' fun e w'' => Below w'.heap.size w' w'' ∧ e = .returned (.bool (isAt s j set))) := Lib.hid (fun w' set j h1 h2 => among_any s set j w' hs h1 (by omega))
  have H1 : Hid (∀ w', Calls Tryz.prog 59 #[.string (B s), .int .i64 i, .string ⟨#[97, 98, 99, 100, 101, 102, 103, 104, 105, 106, 107, 108, 109, 110, 111, 112, 113, 114, 115, 116, 117, 118, 119, 120, 121, 122]⟩] w' fun e w'' => Below w'.heap.size w' w'' ∧ e = .returned (.bool (isAt s i small))) := Lib.hid (fun w' => HAM.out w' small i (by decide) (by omega))
  have H2 : Hid (∀ w', Calls Tryz.prog 59 #[.string (B s), .int .i64 i, .string ⟨#[97, 98, 99, 100, 101, 102, 103, 104, 105, 106, 107, 108, 109, 110, 111, 112, 113, 114, 115, 116, 117, 118, 119, 120, 121, 122, 65, 66, 67, 68, 69, 70, 71, 72, 73, 74, 75, 76, 77, 78, 79, 80, 81, 82, 83, 84, 85, 86, 87, 88, 89, 90]⟩] w' fun e w'' => Below w'.heap.size w' w'' ∧ e = .returned (.bool (isAt s i (small ++ capitals)))) := Lib.hid (fun w' => HAM.out w' (small ++ capitals) i (by decide) (by omega))
  have H3 : Hid (∀ w', Calls Tryz.prog 59 #[.string (B s), .int .i64 (i + 1), .string ⟨#[39, 96, 94]⟩] w' fun e w'' => Below w'.heap.size w' w'' ∧ e = .returned (.bool (isAt s (i + 1) accents))) := Lib.hid (fun w' => HAM.out w' accents (i + 1) (by decide) (by omega))
  have H4 : Hid (∀ w', Calls Tryz.prog 59 #[.string (B s), .int .i64 i, .string ⟨#[98, 100, 102, 103, 104, 106, 107, 108, 109, 110, 112, 113, 114, 115, 116, 119, 120, 121, 122, 39]⟩] w' fun e w'' => Below w'.heap.size w' w'' ∧ e = .returned (.bool (isAt s i abjad))) := Lib.hid (fun w' => HAM.out w' abjad i (by decide) (by omega))
  have H5 : Hid (∀ w', Calls Tryz.prog 59 #[.string (B s), .int .i64 i, .string ⟨#[97, 105, 117, 101, 111]⟩] w' fun e w'' => Below w'.heap.size w' w'' ∧ e = .returned (.bool (isAt s i vowels))) := Lib.hid (fun w' => HAM.out w' vowels i (by decide) (by omega))
  have H6 : Hid (∀ w', Calls Tryz.prog 59 #[.string (B s), .int .i64 i, .string ⟨#[107, 115, 116, 110, 104, 109, 121, 114, 119, 103, 122, 100, 98, 112]⟩] w' fun e w'' => Below w'.heap.size w' w'' ∧ e = .returned (.bool (isAt s i onsets))) := Lib.hid (fun w' => HAM.out w' onsets i (by decide) (by omega))
  have H7 : Hid (∀ w', Calls Tryz.prog 59 #[.string (B s), .int .i64 (i + 1), .string ⟨#[97, 105, 117, 101, 111]⟩] w' fun e w'' => Below w'.heap.size w' w'' ∧ e = .returned (.bool (isAt s (i + 1) vowels))) := Lib.hid (fun w' => HAM.out w' vowels (i + 1) (by decide) (by omega))
  have H8 : Hid (∀ w', Calls Tryz.prog 59 #[.string (B s), .int .i64 i, .string ⟨#[110]⟩] w' fun e w'' => Below w'.heap.size w' w'' ∧ e = .returned (.bool (isAt s i [110]))) := Lib.hid (fun w' => HAM.out w' [110] i (by decide) (by omega))
  have hL : lenL k (s.drop i) = (if k = 1 then (if isAt s i small then 1 else 0)
    else if k = 2 then (if isAt s i (small ++ capitals) then (if isAt s (i + 1) accents then 2 else 1) else 0)
    else if k = 3 then (if isAt s i abjad then 1 else 0)
    else if k = 4 then (if isAt s i onsets && isAt s (i + 1) vowels then 2 else if isAt s i vowels || isAt s i [110] then 1 else 0)
    else 0) := by
    unfold lenL
    rw [isAt_map]
    simp only [isAt_drop, Nat.add_zero]
  have hwr : IntKind.i64.wrap ((i : Int) + 1) = i + 1 := by rw [IntKind.wrap_i64]; omega
  -- no vowel is an onset
  have hvo : isAt s i vowels = true → isAt s i onsets = false := by
    have h : ∀ c : Fin 256, vowels.contains c.val.toUInt8 = true → onsets.contains c.val.toUInt8 = false := by decide +kernel
    unfold isAt
    cases s[i]? with
    | none => simp
    | some c =>
      have := h ⟨c.toNat, c.toNat_lt⟩
      simpa using this
  have HL := Lib.hid hL
  have HVO := Lib.hid hvo
  clear hL hvo hs HAM
  have fin : ∀ (n : Nat) (w' : World), Below w.heap.size w w' → lenL k (s.drop i) = n → (Below w.heap.size w w' ∧ (.returned (.int .i64 (n : Int)) : Ending) = .returned (.int .i64 (lenL k (s.drop i)))) := fun n w' h1 h2 => ⟨h1, by rw [h2]⟩
  have FIN := Lib.hid fin
  clear fin
  generalize isAt s i small = b1 at *
  generalize isAt s i (small ++ capitals) = b2 at *
  generalize isAt s (i + 1) accents = b3 at *
  generalize isAt s i abjad = b4 at *
  generalize isAt s i vowels = b5 at *
  generalize isAt s i onsets = b6 at *
  generalize isAt s (i + 1) vowels = b7 at *
  generalize isAt s i [110] = b8 at *
  by_cases k1 : k = 1
  · subst k1
    cases b1
    · skip
      go_enter Tryz.func51, Tryz.ntmps51
      go_wp2_with (first | (go_at_call 59; (with_reducible refine (H1.out _).mono ?_); rintro e v0 ⟨hb0, rfl⟩))
      go_ret
      exact FIN.out 0 _ hb0 (by rw [HL.out]; simp)
    · skip
      go_enter Tryz.func51, Tryz.ntmps51
      go_wp2_with (first | (go_at_call 59; (with_reducible refine (H1.out _).mono ?_); rintro e v0 ⟨hb0, rfl⟩))
      go_ret
      exact FIN.out 1 _ hb0 (by rw [HL.out]; simp)
  by_cases k2 : k = 2
  · subst k2
    cases b2
    · skip
      go_enter Tryz.func51, Tryz.ntmps51
      go_wp2_with (first | (go_at_call 59; (with_reducible refine (H2.out _).mono ?_); rintro e v0 ⟨hb0, rfl⟩))
      go_ret
      exact FIN.out 0 _ hb0 (by rw [HL.out]; simp)
    · cases b3
      · skip
        go_enter Tryz.func51, Tryz.ntmps51
        go_wp2_with (first | (go_at_call 59; (with_reducible refine (H2.out _).mono ?_); rintro e v0 ⟨hb0, rfl⟩) | (go_at_call 59; (with_reducible refine (H3.out _).mono ?_); rintro e v1 ⟨hb1, rfl⟩))
        go_ret
        exact FIN.out 1 _ (Ext.trans hb0 hb1) (by rw [HL.out]; simp)
      · skip
        go_enter Tryz.func51, Tryz.ntmps51
        go_wp2_with (first | (go_at_call 59; (with_reducible refine (H2.out _).mono ?_); rintro e v0 ⟨hb0, rfl⟩) | (go_at_call 59; (with_reducible refine (H3.out _).mono ?_); rintro e v1 ⟨hb1, rfl⟩))
        go_ret
        exact FIN.out 2 _ (Ext.trans hb0 hb1) (by rw [HL.out]; simp)
  by_cases k3 : k = 3
  · subst k3
    cases b4
    · skip
      go_enter Tryz.func51, Tryz.ntmps51
      go_wp2_with (first | (go_at_call 59; (with_reducible refine (H4.out _).mono ?_); rintro e v0 ⟨hb0, rfl⟩))
      go_ret
      exact FIN.out 0 _ hb0 (by rw [HL.out]; simp)
    · skip
      go_enter Tryz.func51, Tryz.ntmps51
      go_wp2_with (first | (go_at_call 59; (with_reducible refine (H4.out _).mono ?_); rintro e v0 ⟨hb0, rfl⟩))
      go_ret
      exact FIN.out 1 _ hb0 (by rw [HL.out]; simp)
  by_cases k4 : k = 4
  · subst k4
    cases b5
    · cases b6
      · cases b8
        · skip
          go_enter Tryz.func51, Tryz.ntmps51
          go_wp2_with (first | (go_at_call 59; (with_reducible refine (H5.out _).mono ?_); rintro e v0 ⟨hb0, rfl⟩) | (go_at_call 59; (with_reducible refine (H6.out _).mono ?_); rintro e v1 ⟨hb1, rfl⟩) | (go_at_call 59; (with_reducible refine (H8.out _).mono ?_); rintro e v2 ⟨hb2, rfl⟩))
          go_ret
          exact FIN.out 0 _ (Ext.trans (Ext.trans hb0 hb1) hb2) (by rw [HL.out]; simp)
        · skip
          go_enter Tryz.func51, Tryz.ntmps51
          go_wp2_with (first | (go_at_call 59; (with_reducible refine (H5.out _).mono ?_); rintro e v0 ⟨hb0, rfl⟩) | (go_at_call 59; (with_reducible refine (H6.out _).mono ?_); rintro e v1 ⟨hb1, rfl⟩) | (go_at_call 59; (with_reducible refine (H8.out _).mono ?_); rintro e v2 ⟨hb2, rfl⟩))
          go_ret
          exact FIN.out 1 _ (Ext.trans (Ext.trans hb0 hb1) hb2) (by rw [HL.out]; simp)
      · cases b7
        · cases b8
          · skip
            go_enter Tryz.func51, Tryz.ntmps51
            go_wp2_with (first | (go_at_call 59; (with_reducible refine (H5.out _).mono ?_); rintro e v0 ⟨hb0, rfl⟩) | (go_at_call 59; (with_reducible refine (H6.out _).mono ?_); rintro e v1 ⟨hb1, rfl⟩) | (go_at_call 59; (with_reducible refine (H7.out _).mono ?_); rintro e v2 ⟨hb2, rfl⟩) | (go_at_call 59; (with_reducible refine (H8.out _).mono ?_); rintro e v3 ⟨hb3, rfl⟩))
            go_ret
            exact FIN.out 0 _ (Ext.trans (Ext.trans (Ext.trans hb0 hb1) hb2) hb3) (by rw [HL.out]; simp)
          · skip
            go_enter Tryz.func51, Tryz.ntmps51
            go_wp2_with (first | (go_at_call 59; (with_reducible refine (H5.out _).mono ?_); rintro e v0 ⟨hb0, rfl⟩) | (go_at_call 59; (with_reducible refine (H6.out _).mono ?_); rintro e v1 ⟨hb1, rfl⟩) | (go_at_call 59; (with_reducible refine (H7.out _).mono ?_); rintro e v2 ⟨hb2, rfl⟩) | (go_at_call 59; (with_reducible refine (H8.out _).mono ?_); rintro e v3 ⟨hb3, rfl⟩))
            go_ret
            exact FIN.out 1 _ (Ext.trans (Ext.trans (Ext.trans hb0 hb1) hb2) hb3) (by rw [HL.out]; simp)
        · skip
          go_enter Tryz.func51, Tryz.ntmps51
          go_wp2_with (first | (go_at_call 59; (with_reducible refine (H5.out _).mono ?_); rintro e v0 ⟨hb0, rfl⟩) | (go_at_call 59; (with_reducible refine (H6.out _).mono ?_); rintro e v1 ⟨hb1, rfl⟩) | (go_at_call 59; (with_reducible refine (H7.out _).mono ?_); rintro e v2 ⟨hb2, rfl⟩))
          go_ret
          exact FIN.out 2 _ (Ext.trans (Ext.trans hb0 hb1) hb2) (by rw [HL.out]; simp)
    · have h6 := HVO.out rfl
      subst h6
      go_enter Tryz.func51, Tryz.ntmps51
      go_wp2_with (first | (go_at_call 59; (with_reducible refine (H5.out _).mono ?_); rintro e v0 ⟨hb0, rfl⟩))
      go_ret
      exact FIN.out 1 _ hb0 (by rw [HL.out]; simp)
  have HK := Lib.hid (And.intro k1 (And.intro k2 (And.intro k3 k4)))
  go_enter Tryz.func51, Tryz.ntmps51
  go_wp2
  go_ret
  exact FIN.out 0 _ (Below.refl _ w) (by rw [HL.out]; simp [k1, k2, k3, k4])
end Go.Proofs.YtkkbkhcapogobaaGreatDoor
