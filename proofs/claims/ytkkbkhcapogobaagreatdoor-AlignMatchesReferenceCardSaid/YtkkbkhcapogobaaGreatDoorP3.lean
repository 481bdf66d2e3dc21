/- Contracts: ref10's Letters, Folded, small, cost, Twice. -/
import Derived.Test.YtkkbkhcapogobaaGreatDoorP2
namespace Go.Proofs.YtkkbkhcapogobaaGreatDoor
open Go Go.RowKit Go.Lib Go.Proofs S Go.Shelf Go.Maps Go.WideMaps
set_option linter.unusedVariables false
set_option linter.unusedSimpArgs false

namespace S
/-- The letters of the folded word; none if it is no word of the script. -/
def refL (k : Int) (s : Str) : List Str := match foldS k s with
  | none => []
  | some f => (lettersS k f).getD []
end S
theorem fold_len {k : Int} {s f : Str} (h : foldS k s = some f) : f.length = s.length := by
  unfold foldS at h
  split at h
  · cases h; simp [lowerS]
  · cases h
set_option maxRecDepth 100000 in
theorem ref10Letters_any (k : Int) (s : Str) (w : World) (hs : s.length ≤ 140737488350000) :
    Calls Tryz.prog 75 #[.int .i64 k, .string (B s)] w fun e w' => Ext w w' ∧ ∃ (A : Option Addr) (q : Nat), e = .returned (.slice A (refL k s).length q) ∧ w'.ownsRow w.heap.size 9 1 (.slice A (refL k s).length q) (refL k s).length (strVals ((refL k s).map B)) := by
  have HF := Lib.hid (refFold_any k s w hs)
  have hnil : ∀ W : World, W.ownsRow w.heap.size 9 1 (.slice none 0 0) 0 [] := fun W => ⟨rfl, .inl ⟨rfl, rfl⟩⟩
  have HNIL := Lib.hid hnil
  clear hnil
  have HLE : Hid (∀ f, foldS k s = some f → f.length ≤ 140737488350000) := Lib.hid (fun f h => by rw [fold_len h]; exact hs)
  go_enter Tryz.func75, Tryz.ntmps75
  go_upto_region 2 with (go_at_call 32; (with_reducible refine (HF.out).mono ?_); rintro e w1 ⟨hb1, (⟨h1, rfl⟩ | ⟨f, h1, rfl⟩)⟩)
  · have R : Hid (refL k s = []) := Lib.hid (by unfold refL; rw [h1])
    clear h1 HLE
    go_wp2
    go_ret
    refine ⟨hb1, none, 0, by rw [R.out]; rfl, by rw [R.out]; exact HNIL.out _⟩
  · have HL := Lib.hid (refLetters_any k f w1 (HLE.out f h1))
    have hbw := hb1.size
    have R1 : Hid (refL k s = (lettersS k f).getD []) := Lib.hid (by unfold refL; rw [h1])
    clear h1 HLE
    go_upto_region 5 with (go_at_call 33; (with_reducible refine (HL.out).mono ?_); rintro e w2 ⟨hb2, (⟨h2, rfl⟩ | ⟨v, ls, h2, rfl, hown⟩)⟩)
    · have R : Hid (refL k s = []) := Lib.hid (by rw [R1.out, h2]; rfl)
      clear h2
      go_wp2
      go_ret
      refine ⟨Ext.trans hb1 hb2, none, 0, by rw [R.out]; rfl, by rw [R.out]; exact HNIL.out _⟩
    · have R : Hid (refL k s = ls) := Lib.hid (by rw [R1.out, h2]; rfl)
      have HO := Lib.hid (ownsRow_lower hown hbw)
      obtain ⟨A, q, rfl⟩ := own_slice hown
      clear h2 hown
      go_wp2
      go_ret
      refine ⟨Ext.trans hb1 hb2, A, q, by rw [R.out]; rfl, by rw [R.out]; exact HO.out⟩
theorem folded_eq (k : Int) (s : Str) (m : Nat) : foldedS k s m = (decide (foldS k s = some s) && decide ((refL k s).length ≤ m)) := by
  unfold foldedS refL
  by_cases h : foldS k s = some s
  · have hl : (lettersS k s).isSome = true := by
      unfold foldS at h
      split at h
      · assumption
      · cases h
    obtain ⟨ls, hls⟩ := Option.isSome_iff_exists.1 hl
    rw [h]; simp [hls]
  · simp [h]
set_option maxRecDepth 100000 in
theorem refFolded_any (k : Int) (s : Str) (m : Nat) (w : World) (hs : s.length ≤ 140737488350000) :
    Calls Tryz.prog 56 #[.int .i64 k, .string (B s), .int .i64 m] w fun e w' => Ext w w' ∧ e = .returned (.bool (foldedS k s m)) := by
  have HF := Lib.hid (refFold_any k s w hs)
  have HL : Hid (∀ w', Calls Tryz.prog 75 #[.int .i64 k, .string (B s)] w' fun e w'' => Ext w' w'' ∧ ∃ (A : Option Addr) (q : Nat), e = .returned (.slice A (refL k s).length q)) := Lib.hid (fun w' => (ref10Letters_any k s w' hs).mono (fun e w'' h => ⟨h.1, h.2.choose, h.2.choose_spec.choose, h.2.choose_spec.choose_spec.1⟩))
  have HE := Lib.hid (folded_eq k s m)
  go_enter Tryz.func56, Tryz.ntmps56
  go_upto_region 2 with (go_at_call 32; (with_reducible refine (HF.out).mono ?_); rintro e w1 ⟨hb1, (⟨h1, rfl⟩ | ⟨f, h1, rfl⟩)⟩)
  · have R : Hid (foldedS k s m = false) := Lib.hid (by rw [HE.out, h1]; rfl)
    clear h1
    go_wp2
    go_ret
    exact ⟨hb1, ret_bool R.out.symm⟩
  · by_cases hfs : f = s
    · subst hfs
      have R : Hid (foldedS k f m = decide ((refL k f).length ≤ m)) := Lib.hid (by rw [HE.out, h1]; simp)
      clear h1
      generalize refL k f = ls at HL R
      go_wp2_with (go_at_call 75; (with_reducible refine (HL.out _).mono ?_); rintro e w2 ⟨hb2, A, q, rfl⟩)
      go_ret
      exact ⟨Ext.trans hb1 hb2, ret_bool (by rw [R.out])⟩
    · have R : Hid (foldedS k s m = false) := Lib.hid (by rw [HE.out, h1]; simp [hfs])
      clear h1
      go_wp2
      go_ret
      exact ⟨hb1, ret_bool R.out.symm⟩
set_option maxRecDepth 100000 in
theorem cost_any (n : Int) (w : World) : Calls Tryz.prog 47 #[.int .i64 n] w fun e w' => Ext w w' ∧ e = .returned (.bool (costS n)) := by
  by_cases h1 : 0 ≤ n
  · by_cases h2 : n ≤ 1000
    · have R : Hid (costS n = true) := Lib.hid (by simp [costS, h1, h2])
      go_enter Tryz.func47, Tryz.ntmps47
      go_wp2
      go_ret
      exact ⟨Below.refl _ w, ret_bool R.out.symm⟩
    · have R : Hid (costS n = false) := Lib.hid (by simp [costS, h2])
      go_enter Tryz.func47, Tryz.ntmps47
      go_wp2
      go_ret
      exact ⟨Below.refl _ w, ret_bool R.out.symm⟩
  · have R : Hid (costS n = false) := Lib.hid (by simp [costS, h1])
    go_enter Tryz.func47, Tryz.ntmps47
    go_wp2
    go_ret
    exact ⟨Below.refl _ w, ret_bool R.out.symm⟩
theorem small_iff (c : UInt8) : small.contains c = (decide (97 ≤ c.toNat) && decide (c.toNat ≤ 122)) := by
  have h : ∀ c : Fin 256, small.contains c.val.toUInt8 = (decide (97 ≤ c.val) && decide (c.val ≤ 122)) := by decide +kernel
  have := h ⟨c.toNat, c.toNat_lt⟩
  simpa using this
set_option maxRecDepth 100000 in
set_option maxHeartbeats 2000000 in
theorem small_any (s : Str) (w : World) (hs : s.length ≤ 140737488350000) : Calls Tryz.prog 57 #[.string (B s)] w fun e w' => Ext w w' ∧ e = .returned (.bool (formS s)) := by
  have z1 : (B s).size = s.length := rfl
  go_enter Tryz.func57, Tryz.ntmps57
  go_wp2
  go_loopw [3] (fun i wr => ∃ n : Nat, n ≤ s.length ∧ i = .int .i64 n ∧ Ext w wr ∧ ∀ c ∈ s.take n, small.contains c = true) (fun i _ => s.length - (intOf i).toNat)
  case atStart => exact ⟨0, Nat.zero_le _, rfl, Below.refl _ w, by simp⟩
  case round =>
    rename_i hrel
    obtain ⟨n, hn, rfl, hb, hall⟩ := hrel
    by_cases hnn : n < s.length
    · have hx : s[n]? = some s[n] := List.getElem?_eq_getElem hnn
      have htk : s.take (n + 1) = s.take n ++ [s[n]] := (List.take_append_getElem hnn).symm
      have hmem := List.getElem_mem hnn
      generalize s[n] = c at hx htk hmem
      have q1 : ∀ h : n < (B s).size, (B s)[n]'h = c := fun h => (List.getElem?_eq_some_iff.1 hx).2
      have HC := Lib.hid (small_iff c)
      have HALL : Hid (small.contains c = true → ∀ x ∈ s.take (n + 1), small.contains x = true) := Lib.hid (fun h x hxm => by
        rw [htk] at hxm
        rcases List.mem_append.1 hxm with h1 | h1
        · exact hall x h1
        · simp only [List.mem_singleton] at h1; subst h1; exact h)
      have HBAD : Hid (small.contains c = false → formS s = false) := Lib.hid (fun h => by
        unfold formS
        rw [Bool.and_eq_false_iff]
        right
        rw [List.all_eq_false]
        exact ⟨c, hmem, by simpa using h⟩)
      clear hx htk hmem hall
      by_cases h1 : (97 : Int) ≤ c.toNat
      · by_cases h2 : (c.toNat : Int) ≤ 122
        · go_wp2
          go_roundw
          case rel => exact ⟨n + 1, by omega, by simp, hb, HALL.out (by rw [HC.out]; simp; omega)⟩
          case measure => simp [intOf]; omega
        · have R := Lib.hid (HBAD.out (by rw [HC.out]; simp; omega))
          go_wp2
          go_ret
          exact ⟨hb, ret_bool R.out.symm⟩
      · have R := Lib.hid (HBAD.out (by rw [HC.out]; simp; omega))
        go_wp2
        go_ret
        exact ⟨hb, ret_bool R.out.symm⟩
    · have hnl : n = s.length := by omega
      subst hnl
      rw [List.take_length] at hall
      have R : Hid (formS s = decide (s.length ≤ 3)) := Lib.hid (by unfold formS; rw [List.all_eq_true.2 hall, Bool.and_true])
      clear hall
      go_wp2
      go_ret
      exact ⟨hb, ret_bool (by rw [R.out]; exact decide_eq_decide.2 (by omega))⟩
def ruleVal (r : Rul) : Value := .agg #[.int .i64 r.script, .string (B r.frm), .string (B r.to), .int .i64 r.cost]
set_option maxRecDepth 100000 in
theorem Twice_any (a b : Rul) (w : World) : Calls Tryz.prog 58 #[ruleVal a, ruleVal b] w fun e w' => Ext w w' ∧ e = .returned (.bool (decide (a.key = b.key))) := by
  obtain ⟨a1, a2, a3, a4⟩ := a
  obtain ⟨b1, b2, b3, b4⟩ := b
  have hX := fun o1 o2 => (Ext.new w o1).alloc o2
  have HX := Lib.hid hX
  clear hX
  unfold ruleVal Rul.key
  dsimp only
  by_cases h1 : a1 = b1
  · by_cases h2 : a2 = b2
    · by_cases h3 : a3 = b3
      · subst h1; subst h2; subst h3
        go_enter Tryz.func58, Tryz.ntmps58
        go_wp2
        go_ret
        exact ⟨HX.out _ _, ret_bool (by simp)⟩
      · have H3 := Lib.hid h3
        subst h1; subst h2
        go_enter Tryz.func58, Tryz.ntmps58
        go_wp2
        go_ret
        exact ⟨HX.out _ _, ret_bool (by simp [H3.out])⟩
    · have H2 := Lib.hid h2
      subst h1
      go_enter Tryz.func58, Tryz.ntmps58
      go_wp2
      go_ret
      exact ⟨HX.out _ _, ret_bool (by simp [H2.out])⟩
  · have H1 := Lib.hid h1
    go_enter Tryz.func58, Tryz.ntmps58
    go_wp2
    go_ret
    exact ⟨HX.out _ _, ret_bool (by simp [H1.out])⟩
end Go.Proofs.YtkkbkhcapogobaaGreatDoor
