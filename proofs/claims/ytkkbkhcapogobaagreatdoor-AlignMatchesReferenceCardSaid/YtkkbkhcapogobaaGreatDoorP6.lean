/- Contracts: ref11's Letters, Fits, begins. -/
import Derived.Test.YtkkbkhcapogobaaGreatDoorP5
import Derived.Test.YtkkbkhcapogobaaGreatDoorM0
namespace Go.Proofs.YtkkbkhcapogobaaGreatDoor
open Go Go.RowKit Go.Lib Go.Proofs S Go.Shelf Go.Maps Go.WideMaps
set_option linter.unusedVariables false
set_option linter.unusedSimpArgs false

namespace S
/-- The letters of a folded word, if it is one. -/
def wordL (k : Int) (s : Str) : Option (List Str) := match foldS k s with
  | none => none
  | some f => lettersS k f
end S
set_option maxRecDepth 100000 in
theorem ref11Letters_any (k : Int) (s : Str) (w : World) (hs : s.length ≤ 140737488350000) :
    Calls Tryz.prog 19 #[.int .i64 k, .string (B s)] w fun e w' => Ext w w' ∧ ((wordL k s = none ∧ e = .returned (.tuple #[.slice none 0 0, .bool false])) ∨
      ∃ A q ls, wordL k s = some ls ∧ e = .returned (.tuple #[.slice A ls.length q, .bool true]) ∧ w'.ownsRow w.heap.size 9 1 (.slice A ls.length q) ls.length (strVals (ls.map B))) := by
  have HF := Lib.hid (refFold_any k s w hs)
  have HLE : Hid (∀ f, foldS k s = some f → f.length ≤ 140737488350000) := Lib.hid (fun f h => by rw [fold_len h]; exact hs)
  go_enter Tryz.func19, Tryz.ntmps19
  go_upto_region 2 with (go_at_call 32; (with_reducible refine (HF.out).mono ?_); rintro e w1 ⟨hb1, (⟨h1, rfl⟩ | ⟨f, h1, rfl⟩)⟩)
  · have R : Hid (wordL k s = none) := Lib.hid (by unfold wordL; rw [h1])
    clear h1 HLE
    go_wp2
    go_ret2
    exact ⟨hb1, .inl ⟨R.out, rfl⟩⟩
  · have HL := Lib.hid (refLetters_any k f w1 (HLE.out f h1))
    have hbw := hb1.size
    have R1 : Hid (wordL k s = lettersS k f) := Lib.hid (by unfold wordL; rw [h1])
    clear h1 HLE
    go_upto_region 5 with (go_at_call 33; (with_reducible refine (HL.out).mono ?_); rintro e w2 ⟨hb2, (⟨h2, rfl⟩ | ⟨v, ls, h2, rfl, hown⟩)⟩)
    · have R : Hid (wordL k s = none) := Lib.hid (by rw [R1.out, h2])
      clear h2
      go_wp2
      go_ret2
      exact ⟨Ext.trans hb1 hb2, .inl ⟨R.out, rfl⟩⟩
    · have R : Hid (wordL k s = some ls) := Lib.hid (by rw [R1.out, h2])
      have HO := Lib.hid (ownsRow_lower hown hbw)
      obtain ⟨A, q, rfl⟩ := own_slice hown
      clear h2 hown
      go_wp2
      go_ret2
      exact ⟨Ext.trans hb1 hb2, .inr ⟨A, q, ls, R.out, rfl, HO.out⟩⟩
abbrev strRows (ls : List Str) : List (List Value) := ls.map fun x => [Value.string (B x)]
theorem str_flat (ls : List Str) : strVals (ls.map B) = (strRows ls).flatten := by
  unfold strVals strRows
  induction ls with
  | nil => rfl
  | cons x xs ih => simp only [List.map_cons, List.flatten_cons, ih]; rfl
theorem own_strs {w : World} {base : Nat} {v : Value} {ls : List Str} (h : w.ownsRow base 9 1 v ls.length (strVals (ls.map B))) : ∃ (A : Option Addr) (q : Nat), v = .slice A ls.length q ∧ ElemsAt w A 1 (strRows ls) := by
  rw [str_flat] at h
  have := own_rows (rows := strRows ls) (by intro r hr; obtain ⟨x, _, rfl⟩ := List.mem_map.1 hr; rfl) (by rw [List.length_map]; exact h)
  rw [List.length_map] at this
  exact this
theorem str_at {w : World} {A : Option Addr} {ls : List Str} (h : ElemsAt w A 1 (strRows ls)) {k : Nat} {x : Str} (hk : ls[k]? = some x) : ∃ a, A = some a ∧ w.cell? (a.add k) = some (.string (B x)) := by
  obtain ⟨a, ha, hc⟩ := ElemsAt.elem (f := fun x => [Value.string (B x)]) h hk
  exact ⟨a, ha, by have := hc 0 _ rfl; rwa [Addr.add_zero, Nat.mul_one] at this⟩
namespace S
def fitsR (k : Int) (frm : Str) (ls : List Str) (a : Nat) : Option Nat := match lettersS k frm with
  | none => none
  | some f => if fitsL ls f a then some f.length else none
end S
theorem fitsL_false {ls f : List Str} {a j : Nat} {x y : Str} (h1 : ls[a + j]? = some x) (h2 : f[j]? = some y) (hxy : x ≠ y) : fitsL ls f a = false := by
  unfold fitsL
  rw [Bool.and_eq_false_iff]
  right
  rw [decide_eq_false_iff_not]
  intro h
  have h3 : ((ls.drop a).take f.length)[j]? = f[j]? := by rw [h]
  have hj := (List.getElem?_eq_some_iff.1 h2).1
  rw [List.getElem?_take_of_lt hj, List.getElem?_drop, h1, h2] at h3
  exact hxy (Option.some.inj h3)
theorem fitsL_true {ls f : List Str} {a : Nat} (hle : a + f.length ≤ ls.length) (h : ∀ j x y, j < f.length → ls[a + j]? = some x → f[j]? = some y → x = y) : fitsL ls f a = true := by
  unfold fitsL
  rw [Bool.and_eq_true]
  refine ⟨decide_eq_true hle, decide_eq_true ?_⟩
  apply List.ext_getElem?
  intro j
  by_cases hj : j < f.length
  · rw [List.getElem?_take_of_lt hj, List.getElem?_drop]
    have h1 : ls[a + j]? = some (ls[a + j]'(by omega)) := List.getElem?_eq_getElem (by omega)
    have h2 : f[j]? = some f[j] := List.getElem?_eq_getElem hj
    rw [h1, h2, h j _ _ hj h1 h2]
  · rw [List.getElem?_take_eq_none (by omega), List.getElem?_eq_none (by omega)]
def fitsE (o : Option Nat) : Ending := match o with
  | none => .returned (.tuple #[.int .i64 0, .bool false])
  | some n => .returned (.tuple #[.int .i64 n, .bool true])
set_option maxRecDepth 100000 in
set_option maxHeartbeats 4000000 in
theorem ref11Fits_any (k : Int) (frm : Str) (ls : List Str) (A : Option Addr) (q a : Nat) (w : World) (hf : frm.length ≤ 140737488350000) (hl : ElemsAt w A 1 (strRows ls)) (hn : ls.length ≤ 1000) (ha : a ≤ 1000) :
    Calls Tryz.prog 35 #[.int .i64 k, .string (B frm), .slice A ls.length q, .int .i64 a] w fun e w' => Ext w w' ∧ e = fitsE (fitsR k frm ls a) := by
  have HL := Lib.hid (refLetters_any k frm w hf)
  go_enter Tryz.func35, Tryz.ntmps35
  go_upto_region 2 with (go_at_call 33; (with_reducible refine (HL.out).mono ?_); rintro e w1 ⟨hb1, (⟨h1, rfl⟩ | ⟨v, f, h1, rfl, hown⟩)⟩)
  · have R : Hid (fitsR k frm ls a = none) := Lib.hid (by unfold fitsR; rw [h1])
    clear h1
    go_wp2
    go_ret2
    exact ⟨hb1, by rw [R.out]; rfl⟩
  · have hfs := letters_size h1
    have R1 : Hid (fitsR k frm ls a = if fitsL ls f a then some f.length else none) := Lib.hid (by unfold fitsR; rw [h1])
    obtain ⟨F, fq, rfl, hF⟩ := own_strs hown
    obtain ⟨hf1, hf2⟩ := hfs
    clear h1 hown
    have w1' : IntKind.i64.wrap ((a : Int) + f.length) = a + f.length := wrap_small (by omega) (by omega)
    by_cases hle : a + f.length ≤ ls.length
    · have hgt : ¬ ((ls.length : Int) < a + f.length) := by omega
      go_wp2
      go_loopw [12] (fun v wr => ∃ j : Nat, j ≤ f.length ∧ v = .int .i64 j ∧ Ext w1 wr ∧ ∀ i x y, i < j → ls[a + i]? = some x → f[i]? = some y → x = y) (fun v _ => f.length - (intOf v).toNat)
      case atStart => exact ⟨0, Nat.zero_le _, rfl, Below.refl _ _, fun _ _ _ h => absurd h (Nat.not_lt_zero _)⟩
      case round =>
        rename_i hrel
        obtain ⟨j, hj, rfl, hb, hall⟩ := hrel
        by_cases hjj : j < f.length
        · have hx : ls[a + j]? = some (ls[a + j]'(by omega)) := List.getElem?_eq_getElem (by omega)
          have hy : f[j]? = some f[j] := List.getElem?_eq_getElem hjj
          have hlt : a + j < ls.length := by omega
          generalize ls[a + j] = x at hx
          generalize f[j] = y at hy
          obtain ⟨a1, rfl, c1⟩ := str_at (hl.ext (Ext.trans hb1 hb)) hx
          obtain ⟨a2, rfl, c2⟩ := str_at (hF.ext hb) hy
          have w2 : IntKind.i64.wrap ((a : Int) + j) = ((a + j : Nat) : Int) := by rw [wrap_small (by omega) (by omega)]; rfl
          by_cases hxy : x = y
          · subst hxy
            have HALL : Hid (∀ i x y, i < j + 1 → ls[a + i]? = some x → f[i]? = some y → x = y) := Lib.hid (fun i u v hi hu hv => by
              by_cases hij : i = j
              · subst hij; rw [hx] at hu; rw [hy] at hv; cases hu; cases hv; rfl
              · exact hall i u v (by omega) hu hv)
            clear hall hx hy
            go_wp2
            go_quiet (fail)
            go_wp2
            go_roundw
            case rel => exact ⟨j + 1, by omega, by simp, Ext.trans hb (below_drewN _ _), HALL.out⟩
            case measure => simp [intOf]; omega
          · have R : Hid (fitsR k frm ls a = none) := Lib.hid (by rw [R1.out, fitsL_false hx hy hxy]; rfl)
            have hne : (x == y) = false := beq_eq_false_iff_ne.2 hxy
            clear hall hx hy
            go_wp2
            go_quiet (fail)
            go_wp2
            go_ret2
            exact ⟨Ext.trans hb1 (Ext.trans hb (below_drewN _ _)), by rw [R.out]; rfl⟩
        · have hjl : j = f.length := by omega
          subst hjl
          have R : Hid (fitsR k frm ls a = some f.length) := Lib.hid (by rw [R1.out, fitsL_true hle hall]; rfl)
          clear hall
          go_wp2
          go_ret2
          exact ⟨Ext.trans hb1 hb, by rw [R.out]; rfl⟩
    · have hgt : (ls.length : Int) < a + f.length := by omega
      have R : Hid (fitsR k frm ls a = none) := Lib.hid (by rw [R1.out]; unfold fitsL; rw [decide_eq_false hle]; rfl)
      go_wp2
      go_ret2
      exact ⟨hb1, by rw [R.out]; rfl⟩
theorem prefix_take : ∀ (p s : Str), p.isPrefixOf s = (decide (p.length ≤ s.length) && decide (s.take p.length = p))
  | [], s => by simp
  | x :: xs, [] => by simp
  | x :: xs, y :: ys => by
    rw [show (x :: xs).isPrefixOf (y :: ys) = (x == y && xs.isPrefixOf ys) from rfl, prefix_take xs ys]
    by_cases h : x = y
    · subst h; simp
    · have h2 : ¬ y = x := fun h' => h h'.symm
      simp [h, h2]
set_option maxRecDepth 100000 in
theorem begins_any (s p : Str) (w : World) (hs : s.length ≤ 1000) (hp : p.length ≤ 1000) :
    Calls Tryz.prog 36 #[.string (B s), .string (B p)] w fun e w' => Ext w w' ∧ e = .returned (.bool (p.isPrefixOf s)) := by
  have z1 : (B s).size = s.length := rfl
  have z2 : (B p).size = p.length := rfl
  have HP := Lib.hid (prefix_take p s)
  by_cases hle : p.length ≤ s.length
  · have hx : (B s).extract 0 p.length = B (s.take p.length) := by have := extract_B s 0 p.length; simpa using this
    have hcmp : (p.length : Int) ≤ s.length := by omega
    by_cases heq : s.take p.length = p
    · have R : Hid (p.isPrefixOf s = true) := Lib.hid (by rw [HP.out, decide_eq_true hle, decide_eq_true heq]; rfl)
      rw [heq] at hx
      clear heq
      go_enter Tryz.func36, Tryz.ntmps36
      go_wp2
      go_ret
      exact ⟨Below.refl _ w, ret_bool R.out.symm⟩
    · have R : Hid (p.isPrefixOf s = false) := Lib.hid (by rw [HP.out, decide_eq_false heq]; simp)
      have hne : (s.take p.length == p) = false := beq_eq_false_iff_ne.2 heq
      go_enter Tryz.func36, Tryz.ntmps36
      go_wp2
      go_ret
      exact ⟨Below.refl _ w, ret_bool R.out.symm⟩
  · have R : Hid (p.isPrefixOf s = false) := Lib.hid (by rw [HP.out, decide_eq_false hle]; rfl)
    have hcmp : ¬ (p.length : Int) ≤ s.length := by omega
    go_enter Tryz.func36, Tryz.ntmps36
    go_wp2
    go_ret
    exact ⟨Below.refl _ w, ret_bool R.out.symm⟩
end Go.Proofs.YtkkbkhcapogobaaGreatDoor
