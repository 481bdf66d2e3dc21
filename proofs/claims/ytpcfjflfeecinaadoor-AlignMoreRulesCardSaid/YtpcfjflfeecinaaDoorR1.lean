/- Contracts: the laws' helpers: Ints, Same, is, Few, few. -/
import Derived.Test.YtpcfjflfeecinaaDoorR0
import Derived.Deep.QuietTactic
import Derived.BigQuiet
namespace Go.Proofs.YtpcfjflfeecinaaDoor
open Go Go.RowKit Go.Lib Go.Proofs S Go.Shelf Go.Maps Go.WideMaps
set_option linter.unusedVariables false
set_option linter.unusedSimpArgs false

def intRows (l : List Int) : List (List Value) := l.map (fun i => [Value.int .i64 i])
theorem take_more {l m : List Int} {k : Nat} (h : l.take k = m.take k) (hl : k < l.length) (hm : k < m.length) (he : l[k] = m[k]) : l.take (k + 1) = m.take (k + 1) := by
  rw [(List.take_append_getElem hl).symm, (List.take_append_getElem hm).symm, h, he]
theorem take_eq {l m : List Int} (hlen : l.length = m.length) (h : l.take l.length = m.take l.length) : l = m := by
  rw [List.take_length, hlen, List.take_length] at h; exact h
set_option maxRecDepth 100000 in
theorem Ints_any (A A' : Option Addr) (q q' : Nat) (l m : List Int) (w : World) (hl : ElemsAt w A 1 (intRows l)) (hm : ElemsAt w A' 1 (intRows m)) (hs : l.length ≤ Go.maxLen) (hs' : m.length ≤ Go.maxLen) :
    Calls Tryd.prog 24 #[.slice A l.length q, .slice A' m.length q'] w fun e w' => Ext w w' ∧ e = .returned (.bool (decide (l = m))) := by
  unfold Go.maxLen at hs hs'
  by_cases hlen : l.length = m.length
  · have HR : Hid (l.take l.length = m.take l.length → decide (l = m) = true) := Lib.hid (fun h => by simp [take_eq hlen h])
    have HN : Hid (∀ (k : Nat) (x y : Int), l[k]? = some x → m[k]? = some y → x ≠ y → decide (l = m) = false) := Lib.hid (fun k x y h1 h2 hne => by
      refine decide_eq_false ?_
      rintro rfl
      rw [h1] at h2; cases h2; exact hne rfl)
    have hmi : (m.length : Int) = l.length := by rw [hlen]
    rw [← hlen]
    have HLEN := Lib.hid hlen
    clear hlen
    go_enter Tryd.func24, Tryd.ntmps24
    go_wp2
    go_loopw [5] (fun i wr => ∃ k : Nat, k ≤ l.length ∧ l.take k = m.take k ∧ i = .int .i64 k ∧ Ext w wr) (fun i _ => l.length - (intOf i).toNat)
    case atStart => exact ⟨0, Nat.zero_le _, rfl, rfl, Below.refl _ w⟩
    case round =>
      rename_i hrel
      obtain ⟨k, hk, htk, rfl, hb⟩ := hrel
      by_cases hkk : k < l.length
      · have hkm : k < m.length := by rw [← HLEN.out]; exact hkk
        have hx : l[k]? = some l[k] := List.getElem?_eq_getElem hkk
        have hy : m[k]? = some m[k] := List.getElem?_eq_getElem hkm
        obtain ⟨a, rfl, hc⟩ := (hl.ext hb).elem hx
        obtain ⟨a', rfl, hc'⟩ := (hm.ext hb).elem hy
        have HT : Hid (l[k] = m[k] → l.take (k + 1) = m.take (k + 1)) := Lib.hid (take_more htk hkk hkm)
        generalize l[k] = x at hx hc HT
        generalize m[k] = y at hy hc' HT
        have c1 : wr.cell? (a.add k) = some (.int .i64 x) := by have := hc 0 _ rfl; rwa [Addr.add_zero, Nat.mul_one] at this
        have c2 : wr.cell? (a'.add k) = some (.int .i64 y) := by have := hc' 0 _ rfl; rwa [Addr.add_zero, Nat.mul_one] at this
        have HXY := Lib.hid (And.intro hx hy)
        clear hc hc' hx hy htk hkm
        by_cases hxy : x = y
        · skip
          have hxy' : (x == y) = true := by simp [hxy]
          go_wp2
          go_quiet (fail)
          go_wp2
          go_roundw
          case rel => exact ⟨k + 1, by omega, HT.out hxy, by simp, Ext.trans hb (below_drewN _ _)⟩
          case measure => simp [intOf]; omega
        · skip
          go_wp2
          go_quiet (fail)
          go_wp2
          go_ret
          exact ⟨Ext.trans hb (below_drewN _ _), ret_bool (HN.out k x y HXY.out.1 HXY.out.2 hxy).symm⟩
      · have hkl : k = l.length := by omega
        have R : Hid (decide (l = m) = true) := Lib.hid (HR.out (by rw [← hkl]; exact htk))
        clear htk
        go_wp2
        go_ret
        exact ⟨hb, ret_bool R.out.symm⟩
  · have R : Hid (decide (l = m) = false) := Lib.hid (decide_eq_false (fun h => hlen (by rw [h])))
    go_enter Tryd.func24, Tryd.ntmps24
    go_wp2
    go_ret
    exact ⟨Below.refl _ w, ret_bool R.out.symm⟩

def DerFit (d : Der) : Prop := d.left.length ≤ Go.maxLen ∧ d.right.length ≤ Go.maxLen
set_option maxRecDepth 100000 in
theorem Same_any (d d' : Der) (A4 A5 B4 B5 : Option Addr) (q4 q5 p4 p5 : Nat) (w : World) (h1 : ElemsAt w A4 1 (intRows d.left)) (h2 : ElemsAt w A5 1 (intRows d.right)) (h3 : ElemsAt w B4 1 (intRows d'.left)) (h4 : ElemsAt w B5 1 (intRows d'.right)) (hf : DerFit d) (hf' : DerFit d') :
    Calls Tryd.prog 12 #[derVal d.cost A4 d.left.length q4 A5 d.right.length q5 d.form, derVal d'.cost B4 d'.left.length p4 B5 d'.right.length p5 d'.form] w fun e w' => Ext w w' ∧ e = .returned (.bool (decide (d = d'))) := by
  obtain ⟨c, l, r, f⟩ := d
  obtain ⟨c', l', r', f'⟩ := d'
  dsimp only [DerFit] at *
  have H1 : Hid (∀ w', Ext w w' → Calls Tryd.prog 24 #[.slice A4 l.length q4, .slice B4 l'.length p4] w' fun e w'' => Ext w' w'' ∧ e = .returned (.bool (decide (l = l')))) := Lib.hid (fun w' h => Ints_any A4 B4 q4 p4 l l' w' (h1.ext h) (h3.ext h) hf.1 hf'.1)
  have H2 : Hid (∀ w', Ext w w' → Calls Tryd.prog 24 #[.slice A5 r.length q5, .slice B5 r'.length p5] w' fun e w'' => Ext w' w'' ∧ e = .returned (.bool (decide (r = r')))) := Lib.hid (fun w' h => Ints_any A5 B5 q5 p5 r r' w' (h2.ext h) (h4.ext h) hf.2 hf'.2)
  have hd : decide ((⟨c, l, r, f⟩ : Der) = ⟨c', l', r', f'⟩) = (decide (c = c') && decide (f = f') && decide (l = l') && decide (r = r')) := by
    rw [Bool.eq_iff_iff]
    simp only [decide_eq_true_eq, Bool.and_eq_true, Der.mk.injEq]
    constructor
    · rintro ⟨h1, h2, h3, h4⟩; exact ⟨⟨⟨h1, h4⟩, h2⟩, h3⟩
    · rintro ⟨⟨⟨h1, h4⟩, h2⟩, h3⟩; exact ⟨h1, h2, h3, h4⟩
  rw [hd]
  clear hd h1 h2 h3 h4 hf hf'
  have hx2 : ∀ o1 o2, Ext w ((w.alloc o1).alloc o2) := fun o1 o2 => (Ext.new w o1).alloc o2
  have HX := Lib.hid hx2
  have hbx : ∀ cs1 t1 cs2 t2 w1, Ext ((w.alloc (.cells cs1 t1)).alloc (.cells cs2 t2)) w1 → (∀ n, w1.cell? ⟨w.heap.size, n, none⟩ = cs1[n]?) ∧ (∀ n, w1.cell? ⟨w.heap.size + 1, n, none⟩ = cs2[n]?) ∧ Ext w w1 := fun cs1 t1 cs2 t2 w1 h => ⟨(cells_new2 h).1, (cells_new2 h).2.1, (cells_new2 h).2.2⟩
  have HBX := Lib.hid hbx
  clear hx2 hbx
  generalize decide (l = l') = bl at H1 ⊢
  generalize decide (r = r') = br at H2 ⊢
  unfold derVal
  by_cases hc : c = c'
  · skip
    by_cases hf : f = f'
    · subst hc
      subst hf
      cases bl
      case false =>
        go_enter Tryd.func12, Tryd.ntmps12
        go_wp2_with (go_at_call 24; (with_reducible refine (H1.out _ (HX.out _ _)).mono ?_); rintro e w1 ⟨hb1, rfl⟩; obtain ⟨u1, u2, u3⟩ := HBX.out _ _ _ _ _ hb1)
        go_ret
        exact ⟨u3, ret_bool (by simp)⟩
      case true =>
        go_enter Tryd.func12, Tryd.ntmps12
        go_wp2_with (first | (go_at_call 24; (with_reducible refine (H1.out _ (HX.out _ _)).mono ?_); rintro e w1 ⟨hb1, rfl⟩; obtain ⟨u1, u2, u3⟩ := HBX.out _ _ _ _ _ hb1) | (go_at_call 24; (with_reducible refine (H2.out _ u3).mono ?_); rintro e w2 ⟨hb2, rfl⟩; obtain ⟨v1, v2, v3⟩ := HBX.out _ _ _ _ _ (Ext.trans hb1 hb2)))
        go_ret
        exact ⟨v3, ret_bool (by simp)⟩
    · have HF := Lib.hid (decide_eq_false hf)
      subst hc
      go_enter Tryd.func12, Tryd.ntmps12
      go_wp2
      go_ret
      exact ⟨HX.out _ _, ret_bool (by simp [HF.out])⟩
  · have HC := Lib.hid (decide_eq_false hc)
    go_enter Tryd.func12, Tryd.ntmps12
    go_wp2
    go_ret
    exact ⟨HX.out _ _, ret_bool (by simp [HC.out])⟩
end Go.Proofs.YtpcfjflfeecinaaDoor
