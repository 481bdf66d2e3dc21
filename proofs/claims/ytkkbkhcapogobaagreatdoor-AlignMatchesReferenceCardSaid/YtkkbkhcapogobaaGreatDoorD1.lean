/- Contracts: rewrite.checkDrops, Valid. -/
import Derived.Test.YtkkbkhcapogobaaGreatDoorD0
namespace Go.Proofs.YtkkbkhcapogobaaGreatDoor
open Go Go.RowKit Go.Lib Go.Proofs S Go.Shelf Go.Maps
set_option linter.unusedVariables false
set_option linter.unusedSimpArgs false

set_option maxRecDepth 100000 in
theorem checkDrops_any (l : List Drp) (A : Option Addr) (c : Nat) (m : Nat) (w : World) (hr : ElemsAt w A 3 (l.map dropVals)) (hT : Tabs w) (ht : ∀ d ∈ l, DropFit d) (hl : l.length ≤ 140737488351232) :
    Calls Tryz.prog 44 #[.slice A l.length c, .int .i64 m] w fun e w' => e = .returned (.bool (dropsS l m)) ∧ Ext w w' := by
  have hmm := @run_makeMap Tryz.prog
  go_enter Tryz.func44, Tryz.ntmps44
  go_wp2
  go_loopw [12] (fun i wr => ∃ k : Nat, SoFar Drp.key (dropOK m) l k ∧ i = .int .i64 k ∧ Ext w wr ∧ Seen wr w.heap.size ((l.take k).map Drp.key)) (fun i _ => l.length - (intOf i).toNat)
  case atStart => exact ⟨0, SoFar.zero _ _ _, rfl, ((Below.refl _ w).alloc (Nat.le_refl _) _), Seen.new w⟩
  case round =>
    rename_i hrel
    obtain ⟨k, hk, rfl, hb, hs⟩ := hrel
    have hkl := hk.le
    by_cases hkk : k < l.length
    · have hx : l[k]? = some l[k] := List.getElem?_eq_getElem hkk
      have hfit := ht _ (List.getElem_mem hkk)
      have hstep := hk.step hkk
      have hbad := hk.bad hkk
      obtain ⟨a, rfl, hcells⟩ := (hr.ext hb).elem hx
      have htake : l.take (k + 1) = l.take k ++ [l[k]] := (List.take_append_getElem hkk).symm
      generalize l[k] = d at hx hfit hstep hbad hcells htake
      obtain ⟨ds, dw, dc⟩ := d
      obtain ⟨f1, f2, f3⟩ := hfit
      have hE : tiny ([] : Str) := by simp [tiny]
      have hS2 : ∀ o1 o2, Seen ((wr.alloc o1).alloc o2) w.heap.size ((l.take k).map Drp.key) := fun o1 o2 => (hs.ext ((Below.refl _ wr).alloc (Nat.le_refl _) o1)).ext ((Below.refl _ _).alloc (Nat.le_refl _) o2)
      have hlook : ∀ o1 o2, (Instr.lookup 94 (.map (some w.heap.size)) (.agg #[.int .i64 ds, .string (B dw), .string ⟨#[]⟩]) false).run Tryz.prog ((wr.alloc o1).alloc o2) = .ok (.bool (decide (Drp.key ⟨ds, dw, dc⟩ ∈ (l.take k).map Drp.key))) ((wr.alloc o1).alloc o2) := fun o1 o2 => (hS2 o1 o2).look (k := (ds, dw, [])) f1 f2 hE
      have hupd : ∀ o1 o2 w1, Ext ((wr.alloc o1).alloc o2) w1 → ∃ es clock, (Instr.mapUpdate 94 (.map (some w.heap.size)) (.agg #[.int .i64 ds, .string (B dw), .string ⟨#[]⟩]) (.bool true)).run Tryz.prog w1 = .ok () (w1.putObj w.heap.size (.map es clock)) ∧ Seen (w1.putObj w.heap.size (.map es clock)) w.heap.size ((l.take (k + 1)).map Drp.key) := fun o1 o2 w1 hb1 => by
        have := ((hS2 o1 o2).ext hb1).update (k := (ds, dw, [])) f1 f2 hE
        rw [htake, List.map_append]
        exact this
      have hcell : ∀ cs1 t1 cs2 t2 w1, Ext ((wr.alloc (.cells cs1 t1)).alloc (.cells cs2 t2)) w1 → (∀ i, w1.cell? ⟨wr.heap.size, i, none⟩ = cs1[i]?) ∧ (∀ i, w1.cell? ⟨wr.heap.size + 1, i, none⟩ = cs2[i]?) ∧ Ext w w1 ∧ ∀ o, Ext w (w1.putObj w.heap.size o) := fun cs1 t1 cs2 t2 w1 h => by
        have h1 := cells_new2 h
        have h2 := Ext.trans hb h1.2.2
        exact ⟨h1.1, h1.2.1, h2, fun o => h2.put (Nat.le_refl _) o⟩
      have hfold : ∀ o1 o2, Calls Tryz.prog 42 #[.int .i64 ds, .string (B dw), .int .i64 m] ((wr.alloc o1).alloc o2) fun e w' => e = .returned (.bool (foldedS ds dw m)) ∧ Ext ((wr.alloc o1).alloc o2) w' := fun o1 o2 => folded_any ds (B dw) m _ f2 (hT.below (Ext.trans hb (Ext.trans ((Below.refl _ wr).alloc (Nat.le_refl _) o1) ((Below.refl _ _).alloc (Nat.le_refl _) o2))))
      have hcost := isCost_any dc
      have hok : dropOK m ⟨ds, dw, dc⟩ = (foldedS ds dw m && costS dc) := rfl
      obtain ⟨c0, c1, c2⟩ := elem3 hcells
      have HK := Lib.hid hk
      have hstep' : decide (Drp.key ⟨ds, dw, dc⟩ ∈ (l.take k).map Drp.key) = false → _ := fun h => hstep (of_decide_eq_false h)
      have hbad' : decide (Drp.key ⟨ds, dw, dc⟩ ∈ (l.take k).map Drp.key) = true ∨ _ → _ := fun h => hbad (h.imp of_decide_eq_true id)
      have HSTEP := Lib.hid hstep'
      have HBAD := Lib.hid hbad'
      rw [hok] at HSTEP HBAD
      have HUPD := Lib.hid hupd
      have HFOLD := Lib.hid hfold
      have HCOST := Lib.hid hcost
      have HCELL := Lib.hid hcell
      clear hk hstep hbad hstep' hbad' hcells htake hupd hfold hcost hok hS2 hx hcell hE f1 f2 f3
      generalize decide (Drp.key ⟨ds, dw, dc⟩ ∈ (l.take k).map Drp.key) = b1 at hlook HSTEP HBAD
      generalize foldedS ds dw m = b2 at HFOLD HSTEP HBAD
      generalize costS dc = b3 at HCOST HSTEP HBAD
      cases b1
      case true =>
        have R : Hid (dropsS l m = false ∧ Ext w wr) := Lib.hid ⟨by unfold dropsS; rw [HBAD.out (.inl rfl)]; rfl, hb⟩
        clear HSTEP HBAD HUPD HFOLD HCOST HCELL
        go_wp2
        go_ret
        exact ⟨ret_bool R.out.1.symm, (R.out.2.alloc _).alloc _⟩
      case false =>
        cases b2
        case false =>
          have R : Hid (dropsS l m = false) := Lib.hid (by unfold dropsS; rw [HBAD.out (.inr rfl)]; rfl)
          go_wp2_with (go_at_call 42; (with_reducible refine (HFOLD.out _ _).mono ?_); rintro e w1 ⟨rfl, hb1⟩)
          go_ret
          exact ⟨ret_bool R.out.symm, (HCELL.out _ _ _ _ _ hb1).2.2.1⟩
        case true =>
          cases b3
          case false =>
            have R : Hid (dropsS l m = false) := Lib.hid (by unfold dropsS; rw [HBAD.out (.inr rfl)]; rfl)
            go_wp2_with (first | (go_at_call 42; (with_reducible refine (HFOLD.out _ _).mono ?_); rintro e w1 ⟨rfl, hb1⟩; obtain ⟨k1, k2, k3, k4⟩ := HCELL.out _ _ _ _ _ hb1) | (go_at_call 41; (with_reducible refine (HCOST.out _).mono ?_); rintro e w2 ⟨rfl, rfl⟩))
            go_ret
            exact ⟨ret_bool R.out.symm, k3⟩
          case true =>
            go_wp2_with (first | (go_at_call 42; (with_reducible refine (HFOLD.out _ _).mono ?_); rintro e w1 ⟨rfl, hb1⟩; obtain ⟨k1, k2, k3, k4⟩ := HCELL.out _ _ _ _ _ hb1; obtain ⟨es, clock, hup, hs1⟩ := HUPD.out _ _ _ hb1) | (go_at_call 41; (with_reducible refine (HCOST.out _).mono ?_); rintro e w2 ⟨rfl, rfl⟩))
            go_roundw
            case rel => exact ⟨k + 1, HSTEP.out (by first | rfl | trivial) (by first | rfl | trivial), by simp, k4 _, hs1⟩
            case measure => simp [intOf]; omega
    · have hkl2 : k = l.length := by omega
      subst hkl2
      have R : Hid (dropsS l m = decide (l.length ≤ 40)) := Lib.hid (by unfold dropsS; rw [hk.done]; rfl)
      clear hs hk
      go_wp2
      go_ret
      exact ⟨ret_bool (by rw [R.out]; exact decide_eq_decide.2 (by omega)), hb⟩
end Go.Proofs.YtkkbkhcapogobaaGreatDoor
