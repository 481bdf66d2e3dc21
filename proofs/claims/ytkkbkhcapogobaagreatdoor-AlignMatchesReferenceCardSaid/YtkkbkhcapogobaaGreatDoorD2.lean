/- Contract: rewrite.Valid. -/
import Derived.Test.YtkkbkhcapogobaaGreatDoorD1
namespace Go.Proofs.YtkkbkhcapogobaaGreatDoor
open Go Go.RowKit Go.Lib Go.Proofs S Go.Shelf Go.Maps
set_option linter.unusedVariables false
set_option linter.unusedSimpArgs false

theorem cells_new1 {w w1 : World} {cs1 : Array Value} {t1 : TypeId} {m1 : Nat × Nat} (h : Ext (w.alloc (.cells cs1 t1 m1)) w1) :
    (∀ i, w1.cell? ⟨w.heap.size, i, none⟩ = cs1[i]?) ∧ Ext w w1 :=
  ⟨cell_of (ty := t1) (m := m1) (by rw [h.block _ (by simp)]; exact World.alloc_heap_new w _), Ext.trans (Ext.new w _) h⟩

def headS (t : Tab) : Bool := decide (t.rules ≠ []) && decide (t.rules.length ≤ 80) && costS t.drop && costS t.order && costS t.initial
theorem validS_head {t : Tab} (h : headS t = false) : validS t = false := by unfold headS at h; unfold validS; rw [h]; rfl
theorem validS_rest {t : Tab} (h : headS t = true) : validS t = ((distinctB (t.rules.map Rul.key) && t.rules.all ruleOK) && (dropsS t.drops 12 && dropsS t.ends 4)) := by unfold headS at h; unfold validS; rw [h]; simp [Bool.and_assoc]

set_option maxRecDepth 100000 in
set_option maxHeartbeats 4000000 in
/-- rewrite.Valid. -/
theorem Valid_any (A1 A2 A3 : Option Addr) (q1 q2 q3 : Nat) (t : Tab) (w : World) (ht : TabAt w A1 A2 A3 t) (hT : Tabs w) :
    Calls Tryz.prog 26 #[tabVal A1 q1 A2 q2 A3 q3 t] w fun e w' => e = .returned (.bool (validS t)) ∧ Ext w w' := by
  have hmm := @run_makeMap Tryz.prog
  unfold tabVal
  obtain ⟨hrules, hdrops, hends, hrfit, hdfit, hefit, hrlen, hdlen, helen⟩ := ht
  have HV := Lib.hid (@validS_head t)
  have HV2 := Lib.hid (@validS_rest t)
  have hhead : headS t = (decide (t.rules ≠ []) && decide (t.rules.length ≤ 80) && costS t.drop && costS t.order && costS t.initial) := rfl
  have hc1 := isCost_any t.drop
  have hc2 := isCost_any t.order
  have hc3 := isCost_any t.initial
  have hd1 : ∀ w', Ext w w' → Calls Tryz.prog 44 #[.slice A2 t.drops.length q2, .int .i64 12] w' fun e w'' => e = .returned (.bool (dropsS t.drops 12)) ∧ Ext w' w'' := fun w' hb => checkDrops_any t.drops A2 q2 12 w' (hdrops.ext hb) (hT.below hb) hdfit hdlen
  have hd2 : ∀ w', Ext w w' → Calls Tryz.prog 44 #[.slice A3 t.ends.length q3, .int .i64 4] w' fun e w'' => e = .returned (.bool (dropsS t.ends 4)) ∧ Ext w' w'' := fun w' hb => checkDrops_any t.ends A3 q3 4 w' (hends.ext hb) (hT.below hb) hefit helen
  have HD1 := Lib.hid hd1
  have HD2 := Lib.hid hd2
  have HHEAD := Lib.hid hhead
  have HC1 := Lib.hid hc1
  have HC2 := Lib.hid hc2
  have HC3 := Lib.hid hc3
  clear hd1 hd2 hc1 hc2 hc3 hhead hdrops hends hdfit hefit
  have HNE : Hid (decide (t.rules ≠ []) = !decide (t.rules.length = 0)) := Lib.hid (by cases t.rules <;> simp)
  generalize validS t = V at HV HV2 ⊢
  generalize headS t = hd at HV HV2 HHEAD
  generalize costS t.drop = k1 at HC1 HHEAD
  generalize costS t.order = k2 at HC2 HHEAD
  generalize costS t.initial = k3 at HC3 HHEAD
  generalize dropsS t.drops 12 = D1 at HD1 HV2
  generalize dropsS t.ends 4 = D2 at HD2 HV2
  by_cases h0 : t.rules.length = 0
  · have R : Hid (V = false) := Lib.hid (HV.out (by rw [HHEAD.out, HNE.out, decide_eq_true h0]; rfl))
    clear HHEAD HNE
    rw [h0]
    go_enter Tryz.func26, Tryz.ntmps26
    go_wp2
    go_ret
    exact ⟨ret_bool R.out.symm, Ext.new _ _⟩
  by_cases h80 : 80 < t.rules.length
  · have R : Hid (V = false) := Lib.hid (HV.out (by rw [HHEAD.out, decide_eq_false (p := t.rules.length ≤ 80) (by omega)]; simp))
    have hz : ((t.rules.length : Int) == 0) = false := beq_eq_false_iff_ne.2 (by omega)
    have hz2 : (80 : Int) < t.rules.length := by omega
    clear HHEAD HNE
    go_enter Tryz.func26, Tryz.ntmps26
    go_wp2
    go_ret
    exact ⟨ret_bool R.out.symm, Ext.new _ _⟩
  have hz : ((t.rules.length : Int) == 0) = false := beq_eq_false_iff_ne.2 (by omega)
  have hz2 : ¬ (80 : Int) < t.rules.length := by omega
  have HH2 : Hid (hd = (k1 && k2 && k3)) := Lib.hid (by rw [HHEAD.out, HNE.out, decide_eq_false h0, decide_eq_true (p := t.rules.length ≤ 80) (by omega)]; simp)
  clear HHEAD HNE
  by_cases hk : (k1 && k2 && k3) = false
  · have R : Hid (V = false) := Lib.hid (HV.out (by rw [HH2.out, hk]))
    clear HV HV2 HH2 h0 h80
    cases k1 <;> cases k2 <;> cases k3 <;> (try (cases hk; done))
    all_goals
      go_enter Tryz.func26, Tryz.ntmps26
      go_wp2_with (first | (go_at_call 41; (with_reducible refine (HC1.out _).mono ?_); rintro e w2 ⟨rfl, rfl⟩) | (go_at_call 41; (with_reducible refine (HC2.out _).mono ?_); rintro e w2 ⟨rfl, rfl⟩) | (go_at_call 41; (with_reducible refine (HC3.out _).mono ?_); rintro e w2 ⟨rfl, rfl⟩))
      go_ret
      exact ⟨ret_bool R.out.symm, Ext.new _ _⟩
  · have hk' : k1 = true ∧ k2 = true ∧ k3 = true := by cases k1 <;> cases k2 <;> cases k3 <;> simp_all
    obtain ⟨rfl, rfl, rfl⟩ := hk'
    have HV3 : Hid (V = ((distinctB (t.rules.map Rul.key) && t.rules.all ruleOK) && (D1 && D2))) := Lib.hid (HV2.out HH2.out)
    clear HV HV2 HH2 hk h0 h80
    generalize t.rules = l at *
    go_enter Tryz.func26, Tryz.ntmps26
    go_wp2_with (first | (go_at_call 41; (with_reducible refine (HC1.out _).mono ?_); rintro e w2 ⟨rfl, rfl⟩) | (go_at_call 41; (with_reducible refine (HC2.out _).mono ?_); rintro e w2 ⟨rfl, rfl⟩) | (go_at_call 41; (with_reducible refine (HC3.out _).mono ?_); rintro e w2 ⟨rfl, rfl⟩))
    have hb0 : Ext (w.alloc (.cells #[.slice A1 l.length q1, .slice A2 t.drops.length q2, .slice A3 t.ends.length q3, .int .i64 t.drop, .int .i64 t.order, .int .i64 t.initial] 25)) ((w.alloc (.cells #[.slice A1 l.length q1, .slice A2 t.drops.length q2, .slice A3 t.ends.length q3, .int .i64 t.drop, .int .i64 t.order, .int .i64 t.initial] 25)).alloc (.map #[] 0)) := Ext.new _ _
    have hs0 := Seen.new (w.alloc (.cells #[.slice A1 l.length q1, .slice A2 t.drops.length q2, .slice A3 t.ends.length q3, .int .i64 t.drop, .int .i64 t.order, .int .i64 t.initial] 25))
    rw [World.size_alloc] at hs0
    have hBox : ∀ w1, Ext (w.alloc (.cells #[.slice A1 l.length q1, .slice A2 t.drops.length q2, .slice A3 t.ends.length q3, .int .i64 t.drop, .int .i64 t.order, .int .i64 t.initial] 25)) w1 → (∀ i, w1.cell? ⟨w.heap.size, i, none⟩ = #[Value.slice A1 l.length q1, .slice A2 t.drops.length q2, .slice A3 t.ends.length q3, .int .i64 t.drop, .int .i64 t.order, .int .i64 t.initial][i]?) ∧ Ext w w1 := fun w1 h => cells_new1 h
    have hsz1 : (w.alloc (.cells #[.slice A1 l.length q1, .slice A2 t.drops.length q2, .slice A3 t.ends.length q3, .int .i64 t.drop, .int .i64 t.order, .int .i64 t.initial] 25)).heap.size = w.heap.size + 1 := by simp
    generalize w.alloc (.cells #[.slice A1 l.length q1, .slice A2 t.drops.length q2, .slice A3 t.ends.length q3, .int .i64 t.drop, .int .i64 t.order, .int .i64 t.initial] 25) = W1 at *
    go_loopw [39] (fun i wr => ∃ k : Nat, SoFar Rul.key ruleOK l k ∧ i = .int .i64 k ∧ Ext W1 wr ∧ Seen wr (w.heap.size + 1) ((l.take k).map Rul.key)) (fun i _ => l.length - (intOf i).toNat)
    case atStart => exact ⟨0, SoFar.zero _ _ _, rfl, hb0, hs0⟩
    case round =>
      rename_i hrel
      obtain ⟨k, hk, rfl, hb, hs⟩ := hrel
      have hBw := hBox _ hb
      have HBOX := Lib.hid hBox
      clear hBox hs0 hb0
      have hkl := hk.le
      by_cases hkk : k < l.length
      · have hx : l[k]? = some l[k] := List.getElem?_eq_getElem hkk
        have hfit := hrfit _ (List.getElem_mem hkk)
        have hstep := hk.step hkk
        have hbad := hk.bad hkk
        obtain ⟨a, rfl, hcells⟩ := (hrules.ext hBw.2).elem hx
        have htake : l.take (k + 1) = l.take k ++ [l[k]] := (List.take_append_getElem hkk).symm
        generalize l[k] = d at hx hfit hstep hbad hcells htake
        obtain ⟨ds, dw, dt, dc⟩ := d
        obtain ⟨f1, f2, f3, f4⟩ := hfit
        have hS2 : ∀ o1 o2, Seen ((wr.alloc o1).alloc o2) (w.heap.size + 1) ((l.take k).map Rul.key) := fun o1 o2 => (hs.ext (Ext.new wr o1)).ext (Ext.new _ o2)
        have hlook : ∀ o1 o2, (Instr.lookup 94 (.map (some (w.heap.size + 1))) (.agg #[.int .i64 ds, .string (B dw), .string (B dt)]) false).run Tryz.prog ((wr.alloc o1).alloc o2) = .ok (.bool (decide (Rul.key ⟨ds, dw, dt, dc⟩ ∈ (l.take k).map Rul.key))) ((wr.alloc o1).alloc o2) := fun o1 o2 => (hS2 o1 o2).look (k := (ds, dw, dt)) f1 f2 f3
        have hupd : ∀ o1 o2 w1, Ext ((wr.alloc o1).alloc o2) w1 → ∃ es clock, (Instr.mapUpdate 94 (.map (some (w.heap.size + 1))) (.agg #[.int .i64 ds, .string (B dw), .string (B dt)]) (.bool true)).run Tryz.prog w1 = .ok () (w1.putObj (w.heap.size + 1) (.map es clock)) ∧ Seen (w1.putObj (w.heap.size + 1) (.map es clock)) (w.heap.size + 1) ((l.take (k + 1)).map Rul.key) := fun o1 o2 w1 hb1 => by
          have := ((hS2 o1 o2).ext hb1).update (k := (ds, dw, dt)) f1 f2 f3
          rw [htake, List.map_append]
          exact this
        have hcell : ∀ cs1 t1 cs2 t2 w1, Ext ((wr.alloc (.cells cs1 t1)).alloc (.cells cs2 t2)) w1 → (∀ i, w1.cell? ⟨wr.heap.size, i, none⟩ = cs1[i]?) ∧ (∀ i, w1.cell? ⟨wr.heap.size + 1, i, none⟩ = cs2[i]?) ∧ Ext w w1 ∧ Ext W1 w1 ∧ ∀ o, Ext W1 (w1.putObj (w.heap.size + 1) o) := fun cs1 t1 cs2 t2 w1 h => by
          have h1 := cells_new2 h
          have h2 := Ext.trans hb h1.2.2
          exact ⟨h1.1, h1.2.1, (HBOX.out _ h2).2, h2, fun o => h2.put (by omega) o⟩
        have hfold : ∀ o1 o2, Calls Tryz.prog 42 #[.int .i64 ds, .string (B dw), .int .i64 3] ((wr.alloc o1).alloc o2) fun e w' => e = .returned (.bool (foldedS ds dw 3)) ∧ Ext ((wr.alloc o1).alloc o2) w' := fun o1 o2 => folded_any ds (B dw) 3 _ f2 (hT.below (Ext.trans hBw.2 ((Ext.new wr o1).alloc o2)))
        have hform : ∀ w, Calls Tryz.prog 43 #[.string (B dt)] w fun e w' => e = .returned (.bool (formS dt)) ∧ Ext w w' := fun w => isForm_any (B dt) w f3
        have hcost := isCost_any dc
        have hok : ruleOK ⟨ds, dw, dt, dc⟩ = (foldedS ds dw 3 && formS dt && costS dc) := rfl
        obtain ⟨c0, c1, c2, c3⟩ := elem4 hcells
        have HK := Lib.hid hk
        have hstep' : decide (Rul.key ⟨ds, dw, dt, dc⟩ ∈ (l.take k).map Rul.key) = false → _ := fun h => hstep (of_decide_eq_false h)
        have hbad' : decide (Rul.key ⟨ds, dw, dt, dc⟩ ∈ (l.take k).map Rul.key) = true ∨ _ → _ := fun h => hbad (h.imp of_decide_eq_true id)
        have HSTEP := Lib.hid hstep'
        have HBAD := Lib.hid hbad'
        rw [hok] at HSTEP HBAD
        have HUPD := Lib.hid hupd
        have HFOLD := Lib.hid hfold
        have HFORM := Lib.hid hform
        have HCOST := Lib.hid hcost
        have HCELL := Lib.hid hcell
        clear hk hstep hbad hstep' hbad' hcells htake hupd hfold hform hcost hok hS2 hx hcell f1 f2 f3 HBOX
        generalize decide (Rul.key ⟨ds, dw, dt, dc⟩ ∈ (l.take k).map Rul.key) = b1 at hlook HSTEP HBAD
        generalize foldedS ds dw 3 = b2 at HFOLD HSTEP HBAD
        generalize formS dt = b4 at HFORM HSTEP HBAD
        generalize costS dc = b3 at HCOST HSTEP HBAD
        have HRF : Hid ((distinctB (l.map Rul.key) && l.all ruleOK) = false → V = false) := Lib.hid (fun h => by rw [HV3.out, h]; rfl)
        cases b1
        case true =>
          have R : Hid (V = false ∧ Ext w wr) := Lib.hid ⟨HRF.out (HBAD.out (.inl rfl)), hBw.2⟩
          clear HSTEP HBAD HUPD HFOLD HCOST HCELL HFORM
          go_wp2
          go_ret
          exact ⟨ret_bool R.out.1.symm, (R.out.2.alloc _).alloc _⟩
        case false =>
          cases b2
          case false =>
            have R : Hid (V = false) := Lib.hid (HRF.out (HBAD.out (.inr rfl)))
            go_wp2_with (go_at_call 42; (with_reducible refine (HFOLD.out _ _).mono ?_); rintro e w1 ⟨rfl, hb1⟩)
            go_ret
            exact ⟨ret_bool R.out.symm, (HCELL.out _ _ _ _ _ hb1).2.2.1⟩
          case true =>
            cases b4
            case false =>
              have R : Hid (V = false) := Lib.hid (HRF.out (HBAD.out (.inr rfl)))
              go_wp2_with (first | (go_at_call 42; (with_reducible refine (HFOLD.out _ _).mono ?_); rintro e w1 ⟨rfl, hb1⟩; obtain ⟨k1, k2, k3, k4, k5⟩ := HCELL.out _ _ _ _ _ hb1) | (go_at_call 43; (with_reducible refine (HFORM.out _).mono ?_); rintro e w2 ⟨rfl, hb2⟩))
              go_ret
              exact ⟨ret_bool R.out.symm, Ext.trans k3 hb2⟩
            case true =>
              cases b3
              case false =>
                have R : Hid (V = false) := Lib.hid (HRF.out (HBAD.out (.inr rfl)))
                go_wp2_with (first | (go_at_call 42; (with_reducible refine (HFOLD.out _ _).mono ?_); rintro e w1 ⟨rfl, hb1⟩; obtain ⟨k1, k2, k3, k4, k5⟩ := HCELL.out _ _ _ _ _ hb1) | (go_at_call 43; (with_reducible refine (HFORM.out _).mono ?_); rintro e w2 ⟨rfl, hb2⟩; obtain ⟨m1, m2, m3, m4, m5⟩ := HCELL.out _ _ _ _ _ (Ext.trans hb1 hb2)) | (go_at_call 41; (with_reducible refine (HCOST.out _).mono ?_); rintro e w3 ⟨rfl, rfl⟩))
                go_ret
                exact ⟨ret_bool R.out.symm, m3⟩
              case true =>
                go_wp2_with (first | (go_at_call 42; (with_reducible refine (HFOLD.out _ _).mono ?_); rintro e w1 ⟨rfl, hb1⟩; obtain ⟨k1, k2, k3, k4, k5⟩ := HCELL.out _ _ _ _ _ hb1) | (go_at_call 43; (with_reducible refine (HFORM.out _).mono ?_); rintro e w2 ⟨rfl, hb2⟩; obtain ⟨m1, m2, m3, m4, m5⟩ := HCELL.out _ _ _ _ _ (Ext.trans hb1 hb2); obtain ⟨es, clock, hup, hs1⟩ := HUPD.out _ _ _ (Ext.trans hb1 hb2)) | (go_at_call 41; (with_reducible refine (HCOST.out _).mono ?_); rintro e w3 ⟨rfl, rfl⟩))
                go_roundw
                case rel => exact ⟨k + 1, HSTEP.out (by first | rfl | trivial) (by first | rfl | trivial), by simp, m5 _, hs1⟩
                case measure => simp [intOf]; omega
      · have hkl2 : k = l.length := by omega
        subst hkl2
        have R : Hid (V = (D1 && D2)) := Lib.hid (by rw [HV3.out, hk.done]; rfl)
        have HBOX2 := HBOX
        obtain ⟨hB1, hB2⟩ := hBw
        clear hs hk hrules hrfit
        cases D1
        case false =>
          go_wp2_with (go_at_call 44; (with_reducible refine (HD1.out _ hB2).mono ?_); rintro e w1 ⟨rfl, hb1⟩)
          go_ret
          exact ⟨ret_bool R.out.symm, Ext.trans hB2 hb1⟩
        case true =>
          go_wp2_with (first | (go_at_call 44; (with_reducible refine (HD1.out _ hB2).mono ?_); rintro e w1 ⟨rfl, hb1⟩; obtain ⟨k1, k2⟩ := HBOX.out _ (Ext.trans hb hb1)) | (go_at_call 44; (with_reducible refine (HD2.out _ k2).mono ?_); rintro e w2 ⟨rfl, hb2⟩))
          go_ret
          exact ⟨ret_bool R.out.symm, Ext.trans k2 hb2⟩
end Go.Proofs.YtkkbkhcapogobaaGreatDoor
