/- Contracts: ref10's drops, Valid. -/
import Derived.Test.YtkkbkhcapogobaaGreatDoorP4
namespace Go.Proofs.YtkkbkhcapogobaaGreatDoor
open Go Go.RowKit Go.Lib Go.Proofs S Go.Shelf Go.Maps Go.WideMaps
set_option linter.unusedVariables false
set_option linter.unusedSimpArgs false

set_option maxRecDepth 100000 in
set_option maxHeartbeats 4000000 in
theorem refDrops_any (l : List Drp) (A : Option Addr) (q : Nat) (most : Nat) (w : World) (hr : ElemsAt w A 3 (l.map dropVals)) (hf : ∀ d ∈ l, FitD d) (hl : l.length ≤ 1000) :
    Calls Tryz.prog 49 #[.slice A l.length q, .int .i64 most] w fun e w' => Ext w w' ∧ e = .returned (.bool (distinctB (l.map Drp.key) && l.all (dropOK most))) := by
  go_enter Tryz.func49, Tryz.ntmps49
  go_wp2
  go_loopw [5] (fun i wr => ∃ k : Nat, SoFar Drp.key (dropOK most) l k ∧ i = .int .i64 k ∧ Ext w wr) (fun i _ => l.length - (intOf i).toNat)
  case atStart => exact ⟨0, SoFar.zero _ _ _, rfl, Below.refl _ w⟩
  case round =>
    rename_i hrel
    obtain ⟨k, hk, rfl, hb⟩ := hrel
    have hkl := hk.le
    by_cases hkk : k < l.length
    · have hx : l[k]? = some l[k] := List.getElem?_eq_getElem hkk
      have hfit := hf _ (List.getElem_mem hkk)
      have hstep := hk.step hkk
      have hbad := hk.bad hkk
      have heq : ∀ m (hm : m < k), Drp.key (l[m]'(by omega)) = Drp.key l[k] → Drp.key l[k] ∈ (l.take k).map Drp.key := fun m hm h => soFar_eq (ok := dropOK most) hkk hm h
      have hne := soFar_ne (key := Drp.key) hkk
      obtain ⟨a, rfl, hcells⟩ := (hr.ext hb).elem hx
      generalize l[k] = r at hx hfit hstep hbad heq hne hcells
      obtain ⟨ds, dw, dc⟩ := r
      have f1 := hfit
      unfold FitD at f1
      dsimp only at f1
      obtain ⟨c0, c1, c2⟩ := elem3 hcells
      have HFO : Hid (∀ w', Calls Tryz.prog 56 #[.int .i64 ds, .string (B dw), .int .i64 most] w' fun e w'' => Ext w' w'' ∧ e = .returned (.bool (foldedS ds dw most))) := Lib.hid (fun w' => refFolded_any ds dw most w' (by omega))
      have HCO : Hid (∀ w', Calls Tryz.prog 47 #[.int .i64 dc] w' fun e w'' => Ext w' w'' ∧ e = .returned (.bool (costS dc))) := Lib.hid (fun w' => cost_any dc w')
      have hok : dropOK most ⟨ds, dw, dc⟩ = (foldedS ds dw most && costS dc) := rfl
      have HSK : Hid (∀ X X' : World, (fun w' : World => w'.cell? (a.add (k * 3)) = some (.int .i64 ds) ∧ w'.cell? { block := (a.add (k * 3)).block, off := (a.add (k * 3)).off + 1 } = some (.string (B dw)) ∧ w'.cell? { block := (a.add (k * 3)).block, off := (a.add (k * 3)).off + 2 } = some (.int .i64 dc)) X → Ext X X' → (fun w' : World => w'.cell? (a.add (k * 3)) = some (.int .i64 ds) ∧ w'.cell? { block := (a.add (k * 3)).block, off := (a.add (k * 3)).off + 1 } = some (.string (B dw)) ∧ w'.cell? { block := (a.add (k * 3)).block, off := (a.add (k * 3)).off + 2 } = some (.int .i64 dc)) X') := Lib.hid (fun X X' h hx => by
        have hc := Cells.of_ext hx
        exact ⟨hc _ _ h.1, hc _ _ h.2.1, hc _ _ h.2.2⟩)
      have hHeld : (fun w' : World => w'.cell? (a.add (k * 3)) = some (.int .i64 ds) ∧ w'.cell? { block := (a.add (k * 3)).block, off := (a.add (k * 3)).off + 1 } = some (.string (B dw)) ∧ w'.cell? { block := (a.add (k * 3)).block, off := (a.add (k * 3)).off + 2 } = some (.int .i64 dc)) wr.drew := ⟨c0, c1, c2⟩
      have hxd : Ext wr wr.drew := ⟨rfl, rfl, rfl, Nat.le_refl _, fun _ _ => rfl⟩
      have HB := Lib.hid (Ext.trans hb hxd)
      have HX := Lib.hid hx
      rw [hok] at hstep hbad
      have HSTEP := Lib.hid hstep
      have HBAD := Lib.hid hbad
      have HEQ := Lib.hid heq
      have HNE := Lib.hid hne
      have HK := Lib.hid hk
      clear hok hx hstep hbad heq hne hcells hk hxd hb f1 hfit
      generalize foldedS ds dw most = b1 at HFO HSTEP HBAD
      generalize costS dc = b2 at HCO HSTEP HBAD
      cases b1
      case false =>
          go_upto_region 4 with fail
          refine wp_region_held_drew (S := (fun w' : World => w'.cell? (a.add (k * 3)) = some (.int .i64 ds) ∧ w'.cell? { block := (a.add (k * 3)).block, off := (a.add (k * 3)).off + 1 } = some (.string (B dw)) ∧ w'.cell? { block := (a.add (k * 3)).block, off := (a.add (k * 3)).off + 2 } = some (.int .i64 dc))) Tryz.mixed hHeld ?_
          intro _
          refine wpAnyH_take (i := 0) (v := ?_) rfl (by kernel_rfl) (by kernel_rfl) (by kernel_rfl) (fun _ _ _ h => h) (Or.inl ⟨by rfl, ?_⟩) (by assumption) ?_
          rotate_left
          · (intro w hSw; (try dsimp only at hSw); go_split_ands; go_simp; first | done | with_reducible rfl)
          simp only [List.getElem_toArray, List.getElem_cons_succ, List.getElem_cons_zero, Act.put, List.setIfInBounds_toArray, List.set_cons_zero, List.set_cons_succ]
          refine wpAnyH_take (i := 1) (v := ?_) rfl (by kernel_rfl) (by kernel_rfl) (by kernel_rfl) (fun _ _ _ h => h) (Or.inl ⟨by rfl, ?_⟩) (by assumption) ?_
          rotate_left
          · (intro w hSw; (try dsimp only at hSw); go_split_ands; go_simp; first | done | with_reducible rfl)
          simp only [List.getElem_toArray, List.getElem_cons_succ, List.getElem_cons_zero, Act.put, List.setIfInBounds_toArray, List.set_cons_zero, List.set_cons_succ]
          refine wpAnyH_take (i := 2) (v := ?_) rfl (by kernel_rfl) (by kernel_rfl) (by kernel_rfl) (fun _ _ _ h => h) (Or.inl ⟨by rfl, ?_⟩) (by assumption) ?_
          rotate_left
          · (intro w hSw; (try dsimp only at hSw); go_split_ands; go_simp; first | done | with_reducible rfl)
          simp only [List.getElem_toArray, List.getElem_cons_succ, List.getElem_cons_zero, Act.put, List.setIfInBounds_toArray, List.set_cons_zero, List.set_cons_succ]
          refine wpAnyH_take (i := 3) (v := ?_) rfl (by kernel_rfl) (by kernel_rfl) (by kernel_rfl) (fun _ _ _ h => h) (Or.inl ⟨by rfl, ?_⟩) (by assumption) ?_
          rotate_left
          · (intro w hSw; (try dsimp only at hSw); go_split_ands; go_simp; first | done | with_reducible rfl)
          simp only [List.getElem_toArray, List.getElem_cons_succ, List.getElem_cons_zero, Act.put, List.setIfInBounds_toArray, List.set_cons_zero, List.set_cons_succ]
          refine wpAnyH_take (i := 4) (v := ?_) rfl (by kernel_rfl) (by kernel_rfl) (by kernel_rfl) (fun _ _ _ h => h) (Or.inl ⟨by rfl, ?_⟩) (by assumption) ?_
          rotate_left
          · (intro w hSw; (try dsimp only at hSw); go_split_ands; go_simp; first | done | with_reducible rfl)
          simp only [List.getElem_toArray, List.getElem_cons_succ, List.getElem_cons_zero, Act.put, List.setIfInBounds_toArray, List.set_cons_zero, List.set_cons_succ]
          refine wpAnyH_take (i := 5) (v := ?_) rfl (by kernel_rfl) (by kernel_rfl) (by kernel_rfl) (fun _ _ _ h => h) (Or.inl ⟨by rfl, ?_⟩) (by assumption) ?_
          rotate_left
          · (intro w hSw; (try dsimp only at hSw); go_split_ands; go_simp; first | done | with_reducible rfl)
          simp only [List.getElem_toArray, List.getElem_cons_succ, List.getElem_cons_zero, Act.put, List.setIfInBounds_toArray, List.set_cons_zero, List.set_cons_succ]
          refine wpAnyH_take (i := 6) (v := ?_) rfl (by kernel_rfl) (by kernel_rfl) (by kernel_rfl) (fun _ _ _ h => h) (Or.inl ⟨by rfl, ?_⟩) (by assumption) ?_
          rotate_left
          · (intro w hSw; (try dsimp only at hSw); go_split_ands; go_simp; first | done | with_reducible rfl)
          simp only [List.getElem_toArray, List.getElem_cons_succ, List.getElem_cons_zero, Act.put, List.setIfInBounds_toArray, List.set_cons_zero, List.set_cons_succ]
          refine wpAnyH_take (i := 7) (v := ?_) rfl (by kernel_rfl) (by kernel_rfl) (by kernel_rfl) (fun _ _ _ h => h) (Or.inl ⟨by rfl, ?_⟩) (by assumption) ?_
          rotate_left
          · (intro w hSw; (try dsimp only at hSw); go_split_ands; go_simp; first | done | with_reducible rfl)
          simp only [List.getElem_toArray, List.getElem_cons_succ, List.getElem_cons_zero, Act.put, List.setIfInBounds_toArray, List.set_cons_zero, List.set_cons_succ]
          refine wpAnyH_take (i := 8) (v := ?_) rfl (by kernel_rfl) (by kernel_rfl) (by kernel_rfl) (fun _ _ _ h => h) (Or.inl ⟨by rfl, ?_⟩) (by assumption) ?_
          rotate_left
          · (intro w hSw; (try dsimp only at hSw); go_split_ands; go_simp; first | done | with_reducible rfl)
          simp only [List.getElem_toArray, List.getElem_cons_succ, List.getElem_cons_zero, Act.put, List.setIfInBounds_toArray, List.set_cons_zero, List.set_cons_succ]
          refine wpAnyH_take (i := 9) (v := ?_) rfl (by kernel_rfl) (by kernel_rfl) (by kernel_rfl) (fun _ _ _ h => h) (Or.inl ⟨by rfl, ?_⟩) (by assumption) ?_
          rotate_left
          · (intro w hSw; (try dsimp only at hSw); go_split_ands; go_simp; first | done | with_reducible rfl)
          simp only [List.getElem_toArray, List.getElem_cons_succ, List.getElem_cons_zero, Act.put, List.setIfInBounds_toArray, List.set_cons_zero, List.set_cons_succ]
          refine wpAnyH_take (i := 10) (v := ?_) rfl (by kernel_rfl) (by kernel_rfl) (by kernel_rfl) (fun _ _ _ h => h) (Or.inl ⟨by rfl, ?_⟩) (by assumption) ?_
          rotate_left
          · (intro w hSw; (try dsimp only at hSw); go_split_ands; go_simp; first | done | with_reducible rfl)
          simp only [List.getElem_toArray, List.getElem_cons_succ, List.getElem_cons_zero, Act.put, List.setIfInBounds_toArray, List.set_cons_zero, List.set_cons_succ]
          refine wpAnyH_ready (rs := [11]) (by kernel_rfl) (by simp) ?_
          refine AllReadyH.cons rfl (fun K hK => ?_) ?_
          · (go_simp; (with_reducible refine (HFO.out _).mono ?_); rintro e v1 ⟨hv1, rfl⟩)
            refine hK.out _ _ ?_ (fun hHeld => ?_)
            · exact HSK.out _ _ hHeld (by assumption)
            clear hK K
            refine wpAnyH_take (i := 12) (v := ?_) rfl (by kernel_rfl) (by kernel_rfl) (by kernel_rfl) (fun _ _ _ h => h) (Or.inl ⟨by rfl, ?_⟩) (by assumption) ?_
            rotate_left
            · (intro w hSw; (try dsimp only at hSw); go_split_ands; go_simp; first | done | with_reducible rfl)
            simp only [List.getElem_toArray, List.getElem_cons_succ, List.getElem_cons_zero, Act.put, List.setIfInBounds_toArray, List.set_cons_zero, List.set_cons_succ]
            refine wpAnyH_take (i := 13) (v := ?_) rfl (by kernel_rfl) (by kernel_rfl) (by kernel_rfl) (fun _ _ _ h => h) (Or.inl ⟨by rfl, ?_⟩) (by assumption) ?_
            rotate_left
            · (intro w hSw; (try dsimp only at hSw); go_split_ands; go_simp; first | done | with_reducible rfl)
            simp only [List.getElem_toArray, List.getElem_cons_succ, List.getElem_cons_zero, Act.put, List.setIfInBounds_toArray, List.set_cons_zero, List.set_cons_succ]
            refine wpAnyH_take (i := 14) (v := undef) rfl (by kernel_rfl) (by kernel_rfl) (by kernel_rfl) (fun _ _ _ h => h) (Or.inr ⟨by kernel_rfl, rfl⟩) (by assumption) ?_
            simp only [List.getElem_toArray, List.getElem_cons_succ, List.getElem_cons_zero, Act.put, List.setIfInBounds_toArray, List.set_cons_zero, List.set_cons_succ]
            refine wpAnyH_take (i := 15) (v := undef) rfl (by kernel_rfl) (by kernel_rfl) (by kernel_rfl) (fun _ _ _ h => h) (Or.inr ⟨by kernel_rfl, rfl⟩) (by assumption) ?_
            simp only [List.getElem_toArray, List.getElem_cons_succ, List.getElem_cons_zero, Act.put, List.setIfInBounds_toArray, List.set_cons_zero, List.set_cons_succ]
            refine wpAnyH_take (i := 16) (v := undef) rfl (by kernel_rfl) (by kernel_rfl) (by kernel_rfl) (fun _ _ _ h => h) (Or.inr ⟨by kernel_rfl, rfl⟩) (by assumption) ?_
            simp only [List.getElem_toArray, List.getElem_cons_succ, List.getElem_cons_zero, Act.put, List.setIfInBounds_toArray, List.set_cons_zero, List.set_cons_succ]
            refine wpAnyH_take (i := 17) (v := undef) rfl (by kernel_rfl) (by kernel_rfl) (by kernel_rfl) (fun _ _ _ h => h) (Or.inr ⟨by kernel_rfl, rfl⟩) (by assumption) ?_
            simp only [List.getElem_toArray, List.getElem_cons_succ, List.getElem_cons_zero, Act.put, List.setIfInBounds_toArray, List.set_cons_zero, List.set_cons_succ]
            refine wpAnyH_take (i := 18) (v := undef) rfl (by kernel_rfl) (by kernel_rfl) (by kernel_rfl) (fun _ _ _ h => h) (Or.inr ⟨by kernel_rfl, rfl⟩) (by assumption) ?_
            simp only [List.getElem_toArray, List.getElem_cons_succ, List.getElem_cons_zero, Act.put, List.setIfInBounds_toArray, List.set_cons_zero, List.set_cons_succ]
            refine wpAnyH_take (i := 19) (v := undef) rfl (by kernel_rfl) (by kernel_rfl) (by kernel_rfl) (fun _ _ _ h => h) (Or.inr ⟨by kernel_rfl, rfl⟩) (by assumption) ?_
            simp only [List.getElem_toArray, List.getElem_cons_succ, List.getElem_cons_zero, Act.put, List.setIfInBounds_toArray, List.set_cons_zero, List.set_cons_succ]
            refine wpAnyH_take (i := 20) (v := undef) rfl (by kernel_rfl) (by kernel_rfl) (by kernel_rfl) (fun _ _ _ h => h) (Or.inr ⟨by kernel_rfl, rfl⟩) (by assumption) ?_
            simp only [List.getElem_toArray, List.getElem_cons_succ, List.getElem_cons_zero, Act.put, List.setIfInBounds_toArray, List.set_cons_zero, List.set_cons_succ]
            refine wpAnyH_take (i := 21) (v := ?_) rfl (by kernel_rfl) (by kernel_rfl) (by kernel_rfl) (fun _ _ _ h => h) (Or.inl ⟨by rfl, ?_⟩) (by assumption) ?_
            rotate_left
            · (intro w hSw; (try dsimp only at hSw); go_split_ands; go_simp; first | done | with_reducible rfl)
            simp only [List.getElem_toArray, List.getElem_cons_succ, List.getElem_cons_zero, Act.put, List.setIfInBounds_toArray, List.set_cons_zero, List.set_cons_succ]
            refine wpAnyH_done (by kernel_rfl) ?_ _
            have R := Lib.hid (HBAD.out (.inr rfl))
            clear hHeld
            go_wp2
            go_ret
            exact ⟨Ext.trans HB.out hv1, ret_bool R.out.symm⟩
          exact AllReadyH.nil
      case true =>
            go_upto_region 4 with fail
            refine wp_region_held_drew (S := (fun w' : World => w'.cell? (a.add (k * 3)) = some (.int .i64 ds) ∧ w'.cell? { block := (a.add (k * 3)).block, off := (a.add (k * 3)).off + 1 } = some (.string (B dw)) ∧ w'.cell? { block := (a.add (k * 3)).block, off := (a.add (k * 3)).off + 2 } = some (.int .i64 dc))) Tryz.mixed hHeld ?_
            intro _
            refine wpAnyH_take (i := 0) (v := ?_) rfl (by kernel_rfl) (by kernel_rfl) (by kernel_rfl) (fun _ _ _ h => h) (Or.inl ⟨by rfl, ?_⟩) (by assumption) ?_
            rotate_left
            · (intro w hSw; (try dsimp only at hSw); go_split_ands; go_simp; first | done | with_reducible rfl)
            simp only [List.getElem_toArray, List.getElem_cons_succ, List.getElem_cons_zero, Act.put, List.setIfInBounds_toArray, List.set_cons_zero, List.set_cons_succ]
            refine wpAnyH_take (i := 1) (v := ?_) rfl (by kernel_rfl) (by kernel_rfl) (by kernel_rfl) (fun _ _ _ h => h) (Or.inl ⟨by rfl, ?_⟩) (by assumption) ?_
            rotate_left
            · (intro w hSw; (try dsimp only at hSw); go_split_ands; go_simp; first | done | with_reducible rfl)
            simp only [List.getElem_toArray, List.getElem_cons_succ, List.getElem_cons_zero, Act.put, List.setIfInBounds_toArray, List.set_cons_zero, List.set_cons_succ]
            refine wpAnyH_take (i := 2) (v := ?_) rfl (by kernel_rfl) (by kernel_rfl) (by kernel_rfl) (fun _ _ _ h => h) (Or.inl ⟨by rfl, ?_⟩) (by assumption) ?_
            rotate_left
            · (intro w hSw; (try dsimp only at hSw); go_split_ands; go_simp; first | done | with_reducible rfl)
            simp only [List.getElem_toArray, List.getElem_cons_succ, List.getElem_cons_zero, Act.put, List.setIfInBounds_toArray, List.set_cons_zero, List.set_cons_succ]
            refine wpAnyH_take (i := 3) (v := ?_) rfl (by kernel_rfl) (by kernel_rfl) (by kernel_rfl) (fun _ _ _ h => h) (Or.inl ⟨by rfl, ?_⟩) (by assumption) ?_
            rotate_left
            · (intro w hSw; (try dsimp only at hSw); go_split_ands; go_simp; first | done | with_reducible rfl)
            simp only [List.getElem_toArray, List.getElem_cons_succ, List.getElem_cons_zero, Act.put, List.setIfInBounds_toArray, List.set_cons_zero, List.set_cons_succ]
            refine wpAnyH_take (i := 4) (v := ?_) rfl (by kernel_rfl) (by kernel_rfl) (by kernel_rfl) (fun _ _ _ h => h) (Or.inl ⟨by rfl, ?_⟩) (by assumption) ?_
            rotate_left
            · (intro w hSw; (try dsimp only at hSw); go_split_ands; go_simp; first | done | with_reducible rfl)
            simp only [List.getElem_toArray, List.getElem_cons_succ, List.getElem_cons_zero, Act.put, List.setIfInBounds_toArray, List.set_cons_zero, List.set_cons_succ]
            refine wpAnyH_take (i := 5) (v := ?_) rfl (by kernel_rfl) (by kernel_rfl) (by kernel_rfl) (fun _ _ _ h => h) (Or.inl ⟨by rfl, ?_⟩) (by assumption) ?_
            rotate_left
            · (intro w hSw; (try dsimp only at hSw); go_split_ands; go_simp; first | done | with_reducible rfl)
            simp only [List.getElem_toArray, List.getElem_cons_succ, List.getElem_cons_zero, Act.put, List.setIfInBounds_toArray, List.set_cons_zero, List.set_cons_succ]
            refine wpAnyH_take (i := 6) (v := ?_) rfl (by kernel_rfl) (by kernel_rfl) (by kernel_rfl) (fun _ _ _ h => h) (Or.inl ⟨by rfl, ?_⟩) (by assumption) ?_
            rotate_left
            · (intro w hSw; (try dsimp only at hSw); go_split_ands; go_simp; first | done | with_reducible rfl)
            simp only [List.getElem_toArray, List.getElem_cons_succ, List.getElem_cons_zero, Act.put, List.setIfInBounds_toArray, List.set_cons_zero, List.set_cons_succ]
            refine wpAnyH_take (i := 7) (v := ?_) rfl (by kernel_rfl) (by kernel_rfl) (by kernel_rfl) (fun _ _ _ h => h) (Or.inl ⟨by rfl, ?_⟩) (by assumption) ?_
            rotate_left
            · (intro w hSw; (try dsimp only at hSw); go_split_ands; go_simp; first | done | with_reducible rfl)
            simp only [List.getElem_toArray, List.getElem_cons_succ, List.getElem_cons_zero, Act.put, List.setIfInBounds_toArray, List.set_cons_zero, List.set_cons_succ]
            refine wpAnyH_take (i := 8) (v := ?_) rfl (by kernel_rfl) (by kernel_rfl) (by kernel_rfl) (fun _ _ _ h => h) (Or.inl ⟨by rfl, ?_⟩) (by assumption) ?_
            rotate_left
            · (intro w hSw; (try dsimp only at hSw); go_split_ands; go_simp; first | done | with_reducible rfl)
            simp only [List.getElem_toArray, List.getElem_cons_succ, List.getElem_cons_zero, Act.put, List.setIfInBounds_toArray, List.set_cons_zero, List.set_cons_succ]
            refine wpAnyH_take (i := 9) (v := ?_) rfl (by kernel_rfl) (by kernel_rfl) (by kernel_rfl) (fun _ _ _ h => h) (Or.inl ⟨by rfl, ?_⟩) (by assumption) ?_
            rotate_left
            · (intro w hSw; (try dsimp only at hSw); go_split_ands; go_simp; first | done | with_reducible rfl)
            simp only [List.getElem_toArray, List.getElem_cons_succ, List.getElem_cons_zero, Act.put, List.setIfInBounds_toArray, List.set_cons_zero, List.set_cons_succ]
            refine wpAnyH_take (i := 10) (v := ?_) rfl (by kernel_rfl) (by kernel_rfl) (by kernel_rfl) (fun _ _ _ h => h) (Or.inl ⟨by rfl, ?_⟩) (by assumption) ?_
            rotate_left
            · (intro w hSw; (try dsimp only at hSw); go_split_ands; go_simp; first | done | with_reducible rfl)
            simp only [List.getElem_toArray, List.getElem_cons_succ, List.getElem_cons_zero, Act.put, List.setIfInBounds_toArray, List.set_cons_zero, List.set_cons_succ]
            refine wpAnyH_ready (rs := [11]) (by kernel_rfl) (by simp) ?_
            refine AllReadyH.cons rfl (fun K hK => ?_) ?_
            · (go_simp; (with_reducible refine (HFO.out _).mono ?_); rintro e v1 ⟨hv1, rfl⟩)
              refine hK.out _ _ ?_ (fun hHeld => ?_)
              · exact HSK.out _ _ hHeld (by assumption)
              clear hK K
              refine wpAnyH_take (i := 12) (v := ?_) rfl (by kernel_rfl) (by kernel_rfl) (by kernel_rfl) (fun _ _ _ h => h) (Or.inl ⟨by rfl, ?_⟩) (by assumption) ?_
              rotate_left
              · (intro w hSw; (try dsimp only at hSw); go_split_ands; go_simp; first | done | with_reducible rfl)
              simp only [List.getElem_toArray, List.getElem_cons_succ, List.getElem_cons_zero, Act.put, List.setIfInBounds_toArray, List.set_cons_zero, List.set_cons_succ]
              refine wpAnyH_take (i := 13) (v := ?_) rfl (by kernel_rfl) (by kernel_rfl) (by kernel_rfl) (fun _ _ _ h => h) (Or.inl ⟨by rfl, ?_⟩) (by assumption) ?_
              rotate_left
              · (intro w hSw; (try dsimp only at hSw); go_split_ands; go_simp; first | done | with_reducible rfl)
              simp only [List.getElem_toArray, List.getElem_cons_succ, List.getElem_cons_zero, Act.put, List.setIfInBounds_toArray, List.set_cons_zero, List.set_cons_succ]
              refine wpAnyH_take (i := 14) (v := ?_) rfl (by kernel_rfl) (by kernel_rfl) (by kernel_rfl) (fun _ _ _ h => h) (Or.inl ⟨by rfl, ?_⟩) (by assumption) ?_
              rotate_left
              · (intro w hSw; (try dsimp only at hSw); go_split_ands; go_simp; first | done | with_reducible rfl)
              simp only [List.getElem_toArray, List.getElem_cons_succ, List.getElem_cons_zero, Act.put, List.setIfInBounds_toArray, List.set_cons_zero, List.set_cons_succ]
              refine wpAnyH_take (i := 15) (v := ?_) rfl (by kernel_rfl) (by kernel_rfl) (by kernel_rfl) (fun _ _ _ h => h) (Or.inl ⟨by rfl, ?_⟩) (by assumption) ?_
              rotate_left
              · (intro w hSw; (try dsimp only at hSw); go_split_ands; go_simp; first | done | with_reducible rfl)
              simp only [List.getElem_toArray, List.getElem_cons_succ, List.getElem_cons_zero, Act.put, List.setIfInBounds_toArray, List.set_cons_zero, List.set_cons_succ]
              refine wpAnyH_take (i := 16) (v := ?_) rfl (by kernel_rfl) (by kernel_rfl) (by kernel_rfl) (fun _ _ _ h => h) (Or.inl ⟨by rfl, ?_⟩) (by assumption) ?_
              rotate_left
              · (intro w hSw; (try dsimp only at hSw); go_split_ands; go_simp; first | done | with_reducible rfl)
              simp only [List.getElem_toArray, List.getElem_cons_succ, List.getElem_cons_zero, Act.put, List.setIfInBounds_toArray, List.set_cons_zero, List.set_cons_succ]
              refine wpAnyH_take (i := 17) (v := ?_) rfl (by kernel_rfl) (by kernel_rfl) (by kernel_rfl) (fun _ _ _ h => h) (Or.inl ⟨by rfl, ?_⟩) (by assumption) ?_
              rotate_left
              · (intro w hSw; (try dsimp only at hSw); go_split_ands; go_simp; first | done | with_reducible rfl)
              simp only [List.getElem_toArray, List.getElem_cons_succ, List.getElem_cons_zero, Act.put, List.setIfInBounds_toArray, List.set_cons_zero, List.set_cons_succ]
              refine wpAnyH_take (i := 18) (v := ?_) rfl (by kernel_rfl) (by kernel_rfl) (by kernel_rfl) (fun _ _ _ h => h) (Or.inl ⟨by rfl, ?_⟩) (by assumption) ?_
              rotate_left
              · (intro w hSw; (try dsimp only at hSw); go_split_ands; go_simp; first | done | with_reducible rfl)
              simp only [List.getElem_toArray, List.getElem_cons_succ, List.getElem_cons_zero, Act.put, List.setIfInBounds_toArray, List.set_cons_zero, List.set_cons_succ]
              refine wpAnyH_ready (rs := [19]) (by kernel_rfl) (by simp) ?_
              refine AllReadyH.cons rfl (fun K hK => ?_) ?_
              · (go_simp; (with_reducible refine (HCO.out _).mono ?_); rintro e v2 ⟨hv2, rfl⟩)
                refine hK.out _ _ ?_ (fun hHeld => ?_)
                · exact HSK.out _ _ hHeld (by assumption)
                clear hK K
                refine wpAnyH_take (i := 20) (v := ?_) rfl (by kernel_rfl) (by kernel_rfl) (by kernel_rfl) (fun _ _ _ h => h) (Or.inl ⟨by rfl, ?_⟩) (by assumption) ?_
                rotate_left
                · (intro w hSw; (try dsimp only at hSw); go_split_ands; go_simp; first | done | with_reducible rfl)
                simp only [List.getElem_toArray, List.getElem_cons_succ, List.getElem_cons_zero, Act.put, List.setIfInBounds_toArray, List.set_cons_zero, List.set_cons_succ]
                refine wpAnyH_take (i := 21) (v := ?_) rfl (by kernel_rfl) (by kernel_rfl) (by kernel_rfl) (fun _ _ _ h => h) (Or.inl ⟨by rfl, ?_⟩) (by assumption) ?_
                rotate_left
                · (intro w hSw; (try dsimp only at hSw); go_split_ands; go_simp; first | done | with_reducible rfl)
                simp only [List.getElem_toArray, List.getElem_cons_succ, List.getElem_cons_zero, Act.put, List.setIfInBounds_toArray, List.set_cons_zero, List.set_cons_succ]
                refine wpAnyH_done (by kernel_rfl) ?_ _
                have hb2 := Ext.trans (Ext.trans HB.out hv1) hv2
                clear hHeld
                cases b2
                case false =>
                  have R := Lib.hid (HBAD.out (.inr rfl))
                  go_wp2
                  go_ret
                  exact ⟨hb2, ret_bool R.out.symm⟩
                case true =>
                  go_wp2
                  go_loopw [6] (fun v wr2 => ∃ m : Nat, m ≤ k ∧ v = .int .i64 m ∧ Ext w wr2 ∧ ∀ j x, j < m → l[j]? = some x → Drp.key x ≠ Drp.key ⟨ds, dw, dc⟩) (fun v _ => k - (intOf v).toNat)
                  case atStart => exact ⟨0, Nat.zero_le _, rfl, hb2, fun _ _ h => absurd h (Nat.not_lt_zero _)⟩
                  case round =>
                  rename_i hrel
                  obtain ⟨m, hm, rfl, hb4, hall⟩ := hrel
                  clear hb2
                  by_cases hmm : m < k
                  · have hml : m < l.length := by omega
                    have hy : l[m]? = some l[m] := List.getElem?_eq_getElem hml
                    obtain ⟨a', ha', hcm⟩ := (hr.ext hb4).elem hy
                    cases ha'
                    obtain ⟨a'', ha'', hck⟩ := (hr.ext hb4).elem HX.out
                    cases ha''
                    have heq2 := HEQ.out m hmm
                    generalize l[m] = x at hy hcm heq2
                    obtain ⟨ms, mw, mc⟩ := x
                    obtain ⟨m0, m1, m2⟩ := elem3 hcm
                    obtain ⟨k0, k1, k2⟩ := elem3 hck
                    have HB4 := Lib.hid hb4
                    have HALL := Lib.hid hall
                    have HY := Lib.hid hy
                    clear hcm hck hy hall hb4
                    by_cases hs : ds = ms
                    · subst hs
                      by_cases hw : dw = mw
                      · subst hw
                        have R := Lib.hid (HBAD.out (.inl (heq2 rfl)))
                        clear heq2
                        go_wp2
                        go_quiet (fail)
                        go_wp2
                        go_ret
                        exact ⟨Ext.trans HB4.out (below_drewN _ _), ret_bool R.out.symm⟩
                      · have HKE : Hid (Drp.key ⟨ds, mw, mc⟩ ≠ Drp.key ⟨ds, dw, dc⟩) := Lib.hid (fun h => hw (by simpa [Drp.key] using h.symm))
                        have hne : (dw == mw) = false := beq_eq_false_iff_ne.2 hw
                        clear heq2
                        go_wp2
                        go_quiet (fail)
                        go_wp2
                        go_roundw
                        case rel =>
                          refine ⟨m + 1, by omega, by simp, Ext.trans HB4.out (below_drewN _ _), fun j x hj hjx => ?_⟩
                          by_cases hjm : j = m
                          · subst hjm
                            rw [HY.out] at hjx
                            cases hjx
                            exact HKE.out
                          · exact HALL.out j x (by omega) hjx
                        case measure => simp [intOf]; omega
                    · have HKE : Hid (Drp.key ⟨ms, mw, mc⟩ ≠ Drp.key ⟨ds, dw, dc⟩) := Lib.hid (fun h => hs (by have := congrArg Prod.fst h; exact this.symm))
                      have hne : (ds == ms) = false := beq_eq_false_iff_ne.2 hs
                      clear hs heq2
                      go_wp2
                      go_quiet (fail)
                      go_wp2
                      go_roundw
                      case rel =>
                        refine ⟨m + 1, by omega, by simp, Ext.trans HB4.out (below_drewN _ _), fun j x hj hjx => ?_⟩
                        by_cases hjm : j = m
                        · subst hjm
                          rw [HY.out] at hjx
                          cases hjx
                          exact HKE.out
                        · exact HALL.out j x (by omega) hjx
                      case measure => simp [intOf]; omega
                  · have hmk : m = k := by omega
                    subst hmk
                    have hs := Lib.hid (HSTEP.out (HNE.out (fun j x hj hx => hall j x hj hx)) rfl)
                    clear hall
                    go_wp2
                    go_roundw
                    case rel => exact ⟨m + 1, hs.out, by simp, hb4⟩
                    case measure => simp [intOf]; omega
              exact AllReadyH.nil
            exact AllReadyH.nil
    · have hkl2 : k = l.length := by omega
      subst hkl2
      have R : Hid ((distinctB (l.map Drp.key) && l.all (dropOK most)) = true) := Lib.hid hk.done
      clear hk
      go_wp2
      go_ret
      exact ⟨hb, ret_bool R.out.symm⟩

theorem six_cases : ∀ b1 b2 b3 b4 b5 b6 : Bool, ((b1 && b2 && b3) && b4 && b5 && b6) = false ∧ (b1 = false ∨ b1 = true ∧ b2 = false ∨ b1 = true ∧ b2 = true ∧ b3 = false ∨ b1 = true ∧ b2 = true ∧ b3 = true ∧ b4 = false ∨ b1 = true ∧ b2 = true ∧ b3 = true ∧ b4 = true ∧ b5 = false) ∨ ((b1 && b2 && b3) && b4 && b5 && b6) = b6 ∧ b1 = true ∧ b2 = true ∧ b3 = true ∧ b4 = true ∧ b5 = true := by
  intro b1 b2 b3 b4 b5 b6
  cases b1 <;> cases b2 <;> cases b3 <;> cases b4 <;> cases b5 <;> cases b6 <;> simp
set_option maxRecDepth 100000 in
set_option maxHeartbeats 4000000 in
theorem refValid_any (A1 A2 A3 : Option Addr) (q1 q2 q3 : Nat) (t : Tab) (w : World) (ht : TabAt w A1 A2 A3 t) (hfr : ∀ r ∈ t.rules, FitR r) (hfd : ∀ d ∈ t.drops, FitD d) (hfe : ∀ d ∈ t.ends, FitD d) :
    Calls Tryz.prog 31 #[tabVal A1 q1 A2 q2 A3 q3 t] w fun e w' => Ext w w' ∧ e = .returned (.bool (validS t)) := by
  unfold tabVal
  obtain ⟨hrules, hdrops, hends, hrfit, hdfit, hefit, hrlen, hdlen, helen⟩ := ht
  have hval : validS t = (((decide (t.rules ≠ []) && decide (t.rules.length ≤ 80)) && (decide (t.drops.length ≤ 40) && decide (t.ends.length ≤ 40))) && (costS t.drop && costS t.order && costS t.initial) && (distinctB (t.rules.map Rul.key) && t.rules.all ruleOK) && (distinctB (t.drops.map Drp.key) && t.drops.all (dropOK 12)) && (distinctB (t.ends.map Drp.key) && t.ends.all (dropOK 4))) := by
    unfold validS dropsS
    generalize decide (t.rules ≠ []) = b1
    generalize decide (t.rules.length ≤ 80) = b2
    generalize decide (t.drops.length ≤ 40) = b3
    generalize decide (t.ends.length ≤ 40) = b4
    generalize (distinctB (t.rules.map Rul.key) && t.rules.all ruleOK) = b5
    generalize (distinctB (t.drops.map Drp.key) && t.drops.all (dropOK 12)) = b6
    generalize (distinctB (t.ends.map Drp.key) && t.ends.all (dropOK 4)) = b7
    generalize (costS t.drop) = b8
    generalize (costS t.order) = b9
    generalize (costS t.initial) = b10
    revert b1 b2 b3 b4 b5 b6 b7 b8 b9 b10
    decide
  have HNE : Hid (decide (t.rules ≠ []) = !decide (t.rules.length = 0)) := Lib.hid (by cases t.rules <;> simp)
  have HV := Lib.hid hval
  clear hval
  by_cases h0 : t.rules.length = 0
  · have R : Hid (validS t = false) := Lib.hid (by rw [HV.out, HNE.out, decide_eq_true h0]; rfl)
    clear HV HNE
    rw [h0]
    go_enter Tryz.func31, Tryz.ntmps31
    go_wp2
    go_ret
    exact ⟨Ext.new _ _, ret_bool R.out.symm⟩
  have hz : ¬ ((t.rules.length : Int) < 1) := by omega
  by_cases h80 : 80 < t.rules.length
  · have R : Hid (validS t = false) := Lib.hid (by rw [HV.out, decide_eq_false (p := t.rules.length ≤ 80) (by omega)]; simp)
    have hz2 : (80 : Int) < t.rules.length := by omega
    clear HV HNE
    go_enter Tryz.func31, Tryz.ntmps31
    go_wp2
    go_ret
    exact ⟨Ext.new _ _, ret_bool R.out.symm⟩
  have hz2 : ¬ (80 : Int) < t.rules.length := by omega
  by_cases h40 : 40 < t.drops.length
  · have R : Hid (validS t = false) := Lib.hid (by rw [HV.out, decide_eq_false (p := t.drops.length ≤ 40) (by omega)]; simp)
    have hz3 : (40 : Int) < t.drops.length := by omega
    clear HV HNE
    go_enter Tryz.func31, Tryz.ntmps31
    go_wp2
    go_ret
    exact ⟨Ext.new _ _, ret_bool R.out.symm⟩
  have hz3 : ¬ (40 : Int) < t.drops.length := by omega
  by_cases h41 : 40 < t.ends.length
  · have R : Hid (validS t = false) := Lib.hid (by rw [HV.out, decide_eq_false (p := t.ends.length ≤ 40) (by omega)]; simp)
    have hz4 : (40 : Int) < t.ends.length := by omega
    clear HV HNE
    go_enter Tryz.func31, Tryz.ntmps31
    go_wp2
    go_ret
    exact ⟨Ext.new _ _, ret_bool R.out.symm⟩
  have hz4 : ¬ (40 : Int) < t.ends.length := by omega
  have HC1 : Hid (∀ w', Calls Tryz.prog 47 #[.int .i64 t.drop] w' fun e w'' => Ext w' w'' ∧ e = .returned (.bool (costS t.drop))) := Lib.hid (fun w' => cost_any _ w')
  have HC2 : Hid (∀ w', Calls Tryz.prog 47 #[.int .i64 t.order] w' fun e w'' => Ext w' w'' ∧ e = .returned (.bool (costS t.order))) := Lib.hid (fun w' => cost_any _ w')
  have HC3 : Hid (∀ w', Calls Tryz.prog 47 #[.int .i64 t.initial] w' fun e w'' => Ext w' w'' ∧ e = .returned (.bool (costS t.initial))) := Lib.hid (fun w' => cost_any _ w')
  have HW : Hid (∀ w', Ext (w.alloc (.cells #[.slice A1 t.rules.length q1, .slice A2 t.drops.length q2, .slice A3 t.ends.length q3, .int .i64 t.drop, .int .i64 t.order, .int .i64 t.initial] 25)) w' → Ext w w') := Lib.hid (fun w' h => Ext.trans (Ext.new w _) h)
  have HR : Hid (∀ w', Ext (w.alloc (.cells #[.slice A1 t.rules.length q1, .slice A2 t.drops.length q2, .slice A3 t.ends.length q3, .int .i64 t.drop, .int .i64 t.order, .int .i64 t.initial] 25)) w' → Calls Tryz.prog 48 #[.slice A1 t.rules.length q1] w' fun e w'' => Ext w' w'' ∧ e = .returned (.bool (distinctB (t.rules.map Rul.key) && t.rules.all ruleOK))) := Lib.hid (fun w' hb => refRules_any t.rules A1 q1 w' (hrules.ext (HW.out _ hb)) hfr (by omega))
  have HD1 : Hid (∀ w', Ext (w.alloc (.cells #[.slice A1 t.rules.length q1, .slice A2 t.drops.length q2, .slice A3 t.ends.length q3, .int .i64 t.drop, .int .i64 t.order, .int .i64 t.initial] 25)) w' → Calls Tryz.prog 49 #[.slice A2 t.drops.length q2, .int .i64 12] w' fun e w'' => Ext w' w'' ∧ e = .returned (.bool (distinctB (t.drops.map Drp.key) && t.drops.all (dropOK 12)))) := Lib.hid (fun w' hb => refDrops_any t.drops A2 q2 12 w' (hdrops.ext (HW.out _ hb)) hfd (by omega))
  have HD2 : Hid (∀ w', Ext (w.alloc (.cells #[.slice A1 t.rules.length q1, .slice A2 t.drops.length q2, .slice A3 t.ends.length q3, .int .i64 t.drop, .int .i64 t.order, .int .i64 t.initial] 25)) w' → Calls Tryz.prog 49 #[.slice A3 t.ends.length q3, .int .i64 4] w' fun e w'' => Ext w' w'' ∧ e = .returned (.bool (distinctB (t.ends.map Drp.key) && t.ends.all (dropOK 4)))) := Lib.hid (fun w' hb => refDrops_any t.ends A3 q3 4 w' (hends.ext (HW.out _ hb)) hfe (by omega))
  have hbox : ∀ w' w'', Ext (w.alloc (.cells #[.slice A1 t.rules.length q1, .slice A2 t.drops.length q2, .slice A3 t.ends.length q3, .int .i64 t.drop, .int .i64 t.order, .int .i64 t.initial] 25)) w' → Ext w' w'' → (∀ i, w''.cell? ⟨w.heap.size, i, none⟩ = #[Value.slice A1 t.rules.length q1, .slice A2 t.drops.length q2, .slice A3 t.ends.length q3, .int .i64 t.drop, .int .i64 t.order, .int .i64 t.initial][i]?) ∧ Ext (w.alloc (.cells #[.slice A1 t.rules.length q1, .slice A2 t.drops.length q2, .slice A3 t.ends.length q3, .int .i64 t.drop, .int .i64 t.order, .int .i64 t.initial] 25)) w'' := fun w' w'' h1 h2 => ⟨(cells_new1 (Ext.trans h1 h2)).1, Ext.trans h1 h2⟩
  have HBOX := Lib.hid hbox
  have HV2 : Hid (validS t = ((costS t.drop && costS t.order && costS t.initial) && (distinctB (t.rules.map Rul.key) && t.rules.all ruleOK) && (distinctB (t.drops.map Drp.key) && t.drops.all (dropOK 12)) && (distinctB (t.ends.map Drp.key) && t.ends.all (dropOK 4)))) := Lib.hid (by
    rw [HV.out, HNE.out, decide_eq_false h0, decide_eq_true (p := t.rules.length ≤ 80) (by omega), decide_eq_true (p := t.drops.length ≤ 40) (by omega), decide_eq_true (p := t.ends.length ≤ 40) (by omega)]
    simp)
  have hcur : Ext (w.alloc (.cells #[.slice A1 t.rules.length q1, .slice A2 t.drops.length q2, .slice A3 t.ends.length q3, .int .i64 t.drop, .int .i64 t.order, .int .i64 t.initial] 25)) (w.alloc (.cells #[.slice A1 t.rules.length q1, .slice A2 t.drops.length q2, .slice A3 t.ends.length q3, .int .i64 t.drop, .int .i64 t.order, .int .i64 t.initial] 25)) := Below.refl _ _
  clear HV HNE h0 h80 h40 h41 hbox hrules hdrops hends hrfit hdfit hefit hfr hfd hfe
  generalize (distinctB (t.rules.map Rul.key) && t.rules.all ruleOK) = b4 at HR HV2
  generalize (distinctB (t.drops.map Drp.key) && t.drops.all (dropOK 12)) = b5 at HD1 HV2
  generalize (distinctB (t.ends.map Drp.key) && t.ends.all (dropOK 4)) = b6 at HD2 HV2
  generalize validS t = V at HV2 ⊢
  generalize costS t.drop = b1 at HC1 HV2
  generalize costS t.order = b2 at HC2 HV2
  generalize costS t.initial = b3 at HC3 HV2
  have hcases := six_cases b1 b2 b3 b4 b5 b6
  rw [← HV2.out] at hcases
  clear HV2
  rcases hcases with ⟨rfl, rfl | ⟨rfl, rfl⟩ | ⟨rfl, rfl, rfl⟩ | ⟨rfl, rfl, rfl, rfl⟩ | ⟨rfl, rfl, rfl, rfl, rfl⟩⟩ | ⟨rfl, rfl, rfl, rfl, rfl, rfl⟩
  all_goals
    go_enter Tryz.func31, Tryz.ntmps31
    go_wp2_with (first | (go_at_call 47; (with_reducible refine (HC1.out _).mono ?_); rintro e wn ⟨hb1, rfl⟩; have hcx := HBOX.out _ _ hcur hb1; obtain ⟨k1, hcur⟩ := hcx) | (go_at_call 47; (with_reducible refine (HC2.out _).mono ?_); rintro e wn ⟨hb1, rfl⟩; have hcx := HBOX.out _ _ hcur hb1; obtain ⟨k1, hcur⟩ := hcx) | (go_at_call 47; (with_reducible refine (HC3.out _).mono ?_); rintro e wn ⟨hb1, rfl⟩; have hcx := HBOX.out _ _ hcur hb1; obtain ⟨k1, hcur⟩ := hcx) | (go_at_call 48; (with_reducible refine (HR.out _ (by assumption)).mono ?_); rintro e wn ⟨hb1, rfl⟩; have hcx := HBOX.out _ _ hcur hb1; obtain ⟨k1, hcur⟩ := hcx) | (go_at_call 49; (with_reducible refine (HD1.out _ (by assumption)).mono ?_); rintro e wn ⟨hb1, rfl⟩; have hcx := HBOX.out _ _ hcur hb1; obtain ⟨k1, hcur⟩ := hcx) | (go_at_call 49; (with_reducible refine (HD2.out _ (by assumption)).mono ?_); rintro e wn ⟨hb1, rfl⟩; have hcx := HBOX.out _ _ hcur hb1; obtain ⟨k1, hcur⟩ := hcx))
    go_ret
    exact ⟨HW.out _ hcur, rfl⟩
end Go.Proofs.YtkkbkhcapogobaaGreatDoor
