/- Contracts: side.written. -/
import Derived.Test.YtkkbkhcapogobaaGreatDoorE4
namespace Go.Proofs.YtkkbkhcapogobaaGreatDoor
open Go Go.RowKit Go.Lib Go.Proofs S Go.Shelf Go.Maps Go.WideMaps
set_option linter.unusedVariables false
set_option linter.unusedSimpArgs false

theorem idx_find (rs : List MR) (i : Int) : (idxM rs i = -1 ∧ (rs.map (·.1)).find? (fun r => decide (r.index = i)) = none) ∨ ∃ (k : Nat) (x : MR), idxM rs i = k ∧ rs[k]? = some x ∧ (rs.map (·.1)).find? (fun r => decide (r.index = i)) = some x.1 := by
  unfold idxM
  have hp : ∀ r : ARule, decide (r.index = i) = (r.index == i) := fun r => rfl
  cases h : rs.findIdx? (fun r => r.1.index == i) with
  | none =>
    refine .inl ⟨rfl, ?_⟩
    rw [List.find?_eq_none]
    rw [List.findIdx?_eq_none_iff] at h
    intro x hx
    obtain ⟨y, hy, rfl⟩ := List.mem_map.1 hx
    have := h y hy
    simpa using this
  | some k =>
    rw [List.findIdx?_eq_some_iff_getElem] at h
    obtain ⟨hk, h1, h2⟩ := h
    refine .inr ⟨k, rs[k], rfl, List.getElem?_eq_getElem hk, ?_⟩
    rw [List.find?_eq_some_iff_getElem]
    refine ⟨by simpa using h1, k, by simpa using hk, by simp, fun j hj => ?_⟩
    have := h2 j hj
    simpa using this

set_option maxRecDepth 100000 in
set_option maxHeartbeats 4000000 in
/-- (align.side).written. -/
theorem written_any (m : MSide) (A2 : Option Addr) (q2 : Nat) (is : List Int) (w : World) (hm : m.At w) (fm : Fine m.side) (hi : ElemsAt w A2 1 (is.map (fun i => [Value.int .i64 i]))) (hl : is.length ≤ 1000) :
    Calls Tryz.prog 23 #[sideVal m, .slice A2 is.length q2] w fun e w' => Ext w w' ∧ e = .returned (.tuple #[.string (B (writtenS m.side is).1), .int .i64 (writtenS m.side is).2.1, .bool (writtenS m.side is).2.2]) := by
  obtain ⟨sd, hsd⟩ : ∃ sd, m.side = sd := ⟨_, rfl⟩
  have hsl : sd.letters = m.letters := by rw [← hsd]; rfl
  have hsr : sd.rules = m.rules.map (·.1) := by rw [← hsd]; rfl
  rw [hsd] at fm
  rw [hsd]
  clear hsd
  have HSL := Lib.hid hsl
  have HSR := Lib.hid hsr
  clear hsl hsr
  have hlets := hm.lets
  have helems := hm.elems
  have hfrms := hm.frms
  have hmlen := hm.len
  unfold sideVal
  clear hm
  obtain ⟨ls, lg, lc, mA, mrc, mrs⟩ := m
  dsimp only at *
  have hml := hlets.few
  have HWS : Hid (∀ r, writtenF sd is 0 [] 0 = r → writtenS sd is = match r with | none => ([], 0, false) | some (a, f, c) => (f, c, decide (a = ls.length))) := Lib.hid (fun r h => by unfold writtenS; rw [h, ← HSL.out]; rfl)
  go_enter Tryz.func23, Tryz.ntmps23
  go_wp2
  have hbx := World.alloc_heap_new w (.cells #[letVal lg lc ls, .slice mA mrs.length mrc] 41)
  have hex := Ext.new w (.cells #[letVal lg lc ls, .slice mA mrs.length mrc] 41)
  go_loopw [13, 4, 5, 7] (fun v f c at0 wr => ∃ (k : Nat) (fs : Str) (cs : Int) (an : Nat), k ≤ is.length ∧ v = .int .i64 k ∧ f = .string (B fs) ∧ c = .int .i64 cs ∧ at0 = .int .i64 an ∧ Ext w wr ∧ wr.heap[w.heap.size]? = some (.cells #[letVal lg lc ls, .slice mA mrs.length mrc] 41) ∧ writtenF sd is 0 [] 0 = writtenF sd (is.drop k) an fs cs ∧ an ≤ 12 ∧ fs.length ≤ 3 * k ∧ 0 ≤ cs ∧ cs ≤ 1000 * k) (fun v _ _ _ _ => is.length - (intOf v).toNat)
  case atStart => exact ⟨0, [], 0, 0, Nat.zero_le _, rfl, rfl, rfl, rfl, hex, hbx, rfl, by omega, by simp, by omega, by omega⟩
  case round =>
    rename_i hrel
    obtain ⟨k, fs, cs, an, hk, rfl, rfl, rfl, rfl, hb, hbk, hwf, han, hfs, hc0, hc1⟩ := hrel
    clear hbx hex
    have hcb := cell_of hbk
    by_cases hkk : k < is.length
    · have hx : is[k]? = some is[k] := List.getElem?_eq_getElem hkk
      obtain ⟨a2, rfl, hcells⟩ := (hi.ext hb).elem hx
      have hdrop : is.drop k = is[k] :: is.drop (k + 1) := List.drop_eq_getElem_cons hkk
      rw [hdrop] at hwf
      generalize is[k] = i at hx hcells hwf hdrop
      have ci : wr.cell? (a2.add (k * 1)) = some (.int .i64 i) := by have := hcells 0 _ rfl; rwa [Addr.add_zero] at this
      simp only [Nat.mul_one] at ci
      have hidx : ∀ w1, Ext (wr.alloc (.cells #[.int .i64 i] 3)) w1 → True := fun _ _ => trivial
      have hme := helems.ext (Ext.trans hb (Ext.new wr (.cells #[.int .i64 i] 3)))
      have HIX := Lib.hid (idx_any mrs mA mrc wr.heap.size i (wr.alloc (.cells #[.int .i64 i] 3)) hmlen hme (World.alloc_heap_new wr _))
      have hca : ∀ o n, (wr.alloc o).cell? ⟨w.heap.size, n, none⟩ = #[letVal lg lc ls, .slice mA mrs.length mrc][n]? := fun o => cell_of (block_ext hbk (Ext.new wr o))
      have hback : ∀ o w1, Ext (wr.alloc o) w1 → Ext w w1 ∧ w1.heap[w.heap.size]? = some (.cells #[letVal lg lc ls, .slice mA mrs.length mrc] 41) := fun o w1 h => by
        have h1 := Ext.trans (Ext.new wr o) h
        exact ⟨Ext.trans hb h1, block_ext hbk h1⟩
      have HBACK := Lib.hid hback
      have HWF := Lib.hid hwf
      have HI := Lib.hid hi
      clear hidx hme hback hwf hcells hdrop hx hi
      rcases idx_find mrs i with ⟨h1, h2⟩ | ⟨kk, x, h1, h2, h3⟩
      · rw [h1] at HIX
        have HR : Hid (writtenS sd is = ([], 0, false)) := Lib.hid (HWS.out none (by rw [HWF.out]; unfold writtenF; rw [HSR.out, h2]))
        clear h1 h2
        go_upto_region 6 with (go_at_call 37; (with_reducible refine (HIX.out).mono ?_); rintro e w1 ⟨rfl, hb1⟩; obtain ⟨hx1, hbk1⟩ := HBACK.out _ _ hb1)
        have hHeld : (fun _ : World => True) w1.drew := trivial
        refine wp_region_held_drew (S := fun _ => True) Tryz.mixed hHeld ?_
        intro _
        refine wpAnyH_take (i := 0) (v := ?_) rfl (by kernel_rfl) (by kernel_rfl) (by kernel_rfl) (fun _ _ _ h => h) (Or.inl ⟨by rfl, ?_⟩) (by assumption) ?_
        rotate_left
        · (intro w hSw; (try dsimp only at hSw); go_split_ands; go_simp; first | done | with_reducible rfl)
        simp only [List.getElem_toArray, List.getElem_cons_succ, List.getElem_cons_zero, Act.put, List.setIfInBounds_toArray, List.set_cons_zero, List.set_cons_succ]
        refine wpAnyH_take (i := 1) (v := ?_) rfl (by kernel_rfl) (by kernel_rfl) (by kernel_rfl) (fun _ _ _ h => h) (Or.inl ⟨by rfl, ?_⟩) (by assumption) ?_
        rotate_left
        · (intro w hSw; (try dsimp only at hSw); go_split_ands; go_simp; first | done | with_reducible rfl)
        simp only [List.getElem_toArray, List.getElem_cons_succ, List.getElem_cons_zero, Act.put, List.setIfInBounds_toArray, List.set_cons_zero, List.set_cons_succ]
        refine wpAnyH_take (i := 2) (v := ?_) rfl (by kernel_rfl) (by kernel_rfl) (by kernel_rfl) (fun _ _ _ h => h) (Or.inl ⟨by rfl, ?_⟩) (by assumption) ?_
        rotate_left
        · (intro w hSw; (try dsimp only at hSw); go_split_ands; go_simp; first | done | with_reducible rfl)
        simp only [List.getElem_toArray, List.getElem_cons_succ, List.getElem_cons_zero, Act.put, List.setIfInBounds_toArray, List.set_cons_zero, List.set_cons_succ]
        refine wpAnyH_take (i := 3) (v := undef) rfl (by kernel_rfl) (by kernel_rfl) (by kernel_rfl) (fun _ _ _ h => h) (Or.inr ⟨by kernel_rfl, rfl⟩) (by assumption) ?_
        simp only [List.getElem_toArray, List.getElem_cons_succ, List.getElem_cons_zero, Act.put, List.setIfInBounds_toArray, List.set_cons_zero, List.set_cons_succ]
        refine wpAnyH_take (i := 4) (v := undef) rfl (by kernel_rfl) (by kernel_rfl) (by kernel_rfl) (fun _ _ _ h => h) (Or.inr ⟨by kernel_rfl, rfl⟩) (by assumption) ?_
        simp only [List.getElem_toArray, List.getElem_cons_succ, List.getElem_cons_zero, Act.put, List.setIfInBounds_toArray, List.set_cons_zero, List.set_cons_succ]
        refine wpAnyH_take (i := 5) (v := undef) rfl (by kernel_rfl) (by kernel_rfl) (by kernel_rfl) (fun _ _ _ h => h) (Or.inr ⟨by kernel_rfl, rfl⟩) (by assumption) ?_
        simp only [List.getElem_toArray, List.getElem_cons_succ, List.getElem_cons_zero, Act.put, List.setIfInBounds_toArray, List.set_cons_zero, List.set_cons_succ]
        refine wpAnyH_take (i := 6) (v := undef) rfl (by kernel_rfl) (by kernel_rfl) (by kernel_rfl) (fun _ _ _ h => h) (Or.inr ⟨by kernel_rfl, rfl⟩) (by assumption) ?_
        simp only [List.getElem_toArray, List.getElem_cons_succ, List.getElem_cons_zero, Act.put, List.setIfInBounds_toArray, List.set_cons_zero, List.set_cons_succ]
        refine wpAnyH_take (i := 7) (v := undef) rfl (by kernel_rfl) (by kernel_rfl) (by kernel_rfl) (fun _ _ _ h => h) (Or.inr ⟨by kernel_rfl, rfl⟩) (by assumption) ?_
        simp only [List.getElem_toArray, List.getElem_cons_succ, List.getElem_cons_zero, Act.put, List.setIfInBounds_toArray, List.set_cons_zero, List.set_cons_succ]
        refine wpAnyH_take (i := 8) (v := undef) rfl (by kernel_rfl) (by kernel_rfl) (by kernel_rfl) (fun _ _ _ h => h) (Or.inr ⟨by kernel_rfl, rfl⟩) (by assumption) ?_
        simp only [List.getElem_toArray, List.getElem_cons_succ, List.getElem_cons_zero, Act.put, List.setIfInBounds_toArray, List.set_cons_zero, List.set_cons_succ]
        refine wpAnyH_take (i := 9) (v := undef) rfl (by kernel_rfl) (by kernel_rfl) (by kernel_rfl) (fun _ _ _ h => h) (Or.inr ⟨by kernel_rfl, rfl⟩) (by assumption) ?_
        simp only [List.getElem_toArray, List.getElem_cons_succ, List.getElem_cons_zero, Act.put, List.setIfInBounds_toArray, List.set_cons_zero, List.set_cons_succ]
        refine wpAnyH_take (i := 10) (v := undef) rfl (by kernel_rfl) (by kernel_rfl) (by kernel_rfl) (fun _ _ _ h => h) (Or.inr ⟨by kernel_rfl, rfl⟩) (by assumption) ?_
        simp only [List.getElem_toArray, List.getElem_cons_succ, List.getElem_cons_zero, Act.put, List.setIfInBounds_toArray, List.set_cons_zero, List.set_cons_succ]
        refine wpAnyH_take (i := 11) (v := undef) rfl (by kernel_rfl) (by kernel_rfl) (by kernel_rfl) (fun _ _ _ h => h) (Or.inr ⟨by kernel_rfl, rfl⟩) (by assumption) ?_
        simp only [List.getElem_toArray, List.getElem_cons_succ, List.getElem_cons_zero, Act.put, List.setIfInBounds_toArray, List.set_cons_zero, List.set_cons_succ]
        refine wpAnyH_take (i := 12) (v := ?_) rfl (by kernel_rfl) (by kernel_rfl) (by kernel_rfl) (fun _ _ _ h => h) (Or.inl ⟨by rfl, ?_⟩) (by assumption) ?_
        rotate_left
        · (intro w hSw; (try dsimp only at hSw); go_split_ands; go_simp; first | done | with_reducible rfl)
        simp only [List.getElem_toArray, List.getElem_cons_succ, List.getElem_cons_zero, Act.put, List.setIfInBounds_toArray, List.set_cons_zero, List.set_cons_succ]
        refine wpAnyH_done (by kernel_rfl) ?_ _
        go_wp2
        refine bodyPost_ret (v := .tuple #[.string ⟨#[]⟩, .int .i64 0, .bool false]) (by simp [results, Tryz.results23, go_sem]) rfl ?_
        exact ⟨⟨hx1.os, hx1.tape, hx1.output, hx1.size, hx1.block⟩, by rw [HR.out]⟩
      · rw [h1] at HIX
        obtain ⟨⟨ri, rc, rf, rto⟩, g2, c2⟩ := x
        have hkl : kk < mrs.length := (List.getElem?_eq_some_iff.1 h2).1
        have hmem : ((⟨ri, rc, rf, rto⟩ : ARule), g2, c2) ∈ mrs := List.mem_of_getElem? h2
        have hmemS : (⟨ri, rc, rf, rto⟩ : ARule) ∈ sd.rules := by rw [HSR.out]; exact List.mem_map.2 ⟨_, hmem, rfl⟩
        have hcost := fm.cost _ hmemS
        have hshort := fm.short _ hmemS
        dsimp only at hcost hshort
        have hfr := hfrms _ hmem
        have hrf := hfr.few
        have hlen := hmlen
        obtain ⟨a, rfl, hcl⟩ := helems.elem h2
        have hst : writtenF sd (i :: is.drop (k + 1)) an fs cs = if fitsL ls rf an then writtenF sd (is.drop (k + 1)) (an + rf.length) (fs ++ rto) (cs + rc) else none := by
          rw [writtenF]
          have h3' : sd.rules.find? (fun r => decide (r.index = i)) = some ⟨ri, rc, rf, rto⟩ := by rw [HSR.out]; exact h3
          rw [h3']; show (if fitsL sd.letters rf an then _ else _) = _; rw [HSL.out]
        have hfit := fun w' (hb : Ext w w') => fits_any lg lc g2 c2 ls rf (.slice (some a) mrs.length mrc) ri rc (B rto) an w' (hlets.ext hb) (hfr.ext hb) (by omega)
        obtain ⟨d0, d1, d2, d3⟩ := elem4 hcl
        have HST := Lib.hid hst
        have hcells2 : ∀ w', Ext w w' → w'.heap[w.heap.size]? = some (.cells #[letVal lg lc ls, .slice (some a) mrs.length mrc] 41) → (fun w' : World => w'.cell? ⟨w.heap.size, 0, none⟩ = some (letVal lg lc ls) ∧ w'.cell? ⟨w.heap.size, 1, none⟩ = some (.slice (some a) mrs.length mrc) ∧ w'.cell? (a.add (kk * 4)) = some (.int .i64 ri) ∧ w'.cell? { block := (a.add (kk * 4)).block, off := (a.add (kk * 4)).off + 1 } = some (.int .i64 rc) ∧ w'.cell? { block := (a.add (kk * 4)).block, off := (a.add (kk * 4)).off + 2 } = some (letVal g2 c2 rf) ∧ w'.cell? { block := (a.add (kk * 4)).block, off := (a.add (kk * 4)).off + 3 } = some (.string (B rto))) w' := fun w' h hb => by
          have hc := Cells.of_ext h
          have h0 := cell_of hb 0
          have h1 := cell_of hb 1
          exact ⟨h0, h1, hc _ _ d0, hc _ _ d1, hc _ _ d2, hc _ _ d3⟩
        have HCS := Lib.hid hcells2
        have HFIT := Lib.hid hfit
        have hkl2 : (kk : Int) < mrs.length := by omega
        have hkl0 : (0 : Int) ≤ kk := by omega
        have hnk : ¬ ((kk : Int) < 0) := by omega
        clear h1 h2 h3 hst hfit hcl hmem hmemS hfr hcells2 d0 d1 d2 d3
        cases hb6 : fitsL ls rf an
        case false =>
          have HR : Hid (writtenS sd is = ([], 0, false)) := Lib.hid (HWS.out none (by rw [HWF.out, HST.out, hb6]; rfl))
          have HF : Hid (∀ w', Ext w w' → Calls Tryz.prog 29 #[.agg #[letVal lg lc ls, .slice (some a) mrs.length mrc], .agg #[.int .i64 ri, .int .i64 rc, letVal g2 c2 rf, .string (B rto)], .int .i64 an] w' fun e w'' => e = .returned (.bool false) ∧ Ext w' w'') := Lib.hid (fun w' h => hb6 ▸ HFIT.out w' h)
          clear hb6
          go_upto_region 6 with (go_at_call 37; (with_reducible refine (HIX.out).mono ?_); rintro e w1 ⟨rfl, hb1⟩; obtain ⟨hx1, hbk1⟩ := HBACK.out _ _ hb1)
          have hd : Ext w w1.drew := ⟨hx1.os, hx1.tape, hx1.output, hx1.size, hx1.block⟩
          have hHeld : (fun w' : World => w'.cell? ⟨w.heap.size, 0, none⟩ = some (letVal lg lc ls) ∧ w'.cell? ⟨w.heap.size, 1, none⟩ = some (.slice (some a) mrs.length mrc) ∧ w'.cell? (a.add (kk * 4)) = some (.int .i64 ri) ∧ w'.cell? { block := (a.add (kk * 4)).block, off := (a.add (kk * 4)).off + 1 } = some (.int .i64 rc) ∧ w'.cell? { block := (a.add (kk * 4)).block, off := (a.add (kk * 4)).off + 2 } = some (letVal g2 c2 rf) ∧ w'.cell? { block := (a.add (kk * 4)).block, off := (a.add (kk * 4)).off + 3 } = some (.string (B rto))) w1.drew := HCS.out _ hd hbk1
          refine wp_region_held_drew (S := (fun w' : World => w'.cell? ⟨w.heap.size, 0, none⟩ = some (letVal lg lc ls) ∧ w'.cell? ⟨w.heap.size, 1, none⟩ = some (.slice (some a) mrs.length mrc) ∧ w'.cell? (a.add (kk * 4)) = some (.int .i64 ri) ∧ w'.cell? { block := (a.add (kk * 4)).block, off := (a.add (kk * 4)).off + 1 } = some (.int .i64 rc) ∧ w'.cell? { block := (a.add (kk * 4)).block, off := (a.add (kk * 4)).off + 2 } = some (letVal g2 c2 rf) ∧ w'.cell? { block := (a.add (kk * 4)).block, off := (a.add (kk * 4)).off + 3 } = some (.string (B rto)))) Tryz.mixed hHeld ?_
          intro _
          refine wpAnyH_take (i := 0) (v := ?_) rfl (by kernel_rfl) (by kernel_rfl) (by kernel_rfl) (fun _ _ _ h => h) (Or.inl ⟨by rfl, ?_⟩) (by assumption) ?_
          rotate_left
          · (intro w hSw; (try dsimp only at hSw); go_split_ands; go_simp; first | done | with_reducible rfl)
          simp only [List.getElem_toArray, List.getElem_cons_succ, List.getElem_cons_zero, Act.put, List.setIfInBounds_toArray, List.set_cons_zero, List.set_cons_succ]
          refine wpAnyH_take (i := 1) (v := ?_) rfl (by kernel_rfl) (by kernel_rfl) (by kernel_rfl) (fun _ _ _ h => h) (Or.inl ⟨by rfl, ?_⟩) (by assumption) ?_
          rotate_left
          · (intro w hSw; (try dsimp only at hSw); go_split_ands; go_simp; first | done | with_reducible rfl)
          simp only [List.getElem_toArray, List.getElem_cons_succ, List.getElem_cons_zero, Act.put, List.setIfInBounds_toArray, List.set_cons_zero, List.set_cons_succ]
          refine wpAnyH_take (i := 2) (v := ?_) rfl (by kernel_rfl) (by kernel_rfl) (by kernel_rfl) (fun _ _ _ h => h) (Or.inl ⟨by rfl, ?_⟩) (by assumption) ?_
          rotate_left
          · (intro w hSw; (try dsimp only at hSw); go_split_ands; go_simp; first | done | with_reducible rfl)
          simp only [List.getElem_toArray, List.getElem_cons_succ, List.getElem_cons_zero, Act.put, List.setIfInBounds_toArray, List.set_cons_zero, List.set_cons_succ]
          refine wpAnyH_take (i := 3) (v := ?_) rfl (by kernel_rfl) (by kernel_rfl) (by kernel_rfl) (fun _ _ _ h => h) (Or.inl ⟨by rfl, ?_⟩) (by assumption) ?_
          rotate_left
          · (intro w hSw; (try dsimp only at hSw); go_split_ands; go_simp; first | done | with_reducible rfl)
          simp only [List.getElem_toArray, List.getElem_cons_succ, List.getElem_cons_zero, Act.put, List.setIfInBounds_toArray, List.set_cons_zero, List.set_cons_succ]
          refine wpAnyH_take (i := 4) (v := ?_) rfl (by kernel_rfl) (by kernel_rfl) (by kernel_rfl) (fun _ _ _ h => h) (Or.inl ⟨by rfl, ?_⟩) (by assumption) ?_
          rotate_left
          · (intro w hSw; (try dsimp only at hSw); go_split_ands; go_simp; first | done | with_reducible rfl)
          simp only [List.getElem_toArray, List.getElem_cons_succ, List.getElem_cons_zero, Act.put, List.setIfInBounds_toArray, List.set_cons_zero, List.set_cons_succ]
          refine wpAnyH_take (i := 5) (v := ?_) rfl (by kernel_rfl) (by kernel_rfl) (by kernel_rfl) (fun _ _ _ h => h) (Or.inl ⟨by rfl, ?_⟩) (by assumption) ?_
          rotate_left
          · (intro w hSw; (try dsimp only at hSw); go_split_ands; go_simp; first | done | with_reducible rfl)
          simp only [List.getElem_toArray, List.getElem_cons_succ, List.getElem_cons_zero, Act.put, List.setIfInBounds_toArray, List.set_cons_zero, List.set_cons_succ]
          refine wpAnyH_take (i := 6) (v := ?_) rfl (by kernel_rfl) (by kernel_rfl) (by kernel_rfl) (fun _ _ _ h => h) (Or.inl ⟨by rfl, ?_⟩) (by assumption) ?_
          rotate_left
          · (intro w hSw; (try dsimp only at hSw); go_split_ands; go_simp; first | done | with_reducible rfl)
          simp only [List.getElem_toArray, List.getElem_cons_succ, List.getElem_cons_zero, Act.put, List.setIfInBounds_toArray, List.set_cons_zero, List.set_cons_succ]
          refine wpAnyH_take (i := 7) (v := ?_) rfl (by kernel_rfl) (by kernel_rfl) (by kernel_rfl) (fun _ _ _ h => h) (Or.inl ⟨by rfl, ?_⟩) (by assumption) ?_
          rotate_left
          · (intro w hSw; (try dsimp only at hSw); go_split_ands; go_simp; first | done | with_reducible rfl)
          simp only [List.getElem_toArray, List.getElem_cons_succ, List.getElem_cons_zero, Act.put, List.setIfInBounds_toArray, List.set_cons_zero, List.set_cons_succ]
          refine wpAnyH_take (i := 8) (v := ?_) rfl (by kernel_rfl) (by kernel_rfl) (by kernel_rfl) (fun _ _ _ h => h) (Or.inl ⟨by rfl, ?_⟩) (by assumption) ?_
          rotate_left
          · (intro w hSw; (try dsimp only at hSw); go_split_ands; go_simp; first | done | with_reducible rfl)
          simp only [List.getElem_toArray, List.getElem_cons_succ, List.getElem_cons_zero, Act.put, List.setIfInBounds_toArray, List.set_cons_zero, List.set_cons_succ]
          refine wpAnyH_take (i := 9) (v := ?_) rfl (by kernel_rfl) (by kernel_rfl) (by kernel_rfl) (fun _ _ _ h => h) (Or.inl ⟨by rfl, ?_⟩) (by assumption) ?_
          rotate_left
          · (intro w hSw; (try dsimp only at hSw); go_split_ands; go_simp; first | done | with_reducible rfl)
          simp only [List.getElem_toArray, List.getElem_cons_succ, List.getElem_cons_zero, Act.put, List.setIfInBounds_toArray, List.set_cons_zero, List.set_cons_succ]
          refine wpAnyH_ready (rs := [10]) (by kernel_rfl) (by simp) ?_
          refine AllReadyH.cons rfl (fun K hK => ?_) ?_
          · (go_simp; (with_reducible refine (HF.out _ hd).mono ?_); rintro e w5 ⟨rfl, hb5⟩; have hS5 := HCS.out _ (Ext.trans hd hb5) (block_ext (w := w1.drew) hbk1 hb5))
            refine hK.out _ _ ?_ (fun hHeld => ?_)
            · first | go_keep | exact hS5
            clear hK K
            refine wpAnyH_take (i := 11) (v := ?_) rfl (by kernel_rfl) (by kernel_rfl) (by kernel_rfl) (fun _ _ _ h => h) (Or.inl ⟨by rfl, ?_⟩) (by assumption) ?_
            rotate_left
            · (intro w hSw; (try dsimp only at hSw); go_split_ands; go_simp; first | done | with_reducible rfl)
            simp only [List.getElem_toArray, List.getElem_cons_succ, List.getElem_cons_zero, Act.put, List.setIfInBounds_toArray, List.set_cons_zero, List.set_cons_succ]
            refine wpAnyH_take (i := 12) (v := ?_) rfl (by kernel_rfl) (by kernel_rfl) (by kernel_rfl) (fun _ _ _ h => h) (Or.inl ⟨by rfl, ?_⟩) (by assumption) ?_
            rotate_left
            · (intro w hSw; (try dsimp only at hSw); go_split_ands; go_simp; first | done | with_reducible rfl)
            simp only [List.getElem_toArray, List.getElem_cons_succ, List.getElem_cons_zero, Act.put, List.setIfInBounds_toArray, List.set_cons_zero, List.set_cons_succ]
            refine wpAnyH_done (by kernel_rfl) ?_ _
            go_wp2
            refine bodyPost_ret (v := .tuple #[.string ⟨#[]⟩, .int .i64 0, .bool false]) (by simp [results, Tryz.results23, go_sem]) rfl ?_
            exact ⟨Ext.trans hd hb5, by rw [HR.out]⟩
          exact AllReadyH.nil
        case true =>
          have hle : an + rf.length ≤ ls.length := by unfold fitsL at hb6; simp only [Bool.and_eq_true, decide_eq_true_eq] at hb6; exact hb6.1
          have HF : Hid (∀ w', Ext w w' → Calls Tryz.prog 29 #[.agg #[letVal lg lc ls, .slice (some a) mrs.length mrc], .agg #[.int .i64 ri, .int .i64 rc, letVal g2 c2 rf, .string (B rto)], .int .i64 an] w' fun e w'' => e = .returned (.bool true) ∧ Ext w' w'') := Lib.hid (fun w' h => hb6 ▸ HFIT.out w' h)
          have HREL : Hid (writtenF sd is 0 [] 0 = writtenF sd (is.drop (k + 1)) (an + rf.length) (fs ++ rto) (cs + rc)) := Lib.hid (by rw [HWF.out, HST.out, hb6]; rfl)
          clear hb6
          have hw1 : IntKind.i64.wrap ((an : Int) + rf.length) = an + rf.length := wrap_small (by omega) (by omega)
          have hw2 : IntKind.i64.wrap (cs + rc) = cs + rc := wrap_small (by omega) (by omega)
          have happ : B fs ++ B rto = B (fs ++ rto) := by apply ByteArray.ext; simp [B]
          have hsz3 : (B fs).size = fs.length := rfl
          have hsz4 : (B rto).size = rto.length := rfl
          have hbig : (B fs).size + (B rto).size ≤ maxLen := by unfold maxLen; omega
          go_upto_region 6 with (go_at_call 37; (with_reducible refine (HIX.out).mono ?_); rintro e w1 ⟨rfl, hb1⟩; obtain ⟨hx1, hbk1⟩ := HBACK.out _ _ hb1)
          have hd : Ext w w1.drew := ⟨hx1.os, hx1.tape, hx1.output, hx1.size, hx1.block⟩
          have hHeld : (fun w' : World => w'.cell? ⟨w.heap.size, 0, none⟩ = some (letVal lg lc ls) ∧ w'.cell? ⟨w.heap.size, 1, none⟩ = some (.slice (some a) mrs.length mrc) ∧ w'.cell? (a.add (kk * 4)) = some (.int .i64 ri) ∧ w'.cell? { block := (a.add (kk * 4)).block, off := (a.add (kk * 4)).off + 1 } = some (.int .i64 rc) ∧ w'.cell? { block := (a.add (kk * 4)).block, off := (a.add (kk * 4)).off + 2 } = some (letVal g2 c2 rf) ∧ w'.cell? { block := (a.add (kk * 4)).block, off := (a.add (kk * 4)).off + 3 } = some (.string (B rto))) w1.drew := HCS.out _ hd hbk1
          refine wp_region_held_drew (S := (fun w' : World => w'.cell? ⟨w.heap.size, 0, none⟩ = some (letVal lg lc ls) ∧ w'.cell? ⟨w.heap.size, 1, none⟩ = some (.slice (some a) mrs.length mrc) ∧ w'.cell? (a.add (kk * 4)) = some (.int .i64 ri) ∧ w'.cell? { block := (a.add (kk * 4)).block, off := (a.add (kk * 4)).off + 1 } = some (.int .i64 rc) ∧ w'.cell? { block := (a.add (kk * 4)).block, off := (a.add (kk * 4)).off + 2 } = some (letVal g2 c2 rf) ∧ w'.cell? { block := (a.add (kk * 4)).block, off := (a.add (kk * 4)).off + 3 } = some (.string (B rto)))) Tryz.mixed hHeld ?_
          intro _
          refine wpAnyH_take (i := 0) (v := ?_) rfl (by kernel_rfl) (by kernel_rfl) (by kernel_rfl) (fun _ _ _ h => h) (Or.inl ⟨by rfl, ?_⟩) (by assumption) ?_
          rotate_left
          · (intro w hSw; (try dsimp only at hSw); go_split_ands; go_simp; first | done | with_reducible rfl)
          simp only [List.getElem_toArray, List.getElem_cons_succ, List.getElem_cons_zero, Act.put, List.setIfInBounds_toArray, List.set_cons_zero, List.set_cons_succ]
          refine wpAnyH_take (i := 1) (v := ?_) rfl (by kernel_rfl) (by kernel_rfl) (by kernel_rfl) (fun _ _ _ h => h) (Or.inl ⟨by rfl, ?_⟩) (by assumption) ?_
          rotate_left
          · (intro w hSw; (try dsimp only at hSw); go_split_ands; go_simp; first | done | with_reducible rfl)
          simp only [List.getElem_toArray, List.getElem_cons_succ, List.getElem_cons_zero, Act.put, List.setIfInBounds_toArray, List.set_cons_zero, List.set_cons_succ]
          refine wpAnyH_take (i := 2) (v := ?_) rfl (by kernel_rfl) (by kernel_rfl) (by kernel_rfl) (fun _ _ _ h => h) (Or.inl ⟨by rfl, ?_⟩) (by assumption) ?_
          rotate_left
          · (intro w hSw; (try dsimp only at hSw); go_split_ands; go_simp; first | done | with_reducible rfl)
          simp only [List.getElem_toArray, List.getElem_cons_succ, List.getElem_cons_zero, Act.put, List.setIfInBounds_toArray, List.set_cons_zero, List.set_cons_succ]
          refine wpAnyH_take (i := 3) (v := ?_) rfl (by kernel_rfl) (by kernel_rfl) (by kernel_rfl) (fun _ _ _ h => h) (Or.inl ⟨by rfl, ?_⟩) (by assumption) ?_
          rotate_left
          · (intro w hSw; (try dsimp only at hSw); go_split_ands; go_simp; first | done | with_reducible rfl)
          simp only [List.getElem_toArray, List.getElem_cons_succ, List.getElem_cons_zero, Act.put, List.setIfInBounds_toArray, List.set_cons_zero, List.set_cons_succ]
          refine wpAnyH_take (i := 4) (v := ?_) rfl (by kernel_rfl) (by kernel_rfl) (by kernel_rfl) (fun _ _ _ h => h) (Or.inl ⟨by rfl, ?_⟩) (by assumption) ?_
          rotate_left
          · (intro w hSw; (try dsimp only at hSw); go_split_ands; go_simp; first | done | with_reducible rfl)
          simp only [List.getElem_toArray, List.getElem_cons_succ, List.getElem_cons_zero, Act.put, List.setIfInBounds_toArray, List.set_cons_zero, List.set_cons_succ]
          refine wpAnyH_take (i := 5) (v := ?_) rfl (by kernel_rfl) (by kernel_rfl) (by kernel_rfl) (fun _ _ _ h => h) (Or.inl ⟨by rfl, ?_⟩) (by assumption) ?_
          rotate_left
          · (intro w hSw; (try dsimp only at hSw); go_split_ands; go_simp; first | done | with_reducible rfl)
          simp only [List.getElem_toArray, List.getElem_cons_succ, List.getElem_cons_zero, Act.put, List.setIfInBounds_toArray, List.set_cons_zero, List.set_cons_succ]
          refine wpAnyH_take (i := 6) (v := ?_) rfl (by kernel_rfl) (by kernel_rfl) (by kernel_rfl) (fun _ _ _ h => h) (Or.inl ⟨by rfl, ?_⟩) (by assumption) ?_
          rotate_left
          · (intro w hSw; (try dsimp only at hSw); go_split_ands; go_simp; first | done | with_reducible rfl)
          simp only [List.getElem_toArray, List.getElem_cons_succ, List.getElem_cons_zero, Act.put, List.setIfInBounds_toArray, List.set_cons_zero, List.set_cons_succ]
          refine wpAnyH_take (i := 7) (v := ?_) rfl (by kernel_rfl) (by kernel_rfl) (by kernel_rfl) (fun _ _ _ h => h) (Or.inl ⟨by rfl, ?_⟩) (by assumption) ?_
          rotate_left
          · (intro w hSw; (try dsimp only at hSw); go_split_ands; go_simp; first | done | with_reducible rfl)
          simp only [List.getElem_toArray, List.getElem_cons_succ, List.getElem_cons_zero, Act.put, List.setIfInBounds_toArray, List.set_cons_zero, List.set_cons_succ]
          refine wpAnyH_take (i := 8) (v := ?_) rfl (by kernel_rfl) (by kernel_rfl) (by kernel_rfl) (fun _ _ _ h => h) (Or.inl ⟨by rfl, ?_⟩) (by assumption) ?_
          rotate_left
          · (intro w hSw; (try dsimp only at hSw); go_split_ands; go_simp; first | done | with_reducible rfl)
          simp only [List.getElem_toArray, List.getElem_cons_succ, List.getElem_cons_zero, Act.put, List.setIfInBounds_toArray, List.set_cons_zero, List.set_cons_succ]
          refine wpAnyH_take (i := 9) (v := ?_) rfl (by kernel_rfl) (by kernel_rfl) (by kernel_rfl) (fun _ _ _ h => h) (Or.inl ⟨by rfl, ?_⟩) (by assumption) ?_
          rotate_left
          · (intro w hSw; (try dsimp only at hSw); go_split_ands; go_simp; first | done | with_reducible rfl)
          simp only [List.getElem_toArray, List.getElem_cons_succ, List.getElem_cons_zero, Act.put, List.setIfInBounds_toArray, List.set_cons_zero, List.set_cons_succ]
          refine wpAnyH_ready (rs := [10]) (by kernel_rfl) (by simp) ?_
          refine AllReadyH.cons rfl (fun K hK => ?_) ?_
          · (go_simp; (with_reducible refine (HF.out _ hd).mono ?_); rintro e w5 ⟨rfl, hb5⟩; have hS5 := HCS.out _ (Ext.trans hd hb5) (block_ext (w := w1.drew) hbk1 hb5))
            refine hK.out _ _ ?_ (fun hHeld => ?_)
            · first | go_keep | exact hS5
            clear hK K
            refine wpAnyH_take (i := 11) (v := ?_) rfl (by kernel_rfl) (by kernel_rfl) (by kernel_rfl) (fun _ _ _ h => h) (Or.inl ⟨by rfl, ?_⟩) (by assumption) ?_
            rotate_left
            · (intro w hSw; (try dsimp only at hSw); go_split_ands; go_simp; first | done | with_reducible rfl)
            simp only [List.getElem_toArray, List.getElem_cons_succ, List.getElem_cons_zero, Act.put, List.setIfInBounds_toArray, List.set_cons_zero, List.set_cons_succ]
            refine wpAnyH_take (i := 12) (v := ?_) rfl (by kernel_rfl) (by kernel_rfl) (by kernel_rfl) (fun _ _ _ h => h) (Or.inl ⟨by rfl, ?_⟩) (by assumption) ?_
            rotate_left
            · (intro w hSw; (try dsimp only at hSw); go_split_ands; go_simp; first | done | with_reducible rfl)
            simp only [List.getElem_toArray, List.getElem_cons_succ, List.getElem_cons_zero, Act.put, List.setIfInBounds_toArray, List.set_cons_zero, List.set_cons_succ]
            refine wpAnyH_done (by kernel_rfl) ?_ _
            obtain ⟨t0, t1, t2, t3, t4, t5⟩ := hS5
            clear hHeld
            go_wp2
            go_roundw
            case rel => exact ⟨k + 1, fs ++ rto, cs + rc, an + rf.length, by omega, by simp, rfl, rfl, by simp, Ext.trans hd hb5, block_ext (w := w1.drew) hbk1 hb5, HREL.out, by omega, by simp; omega, by omega, by omega⟩
            case measure => simp [intOf]; omega
          exact AllReadyH.nil
    · have hke : k = is.length := by omega
      subst hke
      have HR : Hid (writtenS sd is = (fs, cs, decide (an = ls.length))) := Lib.hid (HWS.out (some (an, fs, cs)) (by rw [hwf, List.drop_length]; rfl))
      clear hwf
      go_upto_region 12 with fail
      have hd : Ext w wr.drew := ⟨hb.os, hb.tape, hb.output, hb.size, hb.block⟩
      have hHeld : (fun w' : World => w'.cell? ⟨w.heap.size, 0, none⟩ = some (letVal lg lc ls)) wr.drew := hcb 0
      refine wp_region_held_drew (S := (fun w' : World => w'.cell? ⟨w.heap.size, 0, none⟩ = some (letVal lg lc ls))) Tryz.mixed hHeld ?_
      intro _
      refine wpAnyH_take (i := 0) (v := ?_) rfl (by kernel_rfl) (by kernel_rfl) (by kernel_rfl) (fun _ _ _ h => h) (Or.inl ⟨by rfl, ?_⟩) (by assumption) ?_
      rotate_left
      · (intro w hSw; (try dsimp only at hSw); go_split_ands; go_simp; first | done | with_reducible rfl)
      simp only [List.getElem_toArray, List.getElem_cons_succ, List.getElem_cons_zero, Act.put, List.setIfInBounds_toArray, List.set_cons_zero, List.set_cons_succ]
      refine wpAnyH_take (i := 1) (v := ?_) rfl (by kernel_rfl) (by kernel_rfl) (by kernel_rfl) (fun _ _ _ h => h) (Or.inl ⟨by rfl, ?_⟩) (by assumption) ?_
      rotate_left
      · (intro w hSw; (try dsimp only at hSw); go_split_ands; go_simp; first | done | with_reducible rfl)
      simp only [List.getElem_toArray, List.getElem_cons_succ, List.getElem_cons_zero, Act.put, List.setIfInBounds_toArray, List.set_cons_zero, List.set_cons_succ]
      refine wpAnyH_take (i := 2) (v := ?_) rfl (by kernel_rfl) (by kernel_rfl) (by kernel_rfl) (fun _ _ _ h => h) (Or.inl ⟨by rfl, ?_⟩) (by assumption) ?_
      rotate_left
      · (intro w hSw; (try dsimp only at hSw); go_split_ands; go_simp; first | done | with_reducible rfl)
      simp only [List.getElem_toArray, List.getElem_cons_succ, List.getElem_cons_zero, Act.put, List.setIfInBounds_toArray, List.set_cons_zero, List.set_cons_succ]
      refine wpAnyH_take (i := 3) (v := ?_) rfl (by kernel_rfl) (by kernel_rfl) (by kernel_rfl) (fun _ _ _ h => h) (Or.inl ⟨by rfl, ?_⟩) (by assumption) ?_
      rotate_left
      · (intro w hSw; (try dsimp only at hSw); go_split_ands; go_simp; first | done | with_reducible rfl)
      simp only [List.getElem_toArray, List.getElem_cons_succ, List.getElem_cons_zero, Act.put, List.setIfInBounds_toArray, List.set_cons_zero, List.set_cons_succ]
      refine wpAnyH_take (i := 4) (v := ?_) rfl (by kernel_rfl) (by kernel_rfl) (by kernel_rfl) (fun _ _ _ h => h) (Or.inl ⟨by rfl, ?_⟩) (by assumption) ?_
      rotate_left
      · (intro w hSw; (try dsimp only at hSw); go_split_ands; go_simp; first | done | with_reducible rfl)
      simp only [List.getElem_toArray, List.getElem_cons_succ, List.getElem_cons_zero, Act.put, List.setIfInBounds_toArray, List.set_cons_zero, List.set_cons_succ]
      refine wpAnyH_take (i := 5) (v := ?_) rfl (by kernel_rfl) (by kernel_rfl) (by kernel_rfl) (fun _ _ _ h => h) (Or.inl ⟨by rfl, ?_⟩) (by assumption) ?_
      rotate_left
      · (intro w hSw; (try dsimp only at hSw); go_split_ands; go_simp; first | done | with_reducible rfl)
      simp only [List.getElem_toArray, List.getElem_cons_succ, List.getElem_cons_zero, Act.put, List.setIfInBounds_toArray, List.set_cons_zero, List.set_cons_succ]
      refine wpAnyH_take (i := 6) (v := ?_) rfl (by kernel_rfl) (by kernel_rfl) (by kernel_rfl) (fun _ _ _ h => h) (Or.inl ⟨by rfl, ?_⟩) (by assumption) ?_
      rotate_left
      · (intro w hSw; (try dsimp only at hSw); go_split_ands; go_simp; first | done | with_reducible rfl)
      simp only [List.getElem_toArray, List.getElem_cons_succ, List.getElem_cons_zero, Act.put, List.setIfInBounds_toArray, List.set_cons_zero, List.set_cons_succ]
      refine wpAnyH_take (i := 7) (v := ?_) rfl (by kernel_rfl) (by kernel_rfl) (by kernel_rfl) (fun _ _ _ h => h) (Or.inl ⟨by rfl, ?_⟩) (by assumption) ?_
      rotate_left
      · (intro w hSw; (try dsimp only at hSw); go_split_ands; go_simp; first | done | with_reducible rfl)
      simp only [List.getElem_toArray, List.getElem_cons_succ, List.getElem_cons_zero, Act.put, List.setIfInBounds_toArray, List.set_cons_zero, List.set_cons_succ]
      refine wpAnyH_take (i := 8) (v := ?_) rfl (by kernel_rfl) (by kernel_rfl) (by kernel_rfl) (fun _ _ _ h => h) (Or.inl ⟨by rfl, ?_⟩) (by assumption) ?_
      rotate_left
      · (intro w hSw; (try dsimp only at hSw); go_split_ands; go_simp; first | done | with_reducible rfl)
      simp only [List.getElem_toArray, List.getElem_cons_succ, List.getElem_cons_zero, Act.put, List.setIfInBounds_toArray, List.set_cons_zero, List.set_cons_succ]
      refine wpAnyH_take (i := 9) (v := ?_) rfl (by kernel_rfl) (by kernel_rfl) (by kernel_rfl) (fun _ _ _ h => h) (Or.inl ⟨by rfl, ?_⟩) (by assumption) ?_
      rotate_left
      · (intro w hSw; (try dsimp only at hSw); go_split_ands; go_simp; first | done | with_reducible rfl)
      simp only [List.getElem_toArray, List.getElem_cons_succ, List.getElem_cons_zero, Act.put, List.setIfInBounds_toArray, List.set_cons_zero, List.set_cons_succ]
      refine wpAnyH_done (by kernel_rfl) ?_ _
      go_wp2
      refine bodyPost_ret (v := .tuple #[.string (B fs), .int .i64 cs, .bool ((an : Int) == (ls.length : Int))]) (by simp [results, Tryz.results23, go_sem]) rfl ?_
      have hbe : ((an : Int) == (ls.length : Int)) = decide (an = ls.length) := by rw [Bool.eq_iff_iff]; simp; omega
      exact ⟨hd, by rw [HR.out, hbe]⟩
end Go.Proofs.YtkkbkhcapogobaaGreatDoor
