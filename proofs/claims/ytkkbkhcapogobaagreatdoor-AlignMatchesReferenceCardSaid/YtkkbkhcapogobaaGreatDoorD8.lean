/- Contracts: align.sideOf. -/
import Derived.Test.YtkkbkhcapogobaaGreatDoorD7
namespace Go.Proofs.YtkkbkhcapogobaaGreatDoor
open Go Go.RowKit Go.Lib Go.Proofs S Go.Shelf Go.Maps
set_option linter.unusedVariables false
set_option linter.unusedSimpArgs false

theorem fold_len {k : Int} {s f : Str} (h : foldS k s = some f) : f.length = s.length := by
  unfold foldS at h
  split at h
  · cases h; simp [lowerS]
  · cases h
def tabCells (A1 : Option Addr) (c1 : Nat) (A2 : Option Addr) (c2 : Nat) (A3 : Option Addr) (c3 : Nat) (t : Tab) : Array Value :=
  #[.slice A1 t.rules.length c1, .slice A2 t.drops.length c2, .slice A3 t.ends.length c3, .int .i64 t.drop, .int .i64 t.order, .int .i64 t.initial]

/-- What sideOf returns. -/
def SideRes (k : Int) (word : Str) (t : Tab) (w : World) (e : Ending) (w' : World) : Prop := Ext w w' ∧
  ((sideS t k word = none ∧ e = .returned (.tuple #[.agg #[.slice none 0 0, .slice none 0 0], .bool false])) ∨
   (∃ m : MSide, sideS t k word = some m.side ∧ m.At w' ∧ e = .returned (.tuple #[sideVal m, .bool true])))

set_option maxRecDepth 100000 in
set_option maxHeartbeats 4000000 in
/-- align.sideOf. -/
theorem sideOf_any (A1 A2 A3 : Option Addr) (q1 q2 q3 : Nat) (t : Tab) (k : Int) (word : Str) (w : World) (ht : TabAt w A1 A2 A3 t) (hT : Tabs w) (hw : tiny word) (hlen : t.rules.length ≤ 1000) :
    Calls Tryz.prog 25 #[tabVal A1 q1 A2 q2 A3 q3 t, .int .i64 k, .string (B word)] w (SideRes k word t w) := by
  unfold tabVal
  have hrules := ht.rules
  have hrfit := ht.rfit
  clear ht
  have hfold := fun w' (hb : Ext w w') => Fold_any k (B word) w' hw (hT.below hb)
  have HS : Hid (sideS t k word = match foldS k word with | none => none | some f => (lettersS k f).map fun ls => ⟨ls, sideRules k 0 t.rules⟩) := Lib.hid rfl
  cases hc : foldS k word with
  | none =>
    have HR : Hid (sideS t k word = none) := Lib.hid (by rw [HS.out, hc])
    have HF : Hid (∀ w', Ext w w' → Calls Tryz.prog 39 #[.int .i64 k, .string (B word)] w' fun e w'' => e = .returned (.tuple #[.string ⟨#[]⟩, .int .i64 1]) ∧ Ext w' w'') := Lib.hid (fun w' hb => (hfold w' hb).mono (fun e w'' ⟨h1, h2⟩ => by
      rcases h2 with ⟨_, h2⟩ | ⟨f, h2, _⟩
      · exact ⟨h2, h1⟩
      · have h3 : foldS k word = some f := h2
        rw [hc] at h3; cases h3))
    clear hc HS hfold hrules hrfit
    have hx : ∀ o1 o2, Ext w ((w.alloc o1).alloc o2) := fun o1 o2 => (Ext.new w o1).alloc o2
    have hres : ∀ cs1 t1 cs2 t2 w1, Ext ((w.alloc (.cells cs1 t1)).alloc (.cells cs2 t2)) w1 → w1.heap[w.heap.size + 1]? = some (.cells cs2 t2) := fun cs1 t1 cs2 t2 w1 h => by
      refine block_ext ?_ h
      have := World.alloc_heap_new (w.alloc (.cells cs1 t1)) (.cells cs2 t2)
      rwa [World.size_alloc] at this
    have HRES := Lib.hid hres
    clear hres
    go_enter Tryz.func25, Tryz.ntmps25
    go_wp2_with (go_at_call 39; (with_reducible refine (HF.out _ (hx _ _)).mono ?_); rintro e w1 ⟨rfl, hb1⟩; have kR := HRES.out _ _ _ _ _ hb1; have n0 := cell_of kR 0; have n1 := cell_of kR 1; have f0 := frozen_of kR 0; have f1 := frozen_of kR 1)
    have kF := block_set (block_set kR 0 (.slice none 0 0)) 1 (.slice none 0 0)
    have m0 := cell_of kF 0
    have m1 := cell_of kF 1
    refine bodyPost_ret (v := .tuple #[.agg #[.slice none 0 0, .slice none 0 0], .bool false]) (by simp [results, Tryz.results25, go_sem, m0, m1]) rfl ?_
    have hx1 := Ext.trans (hx _ _) hb1
    exact ⟨(hx1.set (by omega) _).set (by omega) _, .inl ⟨HR.out, rfl⟩⟩
  | some f =>
    have hfl := fold_len hc
    have htf : tiny f := by unfold tiny at hw ⊢; omega
    have HF : Hid (∀ w', Ext w w' → Calls Tryz.prog 39 #[.int .i64 k, .string (B word)] w' fun e w'' => e = .returned (.tuple #[.string (B f), .int .i64 0]) ∧ Ext w' w'') := Lib.hid (fun w' hb => (hfold w' hb).mono (fun e w'' ⟨h1, h2⟩ => by
      rcases h2 with ⟨h2, _⟩ | ⟨f', h2, h3⟩
      · have h3 : foldS k word = none := h2
        rw [hc] at h3; cases h3
      · have h4 : foldS k word = some f' := h2
        rw [hc] at h4; cases h4; exact ⟨h3, h1⟩))
    have hlet : ∀ (s : Str), tiny s → ∀ w', Ext w w' → Calls Tryz.prog 40 #[.int .i64 k, .string (B s)] w' fun e w'' => Ext w' w'' ∧ ((lettersS k s = none ∧ e = .returned (.tuple #[.slice none 0 0, .int .i64 1])) ∨ (∃ ls g c, lettersS k s = some ls ∧ e = .returned (.tuple #[letVal g c ls, .int .i64 0]) ∧ LetAt w'' g c ls ∧ w'.heap.size ≤ g ∧ g < w''.heap.size)) := fun s hs w' hb => (Letters_any k (B s) w' hs (hT.below hb)).mono (fun e w'' ⟨h1, h2⟩ => by
      refine ⟨h1, ?_⟩
      rcases h2 with ⟨h2, h3⟩ | ⟨v, ls, h2, h3, h4⟩
      · exact .inl ⟨h2, h3⟩
      · have h5 := letters_size h2
        obtain ⟨g, c, rfl, h6, h7, h8⟩ := let_of_own h4 h5.1 h5.2
        exact .inr ⟨ls, g, c, h2, h3, h6, h7, h8⟩)
    have hx : ∀ o1 o2, Ext w ((w.alloc o1).alloc o2) := fun o1 o2 => (Ext.new w o1).alloc o2
    have hres : ∀ cs1 t1 cs2 t2 w1, Ext ((w.alloc (.cells cs1 t1)).alloc (.cells cs2 t2)) w1 → w1.heap[w.heap.size + 1]? = some (.cells cs2 t2) ∧ (∀ n, w1.cell? ⟨w.heap.size, n, none⟩ = cs1[n]?) ∧ (∀ o n, (w1.alloc o).cell? ⟨w.heap.size, n, none⟩ = cs1[n]?) := fun cs1 t1 cs2 t2 w1 h => by
      refine ⟨block_ext ?_ h, (cells_new2 h).1, fun o => (cells_new2 (Ext.trans h (Ext.new w1 o))).1⟩
      have := World.alloc_heap_new (w.alloc (.cells cs1 t1)) (.cells cs2 t2)
      rwa [World.size_alloc] at this
    have HRES := Lib.hid hres
    have HLET := Lib.hid hlet
    clear hres hfold hlet
    cases hcl : lettersS k f with
    | none =>
      have HR : Hid (sideS t k word = none) := Lib.hid (by rw [HS.out, hc]; simp [hcl])
      have HL : Hid (∀ w', Ext w w' → Calls Tryz.prog 40 #[.int .i64 k, .string (B f)] w' fun e w'' => e = .returned (.tuple #[.slice none 0 0, .int .i64 1]) ∧ Ext w' w'') := Lib.hid (fun w' hb => (HLET.out f htf w' hb).mono (fun e w'' ⟨h1, h2⟩ => by
        rcases h2 with ⟨_, h2⟩ | ⟨ls, g, c, h2, _⟩
        · exact ⟨h2, h1⟩
        · rw [hcl] at h2; cases h2))
      clear hc hcl HS hrules hrfit HLET
      go_enter Tryz.func25, Tryz.ntmps25
      go_wp2_with (first | (go_at_call 39; (with_reducible refine (HF.out _ (hx _ _)).mono ?_); rintro e w1 ⟨rfl, hb1⟩) | (go_at_call 40; (with_reducible refine (HL.out _ (Ext.trans (hx _ _) hb1)).mono ?_); rintro e w2 ⟨rfl, hb2⟩; obtain ⟨kR, _, _⟩ := HRES.out _ _ _ _ _ (Ext.trans hb1 hb2); have n0 := cell_of kR 0; have n1 := cell_of kR 1; have f0 := frozen_of kR 0; have f1 := frozen_of kR 1))
      have kF := block_set (block_set kR 0 (.slice none 0 0)) 1 (.slice none 0 0)
      have m0 := cell_of kF 0
      have m1 := cell_of kF 1
      refine bodyPost_ret (v := .tuple #[.agg #[.slice none 0 0, .slice none 0 0], .bool false]) (by simp [results, Tryz.results25, go_sem, m0, m1]) rfl ?_
      have hx1 := Ext.trans (Ext.trans (hx _ _) hb1) hb2
      exact ⟨(hx1.set (by omega) _).set (by omega) _, .inl ⟨HR.out, rfl⟩⟩
    | some ls =>
      have HR : Hid (sideS t k word = some ⟨ls, sideRules k 0 t.rules⟩) := Lib.hid (by rw [HS.out, hc]; simp [hcl])
      have HL : Hid (∀ w', Ext w w' → Calls Tryz.prog 40 #[.int .i64 k, .string (B f)] w' fun e w'' => ∃ g c, e = .returned (.tuple #[.slice (some ⟨g, 0, none⟩) ls.length c, .int .i64 0]) ∧ LetAt w'' g c ls ∧ g < w''.heap.size ∧ Ext w' w'') := Lib.hid (fun w' hb => (HLET.out f htf w' hb).mono (fun e w'' ⟨h1, h2⟩ => by
        rcases h2 with ⟨h2, _⟩ | ⟨ls', g, c, h2, h3, h4, h5, h6⟩
        · rw [hcl] at h2; cases h2
        · rw [hcl] at h2; cases h2; exact ⟨g, c, h3, h4, h6, h1⟩))
      clear hc hcl HS
      go_enter Tryz.func25, Tryz.ntmps25
      go_wp2_with (first | (go_at_call 39; (with_reducible refine (HF.out _ (hx _ _)).mono ?_); rintro e w1 ⟨rfl, hb1⟩) | (go_at_call 40; (with_reducible refine (HL.out _ (Ext.trans (hx _ _) hb1)).mono ?_); rintro e w2 ⟨lg, lc, rfl, hls, hlg, hb2⟩; obtain ⟨kR, kT, kT2⟩ := HRES.out _ _ _ _ _ (Ext.trans hb1 hb2); have hx2 := Ext.trans (Ext.trans (hx _ _) hb1) hb2))
      have hMs : w.heap.size + 2 ≤ w2.heap.size := by have h1 := hb1.size; have h2 := hb2.size; simp only [World.size_alloc] at h1; omega
      clear hb1 hb2 kT kT2 HL HF
      have hM := World.alloc_heap_new w2 (.cells #[Value.slice (some ⟨lg, 0, none⟩) ls.length lc, .slice none 0 0] 41)
      have hW3 := Ext.new w2 (.cells #[Value.slice (some ⟨lg, 0, none⟩) ls.length lc, .slice none 0 0] 41)
      have hx3 := Ext.trans hx2 hW3
      have kR3 := block_ext kR hW3
      have hls3 := hls.ext hW3
      have hG0 := Gath.nil (w2.alloc (.cells #[Value.slice (some ⟨lg, 0, none⟩) ls.length lc, .slice none 0 0] 41)) (w2.heap.size + 1)
      go_loopw [39] (fun i wr => ∃ (j : Nat) (rs : List MR) (v : Value), j ≤ t.rules.length ∧ i = .int .i64 j ∧ rs.map (·.1) = sideRules k 0 (t.rules.take j) ∧ Ext w wr ∧ w2.heap.size < wr.heap.size ∧ wr.heap[w.heap.size + 1]? = some (.cells #[.slice none 0 0, .slice none 0 0] 41) ∧ wr.heap[w2.heap.size]? = some (.cells #[.slice (some ⟨lg, 0, none⟩) ls.length lc, v] 41) ∧ Gath wr (w2.heap.size + 1) v rs ∧ LetAt wr lg lc ls) (fun i _ => t.rules.length - (intOf i).toNat)
      case atStart => exact ⟨0, [], _, Nat.zero_le _, rfl, rfl, hx3, by simp, kR3, hM, hG0, hls3⟩
      case round =>
        rename_i hrel
        obtain ⟨j, rs, v, hj, rfl, hrs, hbr, hszr, kRr, kMr, hGr, hlr⟩ := hrel
        clear hM hW3 hx3 kR3 hls3 hG0 kR hls hx2
        by_cases hjj : j < t.rules.length
        · have hx : t.rules[j]? = some t.rules[j] := List.getElem?_eq_getElem hjj
          have hfit := hrfit _ (List.getElem_mem hjj)
          obtain ⟨a, rfl, hcells⟩ := (hrules.ext hbr).elem hx
          have htake : sideRules k 0 (t.rules.take (j + 1)) = sideRules k 0 (t.rules.take j) ++ (aruleOf k j t.rules[j]).toList := by
            rw [← List.take_append_getElem hjj, sideRules_snoc]
            simp [Nat.min_eq_left (Nat.le_of_lt hjj)]
          have hrl : rs.length ≤ 1000 := by
            have h1 := congrArg List.length hrs
            have h2 := sideRules_le k (t.rules.take j) 0
            simp at h1 h2; omega
          generalize t.rules[j] = r at hx hfit hcells htake
          obtain ⟨ds, dw, dt, dc⟩ := r
          obtain ⟨f1, f2, f3, f4⟩ := hfit
          obtain ⟨c0, c1, c2, c3⟩ := elem4 hcells
          have har : aruleOf k j ⟨ds, dw, dt, dc⟩ = if ds = k then (lettersS k dw).map fun f => ⟨j, dc, f, dt⟩ else none := rfl
          have hback : ∀ o w4, Ext (wr.alloc o) w4 → Ext w w4 ∧ w2.heap.size < w4.heap.size ∧ w4.heap[w.heap.size + 1]? = some (.cells #[.slice none 0 0, .slice none 0 0] 41) ∧ w4.heap[w2.heap.size]? = some (.cells #[.slice (some ⟨lg, 0, none⟩) ls.length lc, v] 41) ∧ Gath w4 (w2.heap.size + 1) v rs ∧ LetAt w4 lg lc ls := fun o w4 h => by
            have h1 := Ext.trans (Ext.new wr o) h
            have := h1.size
            exact ⟨Ext.trans hbr h1, by omega, block_ext kRr h1, block_ext kMr h1, hGr.ext h1, hlr.ext h1⟩
          have HBACK := Lib.hid hback
          have HTK := Lib.hid htake
          have HRS := Lib.hid hrs
          have HAR := Lib.hid har
          clear hx hcells htake hrs har hback kRr kMr hlr
          by_cases hsk : ds = k
          · subst hsk
            have hbe : (ds == ds) = true := by simp
            have hext0 : ∀ o, Ext w (wr.alloc o) := fun o => hbr.alloc o
            cases hcr : lettersS ds dw with
            | none =>
              have HLR : Hid (∀ w', Ext w w' → Calls Tryz.prog 40 #[.int .i64 ds, .string (B dw)] w' fun e w'' => e = .returned (.tuple #[.slice none 0 0, .int .i64 1]) ∧ Ext w' w'') := Lib.hid (fun w' hb => (HLET.out dw f2 w' hb).mono (fun e w'' ⟨h1, h2⟩ => by
                rcases h2 with ⟨_, h2⟩ | ⟨ls, g, c, h2, _⟩
                · exact ⟨h2, h1⟩
                · rw [hcr] at h2; cases h2))
              have HREL : Hid (rs.map (·.1) = sideRules ds 0 (t.rules.take (j + 1))) := Lib.hid (by rw [HTK.out, HAR.out, if_pos rfl, hcr, HRS.out]; simp)
              clear hcr hGr
              go_wp2_with (go_at_call 40; (with_reducible refine (HLR.out _ (hext0 _)).mono ?_); rintro e w4 ⟨rfl, hb4⟩)
              go_roundw
              case rel => exact ⟨j + 1, rs, v, by omega, by simp, HREL.out, HBACK.out _ _ hb4⟩
              case measure => simp [intOf]; omega
            | some fr =>
              have HLR : Hid (∀ w', Ext w w' → Calls Tryz.prog 40 #[.int .i64 ds, .string (B dw)] w' fun e w'' => ∃ g c, e = .returned (.tuple #[.slice (some ⟨g, 0, none⟩) fr.length c, .int .i64 0]) ∧ LetAt w'' g c fr ∧ w'.heap.size ≤ g ∧ g < w''.heap.size ∧ Ext w' w'') := Lib.hid (fun w' hb => (HLET.out dw f2 w' hb).mono (fun e w'' ⟨h1, h2⟩ => by
                rcases h2 with ⟨h2, _⟩ | ⟨ls, g, c, h2, h3, h4, h5, h6⟩
                · rw [hcr] at h2; cases h2
                · rw [hcr] at h2; cases h2; exact ⟨g, c, h3, h4, h5, h6, h1⟩))
              have HREL : Hid (∀ g c, (rs ++ [((⟨j, dc, fr, dt⟩ : ARule), (g : Nat), (c : Nat))]).map (fun r : MR => r.1) = sideRules ds 0 (t.rules.take (j + 1))) := Lib.hid (fun g c => by rw [HTK.out, HAR.out, if_pos rfl, hcr, List.map_append, HRS.out]; simp)
              have hown := hGr.own
              have HGR := Lib.hid hGr
              clear hcr hGr
              have hcl4 : ∀ cs w4, Ext (wr.alloc (.cells cs 68)) w4 → (∀ i, w4.cell? ⟨wr.heap.size, i, none⟩ = cs[i]?) ∧ (∀ i, w4.cell? ⟨w2.heap.size, i, none⟩ = #[Value.slice (some ⟨lg, 0, none⟩) ls.length lc, v][i]?) := fun cs w4 h => ⟨(cells_new1 h).1, cell_of (HBACK.out _ _ h).2.2.2.1⟩
              have HCL4 := Lib.hid hcl4
              clear hcl4
              go_wp2_with (first | (go_at_call 40; (with_reducible refine (HLR.out _ (hext0 _)).mono ?_); rintro e w4 ⟨g, gc, rfl, hlg4, hg1, hg2, hb4⟩; obtain ⟨r1, r2⟩ := HCL4.out _ _ hb4; have HB4 := Lib.hid hb4) | (at_builtin; refine wpList_app1 (W := w4) (w2.heap.size + 1) (.tmp 58) (.tmp 66) 39 55 (.agg #[.int .i64 0, .int .i64 0, .slice none 0 0, .string ⟨#[]⟩]) 4 56 rfl Tryz.underlying39 Tryz.info_rule rfl (by decide) (by decide) v rs.length (rs.flatMap mrVals) [.int .i64 j, .int .i64 dc, .slice (some ⟨g, 0, none⟩) fr.length gc, .string (B dt)] rfl rfl rfl (by simp [Value.oneCell']) (HBACK.out _ _ HB4.out).2.2.2.2.1.own (by have := (HBACK.out _ _ HB4.out).2.1; omega) (by omega) rfl ?_; intro v1 w5 hA; have kM5 := block_keep (HBACK.out _ _ HB4.out).2.2.2.1 hA.mod (fun h => by have := (ownsRow_block (HBACK.out _ _ HB4.out).2.2.2.2.1.own h).1; omega); have m1 := cell_of kM5 1; have fz1 := frozen_of kM5 1; obtain ⟨g1, cap1, rfl⟩ := ownsRow_succ hA.own))
              go_roundw
              case rel =>
                obtain ⟨b1, b2, b3, b4, b5, b6⟩ := HBACK.out _ _ HB4.out
                have hob := fun h => (ownsRow_block (v := v) b5.own (g := g) h).2
                have hvw : v.ownBlock ≠ some g := fun h => by
                  have := (ownsRow_block HGR.out.own h).2.1
                  simp only [World.size_alloc] at hg1
                  omega
                have hGA := b5.app (r := (⟨j, dc, fr, dt⟩, g, gc)) hlg4 hvw hg2 (by show w2.heap.size + 1 ≤ g; simp only [World.size_alloc] at hg1; omega) hA
                have hm5 : Mod (fun k => k = w2.heap.size ∨ v.ownBlock = some k) w4 (w5.setCell ⟨w2.heap.size, 1, none⟩ (.slice (some ⟨g1, 0, none⟩) (rs.length + 1) cap1)) := (hA.mod.mono (fun k _ h => .inr h)).setCell (p := ⟨w2.heap.size, 1, none⟩) (.inl (.inl rfl)) _
                have hvM : ∀ k, v.ownBlock = some k → w2.heap.size + 1 ≤ k := fun k h => (ownsRow_block b5.own h).1
                have hlgv : lg < w2.heap.size := hlg
                refine ⟨j + 1, rs ++ [(⟨j, dc, fr, dt⟩, g, gc)], _, by omega, by simp, HREL.out g gc, ?_, by have := hm5.size; omega, block_keep b3 hm5 ?_, block_set kM5 1 _, hGA.put (p := ⟨w2.heap.size, 1, none⟩) (by show w2.heap.size < _; omega) _, let_mod b6 hm5 ?_⟩
                · refine hm5.below_trans b1 b1.size ?_
                  rintro i hi (h | h)
                  · omega
                  · have := hvM _ h; omega
                · rintro (h | h)
                  · omega
                  · have := hvM _ h; omega
                · rintro (h | h)
                  · omega
                  · have := hvM _ h; omega
              case measure => simp [intOf]; omega
          · have hbe : (ds == k) = false := by simp [hsk]
            have HREL : Hid (rs.map (·.1) = sideRules k 0 (t.rules.take (j + 1))) := Lib.hid (by rw [HTK.out, HAR.out, if_neg hsk, HRS.out]; simp)
            clear hGr hsk
            go_wp2
            go_roundw
            case rel => exact ⟨j + 1, rs, v, by omega, by simp, HREL.out, HBACK.out _ _ (Below.refl _ _)⟩
            case measure => simp [intOf]; omega
        · have hje : j = t.rules.length := by omega
          subst hje
          rw [List.take_length] at hrs
          obtain ⟨A, rcap, rfl⟩ := ownsRow_slice hGr.own
          have g0 := cell_of kMr 0
          have g1 := cell_of kMr 1
          have p0 := cell_of kRr 0
          have p1 := cell_of kRr 1
          have f0 := frozen_of kRr 0
          have f1 := frozen_of kRr 1
          have hkF := block_set (block_set kRr 0 (.slice (some ⟨lg, 0, none⟩) ls.length lc)) 1 (.slice A rs.length rcap)
          have hxF := (hbr.set (b := w.heap.size + 1) (i := 0) (by omega) (.slice (some ⟨lg, 0, none⟩) ls.length lc)).set (b := w.heap.size + 1) (i := 1) (by omega) (.slice A rs.length rcap)
          have hrsl : rs.length ≤ 1000 := by
            have h1 := congrArg List.length hrs
            have h2 := sideRules_le k t.rules 0
            simp at h1; omega
          have hlgN : lg ≠ w.heap.size + 1 := by
            intro h
            have h1 := hlr.pos
            have h2 := hlr.cell 0 _ (List.getElem?_eq_getElem h1)
            rw [h, cell_of kRr 0] at h2; cases h2
          have HAT : Hid ((⟨ls, lg, lc, A, rcap, rs⟩ : MSide).At ((wr.setCell ⟨w.heap.size + 1, 0, none⟩ (.slice (some ⟨lg, 0, none⟩) ls.length lc)).setCell ⟨w.heap.size + 1, 1, none⟩ (.slice A rs.length rcap))) := by
            have hG := (hGr.put (p := ⟨w.heap.size + 1, 0, none⟩) (by show w.heap.size + 1 < _; omega) (.slice (some ⟨lg, 0, none⟩) ls.length lc)).put (p := ⟨w.heap.size + 1, 1, none⟩) (by show w.heap.size + 1 < _; omega) (.slice A rs.length rcap)
            have hl : LetAt ((wr.setCell ⟨w.heap.size + 1, 0, none⟩ (.slice (some ⟨lg, 0, none⟩) ls.length lc)).setCell ⟨w.heap.size + 1, 1, none⟩ (.slice A rs.length rcap)) lg lc ls :=
              let_mod hlr (((Mod.refl (fun k => k = w.heap.size + 1) wr).setCell (p := ⟨w.heap.size + 1, 0, none⟩) (.inl rfl) _).setCell (p := ⟨w.heap.size + 1, 1, none⟩) (.inl rfl) _) hlgN
            exact Lib.hid ⟨hl, hG.elems, fun r hr => (hG.frm r hr).1, hrsl⟩
          have HSD : Hid (sideS t k word = some (⟨ls, lg, lc, A, rcap, rs⟩ : MSide).side) := Lib.hid (by rw [HR.out]; unfold MSide.side; rw [hrs])
          have HX := Lib.hid hxF
          have HKF := Lib.hid hkF
          clear hkF hxF hGr hlr hrs hbr kMr kRr
          go_wp2
          have m0 := cell_of HKF.out 0
          have m1 := cell_of HKF.out 1
          refine bodyPost_ret (v := .tuple #[.agg #[.slice (some ⟨lg, 0, none⟩) ls.length lc, .slice A rs.length rcap], .bool true]) (by simp [results, Tryz.results25, go_sem, m0, m1]) rfl ?_
          exact ⟨HX.out, .inr ⟨_, HSD.out, HAT.out, rfl⟩⟩
end Go.Proofs.YtkkbkhcapogobaaGreatDoor
