/- The law AlignMoreRules: the walk. -/
import Derived.Test.YtpcfjflfeecinaaDoorM0
namespace Go.Proofs.YtpcfjflfeecinaaDoor
open Go Go.RowKit Go.Lib Go.Proofs S Go.Shelf Go.Maps Go.WideMaps
set_option linter.unusedVariables false
set_option linter.unusedSimpArgs false

theorem few_less {tb : Tab} {rr : Rul} {ws : List Str} (h : fewS { tb with rules := tb.rules ++ [rr] } ws = true) : fewS tb ws = true := by
  unfold fewS at h ⊢
  simp only [List.length_append, List.length_cons, List.length_nil, List.all_append, Bool.and_eq_true, decide_eq_true_eq] at h ⊢
  obtain ⟨⟨⟨⟨⟨⟨f1, f2⟩, f3⟩, f4⟩, f5⟩, f6⟩, f7⟩ := h
  exact ⟨⟨⟨⟨⟨⟨by omega, f2⟩, f3⟩, f4.1⟩, f5⟩, f6⟩, f7⟩
theorem ext_drew {A B : World} (h : Ext A B) : Ext A.drew B.drew := ⟨h.os, h.tape, h.output, h.size, h.block⟩
theorem ext_to {A B : World} (h : Ext A B) : Ext A B.drew := ⟨h.os, h.tape, h.output, h.size, h.block⟩
theorem own_drew {X : World} {base : Nat} {e : TypeId} {size n : Nat} {v : Value} {xs : List Value} (h : X.ownsRow base e size v n xs) : X.drew.ownsRow base e size v n xs := h
def moreT (tb : Tab) (rr : Rul) : Tab := { tb with rules := tb.rules ++ [rr] }
set_option maxRecDepth 100000 in
set_option maxHeartbeats 4000000 in
theorem more_any (W : World) (A1 A2 A3 : Option Addr) (c1 c2 c3 : Nat) (tb : Tab) (ht : TabRd W A1 A2 A3 tb) (hc1 : tb.rules.length ≤ c1) (hc2 : c1 ≤ Go.maxLen) (rr : Rul) (hrr : I64 rr.script ∧ rr.frm.length ≤ Go.maxLen ∧ rr.to.length ≤ Go.maxLen ∧ I64 rr.cost) (a : Int) (x : Str) (b : Int) (y : Str) (hsz : tb.rules.length * 48 ≤ reachBytes) (hT : Tabs W) :
    Calls Tryd.prog 6 #[tabVal A1 c1 A2 c2 A3 c3 tb, .agg #[.int .i64 rr.script, .string (B rr.frm), .string (B rr.to), .int .i64 rr.cost], .int .i64 a, .string (B x), .int .i64 b, .string (B y)] W fun e w' => Ext W w' ∧ e = .returned (.bool true) := by
  have HH : Hid (∀ w', Ext W w' → Calls Tryd.prog 7 #[] w' fun e w'' => Ext w' w'' ∧ e = .returned (.bool true)) := Lib.hid (fun w' h => head_any w' (hT.below h))
  unfold reachBytes at hsz
  have hx2 : ∀ o o2, Ext W ((W.alloc o).alloc o2) := fun o o2 => (Ext.new W o).alloc o2
  have HX := Lib.hid hx2
  have hcb : ∀ cs1 t1 cs2 t2 w1, Ext ((W.alloc (.cells cs1 t1)).alloc (.cells cs2 t2)) w1 → (∀ n, w1.cell? ⟨W.heap.size, n, none⟩ = cs1[n]?) ∧ (∀ n, w1.cell? ⟨W.heap.size + 1, n, none⟩ = cs2[n]?) ∧ Ext W w1 ∧ w1.heap[W.heap.size]? = some (.cells cs1 t1) ∧ w1.heap[W.heap.size + 1]? = some (.cells cs2 t2) := fun cs1 t1 cs2 t2 w1 h => by
    refine ⟨(cells_new2 h).1, (cells_new2 h).2.1, (cells_new2 h).2.2, block_ext ?_ h, block_ext ?_ h⟩
    · exact (Below.heap_alloc _ _ _ (by simp)).trans (World.alloc_heap_new W _)
    · have := World.alloc_heap_new (W.alloc (.cells cs1 t1)) (.cells cs2 t2); rwa [World.size_alloc] at this
  have HCB := Lib.hid hcb
  have HRD := Lib.hid ht
  have HTT : Hid (∀ w', Ext W w' → Tabs w') := Lib.hid (fun w' h => hT.below h)
  have HRR := Lib.hid hrr
  have HEA : Hid (∀ X, Ext W X → ElemsAt X A1 4 (tb.rules.map ruleVals)) := Lib.hid (fun X h => ht.rules.ext h)
  have HRL : Hid (∀ r ∈ tb.rules.map ruleVals, r.length = 4) := Lib.hid (fun r hr => by obtain ⟨q, _, rfl⟩ := List.mem_map.1 hr; rfl)
  have HR1 := Lib.hid (rules_one tb.rules)
  have HRL1 : Hid (∀ r ∈ [ruleVals rr], r.length = 4) := Lib.hid (fun r hr => by simp only [List.mem_singleton] at hr; subst hr; rfl)
  have HR11 : Hid (∀ u ∈ ([ruleVals rr] : List (List Value)).flatten, u.oneCell' = true) := Lib.hid (fun u hu => rules_one [rr] u (by simpa using hu))
  have HB1 : Hid (tb.rules.length * 48 ≤ 140737488355328) := Lib.hid (by omega)
  have HB2 : Hid ((tb.rules.length + 1) * 48 ≤ 140737488355328) := Lib.hid (by omega)
  clear hx2 hcb ht hT hrr hc1 hc2 hsz
  unfold tabVal
  go_enter Tryd.func6, Tryd.ntmps6
  go_upto_region 3 with (go_at_call 7; (with_reducible refine (HH.out _ (HX.out _ _)).mono ?_); rintro e w1 ⟨hb1, rfl⟩; obtain ⟨u1, t1, u3, kT, kR⟩ := HCB.out _ _ _ _ _ hb1)
  have kM := World.alloc_heap_new w1 (.cells #[.slice A1 tb.rules.length c1, .slice A2 tb.drops.length c2, .slice A3 tb.ends.length c3, .int .i64 tb.drop, .int .i64 tb.order, .int .i64 tb.initial] 25)
  have xM := Ext.new w1 (.cells #[.slice A1 tb.rules.length c1, .slice A2 tb.drops.length c2, .slice A3 tb.ends.length c3, .int .i64 tb.drop, .int .i64 tb.order, .int .i64 tb.initial] 25)
  have sM : (w1.alloc (.cells #[.slice A1 tb.rules.length c1, .slice A2 tb.drops.length c2, .slice A3 tb.ends.length c3, .int .i64 tb.drop, .int .i64 tb.order, .int .i64 tb.initial] 25)).heap.size = w1.heap.size + 1 := by simp
  have hs1 : W.heap.size + 2 ≤ w1.heap.size := by
    have := (Array.getElem?_eq_some_iff.1 kR).1; omega
  obtain ⟨V0, hV0⟩ : ∃ V0, w1.alloc (.cells #[.slice A1 tb.rules.length c1, .slice A2 tb.drops.length c2, .slice A3 tb.ends.length c3, .int .i64 tb.drop, .int .i64 tb.order, .int .i64 tb.initial] 25) = V0 := ⟨_, rfl⟩
  rw [hV0] at kM xM sM ⊢
  obtain ⟨Bm, hBm⟩ : ∃ Bm, w1.heap.size = Bm := ⟨_, rfl⟩
  rw [hBm] at kM sM hs1 ⊢
  have kT0 := block_ext kT xM
  have kR0 := block_ext kR xM
  have HXV := Lib.hid (Ext.trans u3 xM)
  have hs2 : Bm < V0.heap.size := by omega
  clear u1 t1 hV0 hBm kT kR hb1 xM u3 sM
  have hHeld : (fun w' : World => w'.cell? ⟨W.heap.size, 0, none⟩ = some (.slice A1 tb.rules.length c1) ∧ w'.cell? ⟨W.heap.size + 1, 0, none⟩ = some (.int .i64 rr.script) ∧ w'.cell? ⟨W.heap.size + 1, 1, none⟩ = some (.string (B rr.frm)) ∧ w'.cell? ⟨W.heap.size + 1, 2, none⟩ = some (.string (B rr.to)) ∧ w'.cell? ⟨W.heap.size + 1, 3, none⟩ = some (.int .i64 rr.cost)) V0.drew := ⟨cell_of kT0 0, cell_of kR0 0, cell_of kR0 1, cell_of kR0 2, cell_of kR0 3⟩
  have HKK := Lib.hid (And.intro kT0 (And.intro kR0 kM))
  have HSK : Hid (∀ X X' : World, (fun w' : World => w'.cell? ⟨W.heap.size, 0, none⟩ = some (.slice A1 tb.rules.length c1) ∧ w'.cell? ⟨W.heap.size + 1, 0, none⟩ = some (.int .i64 rr.script) ∧ w'.cell? ⟨W.heap.size + 1, 1, none⟩ = some (.string (B rr.frm)) ∧ w'.cell? ⟨W.heap.size + 1, 2, none⟩ = some (.string (B rr.to)) ∧ w'.cell? ⟨W.heap.size + 1, 3, none⟩ = some (.int .i64 rr.cost)) X → Ext X X' → (fun w' : World => w'.cell? ⟨W.heap.size, 0, none⟩ = some (.slice A1 tb.rules.length c1) ∧ w'.cell? ⟨W.heap.size + 1, 0, none⟩ = some (.int .i64 rr.script) ∧ w'.cell? ⟨W.heap.size + 1, 1, none⟩ = some (.string (B rr.frm)) ∧ w'.cell? ⟨W.heap.size + 1, 2, none⟩ = some (.string (B rr.to)) ∧ w'.cell? ⟨W.heap.size + 1, 3, none⟩ = some (.int .i64 rr.cost)) X') := Lib.hid (fun X X' h hx => by
    have hc := Cells.of_ext hx
    exact ⟨hc _ _ h.1, hc _ _ h.2.1, hc _ _ h.2.2.1, hc _ _ h.2.2.2.1, hc _ _ h.2.2.2.2⟩)
  have HSS : Hid (∀ (X : World) (z : Value), (fun w' : World => w'.cell? ⟨W.heap.size, 0, none⟩ = some (.slice A1 tb.rules.length c1) ∧ w'.cell? ⟨W.heap.size + 1, 0, none⟩ = some (.int .i64 rr.script) ∧ w'.cell? ⟨W.heap.size + 1, 1, none⟩ = some (.string (B rr.frm)) ∧ w'.cell? ⟨W.heap.size + 1, 2, none⟩ = some (.string (B rr.to)) ∧ w'.cell? ⟨W.heap.size + 1, 3, none⟩ = some (.int .i64 rr.cost)) X → (fun w' : World => w'.cell? ⟨W.heap.size, 0, none⟩ = some (.slice A1 tb.rules.length c1) ∧ w'.cell? ⟨W.heap.size + 1, 0, none⟩ = some (.int .i64 rr.script) ∧ w'.cell? ⟨W.heap.size + 1, 1, none⟩ = some (.string (B rr.frm)) ∧ w'.cell? ⟨W.heap.size + 1, 2, none⟩ = some (.string (B rr.to)) ∧ w'.cell? ⟨W.heap.size + 1, 3, none⟩ = some (.int .i64 rr.cost)) (X.setCell ⟨Bm, 0, none⟩ z)) := Lib.hid (fun X z h => by
    have n1 : ¬ Bm = W.heap.size := by omega
    have n2 : ¬ Bm = W.heap.size + 1 := by omega
    exact ⟨(World.cell?_setCell_far _ _ _ _ n1).trans h.1, (World.cell?_setCell_far _ _ _ _ n2).trans h.2.1, (World.cell?_setCell_far _ _ _ _ n2).trans h.2.2.1, (World.cell?_setCell_far _ _ _ _ n2).trans h.2.2.2.1, (World.cell?_setCell_far _ _ _ _ n2).trans h.2.2.2.2⟩)
  have HSB : Hid (∀ (X : World), X.heap[W.heap.size]? = V0.heap[W.heap.size]? → X.heap[W.heap.size + 1]? = V0.heap[W.heap.size + 1]? → (fun w' : World => w'.cell? ⟨W.heap.size, 0, none⟩ = some (.slice A1 tb.rules.length c1) ∧ w'.cell? ⟨W.heap.size + 1, 0, none⟩ = some (.int .i64 rr.script) ∧ w'.cell? ⟨W.heap.size + 1, 1, none⟩ = some (.string (B rr.frm)) ∧ w'.cell? ⟨W.heap.size + 1, 2, none⟩ = some (.string (B rr.to)) ∧ w'.cell? ⟨W.heap.size + 1, 3, none⟩ = some (.int .i64 rr.cost)) X) := Lib.hid (fun X h1 h2 => by
    have a1 := cell_of (h1.trans HKK.out.1)
    have a2 := cell_of (h2.trans HKK.out.2.1)
    exact ⟨a1 0, a2 0, a2 1, a2 2, a2 3⟩)
  have HS3 : Hid (∀ (X w5 : World) (g g3 cap3 : Nat) (xs : List Value), Ext V0 X → V0.heap.size ≤ g → AppS X w5 W.heap.size 40 4 g tb.rules.length g3 cap3 xs → (fun w' : World => w'.cell? ⟨W.heap.size, 0, none⟩ = some (.slice A1 tb.rules.length c1) ∧ w'.cell? ⟨W.heap.size + 1, 0, none⟩ = some (.int .i64 rr.script) ∧ w'.cell? ⟨W.heap.size + 1, 1, none⟩ = some (.string (B rr.frm)) ∧ w'.cell? ⟨W.heap.size + 1, 2, none⟩ = some (.string (B rr.to)) ∧ w'.cell? ⟨W.heap.size + 1, 3, none⟩ = some (.int .i64 rr.cost)) w5 ∧ Ext V0 w5 ∧ V0.heap.size ≤ g3) := Lib.hid (fun X w5 g g3 cap3 xs hx hg hA => by
    have h5 : Ext V0 w5 := Mod.below_trans hx hA.mod hx.size (fun k hk e => by omega)
    refine ⟨HSB.out _ (h5.block _ (by omega)) (h5.block _ (by omega)), h5, ?_⟩
    rcases hA.loc with h | h
    · omega
    · have := hx.size; omega)
  have HS6 : Hid (∀ (X w5 w6 X3 : World) (g g3 cap3 g6 cap6 : Nat) (xs xs' : List Value), AppS X3 w5 W.heap.size 40 4 g tb.rules.length g3 cap3 xs → V0.heap.size ≤ g3 → Ext w5 X → AppS X w6 W.heap.size 40 4 g3 (tb.rules.length + 1) g6 cap6 xs' → Ext V0 w5 → (fun w' : World => w'.cell? ⟨W.heap.size, 0, none⟩ = some (.slice A1 tb.rules.length c1) ∧ w'.cell? ⟨W.heap.size + 1, 0, none⟩ = some (.int .i64 rr.script) ∧ w'.cell? ⟨W.heap.size + 1, 1, none⟩ = some (.string (B rr.frm)) ∧ w'.cell? ⟨W.heap.size + 1, 2, none⟩ = some (.string (B rr.to)) ∧ w'.cell? ⟨W.heap.size + 1, 3, none⟩ = some (.int .i64 rr.cost)) w6 ∧ Ext W w6 ∧ V0.heap.size ≤ g6 ∧ w6.heap[Bm]? = some (.cells #[.slice A1 tb.rules.length c1, .slice A2 tb.drops.length c2, .slice A3 tb.ends.length c3, .int .i64 tb.drop, .int .i64 tb.order, .int .i64 tb.initial] 25) ∧ w6.heap[W.heap.size]? = some (.cells #[Value.slice A1 tb.rules.length c1, .slice A2 tb.drops.length c2, .slice A3 tb.ends.length c3, .int .i64 tb.drop, .int .i64 tb.order, .int .i64 tb.initial] 25)) := Lib.hid (fun X w5 w6 X3 g g3 cap3 g6 cap6 xs xs' _ hg hx hA h5 => by
    have h6 : Ext V0 w6 := Mod.below_trans (Ext.trans h5 hx) hA.mod (Ext.trans h5 hx).size (fun k hk e => by omega)
    refine ⟨HSB.out _ (h6.block _ (by omega)) (h6.block _ (by omega)), Ext.trans HXV.out h6, ?_, block_ext HKK.out.2.2 h6, block_ext HKK.out.1 h6⟩
    rcases hA.loc with h | h
    · omega
    · have := (Ext.trans h5 hx).size; omega)
  have HEB : Hid (∀ (w5 : World) (g3 cap3 : Nat) (xs : List Value), AppS (((V0.alloc (.cells #[] 40)).alloc (.cells #[.int .i64 rr.script, .string (B rr.frm), .string (B rr.to), .int .i64 rr.cost] 40))).drew w5 W.heap.size 40 4 V0.heap.size tb.rules.length g3 cap3 xs → ElemsAt w5 (some ⟨V0.heap.size + 1, 0, none⟩) 4 [ruleVals rr]) := Lib.hid (fun w5 g3 cap3 xs hA => by
    have h := rule_new (V0.alloc (.cells #[] 40)) rr
    rw [World.size_alloc] at h
    exact elems_far (g := V0.heap.size) h (((Mod.refl _ _).drew).trans hA.mod) (by omega))
  have HEC : Hid (∀ (w5 : World) (g3 cap3 : Nat) (xs : List Value), AppS ((V0.alloc (.cells #[.int .i64 rr.script, .string (B rr.frm), .string (B rr.to), .int .i64 rr.cost] 40)).alloc (.cells #[] 40)).drew w5 W.heap.size 40 4 (V0.heap.size + 1) tb.rules.length g3 cap3 xs → ElemsAt w5 (some ⟨V0.heap.size, 0, none⟩) 4 [ruleVals rr]) := Lib.hid (fun w5 g3 cap3 xs hA =>
    elems_far (g := V0.heap.size + 1) ((rule_new V0 rr).ext (Ext.new _ _)) (((Mod.refl _ _).drew).trans hA.mod) (by omega))
  refine wp_region_held_drew (S := (fun w' : World => w'.cell? ⟨W.heap.size, 0, none⟩ = some (.slice A1 tb.rules.length c1) ∧ w'.cell? ⟨W.heap.size + 1, 0, none⟩ = some (.int .i64 rr.script) ∧ w'.cell? ⟨W.heap.size + 1, 1, none⟩ = some (.string (B rr.frm)) ∧ w'.cell? ⟨W.heap.size + 1, 2, none⟩ = some (.string (B rr.to)) ∧ w'.cell? ⟨W.heap.size + 1, 3, none⟩ = some (.int .i64 rr.cost))) Tryd.mixed hHeld ?_
  intro _
  refine wpAnyH_take (i := 1) (v := ?_) rfl (by kernel_rfl) (by kernel_rfl) (by kernel_rfl) (fun _ _ _ h => h) (Or.inl ⟨by rfl, ?_⟩) (by assumption) ?_
  rotate_left
  · (intro w hSw; (try dsimp only at hSw); go_split_ands; go_simp; first | done | with_reducible rfl)
  simp only [List.getElem_toArray, List.getElem_cons_succ, List.getElem_cons_zero, Act.put, List.setIfInBounds_toArray, List.set_cons_zero, List.set_cons_succ]
  refine wpAnyH_take (i := 2) (v := ?_) rfl (by kernel_rfl) (by kernel_rfl) (by kernel_rfl) (fun _ _ _ h => h) (Or.inl ⟨by rfl, ?_⟩) (by assumption) ?_
  rotate_left
  · (intro w hSw; (try dsimp only at hSw); go_split_ands; go_simp; first | done | with_reducible rfl)
  simp only [List.getElem_toArray, List.getElem_cons_succ, List.getElem_cons_zero, Act.put, List.setIfInBounds_toArray, List.set_cons_zero, List.set_cons_succ]
  refine wpAnyH_take (i := 4) (v := ?_) rfl (by kernel_rfl) (by kernel_rfl) (by kernel_rfl) (fun _ _ _ h => h) (Or.inl ⟨by rfl, ?_⟩) (by assumption) ?_
  rotate_left
  · (intro w hSw; (try dsimp only at hSw); go_split_ands; go_simp; first | done | with_reducible rfl)
  simp only [List.getElem_toArray, List.getElem_cons_succ, List.getElem_cons_zero, Act.put, List.setIfInBounds_toArray, List.set_cons_zero, List.set_cons_succ]
  refine wpAnyH_ready (rs := [0, 5]) (by kernel_rfl) (by simp) ?_
  refine AllReadyH.cons rfl (fun K hK => ?_) ?_
  · (go_simp)
    refine hK.out _ _ ?_ (fun hHeld => ?_)
    · exact HSK.out _ _ hHeld (ext_drew (Ext.new V0 _))
    clear hK K
    refine wpAnyH_ready (rs := [3, 5]) (by kernel_rfl) (by simp) ?_
    refine AllReadyH.cons rfl (fun K hK => ?_) ?_
    · (refine step_appS (W := (V0.alloc (.cells #[] 40)).drew) W.heap.size (.tmp 21) (.tmp 23) 22 40 _ 4 48 rfl Tryd.underlying22 Tryd.info_apirule rfl (by decide) (by decide) V0.heap.size 0 0 [] A1 tb.rules.length c1 tb.rules.length (tb.rules.map ruleVals) (by simp) (Nat.zero_add _) rfl rfl HRL.out HR1.out (HEA.out _ (ext_to (Ext.trans HXV.out (Ext.new V0 _)))) (own_drew (empty_own V0 W.heap.size _ 4 HXV.out.size)) (by have := HXV.out.size; show _ ≤ (V0.alloc (.cells #[] 40)).heap.size; simp only [World.size_alloc]; omega) HB1.out rfl ?_; intro g3 cap3 w5 hA3; rw [List.nil_append] at hA3; obtain ⟨hS5, hx5, hb5⟩ := HS3.out _ _ _ _ _ _ (ext_to (Ext.new V0 _)) (Nat.le_refl _) hA3)
      refine hK.out _ _ ?_ (fun hHeld => ?_)
      · exact hS5
      clear hK K
      refine wpAnyH_ready (rs := [5]) (by kernel_rfl) (by simp) ?_
      refine AllReadyH.cons rfl (fun K hK => ?_) ?_
      · (go_simp)
        refine hK.out _ _ ?_ (fun hHeld => ?_)
        · exact HSK.out _ _ hS5 (Ext.new w5 _)
        clear hK K
        refine wpAnyH_ready (rs := [6]) (by kernel_rfl) (by simp) ?_
        refine AllReadyH.cons rfl (fun K hK => ?_) ?_
        · (refine step_appS (W := w5.alloc (.cells #[.int .i64 rr.script, .string (B rr.frm), .string (B rr.to), .int .i64 rr.cost] 40)) W.heap.size (.tmp 24) (.tmp 26) 22 40 _ 4 48 rfl Tryd.underlying22 Tryd.info_apirule rfl (by decide) (by decide) g3 cap3 tb.rules.length (tb.rules.map ruleVals).flatten (some ⟨w5.heap.size, 0, none⟩) 1 1 (tb.rules.length + 1) [ruleVals rr] rfl rfl rfl rfl HRL1.out HR11.out (rule_new w5 rr) (ownsRow_mod hA3.own ((Ext.new w5 _).mod (fun _ => False)) (fun _ _ h => h)) (by have := hx5.size; simp only [World.size_alloc]; omega) HB2.out rfl ?_; intro g6 cap6 w6 hA6; obtain ⟨hS6, hx6, hb6, kM6, kF6⟩ := HS6.out _ _ _ _ _ _ _ _ _ _ _ hA3 hb5 (Ext.new w5 _) hA6 hx5; have cM6 := cell_of kM6 0; have fM6 := frozen_of kM6 0)
          refine hK.out _ _ ?_ (fun hHeld => ?_)
          · exact hS6
          clear hK K
          refine wpAnyH_take (i := 7) (v := ?_) rfl (by kernel_rfl) (by kernel_rfl) (by kernel_rfl) (fun _ _ _ h => h) (Or.inl ⟨by rfl, ?_⟩) (by assumption) ?_
          rotate_left
          · (intro w hSw; (try dsimp only at hSw); go_split_ands; go_simp; first | done | with_reducible rfl)
          simp only [List.getElem_toArray, List.getElem_cons_succ, List.getElem_cons_zero, Act.put, List.setIfInBounds_toArray, List.set_cons_zero, List.set_cons_succ]
          refine wpAnyH_ready (rs := [8]) (by kernel_rfl) (by simp) ?_
          refine AllReadyH.cons rfl (fun K hK => ?_) ?_
          · (go_simp)
            refine hK.out _ _ ?_ (fun hHeld => ?_)
            · exact HSS.out _ _ hS6
            clear hK K
            refine wpAnyH_done (by kernel_rfl) ?_ _
            have hx7 : Ext W (w6.setCell ⟨Bm, 0, none⟩ (.slice (some ⟨g6, 0, none⟩) (tb.rules.length + 1) cap6)) := hx6.set (by omega) _
            have kM7 : (w6.setCell ⟨Bm, 0, none⟩ (.slice (some ⟨g6, 0, none⟩) (tb.rules.length + 1) cap6)).heap[Bm]? = some (.cells #[Value.slice (some ⟨g6, 0, none⟩) (tb.rules.length + 1) cap6, .slice A2 tb.drops.length c2, .slice A3 tb.ends.length c3, .int .i64 tb.drop, .int .i64 tb.order, .int .i64 tb.initial] 25) := by
              have := block_set kM6 0 (.slice (some ⟨g6, 0, none⟩) (tb.rules.length + 1) cap6)
              simpa using this
            have kT7 : (w6.setCell ⟨Bm, 0, none⟩ (.slice (some ⟨g6, 0, none⟩) (tb.rules.length + 1) cap6)).heap[W.heap.size]? = some (.cells #[Value.slice A1 tb.rules.length c1, .slice A2 tb.drops.length c2, .slice A3 tb.ends.length c3, .int .i64 tb.drop, .int .i64 tb.order, .int .i64 tb.initial] 25) := (Below.heap_setCell _ _ _ _ (by show W.heap.size ≠ Bm; omega)).trans kF6
            have ho7 := ownsRow_mod hA6.own ((Mod.refl (fun k => k = Bm) w6).setCell (p := ⟨Bm, 0, none⟩) (.inl rfl) (.slice (some ⟨g6, 0, none⟩) (tb.rules.length + 1) cap6)) (fun g hg h => by
              obtain ⟨_, _, cur, hh⟩ := ownsRow_block hA6.own hg
              rw [h, kM6] at hh
              simp at hh)
            obtain ⟨V, hV⟩ : ∃ V, w6.setCell ⟨Bm, 0, none⟩ (.slice (some ⟨g6, 0, none⟩) (tb.rules.length + 1) cap6) = V := ⟨_, rfl⟩
            rw [hV] at hx7 kM7 kT7 ho7 ⊢
            have hfl : (tb.rules.map ruleVals).flatten ++ [ruleVals rr].flatten = ((moreT tb rr).rules.map ruleVals).flatten := by simp [moreT]
            have hln : tb.rules.length + 1 = ((moreT tb rr).rules.map ruleVals).length := by simp [moreT]
            have ho7' := ho7
            rw [hfl, hln] at ho7'
            obtain ⟨A6, q6, he6, HE6⟩ := own_rows (fun r hr => by obtain ⟨q, _, rfl⟩ := List.mem_map.1 hr; rfl) ho7'
            cases he6
            clear hV kM6 kF6 hA6 hA3 hx6 hS6 hb6 hS5 hb5 hfl hln ho7
            clear ho7' hx5
            have cM7 := block_later kM7 (Below.refl _ V)
            have cT7 := block_later kT7 (Below.refl _ V)
            obtain ⟨cM, cMa, _⟩ := cM7
            obtain ⟨cT, cTa, _⟩ := cT7
            have hrd := HRD.out
            have HRM : TabRd V (some ⟨g6, 0, none⟩) A2 A3 (moreT tb rr) := by
              refine ⟨HE6, hrd.drops.ext hx7, hrd.ends.ext hx7, fun r hr => ?_, hrd.dfit, hrd.efit, ?_, hrd.dlen, hrd.elen⟩
              · rcases List.mem_append.1 hr with hr | hr
                · exact hrd.rfit r hr
                · simp only [List.mem_singleton] at hr; subst hr; exact HRR.out
              · have := HB2.out
                unfold Go.maxLen moreT
                simp only [List.length_append, List.length_cons, List.length_nil]; omega
            have HF := Lib.hid (few_two (some ⟨g6, 0, none⟩) A2 A3 cap6 c2 c3 (moreT tb rr) x y V HRM)
            unfold tabVal at HF
            simp only [moreT, List.length_append, List.length_cons, List.length_nil, Nat.zero_add] at HF
            have HCV : Hid (∀ w', Ext V w' → (∀ n, w'.cell? ⟨Bm, n, none⟩ = #[Value.slice (some ⟨g6, 0, none⟩) (tb.rules.length + 1) cap6, .slice A2 tb.drops.length c2, .slice A3 tb.ends.length c3, .int .i64 tb.drop, .int .i64 tb.order, .int .i64 tb.initial][n]?) ∧ (∀ n, w'.cell? ⟨W.heap.size, n, none⟩ = #[Value.slice A1 tb.rules.length c1, .slice A2 tb.drops.length c2, .slice A3 tb.ends.length c3, .int .i64 tb.drop, .int .i64 tb.order, .int .i64 tb.initial][n]?)) := Lib.hid (fun w' h => ⟨cell_of (block_ext kM7 h), cell_of (block_ext kT7 h)⟩)
            have HXW := Lib.hid hx7
            have HMRD := Lib.hid HRM
            clear kM7 kT7 HE6 hrd HRM hx7
            cases hfew : fewS (moreT tb rr) [x, y] with
            | false =>
              have hfw : fewS { tb with rules := tb.rules ++ [rr] } [x, y] = false := hfew
              rw [hfw] at HF
              clear hfew hfw
              go_wp2_with (go_at_call 8; (with_reducible refine (HF.out).mono ?_); rintro e u1 ⟨hu1, rfl⟩)
              go_ret
              exact ⟨Ext.trans HXW.out hu1, rfl⟩
            | true =>
              have hfw : fewS { tb with rules := tb.rules ++ [rr] } [x, y] = true := hfew
              rw [hfw] at HF
              obtain ⟨hTabM, hlenM, hws⟩ := HMRD.out.at hfew
              obtain ⟨hTab, hlen, _⟩ := HRD.out.at (few_less hfew)
              have hx := (hws x (by simp)).1
              have hy := (hws y (by simp)).1
              have HTAB : Hid (∀ w', Ext W w' → TabAt w' A1 A2 A3 tb) := Lib.hid (fun w' h => hTab.ext h)
              have HTABM : Hid (∀ w', Ext V w' → TabAt w' (some ⟨g6, 0, none⟩) A2 A3 (moreT tb rr)) := Lib.hid (fun w' h => hTabM.ext h)
              have HXY := Lib.hid (And.intro hx hy)
              have HLEN := Lib.hid hlen
              have HLENM := Lib.hid hlenM
              have HVT : Hid (∀ w', Ext V w' → Calls Tryd.prog 13 #[.agg #[Value.slice A1 tb.rules.length c1, .slice A2 tb.drops.length c2, .slice A3 tb.ends.length c3, .int .i64 tb.drop, .int .i64 tb.order, .int .i64 tb.initial]] w' fun e w'' => e = .returned (.bool (validS tb)) ∧ Ext w' w'') := Lib.hid (fun w' h => Valid_any A1 A2 A3 c1 c2 c3 tb w' (HTAB.out _ (Ext.trans HXW.out h)) (HTT.out _ (Ext.trans HXW.out h)))
              have HVM : Hid (∀ w', Ext V w' → Calls Tryd.prog 13 #[.agg #[Value.slice (some ⟨g6, 0, none⟩) (tb.rules.length + 1) cap6, .slice A2 tb.drops.length c2, .slice A3 tb.ends.length c3, .int .i64 tb.drop, .int .i64 tb.order, .int .i64 tb.initial]] w' fun e w'' => e = .returned (.bool (validS (moreT tb rr))) ∧ Ext w' w'') := Lib.hid (fun w' h => by
                have := Valid_any (some ⟨g6, 0, none⟩) A2 A3 cap6 c2 c3 (moreT tb rr) w' (HTABM.out _ h) (HTT.out _ (Ext.trans HXW.out h))
                unfold tabVal at this
                simp only [moreT, List.length_append, List.length_cons, List.length_nil, Nat.zero_add] at this
                exact this)
              clear hfew hfw hTabM hlenM hws hTab hlen hx hy
              cases hv1 : validS tb with
              | false =>
                rw [hv1] at HVT
                clear hv1
                go_wp2_with (first | (go_at_call 8; (with_reducible refine (HF.out).mono ?_); rintro e u1 ⟨hu1, rfl⟩; obtain ⟨m1, t1⟩ := HCV.out _ hu1) | (go_at_call 13; (with_reducible refine (HVT.out _ hu1).mono ?_); rintro e u2 ⟨rfl, hu2⟩))
                go_ret
                exact ⟨Ext.trans HXW.out (Ext.trans hu1 hu2), rfl⟩
              | true =>
                cases hv2 : validS (moreT tb rr) with
                | false =>
                  rw [hv1] at HVT
                  rw [hv2] at HVM
                  clear hv1 hv2
                  go_wp2_with (first | (go_at_call 8; (with_reducible refine (HF.out).mono ?_); rintro e u1 ⟨hu1, rfl⟩; obtain ⟨m1, t1⟩ := HCV.out _ hu1) | (go_at_call 13; (with_reducible refine (HVT.out _ hu1).mono ?_); rintro e u2 ⟨rfl, hu2⟩; have hu12 := Ext.trans hu1 hu2; obtain ⟨m2, t2⟩ := HCV.out _ hu12) | (go_at_call 13; (with_reducible refine (HVM.out _ hu12).mono ?_); rintro e u3 ⟨rfl, hu3⟩))
                  go_ret
                  exact ⟨Ext.trans HXW.out (Ext.trans hu12 hu3), rfl⟩
                | true =>
                  rw [hv1] at HVT
                  rw [hv2] at HVM
                  have HV12 := Lib.hid (And.intro hv1 hv2)
                  clear hv1 hv2
                  go_upto_region 6 with (first | (go_at_call 8; (with_reducible refine (HF.out).mono ?_); rintro e u1 ⟨hu1, rfl⟩; obtain ⟨m1, t1⟩ := HCV.out _ hu1) | (go_at_call 13; (with_reducible refine (HVT.out _ hu1).mono ?_); rintro e u2 ⟨rfl, hu2⟩; have hu12 := Ext.trans hu1 hu2; obtain ⟨m2, t2⟩ := HCV.out _ hu12) | (go_at_call 13; (with_reducible refine (HVM.out _ hu12).mono ?_); rintro e w4 ⟨rfl, hu3⟩))
                  have hVw := Ext.trans hu12 hu3
                  have hw4 := Ext.trans HXW.out hVw
                  clear cM cMa cT cTa m1 t1 m2 t2
                  obtain ⟨m1, t1⟩ := HCV.out _ hVw
                  obtain ⟨D, hD⟩ : ∃ D, bestS tb a x b y = D := ⟨_, rfl⟩
                  obtain ⟨⟨cst, l, m, f⟩, er⟩ := D
                  have HD := Lib.hid hD
                  obtain ⟨D2, hD2⟩ : ∃ D2, bestS (moreT tb rr) a x b y = D2 := ⟨_, rfl⟩
                  obtain ⟨⟨cst2, l2, m2, f2⟩, er2⟩ := D2
                  have HD2 := Lib.hid hD2
                  clear hD hD2
                  have HB1 := Lib.hid (Best_at A1 A2 A3 c1 c2 c3 tb a x b y w4 (HTAB.out _ hw4) (HTT.out _ hw4) HXY.out.1 HXY.out.2 HLEN.out HD.out)
                  go_upto_region 7 with (go_at_call 9; (with_reducible refine (HB1.out).mono ?_); rintro e v1 ⟨hx1, hn1, P1, p1, Q1, q1, rfl, el1, er1⟩)
                  have k1 := World.alloc_heap_new v1 (.cells #[.int .i64 cst, .slice P1 l.length p1, .slice Q1 m.length q1, .string (B f)] 28)
                  have x1 := Ext.trans hx1 (Ext.new v1 (.cells #[.int .i64 cst, .slice P1 l.length p1, .slice Q1 m.length q1, .string (B f)] 28))
                  have y1 := Ext.new v1 (.cells #[.int .i64 cst, .slice P1 l.length p1, .slice Q1 m.length q1, .string (B f)] 28)
                  obtain ⟨V1, hV1⟩ : ∃ V1, v1.alloc (.cells #[.int .i64 cst, .slice P1 l.length p1, .slice Q1 m.length q1, .string (B f)] 28) = V1 := ⟨_, rfl⟩
                  rw [hV1] at k1 x1 y1 ⊢
                  clear hV1
                  obtain ⟨b1, hb1⟩ : ∃ b1, v1.heap.size = b1 := ⟨_, rfl⟩
                  rw [hb1] at k1 ⊢
                  have HZ1 := Lib.hid (And.intro (And.intro el1 er1) (And.intro y1 (And.intro hx1 hb1)))
                  have HEL1 := Lib.hid (el1.ext y1)
                  have HER1 := Lib.hid (er1.ext y1)
                  have HS1 := Lib.hid x1
                  have hW1 := Ext.trans hw4 x1
                  have HK1 := Lib.hid k1
                  have HN1 := Lib.hid hn1
                  clear hx1 el1 er1 x1 y1 k1 HB1 hn1 hb1
                  clear m1 t1
                  obtain ⟨m1, t1⟩ := HCV.out _ (Ext.trans hVw HS1.out)
                  have HB2' := Best_at (some ⟨g6, 0, none⟩) A2 A3 cap6 c2 c3 (moreT tb rr) a x b y V1 (HTABM.out _ (Ext.trans hVw HS1.out)) (HTT.out _ hW1) HXY.out.1 HXY.out.2 HLENM.out HD2.out
                  simp only [moreT, List.length_append, List.length_cons, List.length_nil, Nat.zero_add] at HB2'
                  have HBB := Lib.hid HB2'
                  clear HB2'
                  go_upto_region 8 with (go_at_call 9; (with_reducible refine (HBB.out).mono ?_); rintro e v2 ⟨hx2, hn2, P2, p2, Q2, q2, rfl, el2, er2⟩)
                  have k2 := World.alloc_heap_new v2 (.cells #[.int .i64 cst2, .slice P2 l2.length p2, .slice Q2 m2.length q2, .string (B f2)] 28)
                  have x2 := Ext.trans hx2 (Ext.new v2 (.cells #[.int .i64 cst2, .slice P2 l2.length p2, .slice Q2 m2.length q2, .string (B f2)] 28))
                  have y2 := Ext.new v2 (.cells #[.int .i64 cst2, .slice P2 l2.length p2, .slice Q2 m2.length q2, .string (B f2)] 28)
                  obtain ⟨V2, hV2⟩ : ∃ V2, v2.alloc (.cells #[.int .i64 cst2, .slice P2 l2.length p2, .slice Q2 m2.length q2, .string (B f2)] 28) = V2 := ⟨_, rfl⟩
                  rw [hV2] at k2 x2 y2 ⊢
                  clear hV2
                  obtain ⟨b2, hb2⟩ : ∃ b2, v2.heap.size = b2 := ⟨_, rfl⟩
                  rw [hb2] at k2 ⊢
                  have HZ2 := Lib.hid (And.intro (And.intro el2 er2) (And.intro y2 (And.intro hx2 hb2)))
                  have HEL2 := Lib.hid (el2.ext y2)
                  have HER2 := Lib.hid (er2.ext y2)
                  have HS2 := Lib.hid x2
                  have hW2 := Ext.trans hW1 x2
                  have HK2 := Lib.hid k2
                  have HN2 := Lib.hid hn2
                  clear hx2 el2 er2 x2 y2 k2 HBB hn2 hb2
                  clear m1 t1
                  have HCW : Hid (∀ w', Ext V2 w' → (∀ n, w'.cell? ⟨b1, n, none⟩ = #[Value.int .i64 cst, .slice P1 l.length p1, .slice Q1 m.length q1, .string (B f)][n]?) ∧ (∀ n, w'.cell? ⟨b2, n, none⟩ = #[Value.int .i64 cst2, .slice P2 l2.length p2, .slice Q2 m2.length q2, .string (B f2)][n]?) ∧ (∀ n, w'.cell? ⟨Bm, n, none⟩ = #[Value.slice (some ⟨g6, 0, none⟩) (tb.rules.length + 1) cap6, .slice A2 tb.drops.length c2, .slice A3 tb.ends.length c3, .int .i64 tb.drop, .int .i64 tb.order, .int .i64 tb.initial][n]?)) := Lib.hid (fun w' h => ⟨cell_of (block_ext HK1.out (Ext.trans HS2.out h)), cell_of (block_ext HK2.out h), (HCV.out _ (Ext.trans hVw (Ext.trans HS1.out (Ext.trans HS2.out h)))).1⟩)
                  obtain ⟨d1, d2, m1⟩ := HCW.out _ (Below.refl _ V2)
                  by_cases he : er = 0
                  · subst he
                    obtain ⟨p, hp1, hp2⟩ := best_more (m := moreT tb rr) (r := rr) rfl HV12.out.2 HD.out
                    rw [HD2.out] at hp1
                    cases hp1
                    dsimp only at hp2
                    have hck := check_more (m := moreT tb rr) (r := rr) rfl HV12.out.2 (best_sound HD.out)
                    have HC := Check_any (some ⟨g6, 0, none⟩) A2 A3 cap6 c2 c3 (moreT tb rr) a x b y ⟨cst, l, m, f⟩ P1 Q1 p1 q1 V2 (HTABM.out _ (Ext.trans hVw (Ext.trans HS1.out HS2.out))) (HTT.out _ hW2) HXY.out.1 HXY.out.2 HLENM.out (HEL1.out.ext HS2.out) (HER1.out.ext HS2.out) (by have := HN1.out; dsimp only; omega) (by have := HN1.out; dsimp only; omega)
                    rw [hck] at HC
                    unfold derVal tabVal at HC
                    simp only [moreT, List.length_append, List.length_cons, List.length_nil, Nat.zero_add] at HC
                    have HCk := Lib.hid HC
                    clear hck HC
                    go_wp2_with (go_at_call 10; (with_reducible refine (HCk.out).mono ?_); rintro e w7 ⟨hb7, rfl⟩)
                    go_ret
                    exact ⟨Ext.trans hW2 hb7, rfl⟩
                  · rcases best_cases tb a x b y with ⟨h, _⟩ | ⟨h, _⟩ | ⟨dd, h, _⟩
                    · rw [HD.out] at h
                      cases h
                      have h2 := best_arg (m := moreT tb rr) HV12.out.1 HV12.out.2 (a := a) (b := b) (x := x) (y := y) (by rw [HD.out])
                      rw [HD2.out] at h2
                      dsimp only at h2
                      subst h2
                      clear he
                      go_wp2
                      go_ret
                      exact ⟨hW2, rfl⟩
                    · rw [HD.out] at h
                      cases h
                      clear he
                      go_wp2
                      go_ret
                      exact ⟨hW2, rfl⟩
                    · rw [HD.out] at h
                      cases h
                      exact absurd rfl he
          exact AllReadyH.nil
        exact AllReadyH.nil
      exact AllReadyH.nil
    refine AllReadyH.cons rfl (fun K hK => ?_) ?_
    · (go_simp)
      refine hK.out _ _ ?_ (fun hHeld => ?_)
      · exact HSK.out _ _ hHeld (ext_drew ((Ext.new _ _)))
      clear hK K
      refine wpAnyH_ready (rs := [3]) (by kernel_rfl) (by simp) ?_
      refine AllReadyH.cons rfl (fun K hK => ?_) ?_
      · (refine step_appS (W := ((V0.alloc (.cells #[] 40)).alloc (.cells #[.int .i64 rr.script, .string (B rr.frm), .string (B rr.to), .int .i64 rr.cost] 40)).drew) W.heap.size (.tmp 21) (.tmp 23) 22 40 _ 4 48 rfl Tryd.underlying22 Tryd.info_apirule rfl (by decide) (by decide) V0.heap.size 0 0 [] A1 tb.rules.length c1 tb.rules.length (tb.rules.map ruleVals) (by simp) (Nat.zero_add _) rfl rfl HRL.out HR1.out (HEA.out _ (ext_to (Ext.trans HXV.out ((Ext.new V0 _).alloc _)))) (own_drew (ownsRow_mod (empty_own V0 W.heap.size _ 4 HXV.out.size) ((Ext.new _ _).mod (fun _ => False)) (fun _ _ h => h))) (by have := HXV.out.size; show _ ≤ ((V0.alloc (.cells #[] 40)).alloc (.cells #[.int .i64 rr.script, .string (B rr.frm), .string (B rr.to), .int .i64 rr.cost] 40)).heap.size; simp only [World.size_alloc]; omega) HB1.out rfl ?_; intro g3 cap3 w5 hA3; rw [List.nil_append] at hA3; obtain ⟨hS5, hx5, hb5⟩ := HS3.out _ _ _ _ _ _ (ext_to ((Ext.new V0 _).alloc _)) (Nat.le_refl _) hA3)
        refine hK.out _ _ ?_ (fun hHeld => ?_)
        · exact hS5
        clear hK K
        refine wpAnyH_ready (rs := [6]) (by kernel_rfl) (by simp) ?_
        refine AllReadyH.cons rfl (fun K hK => ?_) ?_
        · (refine step_appS (W := w5) W.heap.size (.tmp 24) (.tmp 26) 22 40 _ 4 48 rfl Tryd.underlying22 Tryd.info_apirule rfl (by decide) (by decide) g3 cap3 tb.rules.length (tb.rules.map ruleVals).flatten (some ⟨V0.heap.size + 1, 0, none⟩) 1 1 (tb.rules.length + 1) [ruleVals rr] rfl rfl rfl rfl HRL1.out HR11.out (HEB.out _ _ _ _ hA3) hA3.own (by have := hx5.size; omega) HB2.out rfl ?_; intro g6 cap6 w6 hA6; obtain ⟨hS6, hx6, hb6, kM6, kF6⟩ := HS6.out _ _ _ _ _ _ _ _ _ _ _ hA3 hb5 (Below.refl _ _) hA6 hx5; have cM6 := cell_of kM6 0; have fM6 := frozen_of kM6 0)
          refine hK.out _ _ ?_ (fun hHeld => ?_)
          · exact hS6
          clear hK K
          refine wpAnyH_take (i := 7) (v := ?_) rfl (by kernel_rfl) (by kernel_rfl) (by kernel_rfl) (fun _ _ _ h => h) (Or.inl ⟨by rfl, ?_⟩) (by assumption) ?_
          rotate_left
          · (intro w hSw; (try dsimp only at hSw); go_split_ands; go_simp; first | done | with_reducible rfl)
          simp only [List.getElem_toArray, List.getElem_cons_succ, List.getElem_cons_zero, Act.put, List.setIfInBounds_toArray, List.set_cons_zero, List.set_cons_succ]
          refine wpAnyH_ready (rs := [8]) (by kernel_rfl) (by simp) ?_
          refine AllReadyH.cons rfl (fun K hK => ?_) ?_
          · (go_simp)
            refine hK.out _ _ ?_ (fun hHeld => ?_)
            · exact HSS.out _ _ hS6
            clear hK K
            refine wpAnyH_done (by kernel_rfl) ?_ _
            have hx7 : Ext W (w6.setCell ⟨Bm, 0, none⟩ (.slice (some ⟨g6, 0, none⟩) (tb.rules.length + 1) cap6)) := hx6.set (by omega) _
            have kM7 : (w6.setCell ⟨Bm, 0, none⟩ (.slice (some ⟨g6, 0, none⟩) (tb.rules.length + 1) cap6)).heap[Bm]? = some (.cells #[Value.slice (some ⟨g6, 0, none⟩) (tb.rules.length + 1) cap6, .slice A2 tb.drops.length c2, .slice A3 tb.ends.length c3, .int .i64 tb.drop, .int .i64 tb.order, .int .i64 tb.initial] 25) := by
              have := block_set kM6 0 (.slice (some ⟨g6, 0, none⟩) (tb.rules.length + 1) cap6)
              simpa using this
            have kT7 : (w6.setCell ⟨Bm, 0, none⟩ (.slice (some ⟨g6, 0, none⟩) (tb.rules.length + 1) cap6)).heap[W.heap.size]? = some (.cells #[Value.slice A1 tb.rules.length c1, .slice A2 tb.drops.length c2, .slice A3 tb.ends.length c3, .int .i64 tb.drop, .int .i64 tb.order, .int .i64 tb.initial] 25) := (Below.heap_setCell _ _ _ _ (by show W.heap.size ≠ Bm; omega)).trans kF6
            have ho7 := ownsRow_mod hA6.own ((Mod.refl (fun k => k = Bm) w6).setCell (p := ⟨Bm, 0, none⟩) (.inl rfl) (.slice (some ⟨g6, 0, none⟩) (tb.rules.length + 1) cap6)) (fun g hg h => by
              obtain ⟨_, _, cur, hh⟩ := ownsRow_block hA6.own hg
              rw [h, kM6] at hh
              simp at hh)
            obtain ⟨V, hV⟩ : ∃ V, w6.setCell ⟨Bm, 0, none⟩ (.slice (some ⟨g6, 0, none⟩) (tb.rules.length + 1) cap6) = V := ⟨_, rfl⟩
            rw [hV] at hx7 kM7 kT7 ho7 ⊢
            have hfl : (tb.rules.map ruleVals).flatten ++ [ruleVals rr].flatten = ((moreT tb rr).rules.map ruleVals).flatten := by simp [moreT]
            have hln : tb.rules.length + 1 = ((moreT tb rr).rules.map ruleVals).length := by simp [moreT]
            have ho7' := ho7
            rw [hfl, hln] at ho7'
            obtain ⟨A6, q6, he6, HE6⟩ := own_rows (fun r hr => by obtain ⟨q, _, rfl⟩ := List.mem_map.1 hr; rfl) ho7'
            cases he6
            clear hV kM6 kF6 hA6 hA3 hx6 hS6 hb6 hS5 hb5 hfl hln ho7
            clear ho7' hx5
            have cM7 := block_later kM7 (Below.refl _ V)
            have cT7 := block_later kT7 (Below.refl _ V)
            obtain ⟨cM, cMa, _⟩ := cM7
            obtain ⟨cT, cTa, _⟩ := cT7
            have hrd := HRD.out
            have HRM : TabRd V (some ⟨g6, 0, none⟩) A2 A3 (moreT tb rr) := by
              refine ⟨HE6, hrd.drops.ext hx7, hrd.ends.ext hx7, fun r hr => ?_, hrd.dfit, hrd.efit, ?_, hrd.dlen, hrd.elen⟩
              · rcases List.mem_append.1 hr with hr | hr
                · exact hrd.rfit r hr
                · simp only [List.mem_singleton] at hr; subst hr; exact HRR.out
              · have := HB2.out
                unfold Go.maxLen moreT
                simp only [List.length_append, List.length_cons, List.length_nil]; omega
            have HF := Lib.hid (few_two (some ⟨g6, 0, none⟩) A2 A3 cap6 c2 c3 (moreT tb rr) x y V HRM)
            unfold tabVal at HF
            simp only [moreT, List.length_append, List.length_cons, List.length_nil, Nat.zero_add] at HF
            have HCV : Hid (∀ w', Ext V w' → (∀ n, w'.cell? ⟨Bm, n, none⟩ = #[Value.slice (some ⟨g6, 0, none⟩) (tb.rules.length + 1) cap6, .slice A2 tb.drops.length c2, .slice A3 tb.ends.length c3, .int .i64 tb.drop, .int .i64 tb.order, .int .i64 tb.initial][n]?) ∧ (∀ n, w'.cell? ⟨W.heap.size, n, none⟩ = #[Value.slice A1 tb.rules.length c1, .slice A2 tb.drops.length c2, .slice A3 tb.ends.length c3, .int .i64 tb.drop, .int .i64 tb.order, .int .i64 tb.initial][n]?)) := Lib.hid (fun w' h => ⟨cell_of (block_ext kM7 h), cell_of (block_ext kT7 h)⟩)
            have HXW := Lib.hid hx7
            have HMRD := Lib.hid HRM
            clear kM7 kT7 HE6 hrd HRM hx7
            cases hfew : fewS (moreT tb rr) [x, y] with
            | false =>
              have hfw : fewS { tb with rules := tb.rules ++ [rr] } [x, y] = false := hfew
              rw [hfw] at HF
              clear hfew hfw
              go_wp2_with (go_at_call 8; (with_reducible refine (HF.out).mono ?_); rintro e u1 ⟨hu1, rfl⟩)
              go_ret
              exact ⟨Ext.trans HXW.out hu1, rfl⟩
            | true =>
              have hfw : fewS { tb with rules := tb.rules ++ [rr] } [x, y] = true := hfew
              rw [hfw] at HF
              obtain ⟨hTabM, hlenM, hws⟩ := HMRD.out.at hfew
              obtain ⟨hTab, hlen, _⟩ := HRD.out.at (few_less hfew)
              have hx := (hws x (by simp)).1
              have hy := (hws y (by simp)).1
              have HTAB : Hid (∀ w', Ext W w' → TabAt w' A1 A2 A3 tb) := Lib.hid (fun w' h => hTab.ext h)
              have HTABM : Hid (∀ w', Ext V w' → TabAt w' (some ⟨g6, 0, none⟩) A2 A3 (moreT tb rr)) := Lib.hid (fun w' h => hTabM.ext h)
              have HXY := Lib.hid (And.intro hx hy)
              have HLEN := Lib.hid hlen
              have HLENM := Lib.hid hlenM
              have HVT : Hid (∀ w', Ext V w' → Calls Tryd.prog 13 #[.agg #[Value.slice A1 tb.rules.length c1, .slice A2 tb.drops.length c2, .slice A3 tb.ends.length c3, .int .i64 tb.drop, .int .i64 tb.order, .int .i64 tb.initial]] w' fun e w'' => e = .returned (.bool (validS tb)) ∧ Ext w' w'') := Lib.hid (fun w' h => Valid_any A1 A2 A3 c1 c2 c3 tb w' (HTAB.out _ (Ext.trans HXW.out h)) (HTT.out _ (Ext.trans HXW.out h)))
              have HVM : Hid (∀ w', Ext V w' → Calls Tryd.prog 13 #[.agg #[Value.slice (some ⟨g6, 0, none⟩) (tb.rules.length + 1) cap6, .slice A2 tb.drops.length c2, .slice A3 tb.ends.length c3, .int .i64 tb.drop, .int .i64 tb.order, .int .i64 tb.initial]] w' fun e w'' => e = .returned (.bool (validS (moreT tb rr))) ∧ Ext w' w'') := Lib.hid (fun w' h => by
                have := Valid_any (some ⟨g6, 0, none⟩) A2 A3 cap6 c2 c3 (moreT tb rr) w' (HTABM.out _ h) (HTT.out _ (Ext.trans HXW.out h))
                unfold tabVal at this
                simp only [moreT, List.length_append, List.length_cons, List.length_nil, Nat.zero_add] at this
                exact this)
              clear hfew hfw hTabM hlenM hws hTab hlen hx hy
              cases hv1 : validS tb with
              | false =>
                rw [hv1] at HVT
                clear hv1
                go_wp2_with (first | (go_at_call 8; (with_reducible refine (HF.out).mono ?_); rintro e u1 ⟨hu1, rfl⟩; obtain ⟨m1, t1⟩ := HCV.out _ hu1) | (go_at_call 13; (with_reducible refine (HVT.out _ hu1).mono ?_); rintro e u2 ⟨rfl, hu2⟩))
                go_ret
                exact ⟨Ext.trans HXW.out (Ext.trans hu1 hu2), rfl⟩
              | true =>
                cases hv2 : validS (moreT tb rr) with
                | false =>
                  rw [hv1] at HVT
                  rw [hv2] at HVM
                  clear hv1 hv2
                  go_wp2_with (first | (go_at_call 8; (with_reducible refine (HF.out).mono ?_); rintro e u1 ⟨hu1, rfl⟩; obtain ⟨m1, t1⟩ := HCV.out _ hu1) | (go_at_call 13; (with_reducible refine (HVT.out _ hu1).mono ?_); rintro e u2 ⟨rfl, hu2⟩; have hu12 := Ext.trans hu1 hu2; obtain ⟨m2, t2⟩ := HCV.out _ hu12) | (go_at_call 13; (with_reducible refine (HVM.out _ hu12).mono ?_); rintro e u3 ⟨rfl, hu3⟩))
                  go_ret
                  exact ⟨Ext.trans HXW.out (Ext.trans hu12 hu3), rfl⟩
                | true =>
                  rw [hv1] at HVT
                  rw [hv2] at HVM
                  have HV12 := Lib.hid (And.intro hv1 hv2)
                  clear hv1 hv2
                  go_upto_region 6 with (first | (go_at_call 8; (with_reducible refine (HF.out).mono ?_); rintro e u1 ⟨hu1, rfl⟩; obtain ⟨m1, t1⟩ := HCV.out _ hu1) | (go_at_call 13; (with_reducible refine (HVT.out _ hu1).mono ?_); rintro e u2 ⟨rfl, hu2⟩; have hu12 := Ext.trans hu1 hu2; obtain ⟨m2, t2⟩ := HCV.out _ hu12) | (go_at_call 13; (with_reducible refine (HVM.out _ hu12).mono ?_); rintro e w4 ⟨rfl, hu3⟩))
                  have hVw := Ext.trans hu12 hu3
                  have hw4 := Ext.trans HXW.out hVw
                  clear cM cMa cT cTa m1 t1 m2 t2
                  obtain ⟨m1, t1⟩ := HCV.out _ hVw
                  obtain ⟨D, hD⟩ : ∃ D, bestS tb a x b y = D := ⟨_, rfl⟩
                  obtain ⟨⟨cst, l, m, f⟩, er⟩ := D
                  have HD := Lib.hid hD
                  obtain ⟨D2, hD2⟩ : ∃ D2, bestS (moreT tb rr) a x b y = D2 := ⟨_, rfl⟩
                  obtain ⟨⟨cst2, l2, m2, f2⟩, er2⟩ := D2
                  have HD2 := Lib.hid hD2
                  clear hD hD2
                  have HB1 := Lib.hid (Best_at A1 A2 A3 c1 c2 c3 tb a x b y w4 (HTAB.out _ hw4) (HTT.out _ hw4) HXY.out.1 HXY.out.2 HLEN.out HD.out)
                  go_upto_region 7 with (go_at_call 9; (with_reducible refine (HB1.out).mono ?_); rintro e v1 ⟨hx1, hn1, P1, p1, Q1, q1, rfl, el1, er1⟩)
                  have k1 := World.alloc_heap_new v1 (.cells #[.int .i64 cst, .slice P1 l.length p1, .slice Q1 m.length q1, .string (B f)] 28)
                  have x1 := Ext.trans hx1 (Ext.new v1 (.cells #[.int .i64 cst, .slice P1 l.length p1, .slice Q1 m.length q1, .string (B f)] 28))
                  have y1 := Ext.new v1 (.cells #[.int .i64 cst, .slice P1 l.length p1, .slice Q1 m.length q1, .string (B f)] 28)
                  obtain ⟨V1, hV1⟩ : ∃ V1, v1.alloc (.cells #[.int .i64 cst, .slice P1 l.length p1, .slice Q1 m.length q1, .string (B f)] 28) = V1 := ⟨_, rfl⟩
                  rw [hV1] at k1 x1 y1 ⊢
                  clear hV1
                  obtain ⟨b1, hb1⟩ : ∃ b1, v1.heap.size = b1 := ⟨_, rfl⟩
                  rw [hb1] at k1 ⊢
                  have HZ1 := Lib.hid (And.intro (And.intro el1 er1) (And.intro y1 (And.intro hx1 hb1)))
                  have HEL1 := Lib.hid (el1.ext y1)
                  have HER1 := Lib.hid (er1.ext y1)
                  have HS1 := Lib.hid x1
                  have hW1 := Ext.trans hw4 x1
                  have HK1 := Lib.hid k1
                  have HN1 := Lib.hid hn1
                  clear hx1 el1 er1 x1 y1 k1 HB1 hn1 hb1
                  clear m1 t1
                  obtain ⟨m1, t1⟩ := HCV.out _ (Ext.trans hVw HS1.out)
                  have HB2' := Best_at (some ⟨g6, 0, none⟩) A2 A3 cap6 c2 c3 (moreT tb rr) a x b y V1 (HTABM.out _ (Ext.trans hVw HS1.out)) (HTT.out _ hW1) HXY.out.1 HXY.out.2 HLENM.out HD2.out
                  simp only [moreT, List.length_append, List.length_cons, List.length_nil, Nat.zero_add] at HB2'
                  have HBB := Lib.hid HB2'
                  clear HB2'
                  go_upto_region 8 with (go_at_call 9; (with_reducible refine (HBB.out).mono ?_); rintro e v2 ⟨hx2, hn2, P2, p2, Q2, q2, rfl, el2, er2⟩)
                  have k2 := World.alloc_heap_new v2 (.cells #[.int .i64 cst2, .slice P2 l2.length p2, .slice Q2 m2.length q2, .string (B f2)] 28)
                  have x2 := Ext.trans hx2 (Ext.new v2 (.cells #[.int .i64 cst2, .slice P2 l2.length p2, .slice Q2 m2.length q2, .string (B f2)] 28))
                  have y2 := Ext.new v2 (.cells #[.int .i64 cst2, .slice P2 l2.length p2, .slice Q2 m2.length q2, .string (B f2)] 28)
                  obtain ⟨V2, hV2⟩ : ∃ V2, v2.alloc (.cells #[.int .i64 cst2, .slice P2 l2.length p2, .slice Q2 m2.length q2, .string (B f2)] 28) = V2 := ⟨_, rfl⟩
                  rw [hV2] at k2 x2 y2 ⊢
                  clear hV2
                  obtain ⟨b2, hb2⟩ : ∃ b2, v2.heap.size = b2 := ⟨_, rfl⟩
                  rw [hb2] at k2 ⊢
                  have HZ2 := Lib.hid (And.intro (And.intro el2 er2) (And.intro y2 (And.intro hx2 hb2)))
                  have HEL2 := Lib.hid (el2.ext y2)
                  have HER2 := Lib.hid (er2.ext y2)
                  have HS2 := Lib.hid x2
                  have hW2 := Ext.trans hW1 x2
                  have HK2 := Lib.hid k2
                  have HN2 := Lib.hid hn2
                  clear hx2 el2 er2 x2 y2 k2 HBB hn2 hb2
                  clear m1 t1
                  have HCW : Hid (∀ w', Ext V2 w' → (∀ n, w'.cell? ⟨b1, n, none⟩ = #[Value.int .i64 cst, .slice P1 l.length p1, .slice Q1 m.length q1, .string (B f)][n]?) ∧ (∀ n, w'.cell? ⟨b2, n, none⟩ = #[Value.int .i64 cst2, .slice P2 l2.length p2, .slice Q2 m2.length q2, .string (B f2)][n]?) ∧ (∀ n, w'.cell? ⟨Bm, n, none⟩ = #[Value.slice (some ⟨g6, 0, none⟩) (tb.rules.length + 1) cap6, .slice A2 tb.drops.length c2, .slice A3 tb.ends.length c3, .int .i64 tb.drop, .int .i64 tb.order, .int .i64 tb.initial][n]?)) := Lib.hid (fun w' h => ⟨cell_of (block_ext HK1.out (Ext.trans HS2.out h)), cell_of (block_ext HK2.out h), (HCV.out _ (Ext.trans hVw (Ext.trans HS1.out (Ext.trans HS2.out h)))).1⟩)
                  obtain ⟨d1, d2, m1⟩ := HCW.out _ (Below.refl _ V2)
                  by_cases he : er = 0
                  · subst he
                    obtain ⟨p, hp1, hp2⟩ := best_more (m := moreT tb rr) (r := rr) rfl HV12.out.2 HD.out
                    rw [HD2.out] at hp1
                    cases hp1
                    dsimp only at hp2
                    have hck := check_more (m := moreT tb rr) (r := rr) rfl HV12.out.2 (best_sound HD.out)
                    have HC := Check_any (some ⟨g6, 0, none⟩) A2 A3 cap6 c2 c3 (moreT tb rr) a x b y ⟨cst, l, m, f⟩ P1 Q1 p1 q1 V2 (HTABM.out _ (Ext.trans hVw (Ext.trans HS1.out HS2.out))) (HTT.out _ hW2) HXY.out.1 HXY.out.2 HLENM.out (HEL1.out.ext HS2.out) (HER1.out.ext HS2.out) (by have := HN1.out; dsimp only; omega) (by have := HN1.out; dsimp only; omega)
                    rw [hck] at HC
                    unfold derVal tabVal at HC
                    simp only [moreT, List.length_append, List.length_cons, List.length_nil, Nat.zero_add] at HC
                    have HCk := Lib.hid HC
                    clear hck HC
                    go_wp2_with (go_at_call 10; (with_reducible refine (HCk.out).mono ?_); rintro e w7 ⟨hb7, rfl⟩)
                    go_ret
                    exact ⟨Ext.trans hW2 hb7, rfl⟩
                  · rcases best_cases tb a x b y with ⟨h, _⟩ | ⟨h, _⟩ | ⟨dd, h, _⟩
                    · rw [HD.out] at h
                      cases h
                      have h2 := best_arg (m := moreT tb rr) HV12.out.1 HV12.out.2 (a := a) (b := b) (x := x) (y := y) (by rw [HD.out])
                      rw [HD2.out] at h2
                      dsimp only at h2
                      subst h2
                      clear he
                      go_wp2
                      go_ret
                      exact ⟨hW2, rfl⟩
                    · rw [HD.out] at h
                      cases h
                      clear he
                      go_wp2
                      go_ret
                      exact ⟨hW2, rfl⟩
                    · rw [HD.out] at h
                      cases h
                      exact absurd rfl he
          exact AllReadyH.nil
        exact AllReadyH.nil
      exact AllReadyH.nil
    exact AllReadyH.nil
  refine AllReadyH.cons rfl (fun K hK => ?_) ?_
  · (go_simp)
    refine hK.out _ _ ?_ (fun hHeld => ?_)
    · exact HSK.out _ _ hHeld (ext_drew (Ext.new V0 _))
    clear hK K
    refine wpAnyH_ready (rs := [0]) (by kernel_rfl) (by simp) ?_
    refine AllReadyH.cons rfl (fun K hK => ?_) ?_
    · (go_simp)
      refine hK.out _ _ ?_ (fun hHeld => ?_)
      · exact HSK.out _ _ hHeld (ext_drew ((Ext.new _ _)))
      clear hK K
      refine wpAnyH_ready (rs := [3]) (by kernel_rfl) (by simp) ?_
      refine AllReadyH.cons rfl (fun K hK => ?_) ?_
      · (refine step_appS (W := ((V0.alloc (.cells #[.int .i64 rr.script, .string (B rr.frm), .string (B rr.to), .int .i64 rr.cost] 40)).alloc (.cells #[] 40)).drew) W.heap.size (.tmp 21) (.tmp 23) 22 40 _ 4 48 rfl Tryd.underlying22 Tryd.info_apirule rfl (by decide) (by decide) (V0.heap.size + 1) 0 0 [] A1 tb.rules.length c1 tb.rules.length (tb.rules.map ruleVals) (by simp) (Nat.zero_add _) rfl rfl HRL.out HR1.out (HEA.out _ (ext_to (Ext.trans HXV.out ((Ext.new V0 _).alloc _)))) (own_drew (by have h := empty_own (V0.alloc (.cells #[.int .i64 rr.script, .string (B rr.frm), .string (B rr.to), .int .i64 rr.cost] 40)) W.heap.size 40 4 (by have := HXV.out.size; simp only [World.size_alloc]; omega); rwa [World.size_alloc] at h)) (by have := HXV.out.size; show _ ≤ ((V0.alloc (.cells #[.int .i64 rr.script, .string (B rr.frm), .string (B rr.to), .int .i64 rr.cost] 40)).alloc (.cells #[] 40)).heap.size; simp only [World.size_alloc]; omega) HB1.out rfl ?_; intro g3 cap3 w5 hA3; rw [List.nil_append] at hA3; obtain ⟨hS5, hx5, hb5⟩ := HS3.out _ _ _ _ _ _ (ext_to ((Ext.new V0 _).alloc _)) (Nat.le_succ _) hA3)
        refine hK.out _ _ ?_ (fun hHeld => ?_)
        · exact hS5
        clear hK K
        refine wpAnyH_ready (rs := [6]) (by kernel_rfl) (by simp) ?_
        refine AllReadyH.cons rfl (fun K hK => ?_) ?_
        · (refine step_appS (W := w5) W.heap.size (.tmp 24) (.tmp 26) 22 40 _ 4 48 rfl Tryd.underlying22 Tryd.info_apirule rfl (by decide) (by decide) g3 cap3 tb.rules.length (tb.rules.map ruleVals).flatten (some ⟨V0.heap.size, 0, none⟩) 1 1 (tb.rules.length + 1) [ruleVals rr] rfl rfl rfl rfl HRL1.out HR11.out (HEC.out _ _ _ _ hA3) hA3.own (by have := hx5.size; omega) HB2.out rfl ?_; intro g6 cap6 w6 hA6; obtain ⟨hS6, hx6, hb6, kM6, kF6⟩ := HS6.out _ _ _ _ _ _ _ _ _ _ _ hA3 hb5 (Below.refl _ _) hA6 hx5; have cM6 := cell_of kM6 0; have fM6 := frozen_of kM6 0)
          refine hK.out _ _ ?_ (fun hHeld => ?_)
          · exact hS6
          clear hK K
          refine wpAnyH_take (i := 7) (v := ?_) rfl (by kernel_rfl) (by kernel_rfl) (by kernel_rfl) (fun _ _ _ h => h) (Or.inl ⟨by rfl, ?_⟩) (by assumption) ?_
          rotate_left
          · (intro w hSw; (try dsimp only at hSw); go_split_ands; go_simp; first | done | with_reducible rfl)
          simp only [List.getElem_toArray, List.getElem_cons_succ, List.getElem_cons_zero, Act.put, List.setIfInBounds_toArray, List.set_cons_zero, List.set_cons_succ]
          refine wpAnyH_ready (rs := [8]) (by kernel_rfl) (by simp) ?_
          refine AllReadyH.cons rfl (fun K hK => ?_) ?_
          · (go_simp)
            refine hK.out _ _ ?_ (fun hHeld => ?_)
            · exact HSS.out _ _ hS6
            clear hK K
            refine wpAnyH_done (by kernel_rfl) ?_ _
            have hx7 : Ext W (w6.setCell ⟨Bm, 0, none⟩ (.slice (some ⟨g6, 0, none⟩) (tb.rules.length + 1) cap6)) := hx6.set (by omega) _
            have kM7 : (w6.setCell ⟨Bm, 0, none⟩ (.slice (some ⟨g6, 0, none⟩) (tb.rules.length + 1) cap6)).heap[Bm]? = some (.cells #[Value.slice (some ⟨g6, 0, none⟩) (tb.rules.length + 1) cap6, .slice A2 tb.drops.length c2, .slice A3 tb.ends.length c3, .int .i64 tb.drop, .int .i64 tb.order, .int .i64 tb.initial] 25) := by
              have := block_set kM6 0 (.slice (some ⟨g6, 0, none⟩) (tb.rules.length + 1) cap6)
              simpa using this
            have kT7 : (w6.setCell ⟨Bm, 0, none⟩ (.slice (some ⟨g6, 0, none⟩) (tb.rules.length + 1) cap6)).heap[W.heap.size]? = some (.cells #[Value.slice A1 tb.rules.length c1, .slice A2 tb.drops.length c2, .slice A3 tb.ends.length c3, .int .i64 tb.drop, .int .i64 tb.order, .int .i64 tb.initial] 25) := (Below.heap_setCell _ _ _ _ (by show W.heap.size ≠ Bm; omega)).trans kF6
            have ho7 := ownsRow_mod hA6.own ((Mod.refl (fun k => k = Bm) w6).setCell (p := ⟨Bm, 0, none⟩) (.inl rfl) (.slice (some ⟨g6, 0, none⟩) (tb.rules.length + 1) cap6)) (fun g hg h => by
              obtain ⟨_, _, cur, hh⟩ := ownsRow_block hA6.own hg
              rw [h, kM6] at hh
              simp at hh)
            obtain ⟨V, hV⟩ : ∃ V, w6.setCell ⟨Bm, 0, none⟩ (.slice (some ⟨g6, 0, none⟩) (tb.rules.length + 1) cap6) = V := ⟨_, rfl⟩
            rw [hV] at hx7 kM7 kT7 ho7 ⊢
            have hfl : (tb.rules.map ruleVals).flatten ++ [ruleVals rr].flatten = ((moreT tb rr).rules.map ruleVals).flatten := by simp [moreT]
            have hln : tb.rules.length + 1 = ((moreT tb rr).rules.map ruleVals).length := by simp [moreT]
            have ho7' := ho7
            rw [hfl, hln] at ho7'
            obtain ⟨A6, q6, he6, HE6⟩ := own_rows (fun r hr => by obtain ⟨q, _, rfl⟩ := List.mem_map.1 hr; rfl) ho7'
            cases he6
            clear hV kM6 kF6 hA6 hA3 hx6 hS6 hb6 hS5 hb5 hfl hln ho7
            clear ho7' hx5
            have cM7 := block_later kM7 (Below.refl _ V)
            have cT7 := block_later kT7 (Below.refl _ V)
            obtain ⟨cM, cMa, _⟩ := cM7
            obtain ⟨cT, cTa, _⟩ := cT7
            have hrd := HRD.out
            have HRM : TabRd V (some ⟨g6, 0, none⟩) A2 A3 (moreT tb rr) := by
              refine ⟨HE6, hrd.drops.ext hx7, hrd.ends.ext hx7, fun r hr => ?_, hrd.dfit, hrd.efit, ?_, hrd.dlen, hrd.elen⟩
              · rcases List.mem_append.1 hr with hr | hr
                · exact hrd.rfit r hr
                · simp only [List.mem_singleton] at hr; subst hr; exact HRR.out
              · have := HB2.out
                unfold Go.maxLen moreT
                simp only [List.length_append, List.length_cons, List.length_nil]; omega
            have HF := Lib.hid (few_two (some ⟨g6, 0, none⟩) A2 A3 cap6 c2 c3 (moreT tb rr) x y V HRM)
            unfold tabVal at HF
            simp only [moreT, List.length_append, List.length_cons, List.length_nil, Nat.zero_add] at HF
            have HCV : Hid (∀ w', Ext V w' → (∀ n, w'.cell? ⟨Bm, n, none⟩ = #[Value.slice (some ⟨g6, 0, none⟩) (tb.rules.length + 1) cap6, .slice A2 tb.drops.length c2, .slice A3 tb.ends.length c3, .int .i64 tb.drop, .int .i64 tb.order, .int .i64 tb.initial][n]?) ∧ (∀ n, w'.cell? ⟨W.heap.size, n, none⟩ = #[Value.slice A1 tb.rules.length c1, .slice A2 tb.drops.length c2, .slice A3 tb.ends.length c3, .int .i64 tb.drop, .int .i64 tb.order, .int .i64 tb.initial][n]?)) := Lib.hid (fun w' h => ⟨cell_of (block_ext kM7 h), cell_of (block_ext kT7 h)⟩)
            have HXW := Lib.hid hx7
            have HMRD := Lib.hid HRM
            clear kM7 kT7 HE6 hrd HRM hx7
            cases hfew : fewS (moreT tb rr) [x, y] with
            | false =>
              have hfw : fewS { tb with rules := tb.rules ++ [rr] } [x, y] = false := hfew
              rw [hfw] at HF
              clear hfew hfw
              go_wp2_with (go_at_call 8; (with_reducible refine (HF.out).mono ?_); rintro e u1 ⟨hu1, rfl⟩)
              go_ret
              exact ⟨Ext.trans HXW.out hu1, rfl⟩
            | true =>
              have hfw : fewS { tb with rules := tb.rules ++ [rr] } [x, y] = true := hfew
              rw [hfw] at HF
              obtain ⟨hTabM, hlenM, hws⟩ := HMRD.out.at hfew
              obtain ⟨hTab, hlen, _⟩ := HRD.out.at (few_less hfew)
              have hx := (hws x (by simp)).1
              have hy := (hws y (by simp)).1
              have HTAB : Hid (∀ w', Ext W w' → TabAt w' A1 A2 A3 tb) := Lib.hid (fun w' h => hTab.ext h)
              have HTABM : Hid (∀ w', Ext V w' → TabAt w' (some ⟨g6, 0, none⟩) A2 A3 (moreT tb rr)) := Lib.hid (fun w' h => hTabM.ext h)
              have HXY := Lib.hid (And.intro hx hy)
              have HLEN := Lib.hid hlen
              have HLENM := Lib.hid hlenM
              have HVT : Hid (∀ w', Ext V w' → Calls Tryd.prog 13 #[.agg #[Value.slice A1 tb.rules.length c1, .slice A2 tb.drops.length c2, .slice A3 tb.ends.length c3, .int .i64 tb.drop, .int .i64 tb.order, .int .i64 tb.initial]] w' fun e w'' => e = .returned (.bool (validS tb)) ∧ Ext w' w'') := Lib.hid (fun w' h => Valid_any A1 A2 A3 c1 c2 c3 tb w' (HTAB.out _ (Ext.trans HXW.out h)) (HTT.out _ (Ext.trans HXW.out h)))
              have HVM : Hid (∀ w', Ext V w' → Calls Tryd.prog 13 #[.agg #[Value.slice (some ⟨g6, 0, none⟩) (tb.rules.length + 1) cap6, .slice A2 tb.drops.length c2, .slice A3 tb.ends.length c3, .int .i64 tb.drop, .int .i64 tb.order, .int .i64 tb.initial]] w' fun e w'' => e = .returned (.bool (validS (moreT tb rr))) ∧ Ext w' w'') := Lib.hid (fun w' h => by
                have := Valid_any (some ⟨g6, 0, none⟩) A2 A3 cap6 c2 c3 (moreT tb rr) w' (HTABM.out _ h) (HTT.out _ (Ext.trans HXW.out h))
                unfold tabVal at this
                simp only [moreT, List.length_append, List.length_cons, List.length_nil, Nat.zero_add] at this
                exact this)
              clear hfew hfw hTabM hlenM hws hTab hlen hx hy
              cases hv1 : validS tb with
              | false =>
                rw [hv1] at HVT
                clear hv1
                go_wp2_with (first | (go_at_call 8; (with_reducible refine (HF.out).mono ?_); rintro e u1 ⟨hu1, rfl⟩; obtain ⟨m1, t1⟩ := HCV.out _ hu1) | (go_at_call 13; (with_reducible refine (HVT.out _ hu1).mono ?_); rintro e u2 ⟨rfl, hu2⟩))
                go_ret
                exact ⟨Ext.trans HXW.out (Ext.trans hu1 hu2), rfl⟩
              | true =>
                cases hv2 : validS (moreT tb rr) with
                | false =>
                  rw [hv1] at HVT
                  rw [hv2] at HVM
                  clear hv1 hv2
                  go_wp2_with (first | (go_at_call 8; (with_reducible refine (HF.out).mono ?_); rintro e u1 ⟨hu1, rfl⟩; obtain ⟨m1, t1⟩ := HCV.out _ hu1) | (go_at_call 13; (with_reducible refine (HVT.out _ hu1).mono ?_); rintro e u2 ⟨rfl, hu2⟩; have hu12 := Ext.trans hu1 hu2; obtain ⟨m2, t2⟩ := HCV.out _ hu12) | (go_at_call 13; (with_reducible refine (HVM.out _ hu12).mono ?_); rintro e u3 ⟨rfl, hu3⟩))
                  go_ret
                  exact ⟨Ext.trans HXW.out (Ext.trans hu12 hu3), rfl⟩
                | true =>
                  rw [hv1] at HVT
                  rw [hv2] at HVM
                  have HV12 := Lib.hid (And.intro hv1 hv2)
                  clear hv1 hv2
                  go_upto_region 6 with (first | (go_at_call 8; (with_reducible refine (HF.out).mono ?_); rintro e u1 ⟨hu1, rfl⟩; obtain ⟨m1, t1⟩ := HCV.out _ hu1) | (go_at_call 13; (with_reducible refine (HVT.out _ hu1).mono ?_); rintro e u2 ⟨rfl, hu2⟩; have hu12 := Ext.trans hu1 hu2; obtain ⟨m2, t2⟩ := HCV.out _ hu12) | (go_at_call 13; (with_reducible refine (HVM.out _ hu12).mono ?_); rintro e w4 ⟨rfl, hu3⟩))
                  have hVw := Ext.trans hu12 hu3
                  have hw4 := Ext.trans HXW.out hVw
                  clear cM cMa cT cTa m1 t1 m2 t2
                  obtain ⟨m1, t1⟩ := HCV.out _ hVw
                  obtain ⟨D, hD⟩ : ∃ D, bestS tb a x b y = D := ⟨_, rfl⟩
                  obtain ⟨⟨cst, l, m, f⟩, er⟩ := D
                  have HD := Lib.hid hD
                  obtain ⟨D2, hD2⟩ : ∃ D2, bestS (moreT tb rr) a x b y = D2 := ⟨_, rfl⟩
                  obtain ⟨⟨cst2, l2, m2, f2⟩, er2⟩ := D2
                  have HD2 := Lib.hid hD2
                  clear hD hD2
                  have HB1 := Lib.hid (Best_at A1 A2 A3 c1 c2 c3 tb a x b y w4 (HTAB.out _ hw4) (HTT.out _ hw4) HXY.out.1 HXY.out.2 HLEN.out HD.out)
                  go_upto_region 7 with (go_at_call 9; (with_reducible refine (HB1.out).mono ?_); rintro e v1 ⟨hx1, hn1, P1, p1, Q1, q1, rfl, el1, er1⟩)
                  have k1 := World.alloc_heap_new v1 (.cells #[.int .i64 cst, .slice P1 l.length p1, .slice Q1 m.length q1, .string (B f)] 28)
                  have x1 := Ext.trans hx1 (Ext.new v1 (.cells #[.int .i64 cst, .slice P1 l.length p1, .slice Q1 m.length q1, .string (B f)] 28))
                  have y1 := Ext.new v1 (.cells #[.int .i64 cst, .slice P1 l.length p1, .slice Q1 m.length q1, .string (B f)] 28)
                  obtain ⟨V1, hV1⟩ : ∃ V1, v1.alloc (.cells #[.int .i64 cst, .slice P1 l.length p1, .slice Q1 m.length q1, .string (B f)] 28) = V1 := ⟨_, rfl⟩
                  rw [hV1] at k1 x1 y1 ⊢
                  clear hV1
                  obtain ⟨b1, hb1⟩ : ∃ b1, v1.heap.size = b1 := ⟨_, rfl⟩
                  rw [hb1] at k1 ⊢
                  have HZ1 := Lib.hid (And.intro (And.intro el1 er1) (And.intro y1 (And.intro hx1 hb1)))
                  have HEL1 := Lib.hid (el1.ext y1)
                  have HER1 := Lib.hid (er1.ext y1)
                  have HS1 := Lib.hid x1
                  have hW1 := Ext.trans hw4 x1
                  have HK1 := Lib.hid k1
                  have HN1 := Lib.hid hn1
                  clear hx1 el1 er1 x1 y1 k1 HB1 hn1 hb1
                  clear m1 t1
                  obtain ⟨m1, t1⟩ := HCV.out _ (Ext.trans hVw HS1.out)
                  have HB2' := Best_at (some ⟨g6, 0, none⟩) A2 A3 cap6 c2 c3 (moreT tb rr) a x b y V1 (HTABM.out _ (Ext.trans hVw HS1.out)) (HTT.out _ hW1) HXY.out.1 HXY.out.2 HLENM.out HD2.out
                  simp only [moreT, List.length_append, List.length_cons, List.length_nil, Nat.zero_add] at HB2'
                  have HBB := Lib.hid HB2'
                  clear HB2'
                  go_upto_region 8 with (go_at_call 9; (with_reducible refine (HBB.out).mono ?_); rintro e v2 ⟨hx2, hn2, P2, p2, Q2, q2, rfl, el2, er2⟩)
                  have k2 := World.alloc_heap_new v2 (.cells #[.int .i64 cst2, .slice P2 l2.length p2, .slice Q2 m2.length q2, .string (B f2)] 28)
                  have x2 := Ext.trans hx2 (Ext.new v2 (.cells #[.int .i64 cst2, .slice P2 l2.length p2, .slice Q2 m2.length q2, .string (B f2)] 28))
                  have y2 := Ext.new v2 (.cells #[.int .i64 cst2, .slice P2 l2.length p2, .slice Q2 m2.length q2, .string (B f2)] 28)
                  obtain ⟨V2, hV2⟩ : ∃ V2, v2.alloc (.cells #[.int .i64 cst2, .slice P2 l2.length p2, .slice Q2 m2.length q2, .string (B f2)] 28) = V2 := ⟨_, rfl⟩
                  rw [hV2] at k2 x2 y2 ⊢
                  clear hV2
                  obtain ⟨b2, hb2⟩ : ∃ b2, v2.heap.size = b2 := ⟨_, rfl⟩
                  rw [hb2] at k2 ⊢
                  have HZ2 := Lib.hid (And.intro (And.intro el2 er2) (And.intro y2 (And.intro hx2 hb2)))
                  have HEL2 := Lib.hid (el2.ext y2)
                  have HER2 := Lib.hid (er2.ext y2)
                  have HS2 := Lib.hid x2
                  have hW2 := Ext.trans hW1 x2
                  have HK2 := Lib.hid k2
                  have HN2 := Lib.hid hn2
                  clear hx2 el2 er2 x2 y2 k2 HBB hn2 hb2
                  clear m1 t1
                  have HCW : Hid (∀ w', Ext V2 w' → (∀ n, w'.cell? ⟨b1, n, none⟩ = #[Value.int .i64 cst, .slice P1 l.length p1, .slice Q1 m.length q1, .string (B f)][n]?) ∧ (∀ n, w'.cell? ⟨b2, n, none⟩ = #[Value.int .i64 cst2, .slice P2 l2.length p2, .slice Q2 m2.length q2, .string (B f2)][n]?) ∧ (∀ n, w'.cell? ⟨Bm, n, none⟩ = #[Value.slice (some ⟨g6, 0, none⟩) (tb.rules.length + 1) cap6, .slice A2 tb.drops.length c2, .slice A3 tb.ends.length c3, .int .i64 tb.drop, .int .i64 tb.order, .int .i64 tb.initial][n]?)) := Lib.hid (fun w' h => ⟨cell_of (block_ext HK1.out (Ext.trans HS2.out h)), cell_of (block_ext HK2.out h), (HCV.out _ (Ext.trans hVw (Ext.trans HS1.out (Ext.trans HS2.out h)))).1⟩)
                  obtain ⟨d1, d2, m1⟩ := HCW.out _ (Below.refl _ V2)
                  by_cases he : er = 0
                  · subst he
                    obtain ⟨p, hp1, hp2⟩ := best_more (m := moreT tb rr) (r := rr) rfl HV12.out.2 HD.out
                    rw [HD2.out] at hp1
                    cases hp1
                    dsimp only at hp2
                    have hck := check_more (m := moreT tb rr) (r := rr) rfl HV12.out.2 (best_sound HD.out)
                    have HC := Check_any (some ⟨g6, 0, none⟩) A2 A3 cap6 c2 c3 (moreT tb rr) a x b y ⟨cst, l, m, f⟩ P1 Q1 p1 q1 V2 (HTABM.out _ (Ext.trans hVw (Ext.trans HS1.out HS2.out))) (HTT.out _ hW2) HXY.out.1 HXY.out.2 HLENM.out (HEL1.out.ext HS2.out) (HER1.out.ext HS2.out) (by have := HN1.out; dsimp only; omega) (by have := HN1.out; dsimp only; omega)
                    rw [hck] at HC
                    unfold derVal tabVal at HC
                    simp only [moreT, List.length_append, List.length_cons, List.length_nil, Nat.zero_add] at HC
                    have HCk := Lib.hid HC
                    clear hck HC
                    go_wp2_with (go_at_call 10; (with_reducible refine (HCk.out).mono ?_); rintro e w7 ⟨hb7, rfl⟩)
                    go_ret
                    exact ⟨Ext.trans hW2 hb7, rfl⟩
                  · rcases best_cases tb a x b y with ⟨h, _⟩ | ⟨h, _⟩ | ⟨dd, h, _⟩
                    · rw [HD.out] at h
                      cases h
                      have h2 := best_arg (m := moreT tb rr) HV12.out.1 HV12.out.2 (a := a) (b := b) (x := x) (y := y) (by rw [HD.out])
                      rw [HD2.out] at h2
                      dsimp only at h2
                      subst h2
                      clear he
                      go_wp2
                      go_ret
                      exact ⟨hW2, rfl⟩
                    · rw [HD.out] at h
                      cases h
                      clear he
                      go_wp2
                      go_ret
                      exact ⟨hW2, rfl⟩
                    · rw [HD.out] at h
                      cases h
                      exact absurd rfl he
          exact AllReadyH.nil
        exact AllReadyH.nil
      exact AllReadyH.nil
    exact AllReadyH.nil
  exact AllReadyH.nil
end Go.Proofs.YtpcfjflfeecinaaDoor
