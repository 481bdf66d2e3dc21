/- The law AlignCheapest: the walk. -/
import Derived.Test.YtpcfjflfeecinaaDoorRH
namespace Go.Proofs.YtpcfjflfeecinaaDoor
open Go Go.RowKit Go.Lib Go.Proofs S Go.Shelf Go.Maps Go.WideMaps
set_option linter.unusedVariables false
set_option linter.unusedSimpArgs false

set_option maxRecDepth 100000 in
set_option maxHeartbeats 4000000 in
theorem cheapest_any (W : World) (A1 A2 A3 : Option Addr) (c1 c2 c3 : Nat) (tb : Tab) (ht : TabRd W A1 A2 A3 tb) (hc1 : tb.rules.length ≤ c1) (hc2 : c1 ≤ Go.maxLen) (a : Int) (x : Str) (b : Int) (y : Str) (A4 A5 : Option Addr) (c4 c5 : Nat) (dd : Der) (he1 : ElemsAt W A4 1 (dd.left.map (fun i => [Value.int .i64 i]))) (he2 : ElemsAt W A5 1 (dd.right.map (fun i => [Value.int .i64 i]))) (hf1 : dd.form.length ≤ Go.maxLen) (hf2 : dd.left.length ≤ Go.maxLen) (hf3 : dd.right.length ≤ Go.maxLen) (hT : Tabs W) :
    Calls Tryd.prog 3 #[tabVal A1 c1 A2 c2 A3 c3 tb, .int .i64 a, .string (B x), .int .i64 b, .string (B y), derVal dd.cost A4 dd.left.length c4 A5 dd.right.length c5 dd.form] W fun e w' => Ext W w' ∧ e = .returned (.bool true) := by
  have HH : Hid (∀ w', Ext W w' → Calls Tryd.prog 7 #[] w' fun e w'' => Ext w' w'' ∧ e = .returned (.bool true)) := Lib.hid (fun w' h => head_any w' (hT.below h))
  have HF : Hid (∀ w', Ext W w' → Calls Tryd.prog 8 #[tabVal A1 c1 A2 c2 A3 c3 tb, .slice (some ⟨w'.heap.size, 0, none⟩) 2 2] (w'.alloc (.cells #[.string (B x), .string (B y)] 9)) fun e w'' => Ext w' w'' ∧ e = .returned (.bool (fewS tb [x, y]))) := Lib.hid (fun w' h => few_two A1 A2 A3 c1 c2 c3 tb x y w' (ht.ext h))
  obtain ⟨dc, dl, dr, df⟩ := dd
  dsimp only at *
  unfold Go.maxLen at hf1 hf2 hf3
  have zf : (B df).size = df.length := rfl
  cases hfew : fewS tb [x, y] with
  | false =>
    rw [hfew] at HF
    clear ht hT hfew he1 he2
    have hx2 : ∀ o o2, Ext W ((W.alloc o).alloc o2) := fun o o2 => (Ext.new W o).alloc o2
    have HX := Lib.hid hx2
    have hcb : ∀ cs1 t1 cs2 t2 w1, Ext ((W.alloc (.cells cs1 t1)).alloc (.cells cs2 t2)) w1 → (∀ n, w1.cell? ⟨W.heap.size, n, none⟩ = cs1[n]?) ∧ (∀ o n, (w1.alloc o).cell? ⟨W.heap.size, n, none⟩ = cs1[n]?) ∧ (∀ n, w1.cell? ⟨W.heap.size + 1, n, none⟩ = cs2[n]?) ∧ (∀ o n, (w1.alloc o).cell? ⟨W.heap.size + 1, n, none⟩ = cs2[n]?) ∧ Ext W w1 := fun cs1 t1 cs2 t2 w1 h => ⟨(cells_new2 h).1, fun o => (cells_new2 (Ext.trans h (Ext.new w1 o))).1, (cells_new2 h).2.1, fun o => (cells_new2 (Ext.trans h (Ext.new w1 o))).2.1, (cells_new2 h).2.2⟩
    have HCB := Lib.hid hcb
    clear hx2 hcb
    unfold tabVal at HF ⊢
    unfold derVal
    go_enter Tryd.func3, Tryd.ntmps3
    go_wp2_with (first | (go_at_call 7; (with_reducible refine (HH.out _ (HX.out _ _)).mono ?_); rintro e w1 ⟨hb1, rfl⟩; obtain ⟨u1, u2, t1, t2, u3⟩ := HCB.out _ _ _ _ _ hb1) | (go_at_call 8; (with_reducible refine (HF.out _ u3).mono ?_); rintro e w4 ⟨hb2, rfl⟩; obtain ⟨y1, y2, z1, z2, y3⟩ := HCB.out _ _ _ _ _ (Ext.trans hb1 hb2)))
    go_ret
    exact ⟨y3, rfl⟩
  | true =>
    rw [hfew] at HF
    have hx2 : ∀ o o2, Ext W ((W.alloc o).alloc o2) := fun o o2 => (Ext.new W o).alloc o2
    have HX := Lib.hid hx2
    have hcb : ∀ cs1 t1 cs2 t2 w1, Ext ((W.alloc (.cells cs1 t1)).alloc (.cells cs2 t2)) w1 → (∀ n, w1.cell? ⟨W.heap.size, n, none⟩ = cs1[n]?) ∧ (∀ o n, (w1.alloc o).cell? ⟨W.heap.size, n, none⟩ = cs1[n]?) ∧ (∀ n, w1.cell? ⟨W.heap.size + 1, n, none⟩ = cs2[n]?) ∧ (∀ o n, (w1.alloc o).cell? ⟨W.heap.size + 1, n, none⟩ = cs2[n]?) ∧ Ext W w1 := fun cs1 t1 cs2 t2 w1 h => ⟨(cells_new2 h).1, fun o => (cells_new2 (Ext.trans h (Ext.new w1 o))).1, (cells_new2 h).2.1, fun o => (cells_new2 (Ext.trans h (Ext.new w1 o))).2.1, (cells_new2 h).2.2⟩
    have HCB := Lib.hid hcb
    clear hx2 hcb
    obtain ⟨hTab, hlen, hws⟩ := ht.at hfew
    have hx := (hws x (by simp)).1
    have hy := (hws y (by simp)).1
    have HTAB : Hid (∀ w', Ext W w' → TabAt w' A1 A2 A3 tb) := Lib.hid (fun w' h => hTab.ext h)
    have HTT : Hid (∀ w', Ext W w' → Tabs w') := Lib.hid (fun w' h => hT.below h)
    have HXY := Lib.hid (And.intro hx hy)
    have HLEN := Lib.hid hlen
    have HE := Lib.hid (And.intro he1 he2)
    clear ht hT hfew hTab hlen hws hx hy hc1 hc2 he1 he2
    unfold tabVal at HF ⊢
    unfold derVal
    by_cases n1 : dl.length ≤ 30
    rotate_left
    · skip
      go_enter Tryd.func3, Tryd.ntmps3
      go_wp2_with (first | (go_at_call 7; (with_reducible refine (HH.out _ (HX.out _ _)).mono ?_); rintro e w1 ⟨hb1, rfl⟩; obtain ⟨u1, u2, t1, t2, u3⟩ := HCB.out _ _ _ _ _ hb1) | (go_at_call 8; (with_reducible refine (HF.out _ u3).mono ?_); rintro e w4 ⟨hb2, rfl⟩; obtain ⟨y1, y2, z1, z2, y3⟩ := HCB.out _ _ _ _ _ (Ext.trans hb1 hb2)))
      go_ret
      exact ⟨y3, rfl⟩
    by_cases n2 : dr.length ≤ 30
    rotate_left
    · skip
      go_enter Tryd.func3, Tryd.ntmps3
      go_wp2_with (first | (go_at_call 7; (with_reducible refine (HH.out _ (HX.out _ _)).mono ?_); rintro e w1 ⟨hb1, rfl⟩; obtain ⟨u1, u2, t1, t2, u3⟩ := HCB.out _ _ _ _ _ hb1) | (go_at_call 8; (with_reducible refine (HF.out _ u3).mono ?_); rintro e w4 ⟨hb2, rfl⟩; obtain ⟨y1, y2, z1, z2, y3⟩ := HCB.out _ _ _ _ _ (Ext.trans hb1 hb2)))
      go_ret
      exact ⟨y3, rfl⟩
    by_cases n3 : df.length ≤ 100
    rotate_left
    · skip
      go_enter Tryd.func3, Tryd.ntmps3
      go_wp2_with (first | (go_at_call 7; (with_reducible refine (HH.out _ (HX.out _ _)).mono ?_); rintro e w1 ⟨hb1, rfl⟩; obtain ⟨u1, u2, t1, t2, u3⟩ := HCB.out _ _ _ _ _ hb1) | (go_at_call 8; (with_reducible refine (HF.out _ u3).mono ?_); rintro e w4 ⟨hb2, rfl⟩; obtain ⟨y1, y2, z1, z2, y3⟩ := HCB.out _ _ _ _ _ (Ext.trans hb1 hb2)))
      go_ret
      exact ⟨y3, rfl⟩
    obtain ⟨D, hD⟩ : ∃ D, bestS tb a x b y = D := ⟨_, rfl⟩
    obtain ⟨⟨cst, l, m, f⟩, er⟩ := D
    have HD := Lib.hid hD
    clear hD
    have HCK : Hid (checkS tb a x b y ⟨dc, dl, dr, df⟩ = true → er = 0 ∧ cst ≤ dc) := Lib.hid (fun h => by
      have h1 := check_cost h
      dsimp only at h1
      obtain ⟨p, h2, h3⟩ := best_least h (by unfold endless; dsimp only; omega)
      rw [HD.out] at h2
      cases h2
      exact ⟨rfl, h3⟩)
    have HCC : Hid (∀ w', Ext W w' → Calls Tryd.prog 10 #[.agg #[.slice A1 tb.rules.length c1, .slice A2 tb.drops.length c2, .slice A3 tb.ends.length c3, .int .i64 tb.drop, .int .i64 tb.order, .int .i64 tb.initial], .int .i64 a, .string (B x), .int .i64 b, .string (B y), .agg #[.int .i64 dc, .slice A4 dl.length c4, .slice A5 dr.length c5, .string (B df)]] w' fun e w'' => Ext w' w'' ∧ e = .returned (.bool (checkS tb a x b y ⟨dc, dl, dr, df⟩))) := Lib.hid (fun w' h => Check_any A1 A2 A3 c1 c2 c3 tb a x b y ⟨dc, dl, dr, df⟩ A4 A5 c4 c5 w' (HTAB.out _ h) (HTT.out _ h) HXY.out.1 HXY.out.2 HLEN.out (HE.out.1.ext h) (HE.out.2.ext h) (by dsimp only; omega) (by dsimp only; omega))
    go_enter Tryd.func3, Tryd.ntmps3
    go_upto_region 4 with (first | (go_at_call 7; (with_reducible refine (HH.out _ (HX.out _ _)).mono ?_); rintro e w1 ⟨hb1, rfl⟩; obtain ⟨u1, u2, t1, t2, u3⟩ := HCB.out _ _ _ _ _ hb1) | (go_at_call 8; (with_reducible refine (HF.out _ u3).mono ?_); rintro e w4 ⟨hb2, rfl⟩; obtain ⟨y1, y2, z1, z2, y3⟩ := HCB.out _ _ _ _ _ (Ext.trans hb1 hb2)))
    have hk2 := Ext.trans hb1 hb2
    have hw4 := y3
    clear u1 u2 t1 t2 y1 y2 z1 z2
    have HKT : Hid (∀ w', Ext w4 w' → (∀ n, w'.cell? ⟨W.heap.size, n, none⟩ = #[Value.slice A1 tb.rules.length c1, .slice A2 tb.drops.length c2, .slice A3 tb.ends.length c3, .int .i64 tb.drop, .int .i64 tb.order, .int .i64 tb.initial][n]?) ∧ (∀ n, w'.cell? ⟨W.heap.size + 1, n, none⟩ = #[Value.int .i64 dc, .slice A4 dl.length c4, .slice A5 dr.length c5, .string (B df)][n]?)) := Lib.hid (fun w' h => ⟨(HCB.out _ _ _ _ _ (Ext.trans hk2 h)).1, (HCB.out _ _ _ _ _ (Ext.trans hk2 h)).2.2.1⟩)
    obtain ⟨u1, t1⟩ := HKT.out _ (Below.refl _ _)
    have HB1 := Lib.hid (Best_at A1 A2 A3 c1 c2 c3 tb a x b y w4 (HTAB.out _ hw4) (HTT.out _ hw4) HXY.out.1 HXY.out.2 HLEN.out HD.out)
    go_upto_region 5 with (go_at_call 9; (with_reducible refine (HB1.out).mono ?_); rintro e v1 ⟨hx1, hn1, P1, p1, Q1, q1, rfl, el1, er1⟩)
    have k1 := World.alloc_heap_new v1 (.cells #[.int .i64 cst, .slice P1 l.length p1, .slice Q1 m.length q1, .string (B f)] 28)
    have x1 := Ext.trans hx1 (Ext.new v1 (.cells #[.int .i64 cst, .slice P1 l.length p1, .slice Q1 m.length q1, .string (B f)] 28))
    have y1 := Ext.new v1 (.cells #[.int .i64 cst, .slice P1 l.length p1, .slice Q1 m.length q1, .string (B f)] 28)
    obtain ⟨V1, hV1⟩ : ∃ V1, v1.alloc (.cells #[.int .i64 cst, .slice P1 l.length p1, .slice Q1 m.length q1, .string (B f)] 28) = V1 := ⟨_, rfl⟩
    rw [hV1] at k1 x1 y1 ⊢
    clear hV1
    obtain ⟨b1, hb1⟩ : ∃ b1, v1.heap.size = b1 := ⟨_, rfl⟩
    rw [hb1] at k1 ⊢
    have HZ1 := Lib.hid (And.intro (And.intro el1 er1) (And.intro y1 (And.intro hx1 hb1)))
    have HEL1 := Lib.hid (el1.ext y1)
    have HER1 := Lib.hid (er1.ext y1)
    have HS1 := Lib.hid x1
    have hW1 := Ext.trans hw4 x1
    have HK1 := Lib.hid k1
    have HN1 := Lib.hid hn1
    clear hx1 el1 er1 x1 y1 k1 HB1 hn1 hb1
    clear u1 t1
    obtain ⟨u1, t1⟩ := HKT.out _ HS1.out
    have d1 := cell_of HK1.out
    have HCD : Hid (∀ w', Ext V1 w' → (∀ n, w'.cell? ⟨b1, n, none⟩ = #[Value.int .i64 cst, .slice P1 l.length p1, .slice Q1 m.length q1, .string (B f)][n]?) ∧ (∀ n, w'.cell? ⟨W.heap.size, n, none⟩ = #[Value.slice A1 tb.rules.length c1, .slice A2 tb.drops.length c2, .slice A3 tb.ends.length c3, .int .i64 tb.drop, .int .i64 tb.order, .int .i64 tb.initial][n]?) ∧ (∀ n, w'.cell? ⟨W.heap.size + 1, n, none⟩ = #[Value.int .i64 dc, .slice A4 dl.length c4, .slice A5 dr.length c5, .string (B df)][n]?)) := Lib.hid (fun w' h => ⟨cell_of (block_ext HK1.out h), HKT.out _ (Ext.trans HS1.out h)⟩)
    by_cases he : er = 0
    · subst he
      have hck := best_sound HD.out
      have HC := Lib.hid (Check_any A1 A2 A3 c1 c2 c3 tb a x b y ⟨cst, l, m, f⟩ P1 Q1 p1 q1 V1 (HTAB.out _ hW1) (HTT.out _ hW1) HXY.out.1 HXY.out.2 HLEN.out HEL1.out HER1.out (by have := HN1.out; dsimp only; omega) (by have := HN1.out; dsimp only; omega))
      rw [hck] at HC
      unfold derVal tabVal at HC
      dsimp only at HC
      clear hck
      go_upto_region 7 with (go_at_call 10; (with_reducible refine (HC.out).mono ?_); rintro e w7 ⟨hb7, rfl⟩)
      have hW7 := Ext.trans hW1 hb7
      clear d1 u1 t1
      obtain ⟨d1, u1, t1⟩ := HCD.out _ hb7
      cases hc : checkS tb a x b y ⟨dc, dl, dr, df⟩ with
      | false =>
        rw [hc] at HCC
        clear hc
        go_wp2_with (go_at_call 10; (with_reducible refine (HCC.out _ hW7).mono ?_); rintro e w8 ⟨hb8, rfl⟩)
        go_ret
        exact ⟨Ext.trans hW7 hb8, rfl⟩
      | true =>
        have hle := (HCK.out hc).2
        rw [hc] at HCC
        clear hc
        go_wp2_with (go_at_call 10; (with_reducible refine (HCC.out _ hW7).mono ?_); rintro e w8 ⟨hb8, rfl⟩; obtain ⟨d2, u2, t2⟩ := HCD.out _ (Ext.trans hb7 hb8))
        go_ret
        exact ⟨Ext.trans hW7 hb8, ret_bool (by simp [hle])⟩
    · cases hc : checkS tb a x b y ⟨dc, dl, dr, df⟩ with
      | true => exact absurd (HCK.out hc).1 he
      | false =>
        rw [hc] at HCC
        clear hc
        go_wp2_with (go_at_call 10; (with_reducible refine (HCC.out _ hW1).mono ?_); rintro e w8 ⟨hb8, rfl⟩)
        go_ret
        exact ⟨Ext.trans hW1 hb8, rfl⟩
end Go.Proofs.YtpcfjflfeecinaaDoor
