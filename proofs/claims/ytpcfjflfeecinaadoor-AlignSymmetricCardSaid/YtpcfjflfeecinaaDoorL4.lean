/- The law AlignSymmetric: the walk. -/
import Derived.Test.YtpcfjflfeecinaaDoorRH
namespace Go.Proofs.YtpcfjflfeecinaaDoor
open Go Go.RowKit Go.Lib Go.Proofs S Go.Shelf Go.Maps Go.WideMaps
set_option linter.unusedVariables false
set_option linter.unusedSimpArgs false

set_option maxRecDepth 100000 in
set_option maxHeartbeats 4000000 in
theorem symmetric_any (W : World) (A1 A2 A3 : Option Addr) (c1 c2 c3 : Nat) (tb : Tab) (ht : TabRd W A1 A2 A3 tb) (hc1 : tb.rules.length ≤ c1) (hc2 : c1 ≤ Go.maxLen) (a : Int) (x : Str) (b : Int) (y : Str) (hT : Tabs W) :
    Calls Tryd.prog 4 #[tabVal A1 c1 A2 c2 A3 c3 tb, .int .i64 a, .string (B x), .int .i64 b, .string (B y)] W fun e w' => Ext W w' ∧ e = .returned (.bool true) := by
  have HH : Hid (∀ w', Ext W w' → Calls Tryd.prog 7 #[] w' fun e w'' => Ext w' w'' ∧ e = .returned (.bool true)) := Lib.hid (fun w' h => head_any w' (hT.below h))
  have HF : Hid (∀ w', Ext W w' → Calls Tryd.prog 8 #[tabVal A1 c1 A2 c2 A3 c3 tb, .slice (some ⟨w'.heap.size, 0, none⟩) 2 2] (w'.alloc (.cells #[.string (B x), .string (B y)] 9)) fun e w'' => Ext w' w'' ∧ e = .returned (.bool (fewS tb [x, y]))) := Lib.hid (fun w' h => few_two A1 A2 A3 c1 c2 c3 tb x y w' (ht.ext h))
  cases hfew : fewS tb [x, y] with
  | false =>
    rw [hfew] at HF
    clear ht hT hfew
    have hx1 : ∀ o, Ext W (W.alloc o) := fun o => Ext.new W o
    have HX := Lib.hid hx1
    clear hx1
    unfold tabVal at HF ⊢
    have hcb : ∀ cs ty w1, Ext (W.alloc (.cells cs ty)) w1 → (∀ n, w1.cell? ⟨W.heap.size, n, none⟩ = cs[n]?) ∧ (∀ o n, (w1.alloc o).cell? ⟨W.heap.size, n, none⟩ = cs[n]?) ∧ Ext W w1 := fun cs ty w1 h => ⟨(cells_new1 h).1, fun o => (cells_new1 (Ext.trans h (Ext.new w1 o))).1, Ext.trans (Ext.new W _) h⟩
    have HCB := Lib.hid hcb
    clear hcb
    go_enter Tryd.func4, Tryd.ntmps4
    go_wp2_with (first | (go_at_call 7; (with_reducible refine (HH.out _ (HX.out _)).mono ?_); rintro e w1 ⟨hb1, rfl⟩; obtain ⟨u1, u2, u3⟩ := HCB.out _ _ _ hb1) | (go_at_call 8; (with_reducible refine (HF.out _ u3).mono ?_); rintro e w2 ⟨hb2, rfl⟩))
    go_ret
    exact ⟨Ext.trans u3 hb2, rfl⟩
  | true =>
    rw [hfew] at HF
    obtain ⟨hTab, hlen, hws⟩ := ht.at hfew
    have hx := (hws x (by simp)).1
    have hy := (hws y (by simp)).1
    have hx1 : ∀ o, Ext W (W.alloc o) := fun o => Ext.new W o
    have HX := Lib.hid hx1
    have hcb : ∀ cs ty w1, Ext (W.alloc (.cells cs ty)) w1 → (∀ n, w1.cell? ⟨W.heap.size, n, none⟩ = cs[n]?) ∧ (∀ o n, (w1.alloc o).cell? ⟨W.heap.size, n, none⟩ = cs[n]?) ∧ Ext W w1 := fun cs ty w1 h => ⟨(cells_new1 h).1, fun o => (cells_new1 (Ext.trans h (Ext.new w1 o))).1, Ext.trans (Ext.new W _) h⟩
    have HCB := Lib.hid hcb
    unfold tabVal at HF ⊢
    have HTAB : Hid (∀ w', Ext W w' → TabAt w' A1 A2 A3 tb) := Lib.hid (fun w' h => hTab.ext h)
    have HTT : Hid (∀ w', Ext W w' → Tabs w') := Lib.hid (fun w' h => hT.below h)
    have HXY := Lib.hid (And.intro hx hy)
    have HLEN := Lib.hid hlen
    obtain ⟨D, hD⟩ : ∃ D, bestS tb a x b y = D := ⟨_, rfl⟩
    obtain ⟨⟨cst, l, m, f⟩, er⟩ := D
    obtain ⟨D2, hD2⟩ : ∃ D2, bestS tb b y a x = D2 := ⟨_, rfl⟩
    obtain ⟨⟨cst2, l2, m2, f2⟩, er2⟩ := D2
    have hsw := best_swap tb a x b y
    rw [hD, hD2] at hsw
    dsimp only at hsw
    obtain ⟨rfl, rfl⟩ := hsw
    have HD := Lib.hid hD
    have HD2 := Lib.hid hD2
    clear ht hT hfew hx1 hcb hTab hlen hws hx hy hc1 hc2 hD hD2
    go_enter Tryd.func4, Tryd.ntmps4
    go_upto_region 4 with (first | (go_at_call 7; (with_reducible refine (HH.out _ (HX.out _)).mono ?_); rintro e w1 ⟨hb1, rfl⟩; obtain ⟨u1, u2, u3⟩ := HCB.out _ _ _ hb1) | (go_at_call 8; (with_reducible refine (HF.out _ u3).mono ?_); rintro e w4 ⟨hb2, rfl⟩))
    have hk2 := Ext.trans hb1 hb2
    have hw4 := Ext.trans u3 hb2
    clear u1 u2
    have HKT : Hid (∀ w', Ext w4 w' → ∀ n, w'.cell? ⟨W.heap.size, n, none⟩ = #[Value.slice A1 tb.rules.length c1, .slice A2 tb.drops.length c2, .slice A3 tb.ends.length c3, .int .i64 tb.drop, .int .i64 tb.order, .int .i64 tb.initial][n]?) := Lib.hid (fun w' h => (HCB.out _ _ _ (Ext.trans hk2 h)).1)
    have u1 := HKT.out _ (Below.refl _ _)
    have HB1 := Lib.hid (Best_at A1 A2 A3 c1 c2 c3 tb a x b y w4 (HTAB.out _ hw4) (HTT.out _ hw4) HXY.out.1 HXY.out.2 HLEN.out HD.out)
    go_upto_region 5 with (go_at_call 9; (with_reducible refine (HB1.out).mono ?_); rintro e v1 ⟨hx1, hn1, P1, p1, Q1, q1, rfl, el1, er1⟩)
    have k1 := World.alloc_heap_new v1 (.cells #[.int .i64 cst2, .slice P1 l.length p1, .slice Q1 m.length q1, .string (B f)] 28)
    have x1 := Ext.trans hx1 (Ext.new v1 (.cells #[.int .i64 cst2, .slice P1 l.length p1, .slice Q1 m.length q1, .string (B f)] 28))
    have y1 := Ext.new v1 (.cells #[.int .i64 cst2, .slice P1 l.length p1, .slice Q1 m.length q1, .string (B f)] 28)
    obtain ⟨V1, hV1⟩ : ∃ V1, v1.alloc (.cells #[.int .i64 cst2, .slice P1 l.length p1, .slice Q1 m.length q1, .string (B f)] 28) = V1 := ⟨_, rfl⟩
    rw [hV1] at k1 x1 y1 ⊢
    clear hV1
    obtain ⟨b1, hb1⟩ : ∃ b1, v1.heap.size = b1 := ⟨_, rfl⟩
    rw [hb1] at k1 ⊢
    have HZ1 := Lib.hid (And.intro (And.intro el1 er1) (And.intro y1 (And.intro hx1 hb1)))
    have HEL1 := Lib.hid (el1.ext y1)
    have HER1 := Lib.hid (er1.ext y1)
    have HS1 := Lib.hid x1
    have hW1 := Ext.trans hw4 x1
    have HK1 := Lib.hid k1
    have HN1 := Lib.hid hn1
    clear hx1 el1 er1 x1 y1 k1 HB1 hn1 hb1
    clear u1
    have u1 := HKT.out _ HS1.out
    have HB2 := Lib.hid (Best_at A1 A2 A3 c1 c2 c3 tb b y a x V1 (HTAB.out _ hW1) (HTT.out _ hW1) HXY.out.2 HXY.out.1 HLEN.out HD2.out)
    go_upto_region 6 with (go_at_call 9; (with_reducible refine (HB2.out).mono ?_); rintro e v2 ⟨hx2, hn2, P2, p2, Q2, q2, rfl, el2, er2⟩)
    have k2 := World.alloc_heap_new v2 (.cells #[.int .i64 cst2, .slice P2 l2.length p2, .slice Q2 m2.length q2, .string (B f2)] 28)
    have x2 := Ext.trans hx2 (Ext.new v2 (.cells #[.int .i64 cst2, .slice P2 l2.length p2, .slice Q2 m2.length q2, .string (B f2)] 28))
    have y2 := Ext.new v2 (.cells #[.int .i64 cst2, .slice P2 l2.length p2, .slice Q2 m2.length q2, .string (B f2)] 28)
    obtain ⟨V2, hV2⟩ : ∃ V2, v2.alloc (.cells #[.int .i64 cst2, .slice P2 l2.length p2, .slice Q2 m2.length q2, .string (B f2)] 28) = V2 := ⟨_, rfl⟩
    rw [hV2] at k2 x2 y2 ⊢
    clear hV2
    obtain ⟨b2, hb2⟩ : ∃ b2, v2.heap.size = b2 := ⟨_, rfl⟩
    rw [hb2] at k2 ⊢
    have HZ2 := Lib.hid (And.intro (And.intro el2 er2) (And.intro y2 (And.intro hx2 hb2)))
    have HEL2 := Lib.hid (el2.ext y2)
    have HER2 := Lib.hid (er2.ext y2)
    have HS2 := Lib.hid x2
    have hW2 := Ext.trans hW1 x2
    have HK2 := Lib.hid k2
    have HN2 := Lib.hid hn2
    clear hx2 el2 er2 x2 y2 k2 HB2 hn2 hb2
    clear u1
    have d1 := cell_of (block_ext HK1.out HS2.out)
    have f1 := frozen_of (block_ext HK1.out HS2.out)
    have d2 := cell_of HK2.out
    go_upto_region 9 with fail
    have hbb : v1.heap.size = b1 := HZ1.out.2.2.2
    have hv1 : Ext v1 ((V2.setCell ⟨b1, 1, none⟩ (.slice Q1 m.length q1)).setCell ⟨b1, 2, none⟩ (.slice P1 l.length p1)) := ((Ext.trans HZ1.out.2.1 HS2.out).set (by omega) _).set (by omega) _
    have kb := block_set (block_set (block_ext HK1.out HS2.out) 1 (.slice Q1 m.length q1)) 2 (.slice P1 l.length p1)
    obtain ⟨V3, hV3⟩ : ∃ V3, (V2.setCell ⟨b1, 1, none⟩ (.slice Q1 m.length q1)).setCell ⟨b1, 2, none⟩ (.slice P1 l.length p1) = V3 := ⟨_, rfl⟩
    rw [hV3] at hv1 kb ⊢
    have hw3 : Ext w4 V3 := Ext.trans HZ1.out.2.2.1 hv1
    have hW3 := Ext.trans hw4 hw3
    clear d1 f1 d2 hV3 hbb
    have d1 : ∀ n, V3.cell? ⟨b1, n, none⟩ = #[Value.int .i64 cst2, .slice Q1 m.length q1, .slice P1 l.length p1, .string (B f)][n]? := fun n => by
      have := cell_of kb n
      simpa using this
    have u1 := HKT.out _ hw3
    clear kb
    by_cases he : er2 = 0
    · subst he
      have hck := check_swap (best_sound HD.out)
      have HC := Lib.hid (Check_any A1 A2 A3 c1 c2 c3 tb b y a x (swapD ⟨cst2, l, m, f⟩) Q1 P1 q1 p1 V3 (HTAB.out _ hW3) (HTT.out _ hW3) HXY.out.2 HXY.out.1 HLEN.out (HZ1.out.1.2.ext hv1) (HZ1.out.1.1.ext hv1) (by have := HN1.out; simp only [swapD]; omega) (by have := HN1.out; simp only [swapD]; omega))
      rw [hck] at HC
      unfold derVal tabVal swapD at HC
      dsimp only at HC
      clear hck
      go_wp2_with (go_at_call 10; (with_reducible refine (HC.out).mono ?_); rintro e w7 ⟨hb7, rfl⟩)
      go_ret
      exact ⟨Ext.trans hW3 hb7, rfl⟩
    · skip
      go_wp2
      go_ret
      exact ⟨hW3, rfl⟩
end Go.Proofs.YtpcfjflfeecinaaDoor
