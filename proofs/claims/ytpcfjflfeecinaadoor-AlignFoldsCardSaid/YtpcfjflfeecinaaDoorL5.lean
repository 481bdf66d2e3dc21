/- The law AlignFolds: the walk. -/
import Derived.Test.YtpcfjflfeecinaaDoorRH
namespace Go.Proofs.YtpcfjflfeecinaaDoor
open Go Go.RowKit Go.Lib Go.Proofs S Go.Shelf Go.Maps Go.WideMaps
set_option linter.unusedVariables false
set_option linter.unusedSimpArgs false

theorem fold_tiny {k : Int} {x u : Str} (h : foldS k x = some u) (hx : tiny x) : tiny u := by
  unfold foldS at h
  split at h
  · cases h; unfold tiny lowerS at *; simpa using hx
  · cases h
set_option maxRecDepth 100000 in
set_option maxHeartbeats 4000000 in
theorem folds_any (W : World) (A1 A2 A3 : Option Addr) (c1 c2 c3 : Nat) (tb : Tab) (ht : TabRd W A1 A2 A3 tb) (hc1 : tb.rules.length ≤ c1) (hc2 : c1 ≤ Go.maxLen) (a : Int) (x : Str) (b : Int) (y : Str) (hT : Tabs W) :
    Calls Tryd.prog 5 #[tabVal A1 c1 A2 c2 A3 c3 tb, .int .i64 a, .string (B x), .int .i64 b, .string (B y)] W fun e w' => Ext W w' ∧ e = .returned (.bool true) := by
  have HH : Hid (∀ w', Ext W w' → Calls Tryd.prog 7 #[] w' fun e w'' => Ext w' w'' ∧ e = .returned (.bool true)) := Lib.hid (fun w' h => head_any w' (hT.below h))
  have HF : Hid (∀ w', Ext W w' → Calls Tryd.prog 8 #[tabVal A1 c1 A2 c2 A3 c3 tb, .slice (some ⟨w'.heap.size, 0, none⟩) 2 2] (w'.alloc (.cells #[.string (B x), .string (B y)] 9)) fun e w'' => Ext w' w'' ∧ e = .returned (.bool (fewS tb [x, y]))) := Lib.hid (fun w' h => few_two A1 A2 A3 c1 c2 c3 tb x y w' (ht.ext h))
  cases hfew : fewS tb [x, y] with
  | false =>
    rw [hfew] at HF
    clear ht hT hfew
    have hx1 : ∀ o, Ext W (W.alloc o) := fun o => Ext.new W o
    have HX := Lib.hid hx1
    clear hx1
    unfold tabVal at HF ⊢
    have hcb : ∀ cs ty w1, Ext (W.alloc (.cells cs ty)) w1 → (∀ n, w1.cell? ⟨W.heap.size, n, none⟩ = cs[n]?) ∧ (∀ o n, (w1.alloc o).cell? ⟨W.heap.size, n, none⟩ = cs[n]?) ∧ Ext W w1 := fun cs ty w1 h => ⟨(cells_new1 h).1, fun o => (cells_new1 (Ext.trans h (Ext.new w1 o))).1, Ext.trans (Ext.new W _) h⟩
    have HCB := Lib.hid hcb
    clear hcb
    go_enter Tryd.func5, Tryd.ntmps5
    go_wp2_with (first | (go_at_call 7; (with_reducible refine (HH.out _ (HX.out _)).mono ?_); rintro e w1 ⟨hb1, rfl⟩; obtain ⟨u1, u2, u3⟩ := HCB.out _ _ _ hb1) | (go_at_call 8; (with_reducible refine (HF.out _ u3).mono ?_); rintro e w2 ⟨hb2, rfl⟩))
    go_ret
    exact ⟨Ext.trans u3 hb2, rfl⟩
  | true =>
    rw [hfew] at HF
    obtain ⟨hTab, hlen, hws⟩ := ht.at hfew
    have hx := (hws x (by simp)).1
    have hy := (hws y (by simp)).1
    have hsx : (B x).size ≤ 140737488351232 := hx
    have hsy : (B y).size ≤ 140737488351232 := hy
    have hx1 : ∀ o, Ext W (W.alloc o) := fun o => Ext.new W o
    have HX := Lib.hid hx1
    have hcb : ∀ cs ty w1, Ext (W.alloc (.cells cs ty)) w1 → (∀ n, w1.cell? ⟨W.heap.size, n, none⟩ = cs[n]?) ∧ (∀ o n, (w1.alloc o).cell? ⟨W.heap.size, n, none⟩ = cs[n]?) ∧ Ext W w1 := fun cs ty w1 h => ⟨(cells_new1 h).1, fun o => (cells_new1 (Ext.trans h (Ext.new w1 o))).1, Ext.trans (Ext.new W _) h⟩
    have HCB := Lib.hid hcb
    have HFX : Hid (∀ w', Ext W w' → Calls Tryd.prog 11 #[.int .i64 a, .string (B x)] w' fun e w'' => Ext w' w'' ∧ ((foldS a x = none ∧ e = .returned (.tuple #[.string ⟨#[]⟩, .int .i64 1])) ∨ (∃ f, foldS a x = some f ∧ e = .returned (.tuple #[.string (B f), .int .i64 0])))) := Lib.hid (fun w' h => Fold_any a (B x) w' hsx (hT.below h))
    have HFY : Hid (∀ w', Ext W w' → Calls Tryd.prog 11 #[.int .i64 b, .string (B y)] w' fun e w'' => Ext w' w'' ∧ ((foldS b y = none ∧ e = .returned (.tuple #[.string ⟨#[]⟩, .int .i64 1])) ∨ (∃ f, foldS b y = some f ∧ e = .returned (.tuple #[.string (B f), .int .i64 0])))) := Lib.hid (fun w' h => Fold_any b (B y) w' hsy (hT.below h))
    unfold tabVal at HF ⊢
    have HTAB : Hid (∀ w', Ext W w' → TabAt w' A1 A2 A3 tb) := Lib.hid (fun w' h => hTab.ext h)
    have HTT : Hid (∀ w', Ext W w' → Tabs w') := Lib.hid (fun w' h => hT.below h)
    have HXY := Lib.hid (And.intro hx hy)
    have HLEN := Lib.hid hlen
    clear ht hT hfew hx1 hcb hTab hlen hws hx hy hsx hsy hc1 hc2
    go_enter Tryd.func5, Tryd.ntmps5
    go_upto_region 4 with (first | (go_at_call 7; (with_reducible refine (HH.out _ (HX.out _)).mono ?_); rintro e w1 ⟨hb1, rfl⟩; obtain ⟨u1, u2, u3⟩ := HCB.out _ _ _ hb1) | (go_at_call 8; (with_reducible refine (HF.out _ u3).mono ?_); rintro e w2 ⟨hb2, rfl⟩))
    have hk2 := Ext.trans hb1 hb2
    have hw2 := Ext.trans u3 hb2
    clear u1 u2
    go_upto_region 5 with (go_at_call 11; (with_reducible refine (HFX.out _ hw2).mono ?_); rintro e w3 ⟨hb3, (⟨hf1, rfl⟩ | ⟨u, hf1, rfl⟩)⟩)
    · have hw3 := Ext.trans hw2 hb3
      clear hf1
      go_upto_region 6 with (go_at_call 11; (with_reducible refine (HFY.out _ hw3).mono ?_); rintro e w4 ⟨hb4, (⟨hf2, rfl⟩ | ⟨v, hf2, rfl⟩)⟩)
      · go_wp2
        go_ret
        exact ⟨Ext.trans hw3 hb4, rfl⟩
      · clear hf2
        go_wp2
        go_ret
        exact ⟨Ext.trans hw3 hb4, rfl⟩
    have hw3 := Ext.trans hw2 hb3
    have HF1 := Lib.hid hf1
    clear hf1
    go_upto_region 6 with (go_at_call 11; (with_reducible refine (HFY.out _ hw3).mono ?_); rintro e w4 ⟨hb4, (⟨hf2, rfl⟩ | ⟨v, hf2, rfl⟩)⟩)
    · clear hf2
      go_wp2
      go_ret
      exact ⟨Ext.trans hw3 hb4, rfl⟩
    have hw4 := Ext.trans hw3 hb4
    obtain ⟨u1, u2, _⟩ := HCB.out _ _ _ (Ext.trans hk2 (Ext.trans hb3 hb4))
    have HF2 := Lib.hid hf2
    have hu := fold_tiny HF1.out HXY.out.1
    have hv := fold_tiny hf2 HXY.out.2
    obtain ⟨D, hD⟩ : ∃ D, bestS tb a x b y = D := ⟨_, rfl⟩
    obtain ⟨⟨cst, l, m, f⟩, er⟩ := D
    have hD2 : bestS tb a u b v = (⟨cst, l, m, f⟩, er) := (best_fold HF1.out hf2).trans hD
    have HD := Lib.hid hD
    have HD2 := Lib.hid hD2
    have HUV := Lib.hid (And.intro hu hv)
    clear hf2 hu hv hD hD2
    have HKT : Hid (∀ w', Ext w4 w' → ∀ n, w'.cell? ⟨W.heap.size, n, none⟩ = #[Value.slice A1 tb.rules.length c1, .slice A2 tb.drops.length c2, .slice A3 tb.ends.length c3, .int .i64 tb.drop, .int .i64 tb.order, .int .i64 tb.initial][n]?) := Lib.hid (fun w' h => (HCB.out _ _ _ (Ext.trans hk2 (Ext.trans hb3 (Ext.trans hb4 h)))).1)
    have HB1 := Lib.hid (Best_at A1 A2 A3 c1 c2 c3 tb a x b y w4 (HTAB.out _ hw4) (HTT.out _ hw4) HXY.out.1 HXY.out.2 HLEN.out HD.out)
    go_upto_region 9 with (go_at_call 9; (with_reducible refine (HB1.out).mono ?_); rintro e v1 ⟨hx1, hn1, P1, p1, Q1, q1, rfl, el1, er1⟩)
    have k1 := World.alloc_heap_new v1 (.cells #[.int .i64 cst, .slice P1 l.length p1, .slice Q1 m.length q1, .string (B f)] 28)
    have x1 := Ext.trans hx1 (Ext.new v1 (.cells #[.int .i64 cst, .slice P1 l.length p1, .slice Q1 m.length q1, .string (B f)] 28))
    have y1 := Ext.new v1 (.cells #[.int .i64 cst, .slice P1 l.length p1, .slice Q1 m.length q1, .string (B f)] 28)
    obtain ⟨V1, hV1⟩ : ∃ V1, v1.alloc (.cells #[.int .i64 cst, .slice P1 l.length p1, .slice Q1 m.length q1, .string (B f)] 28) = V1 := ⟨_, rfl⟩
    rw [hV1] at k1 x1 y1 ⊢
    clear hV1
    obtain ⟨b1, hb1⟩ : ∃ b1, v1.heap.size = b1 := ⟨_, rfl⟩
    rw [hb1] at k1 ⊢
    have HEL1 := Lib.hid (el1.ext y1)
    have HER1 := Lib.hid (er1.ext y1)
    have HS1 := Lib.hid x1
    have hW1 := Ext.trans hw4 x1
    have HK1 := Lib.hid k1
    have HN1 := Lib.hid hn1
    clear hx1 el1 er1 x1 y1 k1 HB1 hn1 hb1
    clear u1 u2
    have u1 := HKT.out _ HS1.out
    have HB2 := Lib.hid (Best_at A1 A2 A3 c1 c2 c3 tb a u b v V1 (HTAB.out _ hW1) (HTT.out _ hW1) HUV.out.1 HUV.out.2 HLEN.out HD2.out)
    go_upto_region 10 with (go_at_call 9; (with_reducible refine (HB2.out).mono ?_); rintro e v2 ⟨hx2, hn2, P2, p2, Q2, q2, rfl, el2, er2⟩)
    have k2 := World.alloc_heap_new v2 (.cells #[.int .i64 cst, .slice P2 l.length p2, .slice Q2 m.length q2, .string (B f)] 28)
    have x2 := Ext.trans hx2 (Ext.new v2 (.cells #[.int .i64 cst, .slice P2 l.length p2, .slice Q2 m.length q2, .string (B f)] 28))
    have y2 := Ext.new v2 (.cells #[.int .i64 cst, .slice P2 l.length p2, .slice Q2 m.length q2, .string (B f)] 28)
    obtain ⟨V2, hV2⟩ : ∃ V2, v2.alloc (.cells #[.int .i64 cst, .slice P2 l.length p2, .slice Q2 m.length q2, .string (B f)] 28) = V2 := ⟨_, rfl⟩
    rw [hV2] at k2 x2 y2 ⊢
    clear hV2
    obtain ⟨b2, hb2⟩ : ∃ b2, v2.heap.size = b2 := ⟨_, rfl⟩
    rw [hb2] at k2 ⊢
    have HEL2 := Lib.hid (el2.ext y2)
    have HER2 := Lib.hid (er2.ext y2)
    have HS2 := Lib.hid x2
    have hW2 := Ext.trans hW1 x2
    have HK2 := Lib.hid k2
    have HN2 := Lib.hid hn2
    clear hx2 el2 er2 x2 y2 k2 HB2 hn2 hb2
    clear u1
    have d1 := cell_of (block_ext HK1.out HS2.out)
    have d2 := cell_of HK2.out
    have HSM := Lib.hid (Same_any ⟨cst, l, m, f⟩ ⟨cst, l, m, f⟩ P1 Q1 P2 Q2 p1 q1 p2 q2 V2 (HEL1.out.ext HS2.out) (HER1.out.ext HS2.out) HEL2.out HER2.out ⟨by have := HN1.out; unfold Go.maxLen; dsimp only; omega, by have := HN1.out; unfold Go.maxLen; dsimp only; omega⟩ ⟨by have := HN1.out; unfold Go.maxLen; dsimp only; omega, by have := HN1.out; unfold Go.maxLen; dsimp only; omega⟩)
    rw [decide_eq_true (rfl : (⟨cst, l, m, f⟩ : Der) = ⟨cst, l, m, f⟩)] at HSM
    unfold derVal at HSM
    dsimp only at HSM
    go_wp2_with (go_at_call 12; (with_reducible refine (HSM.out).mono ?_); rintro e w7 ⟨hb7, rfl⟩)
    go_ret
    exact ⟨Ext.trans hW2 hb7, rfl⟩
end Go.Proofs.YtpcfjflfeecinaaDoor
