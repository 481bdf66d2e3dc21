/- Contracts: few at two words; head. -/
import Derived.Test.YtkkbkhcapogobaaGreatDoorR2
namespace Go.Proofs.YtkkbkhcapogobaaGreatDoor
open Go Go.RowKit Go.Lib Go.Proofs S Go.Shelf Go.Maps Go.WideMaps
set_option linter.unusedVariables false
set_option linter.unusedSimpArgs false

theorem strs_new (W : World) (l : List Str) : ElemsAt (W.alloc (.cells (l.map (fun x => Value.string (B x))).toArray 9)) (some ⟨W.heap.size, 0, none⟩) 1 (l.map (fun x => [Value.string (B x)])) := by
  intro i r hr
  refine ⟨_, rfl, fun j v hv => ?_⟩
  rw [List.getElem?_map] at hr
  obtain ⟨k, hk, rfl⟩ := Option.map_eq_some_iff.1 hr
  match j, hv with
  | 0, hv =>
    simp at hv; subst hv
    have ha : (((⟨W.heap.size, 0, none⟩ : Addr).add (i * 1)).add 0) = ⟨W.heap.size, i, none⟩ := by
      rw [Addr.add_zero, Nat.mul_one]
      cases i with
      | zero => simp [Addr.add]
      | succ n => simp [Addr.add]
    rw [ha, cell_of (World.alloc_heap_new W _) i]
    simp [hk]
  | j + 1, hv => simp at hv
theorem few_two (A1 A2 A3 : Option Addr) (q1 q2 q3 : Nat) (t : Tab) (x y : Str) (w : World) (ht : TabRd w A1 A2 A3 t) :
    Calls Tryz.prog 5 #[tabVal A1 q1 A2 q2 A3 q3 t, .slice (some ⟨w.heap.size, 0, none⟩) 2 2] (w.alloc (.cells #[.string (B x), .string (B y)] 9)) fun e w' => Ext w w' ∧ e = .returned (.bool (fewS t [x, y])) := by
  have h := few_any A1 A2 A3 (some ⟨w.heap.size, 0, none⟩) q1 q2 q3 2 t [x, y] (w.alloc (.cells #[.string (B x), .string (B y)] 9)) (ht.ext (Ext.new w _)) (strs_new w [x, y]) (by simp)
  refine Calls.mono h ?_
  rintro e w' ⟨h1, h2⟩
  exact ⟨Ext.trans (Ext.new w _) h1, h2⟩
/-- What lies in a block, behind whatever was laid since. -/
theorem block_later {w w' : World} {b : Nat} {cs : Array Value} {t : TypeId} (h : w.heap[b]? = some (.cells cs t)) (hx : Ext w w') : (∀ n, w'.cell? ⟨b, n, none⟩ = cs[n]?) ∧ (∀ o n, (w'.alloc o).cell? ⟨b, n, none⟩ = cs[n]?) ∧ (∀ o o2 n, ((w'.alloc o).alloc o2).cell? ⟨b, n, none⟩ = cs[n]?) :=
  ⟨cell_of (block_ext h hx), fun o => cell_of (block_ext h (Ext.trans hx (Ext.new w' o))), fun o o2 => cell_of (block_ext h (Ext.trans hx ((Ext.new w' o).alloc o2)))⟩

set_option maxRecDepth 100000 in
set_option maxHeartbeats 4000000 in
theorem head_any (w : World) (hT : Tabs w) : Calls Tryz.prog 4 #[] w fun e w' => Ext w w' ∧ e = .returned (.bool true) := by
  have HTab := Lib.hid hT
  clear hT
  go_enter Tryz.func4, Tryz.ntmps4
  go_upto_region 2 with (go_at_call 11; (with_reducible refine (table_any _).mono ?_); rintro e w1 ⟨hx1, A1, rfl, ht⟩)
  have k0 := World.alloc_heap_new w1 (.cells #[.slice A1 5 5, .slice none 0 0, .slice none 0 0, .int .i64 0, .int .i64 0, .int .i64 0] 25)
  have x0 := Ext.new w1 (.cells #[.slice A1 5 5, .slice none 0 0, .slice none 0 0, .int .i64 0, .int .i64 0, .int .i64 0] 25)
  obtain ⟨V0, hV0⟩ : ∃ V0, w1.alloc (.cells #[.slice A1 5 5, .slice none 0 0, .slice none 0 0, .int .i64 0, .int .i64 0, .int .i64 0] 25) = V0 := ⟨_, rfl⟩
  rw [hV0] at k0 x0 ⊢
  clear hV0
  obtain ⟨b0, hb0⟩ : ∃ b0, w1.heap.size = b0 := ⟨_, rfl⟩
  rw [hb0] at k0 ⊢
  have HTa := Lib.hid (ht.ext x0)
  have HX0 := Lib.hid (Ext.trans hx1 x0)
  have c0 := cell_of k0
  have HK0 := Lib.hid k0
  clear ht x0 hx1 k0
  have HB1 := Lib.hid (best_at1 A1 V0 (HTa.out) (HTab.out.below HX0.out))
  go_upto_region 3 with (go_at_call 6; (with_reducible refine (HB1.out).mono ?_); rintro e v1 ⟨hx1, P1, p1, Q1, q1, rfl, el1, er1⟩)
  have k1 := World.alloc_heap_new v1 (.cells #[.int .i64 0, .slice P1 3 p1, .slice Q1 3 q1, .string ⟨#[97, 110, 97]⟩] 28)
  have x1 := Ext.trans hx1 (Ext.new v1 (.cells #[.int .i64 0, .slice P1 3 p1, .slice Q1 3 q1, .string ⟨#[97, 110, 97]⟩] 28))
  have y1 := Ext.new v1 (.cells #[.int .i64 0, .slice P1 3 p1, .slice Q1 3 q1, .string ⟨#[97, 110, 97]⟩] 28)
  obtain ⟨V1, hV1⟩ : ∃ V1, v1.alloc (.cells #[.int .i64 0, .slice P1 3 p1, .slice Q1 3 q1, .string ⟨#[97, 110, 97]⟩] 28) = V1 := ⟨_, rfl⟩
  rw [hV1] at k1 x1 y1 ⊢
  clear hV1
  obtain ⟨b1, hb1⟩ : ∃ b1, v1.heap.size = b1 := ⟨_, rfl⟩
  rw [hb1] at k1 ⊢
  have HEL1 := Lib.hid (el1.ext y1)
  have HER1 := Lib.hid (er1.ext y1)
  have HS1 := Lib.hid x1
  have HX1 := Lib.hid (Ext.trans HX0.out x1)
  have HY1 := Lib.hid (x1)
  have HK1 := Lib.hid k1
  clear c0
  have c0 := cell_of (block_ext HK0.out HY1.out)
  have d1 := cell_of HK1.out
  clear hx1 el1 er1 x1 y1 k1 HB1
  have HB2 := Lib.hid (best_at2 A1 V1 (HTa.out.ext HY1.out) (HTab.out.below HX1.out))
  go_upto_region 4 with (go_at_call 6; (with_reducible refine (HB2.out).mono ?_); rintro e v2 ⟨hx2, P2, p2, Q2, q2, rfl, el2, er2⟩)
  have k2 := World.alloc_heap_new v2 (.cells #[.int .i64 1, .slice P2 3 p2, .slice Q2 3 q2, .string ⟨#[97, 110, 97]⟩] 28)
  have x2 := Ext.trans hx2 (Ext.new v2 (.cells #[.int .i64 1, .slice P2 3 p2, .slice Q2 3 q2, .string ⟨#[97, 110, 97]⟩] 28))
  have y2 := Ext.new v2 (.cells #[.int .i64 1, .slice P2 3 p2, .slice Q2 3 q2, .string ⟨#[97, 110, 97]⟩] 28)
  obtain ⟨V2, hV2⟩ : ∃ V2, v2.alloc (.cells #[.int .i64 1, .slice P2 3 p2, .slice Q2 3 q2, .string ⟨#[97, 110, 97]⟩] 28) = V2 := ⟨_, rfl⟩
  rw [hV2] at k2 x2 y2 ⊢
  clear hV2
  obtain ⟨b2, hb2⟩ : ∃ b2, v2.heap.size = b2 := ⟨_, rfl⟩
  rw [hb2] at k2 ⊢
  have HEL2 := Lib.hid (el2.ext y2)
  have HER2 := Lib.hid (er2.ext y2)
  have HS2 := Lib.hid x2
  have HX2 := Lib.hid (Ext.trans HX1.out x2)
  have HY2 := Lib.hid (Ext.trans HY1.out x2)
  have HK2 := Lib.hid k2
  clear c0 d1
  have c0 := cell_of (block_ext HK0.out HY2.out)
  have d1 := cell_of (block_ext HK1.out HS2.out)
  have d2 := cell_of HK2.out
  clear hx2 el2 er2 x2 y2 k2 HB2
  have HB3 := Lib.hid (best_at3 A1 V2 (HTa.out.ext HY2.out) (HTab.out.below HX2.out))
  go_upto_region 5 with (go_at_call 6; (with_reducible refine (HB3.out).mono ?_); rintro e v3 ⟨hx3, P3, p3, Q3, q3, rfl, el3, er3⟩)
  have k3 := World.alloc_heap_new v3 (.cells #[.int .i64 2, .slice P3 2 p3, .slice Q3 1 q3, .string ⟨#[110, 97]⟩] 28)
  have x3 := Ext.trans hx3 (Ext.new v3 (.cells #[.int .i64 2, .slice P3 2 p3, .slice Q3 1 q3, .string ⟨#[110, 97]⟩] 28))
  have y3 := Ext.new v3 (.cells #[.int .i64 2, .slice P3 2 p3, .slice Q3 1 q3, .string ⟨#[110, 97]⟩] 28)
  obtain ⟨V3, hV3⟩ : ∃ V3, v3.alloc (.cells #[.int .i64 2, .slice P3 2 p3, .slice Q3 1 q3, .string ⟨#[110, 97]⟩] 28) = V3 := ⟨_, rfl⟩
  rw [hV3] at k3 x3 y3 ⊢
  clear hV3
  obtain ⟨b3, hb3⟩ : ∃ b3, v3.heap.size = b3 := ⟨_, rfl⟩
  rw [hb3] at k3 ⊢
  have HEL3 := Lib.hid (el3.ext y3)
  have HER3 := Lib.hid (er3.ext y3)
  have HS3 := Lib.hid x3
  have HX3 := Lib.hid (Ext.trans HX2.out x3)
  have HY3 := Lib.hid (Ext.trans HY2.out x3)
  have HK3 := Lib.hid k3
  clear c0 d1 d2
  have c0 := cell_of (block_ext HK0.out HY3.out)
  have d1 := cell_of (block_ext HK1.out (Ext.trans HS2.out HS3.out))
  have d2 := cell_of (block_ext HK2.out HS3.out)
  have d3 := cell_of HK3.out
  clear hx3 el3 er3 x3 y3 k3 HB3
  have HB4 := Lib.hid (best_at4 A1 V3 (HTa.out.ext HY3.out) (HTab.out.below HX3.out))
  go_upto_region 6 with (go_at_call 6; (with_reducible refine (HB4.out).mono ?_); rintro e v4 ⟨hx4, P4, p4, Q4, q4, rfl, el4, er4⟩)
  have k4 := World.alloc_heap_new v4 (.cells #[.int .i64 0, .slice P4 0 p4, .slice Q4 0 q4, .string ⟨#[]⟩] 28)
  have x4 := Ext.trans hx4 (Ext.new v4 (.cells #[.int .i64 0, .slice P4 0 p4, .slice Q4 0 q4, .string ⟨#[]⟩] 28))
  have y4 := Ext.new v4 (.cells #[.int .i64 0, .slice P4 0 p4, .slice Q4 0 q4, .string ⟨#[]⟩] 28)
  obtain ⟨V4, hV4⟩ : ∃ V4, v4.alloc (.cells #[.int .i64 0, .slice P4 0 p4, .slice Q4 0 q4, .string ⟨#[]⟩] 28) = V4 := ⟨_, rfl⟩
  rw [hV4] at k4 x4 y4 ⊢
  clear hV4
  obtain ⟨b4, hb4⟩ : ∃ b4, v4.heap.size = b4 := ⟨_, rfl⟩
  rw [hb4] at k4 ⊢
  have HEL4 := Lib.hid (el4.ext y4)
  have HER4 := Lib.hid (er4.ext y4)
  have HS4 := Lib.hid x4
  have HX4 := Lib.hid (Ext.trans HX3.out x4)
  have HY4 := Lib.hid (Ext.trans HY3.out x4)
  have HK4 := Lib.hid k4
  clear c0 d1 d2 d3
  have c0 := cell_of (block_ext HK0.out HY4.out)
  have d1 := cell_of (block_ext HK1.out (Ext.trans (Ext.trans HS2.out HS3.out) HS4.out))
  have d2 := cell_of (block_ext HK2.out (Ext.trans HS3.out HS4.out))
  have d3 := cell_of (block_ext HK3.out HS4.out)
  have d4 := cell_of HK4.out
  clear hx4 el4 er4 x4 y4 k4 HB4
  have x14 := Ext.trans (Ext.trans HS2.out HS3.out) HS4.out
  have HI1 := Lib.hid (is_at1 P1 Q1 p1 q1 V4 (HEL1.out.ext x14) (HER1.out.ext x14))
  have HI2 : Hid (∀ w', Ext V4 w' → _) := Lib.hid (fun w' h => is_at2 P2 Q2 p2 q2 w' (HEL2.out.ext (Ext.trans (Ext.trans HS3.out HS4.out) h)) (HER2.out.ext (Ext.trans (Ext.trans HS3.out HS4.out) h)))
  have HI3 : Hid (∀ w', Ext V4 w' → _) := Lib.hid (fun w' h => is_at3 P3 Q3 p3 q3 w' (HEL3.out.ext (Ext.trans HS4.out h)) (HER3.out.ext (Ext.trans HS4.out h)))
  have HC5 : Hid (∀ w', Ext V4 w' → _) := Lib.hid (fun w' h => check_at5 A1 P3 Q3 p3 q3 w' (HTa.out.ext (Ext.trans HY4.out h)) (HTab.out.below (Ext.trans HX4.out h)) (HEL3.out.ext (Ext.trans HS4.out h)) (HER3.out.ext (Ext.trans HS4.out h)))
  have HC6 : Hid (∀ w', Ext V4 w' → _) := Lib.hid (fun w' h => check_at6 A1 P3 Q3 p3 q3 w' (HTa.out.ext (Ext.trans HY4.out h)) (HTab.out.below (Ext.trans HX4.out h)) (HEL3.out.ext (Ext.trans HS4.out h)) (HER3.out.ext (Ext.trans HS4.out h)))
  have hk : ∀ w', Ext V4 w' → (∀ n, w'.cell? ⟨b0, n, none⟩ = #[Value.slice A1 5 5, .slice none 0 0, .slice none 0 0, .int .i64 0, .int .i64 0, .int .i64 0][n]?) ∧ (∀ n, w'.cell? ⟨b2, n, none⟩ = #[Value.int .i64 1, .slice P2 3 p2, .slice Q2 3 q2, .string ⟨#[97, 110, 97]⟩][n]?) ∧ (∀ n, w'.cell? ⟨b3, n, none⟩ = #[Value.int .i64 2, .slice P3 2 p3, .slice Q3 1 q3, .string ⟨#[110, 97]⟩][n]?) := fun w' h =>
    ⟨cell_of (block_ext HK0.out (Ext.trans HY4.out h)), cell_of (block_ext HK2.out (Ext.trans (Ext.trans HS3.out HS4.out) h)), cell_of (block_ext HK3.out (Ext.trans HS4.out h))⟩
  have HK := Lib.hid hk
  clear x14 hk
  go_wp2_with (first | (go_at_call 12; (with_reducible refine (HI1.out).mono ?_); rintro e u1 ⟨hu1, rfl⟩; obtain ⟨a10, a12, a13⟩ := HK.out _ hu1) | (go_at_call 12; (with_reducible refine (HI2.out _ hu1).mono ?_); rintro e u2 ⟨hu2, rfl⟩; have hv2 := Ext.trans hu1 hu2; obtain ⟨a20, a22, a23⟩ := HK.out _ hv2) | (go_at_call 12; (with_reducible refine (HI3.out _ hv2).mono ?_); rintro e u3 ⟨hu3, rfl⟩; have hv3 := Ext.trans hv2 hu3; obtain ⟨a30, a32, a33⟩ := HK.out _ hv3) | (go_at_call 9; (with_reducible refine (HC5.out _ hv3).mono ?_); rintro e u4 ⟨hu4, rfl⟩; have hv4 := Ext.trans hv3 hu4; obtain ⟨a40, a42, a43⟩ := HK.out _ hv4) | (go_at_call 9; (with_reducible refine (HC6.out _ hv4).mono ?_); rintro e u5 ⟨hu5, rfl⟩; have hv5 := Ext.trans hv4 hu5))
  go_ret
  exact ⟨Ext.trans HX4.out hv5, rfl⟩

/-- align.Best, its result written out. -/
theorem Best_at (A1 A2 A3 : Option Addr) (q1 q2 q3 : Nat) (t : Tab) (a : Int) (x : Str) (b : Int) (y : Str) (w : World) (ht : TabAt w A1 A2 A3 t) (hT : Tabs w) (hx : tiny x) (hy : tiny y) (hlen : t.rules.length ≤ 1000) {c : Int} {l m : List Int} {f : Str} {er : Int} (hD : bestS t a x b y = (⟨c, l, m, f⟩, er)) :
    Calls Tryz.prog 6 #[.agg #[.slice A1 t.rules.length q1, .slice A2 t.drops.length q2, .slice A3 t.ends.length q3, .int .i64 t.drop, .int .i64 t.order, .int .i64 t.initial], .int .i64 a, .string (B x), .int .i64 b, .string (B y)] w fun e w' => Ext w w' ∧ (l.length ≤ 24 ∧ m.length ≤ 24) ∧ ∃ (A4 : Option Addr) (q4 : Nat) (A5 : Option Addr) (q5 : Nat),
      e = .returned (.tuple #[.agg #[.int .i64 c, .slice A4 l.length q4, .slice A5 m.length q5, .string (B f)], .int .i64 er]) ∧ ElemsAt w' A4 1 (intRows l) ∧ ElemsAt w' A5 1 (intRows m) := by
  have h := Best_any A1 A2 A3 q1 q2 q3 t a x b y w ht hT hx hy hlen
  rw [hD] at h
  exact h
end Go.Proofs.YtkkbkhcapogobaaGreatDoor
