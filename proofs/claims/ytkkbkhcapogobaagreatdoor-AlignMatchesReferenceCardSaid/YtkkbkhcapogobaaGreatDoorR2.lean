/- Contracts: the laws' table and head. -/
import Derived.Test.YtkkbkhcapogobaaGreatDoorR3
import Derived.Test.YtkkbkhcapogobaaGreatDoorE8
import Derived.Test.YtkkbkhcapogobaaGreatDoorS7
namespace Go.Proofs.YtkkbkhcapogobaaGreatDoor
open Go Go.RowKit Go.Lib Go.Proofs S Go.Shelf Go.Maps Go.WideMaps
set_option linter.unusedVariables false
set_option linter.unusedSimpArgs false

theorem ints_new (W : World) (l : List Int) : ElemsAt (W.alloc (.cells (l.map (Value.int .i64)).toArray 3)) (some ⟨W.heap.size, 0, none⟩) 1 (intRows l) := by
  intro i r hr
  refine ⟨_, rfl, fun j v hv => ?_⟩
  unfold intRows at hr
  rw [List.getElem?_map] at hr
  obtain ⟨k, hk, rfl⟩ := Option.map_eq_some_iff.1 hr
  match j, hv with
  | 0, hv =>
    simp at hv; subst hv
    have ha : (((⟨W.heap.size, 0, none⟩ : Addr).add (i * 1)).add 0) = ⟨W.heap.size, i, none⟩ := by
      rw [Addr.add_zero, Nat.mul_one]
      cases i with
      | zero => simp [Addr.add]
      | succ n => simp [Addr.add]
    rw [ha, cell_of (World.alloc_heap_new W _) i]
    simp [hk]
  | j + 1, hv => simp at hv

set_option maxRecDepth 100000 in
set_option maxHeartbeats 4000000 in
theorem table_any (w : World) : Calls Tryz.prog 11 #[] w fun e w' => Ext w w' ∧ ∃ A1, e = .returned (.agg #[.slice A1 5 5, .slice none 0 0, .slice none 0 0, .int .i64 0, .int .i64 0, .int .i64 0]) ∧ TabAt w' A1 none none exTab := by
  have HT : Hid (∀ cs1 w', Ext ((w.alloc (.cells cs1 25)).alloc (.cells (exTab.rules.map ruleVals).flatten.toArray 68)) w' → TabAt w' (some ⟨w.heap.size + 1, 0, none⟩) none none exTab) := Lib.hid (fun cs1 w' h => by
    have hc := (cells_new2 h).2.1
    refine ⟨fun i r hr => ⟨_, rfl, fun j v hv => ?_⟩, fun i r hr => by simp [exTab] at hr, fun i r hr => by simp [exTab] at hr, ?_, by simp [exTab], by simp [exTab], by simp [exTab], by simp [exTab], by simp [exTab]⟩
    · have ha : (((⟨w.heap.size + 1, 0, none⟩ : Addr).add (i * 4)).add j) = ⟨w.heap.size + 1, i * 4 + j, none⟩ := by
        unfold Addr.add; split <;> split <;> simp_all
      rw [ha, hc]
      match i, hr with
      | 0, hr => simp [exTab, ruleVals] at hr; subst hr; match j, hv with | 0, hv => exact hv | 1, hv => exact hv | 2, hv => exact hv | 3, hv => exact hv | j + 4, hv => simp at hv
      | 1, hr => simp [exTab, ruleVals] at hr; subst hr; match j, hv with | 0, hv => exact hv | 1, hv => exact hv | 2, hv => exact hv | 3, hv => exact hv | j + 4, hv => simp at hv
      | 2, hr => simp [exTab, ruleVals] at hr; subst hr; match j, hv with | 0, hv => exact hv | 1, hv => exact hv | 2, hv => exact hv | 3, hv => exact hv | j + 4, hv => simp at hv
      | 3, hr => simp [exTab, ruleVals] at hr; subst hr; match j, hv with | 0, hv => exact hv | 1, hv => exact hv | 2, hv => exact hv | 3, hv => exact hv | j + 4, hv => simp at hv
      | 4, hr => simp [exTab, ruleVals] at hr; subst hr; match j, hv with | 0, hv => exact hv | 1, hv => exact hv | 2, hv => exact hv | 3, hv => exact hv | j + 4, hv => simp at hv
      | i + 5, hr => simp [exTab] at hr
    · intro r hr
      simp only [exTab, List.mem_cons, List.mem_nil_iff, or_false] at hr
      rcases hr with rfl | rfl | rfl | rfl | rfl <;> exact ⟨by unfold I64; decide, by simp [tiny], by simp [tiny], by unfold I64; decide⟩)
  go_enter Tryz.func11, Tryz.ntmps11
  go_wp2
  refine bodyPost_ret (v := .agg #[.slice (some ⟨w.heap.size + 1, 0, none⟩) 5 5, .slice none 0 0, .slice none 0 0, .int .i64 0, .int .i64 0, .int .i64 0]) (by simp [results, Tryz.results11, go_sem]) rfl ?_
  exact ⟨(Ext.new w _).alloc _, _, rfl, HT.out _ _ (Below.refl _ _)⟩

theorem best_at1 (A1 : Option Addr) (w : World) (ht : TabAt w A1 none none exTab) (hT : Tabs w) :
    Calls Tryz.prog 6 #[.agg #[.slice A1 5 5, .slice none 0 0, .slice none 0 0, .int .i64 0, .int .i64 0, .int .i64 0], .int .i64 1, .string ⟨#[97, 110, 97]⟩, .int .i64 1, .string ⟨#[97, 110, 97]⟩] w fun e w' => Ext w w' ∧ ∃ (A4 : Option Addr) (q4 : Nat) (A5 : Option Addr) (q5 : Nat),
      e = .returned (.tuple #[.agg #[.int .i64 0, .slice A4 3 q4, .slice A5 3 q5, .string ⟨#[97, 110, 97]⟩], .int .i64 0]) ∧ ElemsAt w' A4 1 (intRows [0, 1, 0]) ∧ ElemsAt w' A5 1 (intRows [0, 1, 0]) := by
  have h := Best_any A1 none none 5 0 0 exTab 1 [97, 110, 97] 1 [97, 110, 97] w ht hT (by simp [tiny]) (by simp [tiny]) (by simp [exTab])
  rw [ex1] at h
  refine Calls.mono h ?_
  rintro e w' ⟨g1, _, g2⟩
  exact ⟨g1, g2⟩
theorem best_at2 (A1 : Option Addr) (w : World) (ht : TabAt w A1 none none exTab) (hT : Tabs w) :
    Calls Tryz.prog 6 #[.agg #[.slice A1 5 5, .slice none 0 0, .slice none 0 0, .int .i64 0, .int .i64 0, .int .i64 0], .int .i64 1, .string ⟨#[97, 110, 110, 97]⟩, .int .i64 1, .string ⟨#[97, 110, 97]⟩] w fun e w' => Ext w w' ∧ ∃ (A4 : Option Addr) (q4 : Nat) (A5 : Option Addr) (q5 : Nat),
      e = .returned (.tuple #[.agg #[.int .i64 1, .slice A4 3 q4, .slice A5 3 q5, .string ⟨#[97, 110, 97]⟩], .int .i64 0]) ∧ ElemsAt w' A4 1 (intRows [0, 2, 0]) ∧ ElemsAt w' A5 1 (intRows [0, 1, 0]) := by
  have h := Best_any A1 none none 5 0 0 exTab 1 [97, 110, 110, 97] 1 [97, 110, 97] w ht hT (by simp [tiny]) (by simp [tiny]) (by simp [exTab])
  rw [ex2] at h
  refine Calls.mono h ?_
  rintro e w' ⟨g1, _, g2⟩
  exact ⟨g1, g2⟩
theorem best_at3 (A1 : Option Addr) (w : World) (ht : TabAt w A1 none none exTab) (hT : Tabs w) :
    Calls Tryz.prog 6 #[.agg #[.slice A1 5 5, .slice none 0 0, .slice none 0 0, .int .i64 0, .int .i64 0, .int .i64 0], .int .i64 1, .string ⟨#[110, 97]⟩, .int .i64 3, .string ⟨#[110]⟩] w fun e w' => Ext w w' ∧ ∃ (A4 : Option Addr) (q4 : Nat) (A5 : Option Addr) (q5 : Nat),
      e = .returned (.tuple #[.agg #[.int .i64 2, .slice A4 2 q4, .slice A5 1 q5, .string ⟨#[110, 97]⟩], .int .i64 0]) ∧ ElemsAt w' A4 1 (intRows [1, 0]) ∧ ElemsAt w' A5 1 (intRows [4]) := by
  have h := Best_any A1 none none 5 0 0 exTab 1 [110, 97] 3 [110] w ht hT (by simp [tiny]) (by simp [tiny]) (by simp [exTab])
  rw [ex3] at h
  refine Calls.mono h ?_
  rintro e w' ⟨g1, _, g2⟩
  exact ⟨g1, g2⟩
theorem best_at4 (A1 : Option Addr) (w : World) (ht : TabAt w A1 none none exTab) (hT : Tabs w) :
    Calls Tryz.prog 6 #[.agg #[.slice A1 5 5, .slice none 0 0, .slice none 0 0, .int .i64 0, .int .i64 0, .int .i64 0], .int .i64 1, .string ⟨#[97]⟩, .int .i64 3, .string ⟨#[110]⟩] w fun e w' => Ext w w' ∧ ∃ (A4 : Option Addr) (q4 : Nat) (A5 : Option Addr) (q5 : Nat),
      e = .returned (.tuple #[.agg #[.int .i64 0, .slice A4 0 q4, .slice A5 0 q5, .string ⟨#[]⟩], .int .i64 11]) ∧ ElemsAt w' A4 1 (intRows []) ∧ ElemsAt w' A5 1 (intRows []) := by
  have h := Best_any A1 none none 5 0 0 exTab 1 [97] 3 [110] w ht hT (by simp [tiny]) (by simp [tiny]) (by simp [exTab])
  rw [ex4] at h
  refine Calls.mono h ?_
  rintro e w' ⟨g1, _, g2⟩
  exact ⟨g1, g2⟩
theorem check_at5 (A1 A4 A5 : Option Addr) (q4 q5 : Nat) (w : World) (ht : TabAt w A1 none none exTab) (hT : Tabs w) (h4 : ElemsAt w A4 1 (intRows [1, 0])) (h5 : ElemsAt w A5 1 (intRows [4])) :
    Calls Tryz.prog 9 #[.agg #[.slice A1 5 5, .slice none 0 0, .slice none 0 0, .int .i64 0, .int .i64 0, .int .i64 0], .int .i64 1, .string ⟨#[110, 97]⟩, .int .i64 3, .string ⟨#[110]⟩, .agg #[.int .i64 2, .slice A4 2 q4, .slice A5 1 q5, .string ⟨#[110, 97]⟩]] w fun e w' => Ext w w' ∧ e = .returned (.bool true) := by
  have h := Check_any A1 none none 5 0 0 exTab 1 [110, 97] 3 [110] ⟨2, [1, 0], [4], [110, 97]⟩ A4 A5 q4 q5 w ht hT (by simp [tiny]) (by simp [tiny]) (by simp [exTab]) h4 h5 (by simp) (by simp)
  rw [ex5] at h
  exact h
theorem check_at6 (A1 A4 A5 : Option Addr) (q4 q5 : Nat) (w : World) (ht : TabAt w A1 none none exTab) (hT : Tabs w) (h4 : ElemsAt w A4 1 (intRows [1, 0])) (h5 : ElemsAt w A5 1 (intRows [4])) :
    Calls Tryz.prog 9 #[.agg #[.slice A1 5 5, .slice none 0 0, .slice none 0 0, .int .i64 0, .int .i64 0, .int .i64 0], .int .i64 1, .string ⟨#[110, 97]⟩, .int .i64 3, .string ⟨#[110, 110]⟩, .agg #[.int .i64 2, .slice A4 2 q4, .slice A5 1 q5, .string ⟨#[110, 97]⟩]] w fun e w' => Ext w w' ∧ e = .returned (.bool false) := by
  have h := Check_any A1 none none 5 0 0 exTab 1 [110, 97] 3 [110, 110] ⟨2, [1, 0], [4], [110, 97]⟩ A4 A5 q4 q5 w ht hT (by simp [tiny]) (by simp [tiny]) (by simp [exTab]) h4 h5 (by simp) (by simp)
  rw [ex6] at h
  exact h
theorem is_at1 (A4 A5 : Option Addr) (q4 q5 : Nat) (w : World) (h4 : ElemsAt w A4 1 (intRows [0, 1, 0])) (h5 : ElemsAt w A5 1 (intRows [0, 1, 0])) :
    Calls Tryz.prog 12 #[.agg #[.int .i64 0, .slice A4 3 q4, .slice A5 3 q5, .string ⟨#[97, 110, 97]⟩], .int .i64 0, .slice (some ⟨w.heap.size, 0, none⟩) 3 3, .slice (some ⟨w.heap.size + 1, 0, none⟩) 3 3, .string ⟨#[97, 110, 97]⟩] ((w.alloc (.cells #[.int .i64 0, .int .i64 1, .int .i64 0] 3)).alloc (.cells #[.int .i64 0, .int .i64 1, .int .i64 0] 3)) fun e w' => Ext w w' ∧ e = .returned (.bool true) := by
  have hx := (Ext.new w (.cells #[.int .i64 0, .int .i64 1, .int .i64 0] 3)).alloc (.cells #[.int .i64 0, .int .i64 1, .int .i64 0] 3)
  have g3 := (ints_new w [0, 1, 0]).ext (Ext.new _ (.cells #[.int .i64 0, .int .i64 1, .int .i64 0] 3))
  have g4 := ints_new (w.alloc (.cells #[.int .i64 0, .int .i64 1, .int .i64 0] 3)) [0, 1, 0]
  rw [World.size_alloc] at g4
  have h := isDer_any ⟨0, [0, 1, 0], [0, 1, 0], [97, 110, 97]⟩ 0 [0, 1, 0] [0, 1, 0] [97, 110, 97] A4 A5 (some ⟨w.heap.size, 0, none⟩) (some ⟨w.heap.size + 1, 0, none⟩) q4 q5 3 3 _ (h4.ext hx) (h5.ext hx) g3 g4 ⟨by simp [Go.maxLen], by simp [Go.maxLen]⟩ (by simp [Go.maxLen]) (by simp [Go.maxLen])
  refine Calls.mono h ?_
  rintro e w' ⟨h1, h2⟩
  exact ⟨Ext.trans hx h1, by rw [h2]; simp⟩
theorem is_at2 (A4 A5 : Option Addr) (q4 q5 : Nat) (w : World) (h4 : ElemsAt w A4 1 (intRows [0, 2, 0])) (h5 : ElemsAt w A5 1 (intRows [0, 1, 0])) :
    Calls Tryz.prog 12 #[.agg #[.int .i64 1, .slice A4 3 q4, .slice A5 3 q5, .string ⟨#[97, 110, 97]⟩], .int .i64 1, .slice (some ⟨w.heap.size, 0, none⟩) 3 3, .slice (some ⟨w.heap.size + 1, 0, none⟩) 3 3, .string ⟨#[97, 110, 97]⟩] ((w.alloc (.cells #[.int .i64 0, .int .i64 2, .int .i64 0] 3)).alloc (.cells #[.int .i64 0, .int .i64 1, .int .i64 0] 3)) fun e w' => Ext w w' ∧ e = .returned (.bool true) := by
  have hx := (Ext.new w (.cells #[.int .i64 0, .int .i64 2, .int .i64 0] 3)).alloc (.cells #[.int .i64 0, .int .i64 1, .int .i64 0] 3)
  have g3 := (ints_new w [0, 2, 0]).ext (Ext.new _ (.cells #[.int .i64 0, .int .i64 1, .int .i64 0] 3))
  have g4 := ints_new (w.alloc (.cells #[.int .i64 0, .int .i64 2, .int .i64 0] 3)) [0, 1, 0]
  rw [World.size_alloc] at g4
  have h := isDer_any ⟨1, [0, 2, 0], [0, 1, 0], [97, 110, 97]⟩ 1 [0, 2, 0] [0, 1, 0] [97, 110, 97] A4 A5 (some ⟨w.heap.size, 0, none⟩) (some ⟨w.heap.size + 1, 0, none⟩) q4 q5 3 3 _ (h4.ext hx) (h5.ext hx) g3 g4 ⟨by simp [Go.maxLen], by simp [Go.maxLen]⟩ (by simp [Go.maxLen]) (by simp [Go.maxLen])
  refine Calls.mono h ?_
  rintro e w' ⟨h1, h2⟩
  exact ⟨Ext.trans hx h1, by rw [h2]; simp⟩
theorem is_at3 (A4 A5 : Option Addr) (q4 q5 : Nat) (w : World) (h4 : ElemsAt w A4 1 (intRows [1, 0])) (h5 : ElemsAt w A5 1 (intRows [4])) :
    Calls Tryz.prog 12 #[.agg #[.int .i64 2, .slice A4 2 q4, .slice A5 1 q5, .string ⟨#[110, 97]⟩], .int .i64 2, .slice (some ⟨w.heap.size, 0, none⟩) 2 2, .slice (some ⟨w.heap.size + 1, 0, none⟩) 1 1, .string ⟨#[110, 97]⟩] ((w.alloc (.cells #[.int .i64 1, .int .i64 0] 3)).alloc (.cells #[.int .i64 4] 3)) fun e w' => Ext w w' ∧ e = .returned (.bool true) := by
  have hx := (Ext.new w (.cells #[.int .i64 1, .int .i64 0] 3)).alloc (.cells #[.int .i64 4] 3)
  have g3 := (ints_new w [1, 0]).ext (Ext.new _ (.cells #[.int .i64 4] 3))
  have g4 := ints_new (w.alloc (.cells #[.int .i64 1, .int .i64 0] 3)) [4]
  rw [World.size_alloc] at g4
  have h := isDer_any ⟨2, [1, 0], [4], [110, 97]⟩ 2 [1, 0] [4] [110, 97] A4 A5 (some ⟨w.heap.size, 0, none⟩) (some ⟨w.heap.size + 1, 0, none⟩) q4 q5 2 1 _ (h4.ext hx) (h5.ext hx) g3 g4 ⟨by simp [Go.maxLen], by simp [Go.maxLen]⟩ (by simp [Go.maxLen]) (by simp [Go.maxLen])
  refine Calls.mono h ?_
  rintro e w' ⟨h1, h2⟩
  exact ⟨Ext.trans hx h1, by rw [h2]; simp⟩
end Go.Proofs.YtkkbkhcapogobaaGreatDoor
