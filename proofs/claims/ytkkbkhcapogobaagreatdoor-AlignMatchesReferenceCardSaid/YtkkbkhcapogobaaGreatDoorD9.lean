/- Contracts: align.open. -/
import Derived.Test.YtkkbkhcapogobaaGreatDoorD8
namespace Go.Proofs.YtkkbkhcapogobaaGreatDoor
open Go Go.RowKit Go.Lib Go.Proofs S Go.Shelf Go.Maps
set_option linter.unusedVariables false
set_option linter.unusedSimpArgs false

theorem sideOf_gen (A1 A2 A3 : Option Addr) (q1 q2 q3 : Nat) (t : Tab) (k : Int) (word : Str) (w : World) (ht : TabAt w A1 A2 A3 t) (hT : Tabs w) (hw : tiny word) (hlen : t.rules.length ≤ 1000) :
    Calls Tryz.prog 25 #[.agg #[.slice A1 t.rules.length q1, .slice A2 t.drops.length q2, .slice A3 t.ends.length q3, .int .i64 t.drop, .int .i64 t.order, .int .i64 t.initial], .int .i64 k, .string (B word)] w fun e w' =>
      ∃ (g0 : Option Addr) (n0 c0 : Nat) (g1 : Option Addr) (n1 c1 : Nat), e = .returned (.tuple #[.agg #[.slice g0 n0 c0, .slice g1 n1 c1], .bool (sideS t k word).isSome]) ∧ Ext w w' ∧
        (∀ s, sideS t k word = some s → ∃ m : MSide, m.side = s ∧ m.At w' ∧ .slice g0 n0 c0 = letVal m.lg m.lc m.letters ∧ (.slice g1 n1 c1 : Value) = .slice m.A m.rules.length m.rc) := by
  refine (sideOf_any A1 A2 A3 q1 q2 q3 t k word w ht hT hw hlen).mono ?_
  rintro e w' ⟨hx, ⟨h1, rfl⟩ | ⟨m, h1, h2, rfl⟩⟩
  · exact ⟨none, 0, 0, none, 0, 0, by rw [h1]; rfl, hx, fun s hs => by rw [h1] at hs; cases hs⟩
  · exact ⟨_, _, _, _, _, _, by rw [h1]; rfl, hx, fun s hs => by rw [h1] at hs; cases hs; exact ⟨m, rfl, h2, rfl, rfl⟩⟩

theorem nil_of_block {w : World} {b : Nat} {t : TypeId} (h : w.heap[b]? = some (.cells #[.slice none 0 0, .slice none 0 0, .slice none 0 0, .slice none 0 0] t)) {c : Addr} {v : Value} (hc : c.block = b) (hv : w.cell? c = some v) : v = .slice none 0 0 := by
  unfold World.cell? at hv
  rw [hc, h] at hv
  dsimp only at hv
  split at hv
  · cases hv
  · obtain ⟨n, hn⟩ : ∃ n, c.off = n := ⟨_, rfl⟩
    rw [hn] at hv
    match n, hv with
    | 0, hv => simpa using hv.symm
    | 1, hv => simpa using hv.symm
    | 2, hv => simpa using hv.symm
    | 3, hv => simpa using hv.symm
    | n + 4, hv => simp at hv
/-- A side holds no nil slice. -/
theorem MSide.At.keep {m : MSide} {w W : World} (h : m.At w) (hc : ∀ a v, w.cell? a = some v → v ≠ .slice none 0 0 → W.cell? a = some v) : m.At W := by
  refine ⟨⟨h.lets.cap, h.lets.few, h.lets.pos, fun j x hx => hc _ _ (h.lets.cell j x hx) (by simp)⟩, fun i r hr => ?_, fun r hr => ⟨(h.frms r hr).cap, (h.frms r hr).few, (h.frms r hr).pos, fun j x hx => hc _ _ ((h.frms r hr).cell j x hx) (by simp)⟩, h.len⟩
  obtain ⟨a, ha, h2⟩ := h.elems i r hr
  refine ⟨a, ha, fun j v hv => hc _ _ (h2 j v hv) ?_⟩
  rw [List.getElem?_map] at hr
  obtain ⟨x, _, rfl⟩ := Option.map_eq_some_iff.1 hr
  match j, hv with
  | 0, hv => simp [mrVals] at hv; rw [← hv]; simp
  | 1, hv => simp [mrVals] at hv; rw [← hv]; simp
  | 2, hv => simp [mrVals] at hv; rw [← hv]; simp
  | 3, hv => simp [mrVals] at hv; rw [← hv]; simp
  | n + 4, hv => simp [mrVals] at hv

/-- What open returns. -/
def OpenRes (t : Tab) (a : Int) (x : Str) (b : Int) (y : Str) (w : World) (e : Ending) (w' : World) : Prop := Ext w w' ∧
  ((∃ L R : MSide, sideS t a x = some L.side ∧ sideS t b y = some R.side ∧ validS t = true ∧ L.At w' ∧ R.At w' ∧ e = .returned (.tuple #[wordsVal L R, .bool true])) ∨
   (((sideS t a x).isSome && (sideS t b y).isSome && validS t) = false ∧ ∃ (g0 : Option Addr) (n0 c0 : Nat) (g1 : Option Addr) (n1 c1 : Nat) (g2 : Option Addr) (n2 c2 : Nat) (g3 : Option Addr) (n3 c3 : Nat),
      e = .returned (.tuple #[.agg #[.slice g0 n0 c0, .slice g1 n1 c1, .slice g2 n2 c2, .slice g3 n3 c3], .bool false])))

set_option maxRecDepth 100000 in
set_option maxHeartbeats 4000000 in
/-- align.open. -/
theorem open_any (A1 A2 A3 : Option Addr) (q1 q2 q3 : Nat) (t : Tab) (a : Int) (x : Str) (b : Int) (y : Str) (w : World) (ht : TabAt w A1 A2 A3 t) (hT : Tabs w) (hx : tiny x) (hy : tiny y) (hlen : t.rules.length ≤ 1000) :
    Calls Tryz.prog 14 #[tabVal A1 q1 A2 q2 A3 q3 t, .int .i64 a, .string (B x), .int .i64 b, .string (B y)] w (OpenRes t a x b y w) := by
  unfold tabVal
  have HS1 : Hid (∀ w', Ext w w' → _) := Lib.hid (fun w' hb => sideOf_gen A1 A2 A3 q1 q2 q3 t a x w' (ht.ext hb) (hT.below hb) hx hlen)
  have HS2 : Hid (∀ w', Ext w w' → _) := Lib.hid (fun w' hb => sideOf_gen A1 A2 A3 q1 q2 q3 t b y w' (ht.ext hb) (hT.below hb) hy hlen)
  have HV : Hid (∀ w', Ext w w' → Calls Tryz.prog 26 #[.agg #[.slice A1 t.rules.length q1, .slice A2 t.drops.length q2, .slice A3 t.ends.length q3, .int .i64 t.drop, .int .i64 t.order, .int .i64 t.initial]] w' fun e w'' => e = .returned (.bool (validS t)) ∧ Ext w' w'') := Lib.hid (fun w' hb => Valid_any A1 A2 A3 q1 q2 q3 t w' (ht.ext hb) (hT.below hb))
  clear ht hT hx hy
  have hx2 : ∀ o1 o2, Ext w ((w.alloc o1).alloc o2) := fun o1 o2 => (Ext.new w o1).alloc o2
  have hres : ∀ cs1 t1 cs2 t2 w1, Ext ((w.alloc (.cells cs1 t1)).alloc (.cells cs2 t2)) w1 → w1.heap[w.heap.size + 1]? = some (.cells cs2 t2) ∧ (∀ n, w1.cell? ⟨w.heap.size, n, none⟩ = cs1[n]?) ∧ (∀ o n, (w1.alloc o).cell? ⟨w.heap.size, n, none⟩ = cs1[n]?) ∧ w.heap.size + 2 ≤ w1.heap.size := fun cs1 t1 cs2 t2 w1 h => by
    refine ⟨block_ext ?_ h, (cells_new2 h).1, fun o => (cells_new2 (Ext.trans h (Ext.new w1 o))).1, by have := h.size; simp only [World.size_alloc] at this; omega⟩
    have := World.alloc_heap_new (w.alloc (.cells cs1 t1)) (.cells cs2 t2)
    rwa [World.size_alloc] at this
  have HRES := Lib.hid hres
  clear hres
  have HOK : Hid (∀ (e : Ending) (w' : World) (g0 : Option Addr) (n0 c0 : Nat) (g1 : Option Addr) (n1 c1 : Nat) (g2 : Option Addr) (n2 c2 : Nat) (g3 : Option Addr) (n3 c3 : Nat), Ext w w' → (∀ s, sideS t a x = some s → ∃ m : MSide, m.side = s ∧ m.At w' ∧ .slice g0 n0 c0 = letVal m.lg m.lc m.letters ∧ (.slice g1 n1 c1 : Value) = .slice m.A m.rules.length m.rc) → (∀ s, sideS t b y = some s → ∃ m : MSide, m.side = s ∧ m.At w' ∧ .slice g2 n2 c2 = letVal m.lg m.lc m.letters ∧ (.slice g3 n3 c3 : Value) = .slice m.A m.rules.length m.rc) →
      e = .returned (.tuple #[.agg #[.slice g0 n0 c0, .slice g1 n1 c1, .slice g2 n2 c2, .slice g3 n3 c3], .bool ((sideS t a x).isSome && (sideS t b y).isSome && validS t)]) → OpenRes t a x b y w e w') := Lib.hid (by
    intro e w' g0 n0 c0 g1 n1 c1 g2 n2 c2 g3 n3 c3 hx h1 h2 he
    refine ⟨hx, ?_⟩
    cases hb : ((sideS t a x).isSome && (sideS t b y).isSome && validS t) with
    | false => exact .inr ⟨rfl, g0, n0, c0, g1, n1, c1, g2, n2, c2, g3, n3, c3, by rw [he, hb]⟩
    | true =>
      simp only [Bool.and_eq_true] at hb
      obtain ⟨⟨b1, b2⟩, b3⟩ := hb
      obtain ⟨s1, hs1⟩ := Option.isSome_iff_exists.1 b1
      obtain ⟨s2, hs2⟩ := Option.isSome_iff_exists.1 b2
      obtain ⟨L, rfl, hL, e1, e2⟩ := h1 _ hs1
      obtain ⟨R, rfl, hR, e3, e4⟩ := h2 _ hs2
      refine .inl ⟨L, R, hs1, hs2, b3, hL, hR, ?_⟩
      rw [he, e1, e2, e3, e4, b1, b2, b3]; rfl)
  generalize hb1 : (sideS t a x).isSome = ok1 at HS1 HOK
  generalize hb2 : (sideS t b y).isSome = ok2 at HS2 HOK
  generalize hb3 : validS t = ok3 at HV HOK
  clear hb1 hb2 hb3
  go_enter Tryz.func14, Tryz.ntmps14
  go_wp2_with (first | (go_at_call 25; (with_reducible refine (HS1.out _ (hx2 _ _)).mono ?_); rintro e w1 ⟨g0, n0, c0, g1, n1, c1, rfl, hw1, hm1⟩; obtain ⟨kR1, kT1, kT2, hsz1⟩ := HRES.out _ _ _ _ _ hw1; have HM1 := Lib.hid hm1; clear hm1) | (go_at_call 25; (with_reducible refine (HS2.out _ (Ext.trans (Ext.trans (hx2 _ _) hw1) (Ext.new w1 _))).mono ?_); rintro e w2 ⟨g2, n2, c2, g3, n3, c3, rfl, hw2, hm2⟩; have HM2 := Lib.hid hm2; clear hm2))
  have hW4 : Ext w1 (w2.alloc (.cells #[.slice g2 n2 c2, .slice g3 n3 c3] 41)) := Ext.trans (Ext.trans (Ext.new w1 _) hw2) (Ext.new w2 _)
  have hW2 : Ext (w1.alloc (.cells #[.slice g0 n0 c0, .slice g1 n1 c1] 41)) (w2.alloc (.cells #[.slice g2 n2 c2, .slice g3 n3 c3] 41)) := Ext.trans hw2 (Ext.new w2 _)
  have j1 := (cells_new1 hW2).1
  have j2 := (cells_new1 (Below.refl _ (w2.alloc (.cells #[.slice g2 n2 c2, .slice g3 n3 c3] 41)))).1
  obtain ⟨kR4, kT4, _, _⟩ := HRES.out _ _ _ _ _ (Ext.trans hw1 hW4)
  have hx4 := Ext.trans (Ext.trans (hx2 _ _) hw1) hW4
  have hW24 := Ext.new w2 (.cells #[.slice g2 n2 c2, .slice g3 n3 c3] 41)
  generalize w2.alloc (.cells #[.slice g2 n2 c2, .slice g3 n3 c3] 41) = W4 at *
  have hd : Ext w W4.drew := ⟨hx4.os, hx4.tape, hx4.output, hx4.size, hx4.block⟩
  have h14 : Ext w1 W4.drew := ⟨hW4.os, hW4.tape, hW4.output, hW4.size, hW4.block⟩
  have h24 : Ext w2 W4.drew := ⟨hW24.os, hW24.tape, hW24.output, hW24.size, hW24.block⟩
  have kRd : W4.drew.heap[w.heap.size + 1]? = some (.cells #[.slice none 0 0, .slice none 0 0, .slice none 0 0, .slice none 0 0] 43) := kR4
  have z0 := cell_of kR4 0
  have z1 := cell_of kR4 1
  have z2 := cell_of kR4 2
  have z3 := cell_of kR4 3
  have y0 := frozen_of kR4 0
  have y1 := frozen_of kR4 1
  have y2 := frozen_of kR4 2
  have y3 := frozen_of kR4 3
  have hnn1 : w.heap.size + 1 ≠ w1.heap.size := by omega
  have hnn2 : w.heap.size + 1 ≠ w2.heap.size := by have := hw2.size; simp only [World.size_alloc] at this; omega
  have hHeld : (fun w' : World => w'.cell? ⟨w1.heap.size, 0, none⟩ = some (.slice g0 n0 c0) ∧ w'.cell? ⟨w1.heap.size, 1, none⟩ = some (.slice g1 n1 c1) ∧ w'.cell? ⟨w2.heap.size, 0, none⟩ = some (.slice g2 n2 c2) ∧ w'.cell? ⟨w2.heap.size, 1, none⟩ = some (.slice g3 n3 c3) ∧ w'.cell? ⟨w.heap.size, 0, none⟩ = some (.slice A1 t.rules.length q1) ∧ w'.cell? ⟨w.heap.size, 1, none⟩ = some (.slice A2 t.drops.length q2) ∧ w'.cell? ⟨w.heap.size, 2, none⟩ = some (.slice A3 t.ends.length q3) ∧ w'.cell? ⟨w.heap.size, 3, none⟩ = some (.int .i64 t.drop) ∧ w'.cell? ⟨w.heap.size, 4, none⟩ = some (.int .i64 t.order) ∧ w'.cell? ⟨w.heap.size, 5, none⟩ = some (.int .i64 t.initial)) W4.drew := ⟨j1 0, j1 1, j2 0, j2 1, kT4 0, kT4 1, kT4 2, kT4 3, kT4 4, kT4 5⟩
  obtain ⟨r0, r1, r2, r3, r4, r5, r6, r7, r8, r9⟩ : (fun w' : World => w'.cell? ⟨w1.heap.size, 0, none⟩ = some (.slice g0 n0 c0) ∧ w'.cell? ⟨w1.heap.size, 1, none⟩ = some (.slice g1 n1 c1) ∧ w'.cell? ⟨w2.heap.size, 0, none⟩ = some (.slice g2 n2 c2) ∧ w'.cell? ⟨w2.heap.size, 1, none⟩ = some (.slice g3 n3 c3) ∧ w'.cell? ⟨w.heap.size, 0, none⟩ = some (.slice A1 t.rules.length q1) ∧ w'.cell? ⟨w.heap.size, 1, none⟩ = some (.slice A2 t.drops.length q2) ∧ w'.cell? ⟨w.heap.size, 2, none⟩ = some (.slice A3 t.ends.length q3) ∧ w'.cell? ⟨w.heap.size, 3, none⟩ = some (.int .i64 t.drop) ∧ w'.cell? ⟨w.heap.size, 4, none⟩ = some (.int .i64 t.order) ∧ w'.cell? ⟨w.heap.size, 5, none⟩ = some (.int .i64 t.initial)) W4 := ⟨j1 0, j1 1, j2 0, j2 1, kT4 0, kT4 1, kT4 2, kT4 3, kT4 4, kT4 5⟩
  have HBK : Hid (∀ w5, Ext W4.drew w5 → (fun w' : World => w'.cell? ⟨w1.heap.size, 0, none⟩ = some (.slice g0 n0 c0) ∧ w'.cell? ⟨w1.heap.size, 1, none⟩ = some (.slice g1 n1 c1) ∧ w'.cell? ⟨w2.heap.size, 0, none⟩ = some (.slice g2 n2 c2) ∧ w'.cell? ⟨w2.heap.size, 1, none⟩ = some (.slice g3 n3 c3) ∧ w'.cell? ⟨w.heap.size, 0, none⟩ = some (.slice A1 t.rules.length q1) ∧ w'.cell? ⟨w.heap.size, 1, none⟩ = some (.slice A2 t.drops.length q2) ∧ w'.cell? ⟨w.heap.size, 2, none⟩ = some (.slice A3 t.ends.length q3) ∧ w'.cell? ⟨w.heap.size, 3, none⟩ = some (.int .i64 t.drop) ∧ w'.cell? ⟨w.heap.size, 4, none⟩ = some (.int .i64 t.order) ∧ w'.cell? ⟨w.heap.size, 5, none⟩ = some (.int .i64 t.initial)) w5) := Lib.hid (fun w5 hb => by
    obtain ⟨r0, r1, r2, r3, r4, r5, r6, r7, r8, r9⟩ := hHeld
    have hc := Cells.of_ext hb
    exact ⟨hc _ _ r0, hc _ _ r1, hc _ _ r2, hc _ _ r3, hc _ _ r4, hc _ _ r5, hc _ _ r6, hc _ _ r7, hc _ _ r8, hc _ _ r9⟩)
  have HFIN : Hid (∀ bb, (bb = (ok1 && ok2 && ok3)) → ∀ w5, Ext W4.drew w5 → OpenRes t a x b y w (.returned (.tuple #[.agg #[.slice g0 n0 c0, .slice g1 n1 c1, .slice g2 n2 c2, .slice g3 n3 c3], .bool bb])) ((((w5.setCell ⟨w.heap.size + 1, 0, none⟩ (.slice g0 n0 c0)).setCell ⟨w.heap.size + 1, 1, none⟩ (.slice g1 n1 c1)).setCell ⟨w.heap.size + 1, 2, none⟩ (.slice g2 n2 c2)).setCell ⟨w.heap.size + 1, 3, none⟩ (.slice g3 n3 c3))) := Lib.hid (by
    rintro bb rfl w5 hb
    have e5 := Ext.trans hd hb
    have hm : Ext w ((((w5.setCell ⟨w.heap.size + 1, 0, none⟩ (.slice g0 n0 c0)).setCell ⟨w.heap.size + 1, 1, none⟩ (.slice g1 n1 c1)).setCell ⟨w.heap.size + 1, 2, none⟩ (.slice g2 n2 c2)).setCell ⟨w.heap.size + 1, 3, none⟩ (.slice g3 n3 c3)) := (((e5.set (by omega) _).set (by omega) _).set (by omega) _).set (by omega) _
    have kN := block_ext kRd hb
    have hkp : ∀ (c : Addr) (v : Value), w5.cell? c = some v → v ≠ .slice none 0 0 → ((((w5.setCell ⟨w.heap.size + 1, 0, none⟩ (.slice g0 n0 c0)).setCell ⟨w.heap.size + 1, 1, none⟩ (.slice g1 n1 c1)).setCell ⟨w.heap.size + 1, 2, none⟩ (.slice g2 n2 c2)).setCell ⟨w.heap.size + 1, 3, none⟩ (.slice g3 n3 c3)).cell? c = some v := fun c v hc hv => by
      have hne : w.heap.size + 1 ≠ c.block := fun h => hv (nil_of_block kN h.symm hc)
      rw [World.cell?_setCell_far _ _ _ _ hne, World.cell?_setCell_far _ _ _ _ hne, World.cell?_setCell_far _ _ _ _ hne, World.cell?_setCell_far _ _ _ _ hne]
      exact hc
    refine HOK.out _ _ g0 n0 c0 g1 n1 c1 g2 n2 c2 g3 n3 c3 hm (fun s hs => ?_) (fun s hs => ?_) rfl
    · obtain ⟨m, h1, h2, h3, h4⟩ := HM1.out s hs
      exact ⟨m, h1, h2.keep (fun c v hc hv => hkp c v (Cells.of_ext (Ext.trans h14 hb) c v hc) hv), h3, h4⟩
    · obtain ⟨m, h1, h2, h3, h4⟩ := HM2.out s hs
      exact ⟨m, h1, h2.keep (fun c v hc hv => hkp c v (Cells.of_ext (Ext.trans h24 hb) c v hc) hv), h3, h4⟩)
  refine wp_region_held_drew (S := (fun w' : World => w'.cell? ⟨w1.heap.size, 0, none⟩ = some (.slice g0 n0 c0) ∧ w'.cell? ⟨w1.heap.size, 1, none⟩ = some (.slice g1 n1 c1) ∧ w'.cell? ⟨w2.heap.size, 0, none⟩ = some (.slice g2 n2 c2) ∧ w'.cell? ⟨w2.heap.size, 1, none⟩ = some (.slice g3 n3 c3) ∧ w'.cell? ⟨w.heap.size, 0, none⟩ = some (.slice A1 t.rules.length q1) ∧ w'.cell? ⟨w.heap.size, 1, none⟩ = some (.slice A2 t.drops.length q2) ∧ w'.cell? ⟨w.heap.size, 2, none⟩ = some (.slice A3 t.ends.length q3) ∧ w'.cell? ⟨w.heap.size, 3, none⟩ = some (.int .i64 t.drop) ∧ w'.cell? ⟨w.heap.size, 4, none⟩ = some (.int .i64 t.order) ∧ w'.cell? ⟨w.heap.size, 5, none⟩ = some (.int .i64 t.initial))) Tryz.mixed hHeld ?_
  intro _
  clear hW4 hW2 kT4 hx4 j1 j2
  cases ok1
  case false =>
    refine wpAnyH_take (i := 0) (v := ?_) rfl (by kernel_rfl) (by kernel_rfl) (by kernel_rfl) (fun _ _ _ h => h) (Or.inl ⟨by rfl, ?_⟩) (by assumption) ?_
    rotate_left
    · (intro w hSw; (try dsimp only at hSw); go_split_ands; go_simp; first | done | with_reducible rfl)
    simp only [List.getElem_toArray, List.getElem_cons_succ, List.getElem_cons_zero, Act.put, List.setIfInBounds_toArray, List.set_cons_zero, List.set_cons_succ]
    refine wpAnyH_take (i := 1) (v := ?_) rfl (by kernel_rfl) (by kernel_rfl) (by kernel_rfl) (fun _ _ _ h => h) (Or.inl ⟨by rfl, ?_⟩) (by assumption) ?_
    rotate_left
    · (intro w hSw; (try dsimp only at hSw); go_split_ands; go_simp; first | done | with_reducible rfl)
    simp only [List.getElem_toArray, List.getElem_cons_succ, List.getElem_cons_zero, Act.put, List.setIfInBounds_toArray, List.set_cons_zero, List.set_cons_succ]
    refine wpAnyH_take (i := 2) (v := ?_) rfl (by kernel_rfl) (by kernel_rfl) (by kernel_rfl) (fun _ _ _ h => h) (Or.inl ⟨by rfl, ?_⟩) (by assumption) ?_
    rotate_left
    · (intro w hSw; (try dsimp only at hSw); go_split_ands; go_simp; first | done | with_reducible rfl)
    simp only [List.getElem_toArray, List.getElem_cons_succ, List.getElem_cons_zero, Act.put, List.setIfInBounds_toArray, List.set_cons_zero, List.set_cons_succ]
    refine wpAnyH_take (i := 3) (v := ?_) rfl (by kernel_rfl) (by kernel_rfl) (by kernel_rfl) (fun _ _ _ h => h) (Or.inl ⟨by rfl, ?_⟩) (by assumption) ?_
    rotate_left
    · (intro w hSw; (try dsimp only at hSw); go_split_ands; go_simp; first | done | with_reducible rfl)
    simp only [List.getElem_toArray, List.getElem_cons_succ, List.getElem_cons_zero, Act.put, List.setIfInBounds_toArray, List.set_cons_zero, List.set_cons_succ]
    refine wpAnyH_take (i := 4) (v := ?_) rfl (by kernel_rfl) (by kernel_rfl) (by kernel_rfl) (fun _ _ _ h => h) (Or.inl ⟨by rfl, ?_⟩) (by assumption) ?_
    rotate_left
    · (intro w hSw; (try dsimp only at hSw); go_split_ands; go_simp; first | done | with_reducible rfl)
    simp only [List.getElem_toArray, List.getElem_cons_succ, List.getElem_cons_zero, Act.put, List.setIfInBounds_toArray, List.set_cons_zero, List.set_cons_succ]
    refine wpAnyH_take (i := 5) (v := undef) rfl (by kernel_rfl) (by kernel_rfl) (by kernel_rfl) (fun _ _ _ h => h) (Or.inr ⟨by kernel_rfl, rfl⟩) (by assumption) ?_
    simp only [List.getElem_toArray, List.getElem_cons_succ, List.getElem_cons_zero, Act.put, List.setIfInBounds_toArray, List.set_cons_zero, List.set_cons_succ]
    refine wpAnyH_take (i := 6) (v := ?_) rfl (by kernel_rfl) (by kernel_rfl) (by kernel_rfl) (fun _ _ _ h => h) (Or.inl ⟨by rfl, ?_⟩) (by assumption) ?_
    rotate_left
    · (intro w hSw; (try dsimp only at hSw); go_split_ands; go_simp; first | done | with_reducible rfl)
    simp only [List.getElem_toArray, List.getElem_cons_succ, List.getElem_cons_zero, Act.put, List.setIfInBounds_toArray, List.set_cons_zero, List.set_cons_succ]
    refine wpAnyH_take (i := 7) (v := ?_) rfl (by kernel_rfl) (by kernel_rfl) (by kernel_rfl) (fun _ _ _ h => h) (Or.inl ⟨by rfl, ?_⟩) (by assumption) ?_
    rotate_left
    · (intro w hSw; (try dsimp only at hSw); go_split_ands; go_simp; first | done | with_reducible rfl)
    simp only [List.getElem_toArray, List.getElem_cons_succ, List.getElem_cons_zero, Act.put, List.setIfInBounds_toArray, List.set_cons_zero, List.set_cons_succ]
    refine wpAnyH_take (i := 8) (v := undef) rfl (by kernel_rfl) (by kernel_rfl) (by kernel_rfl) (fun _ _ _ h => h) (Or.inr ⟨by kernel_rfl, rfl⟩) (by assumption) ?_
    simp only [List.getElem_toArray, List.getElem_cons_succ, List.getElem_cons_zero, Act.put, List.setIfInBounds_toArray, List.set_cons_zero, List.set_cons_succ]
    refine wpAnyH_take (i := 9) (v := undef) rfl (by kernel_rfl) (by kernel_rfl) (by kernel_rfl) (fun _ _ _ h => h) (Or.inr ⟨by kernel_rfl, rfl⟩) (by assumption) ?_
    simp only [List.getElem_toArray, List.getElem_cons_succ, List.getElem_cons_zero, Act.put, List.setIfInBounds_toArray, List.set_cons_zero, List.set_cons_succ]
    refine wpAnyH_take (i := 10) (v := ?_) rfl (by kernel_rfl) (by kernel_rfl) (by kernel_rfl) (fun _ _ _ h => h) (Or.inl ⟨by rfl, ?_⟩) (by assumption) ?_
    rotate_left
    · (intro w hSw; (try dsimp only at hSw); go_split_ands; go_simp; first | done | with_reducible rfl)
    simp only [List.getElem_toArray, List.getElem_cons_succ, List.getElem_cons_zero, Act.put, List.setIfInBounds_toArray, List.set_cons_zero, List.set_cons_succ]
    refine wpAnyH_ready (rs := [11]) (by kernel_rfl) (by simp) ?_
    refine AllReadyH.cons rfl (fun K hK => ?_) ?_
    · go_simp
      refine hK.out _ _ ?_ (fun hHeld => ?_)
      · first | go_keep | exact HBK.out _ hb5
      clear hK K
      refine wpAnyH_take (i := 12) (v := ?_) rfl (by kernel_rfl) (by kernel_rfl) (by kernel_rfl) (fun _ _ _ h => h) (Or.inl ⟨by rfl, ?_⟩) (by assumption) ?_
      rotate_left
      · (intro w hSw; (try dsimp only at hSw); go_split_ands; go_simp; first | done | with_reducible rfl)
      simp only [List.getElem_toArray, List.getElem_cons_succ, List.getElem_cons_zero, Act.put, List.setIfInBounds_toArray, List.set_cons_zero, List.set_cons_succ]
      refine wpAnyH_done (by kernel_rfl) ?_ _
      go_wp2
      have kF := block_set (block_set (block_set (block_set kR4 0 (.slice g0 n0 c0)) 1 (.slice g1 n1 c1)) 2 (.slice g2 n2 c2)) 3 (.slice g3 n3 c3)
      have m0 := cell_of kF 0
      have m1 := cell_of kF 1
      have m2 := cell_of kF 2
      have m3 := cell_of kF 3
      refine bodyPost_ret (v := .tuple #[.agg #[.slice g0 n0 c0, .slice g1 n1 c1, .slice g2 n2 c2, .slice g3 n3 c3], .bool (false)]) (by simp [results, Tryz.results14, go_sem, m0, m1, m2, m3]) rfl ?_
      exact HFIN.out _ rfl _ (Below.refl _ _)
    exact AllReadyH.nil
  case true =>
    cases ok2
    case false =>
      refine wpAnyH_take (i := 0) (v := ?_) rfl (by kernel_rfl) (by kernel_rfl) (by kernel_rfl) (fun _ _ _ h => h) (Or.inl ⟨by rfl, ?_⟩) (by assumption) ?_
      rotate_left
      · (intro w hSw; (try dsimp only at hSw); go_split_ands; go_simp; first | done | with_reducible rfl)
      simp only [List.getElem_toArray, List.getElem_cons_succ, List.getElem_cons_zero, Act.put, List.setIfInBounds_toArray, List.set_cons_zero, List.set_cons_succ]
      refine wpAnyH_take (i := 1) (v := ?_) rfl (by kernel_rfl) (by kernel_rfl) (by kernel_rfl) (fun _ _ _ h => h) (Or.inl ⟨by rfl, ?_⟩) (by assumption) ?_
      rotate_left
      · (intro w hSw; (try dsimp only at hSw); go_split_ands; go_simp; first | done | with_reducible rfl)
      simp only [List.getElem_toArray, List.getElem_cons_succ, List.getElem_cons_zero, Act.put, List.setIfInBounds_toArray, List.set_cons_zero, List.set_cons_succ]
      refine wpAnyH_take (i := 2) (v := ?_) rfl (by kernel_rfl) (by kernel_rfl) (by kernel_rfl) (fun _ _ _ h => h) (Or.inl ⟨by rfl, ?_⟩) (by assumption) ?_
      rotate_left
      · (intro w hSw; (try dsimp only at hSw); go_split_ands; go_simp; first | done | with_reducible rfl)
      simp only [List.getElem_toArray, List.getElem_cons_succ, List.getElem_cons_zero, Act.put, List.setIfInBounds_toArray, List.set_cons_zero, List.set_cons_succ]
      refine wpAnyH_take (i := 3) (v := ?_) rfl (by kernel_rfl) (by kernel_rfl) (by kernel_rfl) (fun _ _ _ h => h) (Or.inl ⟨by rfl, ?_⟩) (by assumption) ?_
      rotate_left
      · (intro w hSw; (try dsimp only at hSw); go_split_ands; go_simp; first | done | with_reducible rfl)
      simp only [List.getElem_toArray, List.getElem_cons_succ, List.getElem_cons_zero, Act.put, List.setIfInBounds_toArray, List.set_cons_zero, List.set_cons_succ]
      refine wpAnyH_take (i := 4) (v := ?_) rfl (by kernel_rfl) (by kernel_rfl) (by kernel_rfl) (fun _ _ _ h => h) (Or.inl ⟨by rfl, ?_⟩) (by assumption) ?_
      rotate_left
      · (intro w hSw; (try dsimp only at hSw); go_split_ands; go_simp; first | done | with_reducible rfl)
      simp only [List.getElem_toArray, List.getElem_cons_succ, List.getElem_cons_zero, Act.put, List.setIfInBounds_toArray, List.set_cons_zero, List.set_cons_succ]
      refine wpAnyH_take (i := 5) (v := ?_) rfl (by kernel_rfl) (by kernel_rfl) (by kernel_rfl) (fun _ _ _ h => h) (Or.inl ⟨by rfl, ?_⟩) (by assumption) ?_
      rotate_left
      · (intro w hSw; (try dsimp only at hSw); go_split_ands; go_simp; first | done | with_reducible rfl)
      simp only [List.getElem_toArray, List.getElem_cons_succ, List.getElem_cons_zero, Act.put, List.setIfInBounds_toArray, List.set_cons_zero, List.set_cons_succ]
      refine wpAnyH_take (i := 6) (v := ?_) rfl (by kernel_rfl) (by kernel_rfl) (by kernel_rfl) (fun _ _ _ h => h) (Or.inl ⟨by rfl, ?_⟩) (by assumption) ?_
      rotate_left
      · (intro w hSw; (try dsimp only at hSw); go_split_ands; go_simp; first | done | with_reducible rfl)
      simp only [List.getElem_toArray, List.getElem_cons_succ, List.getElem_cons_zero, Act.put, List.setIfInBounds_toArray, List.set_cons_zero, List.set_cons_succ]
      refine wpAnyH_take (i := 7) (v := ?_) rfl (by kernel_rfl) (by kernel_rfl) (by kernel_rfl) (fun _ _ _ h => h) (Or.inl ⟨by rfl, ?_⟩) (by assumption) ?_
      rotate_left
      · (intro w hSw; (try dsimp only at hSw); go_split_ands; go_simp; first | done | with_reducible rfl)
      simp only [List.getElem_toArray, List.getElem_cons_succ, List.getElem_cons_zero, Act.put, List.setIfInBounds_toArray, List.set_cons_zero, List.set_cons_succ]
      refine wpAnyH_take (i := 8) (v := undef) rfl (by kernel_rfl) (by kernel_rfl) (by kernel_rfl) (fun _ _ _ h => h) (Or.inr ⟨by kernel_rfl, rfl⟩) (by assumption) ?_
      simp only [List.getElem_toArray, List.getElem_cons_succ, List.getElem_cons_zero, Act.put, List.setIfInBounds_toArray, List.set_cons_zero, List.set_cons_succ]
      refine wpAnyH_take (i := 9) (v := undef) rfl (by kernel_rfl) (by kernel_rfl) (by kernel_rfl) (fun _ _ _ h => h) (Or.inr ⟨by kernel_rfl, rfl⟩) (by assumption) ?_
      simp only [List.getElem_toArray, List.getElem_cons_succ, List.getElem_cons_zero, Act.put, List.setIfInBounds_toArray, List.set_cons_zero, List.set_cons_succ]
      refine wpAnyH_take (i := 10) (v := ?_) rfl (by kernel_rfl) (by kernel_rfl) (by kernel_rfl) (fun _ _ _ h => h) (Or.inl ⟨by rfl, ?_⟩) (by assumption) ?_
      rotate_left
      · (intro w hSw; (try dsimp only at hSw); go_split_ands; go_simp; first | done | with_reducible rfl)
      simp only [List.getElem_toArray, List.getElem_cons_succ, List.getElem_cons_zero, Act.put, List.setIfInBounds_toArray, List.set_cons_zero, List.set_cons_succ]
      refine wpAnyH_ready (rs := [11]) (by kernel_rfl) (by simp) ?_
      refine AllReadyH.cons rfl (fun K hK => ?_) ?_
      · go_simp
        refine hK.out _ _ ?_ (fun hHeld => ?_)
        · first | go_keep | exact HBK.out _ hb5
        clear hK K
        refine wpAnyH_take (i := 12) (v := ?_) rfl (by kernel_rfl) (by kernel_rfl) (by kernel_rfl) (fun _ _ _ h => h) (Or.inl ⟨by rfl, ?_⟩) (by assumption) ?_
        rotate_left
        · (intro w hSw; (try dsimp only at hSw); go_split_ands; go_simp; first | done | with_reducible rfl)
        simp only [List.getElem_toArray, List.getElem_cons_succ, List.getElem_cons_zero, Act.put, List.setIfInBounds_toArray, List.set_cons_zero, List.set_cons_succ]
        refine wpAnyH_done (by kernel_rfl) ?_ _
        go_wp2
        have kF := block_set (block_set (block_set (block_set kR4 0 (.slice g0 n0 c0)) 1 (.slice g1 n1 c1)) 2 (.slice g2 n2 c2)) 3 (.slice g3 n3 c3)
        have m0 := cell_of kF 0
        have m1 := cell_of kF 1
        have m2 := cell_of kF 2
        have m3 := cell_of kF 3
        refine bodyPost_ret (v := .tuple #[.agg #[.slice g0 n0 c0, .slice g1 n1 c1, .slice g2 n2 c2, .slice g3 n3 c3], .bool (false)]) (by simp [results, Tryz.results14, go_sem, m0, m1, m2, m3]) rfl ?_
        exact HFIN.out _ rfl _ (Below.refl _ _)
      exact AllReadyH.nil
    case true =>
      refine wpAnyH_take (i := 0) (v := ?_) rfl (by kernel_rfl) (by kernel_rfl) (by kernel_rfl) (fun _ _ _ h => h) (Or.inl ⟨by rfl, ?_⟩) (by assumption) ?_
      rotate_left
      · (intro w hSw; (try dsimp only at hSw); go_split_ands; go_simp; first | done | with_reducible rfl)
      simp only [List.getElem_toArray, List.getElem_cons_succ, List.getElem_cons_zero, Act.put, List.setIfInBounds_toArray, List.set_cons_zero, List.set_cons_succ]
      refine wpAnyH_take (i := 1) (v := ?_) rfl (by kernel_rfl) (by kernel_rfl) (by kernel_rfl) (fun _ _ _ h => h) (Or.inl ⟨by rfl, ?_⟩) (by assumption) ?_
      rotate_left
      · (intro w hSw; (try dsimp only at hSw); go_split_ands; go_simp; first | done | with_reducible rfl)
      simp only [List.getElem_toArray, List.getElem_cons_succ, List.getElem_cons_zero, Act.put, List.setIfInBounds_toArray, List.set_cons_zero, List.set_cons_succ]
      refine wpAnyH_take (i := 2) (v := ?_) rfl (by kernel_rfl) (by kernel_rfl) (by kernel_rfl) (fun _ _ _ h => h) (Or.inl ⟨by rfl, ?_⟩) (by assumption) ?_
      rotate_left
      · (intro w hSw; (try dsimp only at hSw); go_split_ands; go_simp; first | done | with_reducible rfl)
      simp only [List.getElem_toArray, List.getElem_cons_succ, List.getElem_cons_zero, Act.put, List.setIfInBounds_toArray, List.set_cons_zero, List.set_cons_succ]
      refine wpAnyH_take (i := 3) (v := ?_) rfl (by kernel_rfl) (by kernel_rfl) (by kernel_rfl) (fun _ _ _ h => h) (Or.inl ⟨by rfl, ?_⟩) (by assumption) ?_
      rotate_left
      · (intro w hSw; (try dsimp only at hSw); go_split_ands; go_simp; first | done | with_reducible rfl)
      simp only [List.getElem_toArray, List.getElem_cons_succ, List.getElem_cons_zero, Act.put, List.setIfInBounds_toArray, List.set_cons_zero, List.set_cons_succ]
      refine wpAnyH_take (i := 4) (v := ?_) rfl (by kernel_rfl) (by kernel_rfl) (by kernel_rfl) (fun _ _ _ h => h) (Or.inl ⟨by rfl, ?_⟩) (by assumption) ?_
      rotate_left
      · (intro w hSw; (try dsimp only at hSw); go_split_ands; go_simp; first | done | with_reducible rfl)
      simp only [List.getElem_toArray, List.getElem_cons_succ, List.getElem_cons_zero, Act.put, List.setIfInBounds_toArray, List.set_cons_zero, List.set_cons_succ]
      refine wpAnyH_take (i := 5) (v := ?_) rfl (by kernel_rfl) (by kernel_rfl) (by kernel_rfl) (fun _ _ _ h => h) (Or.inl ⟨by rfl, ?_⟩) (by assumption) ?_
      rotate_left
      · (intro w hSw; (try dsimp only at hSw); go_split_ands; go_simp; first | done | with_reducible rfl)
      simp only [List.getElem_toArray, List.getElem_cons_succ, List.getElem_cons_zero, Act.put, List.setIfInBounds_toArray, List.set_cons_zero, List.set_cons_succ]
      refine wpAnyH_take (i := 6) (v := ?_) rfl (by kernel_rfl) (by kernel_rfl) (by kernel_rfl) (fun _ _ _ h => h) (Or.inl ⟨by rfl, ?_⟩) (by assumption) ?_
      rotate_left
      · (intro w hSw; (try dsimp only at hSw); go_split_ands; go_simp; first | done | with_reducible rfl)
      simp only [List.getElem_toArray, List.getElem_cons_succ, List.getElem_cons_zero, Act.put, List.setIfInBounds_toArray, List.set_cons_zero, List.set_cons_succ]
      refine wpAnyH_take (i := 7) (v := ?_) rfl (by kernel_rfl) (by kernel_rfl) (by kernel_rfl) (fun _ _ _ h => h) (Or.inl ⟨by rfl, ?_⟩) (by assumption) ?_
      rotate_left
      · (intro w hSw; (try dsimp only at hSw); go_split_ands; go_simp; first | done | with_reducible rfl)
      simp only [List.getElem_toArray, List.getElem_cons_succ, List.getElem_cons_zero, Act.put, List.setIfInBounds_toArray, List.set_cons_zero, List.set_cons_succ]
      refine wpAnyH_take (i := 8) (v := ?_) rfl (by kernel_rfl) (by kernel_rfl) (by kernel_rfl) (fun _ _ _ h => h) (Or.inl ⟨by rfl, ?_⟩) (by assumption) ?_
      rotate_left
      · (intro w hSw; (try dsimp only at hSw); go_split_ands; go_simp; first | done | with_reducible rfl)
      simp only [List.getElem_toArray, List.getElem_cons_succ, List.getElem_cons_zero, Act.put, List.setIfInBounds_toArray, List.set_cons_zero, List.set_cons_succ]
      refine wpAnyH_ready (rs := [9]) (by kernel_rfl) (by simp) ?_
      refine AllReadyH.cons rfl (fun K hK => ?_) ?_
      · (go_simp; (with_reducible refine (HV.out _ hd).mono ?_); rintro e w5 ⟨rfl, hb5⟩; have kR5 := block_ext kRd hb5; have z0 := cell_of kR5 0; have z1 := cell_of kR5 1; have z2 := cell_of kR5 2; have z3 := cell_of kR5 3; have y0 := frozen_of kR5 0; have y1 := frozen_of kR5 1; have y2 := frozen_of kR5 2; have y3 := frozen_of kR5 3)
        refine hK.out _ _ ?_ (fun hHeld => ?_)
        · first | go_keep | exact HBK.out _ hb5
        clear hK K
        refine wpAnyH_take (i := 10) (v := ?_) rfl (by kernel_rfl) (by kernel_rfl) (by kernel_rfl) (fun _ _ _ h => h) (Or.inl ⟨by rfl, ?_⟩) (by assumption) ?_
        rotate_left
        · (intro w hSw; (try dsimp only at hSw); go_split_ands; go_simp; first | done | with_reducible rfl)
        simp only [List.getElem_toArray, List.getElem_cons_succ, List.getElem_cons_zero, Act.put, List.setIfInBounds_toArray, List.set_cons_zero, List.set_cons_succ]
        refine wpAnyH_ready (rs := [11]) (by kernel_rfl) (by simp) ?_
        refine AllReadyH.cons rfl (fun K hK => ?_) ?_
        · go_simp
          refine hK.out _ _ ?_ (fun hHeld => ?_)
          · first | go_keep | exact HBK.out _ hb5
          clear hK K
          refine wpAnyH_take (i := 12) (v := ?_) rfl (by kernel_rfl) (by kernel_rfl) (by kernel_rfl) (fun _ _ _ h => h) (Or.inl ⟨by rfl, ?_⟩) (by assumption) ?_
          rotate_left
          · (intro w hSw; (try dsimp only at hSw); go_split_ands; go_simp; first | done | with_reducible rfl)
          simp only [List.getElem_toArray, List.getElem_cons_succ, List.getElem_cons_zero, Act.put, List.setIfInBounds_toArray, List.set_cons_zero, List.set_cons_succ]
          refine wpAnyH_done (by kernel_rfl) ?_ _
          go_wp2
          have kF := block_set (block_set (block_set (block_set kR5 0 (.slice g0 n0 c0)) 1 (.slice g1 n1 c1)) 2 (.slice g2 n2 c2)) 3 (.slice g3 n3 c3)
          have m0 := cell_of kF 0
          have m1 := cell_of kF 1
          have m2 := cell_of kF 2
          have m3 := cell_of kF 3
          refine bodyPost_ret (v := .tuple #[.agg #[.slice g0 n0 c0, .slice g1 n1 c1, .slice g2 n2 c2, .slice g3 n3 c3], .bool (ok3)]) (by simp [results, Tryz.results14, go_sem, m0, m1, m2, m3]) rfl ?_
          exact HFIN.out _ (by simp) _ hb5
        exact AllReadyH.nil
      exact AllReadyH.nil
end Go.Proofs.YtkkbkhcapogobaaGreatDoor
