/- Contracts: align.Best. -/
import Derived.Test.YtkkbkhcapogobaaGreatDoorE7
import Derived.Sort.LoopGhostIn
namespace Go.Proofs.YtkkbkhcapogobaaGreatDoor
open Go Go.RowKit Go.Lib Go.Proofs S Go.Shelf Go.Maps Go.WideMaps
set_option linter.unusedVariables false
set_option linter.unusedSimpArgs false
attribute [local go_sem] Oper.semAt_some

/-- What Best returns. -/
def BestRes (D : Der × Int) (w : World) (e : Ending) (w' : World) : Prop := Ext w w' ∧ (D.1.left.length ≤ 24 ∧ D.1.right.length ≤ 24) ∧ ∃ (A4 : Option Addr) (q4 : Nat) (A5 : Option Addr) (q5 : Nat),
  e = .returned (.tuple #[derVal D.1.cost A4 D.1.left.length q4 A5 D.1.right.length q5 D.1.form, .int .i64 D.2]) ∧ ElemsAt w' A4 1 (D.1.left.map (fun i => [Value.int .i64 i])) ∧ ElemsAt w' A5 1 (D.1.right.map (fun i => [Value.int .i64 i]))
theorem BestRes.zero {w w' : World} (e : Int) (h : Ext w w') : BestRes (Der.zero, e) w (.returned (.tuple #[.agg #[.int .i64 0, .slice none 0 0, .slice none 0 0, .string ⟨#[]⟩], .int .i64 e])) w' :=
  ⟨h, by simp [Der.zero], none, 0, none, 0, rfl, fun i r hr => by simp [Der.zero] at hr, fun i r hr => by simp [Der.zero] at hr⟩

set_option maxRecDepth 100000 in
set_option maxHeartbeats 4000000 in
/-- align.Best. -/
theorem Best_any (A1 A2 A3 : Option Addr) (q1 q2 q3 : Nat) (t : Tab) (a : Int) (x : Str) (b : Int) (y : Str) (w : World) (ht : TabAt w A1 A2 A3 t) (hT : Tabs w) (hx : tiny x) (hy : tiny y) (hlen : t.rules.length ≤ 1000) :
    Calls Tryz.prog 6 #[tabVal A1 q1 A2 q2 A3 q3 t, .int .i64 a, .string (B x), .int .i64 b, .string (B y)] w (BestRes (bestS t a x b y) w) := by
  have HO : Hid (∀ w', Ext w w' → Calls Tryz.prog 14 #[tabVal A1 q1 A2 q2 A3 q3 t, .int .i64 a, .string (B x), .int .i64 b, .string (B y)] w' (OpenRes t a x b y w')) := Lib.hid (fun w' hb => open_any A1 A2 A3 q1 q2 q3 t a x b y w' (ht.ext hb) (hT.below hb) hx hy hlen)
  clear ht hT hx hy
  unfold tabVal at HO ⊢
  replace HO : Hid (∀ w', Ext w w' → Calls Tryz.prog 14 #[.agg #[.slice A1 t.rules.length q1, .slice A2 t.drops.length q2, .slice A3 t.ends.length q3, .int .i64 t.drop, .int .i64 t.order, .int .i64 t.initial], .int .i64 a, .string (B x), .int .i64 b, .string (B y)] w' fun e w'' => Ext w' w'' ∧ ((∃ L R : MSide, sideS t a x = some L.side ∧ sideS t b y = some R.side ∧ validS t = true ∧ L.At w'' ∧ R.At w'' ∧ e = .returned (.tuple #[.agg #[letVal L.lg L.lc L.letters, .slice L.A L.rules.length L.rc, letVal R.lg R.lc R.letters, .slice R.A R.rules.length R.rc], .bool true])) ∨
   (((sideS t a x).isSome && (sideS t b y).isSome && validS t) = false ∧ ∃ (g0 : Option Addr) (n0 c0 : Nat) (g1 : Option Addr) (n1 c1 : Nat) (g2 : Option Addr) (n2 c2 : Nat) (g3 : Option Addr) (n3 c3 : Nat),
      e = .returned (.tuple #[.agg #[.slice g0 n0 c0, .slice g1 n1 c1, .slice g2 n2 c2, .slice g3 n3 c3], .bool false])))) := Lib.hid (fun w' hb => HO.out w' hb)
  have hx2 : ∀ o1 o2, Ext w ((w.alloc o1).alloc o2) := fun o1 o2 => (Ext.new w o1).alloc o2
  have HX2 := Lib.hid hx2
  have hbx : ∀ cs1 t1 cs2 t2 w1, Ext ((w.alloc (.cells cs1 t1)).alloc (.cells cs2 t2)) w1 → w1.heap[w.heap.size + 1]? = some (.cells cs2 t2) ∧ Ext w w1 ∧ w.heap.size + 2 ≤ w1.heap.size := fun cs1 t1 cs2 t2 w1 h => by
    refine ⟨block_ext ?_ h, (cells_new2 h).2.2, by have := h.size; simp only [World.size_alloc] at this; omega⟩
    have := World.alloc_heap_new (w.alloc (.cells cs1 t1)) (.cells cs2 t2); rwa [World.size_alloc] at this
  have HBX := Lib.hid hbx
  clear hbx hx2
  have HN : Hid (((sideS t a x).isSome && (sideS t b y).isSome && validS t) = false → bestS t a x b y = (Der.zero, 1)) := Lib.hid (fun h => by
    unfold bestS
    cases h1 : sideS t a x <;> cases h2 : sideS t b y <;> cases h3 : validS t <;> simp_all)
  have HS : Hid (∀ L R, sideS t a x = some L → sideS t b y = some R → validS t = true → bestS t a x b y = if val L R St.start ≥ endless then (Der.zero, 11) else (pathS L R St.start { Der.zero with cost := val L R St.start }, 0)) := Lib.hid (fun L R h1 h2 h3 => by
    unfold bestS; rw [h1, h2, h3]; rfl)
  generalize bestS t a x b y = D at HN HS ⊢
  refine (callsIn_wide (n := 3)).1 ?_
  refine callsIn_of_wp_marks Tryz.func6 rfl trivial ?_ rfl
  simp only [Tryz.ntmps6, List.size_toArray, List.length_cons, List.length_nil, Nat.reduceAdd, Nat.reduceSub, Array.replicate_succ, Array.replicate_zero, List.push_toArray, List.append_toArray, List.nil_append, List.cons_append]
  gi_upto_region 2 with (refine ⟨trivial, ?_⟩; gi_at_call 14; (with_reducible refine (callsIn_wide.2 (HO.out _ (HX2.out _ _))).mono ?_); rintro e w1 ⟨hw1, (⟨L, R, s1, s2, s3, hL, hR, rfl⟩ | ⟨hno, g0, n0, c0, g1, n1, c1, g2, n2, c2, g3, n3, c3, rfl⟩)⟩)
  rotate_left
  ·
    obtain ⟨k1, x1, l1⟩ := HBX.out _ _ _ _ _ hw1
    have hD := HN.out hno
    have m0 : ∀ o i, (w1.alloc o).cell? ⟨w.heap.size + 1, i, none⟩ = #[Value.int .i64 0, .slice none 0 0, .slice none 0 0, .string ⟨#[]⟩][i]? := fun o => cell_of (block_ext k1 (Ext.new w1 o))
    have f0 : ∀ o i, (w1.alloc o).frozen? ⟨w.heap.size + 1, i, none⟩ = false := fun o => frozen_of (block_ext k1 (Ext.new w1 o))
    have HX1 := Lib.hid x1
    subst hD
    clear HN HS HO hno k1 x1
    gi_wp2
    exact ⟨.tuple #[.agg #[.int .i64 0, .slice none 0 0, .slice none 0 0, .string ⟨#[]⟩], .int .i64 1], by simp [results, Tryz.results6, go_sem, m0], BestRes.zero 1 (((((HX1.out.alloc _).set (Nat.le_succ _) _).set (Nat.le_succ _) _).set (Nat.le_succ _) _).set (Nat.le_succ _) _)⟩
  obtain ⟨k1, x1, l1⟩ := HBX.out _ _ _ _ _ hw1
  have hD := HS.out _ _ s1 s2 s3
  have fL := fine_of s1 s3
  have fR := fine_of s2 s3
  clear HN HS HO HBX HX2 hw1 s1 s2 s3
  have kW := World.alloc_heap_new w1 (.cells #[letVal L.lg L.lc L.letters, .slice L.A L.rules.length L.rc, letVal R.lg R.lc R.letters, .slice R.A R.rules.length R.rc] 43)
  have xW := Ext.new w1 (.cells #[letVal L.lg L.lc L.letters, .slice L.A L.rules.length L.rc, letVal R.lg R.lc R.letters, .slice R.A R.rules.length R.rc] 43)
  have szW : (w1.alloc (.cells #[letVal L.lg L.lc L.letters, .slice L.A L.rules.length L.rc, letVal R.lg R.lc R.letters, .slice R.A R.rules.length R.rc] 43)).heap.size = w1.heap.size + 1 := by simp
  obtain ⟨W1, hW1⟩ : ∃ W1, w1.alloc (.cells #[letVal L.lg L.lc L.letters, .slice L.A L.rules.length L.rc, letVal R.lg R.lc R.letters, .slice R.A R.rules.length R.rc] 43) = W1 := ⟨_, rfl⟩
  rw [hW1] at kW xW szW ⊢
  clear hW1
  have HC := Lib.hid (costs_any L R W1 (hL.cells (Cells.of_ext xW)) (hR.cells (Cells.of_ext xW)) fL fR)
  have cW := cell_of kW
  unfold wordsVal at HC
  obtain ⟨Bw, hBw⟩ : ∃ Bw, w1.heap.size = Bw := ⟨_, rfl⟩
  have l1' : w.heap.size + 2 ≤ Bw := by omega
  have hBw1 := Ext.trans x1 xW
  have HL := Lib.hid hL
  have HR := Lib.hid hR
  have HXW := Lib.hid xW
  rw [hBw] at kW cW szW ⊢
  clear hL hR xW
  gi_upto_region 5 with (refine ⟨trivial, ?_⟩; gi_at_call 15; (with_reducible refine (callsIn_wide.2 HC.out).mono ?_); rintro e w2 ⟨hx2, b', f, n, rfl, hb', hm, hi, hs⟩)
  have hx3 := (Ext.new w2 (.cells #[.map (some b')] 46)).alloc (.cells #[.int .i64 0, .int .i64 0, .string ⟨#[]⟩, .bool false] 49)
  have kK : ((w2.alloc (.cells #[.map (some b')] 46)).alloc (.cells #[.int .i64 0, .int .i64 0, .string ⟨#[]⟩, .bool false] 49)).heap[w2.heap.size]? = some (.cells #[.map (some b')] 46) := (Below.heap_alloc _ _ _ (by simp)).trans (World.alloc_heap_new w2 _)
  have kS : ((w2.alloc (.cells #[.map (some b')] 46)).alloc (.cells #[.int .i64 0, .int .i64 0, .string ⟨#[]⟩, .bool false] 49)).heap[w2.heap.size + 1]? = some (.cells #[.int .i64 0, .int .i64 0, .string ⟨#[]⟩, .bool false] 49) := by
    have := World.alloc_heap_new (w2.alloc (.cells #[.map (some b')] 46)) (.cells #[.int .i64 0, .int .i64 0, .string ⟨#[]⟩, .bool false] 49); rwa [World.size_alloc] at this
  have sz3 : ((w2.alloc (.cells #[.map (some b')] 46)).alloc (.cells #[.int .i64 0, .int .i64 0, .string ⟨#[]⟩, .bool false] 49)).heap.size = w2.heap.size + 2 := by simp
  have HM2 := Lib.hid hm
  have HI := Lib.hid hi
  have HS := Lib.hid hs
  have HX2 := Lib.hid hx2
  have szB := hx2.size
  clear hm hi hs hx2
  gi_upto_region 6 with fail
  obtain ⟨W3, hW3⟩ : ∃ W3, (w2.alloc (.cells #[.map (some b')] 46)).alloc (.cells #[.int .i64 0, .int .i64 0, .string ⟨#[]⟩, .bool false] 49) = W3 := ⟨_, rfl⟩
  rw [hW3] at hx3 kK kS sz3 ⊢
  clear hW3
  obtain ⟨Bk, hBk⟩ : ∃ Bk, w2.heap.size = Bk := ⟨_, rfl⟩
  have x13 := Ext.trans HX2.out hx3
  have hm3 := HM2.out.mod (hx3.mod (fun _ => False)) (fun h => h)
  have kW3 := block_ext kW x13
  have kT3 := block_ext k1 (Ext.trans HXW.out x13)
  rw [hBk] at szB kK kS sz3 ⊢
  have hv0 := (HI.out.at HS.out).1
  obtain ⟨lk, hkey⟩ := st_key (s := St.start) (by simp [St.start]) (by simp [St.start]) (by simp [St.start])
  have hlook : (Instr.lookup 46 (.map (some b')) (.agg #[.int .i64 0, .int .i64 0, .string ⟨#[]⟩, .bool false]) false).run Tryz.prog W3 = .ok (.int .i64 (val L.side R.side St.start)) W3 := by
    have := MapAt.look hm3 st_keyed Tryz.underlying46 (z := .int .i64 0) (by simp [go_sem]) ⟨lk, hkey⟩ false
    rw [hv0] at this
    exact this
  have cK := cell_of kK
  have cS := cell_of kS
  have cW3 := cell_of kW3
  have mT := cell_of kT3
  have fT := frozen_of kT3
  have HM3 := Lib.hid hm3
  have HK3 := Lib.hid (And.intro kK (And.intro kS (And.intro kW3 kT3)))
  have HX13 := Lib.hid x13
  have HX03 := Lib.hid (Ext.trans hBw1 x13)
  have hBw1' := hBw1
  obtain ⟨vv, hvv⟩ : ∃ vv, val L.side R.side St.start = vv := ⟨_, rfl⟩
  rw [hvv] at hlook hD
  have HVV := Lib.hid hvv
  clear hvv hv0 hkey hm3 kK kS kW3 kT3 x13 kW cW hx3 HC k1 x1 hBw1
  by_cases hge : vv ≥ endless
  · rw [if_pos hge] at hD
    unfold endless at hge
    subst hD
    gi_wp2
    exact ⟨.tuple #[.agg #[.int .i64 0, .slice none 0 0, .slice none 0 0, .string ⟨#[]⟩], .int .i64 11], by simp [results, Tryz.results6, go_sem, mT], BestRes.zero 11 ((((HX03.out.set (Nat.le_succ _) _).set (Nat.le_succ _) _).set (Nat.le_succ _) _).set (Nat.le_succ _) _)⟩
  rw [if_neg hge] at hD
  have hlt : vv < 1099511627776 := by unfold endless at hge; omega
  have HD := Lib.hid hD
  clear hge hD
  gi_wp2
  obtain ⟨kK, kS, kW3, kT3⟩ := HK3.out
  have hL1 := HL.out.cells (Cells.of_ext HXW.out)
  have hR1 := HR.out.cells (Cells.of_ext HXW.out)
  have hfl1 := hL1.lets.few
  have hfr1 := hR1.lets.few
  have HX01 := Lib.hid hBw1'
  have HL1 := Lib.hid hL1
  have HR1 := Lib.hid hR1
  have hr0 : remS L.side R.side St.start ≤ 24 := by
    have e1 : L.side.letters.length = L.letters.length := rfl
    have e2 : R.side.letters.length = R.letters.length := rfl
    unfold remS; omega
  have hB0 : BestI L R W1 b' n f Bw (Bk + 1) (Bk + 2) St.start { Der.zero with cost := vv } (.slice none 0 0) (.slice none 0 0) (W3.alloc (.cells #[.int .i64 vv, .slice none 0 0, .slice none 0 0, .string ⟨#[]⟩] 28)) := by
    refine ⟨HX13.out.alloc _, block_ext kW3 (Ext.new W3 _), block_ext kS (Ext.new W3 _), ?_, ⟨rfl, .inl ⟨rfl, rfl⟩⟩, ⟨rfl, .inl ⟨rfl, rfl⟩⟩, fun g hg => by simp [Value.ownBlock] at hg, HM3.out.mod ((Ext.new W3 _).mod (fun _ => False)) (fun h => h)⟩
    have := World.alloc_heap_new W3 (.cells #[.int .i64 vv, .slice none 0 0, .slice none 0 0, .string ⟨#[]⟩] 28)
    rw [sz3] at this
    exact this
  have hI0 : ∃ (s : St) (d : Der) (vL vR : Value) (ds : List Deferred) (v43 v44 v45 v46 v47 v48 v49 : Value), (({ tmps := #[.agg #[.slice A1 t.rules.length q1, .slice A2 t.drops.length q2, .slice A3 t.ends.length q3, .int .i64 t.drop, .int .i64 t.order, .int .i64 t.initial], .int .i64 a, .string (B x), .int .i64 b, .string (B y), .pointer (some ⟨w.heap.size, 0, none⟩), undef, undef, undef, undef, .pointer (some ⟨w.heap.size + 1, 0, none⟩), .int .i64 0, .pointer (some ⟨Bw, 0, none⟩), .bool true, .pointer (some ⟨Bk, 0, none⟩), .pointer (some ⟨Bk + 1, 0, none⟩), .pointer (some ⟨Bk + 2, 0, none⟩), undef, undef, .tuple #[.agg #[letVal L.lg L.lc L.letters, .slice L.A L.rules.length L.rc, letVal R.lg R.lc R.letters, .slice R.A R.rules.length R.rc], .bool true], .agg #[.slice A1 t.rules.length q1, .slice A2 t.drops.length q2, .slice A3 t.ends.length q3, .int .i64 t.drop, .int .i64 t.order, .int .i64 t.initial], .int .i64 a, .string (B x), .int .i64 b, .string (B y), .tuple #[.agg #[letVal L.lg L.lc L.letters, .slice L.A L.rules.length L.rc, letVal R.lg R.lc R.letters, .slice R.A R.rules.length R.rc], .bool true], .agg #[letVal L.lg L.lc L.letters, .slice L.A L.rules.length L.rc, letVal R.lg R.lc R.letters, .slice R.A R.rules.length R.rc], .bool true, .bool true, .bool false, undef, .agg #[letVal L.lg L.lc L.letters, .slice L.A L.rules.length L.rc, letVal R.lg R.lc R.letters, .slice R.A R.rules.length R.rc], .map (some b'), .agg #[.int .i64 0, .int .i64 0, .string ⟨#[]⟩, .bool false], .map (some b'), .agg #[.int .i64 0, .int .i64 0, .string ⟨#[]⟩, .bool false], .int .i64 vv, .bool (decide (1099511627776 ≤ vv)), undef, .map (some b'), .agg #[.int .i64 0, .int .i64 0, .string ⟨#[]⟩, .bool false], .int .i64 vv, .agg #[.int .i64 vv, .slice none 0 0, .slice none 0 0, .string ⟨#[]⟩], undef, undef, undef, undef, undef, undef, undef, undef, undef, undef, undef, undef, undef, undef, undef, undef, undef, undef, undef, undef, undef, undef, undef, undef, undef, undef, undef, undef, undef, undef, undef, undef, undef, undef, undef, undef, undef, undef, undef, undef, undef, undef, undef, undef, undef, undef], defers := [] } : Act) = { tmps := #[.agg #[.slice A1 t.rules.length q1, .slice A2 t.drops.length q2, .slice A3 t.ends.length q3, .int .i64 t.drop, .int .i64 t.order, .int .i64 t.initial], .int .i64 a, .string (B x), .int .i64 b, .string (B y), .pointer (some ⟨w.heap.size, 0, none⟩), undef, undef, undef, undef, .pointer (some ⟨w.heap.size + 1, 0, none⟩), .int .i64 0, .pointer (some ⟨Bw, 0, none⟩), .bool true, .pointer (some ⟨Bk, 0, none⟩), .pointer (some ⟨Bk + 1, 0, none⟩), .pointer (some ⟨Bk + 2, 0, none⟩), undef, undef, .tuple #[.agg #[letVal L.lg L.lc L.letters, .slice L.A L.rules.length L.rc, letVal R.lg R.lc R.letters, .slice R.A R.rules.length R.rc], .bool true], .agg #[.slice A1 t.rules.length q1, .slice A2 t.drops.length q2, .slice A3 t.ends.length q3, .int .i64 t.drop, .int .i64 t.order, .int .i64 t.initial], .int .i64 a, .string (B x), .int .i64 b, .string (B y), .tuple #[.agg #[letVal L.lg L.lc L.letters, .slice L.A L.rules.length L.rc, letVal R.lg R.lc R.letters, .slice R.A R.rules.length R.rc], .bool true], .agg #[letVal L.lg L.lc L.letters, .slice L.A L.rules.length L.rc, letVal R.lg R.lc R.letters, .slice R.A R.rules.length R.rc], .bool true, .bool true, .bool false, undef, .agg #[letVal L.lg L.lc L.letters, .slice L.A L.rules.length L.rc, letVal R.lg R.lc R.letters, .slice R.A R.rules.length R.rc], .map (some b'), .agg #[.int .i64 0, .int .i64 0, .string ⟨#[]⟩, .bool false], .map (some b'), .agg #[.int .i64 0, .int .i64 0, .string ⟨#[]⟩, .bool false], .int .i64 vv, .bool (decide (1099511627776 ≤ vv)), undef, .map (some b'), .agg #[.int .i64 0, .int .i64 0, .string ⟨#[]⟩, .bool false], .int .i64 vv, .agg #[.int .i64 vv, .slice none 0 0, .slice none 0 0, .string ⟨#[]⟩], v43, v44, v45, v46, v47, v48, v49, undef, undef, undef, undef, undef, undef, undef, undef, undef, undef, undef, undef, undef, undef, undef, undef, undef, undef, undef, undef, undef, undef, undef, undef, undef, undef, undef, undef, undef, undef, undef, undef, undef, undef, undef, undef, undef, undef, undef], defers := ds }) ∧ (fun (m : Nat) (w' : World) => BestI L R W1 b' n f Bw (Bk + 1) (Bk + 2) s d vL vR w' ∧ Waits W1.heap.size ds w' ∧ w'.heap[w.heap.size + 1]? = some (.cells #[.int .i64 0, .slice none 0 0, .slice none 0 0, .string ⟨#[]⟩] 28) ∧ w'.heap[Bk]? = some (.cells #[.map (some b')] 46) ∧ In L.side R.side s ∧ val L.side R.side s < endless ∧ (f (stVal s)).isSome = true ∧ D = (pathS L.side R.side s d, 0) ∧ d.left.length + d.right.length + remS L.side R.side s ≤ 24 ∧ d.form.length ≤ 3 * d.left.length ∧ remS L.side R.side s < m) (remS L.side R.side St.start + 1) (W3.alloc (.cells #[.int .i64 vv, .slice none 0 0, .slice none 0 0, .string ⟨#[]⟩] 28)) :=
    ⟨St.start, { Der.zero with cost := vv }, .slice none 0 0, .slice none 0 0, [], undef, undef, undef, undef, undef, undef, undef, rfl, hB0, ⟨by simp, by simp⟩, block_ext kT3 (Ext.new W3 _), block_ext kK (Ext.new W3 _), start_in _ _, by rw [HVV.out]; unfold endless; exact hlt, HS.out, HD.out, by simp [Der.zero]; exact hr0, by simp [Der.zero], Nat.lt_succ_self _⟩
  clear hB0 kK kS kW3 kT3 hL1 hR1 HL HR HX2 HM2 HM3 HK3 cK cS cW3 mT fT hlook l1 HD HXW
  refine wpIn_loop_ghost_k (fun m a' w' => ∃ (s : St) (d : Der) (vL vR : Value) (ds : List Deferred) (v43 v44 v45 v46 v47 v48 v49 : Value), a' = { tmps := #[.agg #[.slice A1 t.rules.length q1, .slice A2 t.drops.length q2, .slice A3 t.ends.length q3, .int .i64 t.drop, .int .i64 t.order, .int .i64 t.initial], .int .i64 a, .string (B x), .int .i64 b, .string (B y), .pointer (some ⟨w.heap.size, 0, none⟩), undef, undef, undef, undef, .pointer (some ⟨w.heap.size + 1, 0, none⟩), .int .i64 0, .pointer (some ⟨Bw, 0, none⟩), .bool true, .pointer (some ⟨Bk, 0, none⟩), .pointer (some ⟨Bk + 1, 0, none⟩), .pointer (some ⟨Bk + 2, 0, none⟩), undef, undef, .tuple #[.agg #[letVal L.lg L.lc L.letters, .slice L.A L.rules.length L.rc, letVal R.lg R.lc R.letters, .slice R.A R.rules.length R.rc], .bool true], .agg #[.slice A1 t.rules.length q1, .slice A2 t.drops.length q2, .slice A3 t.ends.length q3, .int .i64 t.drop, .int .i64 t.order, .int .i64 t.initial], .int .i64 a, .string (B x), .int .i64 b, .string (B y), .tuple #[.agg #[letVal L.lg L.lc L.letters, .slice L.A L.rules.length L.rc, letVal R.lg R.lc R.letters, .slice R.A R.rules.length R.rc], .bool true], .agg #[letVal L.lg L.lc L.letters, .slice L.A L.rules.length L.rc, letVal R.lg R.lc R.letters, .slice R.A R.rules.length R.rc], .bool true, .bool true, .bool false, undef, .agg #[letVal L.lg L.lc L.letters, .slice L.A L.rules.length L.rc, letVal R.lg R.lc R.letters, .slice R.A R.rules.length R.rc], .map (some b'), .agg #[.int .i64 0, .int .i64 0, .string ⟨#[]⟩, .bool false], .map (some b'), .agg #[.int .i64 0, .int .i64 0, .string ⟨#[]⟩, .bool false], .int .i64 vv, .bool (decide (1099511627776 ≤ vv)), undef, .map (some b'), .agg #[.int .i64 0, .int .i64 0, .string ⟨#[]⟩, .bool false], .int .i64 vv, .agg #[.int .i64 vv, .slice none 0 0, .slice none 0 0, .string ⟨#[]⟩], v43, v44, v45, v46, v47, v48, v49, undef, undef, undef, undef, undef, undef, undef, undef, undef, undef, undef, undef, undef, undef, undef, undef, undef, undef, undef, undef, undef, undef, undef, undef, undef, undef, undef, undef, undef, undef, undef, undef, undef, undef, undef, undef, undef, undef, undef], defers := ds } ∧ (fun (m : Nat) (w' : World) => BestI L R W1 b' n f Bw (Bk + 1) (Bk + 2) s d vL vR w' ∧ Waits W1.heap.size ds w' ∧ w'.heap[w.heap.size + 1]? = some (.cells #[.int .i64 0, .slice none 0 0, .slice none 0 0, .string ⟨#[]⟩] 28) ∧ w'.heap[Bk]? = some (.cells #[.map (some b')] 46) ∧ In L.side R.side s ∧ val L.side R.side s < endless ∧ (f (stVal s)).isSome = true ∧ D = (pathS L.side R.side s d, 0) ∧ d.left.length + d.right.length + remS L.side R.side s ≤ 24 ∧ d.form.length ≤ 3 * d.left.length ∧ remS L.side R.side s < m) m w') (remS L.side R.side St.start + 1) hI0 ?_
  clear hI0
  intro m a' Wc hI J K hJ hK
  obtain ⟨s, d, vL, vR, ds, v43, v44, v45, v46, v47, v48, v49, rfl, hB, hWt, kT, kM, hin, hvs, hfs, hDp, hcnt, hfl, hrm⟩ := hI
  have hBs : W1.heap.size ≤ Bk + 1 := by omega
  have hBd : W1.heap.size ≤ Bk + 2 := by omega
  have hsi := hin.i
  have hsj := hin.j
  obtain ⟨i, j, ah, rt⟩ := s
  have cW := cell_of hB.words
  have cS := cell_of hB.st
  have cD := cell_of hB.der
  simp only [wordsCells] at cW
  simp only [stVals] at cS
  have hdone := fun w' => done_any L.lg L.lc R.lg R.lc L.letters R.letters (.slice L.A L.rules.length L.rc) (.slice R.A R.rules.length R.rc) ⟨i, j, ah, rt⟩ w'
  have hds : (decide ((⟨i, j, ah, rt⟩ : St).i = L.letters.length) && decide ((⟨i, j, ah, rt⟩ : St).j = R.letters.length) && decide ((⟨i, j, ah, rt⟩ : St).ahead = [])) = doneS L.side R.side ⟨i, j, ah, rt⟩ := rfl
  rw [hds] at hdone
  have HDONE := Lib.hid hdone
  clear hds hdone
  have hmoves := fun w' => moves_any L R ⟨i, j, ah, rt⟩ w'
  have HMV := Lib.hid hmoves
  clear hmoves
  unfold wordsVal at HMV
  simp only [stVal] at HDONE HMV
  have HHB := Lib.hid hB
  have HHW := Lib.hid hWt
  have HKT := Lib.hid kT
  have HKM := Lib.hid kM
  have HDP := Lib.hid hDp
  have HFS := Lib.hid hfs
  have HJ := Lib.hid hJ
  clear hJ
  have hafter : ∀ w', Ext Wc w' → (∀ i, w'.cell? ⟨w.heap.size + 1, i, none⟩ = (#[.int .i64 0, .slice none 0 0, .slice none 0 0, .string ⟨#[]⟩] : Array Value)[i]?) ∧ (∀ i, w'.frozen? ⟨w.heap.size + 1, i, none⟩ = false) ∧ (∀ i, w'.cell? ⟨Bk + 2, i, none⟩ = #[Value.int .i64 d.cost, vL, vR, .string (B d.form)][i]?) ∧ (∀ n, w'.cell? ⟨Bw, n, none⟩ = (#[letVal L.lg L.lc L.letters, .slice L.A L.rules.length L.rc, letVal R.lg R.lc R.letters, .slice R.A R.rules.length R.rc] : Array Value)[n]?) ∧ (∀ n, w'.cell? ⟨Bk + 1, n, none⟩ = #[Value.int .i64 i, .int .i64 j, .string (B ah), .bool rt][n]?) := fun w' h =>
    ⟨cell_of (block_ext HKT.out h), frozen_of (block_ext HKT.out h), cell_of (block_ext HHB.out.der h), cell_of (block_ext HHB.out.words h), cell_of (block_ext HHB.out.st h)⟩
  have HAF := Lib.hid hafter
  clear hafter hB hWt kT kM hDp hfs
  cases hd : doneS L.side R.side ⟨i, j, ah, rt⟩
  case true =>
    rw [hd] at HDONE
    have hDd : D = (d, 0) := by rw [HDP.out, pathS_done hd]
    have hal : d.left.length ≤ 24 := by omega
    have har : d.right.length ≤ 24 := by omega
    have HCNT := Lib.hid (And.intro hal har)
    have HDD := Lib.hid hDd
    obtain ⟨A4, q4, rfl, _⟩ := own_elems HHB.out.left
    obtain ⟨A5, q5, rfl, _⟩ := own_elems HHB.out.right
    clear hd hDd hal har hcnt hfl
    gi_wp2_with (refine ⟨trivial, ?_⟩; gi_at_call 16; (with_reducible refine (callsIn_wide.2 (HDONE.out _)).mono ?_); rintro e u1 ⟨rfl, hb1⟩; obtain ⟨a1, a2, a3, a4, a5⟩ := HAF.out _ hb1)
    have kT5 := block_ext HKT.out hb1
    have hmT : Mod (fun k => k = w.heap.size + 1) u1 ((((u1.setCell ⟨w.heap.size + 1, 0, none⟩ (.int .i64 d.cost)).setCell ⟨w.heap.size + 1, 1, none⟩ (.slice A4 d.left.length q4)).setCell ⟨w.heap.size + 1, 2, none⟩ (.slice A5 d.right.length q5)).setCell ⟨w.heap.size + 1, 3, none⟩ (.string (B d.form))) :=
      ((((Mod.refl (fun k => k = w.heap.size + 1) u1).setCell (p := ⟨w.heap.size + 1, 0, none⟩) (.inl rfl) _).setCell (p := ⟨w.heap.size + 1, 1, none⟩) (.inl rfl) _).setCell (p := ⟨w.heap.size + 1, 2, none⟩) (.inl rfl) _).setCell (p := ⟨w.heap.size + 1, 3, none⟩) (.inl rfl) _
    have kF := block_set (block_set (block_set (block_set kT5 0 (.int .i64 d.cost)) 1 (.slice A4 d.left.length q4)) 2 (.slice A5 d.right.length q5)) 3 (.string (B d.form))
    obtain ⟨Wf, hWf⟩ : ∃ Wf, (((u1.setCell ⟨w.heap.size + 1, 0, none⟩ (.int .i64 d.cost)).setCell ⟨w.heap.size + 1, 1, none⟩ (.slice A4 d.left.length q4)).setCell ⟨w.heap.size + 1, 2, none⟩ (.slice A5 d.right.length q5)).setCell ⟨w.heap.size + 1, 3, none⟩ (.string (B d.form)) = Wf := ⟨_, rfl⟩
    rw [hWf] at hmT kF ⊢
    have hmf : Mod (fun k => k = w.heap.size + 1) Wc Wf := (hb1.mod _).trans hmT
    have hnb : w.heap.size ≤ W1.heap.size := by omega
    have hEX : Ext w Wf := Mod.below_trans (Ext.trans HX01.out (HHB.out.ext)) hmf (Nat.le_trans hnb HHB.out.ext.size) (fun k hk he => by omega)
    have he4 : ElemsAt Wf A4 1 (d.left.map (fun i => [Value.int .i64 i])) := by
      obtain ⟨A', q', e, he⟩ := own_elems (ownsRow_mod HHB.out.left hmf (fun g hg h => own_far HHB.out.left hg HKT.out (by decide) h))
      cases e; exact he
    have he5 : ElemsAt Wf A5 1 (d.right.map (fun i => [Value.int .i64 i])) := by
      obtain ⟨A', q', e, he⟩ := own_elems (ownsRow_mod HHB.out.right hmf (fun g hg h => own_far HHB.out.right hg HKT.out (by decide) h))
      cases e; exact he
    refine leaves_waits (base := W1.heap.size) (fun V => V.heap[w.heap.size + 1]? = some (.cells #[.int .i64 d.cost, .slice A4 d.left.length q4, .slice A5 d.right.length q5, .string (B d.form)] 28) ∧ Ext w V ∧ ElemsAt V A4 1 (d.left.map (fun i => [Value.int .i64 i])) ∧ ElemsAt V A5 1 (d.right.map (fun i => [Value.int .i64 i]))) ?_ ?_ ds Wf ?_ ?_
    · rintro V V' hm ⟨p1, p2, p3, p4⟩
      have hc := Cells.of_mod hm (fun a0 v0 h0 hk => cell_not_book h0 hk.2)
      exact ⟨block_keep p1 hm (fun h => cells_not_book p1 h.2), Mod.below_trans p2 hm p2.size (fun k hk h => by have := h.1; omega), p3.cells hc, p4.cells hc⟩
    · rintro V ⟨p1, p2, p3, p4⟩
      have c := cell_of p1
      refine ⟨.tuple #[.agg #[.int .i64 d.cost, .slice A4 d.left.length q4, .slice A5 d.right.length q5, .string (B d.form)], .int .i64 0], by simp [results, Tryz.results6, go_sem, c], ?_⟩
      rw [HDD.out]
      exact ⟨p2, HCNT.out, A4, q4, A5, q5, rfl, p3, p4⟩
    · exact HHW.out.step hmf (fun k dd _ h0 he => by rw [he, HKT.out] at h0; cases h0)
    · exact ⟨by simpa using kF, hEX, he4, he5⟩
  case false =>
    rw [hd] at HDONE
    have HND := Lib.hid hd
    clear hd
    gi_wp2_with (first | (refine ⟨trivial, ?_⟩; gi_at_call 16; (with_reducible refine (callsIn_wide.2 (HDONE.out _)).mono ?_); rintro e u1 ⟨rfl, hb1⟩; obtain ⟨a1, a2, a3, a4, a5⟩ := HAF.out _ hb1) | (refine ⟨trivial, ?_⟩; gi_at_call 17; (with_reducible refine (callsIn_wide.2 (HMV.out _)).mono ?_); rintro e u2 ⟨rfl, rfl⟩))
    have hU2 : Ext u1 ((u1.alloc (.cells (wordsCells L R) 43)).alloc (.cells (stVals ⟨i, j, ah, rt⟩) 49)) := (Ext.new u1 _).alloc _
    have kw2 : ((u1.alloc (.cells (wordsCells L R) 43)).alloc (.cells (stVals ⟨i, j, ah, rt⟩) 49)).heap[u1.heap.size]? = some (.cells (wordsCells L R) 43) := (Below.heap_alloc _ _ _ (by simp)).trans (World.alloc_heap_new u1 _)
    have ks2 : ((u1.alloc (.cells (wordsCells L R) 43)).alloc (.cells (stVals ⟨i, j, ah, rt⟩) 49)).heap[u1.heap.size + 1]? = some (.cells (stVals ⟨i, j, ah, rt⟩) 49) := by
      have := World.alloc_heap_new (u1.alloc (.cells (wordsCells L R) 43)) (.cells (stVals ⟨i, j, ah, rt⟩) 49); rwa [World.size_alloc] at this
    have hsz2 : ((u1.alloc (.cells (wordsCells L R) 43)).alloc (.cells (stVals ⟨i, j, ah, rt⟩) 49)).heap.size = u1.heap.size + 2 := by simp
    have hxU := Ext.trans hb1 hU2
    obtain ⟨U2, hU2e⟩ : ∃ U2, (u1.alloc (.cells (wordsCells L R) 43)).alloc (.cells (stVals ⟨i, j, ah, rt⟩) 49) = U2 := ⟨_, rfl⟩
    rw [hU2e] at hU2 kw2 ks2 hsz2 hxU ⊢
    clear hU2e a1 a2 a3 a4 a5
    have hu1 := hb1.size
    have hB2 := HHB.out.grow hxU
    have hwc := HHB.out.ext.size
    have hit := moves_iter L R ⟨i, j, ah, rt⟩ (u1.heap.size + 1) u1.heap.size (by omega) W1 U2 HL1.out HR1.out (Cells.of_ext hB2.ext) (by omega) (by omega) (by omega) ks2 kw2 (by dsimp only; have e1 : L.side.letters.length = L.letters.length := rfl; omega) (by dsimp only; have e1 : R.side.letters.length = R.letters.length := rfl; omega) (BestT (Bk + 1) (Bk + 2) vL vR) (fun k hk => by
      have := HHB.out.place hBs hBd hk
      exact ⟨this.1, by omega, by omega, by omega⟩)
    have hlow : W1.heap.size ≤ U2.heap.size := hB2.ext.size
    refine rangeFunc_tight rfl (enters_of Tryz.func28 (by kernel_rfl) rfl) (T := BestT (Bk + 1) (Bk + 2) vL vR) hit (Mod.refl _ _)
      (fun k hk => (hB2.place hBs hBd hk).2.1) (fun _ => rfl)
      (BestR L R W1 b' n f Bw (Bk + 1) (Bk + 2) ⟨i, j, ah, rt⟩ d vL vR U2)
      (BestX L R W1 b' n f Bw (Bk + 1) (Bk + 2) ⟨i, j, ah, rt⟩ d vL vR U2)
      (fun _ _ _ h hst => h.step hlow hst) (fun _ _ _ _ h hst => h.step hlow hst) ⟨hB2, Mod.refl _ _, by simp⟩
      (fun xx a' Wd => ∃ p q, a' = { tmps := #[.agg #[.slice A1 t.rules.length q1, .slice A2 t.drops.length q2, .slice A3 t.ends.length q3, .int .i64 t.drop, .int .i64 t.order, .int .i64 t.initial], .int .i64 a, .string (B x), .int .i64 b, .string (B y), .pointer (some ⟨w.heap.size, 0, none⟩), undef, undef, undef, undef, .pointer (some ⟨w.heap.size + 1, 0, none⟩), .int .i64 0, .pointer (some ⟨Bw, 0, none⟩), .bool true, .pointer (some ⟨Bk, 0, none⟩), .pointer (some ⟨Bk + 1, 0, none⟩), .pointer (some ⟨Bk + 2, 0, none⟩), .pointer (some ⟨p, 0, none⟩), .pointer (some ⟨q, 0, none⟩), .tuple #[.agg #[letVal L.lg L.lc L.letters, .slice L.A L.rules.length L.rc, letVal R.lg R.lc R.letters, .slice R.A R.rules.length R.rc], .bool true], .agg #[.slice A1 t.rules.length q1, .slice A2 t.drops.length q2, .slice A3 t.ends.length q3, .int .i64 t.drop, .int .i64 t.order, .int .i64 t.initial], .int .i64 a, .string (B x), .int .i64 b, .string (B y), .tuple #[.agg #[letVal L.lg L.lc L.letters, .slice L.A L.rules.length L.rc, letVal R.lg R.lc R.letters, .slice R.A R.rules.length R.rc], .bool true], .agg #[letVal L.lg L.lc L.letters, .slice L.A L.rules.length L.rc, letVal R.lg R.lc R.letters, .slice R.A R.rules.length R.rc], .bool true, .bool true, .bool false, undef, .agg #[letVal L.lg L.lc L.letters, .slice L.A L.rules.length L.rc, letVal R.lg R.lc R.letters, .slice R.A R.rules.length R.rc], .map (some b'), .agg #[.int .i64 0, .int .i64 0, .string ⟨#[]⟩, .bool false], .map (some b'), .agg #[.int .i64 0, .int .i64 0, .string ⟨#[]⟩, .bool false], .int .i64 vv, .bool (decide (1099511627776 ≤ vv)), undef, .map (some b'), .agg #[.int .i64 0, .int .i64 0, .string ⟨#[]⟩, .bool false], .int .i64 vv, .agg #[.int .i64 vv, .slice none 0 0, .slice none 0 0, .string ⟨#[]⟩], .agg #[letVal L.lg L.lc L.letters, .slice L.A L.rules.length L.rc, letVal R.lg R.lc R.letters, .slice R.A R.rules.length R.rc], .agg #[.int .i64 i, .int .i64 j, .string (B ah), .bool rt], .bool false, .bool true, .agg #[letVal L.lg L.lc L.letters, .slice L.A L.rules.length L.rc, letVal R.lg R.lc R.letters, .slice R.A R.rules.length R.rc], .agg #[.int .i64 i, .int .i64 j, .string (B ah), .bool rt], .func (.func 28) #[] #[.pointer (some ⟨u1.heap.size + 1, 0, none⟩), .pointer (some ⟨u1.heap.size, 0, none⟩)], mrVal xx.1, stVal xx.2, undef, undef, undef, undef, undef, undef, undef, undef, undef, undef, undef, undef, undef, undef, undef, undef, undef, undef, undef, undef, undef, undef, undef, undef, undef, undef, undef, undef, undef, undef, undef, undef, undef, undef, undef, undef, undef], defers := [] } ∧ Wd.heap[p]? = some (.cells (mrVals xx.1).toArray 55) ∧ Wd.heap[q]? = some (.cells (stVals xx.2) 49))
      ?hAx ?assign ?body ?done ?stop
    case hAx =>
      rintro x a' Wd W' ⟨p, q, h1, h2, h3⟩ hst
      exact ⟨p, q, h1, block_keep h2 hst (fun h => cells_not_book h2 h.2), block_keep h3 hst (fun h => cells_not_book h3 h.2)⟩
    case assign =>
      rintro l pre ⟨⟨⟨ri, rc, rf, rto⟩, g2, c2⟩, ⟨ni, nj, na, nr⟩⟩ rest Wd K2 hx' hi hK2
      have hi2 : ∀ o1 o2, BestR L R W1 b' n f Bw (Bk + 1) (Bk + 2) ⟨i, j, ah, rt⟩ d vL vR U2 pre ((Wd.alloc o1).alloc o2) := fun o1 o2 => hi.step hlow (((Ext.new Wd o1).alloc o2).mod _)
      have HI2 := Lib.hid hi2
      clear hi hi2 hit hK HJ
      dsimp only [mrVal, stVal]
      gi_wp2
      refine hK2 _ _ (((Mod.refl _ Wd).alloc _).alloc _) (HI2.out _ _) ⟨Wd.heap.size, Wd.heap.size + 1, rfl, (Below.heap_alloc _ _ _ (by simp)).trans (World.alloc_heap_new Wd _), ?_⟩
      have := World.alloc_heap_new (Wd.alloc (.cells #[.int .i64 ri, .int .i64 rc, letVal g2 c2 rf, .string (B rto)] 55)) (.cells #[.int .i64 ni, .int .i64 nj, .string (B na), .bool nr] 49)
      rw [World.size_alloc] at this
      exact this
    case body =>
      rintro l pre ⟨⟨⟨ri, rc, rf, rto⟩, g2, c2⟩, ⟨ni, nj, na, nr⟩⟩ rest a' Wd hx' hl hlr ⟨hB3, hm3, hpre⟩ ⟨p, q, rfl, kp, kq⟩
      have hmv : movesS L.side R.side ⟨i, j, ah, rt⟩ = pre.map (fun p => (p.1.1, p.2)) ++ ((⟨ri, rc, rf, rto⟩ : ARule), (⟨ni, nj, na, nr⟩ : St)) :: rest.map (fun p => (p.1.1, p.2)) := by
        rw [← movesM_S, hx', List.map_append, List.map_cons]
      have hmemS : ((⟨ri, rc, rf, rto⟩ : ARule), (⟨ni, nj, na, nr⟩ : St)) ∈ movesS L.side R.side ⟨i, j, ah, rt⟩ := by rw [hmv]; simp
      obtain ⟨hin3, hrem3, hc0, hc1⟩ := move_rem fL fR hin hmemS
      dsimp only at hin3 hrem3 hc0 hc1
      have hvr := val_range fL fR _ _ hin3 (Nat.le_refl _)
      have hvr2 := val_range fL fR _ _ hin (Nat.le_refl _)
      obtain ⟨hf1, hf2⟩ := HI.out.at HFS.out
      have hf3 := HI.out.at (hf2 _ hmemS)
      dsimp only at hf3
      have hsi' : i ≤ 12 := by have e1 : L.side.letters.length = L.letters.length := rfl; omega
      have hsj' : j ≤ 12 := by have e1 : R.side.letters.length = R.letters.length := rfl; omega
      have hni' : ni ≤ 12 := by have := hin3.i; have e1 : L.side.letters.length = L.letters.length := rfl; dsimp only at this; omega
      have hnj' : nj ≤ 12 := by have := hin3.j; have e1 : R.side.letters.length = R.letters.length := rfl; dsimp only at this; omega
      obtain ⟨lk1, hkey1⟩ := st_key (s := ⟨ni, nj, na, nr⟩) (by dsimp only; omega) (by dsimp only; omega) hin3.ahead
      obtain ⟨lk2, hkey2⟩ := st_key (s := ⟨i, j, ah, rt⟩) (by dsimp only; omega) (by dsimp only; omega) hin.ahead
      have hl1 : (Instr.lookup 46 (.map (some b')) (.agg #[.int .i64 ni, .int .i64 nj, .string (B na), .bool nr]) false).run Tryz.prog Wd.drew = .ok (.int .i64 (val L.side R.side ⟨ni, nj, na, nr⟩)) Wd.drew := by
        have := MapAt.look (hB3.map.mod ((below_drewN Wd 1).mod (fun _ => False)) (fun h => h)) st_keyed Tryz.underlying46 (z := .int .i64 0) (by simp [go_sem]) ⟨lk1, hkey1⟩ false
        rw [hf3.1] at this
        exact this
      have hl2 : (Instr.lookup 46 (.map (some b')) (.agg #[.int .i64 i, .int .i64 j, .string (B ah), .bool rt]) false).run Tryz.prog Wd.drew = .ok (.int .i64 (val L.side R.side ⟨i, j, ah, rt⟩)) Wd.drew := by
        have := MapAt.look (hB3.map.mod ((below_drewN Wd 1).mod (fun _ => False)) (fun h => h)) st_keyed Tryz.underlying46 (z := .int .i64 0) (by simp [go_sem]) ⟨lk2, hkey2⟩ false
        rw [hf1] at this
        exact this
      have kM3 := block_ext HKM.out hxU
      have kM4 : Wd.heap[Bk]? = some (.cells #[.map (some b')] 46) := block_keep kM3 hm3 (fun h => by
        rcases h with h | h | h | h
        · omega
        · omega
        · exact own_far hB2.left h kM3 (by decide) rfl
        · exact own_far hB2.right h kM3 (by decide) rfl)
      have HNF : Hid (rc + val L.side R.side ⟨ni, nj, na, nr⟩ = val L.side R.side ⟨i, j, ah, rt⟩ → nextS L.side R.side ⟨i, j, ah, rt⟩ = some (⟨ri, rc, rf, rto⟩, ⟨ni, nj, na, nr⟩)) := Lib.hid (fun h => next_first hmv (fun p hp => by
        obtain ⟨p', hp', rfl⟩ := List.mem_map.1 hp
        exact hpre p' hp') h)
      have HPRE := Lib.hid hpre
      have HNE : Hid (rc + val L.side R.side ⟨ni, nj, na, nr⟩ ≠ val L.side R.side ⟨i, j, ah, rt⟩ → BestR L R W1 b' n f Bw (Bk + 1) (Bk + 2) ⟨i, j, ah, rt⟩ d vL vR U2 (pre ++ [((⟨ri, rc, rf, rto⟩, g2, c2), ⟨ni, nj, na, nr⟩)]) Wd.drew) := Lib.hid (fun hne => ⟨hB3.grow (below_drewN Wd 1), hm3.ext (below_drewN Wd 1), fun p hp => by
        rcases List.mem_append.1 hp with hp | hp
        · exact hpre p hp
        · simp only [List.mem_singleton] at hp; subst hp; exact hne⟩)
      obtain ⟨vn, hvn⟩ : ∃ vn, val L.side R.side ⟨ni, nj, na, nr⟩ = vn := ⟨_, rfl⟩
      obtain ⟨vs, hvs2⟩ : ∃ vs, val L.side R.side ⟨i, j, ah, rt⟩ = vs := ⟨_, rfl⟩
      rw [hvn] at hvr hl1 HNF HNE
      rw [hvs2] at hvr2 hl2 HNF HNE
      have hwr : IntKind.i64.wrap (rc + vn) = rc + vn := by unfold endless at hvr; exact wrap_small (by omega) (by omega)
      have hHeld : (fun w' : World => w'.cell? ⟨p, 1, none⟩ = some (.int .i64 rc) ∧ w'.cell? ⟨Bk, 0, none⟩ = some (.map (some b')) ∧ w'.cell? ⟨q, 0, none⟩ = some (.int .i64 ni) ∧ w'.cell? ⟨q, 1, none⟩ = some (.int .i64 nj) ∧ w'.cell? ⟨q, 2, none⟩ = some (.string (B na)) ∧ w'.cell? ⟨q, 3, none⟩ = some (.bool nr) ∧ w'.cell? ⟨Bk + 1, 0, none⟩ = some (.int .i64 i) ∧ w'.cell? ⟨Bk + 1, 1, none⟩ = some (.int .i64 j) ∧ w'.cell? ⟨Bk + 1, 2, none⟩ = some (.string (B ah)) ∧ w'.cell? ⟨Bk + 1, 3, none⟩ = some (.bool rt) ∧ (Instr.lookup 46 (.map (some b')) (.agg #[.int .i64 ni, .int .i64 nj, .string (B na), .bool nr]) false).run Tryz.prog w' = .ok (.int .i64 vn) w' ∧ (Instr.lookup 46 (.map (some b')) (.agg #[.int .i64 i, .int .i64 j, .string (B ah), .bool rt]) false).run Tryz.prog w' = .ok (.int .i64 vs) w') Wd.drew := ⟨cell_of kp 1, cell_of kM4 0, cell_of kq 0, cell_of kq 1, cell_of kq 2, cell_of kq 3, cell_of hB3.st 0, cell_of hB3.st 1, cell_of hB3.st 2, cell_of hB3.st 3, hl1, hl2⟩
      have HB3 := Lib.hid hB3
      have HM3 := Lib.hid hm3
      have HVS := Lib.hid hvs2
      have HVN := Lib.hid hvn
      have HKP := Lib.hid kp
      have HKQ := Lib.hid kq
      clear hit hK HJ hx' hmv hmemS hf1 hf2 hf3 hkey1 hkey2 hl1 hl2 kM3 kM4 hB3 hm3 hpre hvn hvs2 kp kq hvs hin3 hin
      dsimp only [mrVal, stVal]
      gi_upto_region 13 with fail
      refine wpIn_region_held (S := (fun w' : World => w'.cell? ⟨p, 1, none⟩ = some (.int .i64 rc) ∧ w'.cell? ⟨Bk, 0, none⟩ = some (.map (some b')) ∧ w'.cell? ⟨q, 0, none⟩ = some (.int .i64 ni) ∧ w'.cell? ⟨q, 1, none⟩ = some (.int .i64 nj) ∧ w'.cell? ⟨q, 2, none⟩ = some (.string (B na)) ∧ w'.cell? ⟨q, 3, none⟩ = some (.bool nr) ∧ w'.cell? ⟨Bk + 1, 0, none⟩ = some (.int .i64 i) ∧ w'.cell? ⟨Bk + 1, 1, none⟩ = some (.int .i64 j) ∧ w'.cell? ⟨Bk + 1, 2, none⟩ = some (.string (B ah)) ∧ w'.cell? ⟨Bk + 1, 3, none⟩ = some (.bool rt) ∧ (Instr.lookup 46 (.map (some b')) (.agg #[.int .i64 ni, .int .i64 nj, .string (B na), .bool nr]) false).run Tryz.prog w' = .ok (.int .i64 vn) w' ∧ (Instr.lookup 46 (.map (some b')) (.agg #[.int .i64 i, .int .i64 j, .string (B ah), .bool rt]) false).run Tryz.prog w' = .ok (.int .i64 vs) w')) Tryz.mixed (fun _ _ h => by first | exact h | (obtain ⟨⟨v, hv⟩, _⟩ := h; cases hv) | simp at h) (by kernel_rfl) ?_
      refine wpAnyH_take (i := 0) (v := ?_) rfl (by kernel_rfl) (by kernel_rfl) (by kernel_rfl) (fun _ _ _ h => h) (Or.inl ⟨by rfl, ?_⟩) (by assumption) ?_
      rotate_left
      · (intro w hSw; (try dsimp only at hSw); go_split_ands; go_simp; first | done | with_reducible rfl)
      simp only [List.getElem_toArray, List.getElem_cons_succ, List.getElem_cons_zero, Act.put, List.setIfInBounds_toArray, List.set_cons_zero, List.set_cons_succ]
      refine wpAnyH_take (i := 1) (v := ?_) rfl (by kernel_rfl) (by kernel_rfl) (by kernel_rfl) (fun _ _ _ h => h) (Or.inl ⟨by rfl, ?_⟩) (by assumption) ?_
      rotate_left
      · (intro w hSw; (try dsimp only at hSw); go_split_ands; go_simp; first | done | with_reducible rfl)
      simp only [List.getElem_toArray, List.getElem_cons_succ, List.getElem_cons_zero, Act.put, List.setIfInBounds_toArray, List.set_cons_zero, List.set_cons_succ]
      refine wpAnyH_take (i := 2) (v := ?_) rfl (by kernel_rfl) (by kernel_rfl) (by kernel_rfl) (fun _ _ _ h => h) (Or.inl ⟨by rfl, ?_⟩) (by assumption) ?_
      rotate_left
      · (intro w hSw; (try dsimp only at hSw); go_split_ands; go_simp; first | done | with_reducible rfl)
      simp only [List.getElem_toArray, List.getElem_cons_succ, List.getElem_cons_zero, Act.put, List.setIfInBounds_toArray, List.set_cons_zero, List.set_cons_succ]
      refine wpAnyH_take (i := 3) (v := ?_) rfl (by kernel_rfl) (by kernel_rfl) (by kernel_rfl) (fun _ _ _ h => h) (Or.inl ⟨by rfl, ?_⟩) (by assumption) ?_
      rotate_left
      · (intro w hSw; (try dsimp only at hSw); go_split_ands; go_simp; first | done | with_reducible rfl)
      simp only [List.getElem_toArray, List.getElem_cons_succ, List.getElem_cons_zero, Act.put, List.setIfInBounds_toArray, List.set_cons_zero, List.set_cons_succ]
      refine wpAnyH_take (i := 4) (v := ?_) rfl (by kernel_rfl) (by kernel_rfl) (by kernel_rfl) (fun _ _ _ h => h) (Or.inl ⟨by rfl, ?_⟩) (by assumption) ?_
      rotate_left
      · (intro w hSw; (try dsimp only at hSw); go_split_ands; go_simp; first | done | with_reducible rfl)
      simp only [List.getElem_toArray, List.getElem_cons_succ, List.getElem_cons_zero, Act.put, List.setIfInBounds_toArray, List.set_cons_zero, List.set_cons_succ]
      refine wpAnyH_take (i := 5) (v := ?_) rfl (by kernel_rfl) (by kernel_rfl) (by kernel_rfl) (fun _ _ _ h => h) (Or.inl ⟨by rfl, ?_⟩) (by assumption) ?_
      rotate_left
      · (intro w hSw; (try dsimp only at hSw); go_split_ands; go_simp; first | done | with_reducible rfl)
      simp only [List.getElem_toArray, List.getElem_cons_succ, List.getElem_cons_zero, Act.put, List.setIfInBounds_toArray, List.set_cons_zero, List.set_cons_succ]
      refine wpAnyH_take (i := 6) (v := ?_) rfl (by kernel_rfl) (by kernel_rfl) (by kernel_rfl) (fun _ _ _ h => h) (Or.inl ⟨by rfl, ?_⟩) (by assumption) ?_
      rotate_left
      · (intro w hSw; (try dsimp only at hSw); go_split_ands; go_simp; first | done | with_reducible rfl)
      simp only [List.getElem_toArray, List.getElem_cons_succ, List.getElem_cons_zero, Act.put, List.setIfInBounds_toArray, List.set_cons_zero, List.set_cons_succ]
      refine wpAnyH_take (i := 7) (v := ?_) rfl (by kernel_rfl) (by kernel_rfl) (by kernel_rfl) (fun _ _ _ h => h) (Or.inl ⟨by rfl, ?_⟩) (by assumption) ?_
      rotate_left
      · (intro w hSw; (try dsimp only at hSw); go_split_ands; go_simp; first | done | with_reducible rfl)
      simp only [List.getElem_toArray, List.getElem_cons_succ, List.getElem_cons_zero, Act.put, List.setIfInBounds_toArray, List.set_cons_zero, List.set_cons_succ]
      refine wpAnyH_take (i := 8) (v := ?_) rfl (by kernel_rfl) (by kernel_rfl) (by kernel_rfl) (fun _ _ _ h => h) (Or.inl ⟨by rfl, ?_⟩) (by assumption) ?_
      rotate_left
      · (intro w hSw; (try dsimp only at hSw); go_split_ands; go_simp; first | done | with_reducible rfl)
      simp only [List.getElem_toArray, List.getElem_cons_succ, List.getElem_cons_zero, Act.put, List.setIfInBounds_toArray, List.set_cons_zero, List.set_cons_succ]
      refine wpAnyH_take (i := 9) (v := ?_) rfl (by kernel_rfl) (by kernel_rfl) (by kernel_rfl) (fun _ _ _ h => h) (Or.inl ⟨by rfl, ?_⟩) (by assumption) ?_
      rotate_left
      · (intro w hSw; (try dsimp only at hSw); go_split_ands; go_simp; first | done | with_reducible rfl)
      simp only [List.getElem_toArray, List.getElem_cons_succ, List.getElem_cons_zero, Act.put, List.setIfInBounds_toArray, List.set_cons_zero, List.set_cons_succ]
      refine wpAnyH_done (by kernel_rfl) ?_ _
      skip
      by_cases heq : rc + vn = vs
      rotate_left
      · have HM := Lib.hid (And.intro ((Mod.refl (BestT (Bk + 1) (Bk + 2) vL vR) Wd).drew) (HNE.out heq))
        clear hHeld
        gi_wp2
        exact HM.out
      gi_upto_region 14 with fail
      have hnx := HNF.out heq
      have hxv := below_drewN Wd 1
      have hdr : Wd.drew = Wd.drewN 1 := rfl
      obtain ⟨Wv, hWv⟩ : ∃ Wv, Wd.drew = Wv := ⟨_, rfl⟩
      rw [← hdr, hWv] at hxv
      rw [hWv]
      have hBv := HB3.out.grow hxv
      have kp := block_ext HKP.out hxv
      have kq := block_ext HKQ.out hxv
      have cS3 := cell_of hBv.st
      have fS3 := frozen_of hBv.st
      have cD3 := cell_of hBv.der
      have fD3 := frozen_of hBv.der
      have cp := cell_of kp
      have cq := cell_of kq
      have hto : rto.length ≤ 3 := by
        have h1 := (mem_moves (next_mem hnx)).1
        cases ht : turnS L.side ⟨i, j, ah, rt⟩ with
        | true => rw [ht] at h1; exact fL.short _ h1
        | false => rw [ht] at h1; exact fR.short _ h1
      have hn1 : ¬ Bk + 2 = q := fun h => by have := hBv.der; rw [h, kq] at this; simp at this
      have hn2 : ¬ q = Bk + 2 := fun h => hn1 h.symm
      have hn3 : ¬ Bk + 2 = p := fun h => by have := hBv.der; rw [h, kp] at this; simp at this
      have hn4 : ¬ p = Bk + 2 := fun h => hn3 h.symm
      have hplt := (Array.getElem?_eq_some_iff.1 kp).1
      have HBV := Lib.hid hBv
      have HXV := Lib.hid hxv
      have HNX := Lib.hid hnx
      have HPK := Lib.hid kp
      have HQK := Lib.hid kq
      clear hWv hdr hxv hBv hHeld hnx kp kq
      simp only [mrVals, stVals] at cp cq cS3
      have hq1 : ∀ (v : Value) (w5 : World), Mod (fun k => v.ownBlock = some k) Wv w5 → (∀ g, v.ownBlock = some g → g ≠ Bk + 1 ∧ g ≠ Bk + 2 ∧ g ≠ p ∧ g ≠ q) → (w5.cell? ⟨p, 0, none⟩ = some (.int .i64 ri) ∧ w5.cell? ⟨p, 3, none⟩ = some (.string (B rto))) ∧ (∀ i, w5.cell? ⟨Bk + 2, i, none⟩ = #[Value.int .i64 d.cost, vL, vR, .string (B d.form)][i]?) ∧ (∀ i, w5.frozen? ⟨Bk + 2, i, none⟩ = false) ∧ (∀ n, w5.cell? ⟨Bk + 1, n, none⟩ = #[Value.int .i64 i, .int .i64 j, .string (B ah), .bool rt][n]?) ∧ (∀ i, w5.frozen? ⟨Bk + 1, i, none⟩ = false) ∧ (∀ i, w5.cell? ⟨q, i, none⟩ = #[Value.int .i64 ni, .int .i64 nj, .string (B na), .bool nr][i]?) := fun v w5 hm hg => by
        have b1 := block_keep HPK.out hm (fun h => (hg _ h).2.2.1 rfl)
        have b2 := block_keep HBV.out.der hm (fun h => (hg _ h).2.1 rfl)
        have b3 := block_keep HBV.out.st hm (fun h => (hg _ h).1 rfl)
        have b4 := block_keep HQK.out hm (fun h => (hg _ h).2.2.2 rfl)
        exact ⟨⟨cell_of b1 0, cell_of b1 3⟩, cell_of b2, frozen_of b2, cell_of b3, frozen_of b3, cell_of b4⟩
      have HQ1 := Lib.hid hq1
      clear hq1
      have hszd : W1.heap.size ≤ Wv.heap.size := HBV.out.ext.size
      by_cases hgt : i < ni
      · have HSA : Hid (∀ w5, Mod (fun k => vL.ownBlock = some k) Wv.drew w5 → _) := Lib.hid (fun w5 hm => HQ1.out vL w5 (((Mod.refl _ Wv).drew).trans hm) (fun g hg => ⟨own_far HBV.out.left hg HBV.out.st (by decide), own_far HBV.out.left hg HBV.out.der (by decide), own_far HBV.out.left hg HPK.out (by decide), own_far HBV.out.left hg HQK.out (by decide)⟩))
        have htk : takeS d ⟨i, j, ah, rt⟩ (⟨ri, rc, rf, rto⟩, ⟨ni, nj, na, nr⟩) = { d with left := d.left ++ [ri], form := d.form ++ rto } := by unfold takeS; rw [if_pos (by simpa using hgt)]
        have happ : B d.form ++ B rto = B (d.form ++ rto) := by apply ByteArray.ext; simp [B]
        have hsz3 : (B d.form).size = d.form.length := rfl
        have hsz4 : (B rto).size = rto.length := rfl
        have hbig : ¬ (9223372036854775807 < d.form.length + rto.length) := by omega
        have FIN : Hid (∀ z1 w5, Appended Wv.drew w5 W1.heap.size 3 1 d.left.length vL z1 (intVs d.left) [.int .i64 ri] → rfPostX (BestT (Bk + 1) (Bk + 2) vL vR) (BestR L R W1 b' n f Bw (Bk + 1) (Bk + 2) ⟨i, j, ah, rt⟩ d vL vR U2) (BestX L R W1 b' n f Bw (Bk + 1) (Bk + 2) ⟨i, j, ah, rt⟩ d vL vR U2) (pre ++ [((⟨ri, rc, rf, rto⟩, g2, c2), ⟨ni, nj, na, nr⟩)]) Wd (.exit 2) { tmps := #[], defers := [] } ((((((w5.setCell ⟨Bk + 2, 1, none⟩ z1).setCell ⟨Bk + 2, 3, none⟩ (.string (B (d.form ++ rto)))).setCell ⟨Bk + 1, 0, none⟩ (.int .i64 ni)).setCell ⟨Bk + 1, 1, none⟩ (.int .i64 nj)).setCell ⟨Bk + 1, 2, none⟩ (.string (B na))).setCell ⟨Bk + 1, 3, none⟩ (.bool nr))) := Lib.hid (fun z1 w5 hA => by
          have h := HBV.out.finLeft (x := ri) (tt := rto) (s' := ⟨ni, nj, na, nr⟩) hBs hBd (by omega) (((Mod.refl _ Wv).drew).trans hA.mod) hA.own hA.loc
          refine ⟨(HXV.out.mod _).trans h.1, rfl, HM3.out.trans ((HXV.out.mod _).trans h.1), ((⟨ri, rc, rf, rto⟩, g2, c2), ⟨ni, nj, na, nr⟩), z1, vR, ?_, HNX.out⟩
          dsimp only
          rw [htk]
          exact h.2)
        clear htk
        have cD4 : ∀ o i, (Wv.alloc o).cell? ⟨Bk + 2, i, none⟩ = #[Value.int .i64 d.cost, vL, vR, .string (B d.form)][i]? := fun o => cell_of (block_ext HBV.out.der (Ext.new Wv o))
        have fD4 : ∀ o i, (Wv.alloc o).frozen? ⟨Bk + 2, i, none⟩ = false := fun o => frozen_of (block_ext HBV.out.der (Ext.new Wv o))
        have hownd : Wv.drew.ownsRow W1.heap.size 3 1 vL d.left.length (intVs d.left) := HBV.out.left
        have hszd2 : W1.heap.size ≤ Wv.drew.heap.size := hszd
        have hlen2 : (d.left.length + 1) * 8 ≤ 140737488355328 := by omega
        have HSK : Hid (∀ w' : World, w'.heap[p]? = Wv.heap[p]? → (fun w' : World => w'.cell? ⟨p, 0, none⟩ = some (.int .i64 ri) ∧ w'.cell? ⟨p, 3, none⟩ = some (.string (B rto))) w') := Lib.hid (fun w' h => by have hk := h.trans HPK.out; exact ⟨cell_of hk 0, cell_of hk 3⟩)
        have HSS : Hid (∀ (w' : World) (o : Nat) (z : Value), (fun w' : World => w'.cell? ⟨p, 0, none⟩ = some (.int .i64 ri) ∧ w'.cell? ⟨p, 3, none⟩ = some (.string (B rto))) w' → (fun w' : World => w'.cell? ⟨p, 0, none⟩ = some (.int .i64 ri) ∧ w'.cell? ⟨p, 3, none⟩ = some (.string (B rto))) (w'.setCell ⟨Bk + 2, o, none⟩ z)) := Lib.hid (fun w' o z h => ⟨(World.cell?_setCell_far _ _ _ _ hn3).trans h.1, (World.cell?_setCell_far _ _ _ _ hn3).trans h.2⟩)
        have HPL := Lib.hid hplt
        have hHeld : (fun w' : World => w'.cell? ⟨p, 0, none⟩ = some (.int .i64 ri) ∧ w'.cell? ⟨p, 3, none⟩ = some (.string (B rto))) Wv.drew := ⟨cp 0, cp 3⟩
        gi_upto_region 15 with fail
        refine wpIn_region_held (S := (fun w' : World => w'.cell? ⟨p, 0, none⟩ = some (.int .i64 ri) ∧ w'.cell? ⟨p, 3, none⟩ = some (.string (B rto)))) Tryz.mixed (fun _ _ h => by first | exact h | (obtain ⟨⟨v, hv⟩, _⟩ := h; cases hv) | simp at h) (by kernel_rfl) ?_
        refine wpAnyH_take (i := 0) (v := ?_) rfl (by kernel_rfl) (by kernel_rfl) (by kernel_rfl) (fun _ _ _ h => h) (Or.inl ⟨by rfl, ?_⟩) (by assumption) ?_
        rotate_left
        · (intro w hSw; (try dsimp only at hSw); go_split_ands; go_simp; first | done | with_reducible rfl)
        simp only [List.getElem_toArray, List.getElem_cons_succ, List.getElem_cons_zero, Act.put, List.setIfInBounds_toArray, List.set_cons_zero, List.set_cons_succ]
        refine wpAnyH_take (i := 2) (v := ?_) rfl (by kernel_rfl) (by kernel_rfl) (by kernel_rfl) (fun _ _ _ h => h) (Or.inl ⟨by rfl, ?_⟩) (by assumption) ?_
        rotate_left
        · (intro w hSw; (try dsimp only at hSw); go_split_ands; go_simp; first | done | with_reducible rfl)
        simp only [List.getElem_toArray, List.getElem_cons_succ, List.getElem_cons_zero, Act.put, List.setIfInBounds_toArray, List.set_cons_zero, List.set_cons_succ]
        refine wpAnyH_take (i := 3) (v := ?_) rfl (by kernel_rfl) (by kernel_rfl) (by kernel_rfl) (fun _ _ _ h => h) (Or.inl ⟨by rfl, ?_⟩) (by assumption) ?_
        rotate_left
        · (intro w hSw; (try dsimp only at hSw); go_split_ands; go_simp; first | done | with_reducible rfl)
        simp only [List.getElem_toArray, List.getElem_cons_succ, List.getElem_cons_zero, Act.put, List.setIfInBounds_toArray, List.set_cons_zero, List.set_cons_succ]
        refine wpAnyH_take (i := 6) (v := ?_) rfl (by kernel_rfl) (by kernel_rfl) (by kernel_rfl) (fun _ _ _ h => h) (Or.inl ⟨by rfl, ?_⟩) (by assumption) ?_
        rotate_left
        · (intro w hSw; (try dsimp only at hSw); go_split_ands; go_simp; first | done | with_reducible rfl)
        simp only [List.getElem_toArray, List.getElem_cons_succ, List.getElem_cons_zero, Act.put, List.setIfInBounds_toArray, List.set_cons_zero, List.set_cons_succ]
        refine wpAnyH_take (i := 8) (v := ?_) rfl (by kernel_rfl) (by kernel_rfl) (by kernel_rfl) (fun _ _ _ h => h) (Or.inl ⟨by rfl, ?_⟩) (by assumption) ?_
        rotate_left
        · (intro w hSw; (try dsimp only at hSw); go_split_ands; go_simp; first | done | with_reducible rfl)
        simp only [List.getElem_toArray, List.getElem_cons_succ, List.getElem_cons_zero, Act.put, List.setIfInBounds_toArray, List.set_cons_zero, List.set_cons_succ]
        refine wpAnyH_take (i := 9) (v := ?_) rfl (by kernel_rfl) (by kernel_rfl) (by kernel_rfl) (fun _ _ _ h => h) (Or.inl ⟨by rfl, ?_⟩) (by assumption) ?_
        rotate_left
        · (intro w hSw; (try dsimp only at hSw); go_split_ands; go_simp; first | done | with_reducible rfl)
        simp only [List.getElem_toArray, List.getElem_cons_succ, List.getElem_cons_zero, Act.put, List.setIfInBounds_toArray, List.set_cons_zero, List.set_cons_succ]
        refine wpAnyH_ready (rs := [1, 4, 7]) (by kernel_rfl) (by simp) ?_
        refine AllReadyH.cons rfl (fun K hK => ?_) ?_
        · go_simp
          refine hK.out _ _ ?_ (fun hHeld => ?_)
          · first | exact hHeld | exact g1 | exact HSK.out _ (Below.heap_alloc _ _ _ HPL.out) | exact HSS.out _ 1 _ g1 | exact HSS.out _ 3 _ (HSS.out _ 1 _ g1)
          clear hK K
          refine wpAnyH_ready (rs := [4, 7]) (by kernel_rfl) (by simp) ?_
          refine AllReadyH.cons rfl (fun K hK => ?_) ?_
          · go_simp
            refine hK.out _ _ ?_ (fun hHeld => ?_)
            · first | exact hHeld | exact g1 | exact HSK.out _ (Below.heap_alloc _ _ _ HPL.out) | exact HSS.out _ 1 _ g1 | exact HSS.out _ 3 _ (HSS.out _ 1 _ g1)
            clear hK K
            refine wpAnyH_ready (rs := [5, 7]) (by kernel_rfl) (by simp) ?_
            refine AllReadyH.cons rfl (fun K hK => ?_) ?_
            · (refine step_app1 (W := Wv.drew) W1.heap.size (.tmp 68) (.tmp 71) 26 3 (.int .i64 0) 1 8 rfl Tryz.underlying26 Tryz.info_int rfl (by decide) (by decide) vL d.left.length (intVs d.left) [.int .i64 ri] rfl rfl rfl (by simp [Value.oneCell']) hownd hszd2 hlen2 rfl ?_; intro z1 w5 hA; obtain ⟨gg, cap1, rfl⟩ := ownsRow_succ hA.own; obtain ⟨g1, g2', g3, g4, g5, g6⟩ := HSA.out _ hA.mod)
              refine hK.out _ _ ?_ (fun hHeld => ?_)
              · first | exact hHeld | exact g1 | exact HSK.out _ (Below.heap_alloc _ _ _ HPL.out) | exact HSS.out _ 1 _ g1 | exact HSS.out _ 3 _ (HSS.out _ 1 _ g1)
              clear hK K
              refine wpAnyH_ready (rs := [7]) (by kernel_rfl) (by simp) ?_
              refine AllReadyH.cons rfl (fun K hK => ?_) ?_
              · go_simp
                refine hK.out _ _ ?_ (fun hHeld => ?_)
                · first | exact hHeld | exact g1 | exact HSK.out _ (Below.heap_alloc _ _ _ HPL.out) | exact HSS.out _ 1 _ g1 | exact HSS.out _ 3 _ (HSS.out _ 1 _ g1)
                clear hK K
                refine wpAnyH_take (i := 10) (v := ?_) rfl (by kernel_rfl) (by kernel_rfl) (by kernel_rfl) (fun _ _ _ h => h) (Or.inl ⟨by rfl, ?_⟩) (by assumption) ?_
                rotate_left
                · (intro w hSw; (try dsimp only at hSw); go_split_ands; go_simp; first | done | with_reducible rfl)
                simp only [List.getElem_toArray, List.getElem_cons_succ, List.getElem_cons_zero, Act.put, List.setIfInBounds_toArray, List.set_cons_zero, List.set_cons_succ]
                refine wpAnyH_take (i := 11) (v := ?_) rfl (by kernel_rfl) (by kernel_rfl) (by kernel_rfl) (fun _ _ _ h => h) (Or.inl ⟨by rfl, ?_⟩) (by assumption) ?_
                rotate_left
                · (intro w hSw; (try dsimp only at hSw); go_split_ands; go_simp; first | done | with_reducible rfl)
                simp only [List.getElem_toArray, List.getElem_cons_succ, List.getElem_cons_zero, Act.put, List.setIfInBounds_toArray, List.set_cons_zero, List.set_cons_succ]
                refine wpAnyH_ready (rs := [12]) (by kernel_rfl) (by simp) ?_
                refine AllReadyH.cons rfl (fun K hK => ?_) ?_
                · go_simp
                  refine hK.out _ _ ?_ (fun hHeld => ?_)
                  · first | exact hHeld | exact g1 | exact HSK.out _ (Below.heap_alloc _ _ _ HPL.out) | exact HSS.out _ 1 _ g1 | exact HSS.out _ 3 _ (HSS.out _ 1 _ g1)
                  clear hK K
                  refine wpAnyH_take (i := 13) (v := ?_) rfl (by kernel_rfl) (by kernel_rfl) (by kernel_rfl) (fun _ _ _ h => h) (Or.inl ⟨by rfl, ?_⟩) (by assumption) ?_
                  rotate_left
                  · (intro w hSw; (try dsimp only at hSw); go_split_ands; go_simp; first | done | with_reducible rfl)
                  simp only [List.getElem_toArray, List.getElem_cons_succ, List.getElem_cons_zero, Act.put, List.setIfInBounds_toArray, List.set_cons_zero, List.set_cons_succ]
                  refine wpAnyH_ready (rs := [14]) (by kernel_rfl) (by simp) ?_
                  refine AllReadyH.cons rfl (fun K hK => ?_) ?_
                  · go_simp
                    refine hK.out _ _ ?_ (fun hHeld => ?_)
                    · first | exact hHeld | exact g1 | exact HSK.out _ (Below.heap_alloc _ _ _ HPL.out) | exact HSS.out _ 1 _ g1 | exact HSS.out _ 3 _ (HSS.out _ 1 _ g1)
                    clear hK K
                    refine wpAnyH_done (by kernel_rfl) ?_ _
                    clear hHeld cp cq cS3 fS3 cD3 fD3 cD4 fD4 hownd hszd hszd2 hlen2 hto hplt hbig happ hsz3 hsz4 g1 g2' g3
                    gi_wp2
                    exact FIN.out _ _ hA
                  exact AllReadyH.nil
                exact AllReadyH.nil
              exact AllReadyH.nil
            refine AllReadyH.cons rfl (fun K hK => ?_) ?_
            · go_simp
              refine hK.out _ _ ?_ (fun hHeld => ?_)
              · first | exact hHeld | exact g1 | exact HSK.out _ (Below.heap_alloc _ _ _ HPL.out) | exact HSS.out _ 1 _ g1 | exact HSS.out _ 3 _ (HSS.out _ 1 _ g1)
              clear hK K
              refine wpAnyH_take (i := 10) (v := ?_) rfl (by kernel_rfl) (by kernel_rfl) (by kernel_rfl) (fun _ _ _ h => h) (Or.inl ⟨by rfl, ?_⟩) (by assumption) ?_
              rotate_left
              · (intro w hSw; (try dsimp only at hSw); go_split_ands; go_simp; first | done | with_reducible rfl)
              simp only [List.getElem_toArray, List.getElem_cons_succ, List.getElem_cons_zero, Act.put, List.setIfInBounds_toArray, List.set_cons_zero, List.set_cons_succ]
              refine wpAnyH_ready (rs := [5]) (by kernel_rfl) (by simp) ?_
              refine AllReadyH.cons rfl (fun K hK => ?_) ?_
              · (refine step_app1 (W := Wv.drew) W1.heap.size (.tmp 68) (.tmp 71) 26 3 (.int .i64 0) 1 8 rfl Tryz.underlying26 Tryz.info_int rfl (by decide) (by decide) vL d.left.length (intVs d.left) [.int .i64 ri] rfl rfl rfl (by simp [Value.oneCell']) hownd hszd2 hlen2 rfl ?_; intro z1 w5 hA; obtain ⟨gg, cap1, rfl⟩ := ownsRow_succ hA.own; obtain ⟨g1, g2', g3, g4, g5, g6⟩ := HSA.out _ hA.mod)
                refine hK.out _ _ ?_ (fun hHeld => ?_)
                · first | exact hHeld | exact g1 | exact HSK.out _ (Below.heap_alloc _ _ _ HPL.out) | exact HSS.out _ 1 _ g1 | exact HSS.out _ 3 _ (HSS.out _ 1 _ g1)
                clear hK K
                refine wpAnyH_take (i := 11) (v := ?_) rfl (by kernel_rfl) (by kernel_rfl) (by kernel_rfl) (fun _ _ _ h => h) (Or.inl ⟨by rfl, ?_⟩) (by assumption) ?_
                rotate_left
                · (intro w hSw; (try dsimp only at hSw); go_split_ands; go_simp; first | done | with_reducible rfl)
                simp only [List.getElem_toArray, List.getElem_cons_succ, List.getElem_cons_zero, Act.put, List.setIfInBounds_toArray, List.set_cons_zero, List.set_cons_succ]
                refine wpAnyH_ready (rs := [12]) (by kernel_rfl) (by simp) ?_
                refine AllReadyH.cons rfl (fun K hK => ?_) ?_
                · go_simp
                  refine hK.out _ _ ?_ (fun hHeld => ?_)
                  · first | exact hHeld | exact g1 | exact HSK.out _ (Below.heap_alloc _ _ _ HPL.out) | exact HSS.out _ 1 _ g1 | exact HSS.out _ 3 _ (HSS.out _ 1 _ g1)
                  clear hK K
                  refine wpAnyH_take (i := 13) (v := ?_) rfl (by kernel_rfl) (by kernel_rfl) (by kernel_rfl) (fun _ _ _ h => h) (Or.inl ⟨by rfl, ?_⟩) (by assumption) ?_
                  rotate_left
                  · (intro w hSw; (try dsimp only at hSw); go_split_ands; go_simp; first | done | with_reducible rfl)
                  simp only [List.getElem_toArray, List.getElem_cons_succ, List.getElem_cons_zero, Act.put, List.setIfInBounds_toArray, List.set_cons_zero, List.set_cons_succ]
                  refine wpAnyH_ready (rs := [14]) (by kernel_rfl) (by simp) ?_
                  refine AllReadyH.cons rfl (fun K hK => ?_) ?_
                  · go_simp
                    refine hK.out _ _ ?_ (fun hHeld => ?_)
                    · first | exact hHeld | exact g1 | exact HSK.out _ (Below.heap_alloc _ _ _ HPL.out) | exact HSS.out _ 1 _ g1 | exact HSS.out _ 3 _ (HSS.out _ 1 _ g1)
                    clear hK K
                    refine wpAnyH_done (by kernel_rfl) ?_ _
                    clear hHeld cp cq cS3 fS3 cD3 fD3 cD4 fD4 hownd hszd hszd2 hlen2 hto hplt hbig happ hsz3 hsz4 g1 g2' g3
                    gi_wp2
                    exact FIN.out _ _ hA
                  exact AllReadyH.nil
                exact AllReadyH.nil
              exact AllReadyH.nil
            exact AllReadyH.nil
          refine AllReadyH.cons rfl (fun K hK => ?_) ?_
          · go_simp
            refine hK.out _ _ ?_ (fun hHeld => ?_)
            · first | exact hHeld | exact g1 | exact HSK.out _ (Below.heap_alloc _ _ _ HPL.out) | exact HSS.out _ 1 _ g1 | exact HSS.out _ 3 _ (HSS.out _ 1 _ g1)
            clear hK K
            refine wpAnyH_take (i := 10) (v := ?_) rfl (by kernel_rfl) (by kernel_rfl) (by kernel_rfl) (fun _ _ _ h => h) (Or.inl ⟨by rfl, ?_⟩) (by assumption) ?_
            rotate_left
            · (intro w hSw; (try dsimp only at hSw); go_split_ands; go_simp; first | done | with_reducible rfl)
            simp only [List.getElem_toArray, List.getElem_cons_succ, List.getElem_cons_zero, Act.put, List.setIfInBounds_toArray, List.set_cons_zero, List.set_cons_succ]
            refine wpAnyH_ready (rs := [4]) (by kernel_rfl) (by simp) ?_
            refine AllReadyH.cons rfl (fun K hK => ?_) ?_
            · go_simp
              refine hK.out _ _ ?_ (fun hHeld => ?_)
              · first | exact hHeld | exact g1 | exact HSK.out _ (Below.heap_alloc _ _ _ HPL.out) | exact HSS.out _ 1 _ g1 | exact HSS.out _ 3 _ (HSS.out _ 1 _ g1)
              clear hK K
              refine wpAnyH_ready (rs := [5]) (by kernel_rfl) (by simp) ?_
              refine AllReadyH.cons rfl (fun K hK => ?_) ?_
              · (refine step_app1 (W := Wv.drew) W1.heap.size (.tmp 68) (.tmp 71) 26 3 (.int .i64 0) 1 8 rfl Tryz.underlying26 Tryz.info_int rfl (by decide) (by decide) vL d.left.length (intVs d.left) [.int .i64 ri] rfl rfl rfl (by simp [Value.oneCell']) hownd hszd2 hlen2 rfl ?_; intro z1 w5 hA; obtain ⟨gg, cap1, rfl⟩ := ownsRow_succ hA.own; obtain ⟨g1, g2', g3, g4, g5, g6⟩ := HSA.out _ hA.mod)
                refine hK.out _ _ ?_ (fun hHeld => ?_)
                · first | exact hHeld | exact g1 | exact HSK.out _ (Below.heap_alloc _ _ _ HPL.out) | exact HSS.out _ 1 _ g1 | exact HSS.out _ 3 _ (HSS.out _ 1 _ g1)
                clear hK K
                refine wpAnyH_take (i := 11) (v := ?_) rfl (by kernel_rfl) (by kernel_rfl) (by kernel_rfl) (fun _ _ _ h => h) (Or.inl ⟨by rfl, ?_⟩) (by assumption) ?_
                rotate_left
                · (intro w hSw; (try dsimp only at hSw); go_split_ands; go_simp; first | done | with_reducible rfl)
                simp only [List.getElem_toArray, List.getElem_cons_succ, List.getElem_cons_zero, Act.put, List.setIfInBounds_toArray, List.set_cons_zero, List.set_cons_succ]
                refine wpAnyH_ready (rs := [12]) (by kernel_rfl) (by simp) ?_
                refine AllReadyH.cons rfl (fun K hK => ?_) ?_
                · go_simp
                  refine hK.out _ _ ?_ (fun hHeld => ?_)
                  · first | exact hHeld | exact g1 | exact HSK.out _ (Below.heap_alloc _ _ _ HPL.out) | exact HSS.out _ 1 _ g1 | exact HSS.out _ 3 _ (HSS.out _ 1 _ g1)
                  clear hK K
                  refine wpAnyH_take (i := 13) (v := ?_) rfl (by kernel_rfl) (by kernel_rfl) (by kernel_rfl) (fun _ _ _ h => h) (Or.inl ⟨by rfl, ?_⟩) (by assumption) ?_
                  rotate_left
                  · (intro w hSw; (try dsimp only at hSw); go_split_ands; go_simp; first | done | with_reducible rfl)
                  simp only [List.getElem_toArray, List.getElem_cons_succ, List.getElem_cons_zero, Act.put, List.setIfInBounds_toArray, List.set_cons_zero, List.set_cons_succ]
                  refine wpAnyH_ready (rs := [14]) (by kernel_rfl) (by simp) ?_
                  refine AllReadyH.cons rfl (fun K hK => ?_) ?_
                  · go_simp
                    refine hK.out _ _ ?_ (fun hHeld => ?_)
                    · first | exact hHeld | exact g1 | exact HSK.out _ (Below.heap_alloc _ _ _ HPL.out) | exact HSS.out _ 1 _ g1 | exact HSS.out _ 3 _ (HSS.out _ 1 _ g1)
                    clear hK K
                    refine wpAnyH_done (by kernel_rfl) ?_ _
                    clear hHeld cp cq cS3 fS3 cD3 fD3 cD4 fD4 hownd hszd hszd2 hlen2 hto hplt hbig happ hsz3 hsz4 g1 g2' g3
                    gi_wp2
                    exact FIN.out _ _ hA
                  exact AllReadyH.nil
                exact AllReadyH.nil
              exact AllReadyH.nil
            exact AllReadyH.nil
          exact AllReadyH.nil
        refine AllReadyH.cons rfl (fun K hK => ?_) ?_
        · go_simp
          refine hK.out _ _ ?_ (fun hHeld => ?_)
          · first | exact hHeld | exact g1 | exact HSK.out _ (Below.heap_alloc _ _ _ HPL.out) | exact HSS.out _ 1 _ g1 | exact HSS.out _ 3 _ (HSS.out _ 1 _ g1)
          clear hK K
          refine wpAnyH_ready (rs := [1, 7]) (by kernel_rfl) (by simp) ?_
          refine AllReadyH.cons rfl (fun K hK => ?_) ?_
          · go_simp
            refine hK.out _ _ ?_ (fun hHeld => ?_)
            · first | exact hHeld | exact g1 | exact HSK.out _ (Below.heap_alloc _ _ _ HPL.out) | exact HSS.out _ 1 _ g1 | exact HSS.out _ 3 _ (HSS.out _ 1 _ g1)
            clear hK K
            refine wpAnyH_ready (rs := [5, 7]) (by kernel_rfl) (by simp) ?_
            refine AllReadyH.cons rfl (fun K hK => ?_) ?_
            · (refine step_app1 (W := Wv.drew) W1.heap.size (.tmp 68) (.tmp 71) 26 3 (.int .i64 0) 1 8 rfl Tryz.underlying26 Tryz.info_int rfl (by decide) (by decide) vL d.left.length (intVs d.left) [.int .i64 ri] rfl rfl rfl (by simp [Value.oneCell']) hownd hszd2 hlen2 rfl ?_; intro z1 w5 hA; obtain ⟨gg, cap1, rfl⟩ := ownsRow_succ hA.own; obtain ⟨g1, g2', g3, g4, g5, g6⟩ := HSA.out _ hA.mod)
              refine hK.out _ _ ?_ (fun hHeld => ?_)
              · first | exact hHeld | exact g1 | exact HSK.out _ (Below.heap_alloc _ _ _ HPL.out) | exact HSS.out _ 1 _ g1 | exact HSS.out _ 3 _ (HSS.out _ 1 _ g1)
              clear hK K
              refine wpAnyH_ready (rs := [7]) (by kernel_rfl) (by simp) ?_
              refine AllReadyH.cons rfl (fun K hK => ?_) ?_
              · go_simp
                refine hK.out _ _ ?_ (fun hHeld => ?_)
                · first | exact hHeld | exact g1 | exact HSK.out _ (Below.heap_alloc _ _ _ HPL.out) | exact HSS.out _ 1 _ g1 | exact HSS.out _ 3 _ (HSS.out _ 1 _ g1)
                clear hK K
                refine wpAnyH_take (i := 10) (v := ?_) rfl (by kernel_rfl) (by kernel_rfl) (by kernel_rfl) (fun _ _ _ h => h) (Or.inl ⟨by rfl, ?_⟩) (by assumption) ?_
                rotate_left
                · (intro w hSw; (try dsimp only at hSw); go_split_ands; go_simp; first | done | with_reducible rfl)
                simp only [List.getElem_toArray, List.getElem_cons_succ, List.getElem_cons_zero, Act.put, List.setIfInBounds_toArray, List.set_cons_zero, List.set_cons_succ]
                refine wpAnyH_take (i := 11) (v := ?_) rfl (by kernel_rfl) (by kernel_rfl) (by kernel_rfl) (fun _ _ _ h => h) (Or.inl ⟨by rfl, ?_⟩) (by assumption) ?_
                rotate_left
                · (intro w hSw; (try dsimp only at hSw); go_split_ands; go_simp; first | done | with_reducible rfl)
                simp only [List.getElem_toArray, List.getElem_cons_succ, List.getElem_cons_zero, Act.put, List.setIfInBounds_toArray, List.set_cons_zero, List.set_cons_succ]
                refine wpAnyH_ready (rs := [12]) (by kernel_rfl) (by simp) ?_
                refine AllReadyH.cons rfl (fun K hK => ?_) ?_
                · go_simp
                  refine hK.out _ _ ?_ (fun hHeld => ?_)
                  · first | exact hHeld | exact g1 | exact HSK.out _ (Below.heap_alloc _ _ _ HPL.out) | exact HSS.out _ 1 _ g1 | exact HSS.out _ 3 _ (HSS.out _ 1 _ g1)
                  clear hK K
                  refine wpAnyH_take (i := 13) (v := ?_) rfl (by kernel_rfl) (by kernel_rfl) (by kernel_rfl) (fun _ _ _ h => h) (Or.inl ⟨by rfl, ?_⟩) (by assumption) ?_
                  rotate_left
                  · (intro w hSw; (try dsimp only at hSw); go_split_ands; go_simp; first | done | with_reducible rfl)
                  simp only [List.getElem_toArray, List.getElem_cons_succ, List.getElem_cons_zero, Act.put, List.setIfInBounds_toArray, List.set_cons_zero, List.set_cons_succ]
                  refine wpAnyH_ready (rs := [14]) (by kernel_rfl) (by simp) ?_
                  refine AllReadyH.cons rfl (fun K hK => ?_) ?_
                  · go_simp
                    refine hK.out _ _ ?_ (fun hHeld => ?_)
                    · first | exact hHeld | exact g1 | exact HSK.out _ (Below.heap_alloc _ _ _ HPL.out) | exact HSS.out _ 1 _ g1 | exact HSS.out _ 3 _ (HSS.out _ 1 _ g1)
                    clear hK K
                    refine wpAnyH_done (by kernel_rfl) ?_ _
                    clear hHeld cp cq cS3 fS3 cD3 fD3 cD4 fD4 hownd hszd hszd2 hlen2 hto hplt hbig happ hsz3 hsz4 g1 g2' g3
                    gi_wp2
                    exact FIN.out _ _ hA
                  exact AllReadyH.nil
                exact AllReadyH.nil
              exact AllReadyH.nil
            refine AllReadyH.cons rfl (fun K hK => ?_) ?_
            · go_simp
              refine hK.out _ _ ?_ (fun hHeld => ?_)
              · first | exact hHeld | exact g1 | exact HSK.out _ (Below.heap_alloc _ _ _ HPL.out) | exact HSS.out _ 1 _ g1 | exact HSS.out _ 3 _ (HSS.out _ 1 _ g1)
              clear hK K
              refine wpAnyH_take (i := 10) (v := ?_) rfl (by kernel_rfl) (by kernel_rfl) (by kernel_rfl) (fun _ _ _ h => h) (Or.inl ⟨by rfl, ?_⟩) (by assumption) ?_
              rotate_left
              · (intro w hSw; (try dsimp only at hSw); go_split_ands; go_simp; first | done | with_reducible rfl)
              simp only [List.getElem_toArray, List.getElem_cons_succ, List.getElem_cons_zero, Act.put, List.setIfInBounds_toArray, List.set_cons_zero, List.set_cons_succ]
              refine wpAnyH_ready (rs := [5]) (by kernel_rfl) (by simp) ?_
              refine AllReadyH.cons rfl (fun K hK => ?_) ?_
              · (refine step_app1 (W := Wv.drew) W1.heap.size (.tmp 68) (.tmp 71) 26 3 (.int .i64 0) 1 8 rfl Tryz.underlying26 Tryz.info_int rfl (by decide) (by decide) vL d.left.length (intVs d.left) [.int .i64 ri] rfl rfl rfl (by simp [Value.oneCell']) hownd hszd2 hlen2 rfl ?_; intro z1 w5 hA; obtain ⟨gg, cap1, rfl⟩ := ownsRow_succ hA.own; obtain ⟨g1, g2', g3, g4, g5, g6⟩ := HSA.out _ hA.mod)
                refine hK.out _ _ ?_ (fun hHeld => ?_)
                · first | exact hHeld | exact g1 | exact HSK.out _ (Below.heap_alloc _ _ _ HPL.out) | exact HSS.out _ 1 _ g1 | exact HSS.out _ 3 _ (HSS.out _ 1 _ g1)
                clear hK K
                refine wpAnyH_take (i := 11) (v := ?_) rfl (by kernel_rfl) (by kernel_rfl) (by kernel_rfl) (fun _ _ _ h => h) (Or.inl ⟨by rfl, ?_⟩) (by assumption) ?_
                rotate_left
                · (intro w hSw; (try dsimp only at hSw); go_split_ands; go_simp; first | done | with_reducible rfl)
                simp only [List.getElem_toArray, List.getElem_cons_succ, List.getElem_cons_zero, Act.put, List.setIfInBounds_toArray, List.set_cons_zero, List.set_cons_succ]
                refine wpAnyH_ready (rs := [12]) (by kernel_rfl) (by simp) ?_
                refine AllReadyH.cons rfl (fun K hK => ?_) ?_
                · go_simp
                  refine hK.out _ _ ?_ (fun hHeld => ?_)
                  · first | exact hHeld | exact g1 | exact HSK.out _ (Below.heap_alloc _ _ _ HPL.out) | exact HSS.out _ 1 _ g1 | exact HSS.out _ 3 _ (HSS.out _ 1 _ g1)
                  clear hK K
                  refine wpAnyH_take (i := 13) (v := ?_) rfl (by kernel_rfl) (by kernel_rfl) (by kernel_rfl) (fun _ _ _ h => h) (Or.inl ⟨by rfl, ?_⟩) (by assumption) ?_
                  rotate_left
                  · (intro w hSw; (try dsimp only at hSw); go_split_ands; go_simp; first | done | with_reducible rfl)
                  simp only [List.getElem_toArray, List.getElem_cons_succ, List.getElem_cons_zero, Act.put, List.setIfInBounds_toArray, List.set_cons_zero, List.set_cons_succ]
                  refine wpAnyH_ready (rs := [14]) (by kernel_rfl) (by simp) ?_
                  refine AllReadyH.cons rfl (fun K hK => ?_) ?_
                  · go_simp
                    refine hK.out _ _ ?_ (fun hHeld => ?_)
                    · first | exact hHeld | exact g1 | exact HSK.out _ (Below.heap_alloc _ _ _ HPL.out) | exact HSS.out _ 1 _ g1 | exact HSS.out _ 3 _ (HSS.out _ 1 _ g1)
                    clear hK K
                    refine wpAnyH_done (by kernel_rfl) ?_ _
                    clear hHeld cp cq cS3 fS3 cD3 fD3 cD4 fD4 hownd hszd hszd2 hlen2 hto hplt hbig happ hsz3 hsz4 g1 g2' g3
                    gi_wp2
                    exact FIN.out _ _ hA
                  exact AllReadyH.nil
                exact AllReadyH.nil
              exact AllReadyH.nil
            exact AllReadyH.nil
          refine AllReadyH.cons rfl (fun K hK => ?_) ?_
          · go_simp
            refine hK.out _ _ ?_ (fun hHeld => ?_)
            · first | exact hHeld | exact g1 | exact HSK.out _ (Below.heap_alloc _ _ _ HPL.out) | exact HSS.out _ 1 _ g1 | exact HSS.out _ 3 _ (HSS.out _ 1 _ g1)
            clear hK K
            refine wpAnyH_take (i := 10) (v := ?_) rfl (by kernel_rfl) (by kernel_rfl) (by kernel_rfl) (fun _ _ _ h => h) (Or.inl ⟨by rfl, ?_⟩) (by assumption) ?_
            rotate_left
            · (intro w hSw; (try dsimp only at hSw); go_split_ands; go_simp; first | done | with_reducible rfl)
            simp only [List.getElem_toArray, List.getElem_cons_succ, List.getElem_cons_zero, Act.put, List.setIfInBounds_toArray, List.set_cons_zero, List.set_cons_succ]
            refine wpAnyH_ready (rs := [1]) (by kernel_rfl) (by simp) ?_
            refine AllReadyH.cons rfl (fun K hK => ?_) ?_
            · go_simp
              refine hK.out _ _ ?_ (fun hHeld => ?_)
              · first | exact hHeld | exact g1 | exact HSK.out _ (Below.heap_alloc _ _ _ HPL.out) | exact HSS.out _ 1 _ g1 | exact HSS.out _ 3 _ (HSS.out _ 1 _ g1)
              clear hK K
              refine wpAnyH_ready (rs := [5]) (by kernel_rfl) (by simp) ?_
              refine AllReadyH.cons rfl (fun K hK => ?_) ?_
              · (refine step_app1 (W := Wv.drew) W1.heap.size (.tmp 68) (.tmp 71) 26 3 (.int .i64 0) 1 8 rfl Tryz.underlying26 Tryz.info_int rfl (by decide) (by decide) vL d.left.length (intVs d.left) [.int .i64 ri] rfl rfl rfl (by simp [Value.oneCell']) hownd hszd2 hlen2 rfl ?_; intro z1 w5 hA; obtain ⟨gg, cap1, rfl⟩ := ownsRow_succ hA.own; obtain ⟨g1, g2', g3, g4, g5, g6⟩ := HSA.out _ hA.mod)
                refine hK.out _ _ ?_ (fun hHeld => ?_)
                · first | exact hHeld | exact g1 | exact HSK.out _ (Below.heap_alloc _ _ _ HPL.out) | exact HSS.out _ 1 _ g1 | exact HSS.out _ 3 _ (HSS.out _ 1 _ g1)
                clear hK K
                refine wpAnyH_take (i := 11) (v := ?_) rfl (by kernel_rfl) (by kernel_rfl) (by kernel_rfl) (fun _ _ _ h => h) (Or.inl ⟨by rfl, ?_⟩) (by assumption) ?_
                rotate_left
                · (intro w hSw; (try dsimp only at hSw); go_split_ands; go_simp; first | done | with_reducible rfl)
                simp only [List.getElem_toArray, List.getElem_cons_succ, List.getElem_cons_zero, Act.put, List.setIfInBounds_toArray, List.set_cons_zero, List.set_cons_succ]
                refine wpAnyH_ready (rs := [12]) (by kernel_rfl) (by simp) ?_
                refine AllReadyH.cons rfl (fun K hK => ?_) ?_
                · go_simp
                  refine hK.out _ _ ?_ (fun hHeld => ?_)
                  · first | exact hHeld | exact g1 | exact HSK.out _ (Below.heap_alloc _ _ _ HPL.out) | exact HSS.out _ 1 _ g1 | exact HSS.out _ 3 _ (HSS.out _ 1 _ g1)
                  clear hK K
                  refine wpAnyH_take (i := 13) (v := ?_) rfl (by kernel_rfl) (by kernel_rfl) (by kernel_rfl) (fun _ _ _ h => h) (Or.inl ⟨by rfl, ?_⟩) (by assumption) ?_
                  rotate_left
                  · (intro w hSw; (try dsimp only at hSw); go_split_ands; go_simp; first | done | with_reducible rfl)
                  simp only [List.getElem_toArray, List.getElem_cons_succ, List.getElem_cons_zero, Act.put, List.setIfInBounds_toArray, List.set_cons_zero, List.set_cons_succ]
                  refine wpAnyH_ready (rs := [14]) (by kernel_rfl) (by simp) ?_
                  refine AllReadyH.cons rfl (fun K hK => ?_) ?_
                  · go_simp
                    refine hK.out _ _ ?_ (fun hHeld => ?_)
                    · first | exact hHeld | exact g1 | exact HSK.out _ (Below.heap_alloc _ _ _ HPL.out) | exact HSS.out _ 1 _ g1 | exact HSS.out _ 3 _ (HSS.out _ 1 _ g1)
                    clear hK K
                    refine wpAnyH_done (by kernel_rfl) ?_ _
                    clear hHeld cp cq cS3 fS3 cD3 fD3 cD4 fD4 hownd hszd hszd2 hlen2 hto hplt hbig happ hsz3 hsz4 g1 g2' g3
                    gi_wp2
                    exact FIN.out _ _ hA
                  exact AllReadyH.nil
                exact AllReadyH.nil
              exact AllReadyH.nil
            exact AllReadyH.nil
          exact AllReadyH.nil
        refine AllReadyH.cons rfl (fun K hK => ?_) ?_
        · go_simp
          refine hK.out _ _ ?_ (fun hHeld => ?_)
          · first | exact hHeld | exact g1 | exact HSK.out _ (Below.heap_alloc _ _ _ HPL.out) | exact HSS.out _ 1 _ g1 | exact HSS.out _ 3 _ (HSS.out _ 1 _ g1)
          clear hK K
          refine wpAnyH_take (i := 10) (v := ?_) rfl (by kernel_rfl) (by kernel_rfl) (by kernel_rfl) (fun _ _ _ h => h) (Or.inl ⟨by rfl, ?_⟩) (by assumption) ?_
          rotate_left
          · (intro w hSw; (try dsimp only at hSw); go_split_ands; go_simp; first | done | with_reducible rfl)
          simp only [List.getElem_toArray, List.getElem_cons_succ, List.getElem_cons_zero, Act.put, List.setIfInBounds_toArray, List.set_cons_zero, List.set_cons_succ]
          refine wpAnyH_ready (rs := [1, 4]) (by kernel_rfl) (by simp) ?_
          refine AllReadyH.cons rfl (fun K hK => ?_) ?_
          · go_simp
            refine hK.out _ _ ?_ (fun hHeld => ?_)
            · first | exact hHeld | exact g1 | exact HSK.out _ (Below.heap_alloc _ _ _ HPL.out) | exact HSS.out _ 1 _ g1 | exact HSS.out _ 3 _ (HSS.out _ 1 _ g1)
            clear hK K
            refine wpAnyH_ready (rs := [4]) (by kernel_rfl) (by simp) ?_
            refine AllReadyH.cons rfl (fun K hK => ?_) ?_
            · go_simp
              refine hK.out _ _ ?_ (fun hHeld => ?_)
              · first | exact hHeld | exact g1 | exact HSK.out _ (Below.heap_alloc _ _ _ HPL.out) | exact HSS.out _ 1 _ g1 | exact HSS.out _ 3 _ (HSS.out _ 1 _ g1)
              clear hK K
              refine wpAnyH_ready (rs := [5]) (by kernel_rfl) (by simp) ?_
              refine AllReadyH.cons rfl (fun K hK => ?_) ?_
              · (refine step_app1 (W := Wv.drew) W1.heap.size (.tmp 68) (.tmp 71) 26 3 (.int .i64 0) 1 8 rfl Tryz.underlying26 Tryz.info_int rfl (by decide) (by decide) vL d.left.length (intVs d.left) [.int .i64 ri] rfl rfl rfl (by simp [Value.oneCell']) hownd hszd2 hlen2 rfl ?_; intro z1 w5 hA; obtain ⟨gg, cap1, rfl⟩ := ownsRow_succ hA.own; obtain ⟨g1, g2', g3, g4, g5, g6⟩ := HSA.out _ hA.mod)
                refine hK.out _ _ ?_ (fun hHeld => ?_)
                · first | exact hHeld | exact g1 | exact HSK.out _ (Below.heap_alloc _ _ _ HPL.out) | exact HSS.out _ 1 _ g1 | exact HSS.out _ 3 _ (HSS.out _ 1 _ g1)
                clear hK K
                refine wpAnyH_take (i := 11) (v := ?_) rfl (by kernel_rfl) (by kernel_rfl) (by kernel_rfl) (fun _ _ _ h => h) (Or.inl ⟨by rfl, ?_⟩) (by assumption) ?_
                rotate_left
                · (intro w hSw; (try dsimp only at hSw); go_split_ands; go_simp; first | done | with_reducible rfl)
                simp only [List.getElem_toArray, List.getElem_cons_succ, List.getElem_cons_zero, Act.put, List.setIfInBounds_toArray, List.set_cons_zero, List.set_cons_succ]
                refine wpAnyH_ready (rs := [12]) (by kernel_rfl) (by simp) ?_
                refine AllReadyH.cons rfl (fun K hK => ?_) ?_
                · go_simp
                  refine hK.out _ _ ?_ (fun hHeld => ?_)
                  · first | exact hHeld | exact g1 | exact HSK.out _ (Below.heap_alloc _ _ _ HPL.out) | exact HSS.out _ 1 _ g1 | exact HSS.out _ 3 _ (HSS.out _ 1 _ g1)
                  clear hK K
                  refine wpAnyH_take (i := 13) (v := ?_) rfl (by kernel_rfl) (by kernel_rfl) (by kernel_rfl) (fun _ _ _ h => h) (Or.inl ⟨by rfl, ?_⟩) (by assumption) ?_
                  rotate_left
                  · (intro w hSw; (try dsimp only at hSw); go_split_ands; go_simp; first | done | with_reducible rfl)
                  simp only [List.getElem_toArray, List.getElem_cons_succ, List.getElem_cons_zero, Act.put, List.setIfInBounds_toArray, List.set_cons_zero, List.set_cons_succ]
                  refine wpAnyH_ready (rs := [14]) (by kernel_rfl) (by simp) ?_
                  refine AllReadyH.cons rfl (fun K hK => ?_) ?_
                  · go_simp
                    refine hK.out _ _ ?_ (fun hHeld => ?_)
                    · first | exact hHeld | exact g1 | exact HSK.out _ (Below.heap_alloc _ _ _ HPL.out) | exact HSS.out _ 1 _ g1 | exact HSS.out _ 3 _ (HSS.out _ 1 _ g1)
                    clear hK K
                    refine wpAnyH_done (by kernel_rfl) ?_ _
                    clear hHeld cp cq cS3 fS3 cD3 fD3 cD4 fD4 hownd hszd hszd2 hlen2 hto hplt hbig happ hsz3 hsz4 g1 g2' g3
                    gi_wp2
                    exact FIN.out _ _ hA
                  exact AllReadyH.nil
                exact AllReadyH.nil
              exact AllReadyH.nil
            exact AllReadyH.nil
          refine AllReadyH.cons rfl (fun K hK => ?_) ?_
          · go_simp
            refine hK.out _ _ ?_ (fun hHeld => ?_)
            · first | exact hHeld | exact g1 | exact HSK.out _ (Below.heap_alloc _ _ _ HPL.out) | exact HSS.out _ 1 _ g1 | exact HSS.out _ 3 _ (HSS.out _ 1 _ g1)
            clear hK K
            refine wpAnyH_ready (rs := [1]) (by kernel_rfl) (by simp) ?_
            refine AllReadyH.cons rfl (fun K hK => ?_) ?_
            · go_simp
              refine hK.out _ _ ?_ (fun hHeld => ?_)
              · first | exact hHeld | exact g1 | exact HSK.out _ (Below.heap_alloc _ _ _ HPL.out) | exact HSS.out _ 1 _ g1 | exact HSS.out _ 3 _ (HSS.out _ 1 _ g1)
              clear hK K
              refine wpAnyH_ready (rs := [5]) (by kernel_rfl) (by simp) ?_
              refine AllReadyH.cons rfl (fun K hK => ?_) ?_
              · (refine step_app1 (W := Wv.drew) W1.heap.size (.tmp 68) (.tmp 71) 26 3 (.int .i64 0) 1 8 rfl Tryz.underlying26 Tryz.info_int rfl (by decide) (by decide) vL d.left.length (intVs d.left) [.int .i64 ri] rfl rfl rfl (by simp [Value.oneCell']) hownd hszd2 hlen2 rfl ?_; intro z1 w5 hA; obtain ⟨gg, cap1, rfl⟩ := ownsRow_succ hA.own; obtain ⟨g1, g2', g3, g4, g5, g6⟩ := HSA.out _ hA.mod)
                refine hK.out _ _ ?_ (fun hHeld => ?_)
                · first | exact hHeld | exact g1 | exact HSK.out _ (Below.heap_alloc _ _ _ HPL.out) | exact HSS.out _ 1 _ g1 | exact HSS.out _ 3 _ (HSS.out _ 1 _ g1)
                clear hK K
                refine wpAnyH_take (i := 11) (v := ?_) rfl (by kernel_rfl) (by kernel_rfl) (by kernel_rfl) (fun _ _ _ h => h) (Or.inl ⟨by rfl, ?_⟩) (by assumption) ?_
                rotate_left
                · (intro w hSw; (try dsimp only at hSw); go_split_ands; go_simp; first | done | with_reducible rfl)
                simp only [List.getElem_toArray, List.getElem_cons_succ, List.getElem_cons_zero, Act.put, List.setIfInBounds_toArray, List.set_cons_zero, List.set_cons_succ]
                refine wpAnyH_ready (rs := [12]) (by kernel_rfl) (by simp) ?_
                refine AllReadyH.cons rfl (fun K hK => ?_) ?_
                · go_simp
                  refine hK.out _ _ ?_ (fun hHeld => ?_)
                  · first | exact hHeld | exact g1 | exact HSK.out _ (Below.heap_alloc _ _ _ HPL.out) | exact HSS.out _ 1 _ g1 | exact HSS.out _ 3 _ (HSS.out _ 1 _ g1)
                  clear hK K
                  refine wpAnyH_take (i := 13) (v := ?_) rfl (by kernel_rfl) (by kernel_rfl) (by kernel_rfl) (fun _ _ _ h => h) (Or.inl ⟨by rfl, ?_⟩) (by assumption) ?_
                  rotate_left
                  · (intro w hSw; (try dsimp only at hSw); go_split_ands; go_simp; first | done | with_reducible rfl)
                  simp only [List.getElem_toArray, List.getElem_cons_succ, List.getElem_cons_zero, Act.put, List.setIfInBounds_toArray, List.set_cons_zero, List.set_cons_succ]
                  refine wpAnyH_ready (rs := [14]) (by kernel_rfl) (by simp) ?_
                  refine AllReadyH.cons rfl (fun K hK => ?_) ?_
                  · go_simp
                    refine hK.out _ _ ?_ (fun hHeld => ?_)
                    · first | exact hHeld | exact g1 | exact HSK.out _ (Below.heap_alloc _ _ _ HPL.out) | exact HSS.out _ 1 _ g1 | exact HSS.out _ 3 _ (HSS.out _ 1 _ g1)
                    clear hK K
                    refine wpAnyH_done (by kernel_rfl) ?_ _
                    clear hHeld cp cq cS3 fS3 cD3 fD3 cD4 fD4 hownd hszd hszd2 hlen2 hto hplt hbig happ hsz3 hsz4 g1 g2' g3
                    gi_wp2
                    exact FIN.out _ _ hA
                  exact AllReadyH.nil
                exact AllReadyH.nil
              exact AllReadyH.nil
            exact AllReadyH.nil
          exact AllReadyH.nil
        exact AllReadyH.nil
      · have HSA : Hid (∀ w5, Mod (fun k => vR.ownBlock = some k) Wv w5 → _) := Lib.hid (fun w5 hm => HQ1.out vR w5 hm (fun g hg => ⟨own_far HBV.out.right hg HBV.out.st (by decide), own_far HBV.out.right hg HBV.out.der (by decide), own_far HBV.out.right hg HPK.out (by decide), own_far HBV.out.right hg HQK.out (by decide)⟩))
        have htk : takeS d ⟨i, j, ah, rt⟩ (⟨ri, rc, rf, rto⟩, ⟨ni, nj, na, nr⟩) = { d with right := d.right ++ [ri] } := by unfold takeS; rw [if_neg (by simpa using hgt)]
        have FIN : Hid (∀ z1 w5, Appended Wv w5 W1.heap.size 3 1 d.right.length vR z1 (intVs d.right) [.int .i64 ri] → rfPostX (BestT (Bk + 1) (Bk + 2) vL vR) (BestR L R W1 b' n f Bw (Bk + 1) (Bk + 2) ⟨i, j, ah, rt⟩ d vL vR U2) (BestX L R W1 b' n f Bw (Bk + 1) (Bk + 2) ⟨i, j, ah, rt⟩ d vL vR U2) (pre ++ [((⟨ri, rc, rf, rto⟩, g2, c2), ⟨ni, nj, na, nr⟩)]) Wd (.exit 2) { tmps := #[], defers := [] } (((((w5.setCell ⟨Bk + 2, 2, none⟩ z1).setCell ⟨Bk + 1, 0, none⟩ (.int .i64 ni)).setCell ⟨Bk + 1, 1, none⟩ (.int .i64 nj)).setCell ⟨Bk + 1, 2, none⟩ (.string (B na))).setCell ⟨Bk + 1, 3, none⟩ (.bool nr))) := Lib.hid (fun z1 w5 hA => by
          have h := HBV.out.finRight (x := ri) (s' := ⟨ni, nj, na, nr⟩) hBs hBd (by omega) hA.mod hA.own hA.loc
          refine ⟨(HXV.out.mod _).trans h.1, rfl, HM3.out.trans ((HXV.out.mod _).trans h.1), ((⟨ri, rc, rf, rto⟩, g2, c2), ⟨ni, nj, na, nr⟩), vL, z1, ?_, HNX.out⟩
          dsimp only
          rw [htk]
          exact h.2)
        clear htk
        have hownd := HBV.out.right
        have hlen2 : (d.right.length + 1) * 8 ≤ 140737488355328 := by omega
        gi_upto_region 16 with fail
        gi_wp2_with (refine wpListIn_app1 (W := Wv) W1.heap.size (.tmp 81) (.tmp 84) 26 3 (.int .i64 0) 1 8 rfl Tryz.underlying26 Tryz.info_int rfl (by decide) (by decide) vR d.right.length (intVs d.right) [.int .i64 ri] rfl rfl rfl (by simp [Value.oneCell']) hownd hszd hlen2 rfl ?_; intro z1 w5 hA; obtain ⟨gg, cap1, rfl⟩ := ownsRow_succ hA.own; obtain ⟨g1, g2', g3, g4, g5, g6⟩ := HSA.out _ hA.mod)
        exact FIN.out _ _ hA
    case done =>
      rintro D0 Wd hD0 ⟨h1, h2, h3⟩ hk
      exfalso
      obtain ⟨mm, g1, g2, g3⟩ := next_some fL fR hin hvs HND.out
      rw [← movesM_S] at g2
      obtain ⟨pp, g4, rfl⟩ := List.mem_map.1 g2
      exact h3 pp g4 g3
    case stop =>
      rintro D0 c pre Wd hD0 hpre ⟨rfl, hm2, pp, vL', vR', hB3, hnx⟩ hk
      dsimp only
      gi_wp2
      have hmem := next_mem hnx
      obtain ⟨hin3, hrem3, hc0, hc1⟩ := move_rem fL fR hin hmem
      have hvn := next_val hnx
      have hmW : Mod (BestT (Bk + 1) (Bk + 2) vL vR) Wc Wd := (hxU.mod _).trans hm2
      have hT : ∀ k, BestT (Bk + 1) (Bk + 2) vL vR k → W1.heap.size ≤ k ∧ k ≠ Bk := fun k hk => by
        refine ⟨(HHB.out.place hBs hBd hk).1, ?_⟩
        rintro rfl
        rcases hk with h | h | h | h
        · omega
        · omega
        · exact own_far HHB.out.left h HKM.out (by decide) rfl
        · exact own_far HHB.out.right h HKM.out (by decide) rfl
      have hWd := HHW.out.step hmW (fun k dd _ h0 hk => by
        obtain ⟨cs, t', m', h1⟩ := HHB.out.cellsT hk
        rw [h0] at h1; cases h1)
      have hcnt2 := take_count d ⟨i, j, ah, rt⟩ (pp.1.1, pp.2)
      have hfm2 := take_form fL fR (d := d) hmem hfl
      dsimp only at hin3 hrem3 hc0 hc1 hvn
      refine Handed.intro (remS L.side R.side pp.2 + 1) (by omega) (HJ.out _ _ _ ⟨pp.2, takeS d ⟨i, j, ah, rt⟩ (pp.1.1, pp.2), vL', vR', { target := .collected D0, args := #[] } :: ds, _, _, _, _, _, _, _, rfl, hB3, HHW.out.more hWd (by omega) (by omega) hk, block_keep HKT.out hmW (fun h => by have := (hT _ h).1; omega), block_keep HKM.out hmW (fun h => (hT _ h).2 rfl), hin3, by omega, (HI.out.at HFS.out).2 _ hmem, ?_, by omega, hfm2, Nat.lt_succ_self _⟩)
      rw [HDP.out, pathS_next fL fR hin HND.out hnx]
end Go.Proofs.YtkkbkhcapogobaaGreatDoor
