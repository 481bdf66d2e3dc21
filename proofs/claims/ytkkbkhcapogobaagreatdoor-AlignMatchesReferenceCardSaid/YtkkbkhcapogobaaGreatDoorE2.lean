/- Contracts: words.costs: the closure that calls itself. -/
import Derived.Test.YtkkbkhcapogobaaGreatDoorE1
namespace Go.Proofs.YtkkbkhcapogobaaGreatDoor
open Go Go.RowKit Go.Lib Go.Proofs S Go.Shelf Go.Maps Go.WideMaps
set_option linter.unusedVariables false
set_option linter.unusedSimpArgs false
attribute [local go_sem] Oper.semAt_some

/-- What the closure's call brings. -/
def WalkRes (L R : MSide) (b : Nat) (f : Value → Option Value) (s : St) (W : World) (e : Ending) (W' : World) : Prop :=
  e = .returned (.int .i64 (val L.side R.side s)) ∧ Mod (fun k => k = b) W W' ∧ ∃ f' n', MapAt Tryz.prog 49 W' b n' f' ∧ Inv L.side R.side f' ∧ (∀ v, (f v).isSome = true → (f' v).isSome = true) ∧ (f' (stVal s)).isSome = true
def WalkSpec (L R : MSide) (w00 : World) (Bk Bw Bf b n : Nat) : Prop :=
  ∀ (s : St), In L.side R.side s → remS L.side R.side s < n → ∀ (W : World) (f : Value → Option Value) (m : Nat), Mem w00 L R Bk Bw Bf b W → MapAt Tryz.prog 49 W b m f → Inv L.side R.side f →
    Calls Tryz.prog 27 #[stVal s, .pointer (some ⟨Bk, 0, none⟩), .pointer (some ⟨Bw, 0, none⟩), .pointer (some ⟨Bf, 0, none⟩)] W (WalkRes L R b f s W)

/-- What a round of the range over the moves keeps. -/
def WalkI (w00 : World) (L R : MSide) (Bk Bw Bf b : Nat) (W W2 : World) (s : St) (f : Value → Option Value) (h0 : Int) (pre : List (MR × St)) (Wc : World) : Prop :=
  Mem w00 L R Bk Bw Bf b Wc ∧ (∃ f' n', MapAt Tryz.prog 49 Wc b n' f' ∧ Inv L.side R.side f' ∧ (∀ v, (f v).isSome = true → (f' v).isSome = true) ∧ ∀ p ∈ pre, (f' (stVal p.2)).isSome = true) ∧ Boxed Wc (W.heap.size + 1) 3 (.int .i64 (pre.foldl (fun h p => min h (p.1.1.cost + val L.side R.side p.2)) h0)) ∧ Mod (fun k => k = b) W Wc ∧ Wc.heap[W.heap.size]? = some (.cells (stVals s) 49) ∧ W2.heap.size ≤ Wc.heap.size
theorem WalkI.step {w00 : World} {L R : MSide} {Bk Bw Bf b : Nat} {W W2 : World} {s : St} {f : Value → Option Value} {h0 : Int} {pre : List (MR × St)} {Wc W' : World} (h : WalkI w00 L R Bk Bw Bf b W W2 s f h0 pre Wc) (hle : W.heap.size ≤ W2.heap.size) (hst : StepX W2.heap.size Wc W') : WalkI w00 L R Bk Bw Bf b W W2 s f h0 pre W' := by
  obtain ⟨hm1, ⟨f', n', g1, g2, g3, g4⟩, g5, g6, g7, g8⟩ := h
  refine ⟨hm1.step hst (fun k h => .inr h.2), ⟨f', n', g1.mod hst (fun h => g1.not_book h.2), g2, g3, g4⟩, hst.boxed g5 (fun h => cells_not_book g5 h.2), ?_, block_keep g7 hst (fun h => cells_not_book g7 h.2), Nat.le_trans g8 hst.size⟩
  exact g6.trans' hst (fun k _ h => h) (fun k hk h => by omega)

set_option maxRecDepth 100000 in
set_option maxHeartbeats 4000000 in
theorem walk_step (L R : MSide) (w00 : World) (hL : L.At w00) (hR : R.At w00) (fL : Fine L.side) (fR : Fine R.side) (Bk Bw Bf b : Nat) (hBk : w00.heap.size ≤ Bk) (hBw : w00.heap.size ≤ Bw) (hBf : w00.heap.size ≤ Bf) (hb0 : w00.heap.size ≤ b) (n : Nat) (ih : WalkSpec L R w00 Bk Bw Bf b n) :
    WalkSpec L R w00 Bk Bw Bf b (n + 1) := by
  intro s hs hr W f m hM hA hI
  have hsi : s.i ≤ 12 := Nat.le_trans hs.i hL.lets.few
  have hsj : s.j ≤ 12 := Nat.le_trans hs.j hR.lets.few
  obtain ⟨lk, hkey⟩ := st_key (s := s) (by omega) (by omega) hs.ahead
  have hlook : ∀ (o : Obj), (Instr.lookup 46 (.map (some b)) (stVal s) true).run Tryz.prog (W.alloc o) = .ok (.tuple #[(f (stVal s)).getD (.int .i64 0), .bool (f (stVal s)).isSome]) (W.alloc o) := fun o =>
    MapAt.look (hA.mod (Ext.mod (Ext.new W o) (fun _ => False)) (fun h => h)) st_keyed Tryz.underlying46 (by simp [go_sem]) ⟨lk, hkey⟩ true
  have hkc : ∀ o, (W.alloc o).cell? ⟨Bk, 0, none⟩ = some (.map (some b)) := fun o => cell_of (block_ext hM.known (Ext.new W o)) 0
  refine (callsIn_wide (n := 3)).1 ?_
  refine callsIn_of_wp_marks Tryz.func27 rfl trivial ?_ rfl
  simp only [Tryz.ntmps27, List.size_toArray, List.length_cons, List.length_nil, Nat.reduceAdd, Nat.reduceSub, Array.replicate_succ, Array.replicate_zero, List.push_toArray, List.append_toArray, List.nil_append, List.cons_append]
  cases hf : (f (stVal s)).isSome with
  | true =>
    obtain ⟨hv, _⟩ := hI.at hf
    have HR : Hid (WalkRes L R b f s W (.returned (.int .i64 (val L.side R.side s))) (W.alloc (.cells (stVals s) 49))) := Lib.hid ⟨rfl, (Mod.refl _ W).alloc _, f, m, hA.mod (Ext.mod (Ext.new W _) (fun _ => False)) (fun h => h), hI, fun _ h => h, hf⟩
    rw [hv] at hlook
    obtain ⟨i, j, ah, rt⟩ := s
    simp only [stVal] at hlook ⊢
    generalize val L.side R.side ⟨i, j, ah, rt⟩ = vv at hlook HR
    clear hf hv hkey hM hA hI
    gi_wp2
    exact ⟨_, by simp [results, Tryz.results27, go_sem], HR.out⟩
  | false =>
    have hnone : f (stVal s) = none := by cases hx : f (stVal s) <;> simp_all
    rw [hnone] at hlook
    have hdone := fun w' => done_any L.lg L.lc R.lg R.lc L.letters R.letters (.slice L.A L.rules.length L.rc) (.slice R.A R.rules.length R.rc) s w'
    have hds : (decide (s.i = L.letters.length) && decide (s.j = R.letters.length) && decide (s.ahead = [])) = doneS L.side R.side s := rfl
    rw [hds] at hdone
    have HDONE := Lib.hid hdone
    clear hds hdone
    have hmoves := fun w' => moves_any L R s w'
    have HMV := Lib.hid hmoves
    clear hmoves
    have hwc : ∀ o o2, ((W.alloc o).alloc o2).heap[Bw]? = some (.cells (wordsCells L R) 43) := fun o o2 => block_ext hM.words ((Ext.new W o).alloc o2)
    have hw0 : ∀ o o2 i, ((W.alloc o).alloc o2).cell? ⟨Bw, i, none⟩ = (wordsCells L R)[i]? := fun o o2 => cell_of (hwc o o2)
    simp only [wordsCells] at hw0
    unfold wordsVal at HMV
    obtain ⟨i, j, ah, rt⟩ := s
    simp only [stVal] at hlook HDONE HMV ⊢
    clear hwc
    have hafter : ∀ cs c t2 t3 w1, Ext ((W.alloc (.cells cs t2)).alloc (.cells #[c] t3)) w1 → (∀ i, w1.cell? ⟨Bw, i, none⟩ = (wordsCells L R)[i]?) ∧ (∀ i, w1.cell? ⟨W.heap.size, i, none⟩ = cs[i]?) ∧ w1.heap[W.heap.size]? = some (.cells cs t2) ∧ w1.heap[W.heap.size + 1]? = some (.cells #[c] t3) ∧ Ext W w1 := fun cs c t2 t3 w1 h => by
      have h0 := cells_new2 h
      refine ⟨cell_of (block_ext hM.words h0.2.2), h0.1, block_ext ?_ h, block_ext ?_ h, h0.2.2⟩
      · exact (Below.heap_alloc _ _ _ (by simp)).trans (World.alloc_heap_new W _)
      · have := World.alloc_heap_new (W.alloc (.cells cs t2)) (.cells #[c] t3); rwa [World.size_alloc] at this
    have HAF := Lib.hid hafter
    clear hafter
    cases hd : doneS L.side R.side ⟨i, j, ah, rt⟩
    case true =>
      rw [hd] at HDONE
      gi_upto_region 7 with (refine ⟨trivial, ?_⟩; gi_at_call 16; (with_reducible refine (callsIn_wide.2 (HDONE.out _)).mono ?_); rintro e w1 ⟨rfl, hb1⟩; obtain ⟨a1, a2, kN, kH, hx1⟩ := HAF.out _ _ _ _ _ hb1; simp only [wordsCells] at a1; have ch := cell_of kH 0; have fh := frozen_of kH 0)
      have kB := block_set kH 0 (.int .i64 0)
      have hx := hx1.set (b := W.heap.size + 1) (i := 0) (Nat.le_succ _) (.int .i64 0)
      have kS := block_keep kN ((Mod.refl (fun k => k = W.heap.size + 1) w1).setCell (p := ⟨W.heap.size + 1, 0, none⟩) (.inl rfl) (.int .i64 0)) (by omega)
      obtain ⟨W1, hW1⟩ : ∃ W1, (w1.setCell ⟨W.heap.size + 1, 0, none⟩ (.int .i64 0)) = W1 := ⟨_, rfl⟩
      rw [hW1] at kB hx kS ⊢
      clear hW1 a1 a2 kN kH hx1 hb1 HAF hw0 hlook ch fh
      have kB2 : Boxed W1 (W.heap.size + 1) 3 (.int .i64 0) := kB
      have kWd := cell_of (block_ext hM.words hx)
      have kSc := cell_of kS
      simp only [wordsCells] at kWd
      gi_wp2_with (refine ⟨trivial, ?_⟩; gi_at_call 17; (with_reducible refine (callsIn_wide.2 (HMV.out _)).mono ?_); rintro e w2 ⟨rfl, rfl⟩)
      have hW2 : Ext W1 ((W1.alloc (.cells (wordsCells L R) 43)).alloc (.cells (stVals ⟨i, j, ah, rt⟩) 49)) := (Ext.new W1 _).alloc _
      have kw2 : ((W1.alloc (.cells (wordsCells L R) 43)).alloc (.cells (stVals ⟨i, j, ah, rt⟩) 49)).heap[W1.heap.size]? = some (.cells (wordsCells L R) 43) := (Below.heap_alloc _ _ _ (by simp)).trans (World.alloc_heap_new W1 _)
      have ks2 : ((W1.alloc (.cells (wordsCells L R) 43)).alloc (.cells (stVals ⟨i, j, ah, rt⟩) 49)).heap[W1.heap.size + 1]? = some (.cells (stVals ⟨i, j, ah, rt⟩) 49) := by
        have := World.alloc_heap_new (W1.alloc (.cells (wordsCells L R) 43)) (.cells (stVals ⟨i, j, ah, rt⟩) 49); rwa [World.size_alloc] at this
      have hsz2 : ((W1.alloc (.cells (wordsCells L R) 43)).alloc (.cells (stVals ⟨i, j, ah, rt⟩) 49)).heap.size = W1.heap.size + 2 := by simp
      have hszW := hx.size
      have hbl := hA.lt
      have hHl := kB2.lt
      have hxW2 := Ext.trans hx hW2
      obtain ⟨W2, hW2e⟩ : ∃ W2, (W1.alloc (.cells (wordsCells L R) 43)).alloc (.cells (stVals ⟨i, j, ah, rt⟩) 49) = W2 := ⟨_, rfl⟩
      rw [hW2e] at hW2 kw2 ks2 hsz2 hxW2 ⊢
      clear hW2e kWd kSc kB
      have hC2 : Cells w00 W2 := hM.cells.trans (Cells.of_ext hxW2)
      have hw00 : w00.heap.size ≤ W.heap.size + 1 := by have := (Array.getElem?_eq_some_iff.1 hM.known).1; omega
      have hit := moves_iter L R ⟨i, j, ah, rt⟩ (W1.heap.size + 1) W1.heap.size (by omega) w00 W2 hL hR hC2 (by omega) (by omega) (by omega) ks2 kw2 (by dsimp only at hsi ⊢; omega) (by dsimp only at hsj ⊢; omega) (fun k => k = b ∨ k = W.heap.size + 1) (fun k hk => by
        rcases hk with rfl | rfl
        · exact ⟨hb0, by omega, by omega, by omega⟩
        · exact ⟨hw00, by omega, by omega, by omega⟩)
      refine rangeFunc_tight rfl (enters_of Tryz.func28 (by kernel_rfl) rfl) (T := fun k => k = b ∨ k = W.heap.size + 1) hit (Mod.refl _ _)
        (by rintro k (rfl | rfl) <;> omega) (fun _ => rfl)
        (WalkI w00 L R Bk Bw Bf b W W2 ⟨i, j, ah, rt⟩ f 0)
        (fun _ _ _ => False)
        (fun _ _ _ h hst => h.step hxW2.size hst) (fun _ _ _ _ h _ => h) ⟨hM.ext hxW2, ⟨f, m, hA.mod (hxW2.mod (fun _ => False)) (fun h => h), hI, fun _ h => h, by simp⟩, (hW2.mod (fun _ => False)).boxed kB2 (fun h => h), hxW2.mod _, block_ext kS hW2, Nat.le_refl _⟩
        (fun x a' Wc => ∃ p q, a' = { tmps := #[.agg #[.int .i64 i, .int .i64 j, .string (B ah), .bool rt], .pointer (some ⟨Bk, 0, none⟩), .pointer (some ⟨Bw, 0, none⟩), .pointer (some ⟨Bf, 0, none⟩), .pointer (some ⟨W.heap.size, 0, none⟩), .int .i64 0, .int .i64 0, .bool false, .pointer (some ⟨W.heap.size + 1, 0, none⟩), .pointer (some ⟨p, 0, none⟩), .pointer (some ⟨q, 0, none⟩), .tuple #[.int .i64 0, .bool false], .map (some b), .agg #[.int .i64 i, .int .i64 j, .string (B ah), .bool rt], .tuple #[.int .i64 0, .bool false], .int .i64 0, .bool false, .bool false, undef, .agg #[letVal L.lg L.lc L.letters, .slice L.A L.rules.length L.rc, letVal R.lg R.lc R.letters, .slice R.A R.rules.length R.rc], .agg #[.int .i64 i, .int .i64 j, .string (B ah), .bool rt], .bool true, .agg #[letVal L.lg L.lc L.letters, .slice L.A L.rules.length L.rc, letVal R.lg R.lc R.letters, .slice R.A R.rules.length R.rc], .agg #[.int .i64 i, .int .i64 j, .string (B ah), .bool rt], .func (.func 28) #[] #[.pointer (some ⟨W1.heap.size + 1, 0, none⟩), .pointer (some ⟨W1.heap.size, 0, none⟩)], mrVal x.1, stVal x.2, undef, undef, undef, undef, undef, undef, undef, undef, undef, undef, undef, undef], defers := [] } ∧ Wc.heap[p]? = some (.cells (mrVals x.1).toArray 55) ∧ Wc.heap[q]? = some (.cells (stVals x.2) 49))
        ?hAx ?assign ?body ?done (fun _ _ _ _ _ _ h _ => h.elim)
      case hAx =>
        rintro x a' Wc W' ⟨p, q, h1, h2, h3⟩ hst
        exact ⟨p, q, h1, block_keep h2 hst (fun h => cells_not_book h2 h.2), block_keep h3 hst (fun h => cells_not_book h3 h.2)⟩
      case assign =>
        rintro l pre ⟨⟨⟨ri, rc, rf, rto⟩, g2, c2⟩, ⟨ni, nj, na, nr⟩⟩ rest Wc K hx' hi hK
        have hi2 : ∀ o1 o2, WalkI w00 L R Bk Bw Bf b W W2 ⟨i, j, ah, rt⟩ f 0 pre ((Wc.alloc o1).alloc o2) := fun o1 o2 => hi.step hxW2.size (((Ext.new Wc o1).alloc o2).mod _)
        have HI2 := Lib.hid hi2
        clear hi hi2 hit
        dsimp only [mrVal, stVal]
        gi_wp2
        refine hK _ _ (((Mod.refl _ Wc).alloc _).alloc _) (HI2.out _ _) ⟨Wc.heap.size, Wc.heap.size + 1, rfl, (Below.heap_alloc _ _ _ (by simp)).trans (World.alloc_heap_new Wc _), ?_⟩
        have := World.alloc_heap_new (Wc.alloc (.cells #[.int .i64 ri, .int .i64 rc, letVal g2 c2 rf, .string (B rto)] 55)) (.cells #[.int .i64 ni, .int .i64 nj, .string (B na), .bool nr] 49)
        rw [World.size_alloc] at this
        exact this
      case body =>
        rintro l pre ⟨⟨⟨ri, rc, rf, rto⟩, g2, c2⟩, ⟨ni, nj, na, nr⟩⟩ rest a' Wc hx' hl hlr hi ⟨p, q, rfl, kp, kq⟩
        obtain ⟨hmem, ⟨f', n', i1, i2, i3, i4⟩, kH, hmw, kst, hsz⟩ := hi
        have hmemS : ((⟨ri, rc, rf, rto⟩ : ARule), (⟨ni, nj, na, nr⟩ : St)) ∈ movesS L.side R.side ⟨i, j, ah, rt⟩ := by
          rw [← movesM_S, hx', List.map_append, List.map_cons]; simp
        obtain ⟨hin, hrem, hc0, hc1⟩ := move_rem fL fR hs hmemS
        dsimp only at hin hrem hc0 hc1
        have hvr := val_range fL fR _ _ hin (Nat.le_refl _)
        have HIH := Lib.hid (ih ⟨ni, nj, na, nr⟩ hin (by omega) Wc.drew f' n' (hmem.ext (below_drewN Wc 1)) (i1.mod ((below_drewN Wc 1).mod (fun _ => False)) (fun h => h)) i2)
        have kF := hmem.walk
        have hmemH := Lib.hid hmem
        generalize hhe : pre.foldl (fun h p => min h (p.1.1.cost + val L.side R.side p.2)) 0 = hh at kH
        have HHE := Lib.hid hhe
        clear hhe
        have kH' : Wc.heap[W.heap.size + 1]? = some (.cells #[.int .i64 hh] 3) := kH
        have hHeld : (fun w' : World => w'.cell? ⟨p, 1, none⟩ = some (.int .i64 rc) ∧ w'.cell? ⟨Bf, 0, none⟩ = some (.func (.func 27) #[] #[.pointer (some ⟨Bk, 0, none⟩), .pointer (some ⟨Bw, 0, none⟩), .pointer (some ⟨Bf, 0, none⟩)]) ∧ w'.cell? ⟨q, 0, none⟩ = some (.int .i64 ni) ∧ w'.cell? ⟨q, 1, none⟩ = some (.int .i64 nj) ∧ w'.cell? ⟨q, 2, none⟩ = some (.string (B na)) ∧ w'.cell? ⟨q, 3, none⟩ = some (.bool nr)) Wc.drew := ⟨cell_of kp 1, cell_of kF 0, cell_of kq 0, cell_of kq 1, cell_of kq 2, cell_of kq 3⟩
        have HBK : Hid (∀ w5, Mod (fun k => k = b) Wc.drew w5 → (fun w' : World => w'.cell? ⟨p, 1, none⟩ = some (.int .i64 rc) ∧ w'.cell? ⟨Bf, 0, none⟩ = some (.func (.func 27) #[] #[.pointer (some ⟨Bk, 0, none⟩), .pointer (some ⟨Bw, 0, none⟩), .pointer (some ⟨Bf, 0, none⟩)]) ∧ w'.cell? ⟨q, 0, none⟩ = some (.int .i64 ni) ∧ w'.cell? ⟨q, 1, none⟩ = some (.int .i64 nj) ∧ w'.cell? ⟨q, 2, none⟩ = some (.string (B na)) ∧ w'.cell? ⟨q, 3, none⟩ = some (.bool nr)) w5 ∧ w5.heap[W.heap.size + 1]? = some (.cells #[.int .i64 hh] 3)) := Lib.hid (fun w5 hm => by
          have b1 := block_keep (w := Wc.drew) kH' hm (fun h => i1.not_cells (h ▸ kH'))
          have b2 := block_keep (w := Wc.drew) kp hm (fun h => i1.not_cells (h ▸ kp))
          have b3 := block_keep (w := Wc.drew) kF hm (fun h => i1.not_cells (h ▸ kF))
          have b4 := block_keep (w := Wc.drew) kq hm (fun h => i1.not_cells (h ▸ kq))
          exact ⟨⟨cell_of b2 1, cell_of b3 0, cell_of b4 0, cell_of b4 1, cell_of b4 2, cell_of b4 3⟩, b1⟩)
        unfold WalkRes at HIH
        simp only [stVal] at HIH
        generalize hvv : val L.side R.side ⟨ni, nj, na, nr⟩ = vv at hvr HIH
        have HVV := Lib.hid hvv
        clear hvv
        have cH := cell_of kH' 0
        have hwr : IntKind.i64.wrap (rc + vv) = rc + vv := by unfold endless at hvr; exact wrap_small (by omega) (by omega)
        dsimp only [mrVal, stVal]
        have hnp : W.heap.size + 1 ≠ p := by rintro rfl; rw [kp] at kH'; cases kH'
        have hnq : W.heap.size + 1 ≠ q := by rintro rfl; rw [kq] at kH'; cases kH'
        have hlBk := (Array.getElem?_eq_some_iff.1 hM.known).1
        have hlBw := (Array.getElem?_eq_some_iff.1 hM.words).1
        have hlBf := (Array.getElem?_eq_some_iff.1 hM.walk).1
        have hnf : W.heap.size + 1 ≠ Bf := by omega
        have hbk : b ≠ Bk := by rintro rfl; exact hA.not_cells hM.known
        have hbw : b ≠ Bw := by rintro rfl; exact hA.not_cells hM.words
        have hbf : b ≠ Bf := by rintro rfl; exact hA.not_cells hM.walk
        have HFIN : Hid (∀ w5 f2 n2, Mod (fun k => k = b) Wc.drew w5 → MapAt Tryz.prog 49 w5 b n2 f2 → Inv L.side R.side f2 → (∀ v, (f' v).isSome = true → (f2 v).isSome = true) → (f2 (stVal ⟨ni, nj, na, nr⟩)).isSome = true → w5.heap[W.heap.size + 1]? = some (.cells #[.int .i64 hh] 3) →
            Mod (fun k => k = b ∨ k = W.heap.size + 1) Wc (w5.setCell ⟨W.heap.size + 1, 0, none⟩ (.int .i64 (min hh (rc + vv)))) ∧ WalkI w00 L R Bk Bw Bf b W W2 ⟨i, j, ah, rt⟩ f 0 (pre ++ [((⟨ri, rc, rf, rto⟩, g2, c2), ⟨ni, nj, na, nr⟩)]) (w5.setCell ⟨W.heap.size + 1, 0, none⟩ (.int .i64 (min hh (rc + vv))))) := Lib.hid (by
          intro w5 f2 n2 hmod u1 u2 u3 u4 k5
          have m5 : Mod (fun k => k = b) Wc w5 := ⟨hmod.os, hmod.tape, hmod.output, hmod.size, hmod.block⟩
          have mT : Mod (fun k => k = b ∨ k = W.heap.size + 1) Wc (w5.setCell ⟨W.heap.size + 1, 0, none⟩ (.int .i64 (min hh (rc + vv)))) := (m5.mono (fun k _ h => .inl h)).setCell (p := ⟨W.heap.size + 1, 0, none⟩) (.inl (.inr rfl)) _
          have mH : Mod (fun k => k = W.heap.size + 1) w5 (w5.setCell ⟨W.heap.size + 1, 0, none⟩ (.int .i64 (min hh (rc + vv)))) := (Mod.refl (fun k => k = W.heap.size + 1) w5).setCell (p := ⟨W.heap.size + 1, 0, none⟩) (.inl rfl) _
          refine ⟨mT, hmemH.out.step mT (fun k hk => .inl ?_), ⟨f2, n2, u1.mod mH (by omega), u2, fun v h => u3 _ (i3 v h), fun x hx => ?_⟩, ?_, hmw.trans' mT (fun k _ h => h) (fun k hk h => by rcases h with h | h; exact h; omega), block_keep kst mT (by rintro (h | h) <;> omega), Nat.le_trans hsz mT.size⟩
          · rcases hk with rfl | rfl
            · exact ⟨hb0, hbk, hbw, hbf⟩
            · exact ⟨by omega, by omega, by omega, by omega⟩
          · rcases List.mem_append.1 hx with hx | hx
            · exact u3 _ (i4 x hx)
            · simp only [List.mem_singleton] at hx; subst hx; exact u4
          · have := block_set k5 0 (.int .i64 (min hh (rc + vv)))
            rw [List.foldl_append]
            simp only [List.foldl_cons, List.foldl_nil]
            rw [HHE.out, HVV.out]
            exact this)
        have HKP : Hid (∀ w5, (fun w' : World => w'.cell? ⟨p, 1, none⟩ = some (.int .i64 rc) ∧ w'.cell? ⟨Bf, 0, none⟩ = some (.func (.func 27) #[] #[.pointer (some ⟨Bk, 0, none⟩), .pointer (some ⟨Bw, 0, none⟩), .pointer (some ⟨Bf, 0, none⟩)]) ∧ w'.cell? ⟨q, 0, none⟩ = some (.int .i64 ni) ∧ w'.cell? ⟨q, 1, none⟩ = some (.int .i64 nj) ∧ w'.cell? ⟨q, 2, none⟩ = some (.string (B na)) ∧ w'.cell? ⟨q, 3, none⟩ = some (.bool nr)) w5 → ∀ z, (fun w' : World => w'.cell? ⟨p, 1, none⟩ = some (.int .i64 rc) ∧ w'.cell? ⟨Bf, 0, none⟩ = some (.func (.func 27) #[] #[.pointer (some ⟨Bk, 0, none⟩), .pointer (some ⟨Bw, 0, none⟩), .pointer (some ⟨Bf, 0, none⟩)]) ∧ w'.cell? ⟨q, 0, none⟩ = some (.int .i64 ni) ∧ w'.cell? ⟨q, 1, none⟩ = some (.int .i64 nj) ∧ w'.cell? ⟨q, 2, none⟩ = some (.string (B na)) ∧ w'.cell? ⟨q, 3, none⟩ = some (.bool nr)) (w5.setCell ⟨W.heap.size + 1, 0, none⟩ z)) := Lib.hid (fun w5 h z => by
          obtain ⟨h1, h2, h3, h4, h5, h6⟩ := h
          exact ⟨(World.cell?_setCell_far _ _ _ _ hnp).trans h1, (World.cell?_setCell_far _ _ _ _ hnf).trans h2, (World.cell?_setCell_far _ _ _ _ hnq).trans h3, (World.cell?_setCell_far _ _ _ _ hnq).trans h4, (World.cell?_setCell_far _ _ _ _ hnq).trans h5, (World.cell?_setCell_far _ _ _ _ hnq).trans h6⟩)
        clear hlBk hlBw hlBf hnf hbk hbw hbf hnp hnq hmem kst hmw i4 hmemH
        gi_upto_region 10 with fail
        refine wpIn_region_held (S := (fun w' : World => w'.cell? ⟨p, 1, none⟩ = some (.int .i64 rc) ∧ w'.cell? ⟨Bf, 0, none⟩ = some (.func (.func 27) #[] #[.pointer (some ⟨Bk, 0, none⟩), .pointer (some ⟨Bw, 0, none⟩), .pointer (some ⟨Bf, 0, none⟩)]) ∧ w'.cell? ⟨q, 0, none⟩ = some (.int .i64 ni) ∧ w'.cell? ⟨q, 1, none⟩ = some (.int .i64 nj) ∧ w'.cell? ⟨q, 2, none⟩ = some (.string (B na)) ∧ w'.cell? ⟨q, 3, none⟩ = some (.bool nr))) Tryz.mixed (fun _ _ h => by exact h) (by kernel_rfl) ?_
        refine wpAnyH_take (i := 1) (v := ?_) rfl (by kernel_rfl) (by kernel_rfl) (by kernel_rfl) (fun _ _ _ h => h) (Or.inl ⟨by rfl, ?_⟩) (by assumption) ?_
        rotate_left
        · (intro w hSw; (try dsimp only at hSw); go_split_ands; go_simp; first | done | with_reducible rfl)
        simp only [List.getElem_toArray, List.getElem_cons_succ, List.getElem_cons_zero, Act.put, List.setIfInBounds_toArray, List.set_cons_zero, List.set_cons_succ]
        refine wpAnyH_take (i := 2) (v := ?_) rfl (by kernel_rfl) (by kernel_rfl) (by kernel_rfl) (fun _ _ _ h => h) (Or.inl ⟨by rfl, ?_⟩) (by assumption) ?_
        rotate_left
        · (intro w hSw; (try dsimp only at hSw); go_split_ands; go_simp; first | done | with_reducible rfl)
        simp only [List.getElem_toArray, List.getElem_cons_succ, List.getElem_cons_zero, Act.put, List.setIfInBounds_toArray, List.set_cons_zero, List.set_cons_succ]
        refine wpAnyH_take (i := 3) (v := ?_) rfl (by kernel_rfl) (by kernel_rfl) (by kernel_rfl) (fun _ _ _ h => h) (Or.inl ⟨by rfl, ?_⟩) (by assumption) ?_
        rotate_left
        · (intro w hSw; (try dsimp only at hSw); go_split_ands; go_simp; first | done | with_reducible rfl)
        simp only [List.getElem_toArray, List.getElem_cons_succ, List.getElem_cons_zero, Act.put, List.setIfInBounds_toArray, List.set_cons_zero, List.set_cons_succ]
        refine wpAnyH_take (i := 4) (v := ?_) rfl (by kernel_rfl) (by kernel_rfl) (by kernel_rfl) (fun _ _ _ h => h) (Or.inl ⟨by rfl, ?_⟩) (by assumption) ?_
        rotate_left
        · (intro w hSw; (try dsimp only at hSw); go_split_ands; go_simp; first | done | with_reducible rfl)
        simp only [List.getElem_toArray, List.getElem_cons_succ, List.getElem_cons_zero, Act.put, List.setIfInBounds_toArray, List.set_cons_zero, List.set_cons_succ]
        refine wpAnyH_ready (rs := [0, 5]) (by kernel_rfl) (by simp) ?_
        refine AllReadyH.cons rfl (fun K hK => ?_) ?_
        · go_simp
          refine hK.out _ _ ?_ (fun hHeld => ?_)
          · first | go_keep | exact hS5 | exact HKP.out _ hS5 _
          clear hK K
          refine wpAnyH_ready (rs := [5]) (by kernel_rfl) (by simp) ?_
          refine AllReadyH.cons rfl (fun K hK => ?_) ?_
          · (go_simp; (with_reducible refine (HIH.out).mono ?_); rintro e w5 ⟨rfl, hmod, f2, n2, u1, u2, u3, u4⟩; obtain ⟨hS5, kH5⟩ := HBK.out _ hmod; have fH5 := frozen_of kH5 0; have cH5 := cell_of kH5 0)
            refine hK.out _ _ ?_ (fun hHeld => ?_)
            · first | go_keep | exact hS5 | exact HKP.out _ hS5 _
            clear hK K
            refine wpAnyH_take (i := 6) (v := ?_) rfl (by kernel_rfl) (by kernel_rfl) (by kernel_rfl) (fun _ _ _ h => h) (Or.inl ⟨by rfl, ?_⟩) (by assumption) ?_
            rotate_left
            · (intro w hSw; (try dsimp only at hSw); go_split_ands; go_simp; first | done | with_reducible rfl)
            simp only [List.getElem_toArray, List.getElem_cons_succ, List.getElem_cons_zero, Act.put, List.setIfInBounds_toArray, List.set_cons_zero, List.set_cons_succ]
            refine wpAnyH_ready (rs := [7]) (by kernel_rfl) (by simp) ?_
            refine AllReadyH.cons rfl (fun K hK => ?_) ?_
            · go_simp
              refine hK.out _ _ ?_ (fun hHeld => ?_)
              · first | go_keep | exact hS5 | exact HKP.out _ hS5 _
              clear hK K
              refine wpAnyH_ready (rs := [8]) (by kernel_rfl) (by simp) ?_
              refine AllReadyH.cons rfl (fun K hK => ?_) ?_
              · go_simp
                refine hK.out _ _ ?_ (fun hHeld => ?_)
                · first | go_keep | exact hS5 | exact HKP.out _ hS5 _
                clear hK K
                refine wpAnyH_done (by kernel_rfl) ?_ _
                exact HFIN.out _ _ _ hmod u1 u2 u3 u4 kH5
              exact AllReadyH.nil
            exact AllReadyH.nil
          exact AllReadyH.nil
        refine AllReadyH.cons rfl (fun K hK => ?_) ?_
        · (go_simp; (with_reducible refine (HIH.out).mono ?_); rintro e w5 ⟨rfl, hmod, f2, n2, u1, u2, u3, u4⟩; obtain ⟨hS5, kH5⟩ := HBK.out _ hmod; have fH5 := frozen_of kH5 0; have cH5 := cell_of kH5 0)
          refine hK.out _ _ ?_ (fun hHeld => ?_)
          · first | go_keep | exact hS5 | exact HKP.out _ hS5 _
          clear hK K
          refine wpAnyH_take (i := 6) (v := ?_) rfl (by kernel_rfl) (by kernel_rfl) (by kernel_rfl) (fun _ _ _ h => h) (Or.inl ⟨by rfl, ?_⟩) (by assumption) ?_
          rotate_left
          · (intro w hSw; (try dsimp only at hSw); go_split_ands; go_simp; first | done | with_reducible rfl)
          simp only [List.getElem_toArray, List.getElem_cons_succ, List.getElem_cons_zero, Act.put, List.setIfInBounds_toArray, List.set_cons_zero, List.set_cons_succ]
          refine wpAnyH_ready (rs := [0]) (by kernel_rfl) (by simp) ?_
          refine AllReadyH.cons rfl (fun K hK => ?_) ?_
          · go_simp
            refine hK.out _ _ ?_ (fun hHeld => ?_)
            · first | go_keep | exact hS5 | exact HKP.out _ hS5 _
            clear hK K
            refine wpAnyH_ready (rs := [7]) (by kernel_rfl) (by simp) ?_
            refine AllReadyH.cons rfl (fun K hK => ?_) ?_
            · go_simp
              refine hK.out _ _ ?_ (fun hHeld => ?_)
              · first | go_keep | exact hS5 | exact HKP.out _ hS5 _
              clear hK K
              refine wpAnyH_ready (rs := [8]) (by kernel_rfl) (by simp) ?_
              refine AllReadyH.cons rfl (fun K hK => ?_) ?_
              · go_simp
                refine hK.out _ _ ?_ (fun hHeld => ?_)
                · first | go_keep | exact hS5 | exact HKP.out _ hS5 _
                clear hK K
                refine wpAnyH_done (by kernel_rfl) ?_ _
                exact HFIN.out _ _ _ hmod u1 u2 u3 u4 kH5
              exact AllReadyH.nil
            exact AllReadyH.nil
          exact AllReadyH.nil
        exact AllReadyH.nil
      case done =>
        rintro D Wd hD ⟨hmem, ⟨f', n', i1, i2, i3, i4⟩, kH, hmw, kst, hsz⟩ hK
        have hval : (movesM L R ⟨i, j, ah, rt⟩).foldl (fun h p => min h (p.1.1.cost + val L.side R.side p.2)) 0 = val L.side R.side ⟨i, j, ah, rt⟩ := by
          rw [val_eq fL fR hs, ← movesM_S, List.foldl_map, hd]; rfl
        rw [hval] at kH
        have hms : ∀ x ∈ movesS L.side R.side ⟨i, j, ah, rt⟩, (f' (stVal x.2)).isSome = true := by
          intro x hx
          rw [← movesM_S] at hx
          obtain ⟨y, hy, rfl⟩ := List.mem_map.1 hx
          exact i4 y hy
        obtain ⟨es, clk, hup, hA2⟩ := i1.update st_keyed Tryz.underlying46 ⟨lk, hkey⟩ (.int .i64 (val L.side R.side ⟨i, j, ah, rt⟩))
        have hDb : D ≠ b := by omega
        have HR : Hid (WalkRes L R b f ⟨i, j, ah, rt⟩ W (.returned (.int .i64 (val L.side R.side ⟨i, j, ah, rt⟩))) ((Wd.putObj b (.map es clk)).putObj D (.deferred none))) := by
          have mb : Mod (fun k => k = b) Wd (Wd.putObj b (.map es clk)) := (Mod.refl (fun k => k = b) Wd).putObj (.inl rfl) _
          have mD : Mod (fun k => k = D) (Wd.putObj b (.map es clk)) ((Wd.putObj b (.map es clk)).putObj D (.deferred none)) := (Mod.refl (fun k => k = D) _).putObj (.inl rfl) _
          refine Lib.hid ⟨rfl, ((hmw.trans mb).trans' mD (fun k _ h => h) (fun k hk h => by omega)), _, _, hA2.mod mD (by omega), i2.upd hs hms, fun v h => upd_some (i3 v h), ?_⟩
          rw [upd_same]; rfl
        have HK : Hid ((Wd.putObj b (.map es clk)).heap[D]? = some (.deferred (some []))) := Lib.hid ((World.putObj_heap_other hDb).trans hK)
        simp only [stVal] at hup
        have kc1 := cell_of hmem.known 0
        have kc2 := cell_of kst
        simp only [stVals] at kc2
        have kc3 : Wd.cell? ⟨W.heap.size + 1, 0, none⟩ = _ := kH.cell
        have kc4 : (Wd.putObj b (.map es clk)).cell? ⟨W.heap.size + 1, 0, none⟩ = _ := (cell_same (World.putObj_heap_other (by show W.heap.size + 1 ≠ b; omega))).trans kH.cell
        generalize val L.side R.side ⟨i, j, ah, rt⟩ = vv at hup kc3 kc4 HR
        clear hval kH hms i1 i2 i3 i4 hA2 hmem hmw kst hK hit
        gi_wp2
        refine ⟨by simp, .inl ⟨_, _, rfl, run_takeDeferred HK.out, ?_⟩⟩
        exact ⟨_, by simp [results, Tryz.results27, go_sem], HR.out⟩
    case false =>
      rw [hd] at HDONE
      gi_upto_region 7 with (refine ⟨trivial, ?_⟩; gi_at_call 16; (with_reducible refine (callsIn_wide.2 (HDONE.out _)).mono ?_); rintro e w1 ⟨rfl, hb1⟩; obtain ⟨a1, a2, kN, kH, hx1⟩ := HAF.out _ _ _ _ _ hb1; simp only [wordsCells] at a1; have ch := cell_of kH 0; have fh := frozen_of kH 0)
      have kB := kH
      have hx := hx1
      have kS := kN
      obtain ⟨W1, hW1⟩ : ∃ W1, w1 = W1 := ⟨_, rfl⟩
      rw [hW1] at kB hx kS ⊢
      clear hW1 a1 a2 kN kH hx1 hb1 HAF hw0 hlook ch fh
      have kB2 : Boxed W1 (W.heap.size + 1) 3 (.int .i64 1099511627776) := kB
      have kWd := cell_of (block_ext hM.words hx)
      have kSc := cell_of kS
      simp only [wordsCells] at kWd
      gi_wp2_with (refine ⟨trivial, ?_⟩; gi_at_call 17; (with_reducible refine (callsIn_wide.2 (HMV.out _)).mono ?_); rintro e w2 ⟨rfl, rfl⟩)
      have hW2 : Ext W1 ((W1.alloc (.cells (wordsCells L R) 43)).alloc (.cells (stVals ⟨i, j, ah, rt⟩) 49)) := (Ext.new W1 _).alloc _
      have kw2 : ((W1.alloc (.cells (wordsCells L R) 43)).alloc (.cells (stVals ⟨i, j, ah, rt⟩) 49)).heap[W1.heap.size]? = some (.cells (wordsCells L R) 43) := (Below.heap_alloc _ _ _ (by simp)).trans (World.alloc_heap_new W1 _)
      have ks2 : ((W1.alloc (.cells (wordsCells L R) 43)).alloc (.cells (stVals ⟨i, j, ah, rt⟩) 49)).heap[W1.heap.size + 1]? = some (.cells (stVals ⟨i, j, ah, rt⟩) 49) := by
        have := World.alloc_heap_new (W1.alloc (.cells (wordsCells L R) 43)) (.cells (stVals ⟨i, j, ah, rt⟩) 49); rwa [World.size_alloc] at this
      have hsz2 : ((W1.alloc (.cells (wordsCells L R) 43)).alloc (.cells (stVals ⟨i, j, ah, rt⟩) 49)).heap.size = W1.heap.size + 2 := by simp
      have hszW := hx.size
      have hbl := hA.lt
      have hHl := kB2.lt
      have hxW2 := Ext.trans hx hW2
      obtain ⟨W2, hW2e⟩ : ∃ W2, (W1.alloc (.cells (wordsCells L R) 43)).alloc (.cells (stVals ⟨i, j, ah, rt⟩) 49) = W2 := ⟨_, rfl⟩
      rw [hW2e] at hW2 kw2 ks2 hsz2 hxW2 ⊢
      clear hW2e kWd kSc kB
      have hC2 : Cells w00 W2 := hM.cells.trans (Cells.of_ext hxW2)
      have hw00 : w00.heap.size ≤ W.heap.size + 1 := by have := (Array.getElem?_eq_some_iff.1 hM.known).1; omega
      have hit := moves_iter L R ⟨i, j, ah, rt⟩ (W1.heap.size + 1) W1.heap.size (by omega) w00 W2 hL hR hC2 (by omega) (by omega) (by omega) ks2 kw2 (by dsimp only at hsi ⊢; omega) (by dsimp only at hsj ⊢; omega) (fun k => k = b ∨ k = W.heap.size + 1) (fun k hk => by
        rcases hk with rfl | rfl
        · exact ⟨hb0, by omega, by omega, by omega⟩
        · exact ⟨hw00, by omega, by omega, by omega⟩)
      refine rangeFunc_tight rfl (enters_of Tryz.func28 (by kernel_rfl) rfl) (T := fun k => k = b ∨ k = W.heap.size + 1) hit (Mod.refl _ _)
        (by rintro k (rfl | rfl) <;> omega) (fun _ => rfl)
        (WalkI w00 L R Bk Bw Bf b W W2 ⟨i, j, ah, rt⟩ f 1099511627776)
        (fun _ _ _ => False)
        (fun _ _ _ h hst => h.step hxW2.size hst) (fun _ _ _ _ h _ => h) ⟨hM.ext hxW2, ⟨f, m, hA.mod (hxW2.mod (fun _ => False)) (fun h => h), hI, fun _ h => h, by simp⟩, (hW2.mod (fun _ => False)).boxed kB2 (fun h => h), hxW2.mod _, block_ext kS hW2, Nat.le_refl _⟩
        (fun x a' Wc => ∃ p q, a' = { tmps := #[.agg #[.int .i64 i, .int .i64 j, .string (B ah), .bool rt], .pointer (some ⟨Bk, 0, none⟩), .pointer (some ⟨Bw, 0, none⟩), .pointer (some ⟨Bf, 0, none⟩), .pointer (some ⟨W.heap.size, 0, none⟩), .int .i64 0, .int .i64 0, .bool false, .pointer (some ⟨W.heap.size + 1, 0, none⟩), .pointer (some ⟨p, 0, none⟩), .pointer (some ⟨q, 0, none⟩), .tuple #[.int .i64 0, .bool false], .map (some b), .agg #[.int .i64 i, .int .i64 j, .string (B ah), .bool rt], .tuple #[.int .i64 0, .bool false], .int .i64 0, .bool false, .bool false, undef, .agg #[letVal L.lg L.lc L.letters, .slice L.A L.rules.length L.rc, letVal R.lg R.lc R.letters, .slice R.A R.rules.length R.rc], .agg #[.int .i64 i, .int .i64 j, .string (B ah), .bool rt], .bool false, .agg #[letVal L.lg L.lc L.letters, .slice L.A L.rules.length L.rc, letVal R.lg R.lc R.letters, .slice R.A R.rules.length R.rc], .agg #[.int .i64 i, .int .i64 j, .string (B ah), .bool rt], .func (.func 28) #[] #[.pointer (some ⟨W1.heap.size + 1, 0, none⟩), .pointer (some ⟨W1.heap.size, 0, none⟩)], mrVal x.1, stVal x.2, undef, undef, undef, undef, undef, undef, undef, undef, undef, undef, undef, undef], defers := [] } ∧ Wc.heap[p]? = some (.cells (mrVals x.1).toArray 55) ∧ Wc.heap[q]? = some (.cells (stVals x.2) 49))
        ?hAx ?assign ?body ?done (fun _ _ _ _ _ _ h _ => h.elim)
      case hAx =>
        rintro x a' Wc W' ⟨p, q, h1, h2, h3⟩ hst
        exact ⟨p, q, h1, block_keep h2 hst (fun h => cells_not_book h2 h.2), block_keep h3 hst (fun h => cells_not_book h3 h.2)⟩
      case assign =>
        rintro l pre ⟨⟨⟨ri, rc, rf, rto⟩, g2, c2⟩, ⟨ni, nj, na, nr⟩⟩ rest Wc K hx' hi hK
        have hi2 : ∀ o1 o2, WalkI w00 L R Bk Bw Bf b W W2 ⟨i, j, ah, rt⟩ f 1099511627776 pre ((Wc.alloc o1).alloc o2) := fun o1 o2 => hi.step hxW2.size (((Ext.new Wc o1).alloc o2).mod _)
        have HI2 := Lib.hid hi2
        clear hi hi2 hit
        dsimp only [mrVal, stVal]
        gi_wp2
        refine hK _ _ (((Mod.refl _ Wc).alloc _).alloc _) (HI2.out _ _) ⟨Wc.heap.size, Wc.heap.size + 1, rfl, (Below.heap_alloc _ _ _ (by simp)).trans (World.alloc_heap_new Wc _), ?_⟩
        have := World.alloc_heap_new (Wc.alloc (.cells #[.int .i64 ri, .int .i64 rc, letVal g2 c2 rf, .string (B rto)] 55)) (.cells #[.int .i64 ni, .int .i64 nj, .string (B na), .bool nr] 49)
        rw [World.size_alloc] at this
        exact this
      case body =>
        rintro l pre ⟨⟨⟨ri, rc, rf, rto⟩, g2, c2⟩, ⟨ni, nj, na, nr⟩⟩ rest a' Wc hx' hl hlr hi ⟨p, q, rfl, kp, kq⟩
        obtain ⟨hmem, ⟨f', n', i1, i2, i3, i4⟩, kH, hmw, kst, hsz⟩ := hi
        have hmemS : ((⟨ri, rc, rf, rto⟩ : ARule), (⟨ni, nj, na, nr⟩ : St)) ∈ movesS L.side R.side ⟨i, j, ah, rt⟩ := by
          rw [← movesM_S, hx', List.map_append, List.map_cons]; simp
        obtain ⟨hin, hrem, hc0, hc1⟩ := move_rem fL fR hs hmemS
        dsimp only at hin hrem hc0 hc1
        have hvr := val_range fL fR _ _ hin (Nat.le_refl _)
        have HIH := Lib.hid (ih ⟨ni, nj, na, nr⟩ hin (by omega) Wc.drew f' n' (hmem.ext (below_drewN Wc 1)) (i1.mod ((below_drewN Wc 1).mod (fun _ => False)) (fun h => h)) i2)
        have kF := hmem.walk
        have hmemH := Lib.hid hmem
        generalize hhe : pre.foldl (fun h p => min h (p.1.1.cost + val L.side R.side p.2)) 1099511627776 = hh at kH
        have HHE := Lib.hid hhe
        clear hhe
        have kH' : Wc.heap[W.heap.size + 1]? = some (.cells #[.int .i64 hh] 3) := kH
        have hHeld : (fun w' : World => w'.cell? ⟨p, 1, none⟩ = some (.int .i64 rc) ∧ w'.cell? ⟨Bf, 0, none⟩ = some (.func (.func 27) #[] #[.pointer (some ⟨Bk, 0, none⟩), .pointer (some ⟨Bw, 0, none⟩), .pointer (some ⟨Bf, 0, none⟩)]) ∧ w'.cell? ⟨q, 0, none⟩ = some (.int .i64 ni) ∧ w'.cell? ⟨q, 1, none⟩ = some (.int .i64 nj) ∧ w'.cell? ⟨q, 2, none⟩ = some (.string (B na)) ∧ w'.cell? ⟨q, 3, none⟩ = some (.bool nr)) Wc.drew := ⟨cell_of kp 1, cell_of kF 0, cell_of kq 0, cell_of kq 1, cell_of kq 2, cell_of kq 3⟩
        have HBK : Hid (∀ w5, Mod (fun k => k = b) Wc.drew w5 → (fun w' : World => w'.cell? ⟨p, 1, none⟩ = some (.int .i64 rc) ∧ w'.cell? ⟨Bf, 0, none⟩ = some (.func (.func 27) #[] #[.pointer (some ⟨Bk, 0, none⟩), .pointer (some ⟨Bw, 0, none⟩), .pointer (some ⟨Bf, 0, none⟩)]) ∧ w'.cell? ⟨q, 0, none⟩ = some (.int .i64 ni) ∧ w'.cell? ⟨q, 1, none⟩ = some (.int .i64 nj) ∧ w'.cell? ⟨q, 2, none⟩ = some (.string (B na)) ∧ w'.cell? ⟨q, 3, none⟩ = some (.bool nr)) w5 ∧ w5.heap[W.heap.size + 1]? = some (.cells #[.int .i64 hh] 3)) := Lib.hid (fun w5 hm => by
          have b1 := block_keep (w := Wc.drew) kH' hm (fun h => i1.not_cells (h ▸ kH'))
          have b2 := block_keep (w := Wc.drew) kp hm (fun h => i1.not_cells (h ▸ kp))
          have b3 := block_keep (w := Wc.drew) kF hm (fun h => i1.not_cells (h ▸ kF))
          have b4 := block_keep (w := Wc.drew) kq hm (fun h => i1.not_cells (h ▸ kq))
          exact ⟨⟨cell_of b2 1, cell_of b3 0, cell_of b4 0, cell_of b4 1, cell_of b4 2, cell_of b4 3⟩, b1⟩)
        unfold WalkRes at HIH
        simp only [stVal] at HIH
        generalize hvv : val L.side R.side ⟨ni, nj, na, nr⟩ = vv at hvr HIH
        have HVV := Lib.hid hvv
        clear hvv
        have cH := cell_of kH' 0
        have hwr : IntKind.i64.wrap (rc + vv) = rc + vv := by unfold endless at hvr; exact wrap_small (by omega) (by omega)
        dsimp only [mrVal, stVal]
        have hnp : W.heap.size + 1 ≠ p := by rintro rfl; rw [kp] at kH'; cases kH'
        have hnq : W.heap.size + 1 ≠ q := by rintro rfl; rw [kq] at kH'; cases kH'
        have hlBk := (Array.getElem?_eq_some_iff.1 hM.known).1
        have hlBw := (Array.getElem?_eq_some_iff.1 hM.words).1
        have hlBf := (Array.getElem?_eq_some_iff.1 hM.walk).1
        have hnf : W.heap.size + 1 ≠ Bf := by omega
        have hbk : b ≠ Bk := by rintro rfl; exact hA.not_cells hM.known
        have hbw : b ≠ Bw := by rintro rfl; exact hA.not_cells hM.words
        have hbf : b ≠ Bf := by rintro rfl; exact hA.not_cells hM.walk
        have HFIN : Hid (∀ w5 f2 n2, Mod (fun k => k = b) Wc.drew w5 → MapAt Tryz.prog 49 w5 b n2 f2 → Inv L.side R.side f2 → (∀ v, (f' v).isSome = true → (f2 v).isSome = true) → (f2 (stVal ⟨ni, nj, na, nr⟩)).isSome = true → w5.heap[W.heap.size + 1]? = some (.cells #[.int .i64 hh] 3) →
            Mod (fun k => k = b ∨ k = W.heap.size + 1) Wc (w5.setCell ⟨W.heap.size + 1, 0, none⟩ (.int .i64 (min hh (rc + vv)))) ∧ WalkI w00 L R Bk Bw Bf b W W2 ⟨i, j, ah, rt⟩ f 1099511627776 (pre ++ [((⟨ri, rc, rf, rto⟩, g2, c2), ⟨ni, nj, na, nr⟩)]) (w5.setCell ⟨W.heap.size + 1, 0, none⟩ (.int .i64 (min hh (rc + vv))))) := Lib.hid (by
          intro w5 f2 n2 hmod u1 u2 u3 u4 k5
          have m5 : Mod (fun k => k = b) Wc w5 := ⟨hmod.os, hmod.tape, hmod.output, hmod.size, hmod.block⟩
          have mT : Mod (fun k => k = b ∨ k = W.heap.size + 1) Wc (w5.setCell ⟨W.heap.size + 1, 0, none⟩ (.int .i64 (min hh (rc + vv)))) := (m5.mono (fun k _ h => .inl h)).setCell (p := ⟨W.heap.size + 1, 0, none⟩) (.inl (.inr rfl)) _
          have mH : Mod (fun k => k = W.heap.size + 1) w5 (w5.setCell ⟨W.heap.size + 1, 0, none⟩ (.int .i64 (min hh (rc + vv)))) := (Mod.refl (fun k => k = W.heap.size + 1) w5).setCell (p := ⟨W.heap.size + 1, 0, none⟩) (.inl rfl) _
          refine ⟨mT, hmemH.out.step mT (fun k hk => .inl ?_), ⟨f2, n2, u1.mod mH (by omega), u2, fun v h => u3 _ (i3 v h), fun x hx => ?_⟩, ?_, hmw.trans' mT (fun k _ h => h) (fun k hk h => by rcases h with h | h; exact h; omega), block_keep kst mT (by rintro (h | h) <;> omega), Nat.le_trans hsz mT.size⟩
          · rcases hk with rfl | rfl
            · exact ⟨hb0, hbk, hbw, hbf⟩
            · exact ⟨by omega, by omega, by omega, by omega⟩
          · rcases List.mem_append.1 hx with hx | hx
            · exact u3 _ (i4 x hx)
            · simp only [List.mem_singleton] at hx; subst hx; exact u4
          · have := block_set k5 0 (.int .i64 (min hh (rc + vv)))
            rw [List.foldl_append]
            simp only [List.foldl_cons, List.foldl_nil]
            rw [HHE.out, HVV.out]
            exact this)
        have HKP : Hid (∀ w5, (fun w' : World => w'.cell? ⟨p, 1, none⟩ = some (.int .i64 rc) ∧ w'.cell? ⟨Bf, 0, none⟩ = some (.func (.func 27) #[] #[.pointer (some ⟨Bk, 0, none⟩), .pointer (some ⟨Bw, 0, none⟩), .pointer (some ⟨Bf, 0, none⟩)]) ∧ w'.cell? ⟨q, 0, none⟩ = some (.int .i64 ni) ∧ w'.cell? ⟨q, 1, none⟩ = some (.int .i64 nj) ∧ w'.cell? ⟨q, 2, none⟩ = some (.string (B na)) ∧ w'.cell? ⟨q, 3, none⟩ = some (.bool nr)) w5 → ∀ z, (fun w' : World => w'.cell? ⟨p, 1, none⟩ = some (.int .i64 rc) ∧ w'.cell? ⟨Bf, 0, none⟩ = some (.func (.func 27) #[] #[.pointer (some ⟨Bk, 0, none⟩), .pointer (some ⟨Bw, 0, none⟩), .pointer (some ⟨Bf, 0, none⟩)]) ∧ w'.cell? ⟨q, 0, none⟩ = some (.int .i64 ni) ∧ w'.cell? ⟨q, 1, none⟩ = some (.int .i64 nj) ∧ w'.cell? ⟨q, 2, none⟩ = some (.string (B na)) ∧ w'.cell? ⟨q, 3, none⟩ = some (.bool nr)) (w5.setCell ⟨W.heap.size + 1, 0, none⟩ z)) := Lib.hid (fun w5 h z => by
          obtain ⟨h1, h2, h3, h4, h5, h6⟩ := h
          exact ⟨(World.cell?_setCell_far _ _ _ _ hnp).trans h1, (World.cell?_setCell_far _ _ _ _ hnf).trans h2, (World.cell?_setCell_far _ _ _ _ hnq).trans h3, (World.cell?_setCell_far _ _ _ _ hnq).trans h4, (World.cell?_setCell_far _ _ _ _ hnq).trans h5, (World.cell?_setCell_far _ _ _ _ hnq).trans h6⟩)
        clear hlBk hlBw hlBf hnf hbk hbw hbf hnp hnq hmem kst hmw i4 hmemH
        gi_upto_region 10 with fail
        refine wpIn_region_held (S := (fun w' : World => w'.cell? ⟨p, 1, none⟩ = some (.int .i64 rc) ∧ w'.cell? ⟨Bf, 0, none⟩ = some (.func (.func 27) #[] #[.pointer (some ⟨Bk, 0, none⟩), .pointer (some ⟨Bw, 0, none⟩), .pointer (some ⟨Bf, 0, none⟩)]) ∧ w'.cell? ⟨q, 0, none⟩ = some (.int .i64 ni) ∧ w'.cell? ⟨q, 1, none⟩ = some (.int .i64 nj) ∧ w'.cell? ⟨q, 2, none⟩ = some (.string (B na)) ∧ w'.cell? ⟨q, 3, none⟩ = some (.bool nr))) Tryz.mixed (fun _ _ h => by exact h) (by kernel_rfl) ?_
        refine wpAnyH_take (i := 1) (v := ?_) rfl (by kernel_rfl) (by kernel_rfl) (by kernel_rfl) (fun _ _ _ h => h) (Or.inl ⟨by rfl, ?_⟩) (by assumption) ?_
        rotate_left
        · (intro w hSw; (try dsimp only at hSw); go_split_ands; go_simp; first | done | with_reducible rfl)
        simp only [List.getElem_toArray, List.getElem_cons_succ, List.getElem_cons_zero, Act.put, List.setIfInBounds_toArray, List.set_cons_zero, List.set_cons_succ]
        refine wpAnyH_take (i := 2) (v := ?_) rfl (by kernel_rfl) (by kernel_rfl) (by kernel_rfl) (fun _ _ _ h => h) (Or.inl ⟨by rfl, ?_⟩) (by assumption) ?_
        rotate_left
        · (intro w hSw; (try dsimp only at hSw); go_split_ands; go_simp; first | done | with_reducible rfl)
        simp only [List.getElem_toArray, List.getElem_cons_succ, List.getElem_cons_zero, Act.put, List.setIfInBounds_toArray, List.set_cons_zero, List.set_cons_succ]
        refine wpAnyH_take (i := 3) (v := ?_) rfl (by kernel_rfl) (by kernel_rfl) (by kernel_rfl) (fun _ _ _ h => h) (Or.inl ⟨by rfl, ?_⟩) (by assumption) ?_
        rotate_left
        · (intro w hSw; (try dsimp only at hSw); go_split_ands; go_simp; first | done | with_reducible rfl)
        simp only [List.getElem_toArray, List.getElem_cons_succ, List.getElem_cons_zero, Act.put, List.setIfInBounds_toArray, List.set_cons_zero, List.set_cons_succ]
        refine wpAnyH_take (i := 4) (v := ?_) rfl (by kernel_rfl) (by kernel_rfl) (by kernel_rfl) (fun _ _ _ h => h) (Or.inl ⟨by rfl, ?_⟩) (by assumption) ?_
        rotate_left
        · (intro w hSw; (try dsimp only at hSw); go_split_ands; go_simp; first | done | with_reducible rfl)
        simp only [List.getElem_toArray, List.getElem_cons_succ, List.getElem_cons_zero, Act.put, List.setIfInBounds_toArray, List.set_cons_zero, List.set_cons_succ]
        refine wpAnyH_ready (rs := [0, 5]) (by kernel_rfl) (by simp) ?_
        refine AllReadyH.cons rfl (fun K hK => ?_) ?_
        · go_simp
          refine hK.out _ _ ?_ (fun hHeld => ?_)
          · first | go_keep | exact hS5 | exact HKP.out _ hS5 _
          clear hK K
          refine wpAnyH_ready (rs := [5]) (by kernel_rfl) (by simp) ?_
          refine AllReadyH.cons rfl (fun K hK => ?_) ?_
          · (go_simp; (with_reducible refine (HIH.out).mono ?_); rintro e w5 ⟨rfl, hmod, f2, n2, u1, u2, u3, u4⟩; obtain ⟨hS5, kH5⟩ := HBK.out _ hmod; have fH5 := frozen_of kH5 0; have cH5 := cell_of kH5 0)
            refine hK.out _ _ ?_ (fun hHeld => ?_)
            · first | go_keep | exact hS5 | exact HKP.out _ hS5 _
            clear hK K
            refine wpAnyH_take (i := 6) (v := ?_) rfl (by kernel_rfl) (by kernel_rfl) (by kernel_rfl) (fun _ _ _ h => h) (Or.inl ⟨by rfl, ?_⟩) (by assumption) ?_
            rotate_left
            · (intro w hSw; (try dsimp only at hSw); go_split_ands; go_simp; first | done | with_reducible rfl)
            simp only [List.getElem_toArray, List.getElem_cons_succ, List.getElem_cons_zero, Act.put, List.setIfInBounds_toArray, List.set_cons_zero, List.set_cons_succ]
            refine wpAnyH_ready (rs := [7]) (by kernel_rfl) (by simp) ?_
            refine AllReadyH.cons rfl (fun K hK => ?_) ?_
            · go_simp
              refine hK.out _ _ ?_ (fun hHeld => ?_)
              · first | go_keep | exact hS5 | exact HKP.out _ hS5 _
              clear hK K
              refine wpAnyH_ready (rs := [8]) (by kernel_rfl) (by simp) ?_
              refine AllReadyH.cons rfl (fun K hK => ?_) ?_
              · go_simp
                refine hK.out _ _ ?_ (fun hHeld => ?_)
                · first | go_keep | exact hS5 | exact HKP.out _ hS5 _
                clear hK K
                refine wpAnyH_done (by kernel_rfl) ?_ _
                exact HFIN.out _ _ _ hmod u1 u2 u3 u4 kH5
              exact AllReadyH.nil
            exact AllReadyH.nil
          exact AllReadyH.nil
        refine AllReadyH.cons rfl (fun K hK => ?_) ?_
        · (go_simp; (with_reducible refine (HIH.out).mono ?_); rintro e w5 ⟨rfl, hmod, f2, n2, u1, u2, u3, u4⟩; obtain ⟨hS5, kH5⟩ := HBK.out _ hmod; have fH5 := frozen_of kH5 0; have cH5 := cell_of kH5 0)
          refine hK.out _ _ ?_ (fun hHeld => ?_)
          · first | go_keep | exact hS5 | exact HKP.out _ hS5 _
          clear hK K
          refine wpAnyH_take (i := 6) (v := ?_) rfl (by kernel_rfl) (by kernel_rfl) (by kernel_rfl) (fun _ _ _ h => h) (Or.inl ⟨by rfl, ?_⟩) (by assumption) ?_
          rotate_left
          · (intro w hSw; (try dsimp only at hSw); go_split_ands; go_simp; first | done | with_reducible rfl)
          simp only [List.getElem_toArray, List.getElem_cons_succ, List.getElem_cons_zero, Act.put, List.setIfInBounds_toArray, List.set_cons_zero, List.set_cons_succ]
          refine wpAnyH_ready (rs := [0]) (by kernel_rfl) (by simp) ?_
          refine AllReadyH.cons rfl (fun K hK => ?_) ?_
          · go_simp
            refine hK.out _ _ ?_ (fun hHeld => ?_)
            · first | go_keep | exact hS5 | exact HKP.out _ hS5 _
            clear hK K
            refine wpAnyH_ready (rs := [7]) (by kernel_rfl) (by simp) ?_
            refine AllReadyH.cons rfl (fun K hK => ?_) ?_
            · go_simp
              refine hK.out _ _ ?_ (fun hHeld => ?_)
              · first | go_keep | exact hS5 | exact HKP.out _ hS5 _
              clear hK K
              refine wpAnyH_ready (rs := [8]) (by kernel_rfl) (by simp) ?_
              refine AllReadyH.cons rfl (fun K hK => ?_) ?_
              · go_simp
                refine hK.out _ _ ?_ (fun hHeld => ?_)
                · first | go_keep | exact hS5 | exact HKP.out _ hS5 _
                clear hK K
                refine wpAnyH_done (by kernel_rfl) ?_ _
                exact HFIN.out _ _ _ hmod u1 u2 u3 u4 kH5
              exact AllReadyH.nil
            exact AllReadyH.nil
          exact AllReadyH.nil
        exact AllReadyH.nil
      case done =>
        rintro D Wd hD ⟨hmem, ⟨f', n', i1, i2, i3, i4⟩, kH, hmw, kst, hsz⟩ hK
        have hval : (movesM L R ⟨i, j, ah, rt⟩).foldl (fun h p => min h (p.1.1.cost + val L.side R.side p.2)) 1099511627776 = val L.side R.side ⟨i, j, ah, rt⟩ := by
          rw [val_eq fL fR hs, ← movesM_S, List.foldl_map, hd]; rfl
        rw [hval] at kH
        have hms : ∀ x ∈ movesS L.side R.side ⟨i, j, ah, rt⟩, (f' (stVal x.2)).isSome = true := by
          intro x hx
          rw [← movesM_S] at hx
          obtain ⟨y, hy, rfl⟩ := List.mem_map.1 hx
          exact i4 y hy
        obtain ⟨es, clk, hup, hA2⟩ := i1.update st_keyed Tryz.underlying46 ⟨lk, hkey⟩ (.int .i64 (val L.side R.side ⟨i, j, ah, rt⟩))
        have hDb : D ≠ b := by omega
        have HR : Hid (WalkRes L R b f ⟨i, j, ah, rt⟩ W (.returned (.int .i64 (val L.side R.side ⟨i, j, ah, rt⟩))) ((Wd.putObj b (.map es clk)).putObj D (.deferred none))) := by
          have mb : Mod (fun k => k = b) Wd (Wd.putObj b (.map es clk)) := (Mod.refl (fun k => k = b) Wd).putObj (.inl rfl) _
          have mD : Mod (fun k => k = D) (Wd.putObj b (.map es clk)) ((Wd.putObj b (.map es clk)).putObj D (.deferred none)) := (Mod.refl (fun k => k = D) _).putObj (.inl rfl) _
          refine Lib.hid ⟨rfl, ((hmw.trans mb).trans' mD (fun k _ h => h) (fun k hk h => by omega)), _, _, hA2.mod mD (by omega), i2.upd hs hms, fun v h => upd_some (i3 v h), ?_⟩
          rw [upd_same]; rfl
        have HK : Hid ((Wd.putObj b (.map es clk)).heap[D]? = some (.deferred (some []))) := Lib.hid ((World.putObj_heap_other hDb).trans hK)
        simp only [stVal] at hup
        have kc1 := cell_of hmem.known 0
        have kc2 := cell_of kst
        simp only [stVals] at kc2
        have kc3 : Wd.cell? ⟨W.heap.size + 1, 0, none⟩ = _ := kH.cell
        have kc4 : (Wd.putObj b (.map es clk)).cell? ⟨W.heap.size + 1, 0, none⟩ = _ := (cell_same (World.putObj_heap_other (by show W.heap.size + 1 ≠ b; omega))).trans kH.cell
        generalize val L.side R.side ⟨i, j, ah, rt⟩ = vv at hup kc3 kc4 HR
        clear hval kH hms i1 i2 i3 i4 hA2 hmem hmw kst hK hit
        gi_wp2
        refine ⟨by simp, .inl ⟨_, _, rfl, run_takeDeferred HK.out, ?_⟩⟩
        exact ⟨_, by simp [results, Tryz.results27, go_sem], HR.out⟩
end Go.Proofs.YtkkbkhcapogobaaGreatDoor
