/- Contracts: words.moves: the iterator. -/
import Derived.Test.YtkkbkhcapogobaaGreatDoorD5
import Derived.Sort.CutIn
import Derived.Deep.RegionHeld
namespace Go.Proofs.YtkkbkhcapogobaaGreatDoor
open Go Go.RowKit Go.Lib Go.Proofs S Go.Shelf Go.Maps
set_option linter.unusedVariables false
set_option linter.unusedSimpArgs false
attribute [local go_sem] Oper.semAt_some

theorem wpIn_region_held {P : Program} {ops : Array Oper} {Q : Exit → Act → World → Prop} {S : World → Prop} {r : Option Nat} {n id : Nat} {a : Act} {w : World} (hm : P.follows .mixedOrders = true) (hQ : ∀ a w, ¬ Q .outgrown a w) (hd : noDefer ops = true)
    (h : wpAnyH P .any ops Q S ops.size (Array.replicate ops.size false) a w.drew) : (Code.region id ops true).wpIn (WF r) n P Q a w :=
  wpIn_region_out hm hQ hd (wpAny_of_held _ _ _ _ h)

theorem frozen_of {w : World} {b : Nat} {cs : Array Value} {ty : TypeId} (h : w.heap[b]? = some (.cells cs ty)) (i : Nat) : w.frozen? ⟨b, i, none⟩ = false := by simp [World.frozen?, h]

theorem ne_isEmpty (l : Str) : decide (l ≠ []) = !l.isEmpty := by cases l <;> rfl
theorem block_set {w : World} {b : Nat} {cs : Array Value} {t : TypeId} {m : Nat × Nat} (h : w.heap[b]? = some (.cells cs t m)) (i : Nat) (v : Value) :
    (w.setCell ⟨b, i, none⟩ v).heap[b]? = some (.cells (cs.setIfInBounds i v) t m) := by
  obtain ⟨hlt, hk⟩ := Array.getElem?_eq_some_iff.1 h
  show (w.heap.modify b _)[b]? = _
  rw [Array.getElem?_eq_getElem (by rw [Array.size_modify]; exact hlt), Array.getElem_modify_self, hk]
  rfl
theorem Ext.set {w w' : World} (h : Ext w w') {b i : Nat} (hb : w.heap.size ≤ b) (v : Value) : Ext w (w'.setCell ⟨b, i, none⟩ v) :=
  ((h.mod (fun _ => False)).setCell (p := ⟨b, i, none⟩) (.inr hb) v).ext_of_none (fun _ _ h => h)

set_option maxRecDepth 100000 in
set_option maxHeartbeats 4000000 in
theorem moves_iter (L R : MSide) (s : St) (Bs Bw : Nat) (hne : Bs ≠ Bw) (w00 w0 : World) (hL : L.At w00) (hR : R.At w00) (hC : Cells w00 w0) (hsz : w00.heap.size ≤ w0.heap.size) (hBs : w00.heap.size ≤ Bs) (hBw : w00.heap.size ≤ Bw)
    (ks : w0.heap[Bs]? = some (.cells (stVals s) 49)) (kw : w0.heap[Bw]? = some (.cells #[letVal L.lg L.lc L.letters, .slice L.A L.rules.length L.rc, letVal R.lg R.lc R.letters, .slice R.A R.rules.length R.rc] 43))
    (hsi : s.i ≤ 1000) (hsj : s.j ≤ 1000) (T : Nat → Prop) (hT : ∀ k, T k → w00.heap.size ≤ k ∧ k < w0.heap.size ∧ k ≠ Bs ∧ k ≠ Bw) :
    IterX Tryz.prog 28 #[.pointer (some ⟨Bs, 0, none⟩), .pointer (some ⟨Bw, 0, none⟩)] (fun p : MR × St => #[mrVal p.1, stVal p.2]) (movesM L R s) T w0 := by
  obtain ⟨xs, hxs⟩ : ∃ xs, movesM L R s = xs := ⟨_, rfl⟩
  rw [hxs]
  have HXS := Lib.hid hxs
  clear hxs
  intro l J Jx W hW hJ hJx hY h0
  have hCW : Cells w00 W := hC.step hW (fun k hk => .inl (Nat.le_trans hsz hk))
  have ksW := block_keep ks hW (by have := (Array.getElem?_eq_some_iff.1 ks).1; omega)
  have kwW := block_keep kw hW (by have := (Array.getElem?_eq_some_iff.1 kw).1; omega)
  have hszW : w0.heap.size ≤ W.heap.size := hW.size
  have hBsl := (Array.getElem?_eq_some_iff.1 ks).1
  have hBwl := (Array.getElem?_eq_some_iff.1 kw).1
  clear hW hC ks kw
  refine (callsIn_wide (n := 4)).1 ?_
  refine callsIn_of_wp Tryz.func28 rfl trivial ?_ rfl
  simp only [Tryz.ntmps28, List.size_toArray, List.length_cons, List.length_nil, Nat.reduceAdd, Nat.reduceSub, Array.replicate_succ, Array.replicate_zero, List.push_toArray, List.append_toArray, List.nil_append, List.cons_append]
  have hcs := cell_of ksW
  have hcw := cell_of kwW
  obtain ⟨i, j, ah, rt⟩ := s
  simp only [stVals] at hcs ksW
  have c0 : W.cell? ⟨Bs, 0, none⟩ = some (.int .i64 i) := hcs 0
  have c1 : W.cell? ⟨Bs, 1, none⟩ = some (.int .i64 j) := hcs 1
  have c2 : W.cell? ⟨Bs, 2, none⟩ = some (.string (B ah)) := hcs 2
  have c3 : W.cell? ⟨Bs, 3, none⟩ = some (.bool rt) := hcs 3
  have d0 : W.cell? ⟨Bw, 0, none⟩ = some (letVal L.lg L.lc L.letters) := hcw 0
  have d1 : W.cell? ⟨Bw, 1, none⟩ = some (.slice L.A L.rules.length L.rc) := hcw 1
  have d2 : W.cell? ⟨Bw, 2, none⟩ = some (letVal R.lg R.lc R.letters) := hcw 2
  have d3 : W.cell? ⟨Bw, 3, none⟩ = some (.slice R.A R.rules.length R.rc) := hcw 3
  clear hcs hcw
  gi_upto_region 0 with fail
  gi_cut [4] from 14 (fun v4 wx => v4 = .bool (turnS L.side ⟨i, j, ah, rt⟩) ∧ wx = W)
  case first =>
    have ht : turnS L.side ⟨i, j, ah, rt⟩ = (rt || (decide (ah = []) && decide (i < L.letters.length))) := rfl
    have HT := Lib.hid ht
    clear ht
    cases rt with
    | true =>
      refine wpIn_region_plain (fun _ _ h => by obtain ⟨⟨v, hv⟩, _⟩ := h; cases hv) (by kernel_rfl) ?_
      go_wp2
      gi_meet
      case rel => exact ⟨by rw [HT.out]; rfl, rfl⟩
    | false =>
      cases he : (B ah).toList.isEmpty with
      | false =>
        have HE : Hid (ah ≠ []) := Lib.hid (by rw [Lib.toList_data] at he; rintro rfl; cases he)
        refine wpIn_region_plain (fun _ _ h => by obtain ⟨⟨v, hv⟩, _⟩ := h; cases hv) (by kernel_rfl) ?_
        go_wp2
        gi_meet
        case rel => exact ⟨by rw [HT.out]; simp [HE.out], rfl⟩
      | true =>
        have HE : Hid (ah = []) := Lib.hid (by rw [Lib.toList_data] at he; exact List.isEmpty_iff.1 he)
        gi_wp2_with fail
        gi_meet
        case rel => exact ⟨by rw [HT.out, HE.out]; simp, rfl⟩
  case rest =>
    obtain ⟨rfl, rfl⟩ := hcut
    rename World => W0
    gi_upto_region 1 with fail
    gi_cut [5, 6] from 30 (fun v5 v6 wx => v5 = .pointer (some ⟨W0.heap.size, 0, none⟩) ∧ v6 = .int .i64 j ∧ Ext W0 wx ∧ wx.heap[W0.heap.size]? = some (.cells #[letVal R.lg R.lc R.letters, .slice R.A R.rules.length R.rc] 41))
    case first =>
      have hn1 : W0.heap.size ≠ Bs := by omega
      have hn2 : W0.heap.size ≠ Bw := by omega
      refine wpIn_region_held (S := fun w' => w'.cell? ⟨Bw, 2, none⟩ = some (letVal R.lg R.lc R.letters) ∧ w'.cell? ⟨Bw, 3, none⟩ = some (.slice R.A R.rules.length R.rc) ∧ w'.cell? ⟨Bs, 1, none⟩ = some (.int .i64 j)) Tryz.mixed (fun _ _ h => by obtain ⟨⟨v, hv⟩, _⟩ := h; cases hv) (by kernel_rfl) ?_
      have hHeld : (fun w' : World => w'.cell? ⟨Bw, 2, none⟩ = some (letVal R.lg R.lc R.letters) ∧ w'.cell? ⟨Bw, 3, none⟩ = some (.slice R.A R.rules.length R.rc) ∧ w'.cell? ⟨Bs, 1, none⟩ = some (.int .i64 j)) W0.drew := ⟨d2, d3, c1⟩
      refine wpAnyH_take (i := 0) (v := ?_) rfl (by kernel_rfl) (by kernel_rfl) (by kernel_rfl) (fun _ _ _ h => h) (Or.inl ⟨by rfl, ?_⟩) (by assumption) ?_
      rotate_left
      · (intro w hSw; (try dsimp only at hSw); go_split_ands; go_simp; first | done | with_reducible rfl)
      simp only [List.getElem_toArray, List.getElem_cons_succ, List.getElem_cons_zero, Act.put, List.setIfInBounds_toArray, List.set_cons_zero, List.set_cons_succ]
      refine wpAnyH_take (i := 1) (v := ?_) rfl (by kernel_rfl) (by kernel_rfl) (by kernel_rfl) (fun _ _ _ h => h) (Or.inl ⟨by rfl, ?_⟩) (by assumption) ?_
      rotate_left
      · (intro w hSw; (try dsimp only at hSw); go_split_ands; go_simp; first | done | with_reducible rfl)
      simp only [List.getElem_toArray, List.getElem_cons_succ, List.getElem_cons_zero, Act.put, List.setIfInBounds_toArray, List.set_cons_zero, List.set_cons_succ]
      refine wpAnyH_take (i := 2) (v := ?_) rfl (by kernel_rfl) (by kernel_rfl) (by kernel_rfl) (fun _ _ _ h => h) (Or.inl ⟨by rfl, ?_⟩) (by assumption) ?_
      rotate_left
      · (intro w hSw; (try dsimp only at hSw); go_split_ands; go_simp; first | done | with_reducible rfl)
      simp only [List.getElem_toArray, List.getElem_cons_succ, List.getElem_cons_zero, Act.put, List.setIfInBounds_toArray, List.set_cons_zero, List.set_cons_succ]
      refine wpAnyH_take (i := 3) (v := ?_) rfl (by kernel_rfl) (by kernel_rfl) (by kernel_rfl) (fun _ _ _ h => h) (Or.inl ⟨by rfl, ?_⟩) (by assumption) ?_
      rotate_left
      · (intro w hSw; (try dsimp only at hSw); go_split_ands; go_simp; first | done | with_reducible rfl)
      simp only [List.getElem_toArray, List.getElem_cons_succ, List.getElem_cons_zero, Act.put, List.setIfInBounds_toArray, List.set_cons_zero, List.set_cons_succ]
      refine wpAnyH_ready (rs := [4]) (by kernel_rfl) (by simp) ?_
      refine AllReadyH.cons rfl (fun K hK => ?_) ?_
      · go_simp
        refine hK.out _ _ ?_ (fun hHeld => ?_)
        · go_keep
        clear hK K
        refine wpAnyH_ready (rs := [5]) (by kernel_rfl) (by simp) ?_
        refine AllReadyH.cons rfl (fun K hK => ?_) ?_
        · go_simp
          refine hK.out _ _ ?_ (fun hHeld => ?_)
          · go_keep
          clear hK K
          refine wpAnyH_take (i := 6) (v := ?_) rfl (by kernel_rfl) (by kernel_rfl) (by kernel_rfl) (fun _ _ _ h => h) (Or.inl ⟨by rfl, ?_⟩) (by assumption) ?_
          rotate_left
          · (intro w hSw; (try dsimp only at hSw); go_split_ands; go_simp; first | done | with_reducible rfl)
          simp only [List.getElem_toArray, List.getElem_cons_succ, List.getElem_cons_zero, Act.put, List.setIfInBounds_toArray, List.set_cons_zero, List.set_cons_succ]
          refine wpAnyH_done (by kernel_rfl) ?_ _
          gi_wp2_with fail
          gi_meet
          case rel => exact ⟨rfl, rfl, Ext.trans (Ext.new W0 _) (below_drewN _ 1), World.alloc_heap_new W0 _⟩
        exact AllReadyH.nil
      exact AllReadyH.nil
    case rest =>
      obtain ⟨rfl, rfl, hx1, kN⟩ := hcut
      rename World => W1
      have hsz1 : W0.heap.size < W1.heap.size := (Array.getElem?_eq_some_iff.1 kN).1
      clear c0 c1 c2 c3 d0 d1 d2 d3
      have hcs := cell_of (block_ext ksW hx1)
      have hcw := cell_of (block_ext kwW hx1)
      have hcN := cell_of kN
      have c0 : W1.cell? ⟨Bs, 0, none⟩ = some (.int .i64 i) := hcs 0
      have d0 : W1.cell? ⟨Bw, 0, none⟩ = some (letVal L.lg L.lc L.letters) := hcw 0
      have d1 : W1.cell? ⟨Bw, 1, none⟩ = some (.slice L.A L.rules.length L.rc) := hcw 1
      have n0 : W1.cell? ⟨W0.heap.size, 0, none⟩ = some (letVal R.lg R.lc R.letters) := hcN 0
      have n1 : W1.cell? ⟨W0.heap.size, 1, none⟩ = some (.slice R.A R.rules.length R.rc) := hcN 1
      have f0 : W1.frozen? ⟨W0.heap.size, 0, none⟩ = false := frozen_of kN 0
      have f1 : W1.frozen? ⟨W0.heap.size, 1, none⟩ = false := frozen_of kN 1
      clear hcs hcw hcN
      obtain ⟨tn, htn⟩ : ∃ tn, turnS L.side ⟨i, j, ah, rt⟩ = tn := ⟨_, rfl⟩
      rw [htn]
      have HTN := Lib.hid htn
      clear htn
      gi_upto_if 34 with fail
      gi_cut [6] from 35 (fun v6 wx => v6 = .int .i64 ((if tn then i else j : Nat) : Int) ∧ Ext W0 wx ∧ wx.heap[W0.heap.size]? = some (.cells #[letVal (if tn then L else R).lg (if tn then L else R).lc (if tn then L else R).letters, .slice (if tn then L else R).A (if tn then L else R).rules.length (if tn then L else R).rc] 41))
      case first =>
        cases tn
        case false =>
          gi_wp2_with fail
          gi_meet
          case rel => exact ⟨rfl, hx1, kN⟩
        case true =>
          gi_upto_region 3 with fail
          have hn1 : W0.heap.size ≠ Bs := by omega
          have hn2 : W0.heap.size ≠ Bw := by omega
          refine wpIn_region_held (S := fun w' => w'.cell? ⟨Bw, 0, none⟩ = some (letVal L.lg L.lc L.letters) ∧ w'.cell? ⟨Bw, 1, none⟩ = some (.slice L.A L.rules.length L.rc) ∧ w'.cell? ⟨Bs, 0, none⟩ = some (.int .i64 i)) Tryz.mixed (fun _ _ h => by obtain ⟨⟨v, hv⟩, _⟩ := h; cases hv) (by kernel_rfl) ?_
          have hHeld : (fun w' : World => w'.cell? ⟨Bw, 0, none⟩ = some (letVal L.lg L.lc L.letters) ∧ w'.cell? ⟨Bw, 1, none⟩ = some (.slice L.A L.rules.length L.rc) ∧ w'.cell? ⟨Bs, 0, none⟩ = some (.int .i64 i)) W1.drew := ⟨d0, d1, c0⟩
          refine wpAnyH_take (i := 0) (v := ?_) rfl (by kernel_rfl) (by kernel_rfl) (by kernel_rfl) (fun _ _ _ h => h) (Or.inl ⟨by rfl, ?_⟩) (by assumption) ?_
          rotate_left
          · (intro w hSw; (try dsimp only at hSw); go_split_ands; go_simp; first | done | with_reducible rfl)
          simp only [List.getElem_toArray, List.getElem_cons_succ, List.getElem_cons_zero, Act.put, List.setIfInBounds_toArray, List.set_cons_zero, List.set_cons_succ]
          refine wpAnyH_take (i := 1) (v := ?_) rfl (by kernel_rfl) (by kernel_rfl) (by kernel_rfl) (fun _ _ _ h => h) (Or.inl ⟨by rfl, ?_⟩) (by assumption) ?_
          rotate_left
          · (intro w hSw; (try dsimp only at hSw); go_split_ands; go_simp; first | done | with_reducible rfl)
          simp only [List.getElem_toArray, List.getElem_cons_succ, List.getElem_cons_zero, Act.put, List.setIfInBounds_toArray, List.set_cons_zero, List.set_cons_succ]
          refine wpAnyH_take (i := 2) (v := ?_) rfl (by kernel_rfl) (by kernel_rfl) (by kernel_rfl) (fun _ _ _ h => h) (Or.inl ⟨by rfl, ?_⟩) (by assumption) ?_
          rotate_left
          · (intro w hSw; (try dsimp only at hSw); go_split_ands; go_simp; first | done | with_reducible rfl)
          simp only [List.getElem_toArray, List.getElem_cons_succ, List.getElem_cons_zero, Act.put, List.setIfInBounds_toArray, List.set_cons_zero, List.set_cons_succ]
          refine wpAnyH_take (i := 3) (v := ?_) rfl (by kernel_rfl) (by kernel_rfl) (by kernel_rfl) (fun _ _ _ h => h) (Or.inl ⟨by rfl, ?_⟩) (by assumption) ?_
          rotate_left
          · (intro w hSw; (try dsimp only at hSw); go_split_ands; go_simp; first | done | with_reducible rfl)
          simp only [List.getElem_toArray, List.getElem_cons_succ, List.getElem_cons_zero, Act.put, List.setIfInBounds_toArray, List.set_cons_zero, List.set_cons_succ]
          refine wpAnyH_ready (rs := [4]) (by kernel_rfl) (by simp) ?_
          refine AllReadyH.cons rfl (fun K hK => ?_) ?_
          · go_simp
            refine hK.out _ _ ?_ (fun hHeld => ?_)
            · go_keep
            clear hK K
            refine wpAnyH_take (i := 5) (v := ?_) rfl (by kernel_rfl) (by kernel_rfl) (by kernel_rfl) (fun _ _ _ h => h) (Or.inl ⟨by rfl, ?_⟩) (by assumption) ?_
            rotate_left
            · (intro w hSw; (try dsimp only at hSw); go_split_ands; go_simp; first | done | with_reducible rfl)
            simp only [List.getElem_toArray, List.getElem_cons_succ, List.getElem_cons_zero, Act.put, List.setIfInBounds_toArray, List.set_cons_zero, List.set_cons_succ]
            refine wpAnyH_done (by kernel_rfl) ?_ _
            gi_wp2_with fail
            gi_meet
            case rel => exact ⟨rfl, Ext.trans ((hx1.set (Nat.le_refl _) _).set (Nat.le_refl _) _) (below_drewN _ 1), block_set (block_set kN 0 _) 1 _⟩
          exact AllReadyH.nil
      case rest =>
        obtain ⟨rfl, hx2, kN2⟩ := hcut
        rename World => W2
        clear c0 d0 d1 n0 n1 f0 f1 kN hsz1 hx1
        clear W1
        have hone : (if tn then L else R).At w00 := by cases tn; exact hR; exact hL
        have hat : (if tn then i else j : Nat) ≤ 1000 := by cases tn; exact hsj; exact hsi
        have hmm : movesM L R ⟨i, j, ah, rt⟩ = (if tn then L else R).rules.filterMap (movM L R ⟨i, j, ah, rt⟩) := by
          unfold movesM; rw [HTN.out]; cases tn <;> rfl
        have hmv : ∀ m : MR, movM L R ⟨i, j, ah, rt⟩ m = if fitsL (if tn then L else R).letters m.1.frm (if tn then i else j) then (stepS tn ⟨i, j, ah, rt⟩ m.1).map fun n => (m, n) else none := by
          intro m
          unfold movM moveS
          rw [HTN.out]
          have hf : fitsS (if tn then L.side else R.side) m.1 (if tn then i else j) = fitsL (if tn then L else R).letters m.1.frm (if tn then i else j) := by cases tn <;> rfl
          rw [hf]
          cases fitsL (if tn then L else R).letters m.1.frm (if tn then i else j) <;> simp [Function.comp_def]
        have HMV := Lib.hid hmv
        rw [hmm] at HXS
        generalize (if tn then i else j : Nat) = at0 at *
        generalize (if tn then L else R) = one at *
        clear hmm hmv HTN
        have hcN := cell_of kN2
        have n1 : W2.cell? ⟨W0.heap.size, 1, none⟩ = some (.slice one.A one.rules.length one.rc) := hcN 1
        have hJ2 := hJ _ _ _ h0 hx2
        have hC2 := hCW.trans (Cells.of_ext hx2)
        have ks2 := block_ext ksW hx2
        have kw2 := block_ext kwW hx2
        have hlen := hone.len
        generalize hN : W0.heap.size = N at *
        obtain ⟨ols, olg, olc, oA, orc, ors⟩ := one
        dsimp only at *
        have hszN : w0.heap.size ≤ N := by omega
        clear hcN h0 hCW ksW kwW hx2 hszW
        gi_wp2_with fail
        gi_loopw [42] (fun v wr => ∃ k : Nat, k ≤ ors.length ∧ v = .int .i64 k ∧ J ((ors.take k).filterMap (movM L R ⟨i, j, ah, rt⟩)) wr ∧ Cells w00 wr ∧ wr.heap[Bs]? = some (.cells #[.int .i64 i, .int .i64 j, .string (B ah), .bool rt] 49) ∧ wr.heap[Bw]? = some (.cells #[letVal L.lg L.lc L.letters, .slice L.A L.rules.length L.rc, letVal R.lg R.lc R.letters, .slice R.A R.rules.length R.rc] 43) ∧ wr.heap[N]? = some (.cells #[letVal olg olc ols, .slice oA ors.length orc] 41))
          (fun v _ => ors.length - (intOf v).toNat)
        case atStart => exact ⟨0, Nat.zero_le _, rfl, hJ2, hC2, ks2, kw2, kN2⟩
        case round =>
          obtain ⟨k, hk, rfl, hJr, hCr, ksr, kwr, kNr⟩ := hrel
          clear hJ2 hC2 ks2 kw2 kN2 n1
          have hcs := cell_of ksr
          have hcN := cell_of kNr
          by_cases hkk : k < ors.length
          · have hx : ors[k]? = some ors[k] := List.getElem?_eq_getElem hkk
            obtain ⟨a, rfl, hcells⟩ := (hone.elems.cells hCr).elem hx
            have hfr := (hone.frms _ (List.getElem_mem hkk)).cells hCr
            have hlets := hone.lets.cells hCr
            have htake : (ors.take (k + 1)).filterMap (movM L R ⟨i, j, ah, rt⟩) = (ors.take k).filterMap (movM L R ⟨i, j, ah, rt⟩) ++ (movM L R ⟨i, j, ah, rt⟩ ors[k]).toList := by
              rw [← List.take_append_getElem hkk, List.filterMap_append]
              cases hm : movM L R ⟨i, j, ah, rt⟩ ors[k] <;> simp [hm]
            have hall : xs = (ors.take k).filterMap (movM L R ⟨i, j, ah, rt⟩) ++ ((movM L R ⟨i, j, ah, rt⟩ ors[k]).toList ++ (ors.drop (k + 1)).filterMap (movM L R ⟨i, j, ah, rt⟩)) := by
              rw [← HXS.out, ← List.append_assoc, ← htake, ← List.filterMap_append, List.take_append_drop]
            have hmk := HMV.out ors[k]
            generalize ors[k] = m at hx hcells hfr htake hall hmk
            obtain ⟨⟨ri, rc, rf, rto⟩, g2, c2⟩ := m
            obtain ⟨e0, e1, e2, e3⟩ := elem4 hcells
            dsimp only at e0 e1 e2 e3 hfr hmk
            have hfc := fun w' (hb : Ext wr w') => fits_any olg olc g2 c2 ols rf (.slice (some a) ors.length orc) ri rc (B rto) at0 w' (hlets.ext hb) (hfr.ext hb) hat
            have hrf := hfr.few
            have HFC := Lib.hid hfc
            have hext1 : ∀ cs w1, Ext (wr.alloc (.cells cs 55)) w1 → Ext wr w1 := fun cs w1 h => Ext.trans (Ext.new wr _) h
            have HEXT := Lib.hid hext1
            have hst : stepS tn ⟨i, j, ah, rt⟩ ⟨ri, rc, rf, rto⟩ = (if rto.isPrefixOf ah then some ⟨if tn then i + rf.length else i, if tn then j else j + rf.length, ah.drop rto.length, rt && decide (ah.drop rto.length ≠ [])⟩ else if ah.isPrefixOf rto then some ⟨if tn then i + rf.length else i, if tn then j else j + rf.length, rto.drop ah.length, !tn⟩ else none) := rfl
            have HST := Lib.hid hst
            have hwi : IntKind.i64.wrap ((i : Int) + rf.length) = i + rf.length := wrap_small (by omega) (by omega)
            have hwj : IntKind.i64.wrap ((j : Int) + rf.length) = j + rf.length := wrap_small (by omega) (by omega)
            have hc1 := fun w => cut_any ah rto w
            have hc2 := fun w => cut_any rto ah w
            have HC1 := Lib.hid hc1
            have HC2 := Lib.hid hc2
            have hcl : ∀ w1, Ext (wr.alloc (.cells #[.int .i64 ri, .int .i64 rc, letVal g2 c2 rf, .string (B rto)] 55)) w1 → (∀ i, w1.cell? ⟨wr.heap.size, i, none⟩ = #[Value.int .i64 ri, .int .i64 rc, letVal g2 c2 rf, .string (B rto)][i]?) ∧ (∀ o i, (w1.alloc o).cell? ⟨wr.heap.size, i, none⟩ = #[Value.int .i64 ri, .int .i64 rc, letVal g2 c2 rf, .string (B rto)][i]?) ∧ (∀ n, w1.cell? ⟨Bs, n, none⟩ = #[Value.int .i64 i, .int .i64 j, .string (B ah), .bool rt][n]?) ∧ (∀ o n, (w1.alloc o).cell? ⟨Bs, n, none⟩ = #[Value.int .i64 i, .int .i64 j, .string (B ah), .bool rt][n]?) := fun w1 h =>
              ⟨(cells_new1 h).1, fun o => (cells_new1 (Ext.trans h (Ext.new w1 o))).1, cell_of (block_ext ksr (HEXT.out _ _ h)), fun o => cell_of (block_ext ksr (Ext.trans (HEXT.out _ _ h) (Ext.new w1 o)))⟩
            have HCL := Lib.hid hcl
            have hcN1 : ∀ o n, (wr.alloc o).cell? ⟨N, n, none⟩ = #[letVal olg olc ols, .slice (some a) ors.length orc][n]? := fun o => cell_of (block_ext kNr (Ext.new wr o))
            have hback : ∀ cs o w1, Ext (wr.alloc (.cells cs 55)) w1 → ∀ {W3 : World}, Mod (fun k => T k ∨ Book (w1.alloc o) k) (w1.alloc o) W3 → Cells w00 W3 ∧ W3.heap[Bs]? = some (.cells #[.int .i64 i, .int .i64 j, .string (B ah), .bool rt] 49) ∧ W3.heap[Bw]? = some (.cells #[letVal L.lg L.lc L.letters, .slice L.A L.rules.length L.rc, letVal R.lg R.lc R.letters, .slice R.A R.rules.length R.rc] 43) ∧ W3.heap[N]? = some (.cells #[letVal olg olc ols, .slice (some a) ors.length orc] 41) := fun cs o w1 h W3 hm => by
              have h1 := Ext.trans (HEXT.out _ _ h) (Ext.new w1 o)
              have b1 := block_ext ksr h1
              have b2 := block_ext kwr h1
              have b3 := block_ext kNr h1
              refine ⟨(hCr.trans (Cells.of_ext h1)).step hm (fun k hk => hk.imp (fun h => (hT k h).1) id), block_keep b1 hm ?_, block_keep b2 hm ?_, block_keep b3 hm ?_⟩
              · rintro (h | h); exact (hT _ h).2.2.1 rfl; exact cells_not_book b1 h
              · rintro (h | h); exact (hT _ h).2.2.2 rfl; exact cells_not_book b2 h
              · rintro (h | h); have := (hT _ h).2.1; omega; exact cells_not_book b3 h
            have HBACK := Lib.hid hback
            have HJR := Lib.hid hJr
            have HMK := Lib.hid hmk
            have HTAKE0 := Lib.hid htake
            have HKS := Lib.hid (And.intro hCr (And.intro ksr (And.intro kwr kNr)))
            cases hb : fitsL ols rf at0
            case false =>
              have HTK : Hid ((ors.take (k + 1)).filterMap (movM L R ⟨i, j, ah, rt⟩) = (ors.take k).filterMap (movM L R ⟨i, j, ah, rt⟩)) := Lib.hid (by rw [htake, HMK.out, hb]; simp)
              have HFIT : Hid (∀ o, Calls Tryz.prog 29 #[.agg #[letVal olg olc ols, .slice (some a) ors.length orc], .agg #[.int .i64 ri, .int .i64 rc, letVal g2 c2 rf, .string (B rto)], .int .i64 at0] (wr.alloc o) fun e w' => e = .returned (.bool false) ∧ Ext (wr.alloc o) w') := Lib.hid (fun o => hb ▸ HFC.out _ (Ext.new wr o))
              have HREL : Hid (∀ cs w1, Ext (wr.alloc (.cells cs 55)) w1 → J ((ors.take k).filterMap (movM L R ⟨i, j, ah, rt⟩)) w1 ∧ Cells w00 w1 ∧ w1.heap[Bs]? = some (.cells #[.int .i64 i, .int .i64 j, .string (B ah), .bool rt] 49) ∧ w1.heap[Bw]? = some (.cells #[letVal L.lg L.lc L.letters, .slice L.A L.rules.length L.rc, letVal R.lg R.lc R.letters, .slice R.A R.rules.length R.rc] 43) ∧ w1.heap[N]? = some (.cells #[letVal olg olc ols, .slice (some a) ors.length orc] 41)) := Lib.hid (fun cs w1 h => ⟨hJ _ _ _ HJR.out (HEXT.out _ _ h), HKS.out.1.trans (Cells.of_ext (HEXT.out _ _ h)), block_ext HKS.out.2.1 (HEXT.out _ _ h), block_ext HKS.out.2.2.1 (HEXT.out _ _ h), block_ext HKS.out.2.2.2 (HEXT.out _ _ h)⟩)
              clear hb hmk htake hall hfc hst hc1 hc2 hcl hback hJr hCr ksr kwr kNr hfr hlets hcells hx hext1 hY
              gi_wp2_with (refine ⟨trivial, ?_⟩; gi_at_call 29; (with_reducible refine (callsIn_wide.2 (HFIT.out _)).mono ?_); rintro e w1 ⟨rfl, hb1⟩; obtain ⟨k1, k2, k3, k4⟩ := HCL.out _ hb1)
              go_roundw
              case rel => exact ⟨k + 1, by omega, by simp, by rw [HTK.out]; exact (HREL.out _ _ hb1).1, (HREL.out _ _ hb1).2⟩
              case measure => simp [intOf]; omega
            case true =>
              have hHB : Hid (fitsL ols rf at0 = true) := Lib.hid hb
              have HFIT : Hid (∀ o, Calls Tryz.prog 29 #[.agg #[letVal olg olc ols, .slice (some a) ors.length orc], .agg #[.int .i64 ri, .int .i64 rc, letVal g2 c2 rf, .string (B rto)], .int .i64 at0] (wr.alloc o) fun e w' => e = .returned (.bool true) ∧ Ext (wr.alloc o) w') := Lib.hid (fun o => hb ▸ HFC.out _ (Ext.new wr o))
              have hyy : ∀ (ni nj : Nat) (na : Str) (nr : Bool) (vi vj : Int), movM L R ⟨i, j, ah, rt⟩ (⟨ri, rc, rf, rto⟩, g2, c2) = some ((⟨ri, rc, rf, rto⟩, g2, c2), ⟨ni, nj, na, nr⟩) → vi = ni → vj = nj → ∀ w1, Ext (wr.alloc (.cells #[.int .i64 ri, .int .i64 rc, letVal g2 c2 rf, .string (B rto)] 55)) w1 → YieldAt Fence.wide 3 Tryz.prog l #[.agg #[.int .i64 ri, .int .i64 rc, letVal g2 c2 rf, .string (B rto)], .agg #[.int .i64 vi, .int .i64 vj, .string (B na), .bool nr]] (w1.alloc (.cells #[.int .i64 vi, .int .i64 vj, .string (B na), .bool nr] 49)) fun e W' => (e = .returned (.bool true) ∧ J ((ors.take k).filterMap (movM L R ⟨i, j, ah, rt⟩) ++ [((⟨ri, rc, rf, rto⟩, g2, c2), ⟨ni, nj, na, nr⟩)]) W' ∧ Mod (fun k => T k ∨ Book (w1.alloc (.cells #[.int .i64 vi, .int .i64 vj, .string (B na), .bool nr] 49)) k) (w1.alloc (.cells #[.int .i64 vi, .int .i64 vj, .string (B na), .bool nr] 49)) W') ∨ (e = .returned (.bool false) ∧ Jx ((ors.take k).filterMap (movM L R ⟨i, j, ah, rt⟩) ++ [((⟨ri, rc, rf, rto⟩, g2, c2), ⟨ni, nj, na, nr⟩)]) W') := by
                rintro ni nj na nr vi vj hmm rfl rfl w1 h
                exact hY ((ors.take k).filterMap (movM L R ⟨i, j, ah, rt⟩)) ((⟨ri, rc, rf, rto⟩, g2, c2), ⟨ni, nj, na, nr⟩) _ _ (by rw [hmm] at hall; exact hall) (hJ _ _ _ hJr (Ext.trans (HEXT.out _ _ h) (Ext.new w1 _)))
              have htk : ∀ n, movM L R ⟨i, j, ah, rt⟩ (⟨ri, rc, rf, rto⟩, g2, c2) = some ((⟨ri, rc, rf, rto⟩, g2, c2), n) → (ors.take (k + 1)).filterMap (movM L R ⟨i, j, ah, rt⟩) = (ors.take k).filterMap (movM L R ⟨i, j, ah, rt⟩) ++ [((⟨ri, rc, rf, rto⟩, g2, c2), n)] := fun n h => by rw [htake, h]; rfl
              have hpre : ∀ n, movM L R ⟨i, j, ah, rt⟩ (⟨ri, rc, rf, rto⟩, g2, c2) = some ((⟨ri, rc, rf, rto⟩, g2, c2), n) → (ors.take k).filterMap (movM L R ⟨i, j, ah, rt⟩) ++ [((⟨ri, rc, rf, rto⟩, g2, c2), n)] <+: xs := fun n h => by rw [hall, h]; exact ⟨_, by rw [List.append_assoc]; rfl⟩
              have HYY := Lib.hid hyy
              have HTAKE := Lib.hid htk
              have HPRE := Lib.hid hpre
              have hrel : ∀ cs o w1, Ext (wr.alloc (.cells cs 55)) w1 → J ((ors.take k).filterMap (movM L R ⟨i, j, ah, rt⟩)) (w1.alloc o) ∧ Cells w00 (w1.alloc o) ∧ (w1.alloc o).heap[Bs]? = some (.cells #[.int .i64 i, .int .i64 j, .string (B ah), .bool rt] 49) ∧ (w1.alloc o).heap[Bw]? = some (.cells #[letVal L.lg L.lc L.letters, .slice L.A L.rules.length L.rc, letVal R.lg R.lc R.letters, .slice R.A R.rules.length R.rc] 43) ∧ (w1.alloc o).heap[N]? = some (.cells #[letVal olg olc ols, .slice (some a) ors.length orc] 41) := fun cs o w1 h => by
                have h1 := Ext.trans (HEXT.out _ _ h) (Ext.new w1 o)
                exact ⟨hJ _ _ _ HJR.out h1, HKS.out.1.trans (Cells.of_ext h1), block_ext HKS.out.2.1 h1, block_ext HKS.out.2.2.1 h1, block_ext HKS.out.2.2.2 h1⟩
              have HREL := Lib.hid hrel
              clear hb hmk hst hc1 hc2 hcl hback hfc hJr hCr ksr kwr kNr hfr hlets hcells hx hext1 hY hyy htk hpre hrel htake hall
              cases h1 : rto.isPrefixOf ah
              case false =>
                have HP1 := Lib.hid h1
                replace HC1 : Hid (∀ w, Calls Tryz.prog 30 #[.string (B ah), .string (B rto)] w fun e w' => e = .returned (.tuple #[.string (B ah), .bool false]) ∧ w = w') := Lib.hid (fun w => by have := HC1.out w; unfold cutS at this; rw [h1] at this; exact this)
                cases h2 : ah.isPrefixOf rto
                case false =>
                  replace HC2 : Hid (∀ w, Calls Tryz.prog 30 #[.string (B rto), .string (B ah)] w fun e w' => e = .returned (.tuple #[.string (B rto), .bool false]) ∧ w = w') := Lib.hid (fun w => by have := HC2.out w; unfold cutS at this; rw [h2] at this; exact this)
                  have HTK : Hid ((ors.take (k + 1)).filterMap (movM L R ⟨i, j, ah, rt⟩) = (ors.take k).filterMap (movM L R ⟨i, j, ah, rt⟩)) := Lib.hid (by rw [HTAKE0.out, HMK.out, HST.out]; simp [h1, h2])
                  clear h1 h2 HYY HTAKE
                  cases tn
                  · gi_wp2_with (first | (refine ⟨trivial, ?_⟩; gi_at_call 29; (with_reducible refine (callsIn_wide.2 (HFIT.out _)).mono ?_); rintro e w1 ⟨rfl, hb1⟩; obtain ⟨k1, k2, k3, k4⟩ := HCL.out _ hb1) | (refine ⟨trivial, ?_⟩; gi_at_call 30; (with_reducible refine (callsIn_wide.2 (HC1.out _)).mono ?_); rintro e w2 ⟨rfl, rfl⟩) | (refine ⟨trivial, ?_⟩; gi_at_call 30; (with_reducible refine (callsIn_wide.2 (HC2.out _)).mono ?_); rintro e w3 ⟨rfl, rfl⟩))
                    go_roundw
                    case rel => exact ⟨k + 1, by omega, by simp, by rw [HTK.out]; exact (HREL.out _ _ _ hb1).1, (HREL.out _ _ _ hb1).2⟩
                    case measure => simp [intOf]; omega
                  · gi_wp2_with (first | (refine ⟨trivial, ?_⟩; gi_at_call 29; (with_reducible refine (callsIn_wide.2 (HFIT.out _)).mono ?_); rintro e w1 ⟨rfl, hb1⟩; obtain ⟨k1, k2, k3, k4⟩ := HCL.out _ hb1) | (refine ⟨trivial, ?_⟩; gi_at_call 30; (with_reducible refine (callsIn_wide.2 (HC1.out _)).mono ?_); rintro e w2 ⟨rfl, rfl⟩) | (refine ⟨trivial, ?_⟩; gi_at_call 30; (with_reducible refine (callsIn_wide.2 (HC2.out _)).mono ?_); rintro e w3 ⟨rfl, rfl⟩))
                    go_roundw
                    case rel => exact ⟨k + 1, by omega, by simp, by rw [HTK.out]; exact (HREL.out _ _ _ hb1).1, (HREL.out _ _ _ hb1).2⟩
                    case measure => simp [intOf]; omega
                case true =>
                  replace HC2 : Hid (∀ w, Calls Tryz.prog 30 #[.string (B rto), .string (B ah)] w fun e w' => e = .returned (.tuple #[.string (B (rto.drop ah.length)), .bool true]) ∧ w = w') := Lib.hid (fun w => by have := HC2.out w; unfold cutS at this; rw [h2] at this; exact this)
                  cases tn
                  · have HNX : Hid (movM L R ⟨i, j, ah, _⟩ (⟨ri, rc, rf, rto⟩, g2, c2) = some ((⟨ri, rc, rf, rto⟩, g2, c2), ⟨i, (j + rf.length), (rto.drop ah.length), true⟩)) := Lib.hid (by rw [HMK.out, hHB.out, HST.out]; simp [h1, h2])
                    have HY1 := Lib.hid (HYY.out i (j + rf.length) (rto.drop ah.length) true (i : Int) ((j : Int) + rf.length) HNX.out (by simp) (by simp))
                    have HTK := Lib.hid (HTAKE.out _ HNX.out)
                    have HPX0 := Lib.hid (HPRE.out _ HNX.out)
                    clear HYY HTAKE HPRE HNX HREL HMK HST h1 h2
                    gi_wp2_with (first | (refine ⟨trivial, ?_⟩; gi_at_call 29; (with_reducible refine (callsIn_wide.2 (HFIT.out _)).mono ?_); rintro e w1 ⟨rfl, hb1⟩; obtain ⟨k1, k2, k3, k4⟩ := HCL.out _ hb1; obtain ⟨fn, tmps, assign, body, hy, hR⟩ := HY1.out _ hb1) | (refine ⟨trivial, ?_⟩; gi_at_call 30; (with_reducible refine (callsIn_wide.2 (HC1.out _)).mono ?_); rintro e w2 ⟨rfl, rfl⟩) | (refine ⟨trivial, ?_⟩; gi_at_call 30; (with_reducible refine (callsIn_wide.2 (HC2.out _)).mono ?_); rintro e w3 ⟨rfl, rfl⟩))
                    refine hR.mono ?_
                    rintro e W3 (⟨rfl, hJ3, hm3⟩ | ⟨rfl, hJx3⟩)
                    · have HQ := Lib.hid (And.intro hJ3 (HBACK.out _ _ _ hb1 hm3))
                      clear hJ3 hm3 k1 k2 k3 k4 hb1 hy hR
                      gi_wp2_with fail
                      go_roundw
                      case rel => exact ⟨k + 1, by omega, by simp, by rw [HTK.out]; exact HQ.out.1, HQ.out.2⟩
                      case measure => simp [intOf]; omega
                    · have HPX : Hid (∃ pre, pre <+: xs ∧ Jx pre W3) := Lib.hid ⟨_, HPX0.out, hJx3⟩
                      clear k1 k2 k3 k4 hb1 hy hR hJx3
                      gi_wp2_with fail
                      (try simp only [Exit.inBlock, Exit.then])
                      refine bodyPost_ret (results_none rfl _ _ _) rfl ?_
                      exact ⟨⟨_, rfl⟩, .inr HPX.out⟩
                  · have HNX : Hid (movM L R ⟨i, j, ah, _⟩ (⟨ri, rc, rf, rto⟩, g2, c2) = some ((⟨ri, rc, rf, rto⟩, g2, c2), ⟨(i + rf.length), j, (rto.drop ah.length), false⟩)) := Lib.hid (by rw [HMK.out, hHB.out, HST.out]; simp [h1, h2])
                    have HY1 := Lib.hid (HYY.out (i + rf.length) j (rto.drop ah.length) false ((i : Int) + rf.length) (j : Int) HNX.out (by simp) (by simp))
                    have HTK := Lib.hid (HTAKE.out _ HNX.out)
                    have HPX0 := Lib.hid (HPRE.out _ HNX.out)
                    clear HYY HTAKE HPRE HNX HREL HMK HST h1 h2
                    gi_wp2_with (first | (refine ⟨trivial, ?_⟩; gi_at_call 29; (with_reducible refine (callsIn_wide.2 (HFIT.out _)).mono ?_); rintro e w1 ⟨rfl, hb1⟩; obtain ⟨k1, k2, k3, k4⟩ := HCL.out _ hb1; obtain ⟨fn, tmps, assign, body, hy, hR⟩ := HY1.out _ hb1) | (refine ⟨trivial, ?_⟩; gi_at_call 30; (with_reducible refine (callsIn_wide.2 (HC1.out _)).mono ?_); rintro e w2 ⟨rfl, rfl⟩) | (refine ⟨trivial, ?_⟩; gi_at_call 30; (with_reducible refine (callsIn_wide.2 (HC2.out _)).mono ?_); rintro e w3 ⟨rfl, rfl⟩))
                    refine hR.mono ?_
                    rintro e W3 (⟨rfl, hJ3, hm3⟩ | ⟨rfl, hJx3⟩)
                    · have HQ := Lib.hid (And.intro hJ3 (HBACK.out _ _ _ hb1 hm3))
                      clear hJ3 hm3 k1 k2 k3 k4 hb1 hy hR
                      gi_wp2_with fail
                      go_roundw
                      case rel => exact ⟨k + 1, by omega, by simp, by rw [HTK.out]; exact HQ.out.1, HQ.out.2⟩
                      case measure => simp [intOf]; omega
                    · have HPX : Hid (∃ pre, pre <+: xs ∧ Jx pre W3) := Lib.hid ⟨_, HPX0.out, hJx3⟩
                      clear k1 k2 k3 k4 hb1 hy hR hJx3
                      gi_wp2_with fail
                      (try simp only [Exit.inBlock, Exit.then])
                      refine bodyPost_ret (results_none rfl _ _ _) rfl ?_
                      exact ⟨⟨_, rfl⟩, .inr HPX.out⟩
              case true =>
                replace HC1 : Hid (∀ w, Calls Tryz.prog 30 #[.string (B ah), .string (B rto)] w fun e w' => e = .returned (.tuple #[.string (B (ah.drop rto.length)), .bool true]) ∧ w = w') := Lib.hid (fun w => by have := HC1.out w; unfold cutS at this; rw [h1] at this; exact this)
                cases rt
                case false =>
                  cases tn
                  · have HNX : Hid (movM L R ⟨i, j, ah, _⟩ (⟨ri, rc, rf, rto⟩, g2, c2) = some ((⟨ri, rc, rf, rto⟩, g2, c2), ⟨i, (j + rf.length), (ah.drop rto.length), false⟩)) := Lib.hid (by rw [HMK.out, hHB.out, HST.out]; simp [h1])
                    have HY1 := Lib.hid (HYY.out i (j + rf.length) (ah.drop rto.length) false (i : Int) ((j : Int) + rf.length) HNX.out (by simp) (by simp))
                    have HTK := Lib.hid (HTAKE.out _ HNX.out)
                    have HPX0 := Lib.hid (HPRE.out _ HNX.out)
                    clear HYY HTAKE HPRE HNX HREL HMK HST h1
                    gi_wp2_with (first | (refine ⟨trivial, ?_⟩; gi_at_call 29; (with_reducible refine (callsIn_wide.2 (HFIT.out _)).mono ?_); rintro e w1 ⟨rfl, hb1⟩; obtain ⟨k1, k2, k3, k4⟩ := HCL.out _ hb1; obtain ⟨fn, tmps, assign, body, hy, hR⟩ := HY1.out _ hb1) | (refine ⟨trivial, ?_⟩; gi_at_call 30; (with_reducible refine (callsIn_wide.2 (HC1.out _)).mono ?_); rintro e w2 ⟨rfl, rfl⟩) | (refine ⟨trivial, ?_⟩; gi_at_call 30; (with_reducible refine (callsIn_wide.2 (HC2.out _)).mono ?_); rintro e w3 ⟨rfl, rfl⟩))
                    refine hR.mono ?_
                    rintro e W3 (⟨rfl, hJ3, hm3⟩ | ⟨rfl, hJx3⟩)
                    · have HQ := Lib.hid (And.intro hJ3 (HBACK.out _ _ _ hb1 hm3))
                      clear hJ3 hm3 k1 k2 k3 k4 hb1 hy hR
                      gi_wp2_with fail
                      go_roundw
                      case rel => exact ⟨k + 1, by omega, by simp, by rw [HTK.out]; exact HQ.out.1, HQ.out.2⟩
                      case measure => simp [intOf]; omega
                    · have HPX : Hid (∃ pre, pre <+: xs ∧ Jx pre W3) := Lib.hid ⟨_, HPX0.out, hJx3⟩
                      clear k1 k2 k3 k4 hb1 hy hR hJx3
                      gi_wp2_with fail
                      (try simp only [Exit.inBlock, Exit.then])
                      refine bodyPost_ret (results_none rfl _ _ _) rfl ?_
                      exact ⟨⟨_, rfl⟩, .inr HPX.out⟩
                  · have HNX : Hid (movM L R ⟨i, j, ah, _⟩ (⟨ri, rc, rf, rto⟩, g2, c2) = some ((⟨ri, rc, rf, rto⟩, g2, c2), ⟨(i + rf.length), j, (ah.drop rto.length), false⟩)) := Lib.hid (by rw [HMK.out, hHB.out, HST.out]; simp [h1])
                    have HY1 := Lib.hid (HYY.out (i + rf.length) j (ah.drop rto.length) false ((i : Int) + rf.length) (j : Int) HNX.out (by simp) (by simp))
                    have HTK := Lib.hid (HTAKE.out _ HNX.out)
                    have HPX0 := Lib.hid (HPRE.out _ HNX.out)
                    clear HYY HTAKE HPRE HNX HREL HMK HST h1
                    gi_wp2_with (first | (refine ⟨trivial, ?_⟩; gi_at_call 29; (with_reducible refine (callsIn_wide.2 (HFIT.out _)).mono ?_); rintro e w1 ⟨rfl, hb1⟩; obtain ⟨k1, k2, k3, k4⟩ := HCL.out _ hb1; obtain ⟨fn, tmps, assign, body, hy, hR⟩ := HY1.out _ hb1) | (refine ⟨trivial, ?_⟩; gi_at_call 30; (with_reducible refine (callsIn_wide.2 (HC1.out _)).mono ?_); rintro e w2 ⟨rfl, rfl⟩) | (refine ⟨trivial, ?_⟩; gi_at_call 30; (with_reducible refine (callsIn_wide.2 (HC2.out _)).mono ?_); rintro e w3 ⟨rfl, rfl⟩))
                    refine hR.mono ?_
                    rintro e W3 (⟨rfl, hJ3, hm3⟩ | ⟨rfl, hJx3⟩)
                    · have HQ := Lib.hid (And.intro hJ3 (HBACK.out _ _ _ hb1 hm3))
                      clear hJ3 hm3 k1 k2 k3 k4 hb1 hy hR
                      gi_wp2_with fail
                      go_roundw
                      case rel => exact ⟨k + 1, by omega, by simp, by rw [HTK.out]; exact HQ.out.1, HQ.out.2⟩
                      case measure => simp [intOf]; omega
                    · have HPX : Hid (∃ pre, pre <+: xs ∧ Jx pre W3) := Lib.hid ⟨_, HPX0.out, hJx3⟩
                      clear k1 k2 k3 k4 hb1 hy hR hJx3
                      gi_wp2_with fail
                      (try simp only [Exit.inBlock, Exit.then])
                      refine bodyPost_ret (results_none rfl _ _ _) rfl ?_
                      exact ⟨⟨_, rfl⟩, .inr HPX.out⟩
                case true =>
                  cases tn
                  · have HNX : Hid (movM L R ⟨i, j, ah, _⟩ (⟨ri, rc, rf, rto⟩, g2, c2) = some ((⟨ri, rc, rf, rto⟩, g2, c2), ⟨i, (j + rf.length), (ah.drop rto.length), (!(ah.drop rto.length).isEmpty)⟩)) := Lib.hid (by rw [HMK.out, hHB.out, HST.out]; rw [if_pos rfl, if_pos h1, ne_isEmpty]; rfl)
                    have HY1 := Lib.hid (HYY.out i (j + rf.length) (ah.drop rto.length) (!(ah.drop rto.length).isEmpty) (i : Int) ((j : Int) + rf.length) HNX.out (by simp) (by simp))
                    have HTK := Lib.hid (HTAKE.out _ HNX.out)
                    have HPX0 := Lib.hid (HPRE.out _ HNX.out)
                    clear HYY HTAKE HPRE HNX HREL HMK HST h1
                    gi_wp2_with (first | (refine ⟨trivial, ?_⟩; gi_at_call 29; (with_reducible refine (callsIn_wide.2 (HFIT.out _)).mono ?_); rintro e w1 ⟨rfl, hb1⟩; obtain ⟨k1, k2, k3, k4⟩ := HCL.out _ hb1; obtain ⟨fn, tmps, assign, body, hy, hR⟩ := HY1.out _ hb1) | (refine ⟨trivial, ?_⟩; gi_at_call 30; (with_reducible refine (callsIn_wide.2 (HC1.out _)).mono ?_); rintro e w2 ⟨rfl, rfl⟩) | (refine ⟨trivial, ?_⟩; gi_at_call 30; (with_reducible refine (callsIn_wide.2 (HC2.out _)).mono ?_); rintro e w3 ⟨rfl, rfl⟩))
                    refine hR.mono ?_
                    rintro e W3 (⟨rfl, hJ3, hm3⟩ | ⟨rfl, hJx3⟩)
                    · have HQ := Lib.hid (And.intro hJ3 (HBACK.out _ _ _ hb1 hm3))
                      clear hJ3 hm3 k1 k2 k3 k4 hb1 hy hR
                      gi_wp2_with fail
                      go_roundw
                      case rel => exact ⟨k + 1, by omega, by simp, by rw [HTK.out]; exact HQ.out.1, HQ.out.2⟩
                      case measure => simp [intOf]; omega
                    · have HPX : Hid (∃ pre, pre <+: xs ∧ Jx pre W3) := Lib.hid ⟨_, HPX0.out, hJx3⟩
                      clear k1 k2 k3 k4 hb1 hy hR hJx3
                      gi_wp2_with fail
                      (try simp only [Exit.inBlock, Exit.then])
                      refine bodyPost_ret (results_none rfl _ _ _) rfl ?_
                      exact ⟨⟨_, rfl⟩, .inr HPX.out⟩
                  · have HNX : Hid (movM L R ⟨i, j, ah, _⟩ (⟨ri, rc, rf, rto⟩, g2, c2) = some ((⟨ri, rc, rf, rto⟩, g2, c2), ⟨(i + rf.length), j, (ah.drop rto.length), (!(ah.drop rto.length).isEmpty)⟩)) := Lib.hid (by rw [HMK.out, hHB.out, HST.out]; rw [if_pos rfl, if_pos h1, ne_isEmpty]; rfl)
                    have HY1 := Lib.hid (HYY.out (i + rf.length) j (ah.drop rto.length) (!(ah.drop rto.length).isEmpty) ((i : Int) + rf.length) (j : Int) HNX.out (by simp) (by simp))
                    have HTK := Lib.hid (HTAKE.out _ HNX.out)
                    have HPX0 := Lib.hid (HPRE.out _ HNX.out)
                    clear HYY HTAKE HPRE HNX HREL HMK HST h1
                    gi_wp2_with (first | (refine ⟨trivial, ?_⟩; gi_at_call 29; (with_reducible refine (callsIn_wide.2 (HFIT.out _)).mono ?_); rintro e w1 ⟨rfl, hb1⟩; obtain ⟨k1, k2, k3, k4⟩ := HCL.out _ hb1; obtain ⟨fn, tmps, assign, body, hy, hR⟩ := HY1.out _ hb1) | (refine ⟨trivial, ?_⟩; gi_at_call 30; (with_reducible refine (callsIn_wide.2 (HC1.out _)).mono ?_); rintro e w2 ⟨rfl, rfl⟩) | (refine ⟨trivial, ?_⟩; gi_at_call 30; (with_reducible refine (callsIn_wide.2 (HC2.out _)).mono ?_); rintro e w3 ⟨rfl, rfl⟩))
                    refine hR.mono ?_
                    rintro e W3 (⟨rfl, hJ3, hm3⟩ | ⟨rfl, hJx3⟩)
                    · have HQ := Lib.hid (And.intro hJ3 (HBACK.out _ _ _ hb1 hm3))
                      clear hJ3 hm3 k1 k2 k3 k4 hb1 hy hR
                      gi_wp2_with fail
                      go_roundw
                      case rel => exact ⟨k + 1, by omega, by simp, by rw [HTK.out]; exact HQ.out.1, HQ.out.2⟩
                      case measure => simp [intOf]; omega
                    · have HPX : Hid (∃ pre, pre <+: xs ∧ Jx pre W3) := Lib.hid ⟨_, HPX0.out, hJx3⟩
                      clear k1 k2 k3 k4 hb1 hy hR hJx3
                      gi_wp2_with fail
                      (try simp only [Exit.inBlock, Exit.then])
                      refine bodyPost_ret (results_none rfl _ _ _) rfl ?_
                      exact ⟨⟨_, rfl⟩, .inr HPX.out⟩
          · have : k = ors.length := by omega
            subst this
            have HJ : Hid (J (ors.filterMap (movM L R ⟨i, j, ah, rt⟩)) wr) := Lib.hid (by rw [List.take_length] at hJr; exact hJr)
            rw [HXS.out] at HJ
            clear hJr hY
            gi_wp2_with fail
            go_end0
            exact ⟨⟨_, rfl⟩, .inl HJ.out⟩
end Go.Proofs.YtkkbkhcapogobaaGreatDoor
