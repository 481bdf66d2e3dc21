/- Contracts: ref11's moves. -/
import Derived.Test.YtkkbkhcapogobaaGreatDoorP6
import Derived.Deep.CutRange
namespace Go.Proofs.YtkkbkhcapogobaaGreatDoor
open Go Go.RowKit Go.Lib Go.Proofs S Go.Shelf Go.Maps Go.WideMaps
set_option linter.unusedVariables false
set_option linter.unusedSimpArgs false

namespace S
/-- The move by one rule. -/
def mvR (tn : Bool) (sc : Int) (xl : List Str) (pos : Nat) (s : St) (k : Nat) (r : Rul) : Option (ARule × St) :=
  if r.script = sc then (match lettersS sc r.frm with
    | none => none
    | some f => if fitsL xl f pos then (stepS tn s ⟨k, r.cost, f, r.to⟩).map fun n => ((⟨k, r.cost, f, r.to⟩ : ARule), n) else none) else none
def mvsR (tn : Bool) (sc : Int) (xl : List Str) (pos : Nat) (s : St) : Nat → List Rul → List (ARule × St)
  | _, [] => []
  | i, r :: rs => (mvR tn sc xl pos s i r).toList ++ mvsR tn sc xl pos s (i + 1) rs
theorem mvsR_snoc (tn : Bool) (sc : Int) (xl : List Str) (pos : Nat) (s : St) : ∀ (xs : List Rul) (i : Nat) (x : Rul), mvsR tn sc xl pos s i (xs ++ [x]) = mvsR tn sc xl pos s i xs ++ (mvR tn sc xl pos s (i + xs.length) x).toList
  | [], i, x => by simp [mvsR]
  | y :: ys, i, x => by
    simp only [List.cons_append, mvsR, mvsR_snoc tn sc xl pos s ys (i + 1) x, List.append_assoc, List.length_cons]
    rw [show i + 1 + ys.length = i + (ys.length + 1) by omega]
theorem mvsR_le (tn : Bool) (sc : Int) (xl : List Str) (pos : Nat) (s : St) : ∀ (xs : List Rul) (i : Nat), (mvsR tn sc xl pos s i xs).length ≤ xs.length
  | [], i => by simp [mvsR]
  | y :: ys, i => by
    have := mvsR_le tn sc xl pos s ys (i + 1)
    simp only [mvsR, List.length_append, List.length_cons]
    have h1 : ((mvR tn sc xl pos s i y).toList).length ≤ 1 := by cases mvR tn sc xl pos s i y <;> simp
    omega
theorem mvR_rule (tn : Bool) (sc : Int) (X : Side) (pos : Nat) (s : St) (k : Nat) (r : Rul) : mvR tn sc X.letters pos s k r = (aruleOf sc k r).bind fun ar => if fitsS X ar pos then (stepS tn s ar).map fun n => (ar, n) else none := by
  unfold mvR aruleOf
  by_cases h : r.script = sc
  · rw [if_pos h, if_pos h]
    cases lettersS sc r.frm with
    | none => rfl
    | some f => simp only [Option.map_some, Option.bind_some, fitsS_L]; rfl
  · rw [if_neg h, if_neg h]; rfl
theorem mvsR_side (tn : Bool) (sc : Int) (X : Side) (pos : Nat) (s : St) : ∀ (xs : List Rul) (i : Nat), mvsR tn sc X.letters pos s i xs = (sideRules sc i xs).filterMap fun ar => if fitsS X ar pos then (stepS tn s ar).map fun n => (ar, n) else none
  | [], i => rfl
  | y :: ys, i => by
    simp only [mvsR, sideRules, List.filterMap_append, mvsR_side tn sc X pos s ys (i + 1), mvR_rule]
    congr 1
    cases aruleOf sc i y with
    | none => rfl
    | some ar =>
      simp only [Option.bind_some, List.filterMap_cons, List.filterMap_nil, Option.toList_some]
      generalize (if fitsS X ar pos = true then (stepS tn s ar).map fun n => (ar, n) else none) = o
      cases o <;> rfl
theorem mvs_moves (a b : Int) (ls rs : List Str) (rules : List Rul) (s : St) :
    movesS ⟨ls, sideRules a 0 rules⟩ ⟨rs, sideRules b 0 rules⟩ s = mvsR (turnS ⟨ls, sideRules a 0 rules⟩ s) (if turnS ⟨ls, sideRules a 0 rules⟩ s then a else b) (if turnS ⟨ls, sideRules a 0 rules⟩ s then ls else rs) (if turnS ⟨ls, sideRules a 0 rules⟩ s then s.i else s.j) s 0 rules := by
  unfold movesS moveS
  cases turnS ⟨ls, sideRules a 0 rules⟩ s with
  | true => simp only [if_true]; exact (mvsR_side true a ⟨ls, sideRules a 0 rules⟩ s.i s rules 0).symm
  | false => simp only [Bool.false_eq_true, if_false]; exact (mvsR_side false b ⟨rs, sideRules b 0 rules⟩ s.j s rules 0).symm
theorem mvR_other {tn : Bool} {sc : Int} {xl : List Str} {pos : Nat} {s : St} {k : Nat} {r : Rul} (h : ¬ r.script = sc) : mvR tn sc xl pos s k r = none := if_neg h
theorem mvR_unfit {tn : Bool} {sc : Int} {xl : List Str} {pos : Nat} {s : St} {k : Nat} {r : Rul} (h : fitsR sc r.frm xl pos = none) : mvR tn sc xl pos s k r = none := by
  unfold mvR
  split
  · unfold fitsR at h
    cases hl : lettersS sc r.frm with
    | none => rfl
    | some f =>
      rw [hl] at h
      simp only at h ⊢
      split
      · rename_i hf; rw [if_pos hf] at h; cases h
      · rfl
  · rfl
/-- The state behind a rule with so many letters. -/
def stepN (tn : Bool) (s : St) (n : Nat) (tw : Str) : Option St :=
  if tw.isPrefixOf s.ahead then some ⟨if tn then s.i + n else s.i, if tn then s.j else s.j + n, s.ahead.drop tw.length, s.right && decide (s.ahead.drop tw.length ≠ [])⟩
  else if s.ahead.isPrefixOf tw then some ⟨if tn then s.i + n else s.i, if tn then s.j else s.j + n, tw.drop s.ahead.length, !tn⟩
  else none
theorem mvR_fit {tn : Bool} {sc : Int} {xl : List Str} {pos : Nat} {s : St} {k : Nat} {r : Rul} {n : Nat} (h1 : r.script = sc) (h : fitsR sc r.frm xl pos = some n) : ∃ f, n ≤ 12 ∧ mvR tn sc xl pos s k r = (stepN tn s n r.to).map fun n => ((⟨k, r.cost, f, r.to⟩ : ARule), n) := by
  unfold fitsR at h
  cases hl : lettersS sc r.frm with
  | none => rw [hl] at h; cases h
  | some f =>
    rw [hl] at h
    simp only at h
    split at h
    · rename_i hf
      cases h
      refine ⟨f, (letters_size hl).2, ?_⟩
      unfold mvR
      rw [if_pos h1, hl]
      simp only
      rw [if_pos hf]
      rfl
    · cases h
end S
def mvVals (m : ARule × St) : List Value := [.int .i64 m.1.index, .int .i64 m.1.cost, .int .i64 m.2.i, .int .i64 m.2.j, .string (B m.2.ahead), .bool m.2.right, .int .i64 0]
/-- A state as the reference holds it. -/
def pVal (s : St) : Value := .agg #[.int .i64 s.i, .int .i64 s.j, .string (B s.ahead), .bool s.right, .int .i64 0]
def pVals (s : St) : Array Value := #[.int .i64 s.i, .int .i64 s.j, .string (B s.ahead), .bool s.right, .int .i64 0]
theorem Tryz.info_move : (Tryz.prog.info? 66).map (fun i => (i.zero, i.size, i.bytes)) = some (some (.agg #[.int .i64 0, .int .i64 0, .int .i64 0, .int .i64 0, .string ⟨#[]⟩, .bool false, .int .i64 0]), 7, 64) := by kernel_rfl
theorem ret_at {w : World} {b : Nat} {cs : Array Value} {t : TypeId} (h : w.heap[b]? = some (.cells cs t)) : ∀ i, w.cell? ⟨b, i, none⟩ = cs[i]? := cell_of h
theorem new_two (w : World) (o1 o2 : Obj) : ((w.alloc o1).alloc o2).heap[w.heap.size]? = some o1 ∧ ((w.alloc o1).alloc o2).heap[w.heap.size + 1]? = some o2 ∧ Ext w ((w.alloc o1).alloc o2) :=
  ⟨(Below.heap_alloc _ _ _ (by simp)).trans (World.alloc_heap_new w _), by have := World.alloc_heap_new (w.alloc o1) o2; rwa [World.size_alloc] at this, (Ext.new w _).alloc _⟩
set_option maxRecDepth 100000 in
set_option maxHeartbeats 4000000 in
theorem ref11moves_any (A1 A2 A3 : Option Addr) (q1 q2 q3 : Nat) (t : Tab) (a b : Int) (ls rs : List Str) (LA RA : Option Addr) (lq rq : Nat) (s : St) (w : World)
    (hrules : ElemsAt w A1 4 (t.rules.map ruleVals)) (hfr : ∀ r ∈ t.rules, FitR r) (hlen : t.rules.length ≤ 1000) (hls : ElemsAt w LA 1 (strRows ls)) (hrs : ElemsAt w RA 1 (strRows rs)) (hln : ls.length ≤ 1000) (hrn : rs.length ≤ 1000)
    (hi : s.i ≤ 1000) (hj : s.j ≤ 1000) (hah : s.ahead.length ≤ 1000) :
    Calls Tryz.prog 21 #[tabVal A1 q1 A2 q2 A3 q3 t, .int .i64 a, .slice LA ls.length lq, .int .i64 b, .slice RA rs.length rq, pVal s] w fun e w' => Ext w w' ∧
      ∃ A q, e = .returned (.slice A (movesS ⟨ls, sideRules a 0 t.rules⟩ ⟨rs, sideRules b 0 t.rules⟩ s).length q) ∧ w'.ownsRow w.heap.size 66 7 (.slice A (movesS ⟨ls, sideRules a 0 t.rules⟩ ⟨rs, sideRules b 0 t.rules⟩ s).length q) (movesS ⟨ls, sideRules a 0 t.rules⟩ ⟨rs, sideRules b 0 t.rules⟩ s).length ((movesS ⟨ls, sideRules a 0 t.rules⟩ ⟨rs, sideRules b 0 t.rules⟩ s).flatMap mvVals) := by
  rw [mvs_moves]
  have htr : turnS ⟨ls, sideRules a 0 t.rules⟩ s = (s.right || (decide (s.ahead = []) && decide (s.i < ls.length))) := rfl
  have HTR := Lib.hid htr
  clear htr
  generalize turnS ⟨ls, sideRules a 0 t.rules⟩ s = tn at HTR ⊢
  unfold tabVal
  obtain ⟨i, j, ah, rt⟩ := s
  dsimp only at hi hj hah HTR ⊢
  unfold pVal
  obtain ⟨M, hM⟩ : ∃ M, mvsR tn (if tn then a else b) (if tn then ls else rs) (if tn then i else j) ⟨i, j, ah, rt⟩ 0 t.rules = M := ⟨_, rfl⟩
  rw [hM]
  have HM := Lib.hid hM
  clear hM
  go_enter Tryz.func21, Tryz.ntmps21
  go_upto_region 2 with fail
  have hN := new_two w (.cells #[.slice A1 t.rules.length q1, .slice A2 t.drops.length q2, .slice A3 t.ends.length q3, .int .i64 t.drop, .int .i64 t.order, .int .i64 t.initial] 25) (.cells #[.int .i64 i, .int .i64 j, .string (B ah), .bool rt, .int .i64 0] 62)
  obtain ⟨W2, hW2⟩ : ∃ W2, ((w.alloc (.cells #[.slice A1 t.rules.length q1, .slice A2 t.drops.length q2, .slice A3 t.ends.length q3, .int .i64 t.drop, .int .i64 t.order, .int .i64 t.initial] 25)).alloc (.cells #[.int .i64 i, .int .i64 j, .string (B ah), .bool rt, .int .i64 0] 62)) = W2 := ⟨_, rfl⟩
  have hsz : W2.heap.size = w.heap.size + 2 := by rw [← hW2]; simp
  rw [hW2] at hN ⊢
  clear hW2
  obtain ⟨kT, kS, hx2⟩ := hN
  have hcT := cell_of kT
  have hcS := cell_of kS
  have s0 : W2.cell? ⟨w.heap.size + 1, 0, none⟩ = some (.int .i64 i) := hcS 0
  have s1 : W2.cell? ⟨w.heap.size + 1, 1, none⟩ = some (.int .i64 j) := hcS 1
  have s2 : W2.cell? ⟨w.heap.size + 1, 2, none⟩ = some (.string (B ah)) := hcS 2
  have s3 : W2.cell? ⟨w.heap.size + 1, 3, none⟩ = some (.bool rt) := hcS 3
  have t0 : W2.cell? ⟨w.heap.size, 0, none⟩ = some (.slice A1 t.rules.length q1) := hcT 0
  clear hcT hcS
  go_cut [14] from 23 (fun v14 wx => v14 = .bool tn ∧ wx = W2)
  case first =>
    cases rt with
    | true =>
      go_wp2
      go_meet
      case rel => exact ⟨by rw [HTR.out]; rfl, rfl⟩
    | false =>
      by_cases he : ah = []
      · subst he
        by_cases hil : i < ls.length
        · have hil' : (i : Int) < ls.length := by omega
          go_wp2
          go_meet
          case rel => exact ⟨by rw [HTR.out]; simp [hil], rfl⟩
        · have hil' : ¬ (i : Int) < ls.length := by omega
          go_wp2
          go_meet
          case rel => exact ⟨by rw [HTR.out]; simp [hil], rfl⟩
      · have hne : (ah == []) = false := beq_eq_false_iff_ne.2 he
        go_wp2
        go_meet
        case rel => exact ⟨by rw [HTR.out]; simp [he], rfl⟩
  case rest =>
    obtain ⟨rfl, rfl⟩ := hcut
    go_upto_region 3 with fail
    go_cut [15, 16, 17] from 23 (fun v15 v16 v17 wx => v15 = .int .i64 b ∧ v16 = .slice RA rs.length rq ∧ v17 = .int .i64 j ∧ Ext wc wx)
    case first =>
      go_quiet (fail)
      go_wp2
      go_meet
      case rel => exact ⟨rfl, rfl, rfl, below_drewN _ _⟩
    case rest =>
    obtain ⟨rfl, rfl, rfl, hx3⟩ := hcut
    have kT3 := block_ext kT hx3
    have kS3 := block_ext kS hx3
    have hx23 := Ext.trans hx2 hx3
    have hsz3 : w.heap.size + 2 ≤ wc.heap.size := by have := hx3.size; omega
    clear kT kS hx2 hx3 hsz s0 s1 s2 s3 t0
    have s0 : wc.cell? ⟨w.heap.size + 1, 0, none⟩ = some (.int .i64 i) := cell_of kS3 0
    go_upto_if 41 with fail
    go_cut [15, 16, 17] from 23 (fun v15 v16 v17 wx => v15 = .int .i64 (if tn then a else b) ∧ v16 = .slice (if tn then LA else RA) (if tn then ls else rs).length (if tn then lq else rq) ∧ v17 = .int .i64 ((if tn then i else j : Nat) : Int) ∧ Ext wc wx)
    case first =>
      cases tn with
      | false =>
        go_wp2
        go_meet
        case rel => exact ⟨rfl, rfl, rfl, Below.refl _ _⟩
      | true =>
        go_wp2
        go_quiet (fail)
        go_wp2
        go_meet
        case rel => exact ⟨rfl, rfl, rfl, below_drewN _ _⟩
    case rest =>
    obtain ⟨rfl, rfl, rfl, hx4⟩ := hcut
    rename World => W0
    have kT := block_ext kT3 hx4
    have kS := block_ext kS3 hx4
    have hx2 := Ext.trans hx23 hx4
    have hsz : w.heap.size + 2 ≤ W0.heap.size := by have := hx4.size; omega
    clear kT3 kS3 hx23 hx4 hsz3 s0
    have hX : ElemsAt w (if tn then LA else RA) 1 (strRows (if tn then ls else rs)) := by cases tn; exact hrs; exact hls
    have hXn : (if tn then ls else rs).length ≤ 1000 := by cases tn; exact hrn; exact hln
    have hpos : (if tn then i else j) ≤ 1000 := by cases tn; exact hj; exact hi
    generalize (if tn then a else b) = sc at HM ⊢
    generalize (if tn then LA else RA) = XA at hX ⊢
    generalize (if tn then ls else rs) = xl at hX hXn HM ⊢
    generalize (if tn then lq else rq) = xq
    generalize (if tn then i else j) = pos at hpos HM ⊢
    go_wp2
    have hcT : ∀ W, Ext W0 W → W.cell? ⟨w.heap.size, 0, none⟩ = some (.slice A1 t.rules.length q1) := fun W h => cell_of (block_ext kT h) 0
    have hcS : ∀ W, Ext W0 W → W.cell? ⟨w.heap.size + 1, 0, none⟩ = some (.int .i64 i) ∧ W.cell? ⟨w.heap.size + 1, 1, none⟩ = some (.int .i64 j) ∧ W.cell? ⟨w.heap.size + 1, 2, none⟩ = some (.string (B ah)) ∧ W.cell? ⟨w.heap.size + 1, 3, none⟩ = some (.bool rt) := fun W h => ⟨cell_of (block_ext kS h) 0, cell_of (block_ext kS h) 1, cell_of (block_ext kS h) 2, cell_of (block_ext kS h) 3⟩
    have HCT := Lib.hid hcT
    have HCS := Lib.hid hcS
    clear hcT hcS kT kS
    go_loopw [13, 18] (fun v13 v18 wr => ∃ (k : Nat), k ≤ t.rules.length ∧ v18 = .int .i64 k ∧ Ext W0 wr ∧ wr.ownsRow W0.heap.size 66 7 v13 (mvsR tn sc xl pos ⟨i, j, ah, rt⟩ 0 (t.rules.take k)).length ((mvsR tn sc xl pos ⟨i, j, ah, rt⟩ 0 (t.rules.take k)).flatMap mvVals)) (fun _ v18 _ => t.rules.length - (intOf v18).toNat)
    case atStart => exact ⟨0, Nat.zero_le _, rfl, Below.refl _ _, by rw [List.take_zero]; exact World.ownsRow_nil _ _ _ _⟩
    case round =>
    rename_i hrel
    rename_i hrel
    obtain ⟨k, hk, rfl, hb, hown⟩ := hrel
    have t0 := HCT.out _ hb
    by_cases hkk : k < t.rules.length
    · have hx : t.rules[k]? = some t.rules[k] := List.getElem?_eq_getElem hkk
      have hfit := hfr _ (List.getElem_mem hkk)
      obtain ⟨ar, rfl, hcells⟩ := (hrules.ext (Ext.trans hx2 hb)).elem hx
      have hstep : mvsR tn sc xl pos ⟨i, j, ah, rt⟩ 0 (t.rules.take (k + 1)) = mvsR tn sc xl pos ⟨i, j, ah, rt⟩ 0 (t.rules.take k) ++ (mvR tn sc xl pos ⟨i, j, ah, rt⟩ k t.rules[k]).toList := by
        rw [← List.take_append_getElem hkk, mvsR_snoc, List.length_take, Nat.min_eq_left hk, Nat.zero_add]
      have hnk : (mvsR tn sc xl pos ⟨i, j, ah, rt⟩ 0 (t.rules.take k)).length ≤ 1000 := by
        have := mvsR_le tn sc xl pos ⟨i, j, ah, rt⟩ (t.rules.take k) 0
        rw [List.length_take] at this; omega
      generalize t.rules[k] = r at hx hfit hstep hcells
      obtain ⟨xs, xf, xt, xc⟩ := r
      obtain ⟨f1, f2⟩ := hfit
      dsimp only at f1 f2
      obtain ⟨c0, c1, c2, c3⟩ := elem4 hcells
      have HSAME : Hid (mvR tn sc xl pos ⟨i, j, ah, rt⟩ k ⟨xs, xf, xt, xc⟩ = none → mvsR tn sc xl pos ⟨i, j, ah, rt⟩ 0 (t.rules.take (k + 1)) = (mvsR tn sc xl pos ⟨i, j, ah, rt⟩ 0 (t.rules.take k))) := Lib.hid (fun h => by rw [hstep, h]; simp)
      have HNEXT : Hid (∀ m, mvR tn sc xl pos ⟨i, j, ah, rt⟩ k ⟨xs, xf, xt, xc⟩ = some m → mvsR tn sc xl pos ⟨i, j, ah, rt⟩ 0 (t.rules.take (k + 1)) = (mvsR tn sc xl pos ⟨i, j, ah, rt⟩ 0 (t.rules.take k)) ++ [m]) := Lib.hid (fun m h => by rw [hstep, h]; rfl)
      have HOTH := Lib.hid (@mvR_other tn sc xl pos ⟨i, j, ah, rt⟩ k ⟨xs, xf, xt, xc⟩)
      have HUNF := Lib.hid (@mvR_unfit tn sc xl pos ⟨i, j, ah, rt⟩ k ⟨xs, xf, xt, xc⟩)
      have HOWN := Lib.hid hown
      generalize (mvsR tn sc xl pos ⟨i, j, ah, rt⟩ 0 (t.rules.take k)) = ms at hnk HSAME HNEXT HOWN
      clear hx hstep hcells hown
      by_cases hs : xs = sc
      · subst hs
        have HFIT : Hid (∀ W, Ext W0 W → Calls Tryz.prog 35 #[.int .i64 xs, .string (B xf), .slice XA xl.length xq, .int .i64 pos] W fun e w' => Ext W w' ∧ e = fitsE (fitsR xs xf xl pos)) := Lib.hid (fun W h => ref11Fits_any xs xf xl XA xq pos W (by omega) (hX.ext (Ext.trans hx2 h)) hXn hpos)
        have hxr : Ext W0 (wr.alloc (.cells #[.int .i64 xs, .string (B xf), .string (B xt), .int .i64 xc] 68)) := Ext.alloc hb _
        have kR := World.alloc_heap_new wr (.cells #[.int .i64 xs, .string (B xf), .string (B xt), .int .i64 xc] 68)
        have hRc : ∀ w1, Ext (wr.alloc (.cells #[.int .i64 xs, .string (B xf), .string (B xt), .int .i64 xc] 68)) w1 → w1.heap[wr.heap.size]? = some (.cells #[.int .i64 xs, .string (B xf), .string (B xt), .int .i64 xc] 68) ∧ Ext W0 w1 ∧ Ext wr w1 := fun w1 h => ⟨block_ext kR h, Ext.trans hxr h, Ext.trans (Ext.new wr _) h⟩
        have HRC := Lib.hid hRc
        clear kR hRc
        cases hft : fitsR xs xf xl pos with
        | none =>
          have HN := Lib.hid (HSAME.out (HUNF.out hft))
          rw [hft] at HFIT
          simp only [fitsE] at HFIT
          clear hft
          go_wp2_with (go_at_call 35; (with_reducible refine (HFIT.out _ hxr).mono ?_); rintro e w1 ⟨hb1, rfl⟩)
          go_roundw
          case rel => exact ⟨k + 1, by omega, by simp, Ext.trans hxr hb1, by rw [HN.out]; exact own_ext HOWN.out (HRC.out _ hb1).2.2⟩
          case measure => simp [intOf]; omega
        | some n =>
          rw [hft] at HFIT
          simp only [fitsE] at HFIT
          obtain ⟨f, hn12, hmv⟩ := mvR_fit (tn := tn) (s := ⟨i, j, ah, rt⟩) (k := k) (r := ⟨xs, xf, xt, xc⟩) rfl hft
          have HMV := Lib.hid hmv
          clear hft hmv
          dsimp only at HMV
          have hcS2 := HCS.out
          go_upto_region 14 with (go_at_call 35; (with_reducible refine (HFIT.out _ hxr).mono ?_); rintro e w1 ⟨hb1, rfl⟩; have kRc := HRC.out _ hb1; obtain ⟨kR, hxw1, hxr1⟩ := kRc; have hss := HCS.out _ hxw1; obtain ⟨s0, s1, s2, s3⟩ := hss)
          have kTo := World.alloc_heap_new w1 (.cells #[.int .i64 i, .int .i64 j, .string ⟨#[]⟩, .bool false, .int .i64 0] 62)
          have hN := Ext.new w1 (.cells #[.int .i64 i, .int .i64 j, .string ⟨#[]⟩, .bool false, .int .i64 0] 62)
          have hlt1 : wr.heap.size < w1.heap.size := (Array.getElem?_eq_some_iff.1 kR).1
          obtain ⟨W5, hW5⟩ : ∃ W5, (w1.alloc (.cells #[.int .i64 i, .int .i64 j, .string ⟨#[]⟩, .bool false, .int .i64 0] 62)) = W5 := ⟨_, rfl⟩
          rw [hW5] at kTo hN ⊢
          clear hW5
          have kR5 := block_ext kR hN
          have hx5 := Ext.trans hxr1 hN
          generalize hTo : w1.heap.size = To at *
          generalize hRb : wr.heap.size = Rb at *
          clear kR hxw1 hxr1 s0 s1 s2 s3 hb1 hN
          have hw1 : IntKind.i64.wrap ((i : Int) + n) = ((i + n : Nat) : Int) := by rw [wrap_small (by omega) (by omega)]; rfl
          have hw2 : IntKind.i64.wrap ((j : Int) + n) = ((j + n : Nat) : Int) := by rw [wrap_small (by omega) (by omega)]; rfl
          go_upto_if 78 with fail
          go_cut [] from 46 to 131 (fun wx => Ext wr wx ∧ wx.heap[To]? = some (.cells #[.int .i64 ((if tn then i + n else i : Nat) : Int), .int .i64 ((if tn then j else j + n : Nat) : Int), .string ⟨#[]⟩, .bool false, .int .i64 0] 62) ∧ wx.heap[Rb]? = some (.cells #[.int .i64 xs, .string (B xf), .string (B xt), .int .i64 xc] 68))
          case first =>
            have z0 : W5.cell? ⟨To, 0, none⟩ = some (.int .i64 i) := cell_of kTo 0
            have z1 : W5.cell? ⟨To, 1, none⟩ = some (.int .i64 j) := cell_of kTo 1
            have fz0 := frozen_of kTo 0
            have fz1 := frozen_of kTo 1
            cases tn
            case false =>
              go_wp2
              go_meet
              case rel => exact ⟨Ext.set hx5 (by omega) _, block_set kTo 1 (.int .i64 ((j + n : Nat) : Int)), block_keep kR5 ((Mod.refl (fun k => k = To) W5).setCell (p := ⟨To, 1, none⟩) (.inl rfl) (.int .i64 ((j + n : Nat) : Int))) (by omega)⟩
            case true =>
              go_wp2
              go_meet
              case rel => exact ⟨Ext.set hx5 (by omega) _, block_set kTo 0 (.int .i64 ((i + n : Nat) : Int)), block_keep kR5 ((Mod.refl (fun k => k = To) W5).setCell (p := ⟨To, 0, none⟩) (.inl rfl) (.int .i64 ((i + n : Nat) : Int))) (by omega)⟩
          case rest =>
          obtain ⟨hx6, kTo6, kR6⟩ := hcut
          rename World => W6
          clear hx5 kTo kR5
          have HST : Hid (stepN tn ⟨i, j, ah, rt⟩ n xt = if xt.isPrefixOf ah then some ⟨if tn then i + n else i, if tn then j else j + n, ah.drop xt.length, rt && decide (ah.drop xt.length ≠ [])⟩ else if ah.isPrefixOf xt then some ⟨if tn then i + n else i, if tn then j else j + n, xt.drop ah.length, !tn⟩ else none) := Lib.hid rfl
          generalize (if tn then i + n else i) = i2 at kTo6 HST
          generalize (if tn then j else j + n) = j2 at kTo6 HST
          have HBG1 : Hid (∀ W, Calls Tryz.prog 36 #[.string (B ah), .string (B xt)] W fun e w' => Ext W w' ∧ e = .returned (.bool (xt.isPrefixOf ah))) := Lib.hid (fun W => begins_any ah xt W hah f2)
          have HBG2 : Hid (∀ W, Calls Tryz.prog 36 #[.string (B xt), .string (B ah)] W fun e w' => Ext W w' ∧ e = .returned (.bool (ah.isPrefixOf xt))) := Lib.hid (fun W => begins_any xt ah W f2 hah)
          have hss := HCS.out _ (Ext.trans hb hx6)
          obtain ⟨s0, s1, s2, s3⟩ := hss
          have r2 : W6.cell? ⟨Rb, 2, none⟩ = some (.string (B xt)) := cell_of kR6 2
          go_upto_if 93 with (go_at_call 36; (with_reducible refine (HBG1.out _).mono ?_); rintro e W7 ⟨hb7, rfl⟩)
          have kTo7 := block_ext kTo6 hb7
          have kR7 := block_ext kR6 hb7
          have hx7 := Ext.trans hx6 hb7
          clear kTo6 kR6 hx6 hb7 s0 s1 s2 s3 r2 hcS2 t0 c0 c1 c2 c3
          go_cut [] from 46 to 131 (fun wx => ∃ m : St, stepN tn ⟨i, j, ah, rt⟩ n xt = some m ∧ Ext wr wx ∧ wx.heap[To]? = some (.cells (pVals m) 62) ∧ wx.heap[Rb]? = some (.cells #[.int .i64 xs, .string (B xf), .string (B xt), .int .i64 xc] 68))
          case first =>
            have hss := HCS.out _ (Ext.trans hb hx7)
            obtain ⟨s0, s1, s2, s3⟩ := hss
            have r2 : W7.cell? ⟨Rb, 2, none⟩ = some (.string (B xt)) := cell_of kR7 2
            have fz2 := frozen_of kTo7 2
            have z2 : W7.cell? ⟨To, 2, none⟩ = some (.string ⟨#[]⟩) := cell_of kTo7 2
            have za : (B ah).size = ah.length := rfl
            have zx : (B xt).size = xt.length := rfl
            cases hp1 : xt.isPrefixOf ah
            case true =>
              have hle : xt.length ≤ ah.length := by
                rw [prefix_take] at hp1
                simp only [Bool.and_eq_true, decide_eq_true_eq] at hp1
                exact hp1.1
              have hex : (B ah).extract xt.length ah.length = B (ah.drop xt.length) := by
                have := extract_B ah xt.length (ah.length - xt.length)
                rw [show xt.length + (ah.length - xt.length) = ah.length by omega] at this
                rw [this, List.take_of_length_le (by simp)]
              rw [hp1] at HST
              simp only [if_true] at HST
              go_upto_region 19 with fail
              generalize hgd : ah.drop xt.length = gd at hex HST ⊢
              have kTo8 := block_set kTo7 2 (.string (B gd))
              have kR8 := block_keep kR7 ((Mod.refl (fun k => k = To) W7).setCell (p := ⟨To, 2, none⟩) (.inl rfl) (.string (B gd))) (by omega)
              have hx8 : Ext wr (W7.setCell ⟨To, 2, none⟩ (.string (B gd))) := Ext.set hx7 (by omega) _
              obtain ⟨W8, hW8⟩ : ∃ W8, (W7.setCell ⟨To, 2, none⟩ (.string (B gd))) = W8 := ⟨_, rfl⟩
              rw [hW8] at kTo8 kR8 hx8 ⊢
              clear hW8 s0 s1 s2 s3 r2 fz2 z2 kTo7 kR7 hx7
              have s3 := (HCS.out _ (Ext.trans hb hx8)).2.2.2
              have z2 : W8.cell? ⟨To, 2, none⟩ = some (.string (B gd)) := cell_of kTo8 2
              have fz3 := frozen_of kTo8 3
              have z3 : W8.cell? ⟨To, 3, none⟩ = some (.bool false) := cell_of kTo8 3
              cases hrt : rt
              case false =>
                subst hrt
                go_wp2
                go_meet
                case rel => exact ⟨_, HST.out, Ext.set hx8 (by omega) _, block_set kTo8 3 (.bool false), block_keep kR8 ((Mod.refl (fun k => k = To) W8).setCell (p := ⟨To, 3, none⟩) (.inl rfl) (.bool false)) (by omega)⟩
              case true =>
                subst hrt
                by_cases hge : gd = []
                · subst hge
                  go_wp2
                  go_meet
                  case rel => exact ⟨_, HST.out, Ext.set hx8 (by omega) _, block_set kTo8 3 (.bool false), block_keep kR8 ((Mod.refl (fun k => k = To) W8).setCell (p := ⟨To, 3, none⟩) (.inl rfl) (.bool false)) (by omega)⟩
                · have hne : (gd == []) = false := beq_eq_false_iff_ne.2 hge
                  have HST2 : Hid (stepN tn ⟨i, j, ah, true⟩ n xt = some ⟨i2, j2, gd, true⟩) := Lib.hid (by rw [HST.out]; simp [hge])
                  go_wp2
                  go_meet
                  case rel => exact ⟨_, HST2.out, Ext.set hx8 (by omega) _, block_set kTo8 3 (.bool true), block_keep kR8 ((Mod.refl (fun k => k = To) W8).setCell (p := ⟨To, 3, none⟩) (.inl rfl) (.bool true)) (by omega)⟩
            case false =>
              rw [hp1] at HST
              simp only [Bool.false_eq_true, if_false] at HST
              cases hp2 : ah.isPrefixOf xt
              case false =>
                rw [hp2] at HST HBG2
                simp only [Bool.false_eq_true, if_false] at HST
                have HN := Lib.hid (HSAME.out (by rw [HMV.out, HST.out]; rfl))
                go_wp2_with (go_at_call 36; (with_reducible refine (HBG2.out _).mono ?_); rintro e W8 ⟨hb8, rfl⟩)
                go_roundw
                case rel => exact ⟨k + 1, by omega, by simp, Ext.trans (Ext.trans hb hx7) hb8, by rw [HN.out]; exact own_ext HOWN.out (Ext.trans hx7 hb8)⟩
                case measure => simp [intOf]; omega
              case true =>
                have hle : ah.length ≤ xt.length := by
                  rw [prefix_take] at hp2
                  simp only [Bool.and_eq_true, decide_eq_true_eq] at hp2
                  exact hp2.1
                have hex : (B xt).extract ah.length xt.length = B (xt.drop ah.length) := by
                  have := extract_B xt ah.length (xt.length - ah.length)
                  rw [show ah.length + (xt.length - ah.length) = xt.length by omega] at this
                  rw [this, List.take_of_length_le (by simp)]
                rw [hp2] at HST HBG2
                simp only [if_true] at HST
                generalize hgd : xt.drop ah.length = gd at hex HST ⊢
                go_upto_region 21 with (go_at_call 36; (with_reducible refine (HBG2.out _).mono ?_); rintro e W8 ⟨hb8, rfl⟩)
                have kTo8 := block_ext kTo7 hb8
                have kR8 := block_ext kR7 hb8
                have hx8 := Ext.trans hx7 hb8
                clear s0 s1 s2 s3 r2 fz2 z2 kTo7 kR7 hx7 hb8
                have hss := HCS.out _ (Ext.trans hb hx8)
                obtain ⟨s0, s1, s2, s3⟩ := hss
                have r2 : W8.cell? ⟨Rb, 2, none⟩ = some (.string (B xt)) := cell_of kR8 2
                have fz2 := frozen_of kTo8 2
                have z2 : W8.cell? ⟨To, 2, none⟩ = some (.string ⟨#[]⟩) := cell_of kTo8 2
                go_upto_region 22 with fail
                have kTo9 := block_set kTo8 2 (.string (B gd))
                have kR9 := block_keep kR8 ((Mod.refl (fun k => k = To) W8).setCell (p := ⟨To, 2, none⟩) (.inl rfl) (.string (B gd))) (by omega)
                have hx9 : Ext wr (W8.setCell ⟨To, 2, none⟩ (.string (B gd))) := Ext.set hx8 (by omega) _
                obtain ⟨W9, hW9⟩ : ∃ W9, (W8.setCell ⟨To, 2, none⟩ (.string (B gd))) = W9 := ⟨_, rfl⟩
                rw [hW9] at kTo9 kR9 hx9 ⊢
                clear hW9 s0 s1 s2 s3 r2 fz2 z2 kTo8 kR8 hx8
                have fz3 := frozen_of kTo9 3
                have z3 : W9.cell? ⟨To, 3, none⟩ = some (.bool false) := cell_of kTo9 3
                go_wp2
                go_meet
                case rel => exact ⟨_, HST.out, Ext.set hx9 (by omega) _, block_set kTo9 3 (.bool (!tn)), block_keep kR9 ((Mod.refl (fun k => k = To) W9).setCell (p := ⟨To, 3, none⟩) (.inl rfl) (.bool (!tn))) (by omega)⟩
          case rest =>
          obtain ⟨⟨mi, mj, ma, mr⟩, hst, hx9, kTo9, kR9⟩ := hcut
          have HN := Lib.hid (HNEXT.out _ (by rw [HMV.out, hst]; rfl))
          rename World => W9
          have r3 : W9.cell? ⟨Rb, 3, none⟩ = some (.int .i64 xc) := cell_of kR9 3
          have z0 : W9.cell? ⟨To, 0, none⟩ = some (.int .i64 mi) := cell_of kTo9 0
          have z1 : W9.cell? ⟨To, 1, none⟩ = some (.int .i64 mj) := cell_of kTo9 1
          have z2 : W9.cell? ⟨To, 2, none⟩ = some (.string (B ma)) := cell_of kTo9 2
          have z3 : W9.cell? ⟨To, 3, none⟩ = some (.bool mr) := cell_of kTo9 3
          have z4 : W9.cell? ⟨To, 4, none⟩ = some (.int .i64 0) := cell_of kTo9 4
          have hown9 := own_ext HOWN.out hx9
          have hxb := Ext.trans hb hx9
          have hbase := hxb.size
          have hlen9 : (ms.length + 1) * 64 ≤ 140737488355328 := by omega
          have HXB := Lib.hid hxb
          clear hst kTo9 kR9 kTo7 kR7 hx7
          go_wp2_with (at_builtin; refine wpList_app1 (W := W9) W0.heap.size (.tmp 124) (.tmp 130) 63 66 (.agg #[.int .i64 0, .int .i64 0, .int .i64 0, .int .i64 0, .string ⟨#[]⟩, .bool false, .int .i64 0]) 7 64 rfl Tryz.underlying63 Tryz.info_move rfl (by decide) (by decide) u13 ms.length (ms.flatMap mvVals) [.int .i64 k, .int .i64 xc, .int .i64 mi, .int .i64 mj, .string (B ma), .bool mr, .int .i64 0] rfl rfl rfl (by simp [Value.oneCell']) hown9 hbase hlen9 rfl ?_; intro v1 w2 hA)
          refine ⟨⟨k + 1, by omega, by simp, Mod.below_trans HXB.out hA.mod HXB.out.size (fun i hi h => by have := (ownsRow_block hown9 h).1; omega), ?_⟩, by simp only [intOf]; omega⟩
          have hfin := hA.own
          rw [HN.out]
          simp only [List.length_append, List.length_cons, List.length_nil, List.flatMap_append, List.flatMap_cons, List.flatMap_nil, List.append_nil]
          exact hfin
      · have HN := Lib.hid (HSAME.out (HOTH.out hs))
        have hne : (xs == sc) = false := beq_eq_false_iff_ne.2 hs
        go_wp2
        go_roundw
        case rel => exact ⟨k + 1, by omega, by simp, Ext.alloc hb _, by rw [HN.out]; exact own_ext HOWN.out (Ext.new wr _)⟩
        case measure => simp [intOf]; omega
    · have hkl : k = t.rules.length := by omega
      subst hkl
      rw [List.take_length, HM.out] at hown
      have HOWN := Lib.hid (ownsRow_lower hown hx2.size)
      obtain ⟨A, q, rfl⟩ := own_slice hown
      clear hown
      go_wp2
      go_ret
      exact ⟨Ext.trans hx2 hb, A, q, rfl, HOWN.out⟩
end Go.Proofs.YtkkbkhcapogobaaGreatDoor
