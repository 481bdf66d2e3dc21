/- The law AlignMatchesReference: the walk. -/
import Derived.Test.YtkkbkhcapogobaaGreatDoorPB
import Derived.Test.YtkkbkhcapogobaaGreatDoorRH
section
namespace Go.Proofs.YtkkbkhcapogobaaGreatDoor
open Go Go.RowKit Go.Lib Go.Proofs S Go.Shelf Go.Maps Go.WideMaps
set_option linter.unusedVariables false
set_option linter.unusedSimpArgs false

namespace S
theorem sideRules_spec {k : Int} : ∀ {rs : List Rul} {i : Nat} {r : ARule}, r ∈ sideRules k i rs ↔ ∃ (j : Nat) (x : Rul), rs[j]? = some x ∧ aruleOf k (i + j) x = some r
  | [], i, r => by simp [sideRules]
  | x :: xs, i, r => by
    simp only [sideRules, List.mem_append, Option.mem_toList]
    rw [sideRules_spec (rs := xs) (i := i + 1)]
    constructor
    · rintro (h | ⟨j, y, h1, h2⟩)
      · exact ⟨0, x, rfl, h⟩
      · exact ⟨j + 1, y, h1, by rw [← h2]; congr 1; omega⟩
    · rintro ⟨j, y, h1, h2⟩
      cases j with
      | zero => simp at h1; subst h1; exact .inl h2
      | succ j => exact .inr ⟨j, y, h1, by rw [← h2]; congr 1; omega⟩
theorem side_find_none {t : Tab} {k i : Int} (h : ∀ (j : Nat) (x : Rul), t.rules[j]? = some x → (j : Int) = i → aruleOf k j x = none) : (sideRules k 0 t.rules).find? (fun r => decide (r.index = i)) = none := by
  rw [List.find?_eq_none]
  intro r hr
  obtain ⟨j, x, h1, h2⟩ := sideRules_spec.1 hr
  rw [Nat.zero_add] at h2
  simp only [decide_eq_true_eq]
  intro e
  rw [arule_index h2] at e
  rw [h j x h1 e] at h2
  cases h2
theorem side_find_some {t : Tab} {k : Int} {j : Nat} {x : Rul} {r : ARule} (h1 : t.rules[j]? = some x) (h2 : aruleOf k j x = some r) : (sideRules k 0 t.rules).find? (fun r => decide (r.index = (j : Int))) = some r := by
  have := sideRules_find (k := k) (rs := t.rules) (i := 0) (sideRules_spec.2 ⟨j, x, h1, by rw [Nat.zero_add]; exact h2⟩)
  rw [arule_index h2] at this
  exact this
theorem written_none {t : Tab} {k : Int} {ls : List Str} {i : Int} {is : List Int} {a : Nat} {f : Str} {c : Int} (h : ∀ (j : Nat) (x : Rul), t.rules[j]? = some x → (j : Int) = i → aruleOf k j x = none) : writtenF (sideL t k ls) (i :: is) a f c = none := by
  rw [writtenF]
  rw [show (sideL t k ls).rules = sideRules k 0 t.rules from rfl, side_find_none h]
theorem written_fit {t : Tab} {k : Int} {ls : List Str} {j : Nat} {x : Rul} {is : List Int} {a : Nat} {f : Str} {c : Int} (h1 : t.rules[j]? = some x) (hk : x.script = k) :
    writtenF (sideL t k ls) ((j : Int) :: is) a f c = match fitsR k x.frm ls a with | none => none | some n => writtenF (sideL t k ls) is (a + n) (f ++ x.to) (c + x.cost) := by
  cases hl : lettersS k x.frm with
  | none =>
    have ha : aruleOf k j x = none := by unfold aruleOf; rw [if_pos hk, hl]; rfl
    rw [written_none (fun j' x' h' e => by
      obtain rfl : j' = j := by omega
      rw [h1] at h'; cases h'; exact ha)]
    unfold fitsR
    rw [hl]
  | some fr =>
    have ha : aruleOf k j x = some ⟨j, x.cost, fr, x.to⟩ := by unfold aruleOf; rw [if_pos hk, hl]; rfl
    rw [writtenF]
    rw [show (sideL t k ls).rules = sideRules k 0 t.rules from rfl, side_find_some h1 ha]
    dsimp only
    rw [fitsS_L]
    unfold fitsR
    rw [hl]
    dsimp only
    cases fitsL ls fr a <;> rfl
end S
set_option maxRecDepth 100000 in
set_option maxHeartbeats 8000000 in
/-- ref11.rewrites. -/
theorem refRewrites_any (A1 A2 A3 : Option Addr) (q1 q2 q3 : Nat) (t : Tab) (k : Int) (x : Str) (ls : List Str) (is : List Int) (A4 : Option Addr) (q4 : Nat) (w : World) (hrules : ElemsAt w A1 4 (t.rules.map ruleVals)) (hfr : ∀ r ∈ t.rules, FitR r) (hco : ∀ r ∈ t.rules, 0 ≤ r.cost ∧ r.cost ≤ 1000) (hlen : t.rules.length ≤ 1000) (hx : x.length ≤ 1000)
    (hwl : wordL k x = some ls) (hi : ElemsAt w A4 1 (is.map (fun i => [Value.int .i64 i]))) (hl : is.length ≤ 1000) :
    Calls Tryz.prog 24 #[tabVal A1 q1 A2 q2 A3 q3 t, .int .i64 k, .string (B x), .slice A4 is.length q4] w fun e w' => Ext w w' ∧ e = .returned (.tuple #[.string (B (writtenS (sideL t k ls) is).1), .int .i64 (writtenS (sideL t k ls) is).2.1, .bool (writtenS (sideL t k ls) is).2.2]) := by
  have HX : Hid (∀ W, Calls Tryz.prog 19 #[.int .i64 k, .string (B x)] W fun e w' => Ext W w' ∧ ∃ A q, e = .returned (.tuple #[.slice A ls.length q, .bool true]) ∧ ElemsAt w' A 1 (strRows ls)) := Lib.hid (fun W => by
    refine (ref11Letters_any k x W (by omega)).mono ?_
    rintro e w' ⟨hb, (⟨hn, _⟩ | ⟨A, q, ls', hn, rfl, ho⟩)⟩
    · rw [hwl] at hn; cases hn
    · rw [hwl] at hn; cases hn
      obtain ⟨A', q', hz, he⟩ := own_strs ho
      cases hz
      exact ⟨hb, _, _, rfl, he⟩)
  have hlsz := word_size hwl
  have HWS : Hid (∀ r, writtenF (sideL t k ls) is 0 [] 0 = r → writtenS (sideL t k ls) is = match r with | none => ([], 0, false) | some (a, f, c) => (f, c, decide (a = ls.length))) := Lib.hid (fun r h => by unfold writtenS; rw [h]; rfl)
  have HIS := Lib.hid hi
  have HRU := Lib.hid hrules
  obtain ⟨ws, hws⟩ : ∃ ws, writtenS (sideL t k ls) is = ws := ⟨_, rfl⟩
  rw [hws] at HWS ⊢
  clear hwl hi hrules hws
  unfold tabVal
  go_enter Tryz.func24, Tryz.ntmps24
  go_upto_region 1 with fail
  have hN := Ext.new w (.cells #[.slice A1 t.rules.length q1, .slice A2 t.drops.length q2, .slice A3 t.ends.length q3, .int .i64 t.drop, .int .i64 t.order, .int .i64 t.initial] 25)
  have kT := World.alloc_heap_new w (.cells #[.slice A1 t.rules.length q1, .slice A2 t.drops.length q2, .slice A3 t.ends.length q3, .int .i64 t.drop, .int .i64 t.order, .int .i64 t.initial] 25)
  obtain ⟨W1, hW1⟩ : ∃ W1, (w.alloc (.cells #[.slice A1 t.rules.length q1, .slice A2 t.drops.length q2, .slice A3 t.ends.length q3, .int .i64 t.drop, .int .i64 t.order, .int .i64 t.initial] 25)) = W1 := ⟨_, rfl⟩
  rw [hW1] at hN kT ⊢
  clear hW1
  go_upto_region 2 with (go_at_call 19; (with_reducible refine (HX.out _).mono ?_); rintro e W2 ⟨hx2, LA, lq, rfl, heX⟩)
  have hw2 := Ext.trans hN hx2
  have kT2 := block_ext kT hx2
  go_wp2
  go_loopw [13, 14, 15, 16] (fun f c at0 v wr => ∃ (m : Nat) (fs : Str) (cs : Int) (an : Nat), m ≤ is.length ∧ v = .int .i64 m ∧ f = .string (B fs) ∧ c = .int .i64 cs ∧ at0 = .int .i64 an ∧ Ext W2 wr ∧ writtenF (sideL t k ls) is 0 [] 0 = writtenF (sideL t k ls) (is.drop m) an fs cs ∧ an ≤ 12 ∧ fs.length ≤ 1000 * m ∧ 0 ≤ cs ∧ cs ≤ 1000 * m) (fun _ _ _ v _ => is.length - (intOf v).toNat)
  case atStart => exact ⟨0, [], 0, 0, Nat.zero_le _, rfl, rfl, rfl, rfl, Below.refl _ _, rfl, by omega, by simp, by omega, by omega⟩
  case round =>
  obtain ⟨m, fs, cs, an, hm, rfl, rfl, rfl, rfl, hb, hwf, han, hfs, hc0, hc1⟩ := hrel
  have hwr := Ext.trans hw2 hb
  have cT := cell_of (block_ext kT2 hb)
  by_cases hmm : m < is.length
  rotate_left
  · have hme : m = is.length := by omega
    subst hme
    rw [List.drop_length] at hwf
    have HR := Lib.hid (HWS.out _ hwf)
    clear hwf
    by_cases hal : an = ls.length
    · subst hal
      go_wp2
      go_ret3
      exact ⟨hwr, by rw [HR.out]; simp [writtenF]⟩
    · have hbe : ((an : Int) == ls.length) = false := beq_eq_false_iff_ne.2 (by omega)
      go_wp2
      go_ret3
      exact ⟨hwr, by rw [HR.out]; simp [writtenF, hal]⟩
  have hdrop : is.drop m = is[m] :: is.drop (m + 1) := List.drop_eq_getElem_cons hmm
  rw [hdrop] at hwf
  have hx9 : is[m]? = some is[m] := List.getElem?_eq_getElem hmm
  obtain ⟨a4, rfl, hcells4⟩ := (HIS.out.ext hwr).elem hx9
  generalize is[m] = i at hx9 hcells4 hwf
  have ci : wr.cell? (a4.add (m * 1)) = some (.int .i64 i) := by have := hcells4 0 _ rfl; rwa [Addr.add_zero] at this
  simp only [Nat.mul_one] at ci
  have HWF := Lib.hid hwf
  clear hwf hcells4 hx9 hdrop
  have HNO : Hid ((∀ (j : Nat) (x : Rul), t.rules[j]? = some x → (j : Int) = i → aruleOf k j x = none) → ws = ([], 0, false)) := Lib.hid (fun h => HWS.out none (by rw [HWF.out, written_none h]))
  by_cases h0 : i < 0
  · have HR := Lib.hid (HNO.out (fun j x _ e => by omega))
    clear HNO
    go_wp2
    go_ret3
    exact ⟨hwr, by rw [HR.out]; rfl⟩
  obtain ⟨j, rfl⟩ := Int.eq_ofNat_of_zero_le (show 0 ≤ i by omega)
  by_cases h1 : j < t.rules.length
  rotate_left
  · have h2 : (t.rules.length : Int) ≤ j := by omega
    have HR := Lib.hid (HNO.out (fun j' x h e => by have := (List.getElem?_eq_some_iff.1 h).1; omega))
    clear HNO
    go_wp2
    go_ret3
    exact ⟨hwr, by rw [HR.out]; rfl⟩
  have hn1 : ¬ (t.rules.length : Int) ≤ j := by omega
  have hrx : t.rules[j]? = some t.rules[j] := List.getElem?_eq_getElem h1
  have hfit := hfr _ (List.getElem_mem h1)
  have hcst := hco _ (List.getElem_mem h1)
  obtain ⟨ar, rfl, hcells⟩ := (HRU.out.ext hwr).elem hrx
  generalize t.rules[j] = r at hrx hfit hcells hcst
  obtain ⟨ds, dw, dt, dc⟩ := r
  obtain ⟨f1, f2⟩ := hfit
  obtain ⟨d0, d1⟩ := hcst
  dsimp only at f1 f2 d0 d1
  obtain ⟨c0, c1, c2, c3⟩ := elem4 hcells
  have HRX := Lib.hid hrx
  clear hrx hcells
  by_cases hsk : ds = k
  rotate_left
  · have hbe : (ds == k) = false := by simp [hsk]
    have hbe2 : (ds != k) = true := by simp [hsk]
    have HR := Lib.hid (HNO.out (fun j' x h e => by
      obtain rfl : j' = j := by omega
      rw [HRX.out] at h; cases h
      unfold aruleOf; rw [if_neg hsk]))
    clear HNO hsk
    go_wp2
    go_ret3
    exact ⟨hwr, by rw [HR.out]; rfl⟩
  obtain rfl : k = ds := hsk.symm
  clear hsk HNO
  have hbe : (k == k) = true := by simp
  have hbe2 : (k != k) = false := by simp
  have HFT := Lib.hid (fun (W : World) (h : Ext W2 W) => ref11Fits_any k dw ls LA lq an W (by omega) (heX.ext h) (by omega) (by omega))
  have hst := written_fit (ls := ls) (is := is.drop (m + 1)) (a := an) (f := fs) (c := cs) HRX.out rfl
  dsimp only at hst
  have HST := Lib.hid hst
  clear hst
  cases hft : fitsR k dw ls an with
  | none =>
    rw [hft] at HST HFT
    simp only [fitsE] at HFT
    have HR := Lib.hid (HWS.out none (by rw [HWF.out, HST.out]))
    clear hft
    go_wp2_with (go_at_call 35; (with_reducible refine (HFT.out _ hb).mono ?_); rintro e W5 ⟨hx5, rfl⟩)
    go_ret3
    exact ⟨Ext.trans hwr hx5, by rw [HR.out]; rfl⟩
  | some n =>
    rw [hft] at HST HFT
    simp only [fitsE] at HFT
    have hn12 : an + n ≤ ls.length := by
      unfold fitsR at hft
      split at hft
      · cases hft
      · split at hft
        · rename_i h
          cases hft
          unfold fitsL at h
          simp only [Bool.and_eq_true, decide_eq_true_eq] at h
          exact h.1
        · cases hft
    have HW2 : Hid (writtenF (sideL t k ls) is 0 [] 0 = writtenF (sideL t k ls) (is.drop (m + 1)) (an + n) (fs ++ dt) (cs + dc)) := Lib.hid (by rw [HWF.out, HST.out])
    have hkeep : ∀ w5, Ext wr w5 → (∀ i, w5.cell? ⟨w.heap.size, i, none⟩ = #[Value.slice (some ar) t.rules.length q1, .slice A2 t.drops.length q2, .slice A3 t.ends.length q3, .int .i64 t.drop, .int .i64 t.order, .int .i64 t.initial][i]?) ∧ w5.cell? { block := (ar.add (j * 4)).block, off := (ar.add (j * 4)).off + 2 } = some (.string (B dt)) ∧ w5.cell? { block := (ar.add (j * 4)).block, off := (ar.add (j * 4)).off + 3 } = some (.int .i64 dc) := fun w5 h =>
      ⟨cell_of (block_ext kT2 (Ext.trans hb h)), (h.cell (World.block_lt_of_cell? wr _ c2)).trans c2, (h.cell (World.block_lt_of_cell? wr _ c3)).trans c3⟩
    have HKEEP := Lib.hid hkeep
    have happ : B fs ++ B dt = B (fs ++ dt) := by apply ByteArray.ext; simp [B]
    have hsz3 : (B fs).size = fs.length := rfl
    have hsz4 : (B dt).size = dt.length := rfl
    have hbig : ¬ (9223372036854775807 < fs.length + dt.length) := by omega
    clear hft hkeep
    go_wp2_with (go_at_call 35; (with_reducible refine (HFT.out _ hb).mono ?_); rintro e W5 ⟨hx5, rfl⟩; obtain ⟨k1, k2, k3⟩ := HKEEP.out _ hx5)
    go_roundw
    case rel => exact ⟨m + 1, fs ++ dt, cs + dc, an + n, by omega, by simp, rfl, rfl, by simp, Ext.trans hb hx5, HW2.out, by omega, by simp; omega, by omega, by omega⟩
    case measure => simp [intOf]; omega
end Go.Proofs.YtkkbkhcapogobaaGreatDoor
end
section
namespace Go.Proofs.YtkkbkhcapogobaaGreatDoor
open Go Go.RowKit Go.Lib Go.Proofs S Go.Shelf Go.Maps Go.WideMaps
set_option linter.unusedVariables false
set_option linter.unusedSimpArgs false

theorem rules_cost {t : Tab} (h : validS t = true) : ∀ r ∈ t.rules, 0 ≤ r.cost ∧ r.cost ≤ 1000 := by
  unfold validS at h
  simp only [Bool.and_eq_true] at h
  intro r hr
  have := List.all_eq_true.1 h.1.1.2.2 r hr
  unfold ruleOK costS at this
  simp only [Bool.and_eq_true, decide_eq_true_eq] at this
  exact this.2
set_option maxRecDepth 100000 in
set_option maxHeartbeats 8000000 in
/-- ref11.Check. -/
theorem refCheck_any (A1 A2 A3 : Option Addr) (q1 q2 q3 : Nat) (t : Tab) (a : Int) (x : Str) (b : Int) (y : Str) (d : Der) (A4 A5 : Option Addr) (q4 q5 : Nat) (w : World) (ht : TabAt w A1 A2 A3 t) (hfr : ∀ r ∈ t.rules, FitR r) (hfd : ∀ d ∈ t.drops, FitD d) (hfe : ∀ d ∈ t.ends, FitD d) (hlen : t.rules.length ≤ 1000) (hx : x.length ≤ 1000) (hy : y.length ≤ 1000)
    (hl : ElemsAt w A4 1 (d.left.map (fun i => [Value.int .i64 i]))) (hr : ElemsAt w A5 1 (d.right.map (fun i => [Value.int .i64 i]))) (hl2 : d.left.length ≤ 1000) (hr2 : d.right.length ≤ 1000) :
    Calls Tryz.prog 10 #[tabVal A1 q1 A2 q2 A3 q3 t, .int .i64 a, .string (B x), .int .i64 b, .string (B y), derVal d.cost A4 d.left.length q4 A5 d.right.length q5 d.form] w fun e w' => Ext w w' ∧ e = .returned (.bool (checkS t a x b y d)) := by
  have HP : Hid (∀ W, Ext w W → Calls Tryz.prog 18 #[tabVal A1 q1 A2 q2 A3 q3 t, .int .i64 a, .string (B x), .int .i64 b, .string (B y)] W fun e w' => Ext W w' ∧ e = .returned (.bool ((wordL a x).isSome && (wordL b y).isSome && validS t))) :=
    Lib.hid (fun W h => refProper_any A1 A2 A3 q1 q2 q3 t a x b y W (ht.ext h) hfr hfd hfe hx hy)
  have hck : checkS t a x b y d = match wordL a x, wordL b y, validS t with
      | some ls, some rs, true => (writtenS (sideL t a ls) d.left).2.2 && (writtenS (sideL t b rs) d.right).2.2 && decide ((writtenS (sideL t a ls) d.left).1 = d.form) && decide ((writtenS (sideL t b rs) d.right).1 = d.form) && decide ((writtenS (sideL t a ls) d.left).2.1 + (writtenS (sideL t b rs) d.right).2.1 = d.cost)
      | _, _, _ => false := by
    unfold checkS
    rw [side_word, side_word]
    cases wordL a x <;> cases wordL b y <;> cases validS t <;> rfl
  have HRU := Lib.hid ht.rules
  have HEL := Lib.hid hl
  have HER := Lib.hid hr
  have hx2 : ∀ o1 o2, Ext w ((w.alloc o1).alloc o2) := fun o1 o2 => (Ext.new w o1).alloc o2
  have hbx : ∀ cs1 t1 cs2 t2 w1, Ext ((w.alloc (.cells cs1 t1)).alloc (.cells cs2 t2)) w1 → (∀ n, w1.cell? ⟨w.heap.size, n, none⟩ = cs1[n]?) ∧ (∀ n, w1.cell? ⟨w.heap.size + 1, n, none⟩ = cs2[n]?) ∧ Ext w w1 := fun cs1 t1 cs2 t2 w1 h => ⟨(cells_new2 h).1, (cells_new2 h).2.1, (cells_new2 h).2.2⟩
  have HBX := Lib.hid hbx
  clear hbx ht hl hr
  unfold tabVal at HP ⊢
  unfold derVal
  cases hpr : ((wordL a x).isSome && (wordL b y).isSome && validS t) with
  | false =>
    rw [hpr] at HP
    have hD : checkS t a x b y d = false := by
      rw [hck]
      cases h1 : wordL a x <;> cases h2 : wordL b y <;> cases h3 : validS t <;> simp_all
    have HD := Lib.hid hD
    clear hck hpr hD
    go_enter Tryz.func10, Tryz.ntmps10
    go_wp2_with (go_at_call 18; (with_reducible refine (HP.out _ (hx2 _ _)).mono ?_); rintro e w1 ⟨hw1, rfl⟩; obtain ⟨b1, b2, b3⟩ := HBX.out _ _ _ _ _ hw1)
    go_ret
    exact ⟨b3, ret_bool (by rw [HD.out])⟩
  | true =>
    rw [hpr] at HP
    obtain ⟨ls, hwls⟩ : ∃ ls, wordL a x = some ls := by
      cases h : wordL a x with
      | none => rw [h] at hpr; simp at hpr
      | some ls => exact ⟨ls, rfl⟩
    obtain ⟨rs, hwrs⟩ : ∃ rs, wordL b y = some rs := by
      cases h : wordL b y with
      | none => rw [h] at hpr; simp at hpr
      | some rs => exact ⟨rs, rfl⟩
    have hvt : validS t = true := by
      simp only [Bool.and_eq_true] at hpr; exact hpr.2
    have fL : Fine (sideL t a ls) := fine_of (by rw [side_word, hwls]; rfl) hvt
    have fR : Fine (sideL t b rs) := fine_of (by rw [side_word, hwrs]; rfl) hvt
    rw [hwls, hwrs, hvt] at hck
    dsimp only at hck
    have hco := rules_cost hvt
    have HL : Hid (∀ W, Ext w W → Calls Tryz.prog 24 #[.agg #[.slice A1 t.rules.length q1, .slice A2 t.drops.length q2, .slice A3 t.ends.length q3, .int .i64 t.drop, .int .i64 t.order, .int .i64 t.initial], .int .i64 a, .string (B x), .slice A4 d.left.length q4] W fun e w' => Ext W w' ∧ e = .returned (.tuple #[.string (B (writtenS (sideL t a ls) d.left).1), .int .i64 (writtenS (sideL t a ls) d.left).2.1, .bool (writtenS (sideL t a ls) d.left).2.2])) :=
      Lib.hid (fun W h => refRewrites_any A1 A2 A3 q1 q2 q3 t a x ls d.left A4 q4 W (HRU.out.ext h) hfr hco hlen hx hwls (HEL.out.ext h) hl2)
    have HR : Hid (∀ W, Ext w W → Calls Tryz.prog 24 #[.agg #[.slice A1 t.rules.length q1, .slice A2 t.drops.length q2, .slice A3 t.ends.length q3, .int .i64 t.drop, .int .i64 t.order, .int .i64 t.initial], .int .i64 b, .string (B y), .slice A5 d.right.length q5] W fun e w' => Ext W w' ∧ e = .returned (.tuple #[.string (B (writtenS (sideL t b rs) d.right).1), .int .i64 (writtenS (sideL t b rs) d.right).2.1, .bool (writtenS (sideL t b rs) d.right).2.2])) :=
      Lib.hid (fun W h => refRewrites_any A1 A2 A3 q1 q2 q3 t b y rs d.right A5 q5 W (HRU.out.ext h) hfr hco hlen hy hwrs (HER.out.ext h) hr2)
    have hcl := writtenS_cost fL d.left
    have hcr := writtenS_cost fR d.right
    have HC := Lib.hid hck
    clear hck hpr hwls hwrs hvt fL fR hco
    generalize writtenS (sideL t a ls) d.left = wl at *
    generalize writtenS (sideL t b rs) d.right = wr at *
    obtain ⟨fl, cl, ol⟩ := wl
    obtain ⟨fr, cr, orr⟩ := wr
    dsimp only at *
    have hwr : IntKind.i64.wrap (cl + cr) = cl + cr := wrap_small (by omega) (by omega)
    clear hcl hcr
    cases ol
    case false =>
      go_enter Tryz.func10, Tryz.ntmps10
      go_wp2_with (first | (go_at_call 18; (with_reducible refine (HP.out _ (hx2 _ _)).mono ?_); rintro e w1 ⟨hw1, rfl⟩; obtain ⟨b1, b2, b3⟩ := HBX.out _ _ _ _ _ hw1) | (go_at_call 24; (with_reducible refine (HL.out _ b3).mono ?_); rintro e w2 ⟨hw2, rfl⟩; obtain ⟨y1, y2, y3⟩ := HBX.out _ _ _ _ _ (Ext.trans hw1 hw2)) | (go_at_call 24; (with_reducible refine (HR.out _ y3).mono ?_); rintro e w3 ⟨hw3, rfl⟩; obtain ⟨z1, z2, z3⟩ := HBX.out _ _ _ _ _ (Ext.trans (Ext.trans hw1 hw2) hw3)))
      go_ret
      exact ⟨z3, ret_bool (by rw [HC.out]; simp)⟩
    case true =>
      cases orr
      case false =>
        go_enter Tryz.func10, Tryz.ntmps10
        go_wp2_with (first | (go_at_call 18; (with_reducible refine (HP.out _ (hx2 _ _)).mono ?_); rintro e w1 ⟨hw1, rfl⟩; obtain ⟨b1, b2, b3⟩ := HBX.out _ _ _ _ _ hw1) | (go_at_call 24; (with_reducible refine (HL.out _ b3).mono ?_); rintro e w2 ⟨hw2, rfl⟩; obtain ⟨y1, y2, y3⟩ := HBX.out _ _ _ _ _ (Ext.trans hw1 hw2)) | (go_at_call 24; (with_reducible refine (HR.out _ y3).mono ?_); rintro e w3 ⟨hw3, rfl⟩; obtain ⟨z1, z2, z3⟩ := HBX.out _ _ _ _ _ (Ext.trans (Ext.trans hw1 hw2) hw3)))
        go_ret
        exact ⟨z3, ret_bool (by rw [HC.out]; simp)⟩
      case true =>
        by_cases h1 : fl = d.form
        rotate_left
        · have H1 := Lib.hid h1
          have hne : (fl == d.form) = false := beq_eq_false_iff_ne.2 h1
          go_enter Tryz.func10, Tryz.ntmps10
          go_wp2_with (first | (go_at_call 18; (with_reducible refine (HP.out _ (hx2 _ _)).mono ?_); rintro e w1 ⟨hw1, rfl⟩; obtain ⟨b1, b2, b3⟩ := HBX.out _ _ _ _ _ hw1) | (go_at_call 24; (with_reducible refine (HL.out _ b3).mono ?_); rintro e w2 ⟨hw2, rfl⟩; obtain ⟨y1, y2, y3⟩ := HBX.out _ _ _ _ _ (Ext.trans hw1 hw2)) | (go_at_call 24; (with_reducible refine (HR.out _ y3).mono ?_); rintro e w3 ⟨hw3, rfl⟩; obtain ⟨z1, z2, z3⟩ := HBX.out _ _ _ _ _ (Ext.trans (Ext.trans hw1 hw2) hw3)))
          go_ret
          exact ⟨z3, ret_bool (by rw [HC.out]; simp [H1.out])⟩
        by_cases h2 : fr = d.form
        rotate_left
        · have H1 := Lib.hid h1
          have H2 := Lib.hid h2
          have hne : (fr == d.form) = false := beq_eq_false_iff_ne.2 h2
          go_enter Tryz.func10, Tryz.ntmps10
          go_wp2_with (first | (go_at_call 18; (with_reducible refine (HP.out _ (hx2 _ _)).mono ?_); rintro e w1 ⟨hw1, rfl⟩; obtain ⟨b1, b2, b3⟩ := HBX.out _ _ _ _ _ hw1) | (go_at_call 24; (with_reducible refine (HL.out _ b3).mono ?_); rintro e w2 ⟨hw2, rfl⟩; obtain ⟨y1, y2, y3⟩ := HBX.out _ _ _ _ _ (Ext.trans hw1 hw2)) | (go_at_call 24; (with_reducible refine (HR.out _ y3).mono ?_); rintro e w3 ⟨hw3, rfl⟩; obtain ⟨z1, z2, z3⟩ := HBX.out _ _ _ _ _ (Ext.trans (Ext.trans hw1 hw2) hw3)))
          go_ret
          exact ⟨z3, ret_bool (by rw [HC.out]; simp [H2.out])⟩
        by_cases h3 : d.cost = cl + cr
        rotate_left
        · have H1 := Lib.hid h1
          have H2 := Lib.hid h2
          have H3 := Lib.hid h3
          have hne : (d.cost == cl + cr) = false := beq_eq_false_iff_ne.2 h3
          go_enter Tryz.func10, Tryz.ntmps10
          go_wp2_with (first | (go_at_call 18; (with_reducible refine (HP.out _ (hx2 _ _)).mono ?_); rintro e w1 ⟨hw1, rfl⟩; obtain ⟨b1, b2, b3⟩ := HBX.out _ _ _ _ _ hw1) | (go_at_call 24; (with_reducible refine (HL.out _ b3).mono ?_); rintro e w2 ⟨hw2, rfl⟩; obtain ⟨y1, y2, y3⟩ := HBX.out _ _ _ _ _ (Ext.trans hw1 hw2)) | (go_at_call 24; (with_reducible refine (HR.out _ y3).mono ?_); rintro e w3 ⟨hw3, rfl⟩; obtain ⟨z1, z2, z3⟩ := HBX.out _ _ _ _ _ (Ext.trans (Ext.trans hw1 hw2) hw3)))
          go_ret
          exact ⟨z3, ret_bool (by rw [HC.out]; simp [H1.out, H2.out]; have := H3.out; omega)⟩
        have H1 := Lib.hid h1
        have H2 := Lib.hid h2
        have H3 := Lib.hid h3
        have hne : (d.cost == cl + cr) = true := by simp [h3]
        go_enter Tryz.func10, Tryz.ntmps10
        go_wp2_with (first | (go_at_call 18; (with_reducible refine (HP.out _ (hx2 _ _)).mono ?_); rintro e w1 ⟨hw1, rfl⟩; obtain ⟨b1, b2, b3⟩ := HBX.out _ _ _ _ _ hw1) | (go_at_call 24; (with_reducible refine (HL.out _ b3).mono ?_); rintro e w2 ⟨hw2, rfl⟩; obtain ⟨y1, y2, y3⟩ := HBX.out _ _ _ _ _ (Ext.trans hw1 hw2)) | (go_at_call 24; (with_reducible refine (HR.out _ y3).mono ?_); rintro e w3 ⟨hw3, rfl⟩; obtain ⟨z1, z2, z3⟩ := HBX.out _ _ _ _ _ (Ext.trans (Ext.trans hw1 hw2) hw3)))
        go_ret
        exact ⟨z3, ret_bool (by rw [HC.out]; simp [H1.out, H2.out]; have := H3.out; omega)⟩
end Go.Proofs.YtkkbkhcapogobaaGreatDoor
end
section
namespace Go.Proofs.YtkkbkhcapogobaaGreatDoor
open Go Go.RowKit Go.Lib Go.Proofs S Go.Shelf Go.Maps Go.WideMaps
set_option linter.unusedVariables false
set_option linter.unusedSimpArgs false

theorem few_fit {t : Tab} {ws : List Str} (hf : fewS t ws = true) : (∀ r ∈ t.rules, FitR r) ∧ (∀ d ∈ t.drops, FitD d) ∧ (∀ d ∈ t.ends, FitD d) := by
  unfold fewS at hf
  simp only [Bool.and_eq_true, decide_eq_true_eq, List.all_eq_true] at hf
  obtain ⟨⟨⟨⟨⟨⟨f1, f2⟩, f3⟩, f4⟩, f5⟩, f6⟩, f7⟩ := hf
  refine ⟨fun r hr => ?_, fun d hd => ?_, fun d hd => ?_⟩
  · have := f4 r hr
    unfold fewRule at this
    simp only [Bool.and_eq_true, decide_eq_true_eq] at this
    unfold FitR; omega
  · have := f5 d hd
    unfold fewDrop at this
    simp only [decide_eq_true_eq] at this
    unfold FitD; omega
  · have := f6 d hd
    unfold fewDrop at this
    simp only [decide_eq_true_eq] at this
    unfold FitD; omega
/-- ref11.Best, its result written out. -/
theorem refBest_at (A1 A2 A3 : Option Addr) (q1 q2 q3 : Nat) (t : Tab) (a : Int) (x : Str) (b : Int) (y : Str) (w : World) (ht : TabAt w A1 A2 A3 t) (hfr : ∀ r ∈ t.rules, FitR r) (hfd : ∀ d ∈ t.drops, FitD d) (hfe : ∀ d ∈ t.ends, FitD d) (hlen : t.rules.length ≤ 1000) (hx : x.length ≤ 1000) (hy : y.length ≤ 1000) {c : Int} {l m : List Int} {f : Str} {er : Int} (hD : bestS t a x b y = (⟨c, l, m, f⟩, er)) :
    Calls Tryz.prog 7 #[.agg #[.slice A1 t.rules.length q1, .slice A2 t.drops.length q2, .slice A3 t.ends.length q3, .int .i64 t.drop, .int .i64 t.order, .int .i64 t.initial], .int .i64 a, .string (B x), .int .i64 b, .string (B y)] w fun e w' => Ext w w' ∧ (l.length ≤ 24 ∧ m.length ≤ 24) ∧ ∃ (A4 : Option Addr) (q4 : Nat) (A5 : Option Addr) (q5 : Nat),
      e = .returned (.tuple #[.agg #[.int .i64 c, .slice A4 l.length q4, .slice A5 m.length q5, .string (B f)], .int .i64 er]) ∧ ElemsAt w' A4 1 (intRows l) ∧ ElemsAt w' A5 1 (intRows m) := by
  have h := refBest_any A1 A2 A3 q1 q2 q3 t a x b y w ht hfr hfd hfe hlen hx hy
  rw [hD] at h
  exact h
set_option maxRecDepth 100000 in
set_option maxHeartbeats 4000000 in
theorem matches_any (W : World) (A1 A2 A3 : Option Addr) (c1 c2 c3 : Nat) (tb : Tab) (ht : TabRd W A1 A2 A3 tb) (hc1 : tb.rules.length ≤ c1) (hc2 : c1 ≤ Go.maxLen) (a : Int) (x : Str) (b : Int) (y : Str) (A4 A5 : Option Addr) (c4 c5 : Nat) (dd : Der) (he1 : ElemsAt W A4 1 (dd.left.map (fun i => [Value.int .i64 i]))) (he2 : ElemsAt W A5 1 (dd.right.map (fun i => [Value.int .i64 i]))) (hf1 : dd.form.length ≤ Go.maxLen) (hf2 : dd.left.length ≤ Go.maxLen) (hf3 : dd.right.length ≤ Go.maxLen) (hT : Tabs W) :
    Calls Tryz.prog 3 #[tabVal A1 c1 A2 c2 A3 c3 tb, .int .i64 a, .string (B x), .int .i64 b, .string (B y), derVal dd.cost A4 dd.left.length c4 A5 dd.right.length c5 dd.form] W fun e w' => Ext W w' ∧ e = .returned (.bool true) := by
  have HH : Hid (∀ w', Ext W w' → Calls Tryz.prog 4 #[] w' fun e w'' => Ext w' w'' ∧ e = .returned (.bool true)) := Lib.hid (fun w' h => head_any w' (hT.below h))
  have HF : Hid (∀ w', Ext W w' → Calls Tryz.prog 5 #[tabVal A1 c1 A2 c2 A3 c3 tb, .slice (some ⟨w'.heap.size, 0, none⟩) 2 2] (w'.alloc (.cells #[.string (B x), .string (B y)] 9)) fun e w'' => Ext w' w'' ∧ e = .returned (.bool (fewS tb [x, y]))) := Lib.hid (fun w' h => few_two A1 A2 A3 c1 c2 c3 tb x y w' (ht.ext h))
  obtain ⟨dc, dl, dr, df⟩ := dd
  dsimp only at *
  unfold Go.maxLen at hf1 hf2 hf3
  have zf : (B df).size = df.length := rfl
  cases hfew : fewS tb [x, y] with
  | false =>
    rw [hfew] at HF
    clear ht hT hfew he1 he2
    have hx2 : ∀ o o2, Ext W ((W.alloc o).alloc o2) := fun o o2 => (Ext.new W o).alloc o2
    have HX := Lib.hid hx2
    have hcb : ∀ cs1 t1 cs2 t2 w1, Ext ((W.alloc (.cells cs1 t1)).alloc (.cells cs2 t2)) w1 → (∀ n, w1.cell? ⟨W.heap.size, n, none⟩ = cs1[n]?) ∧ (∀ o n, (w1.alloc o).cell? ⟨W.heap.size, n, none⟩ = cs1[n]?) ∧ (∀ n, w1.cell? ⟨W.heap.size + 1, n, none⟩ = cs2[n]?) ∧ (∀ o n, (w1.alloc o).cell? ⟨W.heap.size + 1, n, none⟩ = cs2[n]?) ∧ Ext W w1 := fun cs1 t1 cs2 t2 w1 h => ⟨(cells_new2 h).1, fun o => (cells_new2 (Ext.trans h (Ext.new w1 o))).1, (cells_new2 h).2.1, fun o => (cells_new2 (Ext.trans h (Ext.new w1 o))).2.1, (cells_new2 h).2.2⟩
    have HCB := Lib.hid hcb
    clear hx2 hcb
    unfold tabVal at HF ⊢
    unfold derVal
    go_enter Tryz.func3, Tryz.ntmps3
    go_wp2_with (first | (go_at_call 4; (with_reducible refine (HH.out _ (HX.out _ _)).mono ?_); rintro e w1 ⟨hb1, rfl⟩; obtain ⟨u1, u2, t1, t2, u3⟩ := HCB.out _ _ _ _ _ hb1) | (go_at_call 5; (with_reducible refine (HF.out _ u3).mono ?_); rintro e w4 ⟨hb2, rfl⟩; obtain ⟨y1, y2, z1, z2, y3⟩ := HCB.out _ _ _ _ _ (Ext.trans hb1 hb2)))
    go_ret
    exact ⟨y3, rfl⟩
  | true =>
    rw [hfew] at HF
    have hx2 : ∀ o o2, Ext W ((W.alloc o).alloc o2) := fun o o2 => (Ext.new W o).alloc o2
    have HX := Lib.hid hx2
    have hcb : ∀ cs1 t1 cs2 t2 w1, Ext ((W.alloc (.cells cs1 t1)).alloc (.cells cs2 t2)) w1 → (∀ n, w1.cell? ⟨W.heap.size, n, none⟩ = cs1[n]?) ∧ (∀ o n, (w1.alloc o).cell? ⟨W.heap.size, n, none⟩ = cs1[n]?) ∧ (∀ n, w1.cell? ⟨W.heap.size + 1, n, none⟩ = cs2[n]?) ∧ (∀ o n, (w1.alloc o).cell? ⟨W.heap.size + 1, n, none⟩ = cs2[n]?) ∧ Ext W w1 := fun cs1 t1 cs2 t2 w1 h => ⟨(cells_new2 h).1, fun o => (cells_new2 (Ext.trans h (Ext.new w1 o))).1, (cells_new2 h).2.1, fun o => (cells_new2 (Ext.trans h (Ext.new w1 o))).2.1, (cells_new2 h).2.2⟩
    have HCB := Lib.hid hcb
    clear hx2 hcb
    obtain ⟨hTab, hlen, hws⟩ := ht.at hfew
    have hx := (hws x (by simp)).1
    have hy := (hws y (by simp)).1
    have HXY3 : Hid (x.length ≤ 1000 ∧ y.length ≤ 1000) := Lib.hid ⟨by have := (hws x (by simp)).2; omega, by have := (hws y (by simp)).2; omega⟩
    have HFIT : Hid ((∀ r ∈ tb.rules, FitR r) ∧ (∀ d ∈ tb.drops, FitD d) ∧ (∀ d ∈ tb.ends, FitD d)) := Lib.hid (few_fit hfew)
    have HTAB : Hid (∀ w', Ext W w' → TabAt w' A1 A2 A3 tb) := Lib.hid (fun w' h => hTab.ext h)
    have HTT : Hid (∀ w', Ext W w' → Tabs w') := Lib.hid (fun w' h => hT.below h)
    have HXY := Lib.hid (And.intro hx hy)
    have HLEN := Lib.hid hlen
    have HE := Lib.hid (And.intro he1 he2)
    clear ht hT hfew hTab hlen hws hx hy hc1 hc2 he1 he2
    unfold tabVal at HF ⊢
    unfold derVal
    by_cases n1 : dl.length ≤ 30
    rotate_left
    · skip
      go_enter Tryz.func3, Tryz.ntmps3
      go_wp2_with (first | (go_at_call 4; (with_reducible refine (HH.out _ (HX.out _ _)).mono ?_); rintro e w1 ⟨hb1, rfl⟩; obtain ⟨u1, u2, t1, t2, u3⟩ := HCB.out _ _ _ _ _ hb1) | (go_at_call 5; (with_reducible refine (HF.out _ u3).mono ?_); rintro e w4 ⟨hb2, rfl⟩; obtain ⟨y1, y2, z1, z2, y3⟩ := HCB.out _ _ _ _ _ (Ext.trans hb1 hb2)))
      go_ret
      exact ⟨y3, rfl⟩
    by_cases n2 : dr.length ≤ 30
    rotate_left
    · skip
      go_enter Tryz.func3, Tryz.ntmps3
      go_wp2_with (first | (go_at_call 4; (with_reducible refine (HH.out _ (HX.out _ _)).mono ?_); rintro e w1 ⟨hb1, rfl⟩; obtain ⟨u1, u2, t1, t2, u3⟩ := HCB.out _ _ _ _ _ hb1) | (go_at_call 5; (with_reducible refine (HF.out _ u3).mono ?_); rintro e w4 ⟨hb2, rfl⟩; obtain ⟨y1, y2, z1, z2, y3⟩ := HCB.out _ _ _ _ _ (Ext.trans hb1 hb2)))
      go_ret
      exact ⟨y3, rfl⟩
    by_cases n3 : df.length ≤ 100
    rotate_left
    · skip
      go_enter Tryz.func3, Tryz.ntmps3
      go_wp2_with (first | (go_at_call 4; (with_reducible refine (HH.out _ (HX.out _ _)).mono ?_); rintro e w1 ⟨hb1, rfl⟩; obtain ⟨u1, u2, t1, t2, u3⟩ := HCB.out _ _ _ _ _ hb1) | (go_at_call 5; (with_reducible refine (HF.out _ u3).mono ?_); rintro e w4 ⟨hb2, rfl⟩; obtain ⟨y1, y2, z1, z2, y3⟩ := HCB.out _ _ _ _ _ (Ext.trans hb1 hb2)))
      go_ret
      exact ⟨y3, rfl⟩
    obtain ⟨D, hD⟩ : ∃ D, bestS tb a x b y = D := ⟨_, rfl⟩
    obtain ⟨⟨cst, l, m, f⟩, er⟩ := D
    have HD := Lib.hid hD
    clear hD
    have HRC : Hid (∀ w', Ext W w' → Calls Tryz.prog 10 #[.agg #[.slice A1 tb.rules.length c1, .slice A2 tb.drops.length c2, .slice A3 tb.ends.length c3, .int .i64 tb.drop, .int .i64 tb.order, .int .i64 tb.initial], .int .i64 a, .string (B x), .int .i64 b, .string (B y), .agg #[.int .i64 dc, .slice A4 dl.length c4, .slice A5 dr.length c5, .string (B df)]] w' fun e w'' => Ext w' w'' ∧ e = .returned (.bool (checkS tb a x b y ⟨dc, dl, dr, df⟩))) := Lib.hid (fun w' h => refCheck_any A1 A2 A3 c1 c2 c3 tb a x b y ⟨dc, dl, dr, df⟩ A4 A5 c4 c5 w' (HTAB.out _ h) HFIT.out.1 HFIT.out.2.1 HFIT.out.2.2 HLEN.out HXY3.out.1 HXY3.out.2 (HE.out.1.ext h) (HE.out.2.ext h) (by dsimp only; omega) (by dsimp only; omega))
    have HCC : Hid (∀ w', Ext W w' → Calls Tryz.prog 9 #[.agg #[.slice A1 tb.rules.length c1, .slice A2 tb.drops.length c2, .slice A3 tb.ends.length c3, .int .i64 tb.drop, .int .i64 tb.order, .int .i64 tb.initial], .int .i64 a, .string (B x), .int .i64 b, .string (B y), .agg #[.int .i64 dc, .slice A4 dl.length c4, .slice A5 dr.length c5, .string (B df)]] w' fun e w'' => Ext w' w'' ∧ e = .returned (.bool (checkS tb a x b y ⟨dc, dl, dr, df⟩))) := Lib.hid (fun w' h => Check_any A1 A2 A3 c1 c2 c3 tb a x b y ⟨dc, dl, dr, df⟩ A4 A5 c4 c5 w' (HTAB.out _ h) (HTT.out _ h) HXY.out.1 HXY.out.2 HLEN.out (HE.out.1.ext h) (HE.out.2.ext h) (by dsimp only; omega) (by dsimp only; omega))
    go_enter Tryz.func3, Tryz.ntmps3
    go_upto_region 4 with (first | (go_at_call 4; (with_reducible refine (HH.out _ (HX.out _ _)).mono ?_); rintro e w1 ⟨hb1, rfl⟩; obtain ⟨u1, u2, t1, t2, u3⟩ := HCB.out _ _ _ _ _ hb1) | (go_at_call 5; (with_reducible refine (HF.out _ u3).mono ?_); rintro e w4 ⟨hb2, rfl⟩; obtain ⟨y1, y2, z1, z2, y3⟩ := HCB.out _ _ _ _ _ (Ext.trans hb1 hb2)))
    have hk2 := Ext.trans hb1 hb2
    have hw4 := y3
    clear u1 u2 t1 t2 y1 y2 z1 z2
    have HKT : Hid (∀ w', Ext w4 w' → (∀ n, w'.cell? ⟨W.heap.size, n, none⟩ = #[Value.slice A1 tb.rules.length c1, .slice A2 tb.drops.length c2, .slice A3 tb.ends.length c3, .int .i64 tb.drop, .int .i64 tb.order, .int .i64 tb.initial][n]?) ∧ (∀ n, w'.cell? ⟨W.heap.size + 1, n, none⟩ = #[Value.int .i64 dc, .slice A4 dl.length c4, .slice A5 dr.length c5, .string (B df)][n]?)) := Lib.hid (fun w' h => ⟨(HCB.out _ _ _ _ _ (Ext.trans hk2 h)).1, (HCB.out _ _ _ _ _ (Ext.trans hk2 h)).2.2.1⟩)
    obtain ⟨u1, t1⟩ := HKT.out _ (Below.refl _ _)
    have HB1 := Lib.hid (Best_at A1 A2 A3 c1 c2 c3 tb a x b y w4 (HTAB.out _ hw4) (HTT.out _ hw4) HXY.out.1 HXY.out.2 HLEN.out HD.out)
    go_upto_region 5 with (go_at_call 6; (with_reducible refine (HB1.out).mono ?_); rintro e v1 ⟨hx1, hn1, P1, p1, Q1, q1, rfl, el1, er1⟩)
    have k1 := World.alloc_heap_new v1 (.cells #[.int .i64 cst, .slice P1 l.length p1, .slice Q1 m.length q1, .string (B f)] 28)
    have x1 := Ext.trans hx1 (Ext.new v1 (.cells #[.int .i64 cst, .slice P1 l.length p1, .slice Q1 m.length q1, .string (B f)] 28))
    have y1 := Ext.new v1 (.cells #[.int .i64 cst, .slice P1 l.length p1, .slice Q1 m.length q1, .string (B f)] 28)
    obtain ⟨V1, hV1⟩ : ∃ V1, v1.alloc (.cells #[.int .i64 cst, .slice P1 l.length p1, .slice Q1 m.length q1, .string (B f)] 28) = V1 := ⟨_, rfl⟩
    rw [hV1] at k1 x1 y1 ⊢
    clear hV1
    obtain ⟨b1, hb1⟩ : ∃ b1, v1.heap.size = b1 := ⟨_, rfl⟩
    rw [hb1] at k1 ⊢
    have HZ1 := Lib.hid (And.intro (And.intro el1 er1) (And.intro y1 (And.intro hx1 hb1)))
    have HEL1 := Lib.hid (el1.ext y1)
    have HER1 := Lib.hid (er1.ext y1)
    have HS1 := Lib.hid x1
    have hW1 := Ext.trans hw4 x1
    have HK1 := Lib.hid k1
    have HN1 := Lib.hid hn1
    clear hx1 el1 er1 x1 y1 k1 HB1 hn1 hb1
    clear u1 t1
    obtain ⟨u1, t1⟩ := HKT.out _ HS1.out
    have d1 := cell_of HK1.out
    have HB2 := Lib.hid (refBest_at A1 A2 A3 c1 c2 c3 tb a x b y V1 (HTAB.out _ hW1) HFIT.out.1 HFIT.out.2.1 HFIT.out.2.2 HLEN.out HXY3.out.1 HXY3.out.2 HD.out)
    go_upto_region 6 with (go_at_call 7; (with_reducible refine (HB2.out).mono ?_); rintro e v2 ⟨hx2, hn2, P2, p2, Q2, q2, rfl, el2, er2⟩)
    have k2 := World.alloc_heap_new v2 (.cells #[.int .i64 cst, .slice P2 l.length p2, .slice Q2 m.length q2, .string (B f)] 28)
    have x2 := Ext.trans hx2 (Ext.new v2 (.cells #[.int .i64 cst, .slice P2 l.length p2, .slice Q2 m.length q2, .string (B f)] 28))
    have y2 := Ext.new v2 (.cells #[.int .i64 cst, .slice P2 l.length p2, .slice Q2 m.length q2, .string (B f)] 28)
    obtain ⟨V2, hV2⟩ : ∃ V2, v2.alloc (.cells #[.int .i64 cst, .slice P2 l.length p2, .slice Q2 m.length q2, .string (B f)] 28) = V2 := ⟨_, rfl⟩
    rw [hV2] at k2 x2 y2 ⊢
    clear hV2
    obtain ⟨b2, hb2⟩ : ∃ b2, v2.heap.size = b2 := ⟨_, rfl⟩
    rw [hb2] at k2 ⊢
    have HEL2 := Lib.hid (el2.ext y2)
    have HER2 := Lib.hid (er2.ext y2)
    have hW2 := Ext.trans hW1 x2
    have HS2 := Lib.hid x2
    have HSM : Hid (∀ w', Ext V2 w' → Calls Tryz.prog 8 #[.agg #[.int .i64 cst, .slice P1 l.length p1, .slice Q1 m.length q1, .string (B f)], .agg #[.int .i64 cst, .slice P2 l.length p2, .slice Q2 m.length q2, .string (B f)]] w' fun e w'' => Ext w' w'' ∧ e = .returned (.bool true)) := Lib.hid (fun w' h => by
      have h1 := Same_any ⟨cst, l, m, f⟩ ⟨cst, l, m, f⟩ P1 Q1 P2 Q2 p1 q1 p2 q2 w' (HEL1.out.ext (Ext.trans HS2.out h)) (HER1.out.ext (Ext.trans HS2.out h)) (HEL2.out.ext h) (HER2.out.ext h) ⟨by have := HN1.out; unfold Go.maxLen; dsimp only; omega, by have := HN1.out; unfold Go.maxLen; dsimp only; omega⟩ ⟨by have := HN1.out; unfold Go.maxLen; dsimp only; omega, by have := HN1.out; unfold Go.maxLen; dsimp only; omega⟩
      rw [decide_eq_true (rfl : (⟨cst, l, m, f⟩ : Der) = ⟨cst, l, m, f⟩)] at h1
      exact h1)
    have HKP : Hid (∀ w', Ext V2 w' → (fun w' : World => Ext V2 w' ∧ w'.cell? ⟨W.heap.size, 0, none⟩ = some (.slice A1 tb.rules.length c1) ∧ w'.cell? ⟨W.heap.size, 1, none⟩ = some (.slice A2 tb.drops.length c2) ∧ w'.cell? ⟨W.heap.size, 2, none⟩ = some (.slice A3 tb.ends.length c3) ∧ w'.cell? ⟨W.heap.size, 3, none⟩ = some (.int .i64 tb.drop) ∧ w'.cell? ⟨W.heap.size, 4, none⟩ = some (.int .i64 tb.order) ∧ w'.cell? ⟨W.heap.size, 5, none⟩ = some (.int .i64 tb.initial) ∧ w'.cell? ⟨W.heap.size + 1, 0, none⟩ = some (.int .i64 dc) ∧ w'.cell? ⟨W.heap.size + 1, 1, none⟩ = some (.slice A4 dl.length c4) ∧ w'.cell? ⟨W.heap.size + 1, 2, none⟩ = some (.slice A5 dr.length c5) ∧ w'.cell? ⟨W.heap.size + 1, 3, none⟩ = some (.string (B df)) ∧ w'.cell? ⟨b1, 0, none⟩ = some (.int .i64 cst) ∧ w'.cell? ⟨b1, 1, none⟩ = some (.slice P1 l.length p1) ∧ w'.cell? ⟨b1, 2, none⟩ = some (.slice Q1 m.length q1) ∧ w'.cell? ⟨b1, 3, none⟩ = some (.string (B f)) ∧ w'.cell? ⟨b2, 0, none⟩ = some (.int .i64 cst) ∧ w'.cell? ⟨b2, 1, none⟩ = some (.slice P2 l.length p2) ∧ w'.cell? ⟨b2, 2, none⟩ = some (.slice Q2 m.length q2) ∧ w'.cell? ⟨b2, 3, none⟩ = some (.string (B f))) w') := Lib.hid (fun w' h => by
      have q1 := HKT.out _ (Ext.trans HS1.out (Ext.trans HS2.out h))
      have q2 := cell_of (block_ext HK1.out (Ext.trans HS2.out h))
      have q3 := cell_of (block_ext k2 h)
      exact ⟨h, q1.1 0, q1.1 1, q1.1 2, q1.1 3, q1.1 4, q1.1 5, q1.2 0, q1.2 1, q1.2 2, q1.2 3, q2 0, q2 1, q2 2, q2 3, q3 0, q3 1, q3 2, q3 3⟩)
    have hHeld := HKP.out V2.drew (below_drewN V2 1)
    obtain ⟨ck, hck⟩ : ∃ ck, checkS tb a x b y ⟨dc, dl, dr, df⟩ = ck := ⟨_, rfl⟩
    rw [hck] at HCC HRC
    clear hx2 el2 er2 x2 y2 k2 HB2 hn2 hb2 d1 u1 t1 hck
    go_upto_region 6 with fail
    refine wp_region_held_drew (S := (fun w' : World => Ext V2 w' ∧ w'.cell? ⟨W.heap.size, 0, none⟩ = some (.slice A1 tb.rules.length c1) ∧ w'.cell? ⟨W.heap.size, 1, none⟩ = some (.slice A2 tb.drops.length c2) ∧ w'.cell? ⟨W.heap.size, 2, none⟩ = some (.slice A3 tb.ends.length c3) ∧ w'.cell? ⟨W.heap.size, 3, none⟩ = some (.int .i64 tb.drop) ∧ w'.cell? ⟨W.heap.size, 4, none⟩ = some (.int .i64 tb.order) ∧ w'.cell? ⟨W.heap.size, 5, none⟩ = some (.int .i64 tb.initial) ∧ w'.cell? ⟨W.heap.size + 1, 0, none⟩ = some (.int .i64 dc) ∧ w'.cell? ⟨W.heap.size + 1, 1, none⟩ = some (.slice A4 dl.length c4) ∧ w'.cell? ⟨W.heap.size + 1, 2, none⟩ = some (.slice A5 dr.length c5) ∧ w'.cell? ⟨W.heap.size + 1, 3, none⟩ = some (.string (B df)) ∧ w'.cell? ⟨b1, 0, none⟩ = some (.int .i64 cst) ∧ w'.cell? ⟨b1, 1, none⟩ = some (.slice P1 l.length p1) ∧ w'.cell? ⟨b1, 2, none⟩ = some (.slice Q1 m.length q1) ∧ w'.cell? ⟨b1, 3, none⟩ = some (.string (B f)) ∧ w'.cell? ⟨b2, 0, none⟩ = some (.int .i64 cst) ∧ w'.cell? ⟨b2, 1, none⟩ = some (.slice P2 l.length p2) ∧ w'.cell? ⟨b2, 2, none⟩ = some (.slice Q2 m.length q2) ∧ w'.cell? ⟨b2, 3, none⟩ = some (.string (B f)))) Tryz.mixed hHeld ?_
    intro _
    refine wpAnyH_take (i := 0) (v := ?_) rfl (by kernel_rfl) (by kernel_rfl) (by kernel_rfl) (fun _ _ _ h => h) (Or.inl ⟨by rfl, ?_⟩) (by assumption) ?_
    rotate_left
    · (intro w hSw; (try dsimp only at hSw); go_split_ands; go_simp; first | done | with_reducible rfl)
    simp only [List.getElem_toArray, List.getElem_cons_succ, List.getElem_cons_zero, Act.put, List.setIfInBounds_toArray, List.set_cons_zero, List.set_cons_succ]
    refine wpAnyH_take (i := 1) (v := ?_) rfl (by kernel_rfl) (by kernel_rfl) (by kernel_rfl) (fun _ _ _ h => h) (Or.inl ⟨by rfl, ?_⟩) (by assumption) ?_
    rotate_left
    · (intro w hSw; (try dsimp only at hSw); go_split_ands; go_simp; first | done | with_reducible rfl)
    simp only [List.getElem_toArray, List.getElem_cons_succ, List.getElem_cons_zero, Act.put, List.setIfInBounds_toArray, List.set_cons_zero, List.set_cons_succ]
    refine wpAnyH_take (i := 2) (v := ?_) rfl (by kernel_rfl) (by kernel_rfl) (by kernel_rfl) (fun _ _ _ h => h) (Or.inl ⟨by rfl, ?_⟩) (by assumption) ?_
    rotate_left
    · (intro w hSw; (try dsimp only at hSw); go_split_ands; go_simp; first | done | with_reducible rfl)
    simp only [List.getElem_toArray, List.getElem_cons_succ, List.getElem_cons_zero, Act.put, List.setIfInBounds_toArray, List.set_cons_zero, List.set_cons_succ]
    refine wpAnyH_take (i := 3) (v := ?_) rfl (by kernel_rfl) (by kernel_rfl) (by kernel_rfl) (fun _ _ _ h => h) (Or.inl ⟨by rfl, ?_⟩) (by assumption) ?_
    rotate_left
    · (intro w hSw; (try dsimp only at hSw); go_split_ands; go_simp; first | done | with_reducible rfl)
    simp only [List.getElem_toArray, List.getElem_cons_succ, List.getElem_cons_zero, Act.put, List.setIfInBounds_toArray, List.set_cons_zero, List.set_cons_succ]
    refine wpAnyH_take (i := 4) (v := ?_) rfl (by kernel_rfl) (by kernel_rfl) (by kernel_rfl) (fun _ _ _ h => h) (Or.inl ⟨by rfl, ?_⟩) (by assumption) ?_
    rotate_left
    · (intro w hSw; (try dsimp only at hSw); go_split_ands; go_simp; first | done | with_reducible rfl)
    simp only [List.getElem_toArray, List.getElem_cons_succ, List.getElem_cons_zero, Act.put, List.setIfInBounds_toArray, List.set_cons_zero, List.set_cons_succ]
    refine wpAnyH_take (i := 5) (v := ?_) rfl (by kernel_rfl) (by kernel_rfl) (by kernel_rfl) (fun _ _ _ h => h) (Or.inl ⟨by rfl, ?_⟩) (by assumption) ?_
    rotate_left
    · (intro w hSw; (try dsimp only at hSw); go_split_ands; go_simp; first | done | with_reducible rfl)
    simp only [List.getElem_toArray, List.getElem_cons_succ, List.getElem_cons_zero, Act.put, List.setIfInBounds_toArray, List.set_cons_zero, List.set_cons_succ]
    refine wpAnyH_take (i := 6) (v := ?_) rfl (by kernel_rfl) (by kernel_rfl) (by kernel_rfl) (fun _ _ _ h => h) (Or.inl ⟨by rfl, ?_⟩) (by assumption) ?_
    rotate_left
    · (intro w hSw; (try dsimp only at hSw); go_split_ands; go_simp; first | done | with_reducible rfl)
    simp only [List.getElem_toArray, List.getElem_cons_succ, List.getElem_cons_zero, Act.put, List.setIfInBounds_toArray, List.set_cons_zero, List.set_cons_succ]
    refine wpAnyH_take (i := 7) (v := ?_) rfl (by kernel_rfl) (by kernel_rfl) (by kernel_rfl) (fun _ _ _ h => h) (Or.inl ⟨by rfl, ?_⟩) (by assumption) ?_
    rotate_left
    · (intro w hSw; (try dsimp only at hSw); go_split_ands; go_simp; first | done | with_reducible rfl)
    simp only [List.getElem_toArray, List.getElem_cons_succ, List.getElem_cons_zero, Act.put, List.setIfInBounds_toArray, List.set_cons_zero, List.set_cons_succ]
    refine wpAnyH_take (i := 8) (v := ?_) rfl (by kernel_rfl) (by kernel_rfl) (by kernel_rfl) (fun _ _ _ h => h) (Or.inl ⟨by rfl, ?_⟩) (by assumption) ?_
    rotate_left
    · (intro w hSw; (try dsimp only at hSw); go_split_ands; go_simp; first | done | with_reducible rfl)
    simp only [List.getElem_toArray, List.getElem_cons_succ, List.getElem_cons_zero, Act.put, List.setIfInBounds_toArray, List.set_cons_zero, List.set_cons_succ]
    refine wpAnyH_ready (rs := [9]) (by kernel_rfl) (by simp) ?_
    refine AllReadyH.cons rfl (fun K hK => ?_) ?_
    · (go_simp; (with_reducible refine (HSM.out _ hHeld.1).mono ?_); rintro e w5 ⟨hb5, rfl⟩)
      refine hK.out _ _ ?_ (fun hHeld => ?_)
      · first | exact hHeld | exact HKP.out _ (Ext.trans hHeld.1 hb5)
      clear hK K
      refine wpAnyH_take (i := 10) (v := ?_) rfl (by kernel_rfl) (by kernel_rfl) (by kernel_rfl) (fun _ _ _ h => h) (Or.inl ⟨by rfl, ?_⟩) (by assumption) ?_
      rotate_left
      · (intro w hSw; (try dsimp only at hSw); go_split_ands; go_simp; first | done | with_reducible rfl)
      simp only [List.getElem_toArray, List.getElem_cons_succ, List.getElem_cons_zero, Act.put, List.setIfInBounds_toArray, List.set_cons_zero, List.set_cons_succ]
      refine wpAnyH_take (i := 11) (v := ?_) rfl (by kernel_rfl) (by kernel_rfl) (by kernel_rfl) (fun _ _ _ h => h) (Or.inl ⟨by rfl, ?_⟩) (by assumption) ?_
      rotate_left
      · (intro w hSw; (try dsimp only at hSw); go_split_ands; go_simp; first | done | with_reducible rfl)
      simp only [List.getElem_toArray, List.getElem_cons_succ, List.getElem_cons_zero, Act.put, List.setIfInBounds_toArray, List.set_cons_zero, List.set_cons_succ]
      refine wpAnyH_take (i := 12) (v := ?_) rfl (by kernel_rfl) (by kernel_rfl) (by kernel_rfl) (fun _ _ _ h => h) (Or.inl ⟨by rfl, ?_⟩) (by assumption) ?_
      rotate_left
      · (intro w hSw; (try dsimp only at hSw); go_split_ands; go_simp; first | done | with_reducible rfl)
      simp only [List.getElem_toArray, List.getElem_cons_succ, List.getElem_cons_zero, Act.put, List.setIfInBounds_toArray, List.set_cons_zero, List.set_cons_succ]
      refine wpAnyH_take (i := 13) (v := ?_) rfl (by kernel_rfl) (by kernel_rfl) (by kernel_rfl) (fun _ _ _ h => h) (Or.inl ⟨by rfl, ?_⟩) (by assumption) ?_
      rotate_left
      · (intro w hSw; (try dsimp only at hSw); go_split_ands; go_simp; first | done | with_reducible rfl)
      simp only [List.getElem_toArray, List.getElem_cons_succ, List.getElem_cons_zero, Act.put, List.setIfInBounds_toArray, List.set_cons_zero, List.set_cons_succ]
      refine wpAnyH_take (i := 14) (v := ?_) rfl (by kernel_rfl) (by kernel_rfl) (by kernel_rfl) (fun _ _ _ h => h) (Or.inl ⟨by rfl, ?_⟩) (by assumption) ?_
      rotate_left
      · (intro w hSw; (try dsimp only at hSw); go_split_ands; go_simp; first | done | with_reducible rfl)
      simp only [List.getElem_toArray, List.getElem_cons_succ, List.getElem_cons_zero, Act.put, List.setIfInBounds_toArray, List.set_cons_zero, List.set_cons_succ]
      refine wpAnyH_take (i := 15) (v := ?_) rfl (by kernel_rfl) (by kernel_rfl) (by kernel_rfl) (fun _ _ _ h => h) (Or.inl ⟨by rfl, ?_⟩) (by assumption) ?_
      rotate_left
      · (intro w hSw; (try dsimp only at hSw); go_split_ands; go_simp; first | done | with_reducible rfl)
      simp only [List.getElem_toArray, List.getElem_cons_succ, List.getElem_cons_zero, Act.put, List.setIfInBounds_toArray, List.set_cons_zero, List.set_cons_succ]
      refine wpAnyH_take (i := 16) (v := ?_) rfl (by kernel_rfl) (by kernel_rfl) (by kernel_rfl) (fun _ _ _ h => h) (Or.inl ⟨by rfl, ?_⟩) (by assumption) ?_
      rotate_left
      · (intro w hSw; (try dsimp only at hSw); go_split_ands; go_simp; first | done | with_reducible rfl)
      simp only [List.getElem_toArray, List.getElem_cons_succ, List.getElem_cons_zero, Act.put, List.setIfInBounds_toArray, List.set_cons_zero, List.set_cons_succ]
      refine wpAnyH_take (i := 17) (v := ?_) rfl (by kernel_rfl) (by kernel_rfl) (by kernel_rfl) (fun _ _ _ h => h) (Or.inl ⟨by rfl, ?_⟩) (by assumption) ?_
      rotate_left
      · (intro w hSw; (try dsimp only at hSw); go_split_ands; go_simp; first | done | with_reducible rfl)
      simp only [List.getElem_toArray, List.getElem_cons_succ, List.getElem_cons_zero, Act.put, List.setIfInBounds_toArray, List.set_cons_zero, List.set_cons_succ]
      refine wpAnyH_take (i := 19) (v := ?_) rfl (by kernel_rfl) (by kernel_rfl) (by kernel_rfl) (fun _ _ _ h => h) (Or.inl ⟨by rfl, ?_⟩) (by assumption) ?_
      rotate_left
      · (intro w hSw; (try dsimp only at hSw); go_split_ands; go_simp; first | done | with_reducible rfl)
      simp only [List.getElem_toArray, List.getElem_cons_succ, List.getElem_cons_zero, Act.put, List.setIfInBounds_toArray, List.set_cons_zero, List.set_cons_succ]
      refine wpAnyH_take (i := 20) (v := ?_) rfl (by kernel_rfl) (by kernel_rfl) (by kernel_rfl) (fun _ _ _ h => h) (Or.inl ⟨by rfl, ?_⟩) (by assumption) ?_
      rotate_left
      · (intro w hSw; (try dsimp only at hSw); go_split_ands; go_simp; first | done | with_reducible rfl)
      simp only [List.getElem_toArray, List.getElem_cons_succ, List.getElem_cons_zero, Act.put, List.setIfInBounds_toArray, List.set_cons_zero, List.set_cons_succ]
      refine wpAnyH_take (i := 21) (v := ?_) rfl (by kernel_rfl) (by kernel_rfl) (by kernel_rfl) (fun _ _ _ h => h) (Or.inl ⟨by rfl, ?_⟩) (by assumption) ?_
      rotate_left
      · (intro w hSw; (try dsimp only at hSw); go_split_ands; go_simp; first | done | with_reducible rfl)
      simp only [List.getElem_toArray, List.getElem_cons_succ, List.getElem_cons_zero, Act.put, List.setIfInBounds_toArray, List.set_cons_zero, List.set_cons_succ]
      refine wpAnyH_take (i := 22) (v := ?_) rfl (by kernel_rfl) (by kernel_rfl) (by kernel_rfl) (fun _ _ _ h => h) (Or.inl ⟨by rfl, ?_⟩) (by assumption) ?_
      rotate_left
      · (intro w hSw; (try dsimp only at hSw); go_split_ands; go_simp; first | done | with_reducible rfl)
      simp only [List.getElem_toArray, List.getElem_cons_succ, List.getElem_cons_zero, Act.put, List.setIfInBounds_toArray, List.set_cons_zero, List.set_cons_succ]
      refine wpAnyH_take (i := 23) (v := ?_) rfl (by kernel_rfl) (by kernel_rfl) (by kernel_rfl) (fun _ _ _ h => h) (Or.inl ⟨by rfl, ?_⟩) (by assumption) ?_
      rotate_left
      · (intro w hSw; (try dsimp only at hSw); go_split_ands; go_simp; first | done | with_reducible rfl)
      simp only [List.getElem_toArray, List.getElem_cons_succ, List.getElem_cons_zero, Act.put, List.setIfInBounds_toArray, List.set_cons_zero, List.set_cons_succ]
      refine wpAnyH_take (i := 24) (v := ?_) rfl (by kernel_rfl) (by kernel_rfl) (by kernel_rfl) (fun _ _ _ h => h) (Or.inl ⟨by rfl, ?_⟩) (by assumption) ?_
      rotate_left
      · (intro w hSw; (try dsimp only at hSw); go_split_ands; go_simp; first | done | with_reducible rfl)
      simp only [List.getElem_toArray, List.getElem_cons_succ, List.getElem_cons_zero, Act.put, List.setIfInBounds_toArray, List.set_cons_zero, List.set_cons_succ]
      refine wpAnyH_ready (rs := [18]) (by kernel_rfl) (by simp) ?_
      refine AllReadyH.cons rfl (fun K hK => ?_) ?_
      · (go_simp; (with_reducible refine (HCC.out _ (Ext.trans hW2 hHeld.1)).mono ?_); rintro e w5 ⟨hb5, rfl⟩)
        refine hK.out _ _ ?_ (fun hHeld => ?_)
        · first | exact hHeld | exact HKP.out _ (Ext.trans hHeld.1 hb5)
        clear hK K
        refine wpAnyH_ready (rs := [25]) (by kernel_rfl) (by simp) ?_
        refine AllReadyH.cons rfl (fun K hK => ?_) ?_
        · (go_simp; (with_reducible refine (HRC.out _ (Ext.trans hW2 hHeld.1)).mono ?_); rintro e w5 ⟨hb5, rfl⟩)
          refine hK.out _ _ ?_ (fun hHeld => ?_)
          · first | exact hHeld | exact HKP.out _ (Ext.trans hHeld.1 hb5)
          clear hK K
          refine wpAnyH_take (i := 26) (v := ?_) rfl (by kernel_rfl) (by kernel_rfl) (by kernel_rfl) (fun _ _ _ h => h) (Or.inl ⟨by rfl, ?_⟩) (by assumption) ?_
          rotate_left
          · (intro w hSw; (try dsimp only at hSw); go_split_ands; go_simp; first | done | with_reducible rfl)
          simp only [List.getElem_toArray, List.getElem_cons_succ, List.getElem_cons_zero, Act.put, List.setIfInBounds_toArray, List.set_cons_zero, List.set_cons_succ]
          refine wpAnyH_take (i := 27) (v := ?_) rfl (by kernel_rfl) (by kernel_rfl) (by kernel_rfl) (fun _ _ _ h => h) (Or.inl ⟨by rfl, ?_⟩) (by assumption) ?_
          rotate_left
          · (intro w hSw; (try dsimp only at hSw); go_split_ands; go_simp; first | done | with_reducible rfl)
          simp only [List.getElem_toArray, List.getElem_cons_succ, List.getElem_cons_zero, Act.put, List.setIfInBounds_toArray, List.set_cons_zero, List.set_cons_succ]
          refine wpAnyH_take (i := 28) (v := ?_) rfl (by kernel_rfl) (by kernel_rfl) (by kernel_rfl) (fun _ _ _ h => h) (Or.inl ⟨by rfl, ?_⟩) (by assumption) ?_
          rotate_left
          · (intro w hSw; (try dsimp only at hSw); go_split_ands; go_simp; first | done | with_reducible rfl)
          simp only [List.getElem_toArray, List.getElem_cons_succ, List.getElem_cons_zero, Act.put, List.setIfInBounds_toArray, List.set_cons_zero, List.set_cons_succ]
          refine wpAnyH_done (by kernel_rfl) ?_ _
          have hfin := Ext.trans hW2 hHeld.1
          clear hHeld
          go_wp2
          go_ret
          exact ⟨hfin, rfl⟩
        exact AllReadyH.nil
      exact AllReadyH.nil
    exact AllReadyH.nil
end Go.Proofs.YtkkbkhcapogobaaGreatDoor
end
