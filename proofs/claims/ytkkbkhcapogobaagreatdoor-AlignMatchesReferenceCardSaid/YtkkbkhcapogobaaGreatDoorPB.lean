/- Contracts: ref11's Best. -/
import Derived.Test.YtkkbkhcapogobaaGreatDoorPA
import Derived.Deep.LoopGhost
namespace Go.Proofs.YtkkbkhcapogobaaGreatDoor
open Go Go.RowKit Go.Lib Go.Proofs S Go.Shelf Go.Maps Go.WideMaps
set_option linter.unusedVariables false
set_option linter.unusedSimpArgs false

namespace S
theorem sideRules_mem {k : Int} : ∀ {rs : List Rul} {i : Nat} {r : ARule}, r ∈ sideRules k i rs → ∃ (j : Nat) (x : Rul), rs[j]? = some x ∧ r.index = ((i + j : Nat) : Int) ∧ r.to = x.to
  | [], i, r, h => by cases h
  | x :: xs, i, r, h => by
    simp only [sideRules, List.mem_append] at h
    rcases h with h | h
    · refine ⟨0, x, rfl, ?_, ?_⟩
      · exact arule_index (k := k) (j := i) (rl := x) (r := r) (by simpa using h)
      · unfold aruleOf at h
        split at h
        · simp only [Option.mem_toList] at h
          obtain ⟨f, _, rfl⟩ := Option.map_eq_some_iff.1 h; rfl
        · cases h
    · obtain ⟨j, y, h1, h2, h3⟩ := sideRules_mem h
      exact ⟨j + 1, y, h1, by rw [h2]; congr 1; omega, h3⟩
theorem move_rule {t : Tab} {a b : Int} {ls rs : List Str} {s : St} {m : ARule × St} (h : m ∈ movesS (sideL t a ls) (sideL t b rs) s) : ∃ (j : Nat) (x : Rul), t.rules[j]? = some x ∧ m.1.index = (j : Int) ∧ m.1.to = x.to := by
  obtain ⟨h1, _, _⟩ := mem_moves h
  split at h1
  · obtain ⟨j, x, h2, h3, h4⟩ := sideRules_mem h1
    exact ⟨j, x, h2, by rw [h3, Nat.zero_add], h4⟩
  · obtain ⟨j, x, h2, h3, h4⟩ := sideRules_mem h1
    exact ⟨j, x, h2, by rw [h3, Nat.zero_add], h4⟩
end S
/-- What the loop of the reference's Best keeps. -/
def BestQ (L R : Side) (f : Value → Option Value) (D : Der × Int) (w00 : World) (Bs Bd m : Nat) (W : World) : Prop :=
  ∃ (s : St) (d : Der) (vL vR : Value), BestP w00 Bs Bd s d vL vR W ∧ In L R s ∧ val L R s < endless ∧ (f (pVal s)).isSome = true ∧ D = (pathS L R s d, 0) ∧ d.left.length + d.right.length + remS L R s ≤ 24 ∧ d.form.length ≤ 3 * d.left.length ∧ remS L R s < m
theorem addr_block (a : Addr) (n : Nat) : (a.add n).block = a.block := by cases n <;> rfl
theorem best_fin {w w00 W : World} {Bs Bd : Nat} {s : St} {d : Der} {A4 A5 : Option Addr} {q4 q5 : Nat} {cs : Array Value} (h : BestP w00 Bs Bd s d (.slice A4 d.left.length q4) (.slice A5 d.right.length q5) W) (hx : Ext w W) (kR : W.heap[w.heap.size + 1]? = some (.cells cs 28)) (h1 : d.left.length ≤ 24) (h2 : d.right.length ≤ 24) :
    BestRes (d, 0) w (.returned (.tuple #[.agg #[.int .i64 d.cost, .slice A4 d.left.length q4, .slice A5 d.right.length q5, .string (B d.form)], .int .i64 0])) ((((W.setCell ⟨w.heap.size + 1, 0, none⟩ (.int .i64 d.cost)).setCell ⟨w.heap.size + 1, 1, none⟩ (.slice A4 d.left.length q4)).setCell ⟨w.heap.size + 1, 2, none⟩ (.slice A5 d.right.length q5)).setCell ⟨w.heap.size + 1, 3, none⟩ (.string (B d.form))) := by
  have hm : Mod (fun k => k = w.heap.size + 1) W ((((W.setCell ⟨w.heap.size + 1, 0, none⟩ (.int .i64 d.cost)).setCell ⟨w.heap.size + 1, 1, none⟩ (.slice A4 d.left.length q4)).setCell ⟨w.heap.size + 1, 2, none⟩ (.slice A5 d.right.length q5)).setCell ⟨w.heap.size + 1, 3, none⟩ (.string (B d.form))) :=
    ((((Mod.refl (fun k => k = w.heap.size + 1) W).setCell (p := ⟨w.heap.size + 1, 0, none⟩) (.inl rfl) _).setCell (p := ⟨w.heap.size + 1, 1, none⟩) (.inl rfl) _).setCell (p := ⟨w.heap.size + 1, 2, none⟩) (.inl rfl) _).setCell (p := ⟨w.heap.size + 1, 3, none⟩) (.inl rfl) _
  refine ⟨Mod.below_trans hx hm hx.size (fun k hk he => by omega), ⟨h1, h2⟩, A4, q4, A5, q5, rfl, ?_, ?_⟩
  · obtain ⟨A', q', e, he⟩ := own_elems (ownsRow_mod h.left hm (fun g hg h' => own_far h.left hg kR (by decide) h'))
    cases e; exact he
  · obtain ⟨A', q', e, he⟩ := own_elems (ownsRow_mod h.right hm (fun g hg h' => own_far h.right hg kR (by decide) h'))
    cases e; exact he
set_option maxRecDepth 100000 in
set_option maxHeartbeats 16000000 in
/-- ref11.Best. -/
theorem refBest_any (A1 A2 A3 : Option Addr) (q1 q2 q3 : Nat) (t : Tab) (a : Int) (x : Str) (b : Int) (y : Str) (w : World) (ht : TabAt w A1 A2 A3 t) (hfr : ∀ r ∈ t.rules, FitR r) (hfd : ∀ d ∈ t.drops, FitD d) (hfe : ∀ d ∈ t.ends, FitD d) (hlen : t.rules.length ≤ 1000) (hx : x.length ≤ 1000) (hy : y.length ≤ 1000) :
    Calls Tryz.prog 7 #[tabVal A1 q1 A2 q2 A3 q3 t, .int .i64 a, .string (B x), .int .i64 b, .string (B y)] w (BestRes (bestS t a x b y) w) := by
  have HP : Hid (∀ W, Ext w W → Calls Tryz.prog 18 #[tabVal A1 q1 A2 q2 A3 q3 t, .int .i64 a, .string (B x), .int .i64 b, .string (B y)] W fun e w' => Ext W w' ∧ e = .returned (.bool ((wordL a x).isSome && (wordL b y).isSome && validS t))) :=
    Lib.hid (fun W h => refProper_any A1 A2 A3 q1 q2 q3 t a x b y W (ht.ext h) hfr hfd hfe hx hy)
  have hbst : bestS t a x b y = match wordL a x, wordL b y, validS t with
      | some ls, some rs, true => if val (sideL t a ls) (sideL t b rs) St.start ≥ endless then (Der.zero, 11) else (pathS (sideL t a ls) (sideL t b rs) St.start { Der.zero with cost := val (sideL t a ls) (sideL t b rs) St.start }, 0)
      | _, _, _ => (Der.zero, 1) := by
    unfold bestS
    rw [side_word, side_word]
    cases wordL a x <;> cases wordL b y <;> cases validS t <;> rfl
  have HRU := Lib.hid ht.rules
  generalize hDD : bestS t a x b y = D at hbst ⊢
  clear ht hDD
  unfold tabVal at HP ⊢
  go_enter Tryz.func7, Tryz.ntmps7
  go_upto_region 1 with fail
  have hN := new_two w (.cells #[.slice A1 t.rules.length q1, .slice A2 t.drops.length q2, .slice A3 t.ends.length q3, .int .i64 t.drop, .int .i64 t.order, .int .i64 t.initial] 25) (.cells #[.int .i64 0, .slice none 0 0, .slice none 0 0, .string ⟨#[]⟩] 28)
  obtain ⟨W1, hW1⟩ : ∃ W1, ((w.alloc (.cells #[.slice A1 t.rules.length q1, .slice A2 t.drops.length q2, .slice A3 t.ends.length q3, .int .i64 t.drop, .int .i64 t.order, .int .i64 t.initial] 25)).alloc (.cells #[.int .i64 0, .slice none 0 0, .slice none 0 0, .string ⟨#[]⟩] 28)) = W1 := ⟨_, rfl⟩
  have hsz1 : W1.heap.size = w.heap.size + 2 := by rw [← hW1]; simp
  rw [hW1] at hN ⊢
  clear hW1
  obtain ⟨kT, kR, hx1⟩ := hN
  have cT1 := cell_of kT
  have PV : (Value.tuple #[.agg #[.int .i64 0, .slice none 0 0, .slice none 0 0, .string ⟨#[]⟩], .int .i64 1]) = .tuple #[.agg #[.int .i64 0, .slice none 0 0, .slice none 0 0, .string ⟨#[]⟩], .int .i64 1] := rfl
  cases hpr : ((wordL a x).isSome && (wordL b y).isSome && validS t) with
  | false =>
    rw [hpr] at HP
    have hD : D = (Der.zero, 1) := by
      rw [hbst]
      cases h1 : wordL a x <;> cases h2 : wordL b y <;> cases h3 : validS t <;> simp_all
    clear hbst hpr
    go_upto_region 2 with (go_at_call 18; (with_reducible refine (HP.out _ hx1).mono ?_); rintro e W2 ⟨hx2, rfl⟩)
    have kR2 := block_ext kR hx2
    have cR2 := cell_of kR2
    have fR2 := frozen_of kR2
    have hxx := Ext.trans hx1 hx2
    have HF := Lib.hid (BestRes.zero 1 ((((hxx.set (b := w.heap.size + 1) (i := 0) (Nat.le_succ _) (.int .i64 0)).set (b := w.heap.size + 1) (i := 1) (Nat.le_succ _) (.slice none 0 0)).set (b := w.heap.size + 1) (i := 2) (Nat.le_succ _) (.slice none 0 0)).set (b := w.heap.size + 1) (i := 3) (Nat.le_succ _) (.string ⟨#[]⟩)))
    have kRF := block_set (block_set (block_set (block_set kR2 0 (.int .i64 0)) 1 (.slice none 0 0)) 2 (.slice none 0 0)) 3 (.string ⟨#[]⟩)
    subst hD
    go_wp2
    refine bodyPost_ret (v := .tuple #[.agg #[.int .i64 0, .slice none 0 0, .slice none 0 0, .string ⟨#[]⟩], .int .i64 1]) (by simp [results, Tryz.results7, go_sem, *]) rfl ?_
    exact HF.out
  | true =>
    rw [hpr] at HP
    obtain ⟨ls, hwls⟩ : ∃ ls, wordL a x = some ls := by
      cases h : wordL a x with
      | none => rw [h] at hpr; simp at hpr
      | some ls => exact ⟨ls, rfl⟩
    obtain ⟨rs, hwrs⟩ : ∃ rs, wordL b y = some rs := by
      cases h : wordL b y with
      | none => rw [h] at hpr; simp at hpr
      | some rs => exact ⟨rs, rfl⟩
    have hvt : validS t = true := by
      simp only [Bool.and_eq_true] at hpr; exact hpr.2
    have fL : Fine (sideL t a ls) := fine_of (by rw [side_word, hwls]; rfl) hvt
    have fR : Fine (sideL t b rs) := fine_of (by rw [side_word, hwrs]; rfl) hvt
    rw [hwls, hwrs, hvt] at hbst
    dsimp only at hbst
    have HX : Hid (∀ W, Calls Tryz.prog 19 #[.int .i64 a, .string (B x)] W fun e w' => Ext W w' ∧ ∃ A q, e = .returned (.tuple #[.slice A ls.length q, .bool true]) ∧ ElemsAt w' A 1 (strRows ls)) := Lib.hid (fun W => by
      refine (ref11Letters_any a x W (by omega)).mono ?_
      rintro e w' ⟨hb, (⟨hn, _⟩ | ⟨A, q, ls', hn, rfl, ho⟩)⟩
      · rw [hwls] at hn; cases hn
      · rw [hwls] at hn; cases hn
        obtain ⟨A', q', hz, he⟩ := own_strs ho
        cases hz
        exact ⟨hb, _, _, rfl, he⟩)
    have HY : Hid (∀ W, Calls Tryz.prog 19 #[.int .i64 b, .string (B y)] W fun e w' => Ext W w' ∧ ∃ A q, e = .returned (.tuple #[.slice A rs.length q, .bool true]) ∧ ElemsAt w' A 1 (strRows rs)) := Lib.hid (fun W => by
      refine (ref11Letters_any b y W (by omega)).mono ?_
      rintro e w' ⟨hb, (⟨hn, _⟩ | ⟨A, q, ls', hn, rfl, ho⟩)⟩
      · rw [hwrs] at hn; cases hn
      · rw [hwrs] at hn; cases hn
        obtain ⟨A', q', hz, he⟩ := own_strs ho
        cases hz
        exact ⟨hb, _, _, rfl, he⟩)
    have hlsz := word_size hwls
    have hrsz := word_size hwrs
    have hne0 : t.rules ≠ [] := by
      unfold validS at hvt
      simp only [Bool.and_eq_true, decide_eq_true_eq] at hvt
      exact hvt.1.1.1.1.1.1.1
    obtain ⟨r0, hr0⟩ : ∃ r0, t.rules[0]? = some r0 := by
      cases hr : t.rules with
      | nil => exact absurd hr hne0
      | cons r0 _ => exact ⟨r0, rfl⟩
    obtain ⟨ar0, rfl, _⟩ := HRU.out.elem hr0
    have HC : Hid (∀ W, Ext w W → Calls Tryz.prog 20 #[.agg #[.slice (some ar0) t.rules.length q1, .slice A2 t.drops.length q2, .slice A3 t.ends.length q3, .int .i64 t.drop, .int .i64 t.order, .int .i64 t.initial], .int .i64 a, .string (B x), .int .i64 b, .string (B y)] W fun e w' => Ext W w' ∧ ∃ mb f n, e = .returned (.map (some mb)) ∧ W.heap.size ≤ mb ∧ MapAt Tryz.prog 62 w' mb n f ∧ PInv (sideL t a ls) (sideL t b rs) f ∧ (f (pVal St.start)).isSome = true) :=
      Lib.hid (fun W h => refCosts_any (some ar0) A2 A3 q1 q2 q3 t a x b y ls rs W (HRU.out.ext h) hfr hlen hx hy hwls hwrs fL fR)
    have HMW0 : Hid (∀ (LA RA : Option Addr) (lq rq : Nat) (s : St) (W : World), Ext w W → ElemsAt W LA 1 (strRows ls) → ElemsAt W RA 1 (strRows rs) → s.i ≤ 1000 → s.j ≤ 1000 → s.ahead.length ≤ 1000 → Calls Tryz.prog 21 #[.agg #[.slice (some ar0) t.rules.length q1, .slice A2 t.drops.length q2, .slice A3 t.ends.length q3, .int .i64 t.drop, .int .i64 t.order, .int .i64 t.initial], .int .i64 a, .slice LA ls.length lq, .int .i64 b, .slice RA rs.length rq, pVal s] W fun e w' => Ext W w' ∧
        ∃ A q, e = .returned (.slice A (movesS (sideL t a ls) (sideL t b rs) s).length q) ∧ w'.ownsRow W.heap.size 66 7 (.slice A (movesS (sideL t a ls) (sideL t b rs) s).length q) (movesS (sideL t a ls) (sideL t b rs) s).length ((movesS (sideL t a ls) (sideL t b rs) s).flatMap mvVals)) :=
      Lib.hid (fun LA RA lq rq s W h hl hr h1 h2 h3 => ref11moves_any (some ar0) A2 A3 q1 q2 q3 t a b ls rs LA RA lq rq s W (HRU.out.ext h) hfr hlen hl hr (by omega) (by omega) h1 h2 h3)
    have HBST := Lib.hid hbst
    have HFL := Lib.hid (And.intro fL fR)
    have HVL := Lib.hid (fun s hs => val_range fL fR _ s hs (Nat.le_refl _))
    have hv0 := val_range fL fR _ St.start (start_in _ _) (Nat.le_refl _)
    have hmsl : Hid (∀ s, (movesS (sideL t a ls) (sideL t b rs) s).length ≤ 1000) := Lib.hid (fun s => by
      unfold sideL
      rw [mvs_moves]
      exact Nat.le_trans (mvsR_le _ _ _ _ _ _ _) hlen)
    obtain ⟨vv, hvv⟩ : ∃ vv, val (sideL t a ls) (sideL t b rs) St.start = vv := ⟨_, rfl⟩
    rw [hvv] at hv0
    have HVV := Lib.hid hvv
    clear hbst hpr hvt hwls hwrs hne0 hr0 fL fR hvv
    go_upto_region 3 with (go_at_call 18; (with_reducible refine (HP.out _ hx1).mono ?_); rintro e W2 ⟨hx2, rfl⟩)
    go_upto_region 4 with (go_at_call 19; (with_reducible refine (HX.out _).mono ?_); rintro e W3 ⟨hx3, LA, lq, rfl, heX⟩)
    go_upto_region 5 with (go_at_call 19; (with_reducible refine (HY.out _).mono ?_); rintro e W4 ⟨hx4, RA, rq, rfl, heY⟩)
    have hx14 := Ext.trans (Ext.trans hx2 hx3) hx4
    have hb4 := Ext.trans hx1 hx14
    clear cT1
    have cT4 := cell_of (block_ext kT hx14)
    have HCC := Lib.hid (HC.out W4 hb4)
    clear HX HY HC
    go_upto_region 6 with (go_at_call 20; (with_reducible refine (HCC.out).mono ?_); rintro e W5 ⟨hx5, mb, f, n, rfl, hmb, hM, hI, hS0⟩)
    have hx15 := Ext.trans hx14 hx5
    have hw5 := Ext.trans hx1 hx15
    have kT5 := block_ext kT hx15
    have kR5 := block_ext kR hx15
    have heL := heX.ext (Ext.trans hx4 hx5)
    have heR := heY.ext hx5
    have hmb5 := hM.lt
    have hsz5 : w.heap.size + 2 ≤ W5.heap.size := by have := hx15.size; omega
    clear cT4 HCC heX heY hx14 hb4 hx2 hx3 hx4
    go_upto_region 7 with fail
    have hx6 := Ext.new W5 (.cells #[.int .i64 0, .int .i64 0, .string ⟨#[]⟩, .bool false, .int .i64 0] 62)
    have kS6 := World.alloc_heap_new W5 (.cells #[.int .i64 0, .int .i64 0, .string ⟨#[]⟩, .bool false, .int .i64 0] 62)
    have hsz6 : (W5.alloc (.cells #[.int .i64 0, .int .i64 0, .string ⟨#[]⟩, .bool false, .int .i64 0] 62)).heap.size = W5.heap.size + 1 := by simp
    obtain ⟨W6, hW6⟩ : ∃ W6, (W5.alloc (.cells #[.int .i64 0, .int .i64 0, .string ⟨#[]⟩, .bool false, .int .i64 0] 62)) = W6 := ⟨_, rfl⟩
    rw [hW6] at hx6 kS6 hsz6 ⊢
    clear hW6
    have hM6 := hM.mod (hx6.mod (fun _ => False)) (fun h => h)
    have hlook : (Instr.lookup 59 (.map (some mb)) (.agg #[.int .i64 0, .int .i64 0, .string ⟨#[]⟩, .bool false, .int .i64 0]) false).run Tryz.prog W6 = .ok (.int .i64 vv) W6 := by
      obtain ⟨lk, hkey⟩ := p_key (s := St.start) (by simp [St.start]) (by simp [St.start]) (by simp [St.start])
      have := MapAt.look hM6 p_keyed Tryz.underlying59 (z := .int .i64 0) (by simp [go_sem]) ⟨lk, hkey⟩ false
      rw [(hI.at hS0).1, HVV.out] at this
      exact this
    obtain ⟨Bs, hBse⟩ : ∃ Bs, W5.heap.size = Bs := ⟨_, rfl⟩
    rw [hBse] at kS6 ⊢
    have cS6 := cell_of kS6
    have hBs : W5.heap.size ≤ Bs := by omega
    have hBs2 : Bs < W6.heap.size := by omega
    have HBSE := Lib.hid hBse
    have HSZ6 := Lib.hid hsz6
    clear hBse hsz6
    by_cases hbig : 1099511627776 ≤ vv
    · have hD : D = (Der.zero, 11) := by rw [HBST.out, if_pos (by rw [HVV.out]; exact hbig)]
      have hxx := Ext.trans hw5 hx6
      have kR6 := block_ext kR5 hx6
      have cR2 := cell_of kR6
      have fR2 := frozen_of kR6
      have HF := Lib.hid (BestRes.zero 11 ((((hxx.set (b := w.heap.size + 1) (i := 0) (Nat.le_succ _) (.int .i64 0)).set (b := w.heap.size + 1) (i := 1) (Nat.le_succ _) (.slice none 0 0)).set (b := w.heap.size + 1) (i := 2) (Nat.le_succ _) (.slice none 0 0)).set (b := w.heap.size + 1) (i := 3) (Nat.le_succ _) (.string ⟨#[]⟩)))
      have kRF := block_set (block_set (block_set (block_set kR6 0 (.int .i64 0)) 1 (.slice none 0 0)) 2 (.slice none 0 0)) 3 (.string ⟨#[]⟩)
      subst hD
      go_wp2
      refine bodyPost_ret (v := .tuple #[.agg #[.int .i64 0, .slice none 0 0, .slice none 0 0, .string ⟨#[]⟩], .int .i64 11]) (by simp [results, Tryz.results7, go_sem, *]) rfl ?_
      exact HF.out
    have hD : D = (pathS (sideL t a ls) (sideL t b rs) St.start { Der.zero with cost := vv }, 0) := by rw [HBST.out, if_neg (by rw [HVV.out]; exact hbig), HVV.out]
    have HD := Lib.hid hD
    clear hD
    go_wp2
    have hx7 := Ext.new W6 (.cells #[.int .i64 vv, .slice none 0 0, .slice none 0 0, .string ⟨#[]⟩] 28)
    have kD7 := World.alloc_heap_new W6 (.cells #[.int .i64 vv, .slice none 0 0, .slice none 0 0, .string ⟨#[]⟩] 28)
    have kS7 := block_ext kS6 hx7
    obtain ⟨W7, hW7⟩ : ∃ W7, (W6.alloc (.cells #[.int .i64 vv, .slice none 0 0, .slice none 0 0, .string ⟨#[]⟩] 28)) = W7 := ⟨_, rfl⟩
    rw [hW7] at hx7 kS7 kD7 ⊢
    clear hW7
    obtain ⟨Bd, hBde⟩ : ∃ Bd, W6.heap.size = Bd := ⟨_, rfl⟩
    rw [hBde] at kD7 ⊢
    have hBd : W5.heap.size ≤ Bd := by have := HSZ6.out; omega
    clear hBde hBs2
    have hQ0 : BestQ (sideL t a ls) (sideL t b rs) f D W5 Bs Bd (remS (sideL t a ls) (sideL t b rs) St.start + 1) W7 := by
      refine ⟨St.start, { Der.zero with cost := vv }, .slice none 0 0, .slice none 0 0, ⟨Ext.trans hx6 hx7, kS7, kD7, ⟨rfl, .inl ⟨rfl, rfl⟩⟩, ⟨rfl, .inl ⟨rfl, rfl⟩⟩, fun g hg => by simp [Value.ownBlock] at hg⟩, start_in _ _, by rw [HVV.out]; unfold endless; omega, hS0, HD.out, ?_, by simp [Der.zero], Nat.lt_succ_self _⟩
      have e1 : (sideL t a ls).letters.length = ls.length := rfl
      have e2 : (sideL t b rs).letters.length = rs.length := rfl
      simp [Der.zero]
      unfold remS
      omega
    clear hlook cS6 kS6 kS7 kD7 hS0 hM6 hx7
    go_loopg [] (remS (sideL t a ls) (sideL t b rs) St.start + 1) (fun m wr => BestQ (sideL t a ls) (sideL t b rs) f D W5 Bs Bd m wr)
    case atStart => exact hQ0
    case round =>
    clear hQ0
    obtain ⟨Wc, rfl⟩ : ∃ Wc : World, Wc = wr := ⟨_, rfl⟩
    obtain ⟨⟨i, j, ah, rt⟩, d, vL, vR, hB0, hin, hvs, hfs, hDp, hcnt, hfl, hrm⟩ := hrel
    have hsi := hin.i
    have hsj := hin.j
    have hsa := hin.ahead
    dsimp only at hsi hsj hsa
    have hxc := hB0.ext
    have cS := cell_of hB0.st
    simp only [pVals] at cS
    have HDN : Hid (doneS (sideL t a ls) (sideL t b rs) ⟨i, j, ah, rt⟩ = (decide (i = ls.length) && decide (j = rs.length) && decide (ah = []))) := Lib.hid rfl
    obtain ⟨dn, hdn⟩ : ∃ dn, doneS (sideL t a ls) (sideL t b rs) ⟨i, j, ah, rt⟩ = dn := ⟨_, rfl⟩
    rw [hdn] at HDN
    have HDE := Lib.hid hdn
    clear hdn
    go_upto_region 10 with fail
    go_cut [73] from 57 to 73 (fun v73 wx => v73 = .bool (!dn) ∧ wx = Wc)
    case first =>
      by_cases h1 : i < ls.length
      · have HD1 : Hid (dn = false) := Lib.hid (by rw [HDN.out]; simp; omega)
        go_wp2
        go_meet
        case rel => exact ⟨by rw [HD1.out]; rfl, rfl⟩
      · by_cases h2 : j < rs.length
        · have HD1 : Hid (dn = false) := Lib.hid (by rw [HDN.out]; simp; omega)
          go_wp2
          go_meet
          case rel => exact ⟨by rw [HD1.out]; rfl, rfl⟩
        · by_cases h3 : ah = []
          · have HD1 : Hid (dn = true) := Lib.hid (by rw [HDN.out]; simp [h3]; have e1 : (sideL t a ls).letters.length = ls.length := rfl; have e2 : (sideL t b rs).letters.length = rs.length := rfl; omega)
            subst h3
            go_wp2
            go_meet
            case rel => exact ⟨by rw [HD1.out]; rfl, rfl⟩
          · have HD1 : Hid (dn = false) := Lib.hid (by rw [HDN.out]; simp [h3])
            have hne : (ah != []) = true := by simp [h3]
            have hne2 : ah.isEmpty = false := by cases ah with | nil => exact absurd rfl h3 | cons _ _ => rfl
            go_wp2
            go_meet
            case rel => exact ⟨by rw [HD1.out]; rfl, rfl⟩
    case rest =>
    obtain ⟨rfl, hwc⟩ := hcut
    obtain rfl : Wc = wc := hwc.symm
    clear hwc
    go_upto_if 73 with fail
    cases dn with
    | true =>
      have hDd : D = (d, 0) := by rw [hDp, pathS_done HDE.out]
      obtain ⟨A4, q4, rfl, _⟩ := own_elems hB0.left
      obtain ⟨A5, q5, rfl, _⟩ := own_elems hB0.right
      have cD := cell_of hB0.der
      have kRc := block_ext kR5 hxc
      have cR := cell_of kRc
      have fR := frozen_of kRc
      have HF := Lib.hid (best_fin (w := w) (Bd := Bd) hB0 (Ext.trans hw5 hxc) kRc (by omega) (by omega))
      subst hDd
      clear hB0 hDp
      go_wp2
      refine bodyPost_ret (v := .tuple #[.agg #[.int .i64 d.cost, .slice A4 d.left.length q4, .slice A5 d.right.length q5, .string (B d.form)], .int .i64 0]) (by simp [results, Tryz.results7, go_sem, *]) rfl ?_
      exact HF.out
    | false =>
    have t0 := cell_of (block_ext kT5 hxc)
    have HMW := Lib.hid (HMW0.out LA RA lq rq ⟨i, j, ah, rt⟩ Wc (Ext.trans hw5 hxc) (heL.ext hxc) (heR.ext hxc) (by dsimp only; have e1 : (sideL t a ls).letters.length = ls.length := rfl; omega) (by dsimp only; have e1 : (sideL t b rs).letters.length = rs.length := rfl; omega) (by dsimp only; omega))
    simp only [pVal] at HMW
    go_upto_region 12 with (go_at_call 21; (with_reducible refine (HMW.out).mono ?_); rintro e Wm ⟨hxm, Am, qm, rfl, hown⟩)
    obtain ⟨mm, g1, g2, g3⟩ := next_some HFL.out.1 HFL.out.2 hin hvs HDE.out
    have hmsl1 := hmsl.out ⟨i, j, ah, rt⟩
    have HRM : Hid (∀ x ∈ movesS (sideL t a ls) (sideL t b rs) ⟨i, j, ah, rt⟩, In (sideL t a ls) (sideL t b rs) x.2 ∧ remS (sideL t a ls) (sideL t b rs) x.2 < remS (sideL t a ls) (sideL t b rs) ⟨i, j, ah, rt⟩ ∧ 0 ≤ x.1.cost ∧ x.1.cost ≤ 1000) := Lib.hid (fun x hx => move_rem HFL.out.1 HFL.out.2 hin hx)
    obtain ⟨ms, hms⟩ : ∃ ms, movesS (sideL t a ls) (sideL t b rs) ⟨i, j, ah, rt⟩ = ms := ⟨_, rfl⟩
    rw [hms] at hown g2 hmsl1 HRM ⊢
    have HMS := Lib.hid hms
    have HG := Lib.hid (show ∃ m ∈ ms, m.1.cost + val (sideL t a ls) (sideL t b rs) m.2 = val (sideL t a ls) (sideL t b rs) ⟨i, j, ah, rt⟩ from ⟨mm, g2, g3⟩)
    obtain ⟨hel, hbl⟩ := own_moves' hown
    obtain ⟨vs, hvse⟩ : ∃ vs, val (sideL t a ls) (sideL t b rs) ⟨i, j, ah, rt⟩ = vs := ⟨_, rfl⟩
    rw [hvse] at HG
    have HVS := Lib.hid hvse
    clear hms g1 g2 g3 mm hown t0 HMW hvse
    go_wp2
    go_loopw [20] (fun v20 wr => ∃ k : Nat, k ≤ ms.length ∧ v20 = .int .i64 k ∧ Ext Wm wr ∧ ∀ p ∈ ms.take k, p.1.cost + val (sideL t a ls) (sideL t b rs) p.2 ≠ vs) (fun v20 _ => ms.length - (intOf v20).toNat)
    case atStart => exact ⟨0, Nat.zero_le _, rfl, Below.refl _ _, by simp⟩
    case round =>
    obtain ⟨k, hk, rfl, hb, hpre⟩ := hrel
    by_cases hkk : k < ms.length
    rotate_left
    · exfalso
      obtain ⟨m, h1, h2⟩ := HG.out
      have hke : k = ms.length := by omega
      rw [hke, List.take_length] at hpre
      exact hpre m h1 h2
    have hx9 : ms[k]? = some ms[k] := List.getElem?_eq_getElem hkk
    have htk : ms.take (k + 1) = ms.take k ++ [ms[k]] := (List.take_append_getElem hkk).symm
    have hspl : ms = ms.take k ++ ms[k] :: ms.drop (k + 1) := by rw [List.getElem_cons_drop, List.take_append_drop]
    have hmem : ms[k] ∈ ms := List.getElem_mem hkk
    have hms1 := HRM.out _ hmem
    obtain ⟨idx, rl, hrl1, hrl2, hrl3⟩ := move_rule (t := t) (a := a) (b := b) (ls := ls) (rs := rs) (s := ⟨i, j, ah, rt⟩) (m := ms[k]) (by rw [HMS.out]; exact hmem)
    generalize ms[k] = mm at hx9 htk hspl hmem hms1 hrl2 hrl3
    obtain ⟨⟨mi, mc, mf, mt⟩, ⟨ni, nj, na, nr⟩⟩ := mm
    dsimp only at hms1 hrl2 hrl3
    subst hrl2
    obtain ⟨hin3, hrem3, hc0, hc1⟩ := hms1
    have hni := hin3.i
    have hnj := hin3.j
    have hna := hin3.ahead
    dsimp only at hni hnj hna
    have hvn0 := HVL.out _ hin3
    have hvs0 := HVL.out _ hin
    obtain ⟨hf1, hf2⟩ := hI.at hfs
    rw [HMS.out] at hf2
    have hf3 := hI.at (hf2 _ hmem)
    dsimp only at hf3
    obtain ⟨vn, hvne⟩ : ∃ vn, val (sideL t a ls) (sideL t b rs) ⟨ni, nj, na, nr⟩ = vn := ⟨_, rfl⟩
    have HVN := Lib.hid hvne
    rw [hvne] at hvn0
    rw [HVS.out] at hvs0
    have e1 : (sideL t a ls).letters.length = ls.length := rfl
    have e2 : (sideL t b rs).letters.length = rs.length := rfl
    rw [e1] at hni
    rw [e2] at hnj
    have hx5r : Ext W5 wr := Ext.trans (Ext.trans hxc hxm) hb
    have hxr : Ext W5 wr.drew := Ext.trans hx5r (below_drewN wr 1)
    have hMr := hM.mod (hxr.mod (fun _ => False)) (fun h => h)
    obtain ⟨lk1, hkey1⟩ := p_key (s := ⟨ni, nj, na, nr⟩) (by dsimp only; omega) (by dsimp only; omega) hin3.ahead
    obtain ⟨lk2, hkey2⟩ := p_key (s := ⟨i, j, ah, rt⟩) (by dsimp only; omega) (by dsimp only; omega) hin.ahead
    have hl1 : (Instr.lookup 59 (.map (some mb)) (.agg #[.int .i64 ni, .int .i64 nj, .string (B na), .bool nr, .int .i64 0]) false).run Tryz.prog wr.drew = .ok (.int .i64 vn) wr.drew := by
      have := MapAt.look hMr p_keyed Tryz.underlying59 (z := .int .i64 0) (by simp [go_sem]) ⟨lk1, hkey1⟩ false
      rw [hf3.1, HVN.out] at this
      exact this
    have hl2 : (Instr.lookup 59 (.map (some mb)) (.agg #[.int .i64 i, .int .i64 j, .string (B ah), .bool rt, .int .i64 0]) false).run Tryz.prog wr.drew = .ok (.int .i64 vs) wr.drew := by
      have := MapAt.look hMr p_keyed Tryz.underlying59 (z := .int .i64 0) (by simp [go_sem]) ⟨lk2, hkey2⟩ false
      rw [hf1, HVS.out] at this
      exact this
    have HNXT : Hid (mc + vn = vs → nextS (sideL t a ls) (sideL t b rs) ⟨i, j, ah, rt⟩ = some (⟨idx, mc, mf, mt⟩, ⟨ni, nj, na, nr⟩)) := Lib.hid (fun h => next_first (by rw [HMS.out]; exact hspl) (fun p hp => by rw [HVS.out]; exact hpre p hp) (by rw [HVN.out, HVS.out]; exact h))
    have HNE : Hid (mc + vn ≠ vs → ∀ p ∈ ms.take (k + 1), p.1.cost + val (sideL t a ls) (sideL t b rs) p.2 ≠ vs) := Lib.hid (fun h p hp => by
      rw [htk] at hp
      rcases List.mem_append.1 hp with hp | hp
      · exact hpre p hp
      · simp only [List.mem_singleton] at hp; subst hp; rw [HVN.out]; exact h)
    have HNX : Hid (mc + vn = vs → ∀ (d' : Der) (vL' vR' : Value) (W' : World), BestP W5 Bs Bd ⟨ni, nj, na, nr⟩ d' vL' vR' W' → takeS d ⟨i, j, ah, rt⟩ (⟨idx, mc, mf, mt⟩, ⟨ni, nj, na, nr⟩) = d' → BestQ (sideL t a ls) (sideL t b rs) f D W5 Bs Bd (remS (sideL t a ls) (sideL t b rs) ⟨ni, nj, na, nr⟩ + 1) W') := Lib.hid (fun heq d' vL' vR' W' hP htk' => by
      have hn := HNXT.out heq
      have hnv := next_val hn
      have hct := take_count d ⟨i, j, ah, rt⟩ (⟨idx, mc, mf, mt⟩, ⟨ni, nj, na, nr⟩)
      have hfm := take_form HFL.out.1 HFL.out.2 (next_mem hn) hfl
      rw [htk'] at hct hfm
      dsimp only at hnv
      refine ⟨⟨ni, nj, na, nr⟩, d', vL', vR', hP, hin3, by omega, hf2 _ hmem, ?_, by omega, hfm, Nat.lt_succ_self _⟩
      rw [hDp, pathS_next HFL.out.1 HFL.out.2 hin HDE.out hn, htk'])
    have HLT : Hid (remS (sideL t a ls) (sideL t b rs) ⟨ni, nj, na, nr⟩ + 1 < gk) := Lib.hid (by omega)
    have hB := hB0.grow (Ext.trans hxm hb)
    obtain ⟨ar, rfl, hcells⟩ := (hel.ext hb).elem hx9
    obtain ⟨e00, e01, e02, e03, e04, e05, e06⟩ := elem7 hcells
    have hge := hbl ar rfl
    have hBdlt := (Array.getElem?_eq_some_iff.1 hB0.der).1
    have hBslt := (Array.getElem?_eq_some_iff.1 hB0.st).1
    have HGE : Hid (Bd < ar.block) := Lib.hid (by omega)
    have hFr : (wr.cell? (ar.add (k * 7)) = some (.int .i64 idx) ∧ wr.cell? { block := (ar.add (k * 7)).block, off := (ar.add (k * 7)).off + 2 } = some (.int .i64 ni) ∧ wr.cell? { block := (ar.add (k * 7)).block, off := (ar.add (k * 7)).off + 3 } = some (.int .i64 nj) ∧ wr.cell? { block := (ar.add (k * 7)).block, off := (ar.add (k * 7)).off + 4 } = some (.string (B na)) ∧ wr.cell? { block := (ar.add (k * 7)).block, off := (ar.add (k * 7)).off + 5 } = some (.bool nr) ∧ wr.cell? { block := (ar.add (k * 7)).block, off := (ar.add (k * 7)).off + 6 } = some (.int .i64 0)) := ⟨e00, e02, e03, e04, e05, e06⟩
    have HMCX : Hid (∀ (Wb Wa : World), Mod (fun k => k < Wc.heap.size) Wa Wb → (Wa.cell? (ar.add (k * 7)) = some (.int .i64 idx) ∧ Wa.cell? { block := (ar.add (k * 7)).block, off := (ar.add (k * 7)).off + 2 } = some (.int .i64 ni) ∧ Wa.cell? { block := (ar.add (k * 7)).block, off := (ar.add (k * 7)).off + 3 } = some (.int .i64 nj) ∧ Wa.cell? { block := (ar.add (k * 7)).block, off := (ar.add (k * 7)).off + 4 } = some (.string (B na)) ∧ Wa.cell? { block := (ar.add (k * 7)).block, off := (ar.add (k * 7)).off + 5 } = some (.bool nr) ∧ Wa.cell? { block := (ar.add (k * 7)).block, off := (ar.add (k * 7)).off + 6 } = some (.int .i64 0)) → (Wb.cell? (ar.add (k * 7)) = some (.int .i64 idx) ∧ Wb.cell? { block := (ar.add (k * 7)).block, off := (ar.add (k * 7)).off + 2 } = some (.int .i64 ni) ∧ Wb.cell? { block := (ar.add (k * 7)).block, off := (ar.add (k * 7)).off + 3 } = some (.int .i64 nj) ∧ Wb.cell? { block := (ar.add (k * 7)).block, off := (ar.add (k * 7)).off + 4 } = some (.string (B na)) ∧ Wb.cell? { block := (ar.add (k * 7)).block, off := (ar.add (k * 7)).off + 5 } = some (.bool nr) ∧ Wb.cell? { block := (ar.add (k * 7)).block, off := (ar.add (k * 7)).off + 6 } = some (.int .i64 0))) := Lib.hid (by
      intro Wb Wa hm h
      obtain ⟨h0, h2, h3, h4, h5, h6⟩ := h
      have hlt := World.block_lt_of_cell? Wa _ h0
      rw [addr_block] at hlt
      have hk : Wb.heap[(ar.add (k * 7)).block]? = Wa.heap[(ar.add (k * 7)).block]? := by rw [addr_block]; exact hm.block ar.block hlt (by omega)
      have hcc : ∀ o, Wb.cell? { block := (ar.add (k * 7)).block, off := o } = Wa.cell? { block := (ar.add (k * 7)).block, off := o } := fun o => cell_same (a := { block := (ar.add (k * 7)).block, off := o }) hk
      exact ⟨(cell_same (a := ar.add (k * 7)) hk).trans h0, (hcc _).trans h2, (hcc _).trans h3, (hcc _).trans h4, (hcc _).trans h5, (hcc _).trans h6⟩)
    have HKC : Hid (∀ (Wb Wa : World), Mod (fun k => k < Wc.heap.size) Wa Wb → (Wa.cell? (ar.add (k * 7)) = some (.int .i64 idx) ∧ Wa.cell? { block := (ar.add (k * 7)).block, off := (ar.add (k * 7)).off + 2 } = some (.int .i64 ni) ∧ Wa.cell? { block := (ar.add (k * 7)).block, off := (ar.add (k * 7)).off + 3 } = some (.int .i64 nj) ∧ Wa.cell? { block := (ar.add (k * 7)).block, off := (ar.add (k * 7)).off + 4 } = some (.string (B na)) ∧ Wa.cell? { block := (ar.add (k * 7)).block, off := (ar.add (k * 7)).off + 5 } = some (.bool nr) ∧ Wa.cell? { block := (ar.add (k * 7)).block, off := (ar.add (k * 7)).off + 6 } = some (.int .i64 0)) → (Wb.cell? (ar.add (k * 7)) = some (.int .i64 idx) ∧ Wb.cell? { block := (ar.add (k * 7)).block, off := (ar.add (k * 7)).off + 2 } = some (.int .i64 ni) ∧ Wb.cell? { block := (ar.add (k * 7)).block, off := (ar.add (k * 7)).off + 3 } = some (.int .i64 nj) ∧ Wb.cell? { block := (ar.add (k * 7)).block, off := (ar.add (k * 7)).off + 4 } = some (.string (B na)) ∧ Wb.cell? { block := (ar.add (k * 7)).block, off := (ar.add (k * 7)).off + 5 } = some (.bool nr) ∧ Wb.cell? { block := (ar.add (k * 7)).block, off := (ar.add (k * 7)).off + 6 } = some (.int .i64 0))) := HMCX
    have HMC : Hid (∀ (Wb Wa : World), Mod (fun k => k = Bd) Wa Wb → (Wa.cell? (ar.add (k * 7)) = some (.int .i64 idx) ∧ Wa.cell? { block := (ar.add (k * 7)).block, off := (ar.add (k * 7)).off + 2 } = some (.int .i64 ni) ∧ Wa.cell? { block := (ar.add (k * 7)).block, off := (ar.add (k * 7)).off + 3 } = some (.int .i64 nj) ∧ Wa.cell? { block := (ar.add (k * 7)).block, off := (ar.add (k * 7)).off + 4 } = some (.string (B na)) ∧ Wa.cell? { block := (ar.add (k * 7)).block, off := (ar.add (k * 7)).off + 5 } = some (.bool nr) ∧ Wa.cell? { block := (ar.add (k * 7)).block, off := (ar.add (k * 7)).off + 6 } = some (.int .i64 0)) → (Wb.cell? (ar.add (k * 7)) = some (.int .i64 idx) ∧ Wb.cell? { block := (ar.add (k * 7)).block, off := (ar.add (k * 7)).off + 2 } = some (.int .i64 ni) ∧ Wb.cell? { block := (ar.add (k * 7)).block, off := (ar.add (k * 7)).off + 3 } = some (.int .i64 nj) ∧ Wb.cell? { block := (ar.add (k * 7)).block, off := (ar.add (k * 7)).off + 4 } = some (.string (B na)) ∧ Wb.cell? { block := (ar.add (k * 7)).block, off := (ar.add (k * 7)).off + 5 } = some (.bool nr) ∧ Wb.cell? { block := (ar.add (k * 7)).block, off := (ar.add (k * 7)).off + 6 } = some (.int .i64 0))) := Lib.hid (by
      intro Wb Wa hm h
      exact HMCX.out Wb _ (hm.mono (fun k _ e => by rw [e]; exact hBdlt)) h)
    have HMC0 : Hid (∀ Wu, Ext wr Wu → (Wu.cell? (ar.add (k * 7)) = some (.int .i64 idx) ∧ Wu.cell? { block := (ar.add (k * 7)).block, off := (ar.add (k * 7)).off + 2 } = some (.int .i64 ni) ∧ Wu.cell? { block := (ar.add (k * 7)).block, off := (ar.add (k * 7)).off + 3 } = some (.int .i64 nj) ∧ Wu.cell? { block := (ar.add (k * 7)).block, off := (ar.add (k * 7)).off + 4 } = some (.string (B na)) ∧ Wu.cell? { block := (ar.add (k * 7)).block, off := (ar.add (k * 7)).off + 5 } = some (.bool nr) ∧ Wu.cell? { block := (ar.add (k * 7)).block, off := (ar.add (k * 7)).off + 6 } = some (.int .i64 0))) := Lib.hid (fun Wu h => HMCX.out Wu _ (h.mod _) hFr)
    have HTB : Hid (∀ W', Ext W5 W' → W'.cell? ⟨w.heap.size, 0, none⟩ = some (.slice (some ar0) t.rules.length q1)) := Lib.hid (fun W' h => cell_of (block_ext kT5 h) 0)
    have hrlt : mt.length ≤ 1000 := by rw [hrl3]; exact (hfr _ (List.mem_of_getElem? hrl1)).2
    have hidx : idx < t.rules.length := (List.getElem?_eq_some_iff.1 hrl1).1
    have HRT : Hid (∀ W', Ext w W' → W'.cell? { block := (ar0.add (idx * 4)).block, off := (ar0.add (idx * 4)).off + 2 } = some (.string (B mt))) := Lib.hid (fun W' h => by
      obtain ⟨a', he, hc⟩ := (HRU.out.ext h).elem hrl1
      cases he
      obtain ⟨_, _, c2, _⟩ := elem4 hc
      rw [hrl3]; exact c2)
    have hrb : ar0.block < w.heap.size := by
      have := World.block_lt_of_cell? w _ (HRT.out w (Below.refl _ _))
      rw [addr_block] at this
      exact this
    have HSS8 : Hid (∀ (w' : World) (z : Value), (fun w' : World => w'.cell? (ar.add (k * 7)) = some (.int .i64 idx) ∧ w'.cell? ⟨w.heap.size, 0, none⟩ = some (.slice (some ar0) t.rules.length q1) ∧ w'.cell? { block := (ar0.add (idx * 4)).block, off := (ar0.add (idx * 4)).off + 2 } = some (.string (B mt))) w' → (fun w' : World => w'.cell? (ar.add (k * 7)) = some (.int .i64 idx) ∧ w'.cell? ⟨w.heap.size, 0, none⟩ = some (.slice (some ar0) t.rules.length q1) ∧ w'.cell? { block := (ar0.add (idx * 4)).block, off := (ar0.add (idx * 4)).off + 2 } = some (.string (B mt))) (w'.setCell ⟨Bd, 3, none⟩ z)) := Lib.hid (fun w' z h => ⟨(World.cell?_setCell_far _ _ _ _ (fun e => by have e2 : Bd = (ar.add (k * 7)).block := e; rw [addr_block] at e2; omega)).trans h.1, (World.cell?_setCell_far _ _ _ _ (fun e => by have e2 : Bd = w.heap.size := e; omega)).trans h.2.1, (World.cell?_setCell_far _ _ _ _ (fun e => by have e2 : Bd = (ar0.add (idx * 4)).block := e; rw [addr_block] at e2; omega)).trans h.2.2⟩)
    have HRT5 : Hid (∀ W', Ext W5 W' → W'.cell? { block := (ar0.add (idx * 4)).block, off := (ar0.add (idx * 4)).off + 2 } = some (.string (B mt))) := Lib.hid (fun W' h => HRT.out W' (Ext.trans hw5 h))
    have hwr : IntKind.i64.wrap (mc + vn) = mc + vn := by unfold endless at hvn0; exact wrap_small (by omega) (by omega)
    have hHeld : (fun w' : World => w'.cell? { block := (ar.add (k * 7)).block, off := (ar.add (k * 7)).off + 1 } = some (.int .i64 mc) ∧ w'.cell? { block := (ar.add (k * 7)).block, off := (ar.add (k * 7)).off + 2 } = some (.int .i64 ni) ∧ w'.cell? { block := (ar.add (k * 7)).block, off := (ar.add (k * 7)).off + 3 } = some (.int .i64 nj) ∧ w'.cell? { block := (ar.add (k * 7)).block, off := (ar.add (k * 7)).off + 4 } = some (.string (B na)) ∧ w'.cell? { block := (ar.add (k * 7)).block, off := (ar.add (k * 7)).off + 5 } = some (.bool nr) ∧ w'.cell? { block := (ar.add (k * 7)).block, off := (ar.add (k * 7)).off + 6 } = some (.int .i64 0) ∧ w'.cell? ⟨Bs, 0, none⟩ = some (.int .i64 i) ∧ w'.cell? ⟨Bs, 1, none⟩ = some (.int .i64 j) ∧ w'.cell? ⟨Bs, 2, none⟩ = some (.string (B ah)) ∧ w'.cell? ⟨Bs, 3, none⟩ = some (.bool rt) ∧ w'.cell? ⟨Bs, 4, none⟩ = some (.int .i64 0) ∧ (Instr.lookup 59 (.map (some mb)) (.agg #[.int .i64 ni, .int .i64 nj, .string (B na), .bool nr, .int .i64 0]) false).run Tryz.prog w' = .ok (.int .i64 vn) w' ∧ (Instr.lookup 59 (.map (some mb)) (.agg #[.int .i64 i, .int .i64 j, .string (B ah), .bool rt, .int .i64 0]) false).run Tryz.prog w' = .ok (.int .i64 vs) w') wr.drew := ⟨e01, e02, e03, e04, e05, e06, cell_of hB.st 0, cell_of hB.st 1, cell_of hB.st 2, cell_of hB.st 3, cell_of hB.st 4, hl1, hl2⟩
    clear hx9 htk hspl hmem hrl1 hrl3 hin3 hf1 hf2 hf3 hvne hMr hkey1 hkey2 hl1 hl2 hcells e00 e01 e02 e03 e04 e05 e06 hFr hel e1 e2 HP HMW0 HBST HD HMS HRM cS
    go_upto_region 15 with fail
    refine wp_region_held_drew (S := (fun w' : World => w'.cell? { block := (ar.add (k * 7)).block, off := (ar.add (k * 7)).off + 1 } = some (.int .i64 mc) ∧ w'.cell? { block := (ar.add (k * 7)).block, off := (ar.add (k * 7)).off + 2 } = some (.int .i64 ni) ∧ w'.cell? { block := (ar.add (k * 7)).block, off := (ar.add (k * 7)).off + 3 } = some (.int .i64 nj) ∧ w'.cell? { block := (ar.add (k * 7)).block, off := (ar.add (k * 7)).off + 4 } = some (.string (B na)) ∧ w'.cell? { block := (ar.add (k * 7)).block, off := (ar.add (k * 7)).off + 5 } = some (.bool nr) ∧ w'.cell? { block := (ar.add (k * 7)).block, off := (ar.add (k * 7)).off + 6 } = some (.int .i64 0) ∧ w'.cell? ⟨Bs, 0, none⟩ = some (.int .i64 i) ∧ w'.cell? ⟨Bs, 1, none⟩ = some (.int .i64 j) ∧ w'.cell? ⟨Bs, 2, none⟩ = some (.string (B ah)) ∧ w'.cell? ⟨Bs, 3, none⟩ = some (.bool rt) ∧ w'.cell? ⟨Bs, 4, none⟩ = some (.int .i64 0) ∧ (Instr.lookup 59 (.map (some mb)) (.agg #[.int .i64 ni, .int .i64 nj, .string (B na), .bool nr, .int .i64 0]) false).run Tryz.prog w' = .ok (.int .i64 vn) w' ∧ (Instr.lookup 59 (.map (some mb)) (.agg #[.int .i64 i, .int .i64 j, .string (B ah), .bool rt, .int .i64 0]) false).run Tryz.prog w' = .ok (.int .i64 vs) w')) Tryz.mixed hHeld ?_
    intro _
    refine wpAnyH_take (i := 0) (v := ?_) rfl (by kernel_rfl) (by kernel_rfl) (by kernel_rfl) (fun _ _ _ h => h) (Or.inl ⟨by rfl, ?_⟩) (by assumption) ?_
    rotate_left
    · (intro w hSw; (try dsimp only at hSw); go_split_ands; go_simp; first | done | with_reducible rfl)
    simp only [List.getElem_toArray, List.getElem_cons_succ, List.getElem_cons_zero, Act.put, List.setIfInBounds_toArray, List.set_cons_zero, List.set_cons_succ]
    refine wpAnyH_take (i := 1) (v := ?_) rfl (by kernel_rfl) (by kernel_rfl) (by kernel_rfl) (fun _ _ _ h => h) (Or.inl ⟨by rfl, ?_⟩) (by assumption) ?_
    rotate_left
    · (intro w hSw; (try dsimp only at hSw); go_split_ands; go_simp; first | done | with_reducible rfl)
    simp only [List.getElem_toArray, List.getElem_cons_succ, List.getElem_cons_zero, Act.put, List.setIfInBounds_toArray, List.set_cons_zero, List.set_cons_succ]
    refine wpAnyH_take (i := 2) (v := ?_) rfl (by kernel_rfl) (by kernel_rfl) (by kernel_rfl) (fun _ _ _ h => h) (Or.inl ⟨by rfl, ?_⟩) (by assumption) ?_
    rotate_left
    · (intro w hSw; (try dsimp only at hSw); go_split_ands; go_simp; first | done | with_reducible rfl)
    simp only [List.getElem_toArray, List.getElem_cons_succ, List.getElem_cons_zero, Act.put, List.setIfInBounds_toArray, List.set_cons_zero, List.set_cons_succ]
    refine wpAnyH_take (i := 3) (v := ?_) rfl (by kernel_rfl) (by kernel_rfl) (by kernel_rfl) (fun _ _ _ h => h) (Or.inl ⟨by rfl, ?_⟩) (by assumption) ?_
    rotate_left
    · (intro w hSw; (try dsimp only at hSw); go_split_ands; go_simp; first | done | with_reducible rfl)
    simp only [List.getElem_toArray, List.getElem_cons_succ, List.getElem_cons_zero, Act.put, List.setIfInBounds_toArray, List.set_cons_zero, List.set_cons_succ]
    refine wpAnyH_take (i := 4) (v := ?_) rfl (by kernel_rfl) (by kernel_rfl) (by kernel_rfl) (fun _ _ _ h => h) (Or.inl ⟨by rfl, ?_⟩) (by assumption) ?_
    rotate_left
    · (intro w hSw; (try dsimp only at hSw); go_split_ands; go_simp; first | done | with_reducible rfl)
    simp only [List.getElem_toArray, List.getElem_cons_succ, List.getElem_cons_zero, Act.put, List.setIfInBounds_toArray, List.set_cons_zero, List.set_cons_succ]
    refine wpAnyH_take (i := 5) (v := ?_) rfl (by kernel_rfl) (by kernel_rfl) (by kernel_rfl) (fun _ _ _ h => h) (Or.inl ⟨by rfl, ?_⟩) (by assumption) ?_
    rotate_left
    · (intro w hSw; (try dsimp only at hSw); go_split_ands; go_simp; first | done | with_reducible rfl)
    simp only [List.getElem_toArray, List.getElem_cons_succ, List.getElem_cons_zero, Act.put, List.setIfInBounds_toArray, List.set_cons_zero, List.set_cons_succ]
    refine wpAnyH_take (i := 6) (v := ?_) rfl (by kernel_rfl) (by kernel_rfl) (by kernel_rfl) (fun _ _ _ h => h) (Or.inl ⟨by rfl, ?_⟩) (by assumption) ?_
    rotate_left
    · (intro w hSw; (try dsimp only at hSw); go_split_ands; go_simp; first | done | with_reducible rfl)
    simp only [List.getElem_toArray, List.getElem_cons_succ, List.getElem_cons_zero, Act.put, List.setIfInBounds_toArray, List.set_cons_zero, List.set_cons_succ]
    refine wpAnyH_take (i := 7) (v := ?_) rfl (by kernel_rfl) (by kernel_rfl) (by kernel_rfl) (fun _ _ _ h => h) (Or.inl ⟨by rfl, ?_⟩) (by assumption) ?_
    rotate_left
    · (intro w hSw; (try dsimp only at hSw); go_split_ands; go_simp; first | done | with_reducible rfl)
    simp only [List.getElem_toArray, List.getElem_cons_succ, List.getElem_cons_zero, Act.put, List.setIfInBounds_toArray, List.set_cons_zero, List.set_cons_succ]
    refine wpAnyH_take (i := 8) (v := ?_) rfl (by kernel_rfl) (by kernel_rfl) (by kernel_rfl) (fun _ _ _ h => h) (Or.inl ⟨by rfl, ?_⟩) (by assumption) ?_
    rotate_left
    · (intro w hSw; (try dsimp only at hSw); go_split_ands; go_simp; first | done | with_reducible rfl)
    simp only [List.getElem_toArray, List.getElem_cons_succ, List.getElem_cons_zero, Act.put, List.setIfInBounds_toArray, List.set_cons_zero, List.set_cons_succ]
    refine wpAnyH_take (i := 9) (v := ?_) rfl (by kernel_rfl) (by kernel_rfl) (by kernel_rfl) (fun _ _ _ h => h) (Or.inl ⟨by rfl, ?_⟩) (by assumption) ?_
    rotate_left
    · (intro w hSw; (try dsimp only at hSw); go_split_ands; go_simp; first | done | with_reducible rfl)
    simp only [List.getElem_toArray, List.getElem_cons_succ, List.getElem_cons_zero, Act.put, List.setIfInBounds_toArray, List.set_cons_zero, List.set_cons_succ]
    refine wpAnyH_take (i := 10) (v := ?_) rfl (by kernel_rfl) (by kernel_rfl) (by kernel_rfl) (fun _ _ _ h => h) (Or.inl ⟨by rfl, ?_⟩) (by assumption) ?_
    rotate_left
    · (intro w hSw; (try dsimp only at hSw); go_split_ands; go_simp; first | done | with_reducible rfl)
    simp only [List.getElem_toArray, List.getElem_cons_succ, List.getElem_cons_zero, Act.put, List.setIfInBounds_toArray, List.set_cons_zero, List.set_cons_succ]
    refine wpAnyH_take (i := 11) (v := ?_) rfl (by kernel_rfl) (by kernel_rfl) (by kernel_rfl) (fun _ _ _ h => h) (Or.inl ⟨by rfl, ?_⟩) (by assumption) ?_
    rotate_left
    · (intro w hSw; (try dsimp only at hSw); go_split_ands; go_simp; first | done | with_reducible rfl)
    simp only [List.getElem_toArray, List.getElem_cons_succ, List.getElem_cons_zero, Act.put, List.setIfInBounds_toArray, List.set_cons_zero, List.set_cons_succ]
    refine wpAnyH_take (i := 12) (v := ?_) rfl (by kernel_rfl) (by kernel_rfl) (by kernel_rfl) (fun _ _ _ h => h) (Or.inl ⟨by rfl, ?_⟩) (by assumption) ?_
    rotate_left
    · (intro w hSw; (try dsimp only at hSw); go_split_ands; go_simp; first | done | with_reducible rfl)
    simp only [List.getElem_toArray, List.getElem_cons_succ, List.getElem_cons_zero, Act.put, List.setIfInBounds_toArray, List.set_cons_zero, List.set_cons_succ]
    refine wpAnyH_take (i := 13) (v := ?_) rfl (by kernel_rfl) (by kernel_rfl) (by kernel_rfl) (fun _ _ _ h => h) (Or.inl ⟨by rfl, ?_⟩) (by assumption) ?_
    rotate_left
    · (intro w hSw; (try dsimp only at hSw); go_split_ands; go_simp; first | done | with_reducible rfl)
    simp only [List.getElem_toArray, List.getElem_cons_succ, List.getElem_cons_zero, Act.put, List.setIfInBounds_toArray, List.set_cons_zero, List.set_cons_succ]
    refine wpAnyH_take (i := 14) (v := ?_) rfl (by kernel_rfl) (by kernel_rfl) (by kernel_rfl) (fun _ _ _ h => h) (Or.inl ⟨by rfl, ?_⟩) (by assumption) ?_
    rotate_left
    · (intro w hSw; (try dsimp only at hSw); go_split_ands; go_simp; first | done | with_reducible rfl)
    simp only [List.getElem_toArray, List.getElem_cons_succ, List.getElem_cons_zero, Act.put, List.setIfInBounds_toArray, List.set_cons_zero, List.set_cons_succ]
    refine wpAnyH_take (i := 15) (v := ?_) rfl (by kernel_rfl) (by kernel_rfl) (by kernel_rfl) (fun _ _ _ h => h) (Or.inl ⟨by rfl, ?_⟩) (by assumption) ?_
    rotate_left
    · (intro w hSw; (try dsimp only at hSw); go_split_ands; go_simp; first | done | with_reducible rfl)
    simp only [List.getElem_toArray, List.getElem_cons_succ, List.getElem_cons_zero, Act.put, List.setIfInBounds_toArray, List.set_cons_zero, List.set_cons_succ]
    refine wpAnyH_take (i := 16) (v := ?_) rfl (by kernel_rfl) (by kernel_rfl) (by kernel_rfl) (fun _ _ _ h => h) (Or.inl ⟨by rfl, ?_⟩) (by assumption) ?_
    rotate_left
    · (intro w hSw; (try dsimp only at hSw); go_split_ands; go_simp; first | done | with_reducible rfl)
    simp only [List.getElem_toArray, List.getElem_cons_succ, List.getElem_cons_zero, Act.put, List.setIfInBounds_toArray, List.set_cons_zero, List.set_cons_succ]
    refine wpAnyH_done (by kernel_rfl) ?_ _
    obtain ⟨-, qq2, -, -, -, -, qq7, -⟩ := hHeld
    have rr2 : wr.cell? { block := (ar.add (k * 7)).block, off := (ar.add (k * 7)).off + 2 } = some (.int .i64 ni) := qq2
    have rr7 : wr.cell? ⟨Bs, 0, none⟩ = some (.int .i64 i) := qq7
    clear qq2 qq7
    by_cases heq : mc + vn = vs
    rotate_left
    · have hbe : (mc + vn == vs) = false := beq_eq_false_iff_ne.2 heq
      have HN := Lib.hid (HNE.out heq)
      go_wp2
      go_roundw
      case rel => exact ⟨k + 1, by omega, by simp, Ext.trans hb (below_drewN wr 1), HN.out⟩
      case measure => simp [intOf]; omega
    have hbe : (mc + vn == vs) = true := by simp [heq]
    have HEND := Lib.hid (HNX.out heq)
    clear HNE HNX
    by_cases hgt : i < ni
    · have hgt' : (i : Int) < ni := by omega
      go_upto_region 16 with fail
      go_quiet (fail)
      go_upto_region 17 with fail
      have hxu : Ext wr (wr.drew.drewN nq) := Ext.trans (below_drewN wr 1) (below_drewN _ _)
      obtain ⟨Wu, hWu⟩ : ∃ Wu, (wr.drew.drewN nq) = Wu := ⟨_, rfl⟩
      rw [hWu] at hxu ⊢
      clear hWu
      have hBu := hB.grow hxu
      have hownd : Wu.drew.ownsRow W5.heap.size 3 1 vL d.left.length (intVs d.left) := hBu.left
      have hszd2 : W5.heap.size ≤ Wu.drew.heap.size := hBu.ext.size
      have hlen2 : (d.left.length + 1) * 8 ≤ 140737488355328 := by omega
      have cD0 : ∀ i, Wu.cell? ⟨Bd, i, none⟩ = #[Value.int .i64 d.cost, vL, vR, .string (B d.form)][i]? := cell_of hBu.der
      have cD1 := cD0 1
      have cD4 : ∀ o, (Wu.alloc o).cell? ⟨Bd, 1, none⟩ = some vL := fun o => cell_of (block_ext hBu.der (Ext.new _ o)) 1
      have hcu := HMC0.out _ hxu
      have HMV : Hid (∀ w5, Mod (fun k => vL.ownBlock = some k) Wu w5 → _) := Lib.hid (fun w5 hm => HKC.out w5 _ (Mod.mono hm (fun k _ h => (ownsRow_block hB0.left h).2.1)) hcu)
      have HSA : Hid (∀ w5, Mod (fun k => vL.ownBlock = some k) Wu.drew w5 → (fun w' : World => w'.cell? (ar.add (k * 7)) = some (.int .i64 idx)) w5 ∧ (∀ i, w5.cell? ⟨Bd, i, none⟩ = #[Value.int .i64 d.cost, vL, vR, .string (B d.form)][i]?) ∧ (∀ i, w5.frozen? ⟨Bd, i, none⟩ = false)) := Lib.hid (fun w5 hm => by
        have b1 := block_keep (w := Wu.drew) hBu.der hm (fun h => own_far hBu.left h hBu.der (by decide) rfl)
        exact ⟨(HMV.out w5 (((Mod.refl _ Wu).drew).trans hm)).1, cell_of b1, frozen_of b1⟩)
      have HSK : Hid (∀ w' : World, w'.heap[(ar.add (k * 7)).block]? = Wu.heap[(ar.add (k * 7)).block]? → (fun w' : World => w'.cell? (ar.add (k * 7)) = some (.int .i64 idx)) w') := Lib.hid (fun w' h => (cell_same h).trans hcu.1)
      have HPL := Lib.hid (show (ar.add (k * 7)).block < Wu.drew.heap.size from World.block_lt_of_cell? Wu _ hcu.1)
      have HSS : Hid (∀ (w' : World) (o : Nat) (z : Value), (fun w' : World => w'.cell? (ar.add (k * 7)) = some (.int .i64 idx)) w' → (fun w' : World => w'.cell? (ar.add (k * 7)) = some (.int .i64 idx)) (w'.setCell ⟨Bd, o, none⟩ z)) := Lib.hid (fun w' o z h => (World.cell?_setCell_far _ _ _ _ (fun e => by have := HGE.out; have e2 : Bd = (ar.add (k * 7)).block := e; rw [addr_block] at e2; omega)).trans h)
      have HTK : Hid (takeS d ⟨i, j, ah, rt⟩ (⟨idx, mc, mf, mt⟩, ⟨ni, nj, na, nr⟩) = { d with left := d.left ++ [(idx : Int)], form := d.form ++ mt }) := Lib.hid (by unfold takeS; rw [if_pos (by simpa using hgt)])
      have hHeld : (fun w' : World => w'.cell? (ar.add (k * 7)) = some (.int .i64 idx)) Wu.drew := hcu.1
      clear hcu
      go_upto_region 17 with fail
      refine wp_region_held_drew (S := (fun w' : World => w'.cell? (ar.add (k * 7)) = some (.int .i64 idx))) Tryz.mixed hHeld ?_
      intro _
      refine wpAnyH_take (i := 0) (v := ?_) rfl (by kernel_rfl) (by kernel_rfl) (by kernel_rfl) (fun _ _ _ h => h) (Or.inl ⟨by rfl, ?_⟩) (by assumption) ?_
      rotate_left
      · (intro w hSw; (try dsimp only at hSw); go_split_ands; go_simp; first | done | with_reducible rfl)
      simp only [List.getElem_toArray, List.getElem_cons_succ, List.getElem_cons_zero, Act.put, List.setIfInBounds_toArray, List.set_cons_zero, List.set_cons_succ]
      refine wpAnyH_take (i := 2) (v := ?_) rfl (by kernel_rfl) (by kernel_rfl) (by kernel_rfl) (fun _ _ _ h => h) (Or.inl ⟨by rfl, ?_⟩) (by assumption) ?_
      rotate_left
      · (intro w hSw; (try dsimp only at hSw); go_split_ands; go_simp; first | done | with_reducible rfl)
      simp only [List.getElem_toArray, List.getElem_cons_succ, List.getElem_cons_zero, Act.put, List.setIfInBounds_toArray, List.set_cons_zero, List.set_cons_succ]
      refine wpAnyH_take (i := 3) (v := ?_) rfl (by kernel_rfl) (by kernel_rfl) (by kernel_rfl) (fun _ _ _ h => h) (Or.inl ⟨by rfl, ?_⟩) (by assumption) ?_
      rotate_left
      · (intro w hSw; (try dsimp only at hSw); go_split_ands; go_simp; first | done | with_reducible rfl)
      simp only [List.getElem_toArray, List.getElem_cons_succ, List.getElem_cons_zero, Act.put, List.setIfInBounds_toArray, List.set_cons_zero, List.set_cons_succ]
      refine wpAnyH_take (i := 4) (v := ?_) rfl (by kernel_rfl) (by kernel_rfl) (by kernel_rfl) (fun _ _ _ h => h) (Or.inl ⟨by rfl, ?_⟩) (by assumption) ?_
      rotate_left
      · (intro w hSw; (try dsimp only at hSw); go_split_ands; go_simp; first | done | with_reducible rfl)
      simp only [List.getElem_toArray, List.getElem_cons_succ, List.getElem_cons_zero, Act.put, List.setIfInBounds_toArray, List.set_cons_zero, List.set_cons_succ]
      refine wpAnyH_take (i := 5) (v := ?_) rfl (by kernel_rfl) (by kernel_rfl) (by kernel_rfl) (fun _ _ _ h => h) (Or.inl ⟨by rfl, ?_⟩) (by assumption) ?_
      rotate_left
      · (intro w hSw; (try dsimp only at hSw); go_split_ands; go_simp; first | done | with_reducible rfl)
      simp only [List.getElem_toArray, List.getElem_cons_succ, List.getElem_cons_zero, Act.put, List.setIfInBounds_toArray, List.set_cons_zero, List.set_cons_succ]
      refine wpAnyH_take (i := 6) (v := ?_) rfl (by kernel_rfl) (by kernel_rfl) (by kernel_rfl) (fun _ _ _ h => h) (Or.inl ⟨by rfl, ?_⟩) (by assumption) ?_
      rotate_left
      · (intro w hSw; (try dsimp only at hSw); go_split_ands; go_simp; first | done | with_reducible rfl)
      simp only [List.getElem_toArray, List.getElem_cons_succ, List.getElem_cons_zero, Act.put, List.setIfInBounds_toArray, List.set_cons_zero, List.set_cons_succ]
      refine wpAnyH_ready (rs := [1, 7]) (by kernel_rfl) (by simp) ?_
      refine AllReadyH.cons rfl (fun K hK => ?_) ?_
      · go_simp
        refine hK.out _ _ ?_ (fun hHeld => ?_)
        · first | exact hHeld | exact g1 | exact HSK.out _ (Below.heap_alloc _ _ _ HPL.out) | exact HSS.out _ _ _ g1
        clear hK K
        refine wpAnyH_ready (rs := [7]) (by kernel_rfl) (by simp) ?_
        refine AllReadyH.cons rfl (fun K hK => ?_) ?_
        · go_simp
          refine hK.out _ _ ?_ (fun hHeld => ?_)
          · first | exact hHeld | exact g1 | exact HSK.out _ (Below.heap_alloc _ _ _ HPL.out) | exact HSS.out _ _ _ g1
          clear hK K
          refine wpAnyH_ready (rs := [8]) (by kernel_rfl) (by simp) ?_
          refine AllReadyH.cons rfl (fun K hK => ?_) ?_
          · (refine step_app1 (W := Wu.drew) W5.heap.size (.tmp 114) (.tmp 120) 26 3 (.int .i64 0) 1 8 rfl Tryz.underlying26 Tryz.info_int rfl (by decide) (by decide) vL d.left.length (intVs d.left) [.int .i64 idx] rfl rfl rfl (by simp [Value.oneCell']) hownd hszd2 hlen2 rfl ?_; intro z1 w5 hA; obtain ⟨gg, cap1, rfl⟩ := ownsRow_succ hA.own; obtain ⟨g1, g2, g3⟩ := HSA.out _ hA.mod; have g2' := g2 1; have g3' := g3 1)
            refine hK.out _ _ ?_ (fun hHeld => ?_)
            · first | exact hHeld | exact g1 | exact HSK.out _ (Below.heap_alloc _ _ _ HPL.out) | exact HSS.out _ _ _ g1
            clear hK K
            refine wpAnyH_take (i := 9) (v := ?_) rfl (by kernel_rfl) (by kernel_rfl) (by kernel_rfl) (fun _ _ _ h => h) (Or.inl ⟨by rfl, ?_⟩) (by assumption) ?_
            rotate_left
            · (intro w hSw; (try dsimp only at hSw); go_split_ands; go_simp; first | done | with_reducible rfl)
            simp only [List.getElem_toArray, List.getElem_cons_succ, List.getElem_cons_zero, Act.put, List.setIfInBounds_toArray, List.set_cons_zero, List.set_cons_succ]
            refine wpAnyH_ready (rs := [10]) (by kernel_rfl) (by simp) ?_
            refine AllReadyH.cons rfl (fun K hK => ?_) ?_
            · go_simp
              refine hK.out _ _ ?_ (fun hHeld => ?_)
              · first | exact hHeld | exact g1 | exact HSK.out _ (Below.heap_alloc _ _ _ HPL.out) | exact HSS.out _ _ _ g1
              clear hK K
              refine wpAnyH_done (by kernel_rfl) ?_ _
              clear hHeld
              have hBl := hBu.appLeft hBd (((Mod.refl _ Wu).drew).trans hA.mod) hA.own hA.loc
              have hcl := HMC.out _ _ ((Mod.refl (fun k => k = Bd) _).setCell (p := ⟨Bd, 1, none⟩) (.inl rfl) (.slice (some ⟨gg, 0, none⟩) (d.left.length + 1) cap1)) (HMV.out w5 (((Mod.refl _ Wu).drew).trans hA.mod))
              obtain ⟨Wl, hWl⟩ : ∃ Wl, (w5.setCell ⟨Bd, 1, none⟩ (.slice (some ⟨gg, 0, none⟩) (d.left.length + 1) cap1)) = Wl := ⟨_, rfl⟩
              rw [hWl] at hBl hcl ⊢
              clear hWl g1 g2 g3 g2' g3' hA
              have cD3 : Wl.cell? ⟨Bd, 3, none⟩ = some (.string (B d.form)) := cell_of hBl.der 3
              have fD3 := frozen_of hBl.der 3
              have hHeld : (fun w' : World => w'.cell? (ar.add (k * 7)) = some (.int .i64 idx) ∧ w'.cell? ⟨w.heap.size, 0, none⟩ = some (.slice (some ar0) t.rules.length q1) ∧ w'.cell? { block := (ar0.add (idx * 4)).block, off := (ar0.add (idx * 4)).off + 2 } = some (.string (B mt))) Wl.drew := ⟨hcl.1, HTB.out _ (Ext.trans hBl.ext (below_drewN Wl 1)), HRT5.out _ (Ext.trans hBl.ext (below_drewN Wl 1))⟩
              have happ : B d.form ++ B mt = B (d.form ++ mt) := by apply ByteArray.ext; simp [B]
              have hsz3 : (B d.form).size = d.form.length := rfl
              have hsz4 : (B mt).size = mt.length := rfl
              have hbig2 : ¬ (9223372036854775807 < d.form.length + mt.length) := by omega
              go_upto_region 18 with fail
              refine wp_region_held_drew (S := (fun w' : World => w'.cell? (ar.add (k * 7)) = some (.int .i64 idx) ∧ w'.cell? ⟨w.heap.size, 0, none⟩ = some (.slice (some ar0) t.rules.length q1) ∧ w'.cell? { block := (ar0.add (idx * 4)).block, off := (ar0.add (idx * 4)).off + 2 } = some (.string (B mt)))) Tryz.mixed hHeld ?_
              intro _
              have hBl := hBl.grow (below_drewN Wl 1)
              have hcl := HMC.out Wl.drew _ ((Mod.refl _ Wl).drew) hcl
              obtain ⟨Wl2, hWl2⟩ : ∃ Wl2, Wl.drew = Wl2 := ⟨_, rfl⟩
              have hdr : Wl.drewN 1 = Wl.drew := rfl
              rw [hdr] at hBl
              rw [hWl2] at hBl hcl hHeld ⊢
              clear hWl2 hdr
              rename_i hh0
              clear hh0
              clear cD3 fD3
              rename World => Wl
              have cD3 : Wl.cell? ⟨Bd, 3, none⟩ = some (.string (B d.form)) := cell_of hBl.der 3
              have fD3 := frozen_of hBl.der 3
              refine wpAnyH_take (i := 0) (v := ?_) rfl (by kernel_rfl) (by kernel_rfl) (by kernel_rfl) (fun _ _ _ h => h) (Or.inl ⟨by rfl, ?_⟩) (by assumption) ?_
              rotate_left
              · (intro w hSw; (try dsimp only at hSw); go_split_ands; go_simp; first | done | with_reducible rfl)
              simp only [List.getElem_toArray, List.getElem_cons_succ, List.getElem_cons_zero, Act.put, List.setIfInBounds_toArray, List.set_cons_zero, List.set_cons_succ]
              refine wpAnyH_take (i := 2) (v := ?_) rfl (by kernel_rfl) (by kernel_rfl) (by kernel_rfl) (fun _ _ _ h => h) (Or.inl ⟨by rfl, ?_⟩) (by assumption) ?_
              rotate_left
              · (intro w hSw; (try dsimp only at hSw); go_split_ands; go_simp; first | done | with_reducible rfl)
              simp only [List.getElem_toArray, List.getElem_cons_succ, List.getElem_cons_zero, Act.put, List.setIfInBounds_toArray, List.set_cons_zero, List.set_cons_succ]
              refine wpAnyH_take (i := 3) (v := ?_) rfl (by kernel_rfl) (by kernel_rfl) (by kernel_rfl) (fun _ _ _ h => h) (Or.inl ⟨by rfl, ?_⟩) (by assumption) ?_
              rotate_left
              · (intro w hSw; (try dsimp only at hSw); go_split_ands; go_simp; first | done | with_reducible rfl)
              simp only [List.getElem_toArray, List.getElem_cons_succ, List.getElem_cons_zero, Act.put, List.setIfInBounds_toArray, List.set_cons_zero, List.set_cons_succ]
              refine wpAnyH_take (i := 4) (v := ?_) rfl (by kernel_rfl) (by kernel_rfl) (by kernel_rfl) (fun _ _ _ h => h) (Or.inl ⟨by rfl, ?_⟩) (by assumption) ?_
              rotate_left
              · (intro w hSw; (try dsimp only at hSw); go_split_ands; go_simp; first | done | with_reducible rfl)
              simp only [List.getElem_toArray, List.getElem_cons_succ, List.getElem_cons_zero, Act.put, List.setIfInBounds_toArray, List.set_cons_zero, List.set_cons_succ]
              refine wpAnyH_take (i := 5) (v := ?_) rfl (by kernel_rfl) (by kernel_rfl) (by kernel_rfl) (fun _ _ _ h => h) (Or.inl ⟨by rfl, ?_⟩) (by assumption) ?_
              rotate_left
              · (intro w hSw; (try dsimp only at hSw); go_split_ands; go_simp; first | done | with_reducible rfl)
              simp only [List.getElem_toArray, List.getElem_cons_succ, List.getElem_cons_zero, Act.put, List.setIfInBounds_toArray, List.set_cons_zero, List.set_cons_succ]
              refine wpAnyH_take (i := 6) (v := ?_) rfl (by kernel_rfl) (by kernel_rfl) (by kernel_rfl) (fun _ _ _ h => h) (Or.inl ⟨by rfl, ?_⟩) (by assumption) ?_
              rotate_left
              · (intro w hSw; (try dsimp only at hSw); go_split_ands; go_simp; first | done | with_reducible rfl)
              simp only [List.getElem_toArray, List.getElem_cons_succ, List.getElem_cons_zero, Act.put, List.setIfInBounds_toArray, List.set_cons_zero, List.set_cons_succ]
              refine wpAnyH_take (i := 7) (v := ?_) rfl (by kernel_rfl) (by kernel_rfl) (by kernel_rfl) (fun _ _ _ h => h) (Or.inl ⟨by rfl, ?_⟩) (by assumption) ?_
              rotate_left
              · (intro w hSw; (try dsimp only at hSw); go_split_ands; go_simp; first | done | with_reducible rfl)
              simp only [List.getElem_toArray, List.getElem_cons_succ, List.getElem_cons_zero, Act.put, List.setIfInBounds_toArray, List.set_cons_zero, List.set_cons_succ]
              refine wpAnyH_take (i := 8) (v := ?_) rfl (by kernel_rfl) (by kernel_rfl) (by kernel_rfl) (fun _ _ _ h => h) (Or.inl ⟨by rfl, ?_⟩) (by assumption) ?_
              rotate_left
              · (intro w hSw; (try dsimp only at hSw); go_split_ands; go_simp; first | done | with_reducible rfl)
              simp only [List.getElem_toArray, List.getElem_cons_succ, List.getElem_cons_zero, Act.put, List.setIfInBounds_toArray, List.set_cons_zero, List.set_cons_succ]
              refine wpAnyH_take (i := 9) (v := ?_) rfl (by kernel_rfl) (by kernel_rfl) (by kernel_rfl) (fun _ _ _ h => h) (Or.inl ⟨by rfl, ?_⟩) (by assumption) ?_
              rotate_left
              · (intro w hSw; (try dsimp only at hSw); go_split_ands; go_simp; first | done | with_reducible rfl)
              simp only [List.getElem_toArray, List.getElem_cons_succ, List.getElem_cons_zero, Act.put, List.setIfInBounds_toArray, List.set_cons_zero, List.set_cons_succ]
              refine wpAnyH_take (i := 10) (v := ?_) rfl (by kernel_rfl) (by kernel_rfl) (by kernel_rfl) (fun _ _ _ h => h) (Or.inl ⟨by rfl, ?_⟩) (by assumption) ?_
              rotate_left
              · (intro w hSw; (try dsimp only at hSw); go_split_ands; go_simp; first | done | with_reducible rfl)
              simp only [List.getElem_toArray, List.getElem_cons_succ, List.getElem_cons_zero, Act.put, List.setIfInBounds_toArray, List.set_cons_zero, List.set_cons_succ]
              refine wpAnyH_take (i := 11) (v := ?_) rfl (by kernel_rfl) (by kernel_rfl) (by kernel_rfl) (fun _ _ _ h => h) (Or.inl ⟨by rfl, ?_⟩) (by assumption) ?_
              rotate_left
              · (intro w hSw; (try dsimp only at hSw); go_split_ands; go_simp; first | done | with_reducible rfl)
              simp only [List.getElem_toArray, List.getElem_cons_succ, List.getElem_cons_zero, Act.put, List.setIfInBounds_toArray, List.set_cons_zero, List.set_cons_succ]
              refine wpAnyH_ready (rs := [1]) (by kernel_rfl) (by simp) ?_
              refine AllReadyH.cons rfl (fun K hK => ?_) ?_
              · go_simp
                refine hK.out _ _ ?_ (fun hHeld => ?_)
                · first | exact hHeld | exact HSS8.out _ _ hHeld
                clear hK K
                refine wpAnyH_take (i := 12) (v := ?_) rfl (by kernel_rfl) (by kernel_rfl) (by kernel_rfl) (fun _ _ _ h => h) (Or.inl ⟨by rfl, ?_⟩) (by assumption) ?_
                rotate_left
                · (intro w hSw; (try dsimp only at hSw); go_split_ands; go_simp; first | done | with_reducible rfl)
                simp only [List.getElem_toArray, List.getElem_cons_succ, List.getElem_cons_zero, Act.put, List.setIfInBounds_toArray, List.set_cons_zero, List.set_cons_succ]
                refine wpAnyH_take (i := 13) (v := ?_) rfl (by kernel_rfl) (by kernel_rfl) (by kernel_rfl) (fun _ _ _ h => h) (Or.inl ⟨by rfl, ?_⟩) (by assumption) ?_
                rotate_left
                · (intro w hSw; (try dsimp only at hSw); go_split_ands; go_simp; first | done | with_reducible rfl)
                simp only [List.getElem_toArray, List.getElem_cons_succ, List.getElem_cons_zero, Act.put, List.setIfInBounds_toArray, List.set_cons_zero, List.set_cons_succ]
                refine wpAnyH_ready (rs := [14]) (by kernel_rfl) (by simp) ?_
                refine AllReadyH.cons rfl (fun K hK => ?_) ?_
                · go_simp
                  refine hK.out _ _ ?_ (fun hHeld => ?_)
                  · first | exact hHeld | exact HSS8.out _ _ hHeld
                  clear hK K
                  refine wpAnyH_done (by kernel_rfl) ?_ _
                  clear hHeld
                  have hBm := hBl.setForm hBd (d.form ++ mt)
                  obtain ⟨Wm, hWm⟩ : ∃ Wm, (Wl.setCell ⟨Bd, 3, none⟩ (.string (B (d.form ++ mt)))) = Wm := ⟨_, rfl⟩
                  have hcm := HMC.out Wm _ (by rw [← hWm]; exact (Mod.refl (fun k => k = Bd) Wl).setCell (p := ⟨Bd, 3, none⟩) (.inl rfl) _) hcl
                  rw [hWm] at hBm ⊢
                  clear hWm hBl hcl fD3 cD3
                  obtain ⟨n0, n2, n3, n4, n5, n6⟩ := hcm
                  have cS5 := cell_of hBm.st
                  have fS5 := frozen_of hBm.st
                  simp only [pVals] at cS5
                  go_wp2
                  go_roundg (remS (sideL t a ls) (sideL t b rs) ⟨ni, nj, na, nr⟩ + 1)
                  case measure => exact HLT.out
                  case rel => exact HEND.out _ _ _ _ (hBm.setSt hBs ⟨ni, nj, na, nr⟩) HTK.out
                exact AllReadyH.nil
              exact AllReadyH.nil
            exact AllReadyH.nil
          exact AllReadyH.nil
        exact AllReadyH.nil
      refine AllReadyH.cons rfl (fun K hK => ?_) ?_
      · go_simp
        refine hK.out _ _ ?_ (fun hHeld => ?_)
        · first | exact hHeld | exact g1 | exact HSK.out _ (Below.heap_alloc _ _ _ HPL.out) | exact HSS.out _ _ _ g1
        clear hK K
        refine wpAnyH_ready (rs := [1]) (by kernel_rfl) (by simp) ?_
        refine AllReadyH.cons rfl (fun K hK => ?_) ?_
        · go_simp
          refine hK.out _ _ ?_ (fun hHeld => ?_)
          · first | exact hHeld | exact g1 | exact HSK.out _ (Below.heap_alloc _ _ _ HPL.out) | exact HSS.out _ _ _ g1
          clear hK K
          refine wpAnyH_ready (rs := [8]) (by kernel_rfl) (by simp) ?_
          refine AllReadyH.cons rfl (fun K hK => ?_) ?_
          · (refine step_app1 (W := Wu.drew) W5.heap.size (.tmp 114) (.tmp 120) 26 3 (.int .i64 0) 1 8 rfl Tryz.underlying26 Tryz.info_int rfl (by decide) (by decide) vL d.left.length (intVs d.left) [.int .i64 idx] rfl rfl rfl (by simp [Value.oneCell']) hownd hszd2 hlen2 rfl ?_; intro z1 w5 hA; obtain ⟨gg, cap1, rfl⟩ := ownsRow_succ hA.own; obtain ⟨g1, g2, g3⟩ := HSA.out _ hA.mod; have g2' := g2 1; have g3' := g3 1)
            refine hK.out _ _ ?_ (fun hHeld => ?_)
            · first | exact hHeld | exact g1 | exact HSK.out _ (Below.heap_alloc _ _ _ HPL.out) | exact HSS.out _ _ _ g1
            clear hK K
            refine wpAnyH_take (i := 9) (v := ?_) rfl (by kernel_rfl) (by kernel_rfl) (by kernel_rfl) (fun _ _ _ h => h) (Or.inl ⟨by rfl, ?_⟩) (by assumption) ?_
            rotate_left
            · (intro w hSw; (try dsimp only at hSw); go_split_ands; go_simp; first | done | with_reducible rfl)
            simp only [List.getElem_toArray, List.getElem_cons_succ, List.getElem_cons_zero, Act.put, List.setIfInBounds_toArray, List.set_cons_zero, List.set_cons_succ]
            refine wpAnyH_ready (rs := [10]) (by kernel_rfl) (by simp) ?_
            refine AllReadyH.cons rfl (fun K hK => ?_) ?_
            · go_simp
              refine hK.out _ _ ?_ (fun hHeld => ?_)
              · first | exact hHeld | exact g1 | exact HSK.out _ (Below.heap_alloc _ _ _ HPL.out) | exact HSS.out _ _ _ g1
              clear hK K
              refine wpAnyH_done (by kernel_rfl) ?_ _
              clear hHeld
              have hBl := hBu.appLeft hBd (((Mod.refl _ Wu).drew).trans hA.mod) hA.own hA.loc
              have hcl := HMC.out _ _ ((Mod.refl (fun k => k = Bd) _).setCell (p := ⟨Bd, 1, none⟩) (.inl rfl) (.slice (some ⟨gg, 0, none⟩) (d.left.length + 1) cap1)) (HMV.out w5 (((Mod.refl _ Wu).drew).trans hA.mod))
              obtain ⟨Wl, hWl⟩ : ∃ Wl, (w5.setCell ⟨Bd, 1, none⟩ (.slice (some ⟨gg, 0, none⟩) (d.left.length + 1) cap1)) = Wl := ⟨_, rfl⟩
              rw [hWl] at hBl hcl ⊢
              clear hWl g1 g2 g3 g2' g3' hA
              have cD3 : Wl.cell? ⟨Bd, 3, none⟩ = some (.string (B d.form)) := cell_of hBl.der 3
              have fD3 := frozen_of hBl.der 3
              have hHeld : (fun w' : World => w'.cell? (ar.add (k * 7)) = some (.int .i64 idx) ∧ w'.cell? ⟨w.heap.size, 0, none⟩ = some (.slice (some ar0) t.rules.length q1) ∧ w'.cell? { block := (ar0.add (idx * 4)).block, off := (ar0.add (idx * 4)).off + 2 } = some (.string (B mt))) Wl.drew := ⟨hcl.1, HTB.out _ (Ext.trans hBl.ext (below_drewN Wl 1)), HRT5.out _ (Ext.trans hBl.ext (below_drewN Wl 1))⟩
              have happ : B d.form ++ B mt = B (d.form ++ mt) := by apply ByteArray.ext; simp [B]
              have hsz3 : (B d.form).size = d.form.length := rfl
              have hsz4 : (B mt).size = mt.length := rfl
              have hbig2 : ¬ (9223372036854775807 < d.form.length + mt.length) := by omega
              go_upto_region 18 with fail
              refine wp_region_held_drew (S := (fun w' : World => w'.cell? (ar.add (k * 7)) = some (.int .i64 idx) ∧ w'.cell? ⟨w.heap.size, 0, none⟩ = some (.slice (some ar0) t.rules.length q1) ∧ w'.cell? { block := (ar0.add (idx * 4)).block, off := (ar0.add (idx * 4)).off + 2 } = some (.string (B mt)))) Tryz.mixed hHeld ?_
              intro _
              have hBl := hBl.grow (below_drewN Wl 1)
              have hcl := HMC.out Wl.drew _ ((Mod.refl _ Wl).drew) hcl
              obtain ⟨Wl2, hWl2⟩ : ∃ Wl2, Wl.drew = Wl2 := ⟨_, rfl⟩
              have hdr : Wl.drewN 1 = Wl.drew := rfl
              rw [hdr] at hBl
              rw [hWl2] at hBl hcl hHeld ⊢
              clear hWl2 hdr
              rename_i hh0
              clear hh0
              clear cD3 fD3
              rename World => Wl
              have cD3 : Wl.cell? ⟨Bd, 3, none⟩ = some (.string (B d.form)) := cell_of hBl.der 3
              have fD3 := frozen_of hBl.der 3
              refine wpAnyH_take (i := 0) (v := ?_) rfl (by kernel_rfl) (by kernel_rfl) (by kernel_rfl) (fun _ _ _ h => h) (Or.inl ⟨by rfl, ?_⟩) (by assumption) ?_
              rotate_left
              · (intro w hSw; (try dsimp only at hSw); go_split_ands; go_simp; first | done | with_reducible rfl)
              simp only [List.getElem_toArray, List.getElem_cons_succ, List.getElem_cons_zero, Act.put, List.setIfInBounds_toArray, List.set_cons_zero, List.set_cons_succ]
              refine wpAnyH_take (i := 2) (v := ?_) rfl (by kernel_rfl) (by kernel_rfl) (by kernel_rfl) (fun _ _ _ h => h) (Or.inl ⟨by rfl, ?_⟩) (by assumption) ?_
              rotate_left
              · (intro w hSw; (try dsimp only at hSw); go_split_ands; go_simp; first | done | with_reducible rfl)
              simp only [List.getElem_toArray, List.getElem_cons_succ, List.getElem_cons_zero, Act.put, List.setIfInBounds_toArray, List.set_cons_zero, List.set_cons_succ]
              refine wpAnyH_take (i := 3) (v := ?_) rfl (by kernel_rfl) (by kernel_rfl) (by kernel_rfl) (fun _ _ _ h => h) (Or.inl ⟨by rfl, ?_⟩) (by assumption) ?_
              rotate_left
              · (intro w hSw; (try dsimp only at hSw); go_split_ands; go_simp; first | done | with_reducible rfl)
              simp only [List.getElem_toArray, List.getElem_cons_succ, List.getElem_cons_zero, Act.put, List.setIfInBounds_toArray, List.set_cons_zero, List.set_cons_succ]
              refine wpAnyH_take (i := 4) (v := ?_) rfl (by kernel_rfl) (by kernel_rfl) (by kernel_rfl) (fun _ _ _ h => h) (Or.inl ⟨by rfl, ?_⟩) (by assumption) ?_
              rotate_left
              · (intro w hSw; (try dsimp only at hSw); go_split_ands; go_simp; first | done | with_reducible rfl)
              simp only [List.getElem_toArray, List.getElem_cons_succ, List.getElem_cons_zero, Act.put, List.setIfInBounds_toArray, List.set_cons_zero, List.set_cons_succ]
              refine wpAnyH_take (i := 5) (v := ?_) rfl (by kernel_rfl) (by kernel_rfl) (by kernel_rfl) (fun _ _ _ h => h) (Or.inl ⟨by rfl, ?_⟩) (by assumption) ?_
              rotate_left
              · (intro w hSw; (try dsimp only at hSw); go_split_ands; go_simp; first | done | with_reducible rfl)
              simp only [List.getElem_toArray, List.getElem_cons_succ, List.getElem_cons_zero, Act.put, List.setIfInBounds_toArray, List.set_cons_zero, List.set_cons_succ]
              refine wpAnyH_take (i := 6) (v := ?_) rfl (by kernel_rfl) (by kernel_rfl) (by kernel_rfl) (fun _ _ _ h => h) (Or.inl ⟨by rfl, ?_⟩) (by assumption) ?_
              rotate_left
              · (intro w hSw; (try dsimp only at hSw); go_split_ands; go_simp; first | done | with_reducible rfl)
              simp only [List.getElem_toArray, List.getElem_cons_succ, List.getElem_cons_zero, Act.put, List.setIfInBounds_toArray, List.set_cons_zero, List.set_cons_succ]
              refine wpAnyH_take (i := 7) (v := ?_) rfl (by kernel_rfl) (by kernel_rfl) (by kernel_rfl) (fun _ _ _ h => h) (Or.inl ⟨by rfl, ?_⟩) (by assumption) ?_
              rotate_left
              · (intro w hSw; (try dsimp only at hSw); go_split_ands; go_simp; first | done | with_reducible rfl)
              simp only [List.getElem_toArray, List.getElem_cons_succ, List.getElem_cons_zero, Act.put, List.setIfInBounds_toArray, List.set_cons_zero, List.set_cons_succ]
              refine wpAnyH_take (i := 8) (v := ?_) rfl (by kernel_rfl) (by kernel_rfl) (by kernel_rfl) (fun _ _ _ h => h) (Or.inl ⟨by rfl, ?_⟩) (by assumption) ?_
              rotate_left
              · (intro w hSw; (try dsimp only at hSw); go_split_ands; go_simp; first | done | with_reducible rfl)
              simp only [List.getElem_toArray, List.getElem_cons_succ, List.getElem_cons_zero, Act.put, List.setIfInBounds_toArray, List.set_cons_zero, List.set_cons_succ]
              refine wpAnyH_take (i := 9) (v := ?_) rfl (by kernel_rfl) (by kernel_rfl) (by kernel_rfl) (fun _ _ _ h => h) (Or.inl ⟨by rfl, ?_⟩) (by assumption) ?_
              rotate_left
              · (intro w hSw; (try dsimp only at hSw); go_split_ands; go_simp; first | done | with_reducible rfl)
              simp only [List.getElem_toArray, List.getElem_cons_succ, List.getElem_cons_zero, Act.put, List.setIfInBounds_toArray, List.set_cons_zero, List.set_cons_succ]
              refine wpAnyH_take (i := 10) (v := ?_) rfl (by kernel_rfl) (by kernel_rfl) (by kernel_rfl) (fun _ _ _ h => h) (Or.inl ⟨by rfl, ?_⟩) (by assumption) ?_
              rotate_left
              · (intro w hSw; (try dsimp only at hSw); go_split_ands; go_simp; first | done | with_reducible rfl)
              simp only [List.getElem_toArray, List.getElem_cons_succ, List.getElem_cons_zero, Act.put, List.setIfInBounds_toArray, List.set_cons_zero, List.set_cons_succ]
              refine wpAnyH_take (i := 11) (v := ?_) rfl (by kernel_rfl) (by kernel_rfl) (by kernel_rfl) (fun _ _ _ h => h) (Or.inl ⟨by rfl, ?_⟩) (by assumption) ?_
              rotate_left
              · (intro w hSw; (try dsimp only at hSw); go_split_ands; go_simp; first | done | with_reducible rfl)
              simp only [List.getElem_toArray, List.getElem_cons_succ, List.getElem_cons_zero, Act.put, List.setIfInBounds_toArray, List.set_cons_zero, List.set_cons_succ]
              refine wpAnyH_ready (rs := [1]) (by kernel_rfl) (by simp) ?_
              refine AllReadyH.cons rfl (fun K hK => ?_) ?_
              · go_simp
                refine hK.out _ _ ?_ (fun hHeld => ?_)
                · first | exact hHeld | exact HSS8.out _ _ hHeld
                clear hK K
                refine wpAnyH_take (i := 12) (v := ?_) rfl (by kernel_rfl) (by kernel_rfl) (by kernel_rfl) (fun _ _ _ h => h) (Or.inl ⟨by rfl, ?_⟩) (by assumption) ?_
                rotate_left
                · (intro w hSw; (try dsimp only at hSw); go_split_ands; go_simp; first | done | with_reducible rfl)
                simp only [List.getElem_toArray, List.getElem_cons_succ, List.getElem_cons_zero, Act.put, List.setIfInBounds_toArray, List.set_cons_zero, List.set_cons_succ]
                refine wpAnyH_take (i := 13) (v := ?_) rfl (by kernel_rfl) (by kernel_rfl) (by kernel_rfl) (fun _ _ _ h => h) (Or.inl ⟨by rfl, ?_⟩) (by assumption) ?_
                rotate_left
                · (intro w hSw; (try dsimp only at hSw); go_split_ands; go_simp; first | done | with_reducible rfl)
                simp only [List.getElem_toArray, List.getElem_cons_succ, List.getElem_cons_zero, Act.put, List.setIfInBounds_toArray, List.set_cons_zero, List.set_cons_succ]
                refine wpAnyH_ready (rs := [14]) (by kernel_rfl) (by simp) ?_
                refine AllReadyH.cons rfl (fun K hK => ?_) ?_
                · go_simp
                  refine hK.out _ _ ?_ (fun hHeld => ?_)
                  · first | exact hHeld | exact HSS8.out _ _ hHeld
                  clear hK K
                  refine wpAnyH_done (by kernel_rfl) ?_ _
                  clear hHeld
                  have hBm := hBl.setForm hBd (d.form ++ mt)
                  obtain ⟨Wm, hWm⟩ : ∃ Wm, (Wl.setCell ⟨Bd, 3, none⟩ (.string (B (d.form ++ mt)))) = Wm := ⟨_, rfl⟩
                  have hcm := HMC.out Wm _ (by rw [← hWm]; exact (Mod.refl (fun k => k = Bd) Wl).setCell (p := ⟨Bd, 3, none⟩) (.inl rfl) _) hcl
                  rw [hWm] at hBm ⊢
                  clear hWm hBl hcl fD3 cD3
                  obtain ⟨n0, n2, n3, n4, n5, n6⟩ := hcm
                  have cS5 := cell_of hBm.st
                  have fS5 := frozen_of hBm.st
                  simp only [pVals] at cS5
                  go_wp2
                  go_roundg (remS (sideL t a ls) (sideL t b rs) ⟨ni, nj, na, nr⟩ + 1)
                  case measure => exact HLT.out
                  case rel => exact HEND.out _ _ _ _ (hBm.setSt hBs ⟨ni, nj, na, nr⟩) HTK.out
                exact AllReadyH.nil
              exact AllReadyH.nil
            exact AllReadyH.nil
          exact AllReadyH.nil
        exact AllReadyH.nil
      exact AllReadyH.nil
    · have hgt' : ¬ (i : Int) < ni := by omega
      go_upto_region 16 with fail
      go_quiet (fail)
      go_upto_region 19 with fail
      have hxu : Ext wr (wr.drew.drewN nq) := Ext.trans (below_drewN wr 1) (below_drewN _ _)
      obtain ⟨Wu, hWu⟩ : ∃ Wu, (wr.drew.drewN nq) = Wu := ⟨_, rfl⟩
      rw [hWu] at hxu ⊢
      clear hWu
      have hBu := hB.grow hxu
      have hownd : Wu.drew.ownsRow W5.heap.size 3 1 vR d.right.length (intVs d.right) := hBu.right
      have hszd2 : W5.heap.size ≤ Wu.drew.heap.size := hBu.ext.size
      have hlen2 : (d.right.length + 1) * 8 ≤ 140737488355328 := by omega
      have cD0 : ∀ i, Wu.cell? ⟨Bd, i, none⟩ = #[Value.int .i64 d.cost, vL, vR, .string (B d.form)][i]? := cell_of hBu.der
      have cD1 := cD0 2
      have cD4 : ∀ o, (Wu.alloc o).cell? ⟨Bd, 2, none⟩ = some vR := fun o => cell_of (block_ext hBu.der (Ext.new _ o)) 2
      have hcu := HMC0.out _ hxu
      have HMV : Hid (∀ w5, Mod (fun k => vR.ownBlock = some k) Wu w5 → _) := Lib.hid (fun w5 hm => HKC.out w5 _ (Mod.mono hm (fun k _ h => (ownsRow_block hB0.right h).2.1)) hcu)
      have HSA : Hid (∀ w5, Mod (fun k => vR.ownBlock = some k) Wu.drew w5 → (fun w' : World => w'.cell? (ar.add (k * 7)) = some (.int .i64 idx)) w5 ∧ (∀ i, w5.cell? ⟨Bd, i, none⟩ = #[Value.int .i64 d.cost, vL, vR, .string (B d.form)][i]?) ∧ (∀ i, w5.frozen? ⟨Bd, i, none⟩ = false)) := Lib.hid (fun w5 hm => by
        have b1 := block_keep (w := Wu.drew) hBu.der hm (fun h => own_far hBu.right h hBu.der (by decide) rfl)
        exact ⟨(HMV.out w5 (((Mod.refl _ Wu).drew).trans hm)).1, cell_of b1, frozen_of b1⟩)
      have HSK : Hid (∀ w' : World, w'.heap[(ar.add (k * 7)).block]? = Wu.heap[(ar.add (k * 7)).block]? → (fun w' : World => w'.cell? (ar.add (k * 7)) = some (.int .i64 idx)) w') := Lib.hid (fun w' h => (cell_same h).trans hcu.1)
      have HPL := Lib.hid (show (ar.add (k * 7)).block < Wu.drew.heap.size from World.block_lt_of_cell? Wu _ hcu.1)
      have HSS : Hid (∀ (w' : World) (o : Nat) (z : Value), (fun w' : World => w'.cell? (ar.add (k * 7)) = some (.int .i64 idx)) w' → (fun w' : World => w'.cell? (ar.add (k * 7)) = some (.int .i64 idx)) (w'.setCell ⟨Bd, o, none⟩ z)) := Lib.hid (fun w' o z h => (World.cell?_setCell_far _ _ _ _ (fun e => by have := HGE.out; have e2 : Bd = (ar.add (k * 7)).block := e; rw [addr_block] at e2; omega)).trans h)
      have HTK : Hid (takeS d ⟨i, j, ah, rt⟩ (⟨idx, mc, mf, mt⟩, ⟨ni, nj, na, nr⟩) = { d with right := d.right ++ [(idx : Int)] }) := Lib.hid (by unfold takeS; rw [if_neg (by simpa using hgt)])
      have hHeld : (fun w' : World => w'.cell? (ar.add (k * 7)) = some (.int .i64 idx)) Wu.drew := hcu.1
      clear hcu
      go_upto_region 19 with fail
      refine wp_region_held_drew (S := (fun w' : World => w'.cell? (ar.add (k * 7)) = some (.int .i64 idx))) Tryz.mixed hHeld ?_
      intro _
      refine wpAnyH_take (i := 0) (v := ?_) rfl (by kernel_rfl) (by kernel_rfl) (by kernel_rfl) (fun _ _ _ h => h) (Or.inl ⟨by rfl, ?_⟩) (by assumption) ?_
      rotate_left
      · (intro w hSw; (try dsimp only at hSw); go_split_ands; go_simp; first | done | with_reducible rfl)
      simp only [List.getElem_toArray, List.getElem_cons_succ, List.getElem_cons_zero, Act.put, List.setIfInBounds_toArray, List.set_cons_zero, List.set_cons_succ]
      refine wpAnyH_take (i := 2) (v := ?_) rfl (by kernel_rfl) (by kernel_rfl) (by kernel_rfl) (fun _ _ _ h => h) (Or.inl ⟨by rfl, ?_⟩) (by assumption) ?_
      rotate_left
      · (intro w hSw; (try dsimp only at hSw); go_split_ands; go_simp; first | done | with_reducible rfl)
      simp only [List.getElem_toArray, List.getElem_cons_succ, List.getElem_cons_zero, Act.put, List.setIfInBounds_toArray, List.set_cons_zero, List.set_cons_succ]
      refine wpAnyH_take (i := 3) (v := ?_) rfl (by kernel_rfl) (by kernel_rfl) (by kernel_rfl) (fun _ _ _ h => h) (Or.inl ⟨by rfl, ?_⟩) (by assumption) ?_
      rotate_left
      · (intro w hSw; (try dsimp only at hSw); go_split_ands; go_simp; first | done | with_reducible rfl)
      simp only [List.getElem_toArray, List.getElem_cons_succ, List.getElem_cons_zero, Act.put, List.setIfInBounds_toArray, List.set_cons_zero, List.set_cons_succ]
      refine wpAnyH_take (i := 4) (v := ?_) rfl (by kernel_rfl) (by kernel_rfl) (by kernel_rfl) (fun _ _ _ h => h) (Or.inl ⟨by rfl, ?_⟩) (by assumption) ?_
      rotate_left
      · (intro w hSw; (try dsimp only at hSw); go_split_ands; go_simp; first | done | with_reducible rfl)
      simp only [List.getElem_toArray, List.getElem_cons_succ, List.getElem_cons_zero, Act.put, List.setIfInBounds_toArray, List.set_cons_zero, List.set_cons_succ]
      refine wpAnyH_take (i := 5) (v := ?_) rfl (by kernel_rfl) (by kernel_rfl) (by kernel_rfl) (fun _ _ _ h => h) (Or.inl ⟨by rfl, ?_⟩) (by assumption) ?_
      rotate_left
      · (intro w hSw; (try dsimp only at hSw); go_split_ands; go_simp; first | done | with_reducible rfl)
      simp only [List.getElem_toArray, List.getElem_cons_succ, List.getElem_cons_zero, Act.put, List.setIfInBounds_toArray, List.set_cons_zero, List.set_cons_succ]
      refine wpAnyH_take (i := 6) (v := ?_) rfl (by kernel_rfl) (by kernel_rfl) (by kernel_rfl) (fun _ _ _ h => h) (Or.inl ⟨by rfl, ?_⟩) (by assumption) ?_
      rotate_left
      · (intro w hSw; (try dsimp only at hSw); go_split_ands; go_simp; first | done | with_reducible rfl)
      simp only [List.getElem_toArray, List.getElem_cons_succ, List.getElem_cons_zero, Act.put, List.setIfInBounds_toArray, List.set_cons_zero, List.set_cons_succ]
      refine wpAnyH_ready (rs := [1, 7]) (by kernel_rfl) (by simp) ?_
      refine AllReadyH.cons rfl (fun K hK => ?_) ?_
      · go_simp
        refine hK.out _ _ ?_ (fun hHeld => ?_)
        · first | exact hHeld | exact g1 | exact HSK.out _ (Below.heap_alloc _ _ _ HPL.out) | exact HSS.out _ _ _ g1
        clear hK K
        refine wpAnyH_ready (rs := [7]) (by kernel_rfl) (by simp) ?_
        refine AllReadyH.cons rfl (fun K hK => ?_) ?_
        · go_simp
          refine hK.out _ _ ?_ (fun hHeld => ?_)
          · first | exact hHeld | exact g1 | exact HSK.out _ (Below.heap_alloc _ _ _ HPL.out) | exact HSS.out _ _ _ g1
          clear hK K
          refine wpAnyH_ready (rs := [8]) (by kernel_rfl) (by simp) ?_
          refine AllReadyH.cons rfl (fun K hK => ?_) ?_
          · (refine step_app1 (W := Wu.drew) W5.heap.size (.tmp 138) (.tmp 144) 26 3 (.int .i64 0) 1 8 rfl Tryz.underlying26 Tryz.info_int rfl (by decide) (by decide) vR d.right.length (intVs d.right) [.int .i64 idx] rfl rfl rfl (by simp [Value.oneCell']) hownd hszd2 hlen2 rfl ?_; intro z1 w5 hA; obtain ⟨gg, cap1, rfl⟩ := ownsRow_succ hA.own; obtain ⟨g1, g2, g3⟩ := HSA.out _ hA.mod; have g2' := g2 2; have g3' := g3 2)
            refine hK.out _ _ ?_ (fun hHeld => ?_)
            · first | exact hHeld | exact g1 | exact HSK.out _ (Below.heap_alloc _ _ _ HPL.out) | exact HSS.out _ _ _ g1
            clear hK K
            refine wpAnyH_take (i := 9) (v := ?_) rfl (by kernel_rfl) (by kernel_rfl) (by kernel_rfl) (fun _ _ _ h => h) (Or.inl ⟨by rfl, ?_⟩) (by assumption) ?_
            rotate_left
            · (intro w hSw; (try dsimp only at hSw); go_split_ands; go_simp; first | done | with_reducible rfl)
            simp only [List.getElem_toArray, List.getElem_cons_succ, List.getElem_cons_zero, Act.put, List.setIfInBounds_toArray, List.set_cons_zero, List.set_cons_succ]
            refine wpAnyH_ready (rs := [10]) (by kernel_rfl) (by simp) ?_
            refine AllReadyH.cons rfl (fun K hK => ?_) ?_
            · go_simp
              refine hK.out _ _ ?_ (fun hHeld => ?_)
              · first | exact hHeld | exact g1 | exact HSK.out _ (Below.heap_alloc _ _ _ HPL.out) | exact HSS.out _ _ _ g1
              clear hK K
              refine wpAnyH_done (by kernel_rfl) ?_ _
              clear hHeld
              have hBm := hBu.appRight hBd (((Mod.refl _ Wu).drew).trans hA.mod) hA.own hA.loc
              have hcm := HMC.out _ _ ((Mod.refl (fun k => k = Bd) _).setCell (p := ⟨Bd, 2, none⟩) (.inl rfl) (.slice (some ⟨gg, 0, none⟩) (d.right.length + 1) cap1)) (HMV.out w5 (((Mod.refl _ Wu).drew).trans hA.mod))
              obtain ⟨Wl, hWl⟩ : ∃ Wl, (w5.setCell ⟨Bd, 2, none⟩ (.slice (some ⟨gg, 0, none⟩) (d.right.length + 1) cap1)) = Wl := ⟨_, rfl⟩
              rw [hWl] at hBm hcm ⊢
              clear hWl g1 g2 g3 g2' g3' hA
              obtain ⟨n0, n2, n3, n4, n5, n6⟩ := hcm
              have cS5 := cell_of hBm.st
              have fS5 := frozen_of hBm.st
              simp only [pVals] at cS5
              go_wp2
              go_roundg (remS (sideL t a ls) (sideL t b rs) ⟨ni, nj, na, nr⟩ + 1)
              case measure => exact HLT.out
              case rel => exact HEND.out _ _ _ _ (hBm.setSt hBs ⟨ni, nj, na, nr⟩) HTK.out
            exact AllReadyH.nil
          exact AllReadyH.nil
        exact AllReadyH.nil
      refine AllReadyH.cons rfl (fun K hK => ?_) ?_
      · go_simp
        refine hK.out _ _ ?_ (fun hHeld => ?_)
        · first | exact hHeld | exact g1 | exact HSK.out _ (Below.heap_alloc _ _ _ HPL.out) | exact HSS.out _ _ _ g1
        clear hK K
        refine wpAnyH_ready (rs := [1]) (by kernel_rfl) (by simp) ?_
        refine AllReadyH.cons rfl (fun K hK => ?_) ?_
        · go_simp
          refine hK.out _ _ ?_ (fun hHeld => ?_)
          · first | exact hHeld | exact g1 | exact HSK.out _ (Below.heap_alloc _ _ _ HPL.out) | exact HSS.out _ _ _ g1
          clear hK K
          refine wpAnyH_ready (rs := [8]) (by kernel_rfl) (by simp) ?_
          refine AllReadyH.cons rfl (fun K hK => ?_) ?_
          · (refine step_app1 (W := Wu.drew) W5.heap.size (.tmp 138) (.tmp 144) 26 3 (.int .i64 0) 1 8 rfl Tryz.underlying26 Tryz.info_int rfl (by decide) (by decide) vR d.right.length (intVs d.right) [.int .i64 idx] rfl rfl rfl (by simp [Value.oneCell']) hownd hszd2 hlen2 rfl ?_; intro z1 w5 hA; obtain ⟨gg, cap1, rfl⟩ := ownsRow_succ hA.own; obtain ⟨g1, g2, g3⟩ := HSA.out _ hA.mod; have g2' := g2 2; have g3' := g3 2)
            refine hK.out _ _ ?_ (fun hHeld => ?_)
            · first | exact hHeld | exact g1 | exact HSK.out _ (Below.heap_alloc _ _ _ HPL.out) | exact HSS.out _ _ _ g1
            clear hK K
            refine wpAnyH_take (i := 9) (v := ?_) rfl (by kernel_rfl) (by kernel_rfl) (by kernel_rfl) (fun _ _ _ h => h) (Or.inl ⟨by rfl, ?_⟩) (by assumption) ?_
            rotate_left
            · (intro w hSw; (try dsimp only at hSw); go_split_ands; go_simp; first | done | with_reducible rfl)
            simp only [List.getElem_toArray, List.getElem_cons_succ, List.getElem_cons_zero, Act.put, List.setIfInBounds_toArray, List.set_cons_zero, List.set_cons_succ]
            refine wpAnyH_ready (rs := [10]) (by kernel_rfl) (by simp) ?_
            refine AllReadyH.cons rfl (fun K hK => ?_) ?_
            · go_simp
              refine hK.out _ _ ?_ (fun hHeld => ?_)
              · first | exact hHeld | exact g1 | exact HSK.out _ (Below.heap_alloc _ _ _ HPL.out) | exact HSS.out _ _ _ g1
              clear hK K
              refine wpAnyH_done (by kernel_rfl) ?_ _
              clear hHeld
              have hBm := hBu.appRight hBd (((Mod.refl _ Wu).drew).trans hA.mod) hA.own hA.loc
              have hcm := HMC.out _ _ ((Mod.refl (fun k => k = Bd) _).setCell (p := ⟨Bd, 2, none⟩) (.inl rfl) (.slice (some ⟨gg, 0, none⟩) (d.right.length + 1) cap1)) (HMV.out w5 (((Mod.refl _ Wu).drew).trans hA.mod))
              obtain ⟨Wl, hWl⟩ : ∃ Wl, (w5.setCell ⟨Bd, 2, none⟩ (.slice (some ⟨gg, 0, none⟩) (d.right.length + 1) cap1)) = Wl := ⟨_, rfl⟩
              rw [hWl] at hBm hcm ⊢
              clear hWl g1 g2 g3 g2' g3' hA
              obtain ⟨n0, n2, n3, n4, n5, n6⟩ := hcm
              have cS5 := cell_of hBm.st
              have fS5 := frozen_of hBm.st
              simp only [pVals] at cS5
              go_wp2
              go_roundg (remS (sideL t a ls) (sideL t b rs) ⟨ni, nj, na, nr⟩ + 1)
              case measure => exact HLT.out
              case rel => exact HEND.out _ _ _ _ (hBm.setSt hBs ⟨ni, nj, na, nr⟩) HTK.out
            exact AllReadyH.nil
          exact AllReadyH.nil
        exact AllReadyH.nil
      exact AllReadyH.nil

end Go.Proofs.YtkkbkhcapogobaaGreatDoor
