/- What a round of the reference's Best keeps. -/
import Derived.Test.YtkkbkhcapogobaaGreatDoorP7
import Derived.Test.YtkkbkhcapogobaaGreatDoorE8
section
namespace Go.Proofs.YtkkbkhcapogobaaGreatDoor
open Go Go.RowKit Go.Lib Go.Proofs S Go.Shelf Go.Maps Go.WideMaps
set_option linter.unusedVariables false
set_option linter.unusedSimpArgs false

theorem pVal_inj {a b : St} (h : pVal a = pVal b) : a = b := by
  obtain ⟨a1, a2, a3, a4⟩ := a; obtain ⟨b1, b2, b3, b4⟩ := b
  simp only [pVal, Value.agg.injEq, Array.mk.injEq, List.cons.injEq, Value.int.injEq, Value.string.injEq, Value.bool.injEq, true_and, and_true] at h
  obtain ⟨h1, h2, h3, h4⟩ := h
  rw [Int.ofNat_inj.1 h1, Int.ofNat_inj.1 h2, B_inj h3, h4]
theorem Tryz.p_cells : Tryz.prog.cellsOf 62 = 5 := by kernel_rfl
theorem Tryz.p_ok : Tryz.prog.keyType 62 = true := by kernel_rfl
theorem p_key {s : St} (h1 : s.i ≤ 1000) (h2 : s.j ≤ 1000) (h3 : s.ahead.length ≤ 3) : ∃ l, keyOf Tryz.prog 62 (pVal s) = some l := by
  obtain ⟨m, hm⟩ := Tryz.size_types
  unfold keyOf pVal
  simp only [Tryz.underlying62]
  rw [if_pos (by simp [Tryz.p_ok, Value.formed, Tryz.underlying62, Tryz.p_cells]), hm]
  unfold Program.keyLits
  simp only [Tryz.underlying62, Value.cells]
  rw [if_pos (by rw [Tryz.p_cells]; exact ⟨rfl, by simp⟩)]
  have h1' : (Lit.int .i64 s.i).wf = true := by simp [Lit.wf, IntKind.min, IntKind.max, IntKind.signed, IntKind.bits]; omega
  have h2' : (Lit.int .i64 s.j).wf = true := by simp [Lit.wf, IntKind.min, IntKind.max, IntKind.signed, IntKind.bits]; omega
  have h4' : (Lit.int .i64 0).wf = true := by decide
  have h3' : (B s.ahead).size ≤ maxLen := by rw [B_size]; unfold maxLen; omega
  simp [Program.keyLits, Tryz.underlying3, Tryz.underlying9, Tryz.underlying4, Tryz.int_cells, Tryz.string_cells, Tryz.bool_cells, *]
set_option maxRecDepth 100000 in
theorem p_keyed : Keyed Tryz.prog 62 := Keyed.of_law (deep_law_laid Tryz.laidOutB (m := 2) (by omega) (of_decide_eq_true (by kernel_rfl)) (by kernel_rfl) (by kernel_rfl))

/-- What the map of costs says. -/
def PInv (L R : Side) (f : Value → Option Value) : Prop := ∀ v x, f v = some x → ∃ s, v = pVal s ∧ In L R s ∧ x = .int .i64 (val L R s) ∧ ∀ m ∈ movesS L R s, (f (pVal m.2)).isSome = true
theorem PInv.at {L R : Side} {f : Value → Option Value} (h : PInv L R f) {s : St} (hs : (f (pVal s)).isSome = true) : f (pVal s) = some (.int .i64 (val L R s)) ∧ ∀ m ∈ movesS L R s, (f (pVal m.2)).isSome = true := by
  obtain ⟨x, hx⟩ := Option.isSome_iff_exists.1 hs
  obtain ⟨s', h1, h2, h3, h4⟩ := h _ _ hx
  cases pVal_inj h1
  exact ⟨by rw [hx, h3], h4⟩
theorem PInv.upd {L R : Side} {f : Value → Option Value} (h : PInv L R f) {s : St} (hs : In L R s) (hm : ∀ m ∈ movesS L R s, (f (pVal m.2)).isSome = true) : PInv L R (upd f (pVal s) (.int .i64 (val L R s))) := by
  intro v x hx
  by_cases hv : v = pVal s
  · subst hv
    rw [upd_same] at hx; cases hx
    exact ⟨s, rfl, hs, rfl, fun m h => upd_some (hm m h)⟩
  · rw [upd_other _ _ _ hv] at hx
    obtain ⟨s', h1, h2, h3, h4⟩ := h v x hx
    exact ⟨s', h1, h2, h3, fun m h => upd_some (h4 m h)⟩
theorem pinv_none (L R : Side) : PInv L R (fun _ => none) := by intro v x h; cases h
theorem elem7 {w : World} {a : Addr} {v0 v1 v2 v3 v4 v5 v6 : Value} (h : ∀ j v, [v0, v1, v2, v3, v4, v5, v6][j]? = some v → w.cell? (a.add j) = some v) :
    w.cell? a = some v0 ∧ w.cell? { block := a.block, off := a.off + 1 } = some v1 ∧ w.cell? { block := a.block, off := a.off + 2 } = some v2 ∧ w.cell? { block := a.block, off := a.off + 3 } = some v3 ∧ w.cell? { block := a.block, off := a.off + 4 } = some v4 ∧ w.cell? { block := a.block, off := a.off + 5 } = some v5 ∧ w.cell? { block := a.block, off := a.off + 6 } = some v6 :=
  ⟨by have := h 0 v0 rfl; rwa [Addr.add_zero] at this, by have := h 1 v1 rfl; rwa [Addr.add_pos] at this, by have := h 2 v2 rfl; rwa [Addr.add_pos] at this, by have := h 3 v3 rfl; rwa [Addr.add_pos] at this, by have := h 4 v4 rfl; rwa [Addr.add_pos] at this, by have := h 5 v5 rfl; rwa [Addr.add_pos] at this, by have := h 6 v6 rfl; rwa [Addr.add_pos] at this⟩
theorem own_moves {w : World} {base n : Nat} {v : Value} {ms : List (ARule × St)} (h : w.ownsRow base 66 7 v ms.length (ms.flatMap mvVals)) : ∃ (A : Option Addr) (q : Nat), v = .slice A ms.length q ∧ ElemsAt w A 7 (ms.map mvVals) := by
  have := own_rows (rows := ms.map mvVals) (size := 7) (by intro r hr; obtain ⟨x, _, rfl⟩ := List.mem_map.1 hr; rfl) (by rw [List.length_map, ← List.flatMap_def]; exact h)
  rw [List.length_map] at this
  exact this
/-- The words of the reference in memory. -/
structure RefAt (w : World) (A1 LA RA : Option Addr) (t : Tab) (ls rs : List Str) : Prop where
  rules : ElemsAt w A1 4 (t.rules.map ruleVals)
  fit : ∀ r ∈ t.rules, FitR r
  len : t.rules.length ≤ 1000
  left : ElemsAt w LA 1 (strRows ls)
  right : ElemsAt w RA 1 (strRows rs)
  ln : ls.length ≤ 12
  rn : rs.length ≤ 12
theorem RefAt.cells {w W : World} {A1 LA RA : Option Addr} {t : Tab} {ls rs : List Str} (h : RefAt w A1 LA RA t ls rs) (hc : Cells w W) : RefAt W A1 LA RA t ls rs :=
  ⟨h.rules.cells hc, h.fit, h.len, h.left.cells hc, h.right.cells hc, h.ln, h.rn⟩
abbrev sideL (t : Tab) (a : Int) (ls : List Str) : Side := ⟨ls, sideRules a 0 t.rules⟩
def RestRes (L R : Side) (mb : Nat) (f : Value → Option Value) (s : St) (W : World) (e : Ending) (W' : World) : Prop :=
  e = .returned (.int .i64 (val L R s)) ∧ Mod (fun k => k = mb) W W' ∧ ∃ f' n', MapAt Tryz.prog 62 W' mb n' f' ∧ PInv L R f' ∧ (∀ v, (f v).isSome = true → (f' v).isSome = true) ∧ (f' (pVal s)).isSome = true
def RestSpec (A1 A2 A3 : Option Addr) (q1 q2 q3 : Nat) (t : Tab) (a b : Int) (ls rs : List Str) (LA RA : Option Addr) (lq rq : Nat) (w00 : World) (mb n : Nat) : Prop :=
  ∀ (s : St), In (sideL t a ls) (sideL t b rs) s → remS (sideL t a ls) (sideL t b rs) s < n → ∀ (W : World) (f : Value → Option Value) (m : Nat), Cells w00 W → MapAt Tryz.prog 62 W mb m f → PInv (sideL t a ls) (sideL t b rs) f →
    Calls Tryz.prog 34 #[tabVal A1 q1 A2 q2 A3 q3 t, .int .i64 a, .slice LA ls.length lq, .int .i64 b, .slice RA rs.length rq, pVal s, .map (some mb)] W (RestRes (sideL t a ls) (sideL t b rs) mb f s W)
set_option maxRecDepth 100000 in
set_option maxHeartbeats 4000000 in
theorem rest_step (A1 A2 A3 : Option Addr) (q1 q2 q3 : Nat) (t : Tab) (a b : Int) (ls rs : List Str) (LA RA : Option Addr) (lq rq : Nat) (w00 : World) (hat : RefAt w00 A1 LA RA t ls rs) (fL : Fine (sideL t a ls)) (fR : Fine (sideL t b rs)) (mb : Nat) (hmb : w00.heap.size ≤ mb) (n : Nat)
    (ih : RestSpec A1 A2 A3 q1 q2 q3 t a b ls rs LA RA lq rq w00 mb n) : RestSpec A1 A2 A3 q1 q2 q3 t a b ls rs LA RA lq rq w00 mb (n + 1) := by
  intro s hs hr W f m hC hA hI
  have hsi : s.i ≤ 12 := Nat.le_trans hs.i hat.ln
  have hsj : s.j ≤ 12 := Nat.le_trans hs.j hat.rn
  have hsa := hs.ahead
  obtain ⟨lk, hkey⟩ := p_key (s := s) (by omega) (by omega) hs.ahead
  have hvs := val_range fL fR _ s hs (Nat.le_refl _)
  have HMV : Hid (∀ W', Ext W W' → Calls Tryz.prog 21 #[tabVal A1 q1 A2 q2 A3 q3 t, .int .i64 a, .slice LA ls.length lq, .int .i64 b, .slice RA rs.length rq, pVal s] W' fun e w' => Ext W' w' ∧
      ∃ A q, e = .returned (.slice A (movesS (sideL t a ls) (sideL t b rs) s).length q) ∧ w'.ownsRow W'.heap.size 66 7 (.slice A (movesS (sideL t a ls) (sideL t b rs) s).length q) (movesS (sideL t a ls) (sideL t b rs) s).length ((movesS (sideL t a ls) (sideL t b rs) s).flatMap mvVals)) :=
    Lib.hid (fun W' h => by
      have hz := hat.cells (hC.trans (Cells.of_ext h))
      exact ref11moves_any A1 A2 A3 q1 q2 q3 t a b ls rs LA RA lq rq s W' hz.rules hz.fit hz.len hz.left hz.right (by have := hz.ln; omega) (by have := hz.rn; omega) (by omega) (by omega) (by omega))
  have HMS : Hid (∀ x ∈ movesS (sideL t a ls) (sideL t b rs) s, In (sideL t a ls) (sideL t b rs) x.2 ∧ remS (sideL t a ls) (sideL t b rs) x.2 < remS (sideL t a ls) (sideL t b rs) s ∧ 0 ≤ x.1.cost ∧ x.1.cost ≤ 1000) := Lib.hid (fun x hx => move_rem fL fR hs hx)
  have HVE := Lib.hid (val_eq fL fR hs)
  have hmsl : (movesS (sideL t a ls) (sideL t b rs) s).length ≤ 1000 := by
    unfold sideL
    rw [mvs_moves]
    exact Nat.le_trans (mvsR_le _ _ _ _ _ _ _) hat.len
  have HDN : Hid (doneS (sideL t a ls) (sideL t b rs) s = (decide (s.i = ls.length) && decide (s.j = rs.length) && decide (s.ahead = []))) := Lib.hid rfl
  have HPU : Hid (∀ f', PInv (sideL t a ls) (sideL t b rs) f' → (∀ m ∈ movesS (sideL t a ls) (sideL t b rs) s, (f' (pVal m.2)).isSome = true) → PInv (sideL t a ls) (sideL t b rs) (upd f' (pVal s) (.int .i64 (val (sideL t a ls) (sideL t b rs) s)))) := Lib.hid (fun f' h hm => h.upd hs hm)
  have HAT := Lib.hid (hI.at (s := s))
  have HVR : Hid (∀ x : St, In (sideL t a ls) (sideL t b rs) x → 0 ≤ val (sideL t a ls) (sideL t b rs) x ∧ val (sideL t a ls) (sideL t b rs) x ≤ endless) := Lib.hid (fun x hx => val_range fL fR _ x hx (Nat.le_refl _))
  unfold RestSpec at ih
  generalize sideL t a ls = L at *
  generalize sideL t b rs = R at *
  generalize movesS L R s = ms at HMV HMS HVE HPU hmsl
  generalize hvv : val L R s = vv at HVE hvs HPU
  unfold tabVal at HMV ih ⊢
  obtain ⟨i, j, ah, rt⟩ := s
  dsimp only at hsi hsj hsa
  simp only [pVal] at HMV ⊢
  go_enter Tryz.func34, Tryz.ntmps34
  go_upto_region 1 with fail
  have hN := new_two W (.cells #[.slice A1 t.rules.length q1, .slice A2 t.drops.length q2, .slice A3 t.ends.length q3, .int .i64 t.drop, .int .i64 t.order, .int .i64 t.initial] 25) (.cells #[.int .i64 i, .int .i64 j, .string (B ah), .bool rt, .int .i64 0] 62)
  obtain ⟨W1, hW1⟩ : ∃ W1, ((W.alloc (.cells #[.slice A1 t.rules.length q1, .slice A2 t.drops.length q2, .slice A3 t.ends.length q3, .int .i64 t.drop, .int .i64 t.order, .int .i64 t.initial] 25)).alloc (.cells #[.int .i64 i, .int .i64 j, .string (B ah), .bool rt, .int .i64 0] 62)) = W1 := ⟨_, rfl⟩
  have hsz : W1.heap.size = W.heap.size + 2 := by rw [← hW1]; simp
  rw [hW1] at hN ⊢
  clear hW1
  obtain ⟨kT, kS, hx1⟩ := hN
  have hA1 : MapAt Tryz.prog 62 W1 mb m f := hA.mod (hx1.mod (fun _ => False)) (fun h => h)
  have hlook : (Instr.lookup 59 (.map (some mb)) (.agg #[.int .i64 i, .int .i64 j, .string (B ah), .bool rt, .int .i64 0]) true).run Tryz.prog W1 = .ok (.tuple #[(f (pVal ⟨i, j, ah, rt⟩)).getD (.int .i64 0), .bool (f (pVal ⟨i, j, ah, rt⟩)).isSome]) W1 :=
    MapAt.look hA1 p_keyed Tryz.underlying59 (by simp [go_sem]) ⟨lk, hkey⟩ true
  have s0 : W1.cell? ⟨W.heap.size + 1, 0, none⟩ = some (.int .i64 i) := cell_of kS 0
  have s1 : W1.cell? ⟨W.heap.size + 1, 1, none⟩ = some (.int .i64 j) := cell_of kS 1
  have s2 : W1.cell? ⟨W.heap.size + 1, 2, none⟩ = some (.string (B ah)) := cell_of kS 2
  have s3 : W1.cell? ⟨W.heap.size + 1, 3, none⟩ = some (.bool rt) := cell_of kS 3
  have s4 : W1.cell? ⟨W.heap.size + 1, 4, none⟩ = some (.int .i64 0) := cell_of kS 4
  cases hf : (f (pVal ⟨i, j, ah, rt⟩)).isSome with
  | true =>
    obtain ⟨hv, _⟩ := HAT.out hf
    rw [hv] at hlook
    simp only [Option.getD_some, Option.isSome_some, hvv] at hlook
    have HR : Hid (RestRes L R mb f ⟨i, j, ah, rt⟩ W (.returned (.int .i64 vv)) W1) := Lib.hid ⟨by rw [hvv], hx1.mod _, f, m, hA1, hI, fun _ h => h, hf⟩
    clear hf hv hA hA1 hI hkey hvv
    go_wp2
    go_ret
    exact HR.out
  | false =>
    have hnone : f (pVal ⟨i, j, ah, rt⟩) = none := by cases hx : f (pVal ⟨i, j, ah, rt⟩) <;> simp_all
    rw [hnone] at hlook
    simp only [Option.getD_none, Option.isSome_none] at hlook
    clear hf hnone HAT
    dsimp only at HDN
    generalize doneS L R ⟨i, j, ah, rt⟩ = dn at HDN HVE
    go_upto_region 5 with fail
    go_cut [43] from 25 (fun v43 wx => v43 = .bool dn ∧ wx = W1)
    case first =>
      by_cases h1 : i = ls.length
      · subst h1
        by_cases h2 : j = rs.length
        · subst h2
          by_cases h3 : ah = []
          · subst h3
            have HD := Lib.hid HDN.out
            go_wp2
            go_meet
            case rel => exact ⟨by rw [HD.out]; simp, rfl⟩
          · have hne : (ah == []) = false := beq_eq_false_iff_ne.2 h3
            go_wp2
            go_meet
            case rel => exact ⟨by rw [HDN.out]; simp [h3], rfl⟩
        · have hne : ((j : Int) == rs.length) = false := beq_eq_false_iff_ne.2 (by omega)
          go_wp2
          go_meet
          case rel => exact ⟨by rw [HDN.out]; simp [h2], rfl⟩
      · have hne : ((i : Int) == ls.length) = false := beq_eq_false_iff_ne.2 (by omega)
        go_wp2
        go_meet
        case rel => exact ⟨by rw [HDN.out]; simp [h1], rfl⟩
    case rest =>
    obtain ⟨rfl, rfl⟩ := hcut
    go_upto_if 43 with fail
    go_cut [15] from 25 (fun v15 wx => v15 = .int .i64 (if dn then 0 else endless) ∧ wx = wc)
    case first =>
      cases dn with
      | true =>
        go_wp2
        go_meet
        case rel => exact ⟨rfl, rfl⟩
      | false =>
        go_wp2
        go_meet
        case rel => exact ⟨rfl, rfl⟩
    case rest =>
    obtain ⟨rfl, rfl⟩ := hcut
    rename World => W1
    have t0 : W1.cell? ⟨W.heap.size, 0, none⟩ = some (.slice A1 t.rules.length q1) := cell_of kT 0
    have t1 : W1.cell? ⟨W.heap.size, 1, none⟩ = some (.slice A2 t.drops.length q2) := cell_of kT 1
    have t2 : W1.cell? ⟨W.heap.size, 2, none⟩ = some (.slice A3 t.ends.length q3) := cell_of kT 2
    have t3 : W1.cell? ⟨W.heap.size, 3, none⟩ = some (.int .i64 t.drop) := cell_of kT 3
    have t4 : W1.cell? ⟨W.heap.size, 4, none⟩ = some (.int .i64 t.order) := cell_of kT 4
    have t5 : W1.cell? ⟨W.heap.size, 5, none⟩ = some (.int .i64 t.initial) := cell_of kT 5
    generalize hh0 : (if dn then 0 else endless) = h0 at HVE
    go_upto_region 8 with (go_at_call 21; (with_reducible refine (HMV.out _ hx1).mono ?_); rintro e W3 ⟨hx3, A, q, rfl, hown⟩)
    have hel : ElemsAt W3 A 7 (ms.map mvVals) := by
      obtain ⟨A', q', h1, h2⟩ := own_moves (n := 0) hown
      cases h1; exact h2
    have kT3 := block_ext kT hx3
    have kS3 := block_ext kS hx3
    have hx13 := Ext.trans hx1 hx3
    have hA3 : MapAt Tryz.prog 62 W3 mb m f := hA.mod (hx13.mod (fun _ => False)) (fun h => h)
    have hmbW := hA.lt
    obtain ⟨Bt, hBt⟩ : ∃ Bt, W.heap.size = Bt := ⟨_, rfl⟩
    rw [hBt] at kT3 kS3 ⊢
    clear s0 s1 s2 s3 s4 t0 t1 t2 t3 t4 t5 hlook kT kS hown hA1
    go_wp2
    go_loopw [15, 18] (fun v15 v18 wr => ∃ k : Nat, k ≤ ms.length ∧ v18 = .int .i64 k ∧ v15 = .int .i64 ((ms.take k).foldl (fun h p => min h (p.1.cost + val L R p.2)) h0) ∧ Mod (fun k => k = mb) W3 wr ∧ ∃ f' n', MapAt Tryz.prog 62 wr mb n' f' ∧ PInv L R f' ∧ (∀ v, (f v).isSome = true → (f' v).isSome = true) ∧ ∀ p ∈ ms.take k, (f' (pVal p.2)).isSome = true) (fun _ v18 _ => ms.length - (intOf v18).toNat)
    case atStart => exact ⟨0, Nat.zero_le _, rfl, by rw [← hh0]; rfl, Mod.refl _ _, f, m, hA3, hI, fun _ h => h, by simp⟩
    case round =>
    rename_i hrel
    rename_i hrel
    obtain ⟨k, hk, rfl, rfl, hmw, f', n', i1, i2, i3, i4⟩ := hrel
    have hnT : ¬ mb = Bt := by omega
    by_cases hkk : k < ms.length
    · have hx : ms[k]? = some ms[k] := List.getElem?_eq_getElem hkk
      have htk : ms.take (k + 1) = ms.take k ++ [ms[k]] := (List.take_append_getElem hkk).symm
      have hms := HMS.out _ (List.getElem_mem hkk)
      generalize ms[k] = mm at hx htk hms
      obtain ⟨⟨mi, mc, mf, mt⟩, ⟨ni, nj, na, nr⟩⟩ := mm
      obtain ⟨hin, hrem, hc0, hc1⟩ := hms
      dsimp only at hin hrem hc0 hc1
      have hvr := HVR.out _ hin
      have hcw : Cells w00 W3 := hC.trans (Cells.of_ext hx13)
      have hcr : Cells w00 wr := hcw.step hmw (fun k hk => .inl (by omega))
      have helr : ElemsAt wr A 7 (ms.map mvVals) := hel.cells (Cells.of_mod hmw (fun x v hx he => by
        obtain ⟨cs, tt, mm, hb⟩ := cell_block hx
        rw [he] at hb
        exact hA3.not_cells hb))
      have HIH := Lib.hid (ih ⟨ni, nj, na, nr⟩ hin (by omega) wr.drew f' n' (hcr.trans (Cells.of_ext ⟨rfl, rfl, rfl, Nat.le_refl _, fun _ _ => rfl⟩)) (i1.mod ((Mod.refl (fun _ => False) wr).drew) (fun h => h)) i2)
      unfold RestRes at HIH
      simp only [pVal] at HIH
      obtain ⟨ar, rfl, hcells⟩ := helr.elem hx
      obtain ⟨e0, e1, e2, e3, e4, e5, e6⟩ := elem7 hcells
      have kTr := block_keep kT3 hmw (fun h => hnT h.symm)
      have hHeld : (fun w' : World => w'.cell? { block := (ar.add (k * 7)).block, off := (ar.add (k * 7)).off + 1 } = some (.int .i64 mc) ∧ w'.cell? { block := (ar.add (k * 7)).block, off := (ar.add (k * 7)).off + 2 } = some (.int .i64 ni) ∧ w'.cell? { block := (ar.add (k * 7)).block, off := (ar.add (k * 7)).off + 3 } = some (.int .i64 nj) ∧ w'.cell? { block := (ar.add (k * 7)).block, off := (ar.add (k * 7)).off + 4 } = some (.string (B na)) ∧ w'.cell? { block := (ar.add (k * 7)).block, off := (ar.add (k * 7)).off + 5 } = some (.bool nr) ∧ w'.cell? { block := (ar.add (k * 7)).block, off := (ar.add (k * 7)).off + 6 } = some (.int .i64 0) ∧ w'.cell? ⟨Bt, 0, none⟩ = some (.slice A1 t.rules.length q1) ∧ w'.cell? ⟨Bt, 1, none⟩ = some (.slice A2 t.drops.length q2) ∧ w'.cell? ⟨Bt, 2, none⟩ = some (.slice A3 t.ends.length q3) ∧ w'.cell? ⟨Bt, 3, none⟩ = some (.int .i64 t.drop) ∧ w'.cell? ⟨Bt, 4, none⟩ = some (.int .i64 t.order) ∧ w'.cell? ⟨Bt, 5, none⟩ = some (.int .i64 t.initial)) wr.drew := ⟨e1, e2, e3, e4, e5, e6, cell_of kTr 0, cell_of kTr 1, cell_of kTr 2, cell_of kTr 3, cell_of kTr 4, cell_of kTr 5⟩
      have HBK : Hid (∀ w5, Mod (fun k => k = mb) wr.drew w5 → (fun w' : World => w'.cell? { block := (ar.add (k * 7)).block, off := (ar.add (k * 7)).off + 1 } = some (.int .i64 mc) ∧ w'.cell? { block := (ar.add (k * 7)).block, off := (ar.add (k * 7)).off + 2 } = some (.int .i64 ni) ∧ w'.cell? { block := (ar.add (k * 7)).block, off := (ar.add (k * 7)).off + 3 } = some (.int .i64 nj) ∧ w'.cell? { block := (ar.add (k * 7)).block, off := (ar.add (k * 7)).off + 4 } = some (.string (B na)) ∧ w'.cell? { block := (ar.add (k * 7)).block, off := (ar.add (k * 7)).off + 5 } = some (.bool nr) ∧ w'.cell? { block := (ar.add (k * 7)).block, off := (ar.add (k * 7)).off + 6 } = some (.int .i64 0) ∧ w'.cell? ⟨Bt, 0, none⟩ = some (.slice A1 t.rules.length q1) ∧ w'.cell? ⟨Bt, 1, none⟩ = some (.slice A2 t.drops.length q2) ∧ w'.cell? ⟨Bt, 2, none⟩ = some (.slice A3 t.ends.length q3) ∧ w'.cell? ⟨Bt, 3, none⟩ = some (.int .i64 t.drop) ∧ w'.cell? ⟨Bt, 4, none⟩ = some (.int .i64 t.order) ∧ w'.cell? ⟨Bt, 5, none⟩ = some (.int .i64 t.initial)) w5) := Lib.hid (fun w5 hm => by
        have hcc : Cells wr.drew w5 := Cells.of_mod hm (fun x v hx he => by
          obtain ⟨cs, tt, mm, hb⟩ := cell_block hx
          rw [he] at hb
          exact (i1.mod ((Mod.refl (fun _ => False) wr).drew) (fun h => h)).not_cells hb)
        obtain ⟨g1, g2, g3, g4, g5, g6, g7, g8, g9, g10, g11, g12⟩ := hHeld
        exact ⟨hcc _ _ g1, hcc _ _ g2, hcc _ _ g3, hcc _ _ g4, hcc _ _ g5, hcc _ _ g6, hcc _ _ g7, hcc _ _ g8, hcc _ _ g9, hcc _ _ g10, hcc _ _ g11, hcc _ _ g12⟩)
      have HFO : Hid ((ms.take (k + 1)).foldl (fun h p => min h (p.1.cost + val L R p.2)) h0 = min ((ms.take k).foldl (fun h p => min h (p.1.cost + val L R p.2)) h0) (mc + val L R ⟨ni, nj, na, nr⟩)) := Lib.hid (by rw [htk, List.foldl_append]; rfl)
      generalize (ms.take k).foldl (fun h p => min h (p.1.cost + val L R p.2)) h0 = hh at HFO ⊢
      generalize hnv : val L R ⟨ni, nj, na, nr⟩ = nv at HFO hvr HIH
      have hwr : IntKind.i64.wrap (mc + nv) = mc + nv := by unfold endless at hvr; exact wrap_small (by omega) (by omega)
      have HFIN : Hid (∀ w5 f2 n2, Mod (fun k => k = mb) wr.drew w5 → MapAt Tryz.prog 62 w5 mb n2 f2 → PInv L R f2 → (∀ v, (f' v).isSome = true → (f2 v).isSome = true) → (f2 (pVal ⟨ni, nj, na, nr⟩)).isSome = true →
          ∃ k' : Nat, k' ≤ ms.length ∧ Value.int IntKind.i64 ((k : Int) + 1) = .int .i64 k' ∧ Value.int IntKind.i64 (min hh (mc + nv)) = .int .i64 ((ms.take k').foldl (fun h p => min h (p.1.cost + val L R p.2)) h0) ∧ Mod (fun k => k = mb) W3 w5 ∧ ∃ f' n', MapAt Tryz.prog 62 w5 mb n' f' ∧ PInv L R f' ∧ (∀ v, (f v).isSome = true → (f' v).isSome = true) ∧ ∀ p ∈ ms.take k', (f' (pVal p.2)).isSome = true) := Lib.hid (by
        intro w5 f2 n2 hmod u1 u2 u3 u4
        refine ⟨k + 1, by omega, by simp, by rw [HFO.out], hmw.trans ⟨hmod.os, hmod.tape, hmod.output, hmod.size, hmod.block⟩, f2, n2, u1, u2, fun v h => u3 _ (i3 v h), fun p hp => ?_⟩
        rw [htk] at hp
        rcases List.mem_append.1 hp with hp | hp
        · exact u3 _ (i4 p hp)
        · simp only [List.mem_singleton] at hp; subst hp; exact u4)
      clear e0 e1 e2 e3 e4 e5 e6 hcells helr hel hx htk i4 hcw hcr kTr hin hrem
      go_upto_region 11 with fail
      refine wp_region_held_drew (S := (fun w' : World => w'.cell? { block := (ar.add (k * 7)).block, off := (ar.add (k * 7)).off + 1 } = some (.int .i64 mc) ∧ w'.cell? { block := (ar.add (k * 7)).block, off := (ar.add (k * 7)).off + 2 } = some (.int .i64 ni) ∧ w'.cell? { block := (ar.add (k * 7)).block, off := (ar.add (k * 7)).off + 3 } = some (.int .i64 nj) ∧ w'.cell? { block := (ar.add (k * 7)).block, off := (ar.add (k * 7)).off + 4 } = some (.string (B na)) ∧ w'.cell? { block := (ar.add (k * 7)).block, off := (ar.add (k * 7)).off + 5 } = some (.bool nr) ∧ w'.cell? { block := (ar.add (k * 7)).block, off := (ar.add (k * 7)).off + 6 } = some (.int .i64 0) ∧ w'.cell? ⟨Bt, 0, none⟩ = some (.slice A1 t.rules.length q1) ∧ w'.cell? ⟨Bt, 1, none⟩ = some (.slice A2 t.drops.length q2) ∧ w'.cell? ⟨Bt, 2, none⟩ = some (.slice A3 t.ends.length q3) ∧ w'.cell? ⟨Bt, 3, none⟩ = some (.int .i64 t.drop) ∧ w'.cell? ⟨Bt, 4, none⟩ = some (.int .i64 t.order) ∧ w'.cell? ⟨Bt, 5, none⟩ = some (.int .i64 t.initial))) Tryz.mixed hHeld ?_
      intro _
      refine wpAnyH_take (i := 0) (v := ?_) rfl (by kernel_rfl) (by kernel_rfl) (by kernel_rfl) (fun _ _ _ h => h) (Or.inl ⟨by rfl, ?_⟩) (by assumption) ?_
      rotate_left
      · (intro w hSw; (try dsimp only at hSw); go_split_ands; go_simp; first | done | with_reducible rfl)
      simp only [List.getElem_toArray, List.getElem_cons_succ, List.getElem_cons_zero, Act.put, List.setIfInBounds_toArray, List.set_cons_zero, List.set_cons_succ]
      refine wpAnyH_take (i := 1) (v := ?_) rfl (by kernel_rfl) (by kernel_rfl) (by kernel_rfl) (fun _ _ _ h => h) (Or.inl ⟨by rfl, ?_⟩) (by assumption) ?_
      rotate_left
      · (intro w hSw; (try dsimp only at hSw); go_split_ands; go_simp; first | done | with_reducible rfl)
      simp only [List.getElem_toArray, List.getElem_cons_succ, List.getElem_cons_zero, Act.put, List.setIfInBounds_toArray, List.set_cons_zero, List.set_cons_succ]
      refine wpAnyH_take (i := 2) (v := ?_) rfl (by kernel_rfl) (by kernel_rfl) (by kernel_rfl) (fun _ _ _ h => h) (Or.inl ⟨by rfl, ?_⟩) (by assumption) ?_
      rotate_left
      · (intro w hSw; (try dsimp only at hSw); go_split_ands; go_simp; first | done | with_reducible rfl)
      simp only [List.getElem_toArray, List.getElem_cons_succ, List.getElem_cons_zero, Act.put, List.setIfInBounds_toArray, List.set_cons_zero, List.set_cons_succ]
      refine wpAnyH_take (i := 3) (v := ?_) rfl (by kernel_rfl) (by kernel_rfl) (by kernel_rfl) (fun _ _ _ h => h) (Or.inl ⟨by rfl, ?_⟩) (by assumption) ?_
      rotate_left
      · (intro w hSw; (try dsimp only at hSw); go_split_ands; go_simp; first | done | with_reducible rfl)
      simp only [List.getElem_toArray, List.getElem_cons_succ, List.getElem_cons_zero, Act.put, List.setIfInBounds_toArray, List.set_cons_zero, List.set_cons_succ]
      refine wpAnyH_take (i := 4) (v := ?_) rfl (by kernel_rfl) (by kernel_rfl) (by kernel_rfl) (fun _ _ _ h => h) (Or.inl ⟨by rfl, ?_⟩) (by assumption) ?_
      rotate_left
      · (intro w hSw; (try dsimp only at hSw); go_split_ands; go_simp; first | done | with_reducible rfl)
      simp only [List.getElem_toArray, List.getElem_cons_succ, List.getElem_cons_zero, Act.put, List.setIfInBounds_toArray, List.set_cons_zero, List.set_cons_succ]
      refine wpAnyH_take (i := 5) (v := ?_) rfl (by kernel_rfl) (by kernel_rfl) (by kernel_rfl) (fun _ _ _ h => h) (Or.inl ⟨by rfl, ?_⟩) (by assumption) ?_
      rotate_left
      · (intro w hSw; (try dsimp only at hSw); go_split_ands; go_simp; first | done | with_reducible rfl)
      simp only [List.getElem_toArray, List.getElem_cons_succ, List.getElem_cons_zero, Act.put, List.setIfInBounds_toArray, List.set_cons_zero, List.set_cons_succ]
      refine wpAnyH_take (i := 6) (v := ?_) rfl (by kernel_rfl) (by kernel_rfl) (by kernel_rfl) (fun _ _ _ h => h) (Or.inl ⟨by rfl, ?_⟩) (by assumption) ?_
      rotate_left
      · (intro w hSw; (try dsimp only at hSw); go_split_ands; go_simp; first | done | with_reducible rfl)
      simp only [List.getElem_toArray, List.getElem_cons_succ, List.getElem_cons_zero, Act.put, List.setIfInBounds_toArray, List.set_cons_zero, List.set_cons_succ]
      refine wpAnyH_take (i := 7) (v := ?_) rfl (by kernel_rfl) (by kernel_rfl) (by kernel_rfl) (fun _ _ _ h => h) (Or.inl ⟨by rfl, ?_⟩) (by assumption) ?_
      rotate_left
      · (intro w hSw; (try dsimp only at hSw); go_split_ands; go_simp; first | done | with_reducible rfl)
      simp only [List.getElem_toArray, List.getElem_cons_succ, List.getElem_cons_zero, Act.put, List.setIfInBounds_toArray, List.set_cons_zero, List.set_cons_succ]
      refine wpAnyH_take (i := 8) (v := ?_) rfl (by kernel_rfl) (by kernel_rfl) (by kernel_rfl) (fun _ _ _ h => h) (Or.inl ⟨by rfl, ?_⟩) (by assumption) ?_
      rotate_left
      · (intro w hSw; (try dsimp only at hSw); go_split_ands; go_simp; first | done | with_reducible rfl)
      simp only [List.getElem_toArray, List.getElem_cons_succ, List.getElem_cons_zero, Act.put, List.setIfInBounds_toArray, List.set_cons_zero, List.set_cons_succ]
      refine wpAnyH_take (i := 9) (v := ?_) rfl (by kernel_rfl) (by kernel_rfl) (by kernel_rfl) (fun _ _ _ h => h) (Or.inl ⟨by rfl, ?_⟩) (by assumption) ?_
      rotate_left
      · (intro w hSw; (try dsimp only at hSw); go_split_ands; go_simp; first | done | with_reducible rfl)
      simp only [List.getElem_toArray, List.getElem_cons_succ, List.getElem_cons_zero, Act.put, List.setIfInBounds_toArray, List.set_cons_zero, List.set_cons_succ]
      refine wpAnyH_take (i := 10) (v := ?_) rfl (by kernel_rfl) (by kernel_rfl) (by kernel_rfl) (fun _ _ _ h => h) (Or.inl ⟨by rfl, ?_⟩) (by assumption) ?_
      rotate_left
      · (intro w hSw; (try dsimp only at hSw); go_split_ands; go_simp; first | done | with_reducible rfl)
      simp only [List.getElem_toArray, List.getElem_cons_succ, List.getElem_cons_zero, Act.put, List.setIfInBounds_toArray, List.set_cons_zero, List.set_cons_succ]
      refine wpAnyH_take (i := 11) (v := ?_) rfl (by kernel_rfl) (by kernel_rfl) (by kernel_rfl) (fun _ _ _ h => h) (Or.inl ⟨by rfl, ?_⟩) (by assumption) ?_
      rotate_left
      · (intro w hSw; (try dsimp only at hSw); go_split_ands; go_simp; first | done | with_reducible rfl)
      simp only [List.getElem_toArray, List.getElem_cons_succ, List.getElem_cons_zero, Act.put, List.setIfInBounds_toArray, List.set_cons_zero, List.set_cons_succ]
      refine wpAnyH_take (i := 12) (v := ?_) rfl (by kernel_rfl) (by kernel_rfl) (by kernel_rfl) (fun _ _ _ h => h) (Or.inl ⟨by rfl, ?_⟩) (by assumption) ?_
      rotate_left
      · (intro w hSw; (try dsimp only at hSw); go_split_ands; go_simp; first | done | with_reducible rfl)
      simp only [List.getElem_toArray, List.getElem_cons_succ, List.getElem_cons_zero, Act.put, List.setIfInBounds_toArray, List.set_cons_zero, List.set_cons_succ]
      refine wpAnyH_take (i := 13) (v := ?_) rfl (by kernel_rfl) (by kernel_rfl) (by kernel_rfl) (fun _ _ _ h => h) (Or.inl ⟨by rfl, ?_⟩) (by assumption) ?_
      rotate_left
      · (intro w hSw; (try dsimp only at hSw); go_split_ands; go_simp; first | done | with_reducible rfl)
      simp only [List.getElem_toArray, List.getElem_cons_succ, List.getElem_cons_zero, Act.put, List.setIfInBounds_toArray, List.set_cons_zero, List.set_cons_succ]
      refine wpAnyH_take (i := 14) (v := ?_) rfl (by kernel_rfl) (by kernel_rfl) (by kernel_rfl) (fun _ _ _ h => h) (Or.inl ⟨by rfl, ?_⟩) (by assumption) ?_
      rotate_left
      · (intro w hSw; (try dsimp only at hSw); go_split_ands; go_simp; first | done | with_reducible rfl)
      simp only [List.getElem_toArray, List.getElem_cons_succ, List.getElem_cons_zero, Act.put, List.setIfInBounds_toArray, List.set_cons_zero, List.set_cons_succ]
      refine wpAnyH_take (i := 15) (v := ?_) rfl (by kernel_rfl) (by kernel_rfl) (by kernel_rfl) (fun _ _ _ h => h) (Or.inl ⟨by rfl, ?_⟩) (by assumption) ?_
      rotate_left
      · (intro w hSw; (try dsimp only at hSw); go_split_ands; go_simp; first | done | with_reducible rfl)
      simp only [List.getElem_toArray, List.getElem_cons_succ, List.getElem_cons_zero, Act.put, List.setIfInBounds_toArray, List.set_cons_zero, List.set_cons_succ]
      refine wpAnyH_take (i := 16) (v := ?_) rfl (by kernel_rfl) (by kernel_rfl) (by kernel_rfl) (fun _ _ _ h => h) (Or.inl ⟨by rfl, ?_⟩) (by assumption) ?_
      rotate_left
      · (intro w hSw; (try dsimp only at hSw); go_split_ands; go_simp; first | done | with_reducible rfl)
      simp only [List.getElem_toArray, List.getElem_cons_succ, List.getElem_cons_zero, Act.put, List.setIfInBounds_toArray, List.set_cons_zero, List.set_cons_succ]
      refine wpAnyH_ready (rs := [17]) (by kernel_rfl) (by simp) ?_
      refine AllReadyH.cons rfl (fun K hK => ?_) ?_
      · (go_simp; (with_reducible refine (HIH.out).mono ?_); rintro e w5 ⟨rfl, hmod, f2, n2, u1, u2, u3, u4⟩)
        refine hK.out _ _ ?_ (fun hHeld => ?_)
        · first | exact hHeld | exact HBK.out _ (by assumption)
        clear hK K
        refine wpAnyH_take (i := 18) (v := ?_) rfl (by kernel_rfl) (by kernel_rfl) (by kernel_rfl) (fun _ _ _ h => h) (Or.inl ⟨by rfl, ?_⟩) (by assumption) ?_
        rotate_left
        · (intro w hSw; (try dsimp only at hSw); go_split_ands; go_simp; first | done | with_reducible rfl)
        simp only [List.getElem_toArray, List.getElem_cons_succ, List.getElem_cons_zero, Act.put, List.setIfInBounds_toArray, List.set_cons_zero, List.set_cons_succ]
        refine wpAnyH_ready (rs := [19]) (by kernel_rfl) (by simp) ?_
        refine AllReadyH.cons rfl (fun K hK => ?_) ?_
        · go_simp
          refine hK.out _ _ ?_ (fun hHeld => ?_)
          · first | exact hHeld | exact HBK.out _ (by assumption)
          clear hK K
          refine wpAnyH_take (i := 20) (v := ?_) rfl (by kernel_rfl) (by kernel_rfl) (by kernel_rfl) (fun _ _ _ h => h) (Or.inl ⟨by rfl, ?_⟩) (by assumption) ?_
          rotate_left
          · (intro w hSw; (try dsimp only at hSw); go_split_ands; go_simp; first | done | with_reducible rfl)
          simp only [List.getElem_toArray, List.getElem_cons_succ, List.getElem_cons_zero, Act.put, List.setIfInBounds_toArray, List.set_cons_zero, List.set_cons_succ]
          refine wpAnyH_done (by kernel_rfl) ?_ _
          clear hHeld
          go_wp2
          go_roundw
          case rel => exact HFIN.out _ _ _ hmod u1 u2 u3 u4
          case measure => simp [intOf]; omega
        exact AllReadyH.nil
      exact AllReadyH.nil
    · have hkl : k = ms.length := by omega
      subst hkl
      rw [List.take_length, ← HVE.out] at *
      have hmin : min vv 1099511627776 = vv := by have := hvs.2; unfold endless at this; omega
      obtain ⟨es, clk, hup, hA2⟩ := MapAt.update (t := 59) i1 p_keyed Tryz.underlying59 ⟨lk, hkey⟩ (.int .i64 vv)
      have kSr := block_keep kS3 hmw (by omega)
      have s0 : wr.cell? ⟨Bt + 1, 0, none⟩ = some (.int .i64 i) := cell_of kSr 0
      have s1 : wr.cell? ⟨Bt + 1, 1, none⟩ = some (.int .i64 j) := cell_of kSr 1
      have s2 : wr.cell? ⟨Bt + 1, 2, none⟩ = some (.string (B ah)) := cell_of kSr 2
      have s3 : wr.cell? ⟨Bt + 1, 3, none⟩ = some (.bool rt) := cell_of kSr 3
      have s4 : wr.cell? ⟨Bt + 1, 4, none⟩ = some (.int .i64 0) := cell_of kSr 4
      have HR : Hid (RestRes L R mb f ⟨i, j, ah, rt⟩ W (.returned (.int .i64 vv)) (wr.putObj mb (.map es clk))) :=
        Lib.hid ⟨by rw [hvv], ((hx13.mod _).trans hmw).putObj (.inl rfl) _, _, _, hA2, HPU.out _ i2 i4, fun v h => upd_some (i3 v h), by rw [upd_same]; rfl⟩
      simp only [pVal] at hup
      clear i1 i2 i3 i4 hA2 hmw kSr hel hkey
      go_wp2
      go_ret
      exact HR.out
theorem rest_any (A1 A2 A3 : Option Addr) (q1 q2 q3 : Nat) (t : Tab) (a b : Int) (ls rs : List Str) (LA RA : Option Addr) (lq rq : Nat) (w00 : World) (hat : RefAt w00 A1 LA RA t ls rs) (fL : Fine (sideL t a ls)) (fR : Fine (sideL t b rs)) (mb : Nat) (hmb : w00.heap.size ≤ mb) : ∀ n, RestSpec A1 A2 A3 q1 q2 q3 t a b ls rs LA RA lq rq w00 mb n
  | 0 => fun s _ h => absurd h (Nat.not_lt_zero _)
  | n + 1 => rest_step A1 A2 A3 q1 q2 q3 t a b ls rs LA RA lq rq w00 hat fL fR mb hmb n (rest_any A1 A2 A3 q1 q2 q3 t a b ls rs LA RA lq rq w00 hat fL fR mb hmb n)
end Go.Proofs.YtkkbkhcapogobaaGreatDoor
end
section
namespace Go.Proofs.YtkkbkhcapogobaaGreatDoor
open Go Go.RowKit Go.Lib Go.Proofs S Go.Shelf Go.Maps Go.WideMaps
set_option linter.unusedVariables false
set_option linter.unusedSimpArgs false

theorem side_word (t : Tab) (k : Int) (s : Str) : sideS t k s = (wordL k s).map (sideL t k) := by
  unfold sideS wordL
  cases foldS k s with
  | none => rfl
  | some f => cases lettersS k f <;> rfl
theorem word_size {k : Int} {s : Str} {ls : List Str} (h : wordL k s = some ls) : 1 ≤ ls.length ∧ ls.length ≤ 12 := by
  unfold wordL at h
  split at h
  · cases h
  · exact letters_size h
set_option maxRecDepth 100000 in
set_option maxHeartbeats 4000000 in
theorem refProper_any (A1 A2 A3 : Option Addr) (q1 q2 q3 : Nat) (t : Tab) (a : Int) (x : Str) (b : Int) (y : Str) (w : World) (ht : TabAt w A1 A2 A3 t) (hfr : ∀ r ∈ t.rules, FitR r) (hfd : ∀ d ∈ t.drops, FitD d) (hfe : ∀ d ∈ t.ends, FitD d) (hx : x.length ≤ 1000) (hy : y.length ≤ 1000) :
    Calls Tryz.prog 18 #[tabVal A1 q1 A2 q2 A3 q3 t, .int .i64 a, .string (B x), .int .i64 b, .string (B y)] w fun e w' => Ext w w' ∧ e = .returned (.bool ((wordL a x).isSome && (wordL b y).isSome && validS t)) := by
  have HV : Hid (∀ W, Ext w W → Calls Tryz.prog 31 #[tabVal A1 q1 A2 q2 A3 q3 t] W fun e w' => Ext W w' ∧ e = .returned (.bool (validS t))) := Lib.hid (fun W h => refValid_any A1 A2 A3 q1 q2 q3 t W (ht.ext h) hfr hfd hfe)
  have HX : Hid (∀ W, Calls Tryz.prog 19 #[.int .i64 a, .string (B x)] W fun e w' => Ext W w' ∧ ((wordL a x = none ∧ e = .returned (.tuple #[.slice none 0 0, .bool false])) ∨
      ∃ A q ls, wordL a x = some ls ∧ e = .returned (.tuple #[.slice A ls.length q, .bool true]) ∧ w'.ownsRow W.heap.size 9 1 (.slice A ls.length q) ls.length (strVals (ls.map B)))) := Lib.hid (fun W => ref11Letters_any a x W (by omega))
  have HY : Hid (∀ W, Calls Tryz.prog 19 #[.int .i64 b, .string (B y)] W fun e w' => Ext W w' ∧ ((wordL b y = none ∧ e = .returned (.tuple #[.slice none 0 0, .bool false])) ∨
      ∃ A q ls, wordL b y = some ls ∧ e = .returned (.tuple #[.slice A ls.length q, .bool true]) ∧ w'.ownsRow W.heap.size 9 1 (.slice A ls.length q) ls.length (strVals (ls.map B)))) := Lib.hid (fun W => ref11Letters_any b y W (by omega))
  clear ht hfr hfd hfe
  unfold tabVal at HV ⊢
  go_enter Tryz.func18, Tryz.ntmps18
  go_upto_region 1 with fail
  have hN := Ext.new w (.cells #[.slice A1 t.rules.length q1, .slice A2 t.drops.length q2, .slice A3 t.ends.length q3, .int .i64 t.drop, .int .i64 t.order, .int .i64 t.initial] 25)
  have kT := World.alloc_heap_new w (.cells #[.slice A1 t.rules.length q1, .slice A2 t.drops.length q2, .slice A3 t.ends.length q3, .int .i64 t.drop, .int .i64 t.order, .int .i64 t.initial] 25)
  obtain ⟨W1, hW1⟩ : ∃ W1, (w.alloc (.cells #[.slice A1 t.rules.length q1, .slice A2 t.drops.length q2, .slice A3 t.ends.length q3, .int .i64 t.drop, .int .i64 t.order, .int .i64 t.initial] 25)) = W1 := ⟨_, rfl⟩
  rw [hW1] at hN kT ⊢
  clear hW1
  go_upto_region 2 with (go_at_call 19; (with_reducible refine (HX.out _).mono ?_); rintro e W2 ⟨hx2, (⟨h1, rfl⟩ | ⟨AX, qX, ls, h1, rfl, _⟩)⟩)
  · have R1 := Lib.hid h1
    clear h1
    go_upto_region 3 with (go_at_call 19; (with_reducible refine (HY.out _).mono ?_); rintro e W3 ⟨hx3, (⟨h2, rfl⟩ | ⟨AY, qY, rs, h2, rfl, _⟩)⟩)
    all_goals
      clear h2
      go_wp2
      go_ret
      exact ⟨Ext.trans hN (Ext.trans hx2 hx3), ret_bool (by rw [R1.out]; rfl)⟩
  · have R1 := Lib.hid h1
    clear h1
    go_upto_region 3 with (go_at_call 19; (with_reducible refine (HY.out _).mono ?_); rintro e W3 ⟨hx3, (⟨h2, rfl⟩ | ⟨AY, qY, rs, h2, rfl, _⟩)⟩)
    · have R2 := Lib.hid h2
      clear h2
      go_wp2
      go_ret
      exact ⟨Ext.trans hN (Ext.trans hx2 hx3), ret_bool (by rw [R1.out, R2.out]; rfl)⟩
    · have R2 := Lib.hid h2
      clear h2
      have kT3 := cell_of (block_ext kT (Ext.trans hx2 hx3))
      have hb := Ext.trans hN (Ext.trans hx2 hx3)
      go_wp2_with (go_at_call 31; (with_reducible refine (HV.out _ hb).mono ?_); rintro e W4 ⟨hx4, rfl⟩)
      go_ret
      exact ⟨Ext.trans hb hx4, ret_bool (by rw [R1.out, R2.out]; rfl)⟩
set_option maxRecDepth 100000 in
set_option maxHeartbeats 4000000 in
theorem refCosts_any (A1 A2 A3 : Option Addr) (q1 q2 q3 : Nat) (t : Tab) (a : Int) (x : Str) (b : Int) (y : Str) (ls rs : List Str) (w : World) (hrules : ElemsAt w A1 4 (t.rules.map ruleVals)) (hfr : ∀ r ∈ t.rules, FitR r) (hlen : t.rules.length ≤ 1000) (hx : x.length ≤ 1000) (hy : y.length ≤ 1000)
    (h1 : wordL a x = some ls) (h2 : wordL b y = some rs) (fL : Fine (sideL t a ls)) (fR : Fine (sideL t b rs)) :
    Calls Tryz.prog 20 #[tabVal A1 q1 A2 q2 A3 q3 t, .int .i64 a, .string (B x), .int .i64 b, .string (B y)] w fun e w' => Ext w w' ∧ ∃ mb f n, e = .returned (.map (some mb)) ∧ w.heap.size ≤ mb ∧ MapAt Tryz.prog 62 w' mb n f ∧ PInv (sideL t a ls) (sideL t b rs) f ∧ (f (pVal St.start)).isSome = true := by
  have HX : Hid (∀ W, Calls Tryz.prog 19 #[.int .i64 a, .string (B x)] W fun e w' => Ext W w' ∧ ∃ A q, e = .returned (.tuple #[.slice A ls.length q, .bool true]) ∧ ElemsAt w' A 1 (strRows ls)) := Lib.hid (fun W => by
    refine (ref11Letters_any a x W (by omega)).mono ?_
    rintro e w' ⟨hb, (⟨hn, _⟩ | ⟨A, q, ls', hn, rfl, ho⟩)⟩
    · rw [h1] at hn; cases hn
    · rw [h1] at hn; cases hn
      obtain ⟨A', q', hz, he⟩ := own_strs ho
      cases hz
      exact ⟨hb, _, _, rfl, he⟩)
  have HY : Hid (∀ W, Calls Tryz.prog 19 #[.int .i64 b, .string (B y)] W fun e w' => Ext W w' ∧ ∃ A q, e = .returned (.tuple #[.slice A rs.length q, .bool true]) ∧ ElemsAt w' A 1 (strRows rs)) := Lib.hid (fun W => by
    refine (ref11Letters_any b y W (by omega)).mono ?_
    rintro e w' ⟨hb, (⟨hn, _⟩ | ⟨A, q, ls', hn, rfl, ho⟩)⟩
    · rw [h2] at hn; cases hn
    · rw [h2] at hn; cases hn
      obtain ⟨A', q', hz, he⟩ := own_strs ho
      cases hz
      exact ⟨hb, _, _, rfl, he⟩)
  have hls := word_size h1
  have hrs := word_size h2
  have HRS : Hid (∀ (LA RA : Option Addr) (lq rq : Nat) (W : World), Ext w W → ElemsAt W LA 1 (strRows ls) → ElemsAt W RA 1 (strRows rs) → Calls Tryz.prog 34 #[tabVal A1 q1 A2 q2 A3 q3 t, .int .i64 a, .slice LA ls.length lq, .int .i64 b, .slice RA rs.length rq, .agg #[.int .i64 0, .int .i64 0, .string ⟨#[]⟩, .bool false, .int .i64 0], .map (some W.heap.size)] (W.alloc (.map #[] 0)) (RestRes (sideL t a ls) (sideL t b rs) W.heap.size (fun _ => none) St.start (W.alloc (.map #[] 0)))) := Lib.hid (fun LA RA lq rq W hb hl hr =>
    rest_any A1 A2 A3 q1 q2 q3 t a b ls rs LA RA lq rq W ⟨hrules.ext hb, hfr, hlen, hl, hr, hls.2, hrs.2⟩ fL fR W.heap.size (Nat.le_refl _) _ St.start (start_in _ _) (Nat.lt_succ_self _) _ _ 0 (Cells.of_ext (Ext.new W _)) (MapAt.new _ _ W) (pinv_none _ _))
  clear h1 h2 fL fR hrules hfr
  unfold tabVal at HRS ⊢
  go_enter Tryz.func20, Tryz.ntmps20
  go_upto_region 1 with fail
  have hN := Ext.new w (.cells #[.slice A1 t.rules.length q1, .slice A2 t.drops.length q2, .slice A3 t.ends.length q3, .int .i64 t.drop, .int .i64 t.order, .int .i64 t.initial] 25)
  have kT := World.alloc_heap_new w (.cells #[.slice A1 t.rules.length q1, .slice A2 t.drops.length q2, .slice A3 t.ends.length q3, .int .i64 t.drop, .int .i64 t.order, .int .i64 t.initial] 25)
  obtain ⟨W1, hW1⟩ : ∃ W1, (w.alloc (.cells #[.slice A1 t.rules.length q1, .slice A2 t.drops.length q2, .slice A3 t.ends.length q3, .int .i64 t.drop, .int .i64 t.order, .int .i64 t.initial] 25)) = W1 := ⟨_, rfl⟩
  rw [hW1] at hN kT ⊢
  clear hW1
  go_upto_region 2 with (go_at_call 19; (with_reducible refine (HX.out _).mono ?_); rintro e W2 ⟨hx2, AX, qX, rfl, heX⟩)
  go_upto_region 3 with (go_at_call 19; (with_reducible refine (HY.out _).mono ?_); rintro e W3 ⟨hx3, AY, qY, rfl, heY⟩)
  have kT3 := cell_of (block_ext kT ((Ext.trans hx2 hx3).alloc (.map #[] 0)))
  have hb := Ext.trans hN (Ext.trans hx2 hx3)
  have HRR := Lib.hid (HRS.out AX AY qX qY W3 hb (heX.ext hx3) heY)
  have hmm := @run_makeMap Tryz.prog
  clear heX heY kT
  go_wp2_with (go_at_call 34; (with_reducible refine HRR.out.mono ?_); rintro e W4 ⟨rfl, hmod, f', n', u1, u2, u3, u4⟩)
  go_ret
  exact ⟨Mod.below_trans (hb.alloc _) hmod (hb.alloc _).size (fun i hi h => by have := hb.size; omega), _, f', ⟨n', rfl, hb.size, u1, u2, u4⟩⟩
end Go.Proofs.YtkkbkhcapogobaaGreatDoor
end
section
namespace Go.Proofs.YtkkbkhcapogobaaGreatDoor
open Go Go.RowKit Go.Lib Go.Proofs S Go.Shelf Go.Maps Go.WideMaps
set_option linter.unusedVariables false
set_option linter.unusedSimpArgs false

structure BestP (w00 : World) (Bs Bd : Nat) (s : St) (d : Der) (vL vR : Value) (W : World) : Prop where
  ext : Ext w00 W
  st : W.heap[Bs]? = some (.cells (pVals s) 62)
  der : W.heap[Bd]? = some (.cells #[.int .i64 d.cost, vL, vR, .string (B d.form)] 28)
  left : W.ownsRow w00.heap.size 3 1 vL d.left.length (intVs d.left)
  right : W.ownsRow w00.heap.size 3 1 vR d.right.length (intVs d.right)
  apart : ∀ g, vL.ownBlock = some g → vR.ownBlock ≠ some g
section
variable {w00 : World} {Bs Bd : Nat} {s : St} {d : Der} {vL vR : Value} {W : World}
theorem BestP.grow {W' : World} (h : BestP w00 Bs Bd s d vL vR W) (hm : Ext W W') : BestP w00 Bs Bd s d vL vR W' :=
  ⟨Ext.trans h.ext hm, block_ext h.st hm, block_ext h.der hm, own_ext h.left hm, own_ext h.right hm, h.apart⟩
theorem BestP.ne (h : BestP w00 Bs Bd s d vL vR W) : Bs ≠ Bd := by
  rintro rfl
  have := h.st; rw [h.der] at this; simp at this
theorem BestP.appLeft {w5 : World} {z1 : Value} {x : Int} (h : BestP w00 Bs Bd s d vL vR W) (hd : w00.heap.size ≤ Bd)
    (hm : Mod (fun k => vL.ownBlock = some k) W w5) (ho : w5.ownsRow w00.heap.size 3 1 z1 (d.left.length + 1) (intVs d.left ++ [.int .i64 x])) (hl : z1.ownBlock = vL.ownBlock ∨ ∃ g, z1.ownBlock = some g ∧ W.heap.size ≤ g) :
    BestP w00 Bs Bd s { d with left := d.left ++ [x] } z1 vR (w5.setCell ⟨Bd, 1, none⟩ z1) := by
  have kS5 := block_keep h.st hm (fun hk => own_far h.left hk h.st (by decide) rfl)
  have kD5 := block_keep h.der hm (fun hk => own_far h.left hk h.der (by decide) rfl)
  have md : Mod (fun k => k = Bd) w5 (w5.setCell ⟨Bd, 1, none⟩ z1) := (Mod.refl (fun k => k = Bd) w5).setCell (p := ⟨Bd, 1, none⟩) (.inl rfl) _
  refine ⟨Mod.below_trans (Mod.below_trans h.ext hm h.ext.size (fun i hi hk => by have := (ownsRow_block h.left hk).1; omega)) md (Nat.le_trans h.ext.size hm.size) (fun i hi hk => by omega), block_keep kS5 md h.ne, ?_, ?_, ?_, ?_⟩
  · have := block_set kD5 1 z1
    rw [this]; simp
  · simp only [List.length_append, List.length_cons, List.length_nil]
    rw [intVs_snoc]
    exact ownsRow_mod ho md (fun g hg e => own_far ho hg kD5 (by decide) e)
  · have o1 := ownsRow_mod h.right hm (fun g hg hk => h.apart _ hk hg)
    exact ownsRow_mod o1 md (fun g hg e => own_far o1 hg kD5 (by decide) e)
  · intro g hg
    rcases hl with hl | ⟨g', hl, hlt⟩
    · exact h.apart g (hl ▸ hg)
    · rw [hl] at hg; cases hg
      intro hr
      have := (ownsRow_block h.right hr).2.1
      omega
theorem BestP.appRight {w5 : World} {z1 : Value} {x : Int} (h : BestP w00 Bs Bd s d vL vR W) (hd : w00.heap.size ≤ Bd)
    (hm : Mod (fun k => vR.ownBlock = some k) W w5) (ho : w5.ownsRow w00.heap.size 3 1 z1 (d.right.length + 1) (intVs d.right ++ [.int .i64 x])) (hl : z1.ownBlock = vR.ownBlock ∨ ∃ g, z1.ownBlock = some g ∧ W.heap.size ≤ g) :
    BestP w00 Bs Bd s { d with right := d.right ++ [x] } vL z1 (w5.setCell ⟨Bd, 2, none⟩ z1) := by
  have kS5 := block_keep h.st hm (fun hk => own_far h.right hk h.st (by decide) rfl)
  have kD5 := block_keep h.der hm (fun hk => own_far h.right hk h.der (by decide) rfl)
  have md : Mod (fun k => k = Bd) w5 (w5.setCell ⟨Bd, 2, none⟩ z1) := (Mod.refl (fun k => k = Bd) w5).setCell (p := ⟨Bd, 2, none⟩) (.inl rfl) _
  refine ⟨Mod.below_trans (Mod.below_trans h.ext hm h.ext.size (fun i hi hk => by have := (ownsRow_block h.right hk).1; omega)) md (Nat.le_trans h.ext.size hm.size) (fun i hi hk => by omega), block_keep kS5 md h.ne, ?_, ?_, ?_, ?_⟩
  · have := block_set kD5 2 z1
    rw [this]; simp
  · have o1 := ownsRow_mod h.left hm (fun g hg hk => h.apart _ hg hk)
    exact ownsRow_mod o1 md (fun g hg e => own_far o1 hg kD5 (by decide) e)
  · simp only [List.length_append, List.length_cons, List.length_nil]
    rw [intVs_snoc]
    exact ownsRow_mod ho md (fun g hg e => own_far ho hg kD5 (by decide) e)
  · intro g hg
    rcases hl with hl | ⟨g', hl, hlt⟩
    · rw [hl]; exact h.apart g hg
    · rw [hl]; intro hr; cases hr
      have := (ownsRow_block h.left hg).2.1
      omega
theorem BestP.setForm (h : BestP w00 Bs Bd s d vL vR W) (hd : w00.heap.size ≤ Bd) (f : Str) : BestP w00 Bs Bd s { d with form := f } vL vR (W.setCell ⟨Bd, 3, none⟩ (.string (B f))) := by
  have md : Mod (fun k => k = Bd) W (W.setCell ⟨Bd, 3, none⟩ (.string (B f))) := (Mod.refl (fun k => k = Bd) W).setCell (p := ⟨Bd, 3, none⟩) (.inl rfl) _
  refine ⟨Mod.below_trans h.ext md h.ext.size (fun i hi hk => by omega), block_keep h.st md h.ne, ?_, ownsRow_mod h.left md (fun g hg e => own_far h.left hg h.der (by decide) e), ownsRow_mod h.right md (fun g hg e => own_far h.right hg h.der (by decide) e), h.apart⟩
  have := block_set h.der 3 (.string (B f))
  rw [this]; simp
theorem BestP.setSt (h : BestP w00 Bs Bd s d vL vR W) (hs : w00.heap.size ≤ Bs) (s' : St) : BestP w00 Bs Bd s' d vL vR (((((W.setCell ⟨Bs, 0, none⟩ (.int .i64 s'.i)).setCell ⟨Bs, 1, none⟩ (.int .i64 s'.j)).setCell ⟨Bs, 2, none⟩ (.string (B s'.ahead))).setCell ⟨Bs, 3, none⟩ (.bool s'.right)).setCell ⟨Bs, 4, none⟩ (.int .i64 0)) := by
  have md : Mod (fun k => k = Bs) W (((((W.setCell ⟨Bs, 0, none⟩ (.int .i64 s'.i)).setCell ⟨Bs, 1, none⟩ (.int .i64 s'.j)).setCell ⟨Bs, 2, none⟩ (.string (B s'.ahead))).setCell ⟨Bs, 3, none⟩ (.bool s'.right)).setCell ⟨Bs, 4, none⟩ (.int .i64 0)) :=
    (((((Mod.refl (fun k => k = Bs) W).setCell (p := ⟨Bs, 0, none⟩) (.inl rfl) _).setCell (p := ⟨Bs, 1, none⟩) (.inl rfl) _).setCell (p := ⟨Bs, 2, none⟩) (.inl rfl) _).setCell (p := ⟨Bs, 3, none⟩) (.inl rfl) _).setCell (p := ⟨Bs, 4, none⟩) (.inl rfl) _
  refine ⟨Mod.below_trans h.ext md h.ext.size (fun i hi hk => by omega), ?_, block_keep h.der md (fun e => h.ne e.symm), ownsRow_mod h.left md (fun g hg e => own_far h.left hg h.st (by decide) e), ownsRow_mod h.right md (fun g hg e => own_far h.right hg h.st (by decide) e), h.apart⟩
  have := block_set (block_set (block_set (block_set (block_set h.st 0 (.int .i64 s'.i)) 1 (.int .i64 s'.j)) 2 (.string (B s'.ahead))) 3 (.bool s'.right)) 4 (.int .i64 0)
  rw [this]
  simp [pVals]
end
theorem own_moves' {w : World} {base : Nat} {A : Option Addr} {q : Nat} {ms : List (ARule × St)} (h : w.ownsRow base 66 7 (.slice A ms.length q) ms.length (ms.flatMap mvVals)) : ElemsAt w A 7 (ms.map mvVals) ∧ ∀ ar, A = some ar → base ≤ ar.block := by
  refine ⟨?_, ?_⟩
  · obtain ⟨A', q', h1, h2⟩ := own_moves (n := 0) h
    cases h1; exact h2
  · rintro ar rfl
    rcases h.2 with ⟨h1, _⟩ | ⟨g, cap, cur, h1, hb, _⟩
    · cases h1
    · cases h1; exact hb
end Go.Proofs.YtkkbkhcapogobaaGreatDoor
end
