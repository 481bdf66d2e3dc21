/- Contracts: the laws' helpers: Few, few, is. -/
import Derived.Test.YtkkbkhcapogobaaGreatDoorR0
import Derived.Deep.QuietTactic
import Derived.BigQuiet
section
namespace Go.Proofs.YtkkbkhcapogobaaGreatDoor
open Go Go.RowKit Go.Lib Go.Proofs S Go.Shelf Go.Maps Go.WideMaps
set_option linter.unusedVariables false
set_option linter.unusedSimpArgs false

def intRows (l : List Int) : List (List Value) := l.map (fun i => [Value.int .i64 i])
theorem take_more {l m : List Int} {k : Nat} (h : l.take k = m.take k) (hl : k < l.length) (hm : k < m.length) (he : l[k] = m[k]) : l.take (k + 1) = m.take (k + 1) := by
  rw [(List.take_append_getElem hl).symm, (List.take_append_getElem hm).symm, h, he]
theorem take_eq {l m : List Int} (hlen : l.length = m.length) (h : l.take l.length = m.take l.length) : l = m := by
  rw [List.take_length, hlen, List.take_length] at h; exact h
set_option maxRecDepth 100000 in
theorem Ints_any (A A' : Option Addr) (q q' : Nat) (l m : List Int) (w : World) (hl : ElemsAt w A 1 (intRows l)) (hm : ElemsAt w A' 1 (intRows m)) (hs : l.length ≤ Go.maxLen) (hs' : m.length ≤ Go.maxLen) :
    Calls Tryz.prog 22 #[.slice A l.length q, .slice A' m.length q'] w fun e w' => Ext w w' ∧ e = .returned (.bool (decide (l = m))) := by
  unfold Go.maxLen at hs hs'
  by_cases hlen : l.length = m.length
  · have HR : Hid (l.take l.length = m.take l.length → decide (l = m) = true) := Lib.hid (fun h => by simp [take_eq hlen h])
    have HN : Hid (∀ (k : Nat) (x y : Int), l[k]? = some x → m[k]? = some y → x ≠ y → decide (l = m) = false) := Lib.hid (fun k x y h1 h2 hne => by
      refine decide_eq_false ?_
      rintro rfl
      rw [h1] at h2; cases h2; exact hne rfl)
    have hmi : (m.length : Int) = l.length := by rw [hlen]
    rw [← hlen]
    have HLEN := Lib.hid hlen
    clear hlen
    go_enter Tryz.func22, Tryz.ntmps22
    go_wp2
    go_loopw [5] (fun i wr => ∃ k : Nat, k ≤ l.length ∧ l.take k = m.take k ∧ i = .int .i64 k ∧ Ext w wr) (fun i _ => l.length - (intOf i).toNat)
    case atStart => exact ⟨0, Nat.zero_le _, rfl, rfl, Below.refl _ w⟩
    case round =>
      rename_i hrel
      obtain ⟨k, hk, htk, rfl, hb⟩ := hrel
      by_cases hkk : k < l.length
      · have hkm : k < m.length := by rw [← HLEN.out]; exact hkk
        have hx : l[k]? = some l[k] := List.getElem?_eq_getElem hkk
        have hy : m[k]? = some m[k] := List.getElem?_eq_getElem hkm
        obtain ⟨a, rfl, hc⟩ := (hl.ext hb).elem hx
        obtain ⟨a', rfl, hc'⟩ := (hm.ext hb).elem hy
        have HT : Hid (l[k] = m[k] → l.take (k + 1) = m.take (k + 1)) := Lib.hid (take_more htk hkk hkm)
        generalize l[k] = x at hx hc HT
        generalize m[k] = y at hy hc' HT
        have c1 : wr.cell? (a.add k) = some (.int .i64 x) := by have := hc 0 _ rfl; rwa [Addr.add_zero, Nat.mul_one] at this
        have c2 : wr.cell? (a'.add k) = some (.int .i64 y) := by have := hc' 0 _ rfl; rwa [Addr.add_zero, Nat.mul_one] at this
        have HXY := Lib.hid (And.intro hx hy)
        clear hc hc' hx hy htk hkm
        by_cases hxy : x = y
        · skip
          have hxy' : (x == y) = true := by simp [hxy]
          go_wp2
          go_quiet (fail)
          go_wp2
          go_roundw
          case rel => exact ⟨k + 1, by omega, HT.out hxy, by simp, Ext.trans hb (below_drewN _ _)⟩
          case measure => simp [intOf]; omega
        · skip
          go_wp2
          go_quiet (fail)
          go_wp2
          go_ret
          exact ⟨Ext.trans hb (below_drewN _ _), ret_bool (HN.out k x y HXY.out.1 HXY.out.2 hxy).symm⟩
      · have hkl : k = l.length := by omega
        have R : Hid (decide (l = m) = true) := Lib.hid (HR.out (by rw [← hkl]; exact htk))
        clear htk
        go_wp2
        go_ret
        exact ⟨hb, ret_bool R.out.symm⟩
  · have R : Hid (decide (l = m) = false) := Lib.hid (decide_eq_false (fun h => hlen (by rw [h])))
    go_enter Tryz.func22, Tryz.ntmps22
    go_wp2
    go_ret
    exact ⟨Below.refl _ w, ret_bool R.out.symm⟩

def DerFit (d : Der) : Prop := d.left.length ≤ Go.maxLen ∧ d.right.length ≤ Go.maxLen
set_option maxRecDepth 100000 in
theorem Same_any (d d' : Der) (A4 A5 B4 B5 : Option Addr) (q4 q5 p4 p5 : Nat) (w : World) (h1 : ElemsAt w A4 1 (intRows d.left)) (h2 : ElemsAt w A5 1 (intRows d.right)) (h3 : ElemsAt w B4 1 (intRows d'.left)) (h4 : ElemsAt w B5 1 (intRows d'.right)) (hf : DerFit d) (hf' : DerFit d') :
    Calls Tryz.prog 8 #[derVal d.cost A4 d.left.length q4 A5 d.right.length q5 d.form, derVal d'.cost B4 d'.left.length p4 B5 d'.right.length p5 d'.form] w fun e w' => Ext w w' ∧ e = .returned (.bool (decide (d = d'))) := by
  obtain ⟨c, l, r, f⟩ := d
  obtain ⟨c', l', r', f'⟩ := d'
  dsimp only [DerFit] at *
  have H1 : Hid (∀ w', Ext w w' → Calls Tryz.prog 22 #[.slice A4 l.length q4, .slice B4 l'.length p4] w' fun e w'' => Ext w' w'' ∧ e = .returned (.bool (decide (l = l')))) := Lib.hid (fun w' h => Ints_any A4 B4 q4 p4 l l' w' (h1.ext h) (h3.ext h) hf.1 hf'.1)
  have H2 : Hid (∀ w', Ext w w' → Calls Tryz.prog 22 #[.slice A5 r.length q5, .slice B5 r'.length p5] w' fun e w'' => Ext w' w'' ∧ e = .returned (.bool (decide (r = r')))) := Lib.hid (fun w' h => Ints_any A5 B5 q5 p5 r r' w' (h2.ext h) (h4.ext h) hf.2 hf'.2)
  have hd : decide ((⟨c, l, r, f⟩ : Der) = ⟨c', l', r', f'⟩) = (decide (c = c') && decide (f = f') && decide (l = l') && decide (r = r')) := by
    rw [Bool.eq_iff_iff]
    simp only [decide_eq_true_eq, Bool.and_eq_true, Der.mk.injEq]
    constructor
    · rintro ⟨h1, h2, h3, h4⟩; exact ⟨⟨⟨h1, h4⟩, h2⟩, h3⟩
    · rintro ⟨⟨⟨h1, h4⟩, h2⟩, h3⟩; exact ⟨h1, h2, h3, h4⟩
  rw [hd]
  clear hd h1 h2 h3 h4 hf hf'
  have hx2 : ∀ o1 o2, Ext w ((w.alloc o1).alloc o2) := fun o1 o2 => (Ext.new w o1).alloc o2
  have HX := Lib.hid hx2
  have hbx : ∀ cs1 t1 cs2 t2 w1, Ext ((w.alloc (.cells cs1 t1)).alloc (.cells cs2 t2)) w1 → (∀ n, w1.cell? ⟨w.heap.size, n, none⟩ = cs1[n]?) ∧ (∀ n, w1.cell? ⟨w.heap.size + 1, n, none⟩ = cs2[n]?) ∧ Ext w w1 := fun cs1 t1 cs2 t2 w1 h => ⟨(cells_new2 h).1, (cells_new2 h).2.1, (cells_new2 h).2.2⟩
  have HBX := Lib.hid hbx
  clear hx2 hbx
  generalize decide (l = l') = bl at H1 ⊢
  generalize decide (r = r') = br at H2 ⊢
  unfold derVal
  by_cases hc : c = c'
  · skip
    by_cases hf : f = f'
    · subst hc
      subst hf
      cases bl
      case false =>
        go_enter Tryz.func8, Tryz.ntmps8
        go_wp2_with (go_at_call 22; (with_reducible refine (H1.out _ (HX.out _ _)).mono ?_); rintro e w1 ⟨hb1, rfl⟩; obtain ⟨u1, u2, u3⟩ := HBX.out _ _ _ _ _ hb1)
        go_ret
        exact ⟨u3, ret_bool (by simp)⟩
      case true =>
        go_enter Tryz.func8, Tryz.ntmps8
        go_wp2_with (first | (go_at_call 22; (with_reducible refine (H1.out _ (HX.out _ _)).mono ?_); rintro e w1 ⟨hb1, rfl⟩; obtain ⟨u1, u2, u3⟩ := HBX.out _ _ _ _ _ hb1) | (go_at_call 22; (with_reducible refine (H2.out _ u3).mono ?_); rintro e w2 ⟨hb2, rfl⟩; obtain ⟨v1, v2, v3⟩ := HBX.out _ _ _ _ _ (Ext.trans hb1 hb2)))
        go_ret
        exact ⟨v3, ret_bool (by simp)⟩
    · have HF := Lib.hid (decide_eq_false hf)
      subst hc
      go_enter Tryz.func8, Tryz.ntmps8
      go_wp2
      go_ret
      exact ⟨HX.out _ _, ret_bool (by simp [HF.out])⟩
  · have HC := Lib.hid (decide_eq_false hc)
    go_enter Tryz.func8, Tryz.ntmps8
    go_wp2
    go_ret
    exact ⟨HX.out _ _, ret_bool (by simp [HC.out])⟩
end Go.Proofs.YtkkbkhcapogobaaGreatDoor
end
section
namespace Go.Proofs.YtkkbkhcapogobaaGreatDoor
open Go Go.RowKit Go.Lib Go.Proofs S Go.Shelf Go.Maps Go.WideMaps
set_option linter.unusedVariables false
set_option linter.unusedSimpArgs false

theorem all_snoc {α : Type} {p : α → Bool} {l : List α} {k : Nat} (hk : k < l.length) (h : ∀ r ∈ l.take k, p r = true) (hp : p l[k] = true) : ∀ r ∈ l.take (k + 1), p r = true := by
  rw [(List.take_append_getElem hk).symm]
  intro r hr
  rcases List.mem_append.1 hr with hr | hr
  · exact h r hr
  · simp only [List.mem_singleton] at hr; subst hr; exact hp
theorem all_done {α : Type} {p : α → Bool} {l : List α} (h : ∀ r ∈ l.take l.length, p r = true) : l.all p = true := by
  rw [List.take_length] at h; exact List.all_eq_true.2 h
theorem all_bad {α : Type} {p : α → Bool} {l : List α} {r : α} (hr : r ∈ l) (h : p r = false) : l.all p = false := by
  rw [List.all_eq_false]; exact ⟨r, hr, by simp [h]⟩
set_option maxRecDepth 100000 in
set_option maxHeartbeats 4000000 in
theorem Few_any (A1 A2 A3 Aw : Option Addr) (q1 q2 q3 qw : Nat) (t : Tab) (ws : List Str) (w : World) (ht : TabRd w A1 A2 A3 t) (hw : ElemsAt w Aw 1 (ws.map (fun x => [Value.string (B x)]))) (hwl : ws.length ≤ 1000) :
    Calls Tryz.prog 13 #[tabVal A1 q1 A2 q2 A3 q3 t, .slice Aw ws.length qw] w fun e w' => Ext w w' ∧ e = .returned (.bool (fewS t ws)) := by
  unfold tabVal
  obtain ⟨tr, td, te, n1, n2, n3⟩ := t
  have hrl := ht.rlen
  have hdl := ht.dlen
  have hel := ht.elen
  unfold Go.maxLen at hrl hdl hel
  dsimp only at *
  have hsp : fewS ⟨tr, td, te, n1, n2, n3⟩ ws = (decide (tr.length ≤ 80) && decide (td.length ≤ 40) && decide (te.length ≤ 40) && tr.all fewRule && td.all fewDrop && te.all fewDrop && ws.all fewWord) := rfl
  rw [hsp]; clear hsp
  have hX := Ext.new w (.cells #[.slice A1 tr.length q1, .slice A2 td.length q2, .slice A3 te.length q3, .int .i64 n1, .int .i64 n2, .int .i64 n3] 25)
  have hbx := World.alloc_heap_new w (.cells #[.slice A1 tr.length q1, .slice A2 td.length q2, .slice A3 te.length q3, .int .i64 n1, .int .i64 n2, .int .i64 n3] 25)
  have HRr := Lib.hid ht.rules
  have HRd := Lib.hid ht.drops
  have HRe := Lib.hid ht.ends
  have HRw := Lib.hid hw
  clear ht hw
  by_cases h1 : tr.length ≤ 80
  rotate_left
  ·
    have R : Hid ((decide (tr.length ≤ 80) && decide (td.length ≤ 40) && decide (te.length ≤ 40) && tr.all fewRule && td.all fewDrop && te.all fewDrop && ws.all fewWord) = false) := Lib.hid (by simp [h1])
    go_enter Tryz.func13, Tryz.ntmps13
    go_wp2
    go_ret
    first | exact ⟨hX, rfl⟩ | exact ⟨hX, ret_bool R.out.symm⟩
  by_cases h2 : td.length ≤ 40
  rotate_left
  ·
    have R : Hid ((decide (tr.length ≤ 80) && decide (td.length ≤ 40) && decide (te.length ≤ 40) && tr.all fewRule && td.all fewDrop && te.all fewDrop && ws.all fewWord) = false) := Lib.hid (by simp [h2])
    go_enter Tryz.func13, Tryz.ntmps13
    go_wp2
    go_ret
    first | exact ⟨hX, rfl⟩ | exact ⟨hX, ret_bool R.out.symm⟩
  by_cases h3 : te.length ≤ 40
  rotate_left
  ·
    have R : Hid ((decide (tr.length ≤ 80) && decide (td.length ≤ 40) && decide (te.length ≤ 40) && tr.all fewRule && td.all fewDrop && te.all fewDrop && ws.all fewWord) = false) := Lib.hid (by simp [h3])
    go_enter Tryz.func13, Tryz.ntmps13
    go_wp2
    go_ret
    first | exact ⟨hX, rfl⟩ | exact ⟨hX, ret_bool R.out.symm⟩
  have hF : (decide (tr.length ≤ 80) && decide (td.length ≤ 40) && decide (te.length ≤ 40) && tr.all fewRule && td.all fewDrop && te.all fewDrop && ws.all fewWord) = (tr.all fewRule && td.all fewDrop && te.all fewDrop && ws.all fewWord) := by simp [h1, h2, h3]
  rw [hF]; clear hF
  have RA : Hid (∀ r ∈ tr, fewRule r = false → (tr.all fewRule && td.all fewDrop && te.all fewDrop && ws.all fewWord) = false) := Lib.hid (fun r hr h => by rw [all_bad hr h]; simp)
  have RB : Hid (∀ r ∈ td, fewDrop r = false → (tr.all fewRule && td.all fewDrop && te.all fewDrop && ws.all fewWord) = false) := Lib.hid (fun r hr h => by rw [all_bad hr h]; simp)
  have RC : Hid (∀ r ∈ te, fewDrop r = false → (tr.all fewRule && td.all fewDrop && te.all fewDrop && ws.all fewWord) = false) := Lib.hid (fun r hr h => by rw [all_bad hr h]; simp)
  have RD : Hid (∀ r ∈ ws, fewWord r = false → (tr.all fewRule && td.all fewDrop && te.all fewDrop && ws.all fewWord) = false) := Lib.hid (fun r hr h => by rw [all_bad hr h]; simp)
  have RT : Hid (tr.all fewRule = true → td.all fewDrop = true → te.all fewDrop = true → ws.all fewWord = true → (tr.all fewRule && td.all fewDrop && te.all fewDrop && ws.all fewWord) = true) := Lib.hid (fun h1 h2 h3 h4 => by rw [h1, h2, h3, h4]; rfl)
  generalize (tr.all fewRule && td.all fewDrop && te.all fewDrop && ws.all fewWord) = F at *
  go_enter Tryz.func13, Tryz.ntmps13
  go_wp2
  go_loopw [5] (fun i wr => ∃ k : Nat, k ≤ tr.length ∧ i = .int .i64 k ∧ Ext w wr ∧ wr.heap[w.heap.size]? = some (.cells #[.slice A1 tr.length q1, .slice A2 td.length q2, .slice A3 te.length q3, .int .i64 n1, .int .i64 n2, .int .i64 n3] 25) ∧ ∀ r ∈ tr.take k, fewRule r = true) (fun i _ => tr.length - (intOf i).toNat)
  case atStart => exact ⟨0, Nat.zero_le _, rfl, hX, hbx, by simp⟩
  case round =>
    rename_i hrel
    obtain ⟨k, hk, rfl, hb, hbk, hall⟩ := hrel
    have hcb := cell_of hbk
    by_cases hkk : k < tr.length
    · have hmem := List.getElem_mem hkk
      obtain ⟨a, rfl, hcells⟩ := (HRr.out.ext hb).elem (List.getElem?_eq_getElem hkk)
      have HALL : Hid (fewRule tr[k] = true → ∀ r ∈ tr.take (k + 1), fewRule r = true) := Lib.hid (all_snoc hkk hall)
      have HMEM := Lib.hid hmem
      clear hmem hall
      generalize tr[k] = r at hcells HALL HMEM
      obtain ⟨rs, rf, rt, rc⟩ := r
      obtain ⟨c0, c1, c2, c3⟩ := elem4 hcells
      have z1 : (B rf).size = rf.length := rfl
      have z2 : (B rt).size = rt.length := rfl
      clear hcells
      by_cases f1 : rf.length ≤ 12
      · by_cases f2 : rt.length ≤ 12
        · skip
          go_wp2
          go_roundw
          case rel => exact ⟨k + 1, by omega, by simp, hb, hbk, HALL.out (by simp [fewRule, f1, f2])⟩
          case measure => simp [intOf]; omega
        · have R : Hid (F = false) := Lib.hid (RA.out _ HMEM.out (by simp [fewRule, f2]))
          go_wp2
          go_ret
          exact ⟨hb, ret_bool R.out.symm⟩
      · have R : Hid (F = false) := Lib.hid (RA.out _ HMEM.out (by simp [fewRule, f1]))
        go_wp2
        go_ret
        exact ⟨hb, ret_bool R.out.symm⟩
    · have hkl : k = tr.length := by omega
      have D0 : Hid (tr.all fewRule = true) := Lib.hid (all_done (by rw [← hkl]; exact hall))
      clear hall
      go_wp2
      go_loopw [6] (fun i wr => ∃ k : Nat, k ≤ td.length ∧ i = .int .i64 k ∧ Ext w wr ∧ wr.heap[w.heap.size]? = some (.cells #[.slice A1 tr.length q1, .slice A2 td.length q2, .slice A3 te.length q3, .int .i64 n1, .int .i64 n2, .int .i64 n3] 25) ∧ ∀ r ∈ td.take k, fewDrop r = true) (fun i _ => td.length - (intOf i).toNat)
      case atStart => exact ⟨0, Nat.zero_le _, rfl, hb, hbk, by simp⟩
      case round =>
        clear hcb hb hbk
        rename_i hrel
        obtain ⟨k, hk, rfl, hb, hbk, hall⟩ := hrel
        have hcb := cell_of hbk
        by_cases hkk : k < td.length
        · have hmem := List.getElem_mem hkk
          obtain ⟨a, rfl, hcells⟩ := (HRd.out.ext hb).elem (List.getElem?_eq_getElem hkk)
          have HALL : Hid (fewDrop td[k] = true → ∀ r ∈ td.take (k + 1), fewDrop r = true) := Lib.hid (all_snoc hkk hall)
          have HMEM := Lib.hid hmem
          clear hmem hall
          generalize td[k] = r at hcells HALL HMEM
          obtain ⟨rs, rf, rc⟩ := r
          obtain ⟨c0, c1, c2⟩ := elem3 hcells
          have z1 : (B rf).size = rf.length := rfl
          clear hcells
          by_cases f1 : rf.length ≤ 60
          · skip
            go_wp2
            go_roundw
            case rel => exact ⟨k + 1, by omega, by simp, hb, hbk, HALL.out (by simp [fewDrop, f1])⟩
            case measure => simp [intOf]; omega
          · have R : Hid (F = false) := Lib.hid (RB.out _ HMEM.out (by simp [fewDrop, f1]))
            go_wp2
            go_ret
            exact ⟨hb, ret_bool R.out.symm⟩
        · have hkl : k = td.length := by omega
          have D1 : Hid (td.all fewDrop = true) := Lib.hid (all_done (by rw [← hkl]; exact hall))
          clear hall
          go_wp2
          go_loopw [7] (fun i wr => ∃ k : Nat, k ≤ te.length ∧ i = .int .i64 k ∧ Ext w wr ∧ wr.heap[w.heap.size]? = some (.cells #[.slice A1 tr.length q1, .slice A2 td.length q2, .slice A3 te.length q3, .int .i64 n1, .int .i64 n2, .int .i64 n3] 25) ∧ ∀ r ∈ te.take k, fewDrop r = true) (fun i _ => te.length - (intOf i).toNat)
          case atStart => exact ⟨0, Nat.zero_le _, rfl, hb, hbk, by simp⟩
          case round =>
            clear hcb hb hbk
            rename_i hrel
            obtain ⟨k, hk, rfl, hb, hbk, hall⟩ := hrel
            have hcb := cell_of hbk
            by_cases hkk : k < te.length
            · have hmem := List.getElem_mem hkk
              obtain ⟨a, rfl, hcells⟩ := (HRe.out.ext hb).elem (List.getElem?_eq_getElem hkk)
              have HALL : Hid (fewDrop te[k] = true → ∀ r ∈ te.take (k + 1), fewDrop r = true) := Lib.hid (all_snoc hkk hall)
              have HMEM := Lib.hid hmem
              clear hmem hall
              generalize te[k] = r at hcells HALL HMEM
              obtain ⟨rs, rf, rc⟩ := r
              obtain ⟨c0, c1, c2⟩ := elem3 hcells
              have z1 : (B rf).size = rf.length := rfl
              clear hcells
              by_cases f1 : rf.length ≤ 60
              · skip
                go_wp2
                go_roundw
                case rel => exact ⟨k + 1, by omega, by simp, hb, hbk, HALL.out (by simp [fewDrop, f1])⟩
                case measure => simp [intOf]; omega
              · have R : Hid (F = false) := Lib.hid (RC.out _ HMEM.out (by simp [fewDrop, f1]))
                go_wp2
                go_ret
                exact ⟨hb, ret_bool R.out.symm⟩
            · have hkl : k = te.length := by omega
              have D2 : Hid (te.all fewDrop = true) := Lib.hid (all_done (by rw [← hkl]; exact hall))
              clear hall
              go_wp2
              go_loopw [8] (fun i wr => ∃ k : Nat, k ≤ ws.length ∧ i = .int .i64 k ∧ Ext w wr ∧ wr.heap[w.heap.size]? = some (.cells #[.slice A1 tr.length q1, .slice A2 td.length q2, .slice A3 te.length q3, .int .i64 n1, .int .i64 n2, .int .i64 n3] 25) ∧ ∀ r ∈ ws.take k, fewWord r = true) (fun i _ => ws.length - (intOf i).toNat)
              case atStart => exact ⟨0, Nat.zero_le _, rfl, hb, hbk, by simp⟩
              case round =>
                clear hcb hb hbk
                rename_i hrel
                obtain ⟨k, hk, rfl, hb, hbk, hall⟩ := hrel
                have hcb := cell_of hbk
                by_cases hkk : k < ws.length
                · have hmem := List.getElem_mem hkk
                  obtain ⟨a, rfl, hcells⟩ := (HRw.out.ext hb).elem (List.getElem?_eq_getElem hkk)
                  have HALL : Hid (fewWord ws[k] = true → ∀ r ∈ ws.take (k + 1), fewWord r = true) := Lib.hid (all_snoc hkk hall)
                  have HMEM := Lib.hid hmem
                  clear hmem hall
                  generalize ws[k] = r at hcells HALL HMEM
                  have c0 : wr.cell? (a.add k) = some (.string (B r)) := by have := hcells 0 _ rfl; rwa [Addr.add_zero, Nat.mul_one] at this
                  have z1 : (B r).size = r.length := rfl
                  clear hcells
                  by_cases f1 : r.length ≤ 30
                  · skip
                    go_wp2
                    go_roundw
                    case rel => exact ⟨k + 1, by omega, by simp, hb, hbk, HALL.out (by simp [fewWord, f1])⟩
                    case measure => simp [intOf]; omega
                  · have R : Hid (F = false) := Lib.hid (RD.out _ HMEM.out (by simp [fewWord, f1]))
                    go_wp2
                    go_ret
                    exact ⟨hb, ret_bool R.out.symm⟩
                · have hkl : k = ws.length := by omega
                  have D3 : Hid (ws.all fewWord = true) := Lib.hid (all_done (by rw [← hkl]; exact hall))
                  clear hall
                  go_wp2
                  have R : Hid (F = true) := Lib.hid (RT.out D0.out D1.out D2.out D3.out)
                  go_ret
                  exact ⟨hb, ret_bool R.out.symm⟩
set_option maxRecDepth 100000 in
theorem few_any (A1 A2 A3 Aw : Option Addr) (q1 q2 q3 qw : Nat) (t : Tab) (ws : List Str) (w : World) (ht : TabRd w A1 A2 A3 t) (hw : ElemsAt w Aw 1 (ws.map (fun x => [Value.string (B x)]))) (hwl : ws.length ≤ 1000) :
    Calls Tryz.prog 5 #[tabVal A1 q1 A2 q2 A3 q3 t, .slice Aw ws.length qw] w fun e w' => Ext w w' ∧ e = .returned (.bool (fewS t ws)) := by
  have H : Hid (∀ w', Ext w w' → Calls Tryz.prog 13 #[tabVal A1 q1 A2 q2 A3 q3 t, .slice Aw ws.length qw] w' fun e w'' => Ext w' w'' ∧ e = .returned (.bool (fewS t ws))) := Lib.hid (fun w' h => Few_any A1 A2 A3 Aw q1 q2 q3 qw t ws w' (ht.ext h) (hw.ext h) hwl)
  have hx1 : ∀ o, Ext w (w.alloc o) := fun o => Ext.new w o
  have HX := Lib.hid hx1
  clear hx1 ht hw
  unfold tabVal at H ⊢
  generalize fewS t ws = F at H ⊢
  go_enter Tryz.func5, Tryz.ntmps5
  go_wp2_with (go_at_call 13; (with_reducible refine (H.out _ (HX.out _)).mono ?_); rintro e w1 ⟨hb1, rfl⟩)
  go_ret
  exact ⟨Ext.trans (HX.out _) hb1, rfl⟩
set_option maxRecDepth 100000 in
theorem isDer_any (d : Der) (c : Int) (l m : List Int) (f : Str) (A4 A5 B4 B5 : Option Addr) (q4 q5 p4 p5 : Nat) (w : World) (h1 : ElemsAt w A4 1 (intRows d.left)) (h2 : ElemsAt w A5 1 (intRows d.right)) (h3 : ElemsAt w B4 1 (intRows l)) (h4 : ElemsAt w B5 1 (intRows m)) (hf : DerFit d) (hl : l.length ≤ Go.maxLen) (hm : m.length ≤ Go.maxLen) :
    Calls Tryz.prog 12 #[derVal d.cost A4 d.left.length q4 A5 d.right.length q5 d.form, .int .i64 c, .slice B4 l.length p4, .slice B5 m.length p5, .string (B f)] w fun e w' => Ext w w' ∧ e = .returned (.bool (decide (d = ⟨c, l, m, f⟩))) := by
  have H : Hid (∀ w', Ext w w' → Calls Tryz.prog 8 #[derVal d.cost A4 d.left.length q4 A5 d.right.length q5 d.form, derVal c B4 l.length p4 B5 m.length p5 f] w' fun e w'' => Ext w' w'' ∧ e = .returned (.bool (decide (d = ⟨c, l, m, f⟩)))) := Lib.hid (fun w' h => Same_any d ⟨c, l, m, f⟩ A4 A5 B4 B5 q4 q5 p4 p5 w' (h1.ext h) (h2.ext h) (h3.ext h) (h4.ext h) hf ⟨hl, hm⟩)
  have hx1 : ∀ o, Ext w (w.alloc o) := fun o => Ext.new w o
  have HX := Lib.hid hx1
  clear hx1 h1 h2 h3 h4 hf hl hm
  generalize decide (d = ⟨c, l, m, f⟩) = F at H ⊢
  unfold derVal at H ⊢
  go_enter Tryz.func12, Tryz.ntmps12
  go_wp2_with (go_at_call 8; (with_reducible refine (H.out _ (HX.out _)).mono ?_); rintro e w1 ⟨hb1, rfl⟩)
  go_ret
  exact ⟨Ext.trans (HX.out _) hb1, rfl⟩
end Go.Proofs.YtkkbkhcapogobaaGreatDoor
end
