/- Contracts: the laws' helpers: Few, few, is. -/
import Derived.Test.YtpcfjflfeecinaaDoorR1
namespace Go.Proofs.YtpcfjflfeecinaaDoor
open Go Go.RowKit Go.Lib Go.Proofs S Go.Shelf Go.Maps Go.WideMaps
set_option linter.unusedVariables false
set_option linter.unusedSimpArgs false

theorem all_snoc {α : Type} {p : α → Bool} {l : List α} {k : Nat} (hk : k < l.length) (h : ∀ r ∈ l.take k, p r = true) (hp : p l[k] = true) : ∀ r ∈ l.take (k + 1), p r = true := by
  rw [(List.take_append_getElem hk).symm]
  intro r hr
  rcases List.mem_append.1 hr with hr | hr
  · exact h r hr
  · simp only [List.mem_singleton] at hr; subst hr; exact hp
theorem all_done {α : Type} {p : α → Bool} {l : List α} (h : ∀ r ∈ l.take l.length, p r = true) : l.all p = true := by
  rw [List.take_length] at h; exact List.all_eq_true.2 h
theorem all_bad {α : Type} {p : α → Bool} {l : List α} {r : α} (hr : r ∈ l) (h : p r = false) : l.all p = false := by
  rw [List.all_eq_false]; exact ⟨r, hr, by simp [h]⟩
set_option maxRecDepth 100000 in
set_option maxHeartbeats 4000000 in
theorem Few_any (A1 A2 A3 Aw : Option Addr) (q1 q2 q3 qw : Nat) (t : Tab) (ws : List Str) (w : World) (ht : TabRd w A1 A2 A3 t) (hw : ElemsAt w Aw 1 (ws.map (fun x => [Value.string (B x)]))) (hwl : ws.length ≤ 1000) :
    Calls Tryd.prog 16 #[tabVal A1 q1 A2 q2 A3 q3 t, .slice Aw ws.length qw] w fun e w' => Ext w w' ∧ e = .returned (.bool (fewS t ws)) := by
  unfold tabVal
  obtain ⟨tr, td, te, n1, n2, n3⟩ := t
  have hrl := ht.rlen
  have hdl := ht.dlen
  have hel := ht.elen
  unfold Go.maxLen at hrl hdl hel
  dsimp only at *
  have hsp : fewS ⟨tr, td, te, n1, n2, n3⟩ ws = (decide (tr.length ≤ 80) && decide (td.length ≤ 40) && decide (te.length ≤ 40) && tr.all fewRule && td.all fewDrop && te.all fewDrop && ws.all fewWord) := rfl
  rw [hsp]; clear hsp
  have hX := Ext.new w (.cells #[.slice A1 tr.length q1, .slice A2 td.length q2, .slice A3 te.length q3, .int .i64 n1, .int .i64 n2, .int .i64 n3] 25)
  have hbx := World.alloc_heap_new w (.cells #[.slice A1 tr.length q1, .slice A2 td.length q2, .slice A3 te.length q3, .int .i64 n1, .int .i64 n2, .int .i64 n3] 25)
  have HRr := Lib.hid ht.rules
  have HRd := Lib.hid ht.drops
  have HRe := Lib.hid ht.ends
  have HRw := Lib.hid hw
  clear ht hw
  by_cases h1 : tr.length ≤ 80
  rotate_left
  ·
    have R : Hid ((decide (tr.length ≤ 80) && decide (td.length ≤ 40) && decide (te.length ≤ 40) && tr.all fewRule && td.all fewDrop && te.all fewDrop && ws.all fewWord) = false) := Lib.hid (by simp [h1])
    go_enter Tryd.func16, Tryd.ntmps16
    go_wp2
    go_ret
    first | exact ⟨hX, rfl⟩ | exact ⟨hX, ret_bool R.out.symm⟩
  by_cases h2 : td.length ≤ 40
  rotate_left
  ·
    have R : Hid ((decide (tr.length ≤ 80) && decide (td.length ≤ 40) && decide (te.length ≤ 40) && tr.all fewRule && td.all fewDrop && te.all fewDrop && ws.all fewWord) = false) := Lib.hid (by simp [h2])
    go_enter Tryd.func16, Tryd.ntmps16
    go_wp2
    go_ret
    first | exact ⟨hX, rfl⟩ | exact ⟨hX, ret_bool R.out.symm⟩
  by_cases h3 : te.length ≤ 40
  rotate_left
  ·
    have R : Hid ((decide (tr.length ≤ 80) && decide (td.length ≤ 40) && decide (te.length ≤ 40) && tr.all fewRule && td.all fewDrop && te.all fewDrop && ws.all fewWord) = false) := Lib.hid (by simp [h3])
    go_enter Tryd.func16, Tryd.ntmps16
    go_wp2
    go_ret
    first | exact ⟨hX, rfl⟩ | exact ⟨hX, ret_bool R.out.symm⟩
  have hF : (decide (tr.length ≤ 80) && decide (td.length ≤ 40) && decide (te.length ≤ 40) && tr.all fewRule && td.all fewDrop && te.all fewDrop && ws.all fewWord) = (tr.all fewRule && td.all fewDrop && te.all fewDrop && ws.all fewWord) := by simp [h1, h2, h3]
  rw [hF]; clear hF
  have RA : Hid (∀ r ∈ tr, fewRule r = false → (tr.all fewRule && td.all fewDrop && te.all fewDrop && ws.all fewWord) = false) := Lib.hid (fun r hr h => by rw [all_bad hr h]; simp)
  have RB : Hid (∀ r ∈ td, fewDrop r = false → (tr.all fewRule && td.all fewDrop && te.all fewDrop && ws.all fewWord) = false) := Lib.hid (fun r hr h => by rw [all_bad hr h]; simp)
  have RC : Hid (∀ r ∈ te, fewDrop r = false → (tr.all fewRule && td.all fewDrop && te.all fewDrop && ws.all fewWord) = false) := Lib.hid (fun r hr h => by rw [all_bad hr h]; simp)
  have RD : Hid (∀ r ∈ ws, fewWord r = false → (tr.all fewRule && td.all fewDrop && te.all fewDrop && ws.all fewWord) = false) := Lib.hid (fun r hr h => by rw [all_bad hr h]; simp)
  have RT : Hid (tr.all fewRule = true → td.all fewDrop = true → te.all fewDrop = true → ws.all fewWord = true → (tr.all fewRule && td.all fewDrop && te.all fewDrop && ws.all fewWord) = true) := Lib.hid (fun h1 h2 h3 h4 => by rw [h1, h2, h3, h4]; rfl)
  generalize (tr.all fewRule && td.all fewDrop && te.all fewDrop && ws.all fewWord) = F at *
  go_enter Tryd.func16, Tryd.ntmps16
  go_wp2
  go_loopw [5] (fun i wr => ∃ k : Nat, k ≤ tr.length ∧ i = .int .i64 k ∧ Ext w wr ∧ wr.heap[w.heap.size]? = some (.cells #[.slice A1 tr.length q1, .slice A2 td.length q2, .slice A3 te.length q3, .int .i64 n1, .int .i64 n2, .int .i64 n3] 25) ∧ ∀ r ∈ tr.take k, fewRule r = true) (fun i _ => tr.length - (intOf i).toNat)
  case atStart => exact ⟨0, Nat.zero_le _, rfl, hX, hbx, by simp⟩
  case round =>
    rename_i hrel
    obtain ⟨k, hk, rfl, hb, hbk, hall⟩ := hrel
    have hcb := cell_of hbk
    by_cases hkk : k < tr.length
    · have hmem := List.getElem_mem hkk
      obtain ⟨a, rfl, hcells⟩ := (HRr.out.ext hb).elem (List.getElem?_eq_getElem hkk)
      have HALL : Hid (fewRule tr[k] = true → ∀ r ∈ tr.take (k + 1), fewRule r = true) := Lib.hid (all_snoc hkk hall)
      have HMEM := Lib.hid hmem
      clear hmem hall
      generalize tr[k] = r at hcells HALL HMEM
      obtain ⟨rs, rf, rt, rc⟩ := r
      obtain ⟨c0, c1, c2, c3⟩ := elem4 hcells
      have z1 : (B rf).size = rf.length := rfl
      have z2 : (B rt).size = rt.length := rfl
      clear hcells
      by_cases f1 : rf.length ≤ 12
      · by_cases f2 : rt.length ≤ 12
        · skip
          go_wp2
          go_roundw
          case rel => exact ⟨k + 1, by omega, by simp, hb, hbk, HALL.out (by simp [fewRule, f1, f2])⟩
          case measure => simp [intOf]; omega
        · have R : Hid (F = false) := Lib.hid (RA.out _ HMEM.out (by simp [fewRule, f2]))
          go_wp2
          go_ret
          exact ⟨hb, ret_bool R.out.symm⟩
      · have R : Hid (F = false) := Lib.hid (RA.out _ HMEM.out (by simp [fewRule, f1]))
        go_wp2
        go_ret
        exact ⟨hb, ret_bool R.out.symm⟩
    · have hkl : k = tr.length := by omega
      have D0 : Hid (tr.all fewRule = true) := Lib.hid (all_done (by rw [← hkl]; exact hall))
      clear hall
      go_wp2
      go_loopw [6] (fun i wr => ∃ k : Nat, k ≤ td.length ∧ i = .int .i64 k ∧ Ext w wr ∧ wr.heap[w.heap.size]? = some (.cells #[.slice A1 tr.length q1, .slice A2 td.length q2, .slice A3 te.length q3, .int .i64 n1, .int .i64 n2, .int .i64 n3] 25) ∧ ∀ r ∈ td.take k, fewDrop r = true) (fun i _ => td.length - (intOf i).toNat)
      case atStart => exact ⟨0, Nat.zero_le _, rfl, hb, hbk, by simp⟩
      case round =>
        clear hcb hb hbk
        rename_i hrel
        obtain ⟨k, hk, rfl, hb, hbk, hall⟩ := hrel
        have hcb := cell_of hbk
        by_cases hkk : k < td.length
        · have hmem := List.getElem_mem hkk
          obtain ⟨a, rfl, hcells⟩ := (HRd.out.ext hb).elem (List.getElem?_eq_getElem hkk)
          have HALL : Hid (fewDrop td[k] = true → ∀ r ∈ td.take (k + 1), fewDrop r = true) := Lib.hid (all_snoc hkk hall)
          have HMEM := Lib.hid hmem
          clear hmem hall
          generalize td[k] = r at hcells HALL HMEM
          obtain ⟨rs, rf, rc⟩ := r
          obtain ⟨c0, c1, c2⟩ := elem3 hcells
          have z1 : (B rf).size = rf.length := rfl
          clear hcells
          by_cases f1 : rf.length ≤ 60
          · skip
            go_wp2
            go_roundw
            case rel => exact ⟨k + 1, by omega, by simp, hb, hbk, HALL.out (by simp [fewDrop, f1])⟩
            case measure => simp [intOf]; omega
          · have R : Hid (F = false) := Lib.hid (RB.out _ HMEM.out (by simp [fewDrop, f1]))
            go_wp2
            go_ret
            exact ⟨hb, ret_bool R.out.symm⟩
        · have hkl : k = td.length := by omega
          have D1 : Hid (td.all fewDrop = true) := Lib.hid (all_done (by rw [← hkl]; exact hall))
          clear hall
          go_wp2
          go_loopw [7] (fun i wr => ∃ k : Nat, k ≤ te.length ∧ i = .int .i64 k ∧ Ext w wr ∧ wr.heap[w.heap.size]? = some (.cells #[.slice A1 tr.length q1, .slice A2 td.length q2, .slice A3 te.length q3, .int .i64 n1, .int .i64 n2, .int .i64 n3] 25) ∧ ∀ r ∈ te.take k, fewDrop r = true) (fun i _ => te.length - (intOf i).toNat)
          case atStart => exact ⟨0, Nat.zero_le _, rfl, hb, hbk, by simp⟩
          case round =>
            clear hcb hb hbk
            rename_i hrel
            obtain ⟨k, hk, rfl, hb, hbk, hall⟩ := hrel
            have hcb := cell_of hbk
            by_cases hkk : k < te.length
            · have hmem := List.getElem_mem hkk
              obtain ⟨a, rfl, hcells⟩ := (HRe.out.ext hb).elem (List.getElem?_eq_getElem hkk)
              have HALL : Hid (fewDrop te[k] = true → ∀ r ∈ te.take (k + 1), fewDrop r = true) := Lib.hid (all_snoc hkk hall)
              have HMEM := Lib.hid hmem
              clear hmem hall
              generalize te[k] = r at hcells HALL HMEM
              obtain ⟨rs, rf, rc⟩ := r
              obtain ⟨c0, c1, c2⟩ := elem3 hcells
              have z1 : (B rf).size = rf.length := rfl
              clear hcells
              by_cases f1 : rf.length ≤ 60
              · skip
                go_wp2
                go_roundw
                case rel => exact ⟨k + 1, by omega, by simp, hb, hbk, HALL.out (by simp [fewDrop, f1])⟩
                case measure => simp [intOf]; omega
              · have R : Hid (F = false) := Lib.hid (RC.out _ HMEM.out (by simp [fewDrop, f1]))
                go_wp2
                go_ret
                exact ⟨hb, ret_bool R.out.symm⟩
            · have hkl : k = te.length := by omega
              have D2 : Hid (te.all fewDrop = true) := Lib.hid (all_done (by rw [← hkl]; exact hall))
              clear hall
              go_wp2
              go_loopw [8] (fun i wr => ∃ k : Nat, k ≤ ws.length ∧ i = .int .i64 k ∧ Ext w wr ∧ wr.heap[w.heap.size]? = some (.cells #[.slice A1 tr.length q1, .slice A2 td.length q2, .slice A3 te.length q3, .int .i64 n1, .int .i64 n2, .int .i64 n3] 25) ∧ ∀ r ∈ ws.take k, fewWord r = true) (fun i _ => ws.length - (intOf i).toNat)
              case atStart => exact ⟨0, Nat.zero_le _, rfl, hb, hbk, by simp⟩
              case round =>
                clear hcb hb hbk
                rename_i hrel
                obtain ⟨k, hk, rfl, hb, hbk, hall⟩ := hrel
                have hcb := cell_of hbk
                by_cases hkk : k < ws.length
                · have hmem := List.getElem_mem hkk
                  obtain ⟨a, rfl, hcells⟩ := (HRw.out.ext hb).elem (List.getElem?_eq_getElem hkk)
                  have HALL : Hid (fewWord ws[k] = true → ∀ r ∈ ws.take (k + 1), fewWord r = true) := Lib.hid (all_snoc hkk hall)
                  have HMEM := Lib.hid hmem
                  clear hmem hall
                  generalize ws[k] = r at hcells HALL HMEM
                  have c0 : wr.cell? (a.add k) = some (.string (B r)) := by have := hcells 0 _ rfl; rwa [Addr.add_zero, Nat.mul_one] at this
                  have z1 : (B r).size = r.length := rfl
                  clear hcells
                  by_cases f1 : r.length ≤ 30
                  · skip
                    go_wp2
                    go_roundw
                    case rel => exact ⟨k + 1, by omega, by simp, hb, hbk, HALL.out (by simp [fewWord, f1])⟩
                    case measure => simp [intOf]; omega
                  · have R : Hid (F = false) := Lib.hid (RD.out _ HMEM.out (by simp [fewWord, f1]))
                    go_wp2
                    go_ret
                    exact ⟨hb, ret_bool R.out.symm⟩
                · have hkl : k = ws.length := by omega
                  have D3 : Hid (ws.all fewWord = true) := Lib.hid (all_done (by rw [← hkl]; exact hall))
                  clear hall
                  go_wp2
                  have R : Hid (F = true) := Lib.hid (RT.out D0.out D1.out D2.out D3.out)
                  go_ret
                  exact ⟨hb, ret_bool R.out.symm⟩
set_option maxRecDepth 100000 in
theorem few_any (A1 A2 A3 Aw : Option Addr) (q1 q2 q3 qw : Nat) (t : Tab) (ws : List Str) (w : World) (ht : TabRd w A1 A2 A3 t) (hw : ElemsAt w Aw 1 (ws.map (fun x => [Value.string (B x)]))) (hwl : ws.length ≤ 1000) :
    Calls Tryd.prog 8 #[tabVal A1 q1 A2 q2 A3 q3 t, .slice Aw ws.length qw] w fun e w' => Ext w w' ∧ e = .returned (.bool (fewS t ws)) := by
  have H : Hid (∀ w', Ext w w' → Calls Tryd.prog 16 #[tabVal A1 q1 A2 q2 A3 q3 t, .slice Aw ws.length qw] w' fun e w'' => Ext w' w'' ∧ e = .returned (.bool (fewS t ws))) := Lib.hid (fun w' h => Few_any A1 A2 A3 Aw q1 q2 q3 qw t ws w' (ht.ext h) (hw.ext h) hwl)
  have hx1 : ∀ o, Ext w (w.alloc o) := fun o => Ext.new w o
  have HX := Lib.hid hx1
  clear hx1 ht hw
  unfold tabVal at H ⊢
  generalize fewS t ws = F at H ⊢
  go_enter Tryd.func8, Tryd.ntmps8
  go_wp2_with (go_at_call 16; (with_reducible refine (H.out _ (HX.out _)).mono ?_); rintro e w1 ⟨hb1, rfl⟩)
  go_ret
  exact ⟨Ext.trans (HX.out _) hb1, rfl⟩
set_option maxRecDepth 100000 in
theorem isDer_any (d : Der) (c : Int) (l m : List Int) (f : Str) (A4 A5 B4 B5 : Option Addr) (q4 q5 p4 p5 : Nat) (w : World) (h1 : ElemsAt w A4 1 (intRows d.left)) (h2 : ElemsAt w A5 1 (intRows d.right)) (h3 : ElemsAt w B4 1 (intRows l)) (h4 : ElemsAt w B5 1 (intRows m)) (hf : DerFit d) (hl : l.length ≤ Go.maxLen) (hm : m.length ≤ Go.maxLen) :
    Calls Tryd.prog 15 #[derVal d.cost A4 d.left.length q4 A5 d.right.length q5 d.form, .int .i64 c, .slice B4 l.length p4, .slice B5 m.length p5, .string (B f)] w fun e w' => Ext w w' ∧ e = .returned (.bool (decide (d = ⟨c, l, m, f⟩))) := by
  have H : Hid (∀ w', Ext w w' → Calls Tryd.prog 12 #[derVal d.cost A4 d.left.length q4 A5 d.right.length q5 d.form, derVal c B4 l.length p4 B5 m.length p5 f] w' fun e w'' => Ext w' w'' ∧ e = .returned (.bool (decide (d = ⟨c, l, m, f⟩)))) := Lib.hid (fun w' h => Same_any d ⟨c, l, m, f⟩ A4 A5 B4 B5 q4 q5 p4 p5 w' (h1.ext h) (h2.ext h) (h3.ext h) (h4.ext h) hf ⟨hl, hm⟩)
  have hx1 : ∀ o, Ext w (w.alloc o) := fun o => Ext.new w o
  have HX := Lib.hid hx1
  clear hx1 h1 h2 h3 h4 hf hl hm
  generalize decide (d = ⟨c, l, m, f⟩) = F at H ⊢
  unfold derVal at H ⊢
  go_enter Tryd.func15, Tryd.ntmps15
  go_wp2_with (go_at_call 12; (with_reducible refine (H.out _ (HX.out _)).mono ?_); rintro e w1 ⟨hb1, rfl⟩)
  go_ret
  exact ⟨Ext.trans (HX.out _) hb1, rfl⟩
end Go.Proofs.YtpcfjflfeecinaaDoor
