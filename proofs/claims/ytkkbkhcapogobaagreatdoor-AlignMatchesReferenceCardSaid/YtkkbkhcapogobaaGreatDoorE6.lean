/- Contracts: align.Check. -/
import Derived.Test.YtkkbkhcapogobaaGreatDoorE5
namespace Go.Proofs.YtkkbkhcapogobaaGreatDoor
open Go Go.RowKit Go.Lib Go.Proofs S Go.Shelf Go.Maps Go.WideMaps
set_option linter.unusedVariables false
set_option linter.unusedSimpArgs false

theorem mem_sideRules {k : Int} : ∀ {rs : List Rul} {i : Nat} {r : ARule}, r ∈ sideRules k i rs → ∃ j rl, rl ∈ rs ∧ aruleOf k j rl = some r
  | [], i, r, h => by cases h
  | x :: xs, i, r, h => by
    simp only [sideRules, List.mem_append] at h
    rcases h with h | h
    · exact ⟨i, x, by simp, by simpa using h⟩
    · obtain ⟨j, rl, h1, h2⟩ := mem_sideRules h
      exact ⟨j, rl, by simp [h1], h2⟩
/-- The sides of a valid table are fine. -/
theorem fine_of {t : Tab} {k : Int} {x : Str} {s : Side} (hs : sideS t k x = some s) (hv : validS t = true) : Fine s := by
  have hr : s.rules = sideRules k 0 t.rules := by
    unfold sideS at hs
    split at hs
    · cases hs
    · obtain ⟨ls, _, rfl⟩ := Option.map_eq_some_iff.1 hs
      rfl
  have hok : ∀ r ∈ t.rules, ruleOK r = true := by
    unfold validS at hv
    simp only [Bool.and_eq_true] at hv
    exact List.all_eq_true.1 hv.1.1.2.2
  have key : ∀ r ∈ s.rules, 0 < r.frm.length ∧ (0 ≤ r.cost ∧ r.cost ≤ 1000) ∧ r.to.length ≤ 3 := by
    intro r h
    rw [hr] at h
    obtain ⟨j, rl, h1, h2⟩ := mem_sideRules h
    have h3 := hok rl h1
    unfold aruleOf at h2
    split at h2
    · obtain ⟨f, h4, rfl⟩ := Option.map_eq_some_iff.1 h2
      unfold ruleOK formS costS at h3
      simp only [Bool.and_eq_true, decide_eq_true_eq] at h3
      have := letters_size h4
      exact ⟨by show 0 < f.length; omega, h3.2, h3.1.2.1⟩
    · cases h2
  exact ⟨fun r h => (key r h).1, fun r h => (key r h).2.1, fun r h => (key r h).2.2⟩
theorem writtenF_cost {s : Side} (hs : Fine s) : ∀ (is : List Int) (a : Nat) (f : Str) (c : Int) (r : Nat × Str × Int), writtenF s is a f c = some r → c ≤ r.2.2 ∧ r.2.2 ≤ c + 1000 * is.length
  | [], a, f, c, r, h => by simp [writtenF] at h; subst h; simp
  | i :: is, a, f, c, r, h => by
    rw [writtenF] at h
    cases hf : s.rules.find? (fun r => decide (r.index = i)) with
    | none => rw [hf] at h; cases h
    | some x =>
      rw [hf] at h
      dsimp only at h
      split at h
      · have := writtenF_cost hs is _ _ _ r h
        have := hs.cost x (List.mem_of_find?_eq_some hf)
        simp only [List.length_cons]; omega
      · cases h
theorem writtenS_cost {s : Side} (hs : Fine s) (is : List Int) : 0 ≤ (writtenS s is).2.1 ∧ (writtenS s is).2.1 ≤ 1000 * is.length := by
  unfold writtenS
  cases h : writtenF s is 0 [] 0 with
  | none => simp <;> omega
  | some r =>
    have := writtenF_cost hs is 0 [] 0 r h
    obtain ⟨a, f, c⟩ := r
    simp only at this ⊢; omega

/-- A derivation that was handed in. -/
def derVal (cost : Int) (A1 : Option Addr) (n1 c1 : Nat) (A2 : Option Addr) (n2 c2 : Nat) (form : Str) : Value := .agg #[.int .i64 cost, .slice A1 n1 c1, .slice A2 n2 c2, .string (B form)]

set_option maxRecDepth 100000 in
set_option maxHeartbeats 4000000 in
/-- align.Check. -/
theorem Check_any (A1 A2 A3 : Option Addr) (q1 q2 q3 : Nat) (t : Tab) (a : Int) (x : Str) (b : Int) (y : Str) (d : Der) (A4 A5 : Option Addr) (q4 q5 : Nat) (w : World) (ht : TabAt w A1 A2 A3 t) (hT : Tabs w) (hx : tiny x) (hy : tiny y) (hlen : t.rules.length ≤ 1000)
    (hl : ElemsAt w A4 1 (d.left.map (fun i => [Value.int .i64 i]))) (hr : ElemsAt w A5 1 (d.right.map (fun i => [Value.int .i64 i]))) (hl2 : d.left.length ≤ 1000) (hr2 : d.right.length ≤ 1000) :
    Calls Tryz.prog 9 #[tabVal A1 q1 A2 q2 A3 q3 t, .int .i64 a, .string (B x), .int .i64 b, .string (B y), derVal d.cost A4 d.left.length q4 A5 d.right.length q5 d.form] w fun e w' => Ext w w' ∧ e = .returned (.bool (checkS t a x b y d)) := by
  have HO : Hid (∀ w', Ext w w' → Calls Tryz.prog 14 #[tabVal A1 q1 A2 q2 A3 q3 t, .int .i64 a, .string (B x), .int .i64 b, .string (B y)] w' (OpenRes t a x b y w')) := Lib.hid (fun w' hb => open_any A1 A2 A3 q1 q2 q3 t a x b y w' (ht.ext hb) (hT.below hb) hx hy hlen)
  clear ht hT hx hy
  unfold tabVal at HO ⊢
  unfold derVal
  replace HO : Hid (∀ w', Ext w w' → Calls Tryz.prog 14 #[.agg #[.slice A1 t.rules.length q1, .slice A2 t.drops.length q2, .slice A3 t.ends.length q3, .int .i64 t.drop, .int .i64 t.order, .int .i64 t.initial], .int .i64 a, .string (B x), .int .i64 b, .string (B y)] w' fun e w'' => Ext w' w'' ∧ ((∃ L R : MSide, sideS t a x = some L.side ∧ sideS t b y = some R.side ∧ validS t = true ∧ L.At w'' ∧ R.At w'' ∧ e = .returned (.tuple #[.agg #[letVal L.lg L.lc L.letters, .slice L.A L.rules.length L.rc, letVal R.lg R.lc R.letters, .slice R.A R.rules.length R.rc], .bool true])) ∨
   (((sideS t a x).isSome && (sideS t b y).isSome && validS t) = false ∧ ∃ (g0 : Option Addr) (n0 c0 : Nat) (g1 : Option Addr) (n1 c1 : Nat) (g2 : Option Addr) (n2 c2 : Nat) (g3 : Option Addr) (n3 c3 : Nat),
      e = .returned (.tuple #[.agg #[.slice g0 n0 c0, .slice g1 n1 c1, .slice g2 n2 c2, .slice g3 n3 c3], .bool false])))) := Lib.hid (fun w' hb => HO.out w' hb)
  have hx2 : ∀ o1 o2, Ext w ((w.alloc o1).alloc o2) := fun o1 o2 => (Ext.new w o1).alloc o2
  have hbx : ∀ cs1 t1 cs2 t2 w1, Ext ((w.alloc (.cells cs1 t1)).alloc (.cells cs2 t2)) w1 → (∀ n, w1.cell? ⟨w.heap.size + 1, n, none⟩ = cs2[n]?) ∧ (∀ o n, (w1.alloc o).cell? ⟨w.heap.size + 1, n, none⟩ = cs2[n]?) ∧ Ext w w1 := fun cs1 t1 cs2 t2 w1 h => ⟨(cells_new2 h).2.1, fun o => (cells_new2 (Ext.trans h (Ext.new w1 o))).2.1, (cells_new2 h).2.2⟩
  have HBX := Lib.hid hbx
  clear hbx
  have HCK : Hid (∀ L R, sideS t a x = some L → sideS t b y = some R → validS t = true → checkS t a x b y d = ((writtenS L d.left).2.2 && (writtenS R d.right).2.2 && decide ((writtenS L d.left).1 = d.form) && decide ((writtenS R d.right).1 = d.form) && decide ((writtenS L d.left).2.1 + (writtenS R d.right).2.1 = d.cost))) := Lib.hid (fun L R h1 h2 h3 => by unfold checkS; rw [h1, h2, h3])
  have HCN : Hid (((sideS t a x).isSome && (sideS t b y).isSome && validS t) = false → checkS t a x b y d = false) := Lib.hid (fun h => by
    unfold checkS
    cases h1 : sideS t a x <;> cases h2 : sideS t b y <;> cases h3 : validS t <;> simp_all)
  go_enter Tryz.func9, Tryz.ntmps9
  go_upto_region 2 with (go_at_call 14; (with_reducible refine (HO.out _ (hx2 _ _)).mono ?_); rintro e w1 ⟨hw1, (⟨L, R, s1, s2, s3, hL, hR, rfl⟩ | ⟨hno, g0, n0, c0, g1, n1, c1, g2, n2, c2, g3, n3, c3, rfl⟩)⟩)
  · obtain ⟨b1, b2, b3⟩ := HBX.out _ _ _ _ _ hw1
    have hcb := World.alloc_heap_new w1 (.cells #[letVal L.lg L.lc L.letters, .slice L.A L.rules.length L.rc, letVal R.lg R.lc R.letters, .slice R.A R.rules.length R.rc] 43)
    have fL := fine_of s1 s3
    have fR := fine_of s2 s3
    have HL : Hid (∀ w', Ext w1 w' → Calls Tryz.prog 23 #[.agg #[letVal L.lg L.lc L.letters, .slice L.A L.rules.length L.rc], .slice A4 d.left.length q4] w' fun e w'' => Ext w' w'' ∧ e = .returned (.tuple #[.string (B (writtenS L.side d.left).1), .int .i64 (writtenS L.side d.left).2.1, .bool (writtenS L.side d.left).2.2])) := Lib.hid (fun w' h => written_any L A4 q4 d.left w' (hL.cells (Cells.of_ext h)) fL ((hl.ext b3).ext h) hl2)
    have HR : Hid (∀ w', Ext w1 w' → Calls Tryz.prog 23 #[.agg #[letVal R.lg R.lc R.letters, .slice R.A R.rules.length R.rc], .slice A5 d.right.length q5] w' fun e w'' => Ext w' w'' ∧ e = .returned (.tuple #[.string (B (writtenS R.side d.right).1), .int .i64 (writtenS R.side d.right).2.1, .bool (writtenS R.side d.right).2.2])) := Lib.hid (fun w' h => written_any R A5 q5 d.right w' (hR.cells (Cells.of_ext h)) fR ((hr.ext b3).ext h) hr2)
    have hcl := writtenS_cost fL d.left
    have hcr := writtenS_cost fR d.right
    have hck := HCK.out _ _ s1 s2 s3
    have HC := Lib.hid hck
    have hbk : ∀ o w2, Ext (w1.alloc o) w2 → Ext w1 w2 ∧ (∀ n, w2.cell? ⟨w.heap.size + 1, n, none⟩ = #[Value.int .i64 d.cost, .slice A4 d.left.length q4, .slice A5 d.right.length q5, .string (B d.form)][n]?) := fun o w2 h => by
      have h1 := Ext.trans (Ext.new w1 o) h
      exact ⟨h1, (HBX.out _ _ _ _ _ (Ext.trans hw1 h1)).1⟩
    have HBK := Lib.hid hbk
    have hbk2 : ∀ cs t2 w2, Ext (w1.alloc (.cells cs t2)) w2 → (∀ n, w2.cell? ⟨w1.heap.size, n, none⟩ = cs[n]?) := fun cs t2 w2 h => (cells_new1 h).1
    have HBK2 := Lib.hid hbk2
    clear hbk hbk2 hck s1 s2 s3 hL hR fL fR hw1 hcb HCK HCN
    generalize writtenS L.side d.left = wl at *
    generalize writtenS R.side d.right = wr at *
    obtain ⟨fl, cl, ol⟩ := wl
    obtain ⟨fr, cr, orr⟩ := wr
    dsimp only at *
    have hwr : IntKind.i64.wrap (cl + cr) = cl + cr := wrap_small (by omega) (by omega)
    clear hcl hcr b1
    cases ol
    case false =>
      go_wp2_with (first | (go_at_call 23; (with_reducible refine (HL.out _ (Ext.new w1 _)).mono ?_); rintro e w2 ⟨hb2, rfl⟩; obtain ⟨u1, u2⟩ := HBK.out _ _ hb2; have u3 := HBK2.out _ _ _ hb2) | (go_at_call 23; (with_reducible refine (HR.out _ u1).mono ?_); rintro e w3 ⟨hb3, rfl⟩; obtain ⟨v1, v2⟩ := HBK.out _ _ (Ext.trans hb2 hb3)))
      go_ret
      exact ⟨Ext.trans b3 v1, ret_bool (by rw [HC.out]; simp)⟩
    case true =>
      cases orr
      case false =>
        go_wp2_with (first | (go_at_call 23; (with_reducible refine (HL.out _ (Ext.new w1 _)).mono ?_); rintro e w2 ⟨hb2, rfl⟩; obtain ⟨u1, u2⟩ := HBK.out _ _ hb2; have u3 := HBK2.out _ _ _ hb2) | (go_at_call 23; (with_reducible refine (HR.out _ u1).mono ?_); rintro e w3 ⟨hb3, rfl⟩; obtain ⟨v1, v2⟩ := HBK.out _ _ (Ext.trans hb2 hb3)))
        go_ret
        exact ⟨Ext.trans b3 v1, ret_bool (by rw [HC.out]; simp)⟩
      case true =>
        by_cases h1 : fl = d.form
        · skip
          by_cases h2 : fr = d.form
          · skip
            have H1 := Lib.hid h1
            have H2 := Lib.hid h2
            go_wp2_with (first | (go_at_call 23; (with_reducible refine (HL.out _ (Ext.new w1 _)).mono ?_); rintro e w2 ⟨hb2, rfl⟩; obtain ⟨u1, u2⟩ := HBK.out _ _ hb2; have u3 := HBK2.out _ _ _ hb2) | (go_at_call 23; (with_reducible refine (HR.out _ u1).mono ?_); rintro e w3 ⟨hb3, rfl⟩; obtain ⟨v1, v2⟩ := HBK.out _ _ (Ext.trans hb2 hb3)))
            go_ret
            exact ⟨Ext.trans b3 v1, ret_bool (by rw [HC.out]; simp [H1.out, H2.out]; rfl)⟩
          · skip
            have H2 := Lib.hid h2
            go_wp2_with (first | (go_at_call 23; (with_reducible refine (HL.out _ (Ext.new w1 _)).mono ?_); rintro e w2 ⟨hb2, rfl⟩; obtain ⟨u1, u2⟩ := HBK.out _ _ hb2; have u3 := HBK2.out _ _ _ hb2) | (go_at_call 23; (with_reducible refine (HR.out _ u1).mono ?_); rintro e w3 ⟨hb3, rfl⟩; obtain ⟨v1, v2⟩ := HBK.out _ _ (Ext.trans hb2 hb3)))
            go_ret
            exact ⟨Ext.trans b3 v1, ret_bool (by rw [HC.out]; simp [H2.out])⟩
        · skip
          have H1 := Lib.hid h1
          go_wp2_with (first | (go_at_call 23; (with_reducible refine (HL.out _ (Ext.new w1 _)).mono ?_); rintro e w2 ⟨hb2, rfl⟩; obtain ⟨u1, u2⟩ := HBK.out _ _ hb2; have u3 := HBK2.out _ _ _ hb2) | (go_at_call 23; (with_reducible refine (HR.out _ u1).mono ?_); rintro e w3 ⟨hb3, rfl⟩; obtain ⟨v1, v2⟩ := HBK.out _ _ (Ext.trans hb2 hb3)))
          go_ret
          exact ⟨Ext.trans b3 v1, ret_bool (by rw [HC.out]; simp [H1.out])⟩
  · have HR : Hid (checkS t a x b y d = false) := Lib.hid (HCN.out hno)
    have h1 := (HBX.out _ _ _ _ _ hw1).2.2
    go_wp2
    go_ret
    exact ⟨h1.alloc _, by rw [HR.out]; rfl⟩
end Go.Proofs.YtkkbkhcapogobaaGreatDoor
