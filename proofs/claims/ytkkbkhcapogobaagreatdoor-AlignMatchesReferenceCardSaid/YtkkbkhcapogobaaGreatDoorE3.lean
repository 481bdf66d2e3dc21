/- Contracts: words.costs. -/
import Derived.Test.YtkkbkhcapogobaaGreatDoorE2
namespace Go.Proofs.YtkkbkhcapogobaaGreatDoor
open Go Go.RowKit Go.Lib Go.Proofs S Go.Shelf Go.Maps Go.WideMaps
set_option linter.unusedVariables false
set_option linter.unusedSimpArgs false

theorem walk_all (L R : MSide) (w00 : World) (hL : L.At w00) (hR : R.At w00) (fL : Fine L.side) (fR : Fine R.side) (Bk Bw Bf b : Nat) (hBk : w00.heap.size ≤ Bk) (hBw : w00.heap.size ≤ Bw) (hBf : w00.heap.size ≤ Bf) (hb0 : w00.heap.size ≤ b) : ∀ n, WalkSpec L R w00 Bk Bw Bf b n
  | 0 => fun s _ h => absurd h (Nat.not_lt_zero _)
  | n + 1 => walk_step L R w00 hL hR fL fR Bk Bw Bf b hBk hBw hBf hb0 n (walk_all L R w00 hL hR fL fR Bk Bw Bf b hBk hBw hBf hb0 n)

theorem run_store_func' {P : Program} {w : World} {a : Addr} {m : Mode} (f : Fn) (c v : Array Value) : (store a (.func f c v) m).run P w = (match w.cell? a with
      | some _ => if w.frozen? a then .halt (.unsupported (.unsafePointer "a write to bytes that a string shares")) w else .ok () (w.setCell a (.func f c v))
      | none => match w.farStore P a (.func f c v) (m == .atomic) with
        | .ok (w', _) => .ok () w'
        | .error h => .halt h w) := run_store P w a (.func f c v) m rfl
attribute [local go_sem] run_store_func'

/-- What costs returns. -/
def CostsRes (L R : MSide) (w : World) (e : Ending) (w' : World) : Prop := Ext w w' ∧ ∃ b f n, e = .returned (.map (some b)) ∧ w.heap.size ≤ b ∧ MapAt Tryz.prog 49 w' b n f ∧ Inv L.side R.side f ∧ (f (stVal St.start)).isSome = true

set_option maxRecDepth 100000 in
set_option maxHeartbeats 4000000 in
/-- (align.words).costs. -/
theorem costs_any (L R : MSide) (w : World) (hL : L.At w) (hR : R.At w) (fL : Fine L.side) (fR : Fine R.side) :
    Calls Tryz.prog 15 #[wordsVal L R] w (CostsRes L R w) := by
  have hmm := @run_makeMap Tryz.prog
  have hwalk := walk_all L R w hL hR fL fR (w.heap.size + 2) w.heap.size (w.heap.size + 3) (w.heap.size + 1) (by omega) (by omega) (by omega) (by omega) (remS L.side R.side St.start + 1) St.start (start_in _ _) (by omega)
  have HW := Lib.hid hwalk
  clear hwalk
  have ha : ∀ o1 o2 o3 o4, Ext w ((((w.alloc o1).alloc o2).alloc o3).alloc o4) := fun o1 o2 o3 o4 => (((Ext.new w o1).alloc o2).alloc o3).alloc o4
  have HX := Lib.hid ha
  clear ha
  have hM : Hid (Mem w L R (w.heap.size + 2) w.heap.size (w.heap.size + 3) (w.heap.size + 1) ((((w.alloc (.cells (wordsCells L R) 43)).alloc (.map #[] 0)).alloc (.cells #[.map (some (w.heap.size + 1))] 46)).alloc (.cells #[.func (.func 27) #[] #[.pointer (some ⟨w.heap.size + 2, 0, none⟩), .pointer (some ⟨w.heap.size, 0, none⟩), .pointer (some ⟨w.heap.size + 3, 0, none⟩)]] 78)) ∧ MapAt Tryz.prog 49 ((((w.alloc (.cells (wordsCells L R) 43)).alloc (.map #[] 0)).alloc (.cells #[.map (some (w.heap.size + 1))] 46)).alloc (.cells #[.func (.func 27) #[] #[.pointer (some ⟨w.heap.size + 2, 0, none⟩), .pointer (some ⟨w.heap.size, 0, none⟩), .pointer (some ⟨w.heap.size + 3, 0, none⟩)]] 78)) (w.heap.size + 1) 0 (fun _ => none)) := by
    obtain ⟨W1, hW1⟩ : ∃ W1, w.alloc (.cells (wordsCells L R) 43) = W1 := ⟨_, rfl⟩
    have k1 : W1.heap[w.heap.size]? = some (.cells (wordsCells L R) 43) := by rw [← hW1]; exact World.alloc_heap_new w _
    have s1 : W1.heap.size = w.heap.size + 1 := by rw [← hW1]; simp
    have x1 : Ext w W1 := by rw [← hW1]; exact Ext.new w _
    rw [hW1]; clear hW1
    have a2 := MapAt.new Tryz.prog 49 W1
    obtain ⟨W2, hW2⟩ : ∃ W2, W1.alloc (.map #[] 0) = W2 := ⟨_, rfl⟩
    have s2 : W2.heap.size = w.heap.size + 2 := by rw [← hW2]; simp; omega
    have x2 : Ext W1 W2 := by rw [← hW2]; exact Ext.new W1 _
    rw [hW2] at a2 ⊢; clear hW2
    rw [s1] at a2
    obtain ⟨W3, hW3⟩ : ∃ W3, W2.alloc (.cells #[.map (some (w.heap.size + 1))] 46) = W3 := ⟨_, rfl⟩
    have k3 : W3.heap[W2.heap.size]? = some (.cells #[.map (some (w.heap.size + 1))] 46) := by rw [← hW3]; exact World.alloc_heap_new W2 _
    have s3 : W3.heap.size = w.heap.size + 3 := by rw [← hW3]; simp; omega
    have x3 : Ext W2 W3 := by rw [← hW3]; exact Ext.new W2 _
    rw [hW3]; clear hW3
    rw [s2] at k3
    have k4 := World.alloc_heap_new W3 (.cells #[.func (.func 27) #[] #[.pointer (some ⟨w.heap.size + 2, 0, none⟩), .pointer (some ⟨w.heap.size, 0, none⟩), .pointer (some ⟨w.heap.size + 3, 0, none⟩)]] 78)
    have x4 := Ext.new W3 (.cells #[.func (.func 27) #[] #[.pointer (some ⟨w.heap.size + 2, 0, none⟩), .pointer (some ⟨w.heap.size, 0, none⟩), .pointer (some ⟨w.heap.size + 3, 0, none⟩)]] 78)
    rw [s3] at k4
    exact Lib.hid ⟨⟨Cells.of_ext (Ext.trans (Ext.trans (Ext.trans x1 x2) x3) x4), block_ext k3 x4, block_ext k1 (Ext.trans (Ext.trans x2 x3) x4), k4⟩, a2.mod ((Ext.trans x3 x4).mod (fun _ => False)) (fun h => h)⟩
  have HC : Hid (∀ w', WalkRes L R (w.heap.size + 1) (fun _ => none) St.start ((((w.alloc (.cells (wordsCells L R) 43)).alloc (.map #[] 0)).alloc (.cells #[.map (some (w.heap.size + 1))] 46)).alloc (.cells #[.func (.func 27) #[] #[.pointer (some ⟨w.heap.size + 2, 0, none⟩), .pointer (some ⟨w.heap.size, 0, none⟩), .pointer (some ⟨w.heap.size + 3, 0, none⟩)]] 78)) (.returned (.int .i64 (val L.side R.side St.start))) w' → w'.cell? ⟨w.heap.size + 1 + 1, 0, none⟩ = some (.map (some (w.heap.size + 1))) ∧ CostsRes L R w (.returned (.map (some (w.heap.size + 1)))) w') := Lib.hid (by
    rintro w' ⟨_, hm, f', n', h1, h2, h3, h4⟩
    have hk := block_keep hM.out.1.known hm (by omega)
    refine ⟨cell_of hk 0, ?_, w.heap.size + 1, f', n', rfl, by omega, h1, h2, h4⟩
    exact (((HX.out _ _ _ _).mod (fun k => k = w.heap.size + 1)).trans' hm (fun k _ h => h) (fun k _ h => h)).ext_of_none (fun k hk h => by omega))
  have HW2 : Hid (Calls Tryz.prog 27 #[.agg #[.int .i64 0, .int .i64 0, .string ⟨#[]⟩, .bool false], .pointer (some ⟨w.heap.size + 1 + 1, 0, none⟩), .pointer (some ⟨w.heap.size, 0, none⟩), .pointer (some ⟨w.heap.size + 1 + 1 + 1, 0, none⟩)] ((((w.alloc (.cells #[letVal L.lg L.lc L.letters, .slice L.A L.rules.length L.rc, letVal R.lg R.lc R.letters, .slice R.A R.rules.length R.rc] 43)).alloc (.map #[] 0)).alloc (.cells #[.map (some (w.heap.size + 1))] 46)).alloc (.cells #[.func (.func 27) #[] #[.pointer (some ⟨w.heap.size + 1 + 1, 0, none⟩), .pointer (some ⟨w.heap.size, 0, none⟩), .pointer (some ⟨w.heap.size + 1 + 1 + 1, 0, none⟩)]] 78)) (WalkRes L R (w.heap.size + 1) (fun _ => none) St.start ((((w.alloc (.cells (wordsCells L R) 43)).alloc (.map #[] 0)).alloc (.cells #[.map (some (w.heap.size + 1))] 46)).alloc (.cells #[.func (.func 27) #[] #[.pointer (some ⟨w.heap.size + 2, 0, none⟩), .pointer (some ⟨w.heap.size, 0, none⟩), .pointer (some ⟨w.heap.size + 3, 0, none⟩)]] 78)))) := Lib.hid (HW.out _ (fun _ => none) 0 hM.out.1 hM.out.2 (inv_none _ _))
  clear HW hM
  have hst : ∀ (K : Ending → World → Prop), True := fun _ => trivial
  unfold wordsVal
  go_enter Tryz.func15, Tryz.ntmps15
  go_wp2_with (go_at_call 27; (with_reducible refine (HW2.out).mono ?_); rintro e w1 hres; obtain ⟨rfl, hres2⟩ := hres; obtain ⟨kk, hcr⟩ := HC.out _ ⟨rfl, hres2⟩; have HCR := Lib.hid hcr; clear hcr hres2)
  go_ret
  exact HCR.out
end Go.Proofs.YtkkbkhcapogobaaGreatDoor
