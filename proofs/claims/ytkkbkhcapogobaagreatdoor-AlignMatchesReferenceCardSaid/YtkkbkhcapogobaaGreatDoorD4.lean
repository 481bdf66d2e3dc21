/- Contracts: words.done, slices of sides. -/
import Derived.Test.YtkkbkhcapogobaaGreatDoorD3
namespace Go.Proofs.YtkkbkhcapogobaaGreatDoor
open Go Go.RowKit Go.Lib Go.Proofs S Go.Shelf Go.Maps
set_option linter.unusedVariables false
set_option linter.unusedSimpArgs false

def stVal (s : St) : Value := .agg #[.int .i64 s.i, .int .i64 s.j, .string (B s.ahead), .bool s.right]

set_option maxRecDepth 100000 in
/-- (align.words).done. -/
theorem done_any (g1 c1 g2 c2 : Nat) (L R : List Str) (rv1 rv2 : Value) (s : St) (w : World) :
    Calls Tryz.prog 16 #[.agg #[letVal g1 c1 L, rv1, letVal g2 c2 R, rv2], stVal s] w fun e w' => e = .returned (.bool (decide (s.i = L.length) && decide (s.j = R.length) && decide (s.ahead = []))) ∧ Ext w w' := by
  obtain ⟨i, j, ah, rt⟩ := s
  simp only [letVal, stVal]
  generalize L.length = n
  generalize R.length = m
  have hB : (B ah).toList = ah := by rw [Lib.toList_data]
  by_cases h1 : i = n
  · have e1 : ((i : Int) == n) = true := by simp [h1]
    have HD : Hid (decide (i = n) = true) := Lib.hid (by simp [h1])
    by_cases h2 : j = m
    · have e2 : ((j : Int) == m) = true := by simp [h2]
      have HE : Hid (decide (j = m) = true) := Lib.hid (by simp [h2])
      clear h1 h2
      cases ha : ah.isEmpty with
      | true =>
        have HA : Hid (ah = []) := Lib.hid (by cases ah <;> first | rfl | cases ha)
        rw [← hB] at ha
        clear hB
        go_enter Tryz.func16, Tryz.ntmps16
        go_wp2
        go_ret
        exact ⟨ret_bool (by rw [HD.out, HE.out, HA.out]; simp), (Ext.new _ _).alloc _⟩
      | false =>
        have HA : Hid (ah ≠ []) := Lib.hid (by cases ah; cases ha; simp)
        rw [← hB] at ha
        clear hB
        go_enter Tryz.func16, Tryz.ntmps16
        go_wp2
        go_ret
        exact ⟨ret_bool (by simp [HA.out]), (Ext.new _ _).alloc _⟩
    · have e2 : ((j : Int) == m) = false := beq_eq_false_iff_ne.2 (by omega)
      have HE : Hid (decide (j = m) = false) := Lib.hid (by simp [h2])
      clear h1 h2
      go_enter Tryz.func16, Tryz.ntmps16
      go_wp2
      go_ret
      exact ⟨ret_bool (by rw [HE.out]; simp), (Ext.new _ _).alloc _⟩
  · have e1 : ((i : Int) == n) = false := beq_eq_false_iff_ne.2 (by omega)
    have HD : Hid (decide (i = n) = false) := Lib.hid (by simp [h1])
    clear h1
    go_enter Tryz.func16, Tryz.ntmps16
    go_wp2
    go_ret
    exact ⟨ret_bool (by rw [HD.out]; rfl), (Ext.new _ _).alloc _⟩
end Go.Proofs.YtkkbkhcapogobaaGreatDoor
