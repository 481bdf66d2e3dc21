/- Contracts: slices.IndexFunc as written uses it. -/
import Derived.Test.YtkkbkhcapogobaaGreatDoorE3
namespace Go.Proofs.YtkkbkhcapogobaaGreatDoor
open Go Go.RowKit Go.Lib Go.Proofs S Go.Shelf Go.Maps Go.WideMaps
set_option linter.unusedVariables false
set_option linter.unusedSimpArgs false

theorem pred_any (m : MR) (Bi : Nat) (i : Int) (w : World) (hi : w.heap[Bi]? = some (.cells #[.int .i64 i] 3)) :
    Calls Tryz.prog 38 #[.agg #[.int .i64 m.1.index, .int .i64 m.1.cost, letVal m.2.1 m.2.2 m.1.frm, .string (B m.1.to)], .pointer (some ⟨Bi, 0, none⟩)] w fun e w' => e = .returned (.bool (m.1.index == i)) ∧ Ext w w' := by
  have hc : ∀ o, (w.alloc o).cell? ⟨Bi, 0, none⟩ = some (.int .i64 i) := fun o => cell_of (block_ext hi (Ext.new w o)) 0
  go_enter Tryz.func38, Tryz.ntmps38
  go_wp2
  go_ret
  exact ⟨by simp, Ext.new w _⟩

/-- Where the first rule of a number stands; -1: nowhere. -/
def idxM (rs : List MR) (i : Int) : Int := match rs.findIdx? (fun r => r.1.index == i) with | some k => k | none => -1

set_option maxRecDepth 100000 in
set_option maxHeartbeats 4000000 in
theorem idx_any (rs : List MR) (A : Option Addr) (rc : Nat) (Bi : Nat) (i : Int) (w : World) (hl : rs.length ≤ 1000) (hA : ElemsAt w A 4 (rs.map mrVals)) (hi : w.heap[Bi]? = some (.cells #[.int .i64 i] 3)) :
    Calls Tryz.prog 37 #[.slice A rs.length rc, .func (.func 38) #[] #[.pointer (some ⟨Bi, 0, none⟩)]] w fun e w' => e = .returned (.int .i64 (idxM rs i)) ∧ Ext w w' := by
  have HP : Hid (∀ m w', Ext w w' → _) := Lib.hid (fun (m : MR) w' hb => pred_any m Bi i w' (block_ext hi hb))
  go_enter Tryz.func37, Tryz.ntmps37
  go_wp2
  go_loopw [8] (fun v wr => ∃ k : Nat, k ≤ rs.length ∧ v = .int .i64 k ∧ Ext w wr ∧ ∀ j m, j < k → rs[j]? = some m → (m.1.index == i) = false) (fun v _ => rs.length - (intOf v).toNat)
  case atStart => exact ⟨0, Nat.zero_le _, rfl, Below.refl _ _, fun j m h => absurd h (Nat.not_lt_zero _)⟩
  case round =>
    rename_i hrel
    obtain ⟨k, hk, rfl, hb, hno⟩ := hrel
    by_cases hkk : k < rs.length
    · have hx : rs[k]? = some rs[k] := List.getElem?_eq_getElem hkk
      obtain ⟨a, rfl, hcells⟩ := (hA.ext hb).elem hx
      obtain ⟨c0, c1, c2, c3⟩ := elem4 hcells
      have HNO := Lib.hid hno
      clear hno hcells hA hi
      cases hm : (rs[k].1.index == i) with
      | true =>
        have HR : Hid (idxM rs i = k) := by
          have : rs.findIdx? (fun r => r.1.index == i) = some k := by
            rw [List.findIdx?_eq_some_iff_getElem]
            exact ⟨hkk, hm, fun j hj => by have := HNO.out j rs[j] hj (List.getElem?_eq_getElem (by omega)); simpa using this⟩
          unfold idxM; rw [this]; exact Lib.hid rfl
        have HP2 := Lib.hid (HP.out rs[k] wr hb)
        rw [hm] at HP2
        clear hm hx
        generalize rs[k] = m at *
        go_wp2_with (go_at_call 38; (with_reducible refine (HP2.out).mono ?_); rintro e w1 ⟨rfl, hb1⟩)
        go_ret
        exact ⟨by rw [HR.out]; rfl, Ext.trans hb hb1⟩
      | false =>
        have HN2 : Hid (∀ j m, j < k + 1 → rs[j]? = some m → (m.1.index == i) = false) := Lib.hid (fun j m hj h => by
          rcases Nat.lt_succ_iff_lt_or_eq.1 hj with h1 | h1
          · exact HNO.out j m h1 h
          · subst h1; rw [hx] at h; cases h; exact hm)
        have HP2 := Lib.hid (HP.out rs[k] wr hb)
        rw [hm] at HP2
        clear hm hx
        generalize rs[k] = m at *
        go_wp2_with (go_at_call 38; (with_reducible refine (HP2.out).mono ?_); rintro e w1 ⟨rfl, hb1⟩)
        go_roundw
        case rel => exact ⟨k + 1, by omega, by simp, Ext.trans hb hb1, HN2.out⟩
        case measure => simp [intOf]; omega
    · have hke : k = rs.length := by omega
      subst hke
      have HR : Hid (idxM rs i = -1) := by
        have : rs.findIdx? (fun r => r.1.index == i) = none := by
          rw [List.findIdx?_eq_none_iff]
          intro x hx
          obtain ⟨j, hj, rfl⟩ := List.mem_iff_getElem.1 hx
          exact hno j rs[j] hj (List.getElem?_eq_getElem hj)
        unfold idxM; rw [this]; exact Lib.hid rfl
      clear hno
      go_wp2
      go_ret
      exact ⟨by rw [HR.out]; rfl, hb⟩
end Go.Proofs.YtkkbkhcapogobaaGreatDoor
