/- Contracts: the reference's Letters, Word. -/
import Derived.Test.YtkkbkhcapogobaaGreatDoorP0
import Derived.Test.YtkkbkhcapogobaaGreatDoorD7
namespace Go.Proofs.YtkkbkhcapogobaaGreatDoor
open Go Go.RowKit Go.Lib Go.Proofs S Go.Shelf Go.Maps Go.WideMaps
set_option linter.unusedVariables false
set_option linter.unusedSimpArgs false

theorem own_slice {W : World} {base : Nat} {e : TypeId} {size n : Nat} {v : Value} {xs : List Value} (h : W.ownsRow base e size v n xs) : ∃ (A : Option Addr) (q : Nat), v = .slice A n q := by
  rcases h.2 with ⟨rfl, rfl⟩ | ⟨g, cap, cur, rfl, _⟩
  · exact ⟨none, 0, rfl⟩
  · exact ⟨_, _, rfl⟩
theorem extract_B (s : Str) (n m : Nat) : (B s).extract n (n + m) = B ((s.drop n).take m) := by
  rw [← B_data ((B s).extract n (n + m)), Lib.extract_data]
  have : n + m - n = m := by omega
  simp [this]
set_option maxRecDepth 100000 in
set_option maxHeartbeats 4000000 in
theorem refLetters_any (k : Int) (s : Str) (w : World) (hs : s.length ≤ 140737488350000) :
    Calls Tryz.prog 33 #[.int .i64 k, .string (B s)] w fun e w' => Below w.heap.size w w' ∧
      ((lettersS k s = none ∧ e = .returned (.tuple #[.slice none 0 0, .int .i64 1])) ∨
       (∃ v ls, lettersS k s = some ls ∧ e = .returned (.tuple #[v, .int .i64 0]) ∧ w'.ownsRow w.heap.size 9 1 v ls.length (strVals (ls.map B)))) := by
  have z1 : (B s).size = s.length := rfl
  have HLN : Hid (∀ (n : Nat) (w' : World), n ≤ s.length → Calls Tryz.prog 51 #[.int .i64 k, .string (B s), .int .i64 n] w' fun e w'' => Ext w' w'' ∧ e = .returned (.int .i64 (lenL k (s.drop n)))) := Lib.hid (fun n w' h => Length_any k s n w' (by omega) (by omega))
  go_enter Tryz.func33, Tryz.ntmps33
  go_wp2
  go_loopw [6, 7] (fun v i wr => ∃ (n : Nat) (ps : List Str), n ≤ s.length ∧ i = .int .i64 n ∧ ps.length ≤ 12 ∧ pieces k s = ps ++ pieces k (s.drop n) ∧ leftover k s = leftover k (s.drop n) ∧ Ext w wr ∧ wr.ownsRow w.heap.size 9 1 v ps.length (strVals (ps.map B))) (fun _ i _ => s.length - (intOf i).toNat)
  case atStart => exact ⟨0, [], Nat.zero_le _, rfl, by simp, rfl, rfl, Below.refl _ w, ⟨rfl, .inl ⟨rfl, rfl⟩⟩⟩
  case round =>
    rename_i hrel
    rename_i hrel
    obtain ⟨n, ps, hn, rfl, hp, hpc, hlo, hb, hown⟩ := hrel
    obtain ⟨A, q, rfl⟩ := own_slice hown
    by_cases hnn : n < s.length
    · have hd : s.drop n ≠ [] := by
        intro h
        have := congrArg List.length h
        simp at this; omega
      have hle := lenL_le k (s.drop n)
      have hle2 := lenL_le2 k (s.drop n)
      have HLNn := Lib.hid (HLN.out n wr hn)
      by_cases hz : lenL k (s.drop n) = 0
      · have R : Hid (lettersS k s = none) := Lib.hid (by
          unfold lettersS
          rw [hlo, (pieces_none hz).2, if_neg (by simp [hd])])
        rw [hz] at HLNn
        clear hz hpc hlo hd hle hle2
        go_wp2_with (go_at_call 51; (with_reducible refine (HLNn.out).mono ?_); rintro e w1 ⟨hb1, rfl⟩)
        go_ret2
        exact ⟨Ext.trans hb hb1, .inl ⟨R.out, rfl⟩⟩
      · have hps := pieces_some hz
        by_cases h12 : ps.length = 12
        · have R : Hid (lettersS k s = none) := Lib.hid (by
            unfold lettersS
            rw [if_neg]
            rintro ⟨_, _, h3⟩
            rw [hpc, hps.1, List.length_append, List.length_cons] at h3
            omega)
          obtain ⟨L, hL⟩ : ∃ L, lenL k (s.drop n) = L := ⟨_, rfl⟩
          rw [hL] at HLNn hz
          clear hpc hlo hd hle hle2 hps hL
          have hz' : ((L : Int) == 0) = false := by rw [beq_eq_false_iff_ne]; omega
          go_wp2_with (go_at_call 51; (with_reducible refine (HLNn.out).mono ?_); rintro e w1 ⟨hb1, rfl⟩)
          go_ret2
          exact ⟨Ext.trans hb hb1, .inl ⟨R.out, rfl⟩⟩
        · have hx : (B s).extract n (n + lenL k (s.drop n)) = B ((s.drop n).take (lenL k (s.drop n))) := extract_B s n _
          have hpc2 : pieces k s = (ps ++ [(s.drop n).take (lenL k (s.drop n))]) ++ pieces k (s.drop (n + lenL k (s.drop n))) := by rw [hpc, hps.1, List.drop_drop, List.append_assoc]; rfl
          have hlo2 : leftover k s = leftover k (s.drop (n + lenL k (s.drop n))) := by rw [hlo, hps.2, List.drop_drop]
          have hdl : (s.drop n).length = s.length - n := by simp
          rw [hdl] at hle
          generalize hpz : (s.drop n).take (lenL k (s.drop n)) = z at hx hpc2
          obtain ⟨L, hL⟩ : ∃ L, lenL k (s.drop n) = L := ⟨_, rfl⟩
          rw [hL] at HLNn hz hx hpc2 hlo2 hle hle2
          clear hpc hlo hd hps hL hdl hpz
          have hz' : ((L : Int) == 0) = false := by rw [beq_eq_false_iff_ne]; omega
          have h12' : ((ps.length : Int) == 12) = false := by rw [beq_eq_false_iff_ne]; omega
          have hwr : IntKind.i64.wrap ((n : Int) + L) = n + L := by rw [IntKind.wrap_i64]; omega
          have htn : ((n : Int) + L).toNat = n + L := by omega
          have HPC := Lib.hid (And.intro hpc2 hlo2)
          have hbw := hb.size
          have hlen : (ps.length + 1) * 16 ≤ 140737488355328 := by omega
          have HOW := Lib.hid hown
          have HB := Lib.hid hb
          clear hpc2 hlo2 hown hb
          go_wp2_with (first | (go_at_call 51; (with_reducible refine (HLNn.out).mono ?_); rintro e w1 ⟨hb1, rfl⟩; have hown1 := ownsRow_mod HOW.out (hb1.mod (fun _ => False)) (fun _ _ h => h); have hbw1 := Nat.le_trans hbw hb1.size) | (at_builtin; refine wpList_app1 (W := w1) w.heap.size (.tmp 24) (.tmp 31) 38 9 (.string ⟨#[]⟩) 1 16 rfl Tryz.underlying38 Tryz.info_string rfl (by decide) (by decide) (.slice A ps.length q) ps.length (strVals (ps.map B)) [.string (B z)] rfl rfl rfl (by simp [Value.oneCell']) hown1 hbw1 hlen rfl ?_; intro v1 w2 hA))
          refine ⟨⟨n + L, ps ++ [z], by omega, by simp, by simp; omega, HPC.out.1, HPC.out.2, Mod.below_trans (Ext.trans HB.out hb1) hA.mod (Ext.trans HB.out hb1).size (fun i hi h => by have := (ownsRow_block hown1 h).1; omega), ?_⟩, by simp only [intOf]; omega⟩
          have := hA.own
          simp only [List.length_append, List.length_cons, List.length_nil, List.map_append, List.map_cons, List.map_nil]
          rw [strVals_snoc]
          exact this
    · have hnl : n = s.length := by omega
      subst hnl
      rw [List.drop_length] at hpc hlo
      have e1 : pieces k ([] : Str) = [] := rfl
      have e2 : leftover k ([] : Str) = [] := rfl
      rw [e1, List.append_nil] at hpc
      rw [e2] at hlo
      by_cases h0 : ps.length = 0
      · have R : Hid (lettersS k s = none) := Lib.hid (by unfold lettersS; rw [hpc, if_neg (by omega)])
        have h0' : (ps.length : Int) = 0 := by omega
        clear hpc hlo
        go_wp2
        go_ret2
        exact ⟨hb, .inl ⟨R.out, rfl⟩⟩
      · have R : Hid (lettersS k s = some ps) := Lib.hid (by unfold lettersS; rw [hpc, hlo, if_pos ⟨rfl, by omega, by omega⟩])
        have h0' : ¬ (ps.length : Int) = 0 := by omega
        have HO := Lib.hid hown
        clear hpc hlo hown
        go_wp2
        go_ret2
        exact ⟨hb, .inr ⟨_, ps, R.out, rfl, HO.out⟩⟩
set_option maxRecDepth 100000 in
theorem refWord_any (k : Int) (s : Str) (w : World) (hs : s.length ≤ 140737488350000) :
    Calls Tryz.prog 50 #[.int .i64 k, .string (B s)] w fun e w' => Ext w w' ∧ e = .returned (.bool (lettersS k s).isSome) := by
  have H := Lib.hid (refLetters_any k s w hs)
  go_enter Tryz.func50, Tryz.ntmps50
  go_wp2_with (go_at_call 33; (with_reducible refine (H.out).mono ?_); rintro e w1 ⟨hb1, (⟨h1, rfl⟩ | ⟨v, ls, h1, rfl, _⟩)⟩)
  · have R := Lib.hid h1
    clear h1
    go_wp2
    go_ret
    exact ⟨hb1, ret_bool (by rw [R.out]; rfl)⟩
  · have R := Lib.hid h1
    clear h1
    go_wp2
    go_ret
    exact ⟨hb1, ret_bool (by rw [R.out]; rfl)⟩
end Go.Proofs.YtkkbkhcapogobaaGreatDoor
