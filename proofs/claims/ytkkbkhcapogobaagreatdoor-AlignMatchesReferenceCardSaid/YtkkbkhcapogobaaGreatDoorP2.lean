/- Contracts: the reference's Fold; ref10's Letters, Folded, small, cost, Twice. -/
import Derived.Test.YtkkbkhcapogobaaGreatDoorP1
namespace Go.Proofs.YtkkbkhcapogobaaGreatDoor
open Go Go.RowKit Go.Lib Go.Proofs S Go.Shelf Go.Maps Go.WideMaps
set_option linter.unusedVariables false
set_option linter.unusedSimpArgs false

def byteVs (l : Str) : List Value := l.map (fun b => Value.int .u8 (b.toNat : Int))
theorem Tryz.info_u8 : (Tryz.prog.info? 5).map (fun i => (i.zero, i.size, i.bytes)) = some (some (.int .u8 0), 1, 1) := by kernel_rfl
theorem lower1_up {c : UInt8} (h1 : 65 ≤ c.toNat) (h2 : c.toNat ≤ 90) : ((lower1 c).toNat : Int) = c.toNat + 32 := by
  have h : ∀ c : Fin 256, 65 ≤ c.val → c.val ≤ 90 → (lower1 c.val.toUInt8).toNat = c.val + 32 := by decide +kernel
  have := h ⟨c.toNat, c.toNat_lt⟩ h1 h2
  simp at this
  omega
theorem lower1_other {c : UInt8} (h : ¬ (65 ≤ c.toNat ∧ c.toNat ≤ 90)) : (lower1 c).toNat = c.toNat := by
  have h' : ∀ c : Fin 256, ¬ (65 ≤ c.val ∧ c.val ≤ 90) → (lower1 c.val.toUInt8).toNat = c.val := by decide +kernel
  have := h' ⟨c.toNat, c.toNat_lt⟩ h
  simpa using this
theorem own_bytes {W : World} {base : Nat} {e : TypeId} {g n cap : Nat} {l : Str} (h : W.ownsRow base e 1 (.slice (some ⟨g, 0, none⟩) n cap) n (byteVs l)) (hn : l.length = n) : ∀ j (hj : j < l.length), W.cell? ((⟨g, 0, none⟩ : Addr).add j) = some (.int .u8 (l[j].toNat : Int)) := by
  intro j hj
  rcases h.2 with ⟨h, _⟩ | ⟨g', cap', cur, he, hb, hh, hc, hm, hs, ht⟩
  · cases h
  · cases he
    have ha : ((⟨g, 0, none⟩ : Addr).add j) = ⟨g, j, none⟩ := by
      cases j with
      | zero => simp [Addr.add]
      | succ n => simp [Addr.add]
    rw [ha, cell_of hh]
    have h3 : (byteVs l)[j]? = some (.int .u8 (l[j].toNat : Int)) := by simp [byteVs, List.getElem?_eq_getElem hj]
    rw [← ht, Nat.mul_one, List.getElem?_take] at h3
    split at h3
    · simpa using h3
    · cases h3
set_option maxRecDepth 100000 in
set_option maxHeartbeats 4000000 in
theorem refFold_any (k : Int) (s : Str) (w : World) (hs : s.length ≤ 140737488350000) :
    Calls Tryz.prog 32 #[.int .i64 k, .string (B s)] w fun e w' => Ext w w' ∧
      ((foldS k s = none ∧ e = .returned (.tuple #[.string ⟨#[]⟩, .int .i64 1])) ∨ (∃ f, foldS k s = some f ∧ e = .returned (.tuple #[.string (B f), .int .i64 0]))) := by
  have z1 : (B s).size = s.length := rfl
  have HW := Lib.hid (refWord_any k s w hs)
  cases hk : (lettersS k s).isSome with
  | false =>
    have R : Hid (foldS k s = none) := Lib.hid (by unfold foldS; rw [hk]; rfl)
    rw [hk] at HW
    clear hk
    go_enter Tryz.func32, Tryz.ntmps32
    go_wp2_with (go_at_call 50; (with_reducible refine (HW.out).mono ?_); rintro e w1 ⟨hb1, rfl⟩)
    go_ret2
    exact ⟨hb1, .inl ⟨R.out, rfl⟩⟩
  | true =>
    have R : Hid (foldS k s = some (lowerS s)) := Lib.hid (by unfold foldS; rw [hk]; rfl)
    rw [hk] at HW
    clear hk
    go_enter Tryz.func32, Tryz.ntmps32
    go_wp2_with (go_at_call 50; (with_reducible refine (HW.out).mono ?_); rintro e w1 ⟨hb1, rfl⟩)
    go_loopw [6, 7] (fun v i wr => ∃ (n g cap : Nat), n ≤ s.length ∧ i = .int .i64 n ∧ v = .slice (some ⟨g, 0, none⟩) n cap ∧ Ext w wr ∧ wr.ownsRow w.heap.size 5 1 v n (byteVs (lowerS (s.take n)))) (fun _ i _ => s.length - (intOf i).toNat)
    case atStart =>
      have hsz := hb1.size
      refine ⟨0, w1.heap.size, 0, Nat.zero_le _, rfl, rfl, hb1.alloc _, ⟨rfl, .inr ⟨w1.heap.size, 0, #[], rfl, hsz, World.alloc_heap_new w1 _, Nat.le_refl _, Nat.zero_le _, by simp, by simp [byteVs, lowerS]⟩⟩⟩
    case round =>
      rename_i hrel
      rename_i hrel
      obtain ⟨n, g, cap, hn, rfl, rfl, hb, hown⟩ := hrel
      by_cases hnn : n < s.length
      · have hx : s[n]? = some s[n] := List.getElem?_eq_getElem hnn
        have htk : s.take (n + 1) = s.take n ++ [s[n]] := (List.take_append_getElem hnn).symm
        have hbv : byteVs (lowerS (s.take (n + 1))) = byteVs (lowerS (s.take n)) ++ [.int .u8 ((lower1 s[n]).toNat : Int)] := by rw [htk]; unfold byteVs lowerS; rw [List.map_append, List.map_append]; rfl
        generalize s[n] = c at hx hbv
        have q1 : ∀ h : n < (B s).size, (B s)[n]'h = c := fun h => (List.getElem?_eq_some_iff.1 hx).2
        have hbw := hb.size
        have hlen : (n + 1) * 1 ≤ 140737488355328 := by omega
        have HOW := Lib.hid hown
        have HB := Lib.hid hb
        have HBV := Lib.hid hbv
        have fin : ∀ (v1 : Value) (w2 : World) (z : Int), Appended wr w2 w.heap.size 5 1 n (.slice (some ⟨g, 0, none⟩) n cap) v1 (byteVs (lowerS (s.take n))) [.int .u8 z] → ((lower1 c).toNat : Int) = z → (∃ (n' g' cap' : Nat), n' ≤ s.length ∧ Value.int IntKind.i64 (n + 1) = .int .i64 n' ∧ v1 = .slice (some ⟨g', 0, none⟩) n' cap' ∧ Ext w w2 ∧ w2.ownsRow w.heap.size 5 1 v1 n' (byteVs (lowerS (s.take n')))) := fun v1 w2 z hA hz => by
          obtain ⟨g1, cap1, rfl⟩ := ownsRow_succ hA.own
          refine ⟨n + 1, g1, cap1, by omega, by simp, rfl, Mod.below_trans HB.out hA.mod HB.out.size (fun i hi h => by have := (ownsRow_block HOW.out h).1; omega), ?_⟩
          rw [HBV.out, hz]
          exact hA.own
        have FIN := Lib.hid fin
        clear fin hx hbv htk hb
        by_cases hu : 65 ≤ c.toNat ∧ c.toNat ≤ 90
        · obtain ⟨hu1, hu2⟩ := hu
          have hw8 : IntKind.u8.wrap ((c.toNat : Int) + 32) = c.toNat + 32 := by simp [IntKind.wrap, IntKind.bits, IntKind.signed]; omega
          have HZ := Lib.hid (lower1_up hu1 hu2)
          have t1 : (65 : Int) ≤ c.toNat := by omega
          have t2 : (c.toNat : Int) ≤ 90 := by omega
          go_wp2_with (at_builtin; refine wpList_app1 (W := wr) w.heap.size (.tmp 31) (.tmp 33) 103 5 (.int .u8 0) 1 1 rfl Tryz.underlying103 Tryz.info_u8 rfl (by decide) (by decide) (.slice (some ⟨g, 0, none⟩) n cap) n (byteVs (lowerS (s.take n))) [.int .u8 ((c.toNat : Int) + 32)] rfl rfl rfl (by simp [Value.oneCell']) hown hbw hlen rfl ?_; intro v1 w2 hA)
          exact ⟨FIN.out _ _ _ hA HZ.out, by simp only [intOf]; omega⟩
        · have HZ := Lib.hid (congrArg Int.ofNat (lower1_other hu))
          have t1 : ¬ ((65 : Int) ≤ c.toNat ∧ (c.toNat : Int) ≤ 90) := by omega
          by_cases hu1 : (65 : Int) ≤ c.toNat
          · have t2 : ¬ (c.toNat : Int) ≤ 90 := by omega
            clear t1 hu
            go_wp2_with (at_builtin; refine wpList_app1 (W := wr) w.heap.size (.tmp 31) (.tmp 33) 103 5 (.int .u8 0) 1 1 rfl Tryz.underlying103 Tryz.info_u8 rfl (by decide) (by decide) (.slice (some ⟨g, 0, none⟩) n cap) n (byteVs (lowerS (s.take n))) [.int .u8 (c.toNat : Int)] rfl rfl rfl (by simp [Value.oneCell']) hown hbw hlen rfl ?_; intro v1 w2 hA)
            exact ⟨FIN.out _ _ _ hA HZ.out, by simp only [intOf]; omega⟩
          · clear t1 hu
            go_wp2_with (at_builtin; refine wpList_app1 (W := wr) w.heap.size (.tmp 31) (.tmp 33) 103 5 (.int .u8 0) 1 1 rfl Tryz.underlying103 Tryz.info_u8 rfl (by decide) (by decide) (.slice (some ⟨g, 0, none⟩) n cap) n (byteVs (lowerS (s.take n))) [.int .u8 (c.toNat : Int)] rfl rfl rfl (by simp [Value.oneCell']) hown hbw hlen rfl ?_; intro v1 w2 hA)
            exact ⟨FIN.out _ _ _ hA HZ.out, by simp only [intOf]; omega⟩
      · have hnl : n = s.length := by omega
        subst hnl
        rw [List.take_length] at hown
        have hl : (lowerS s).length = s.length := by simp [lowerS]
        have hcv := run_convert_bytes_back (P := Tryz.prog) wr 103 9 5 ⟨g, 0, none⟩ cap (lowerS s) Tryz.underlying103 Tryz.underlying5 Tryz.underlying9 (own_bytes hown hl)
        rw [hl] at hcv
        clear hl hown
        go_wp2
        go_ret2
        exact ⟨hb, .inr ⟨_, R.out, rfl⟩⟩
end Go.Proofs.YtkkbkhcapogobaaGreatDoor
