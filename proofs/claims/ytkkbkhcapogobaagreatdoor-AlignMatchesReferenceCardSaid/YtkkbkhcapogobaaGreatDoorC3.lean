/- Contracts: package script: Letters, Fold. -/
import Derived.Test.YtkkbkhcapogobaaGreatDoorC2
import Derived.Test.YtkkbkhcapogobaaGreatDoorB3
namespace Go.Proofs.YtkkbkhcapogobaaGreatDoor
open Go Go.RowKit Go.Lib Go.Proofs S Go.Shelf
set_option linter.unusedVariables false
set_option linter.unusedSimpArgs false
attribute [local go_sem] Oper.semAt_some

def strVals (xs : List ByteArray) : List Value := xs.map Value.string
theorem strVals_length (xs : List ByteArray) : (strVals xs).length = xs.length := by simp [strVals]
theorem strVals_snoc (xs : List ByteArray) (x : ByteArray) : strVals (xs ++ [x]) = strVals xs ++ [Value.string x] := by simp [strVals]
theorem Tryz.info_string : (Tryz.prog.info? 9).map (fun i => (i.zero, i.size, i.bytes)) = some (some (.string ⟨#[]⟩), 1, 16) := by kernel_rfl
theorem Tryz.mixed : Tryz.prog.follows .mixedOrders = true := by kernel_rfl

/-- How many bytes some strings hold. -/
def bytesOf (xs : List ByteArray) : Nat := (xs.map ByteArray.size).sum
theorem bytesOf_snoc (xs : List ByteArray) (x : ByteArray) : bytesOf (xs ++ [x]) = bytesOf xs + x.size := by simp [bytesOf]

theorem B_size (l : Str) : (B l).size = l.length := rfl
theorem data_length (s : ByteArray) : s.data.toList.length = s.size := rfl
theorem ownsRow_slice {w : World} {base : Nat} {e : TypeId} {size n : Nat} {v : Value} {xs : List Value} (h : w.ownsRow base e size v n xs) : ∃ A c, v = .slice A n c := by
  rcases h.2 with ⟨rfl, rfl⟩ | ⟨g, cap, cur, rfl, _⟩
  · exact ⟨_, _, rfl⟩
  · exact ⟨_, _, rfl⟩
/-- What is left of a text behind some letters. -/
def restOf (s : ByteArray) (pre : List ByteArray) : ByteArray := B (s.data.toList.drop (bytesOf pre))
theorem restOf_snoc (s : ByteArray) (pre : List ByteArray) (x : ByteArray) : (restOf s pre).extract x.size (restOf s pre).size = restOf s (pre ++ [x]) := by
  rw [extract_drop]
  unfold restOf
  rw [bytesOf_snoc]
  show B ((s.data.toList.drop (bytesOf pre)).drop x.size) = _
  rw [List.drop_drop]
theorem pieces_rest {k : Int} {l : Str} {pre rest : List ByteArray} (h : piecesB k l = pre ++ rest) : l.drop (bytesOf pre) = (rest.map (fun b => b.data.toList)).flatten ++ leftover k l := by
  have hf := flatten_leftover k l
  have e : (pieces k l).flatten = (pre.map (fun b => b.data.toList)).flatten ++ (rest.map (fun b => b.data.toList)).flatten := by
    have : pieces k l = (piecesB k l).map (fun b => b.data.toList) := by simp [piecesB, B, Function.comp_def]
    rw [this, h]; simp
  have hl : ((pre.map (fun b => b.data.toList)).flatten).length = bytesOf pre := by
    clear e h
    induction pre with
    | nil => rfl
    | cons x xs ih => simp only [List.map_cons, List.flatten_cons, List.length_append, ih, bytesOf, List.map_cons, List.sum_cons]; rfl
  generalize leftover k l = r at hf ⊢
  rw [← hf, e, List.append_assoc, ← hl, List.drop_left]
theorem pieces_le {k : Int} {l : Str} {pre rest : List ByteArray} {x : ByteArray} (h : piecesB k l = pre ++ x :: rest) : x.size ≤ (l.drop (bytesOf pre)).length := by
  rw [pieces_rest h]; simp

set_option maxRecDepth 100000 in
set_option maxHeartbeats 4000000 in
/-- script.Letters. -/
theorem Letters_any (k : Int) (s : ByteArray) (w : World) (hs : s.size ≤ 140737488351232) (hT : Tabs w) :
    Calls Tryz.prog 40 #[.int .i64 k, .string s] w fun e w' => Below w.heap.size w w' ∧
      ((lettersS k s.data.toList = none ∧ e = .returned (.tuple #[.slice none 0 0, .int .i64 1])) ∨
       (∃ v ls, lettersS k s.data.toList = some ls ∧ e = .returned (.tuple #[v, .int .i64 0]) ∧ w'.ownsRow w.heap.size 9 1 v ls.length (strVals (ls.map B)))) := by
  refine (callsIn_wide (n := 3)).1 ?_
  refine callsIn_of_wp_marks Tryz.func40 rfl trivial ?_ rfl
  simp only [Tryz.ntmps40, List.size_toArray, List.length_cons, List.length_nil, Nat.reduceAdd, Nat.reduceSub, Array.replicate_succ, Array.replicate_zero, List.push_toArray, List.append_toArray, List.nil_append, List.cons_append]
  gi_wp2_with (refine ⟨trivial, ?_⟩; gi_at_call 53; (with_reducible refine (callsIn_wide.2 (lettersIt_any _ _ _)).mono ?_); rintro e w1 ⟨rfl, rfl⟩)
  have bO := (((Boxed.new w 38 (.slice none 0 0)).alloc (.cells #[.string s] 9)).alloc (.cells #[.int .i64 k] 3)).alloc (.cells #[.string s] 9)
  have bR := ((Boxed.new (w.alloc (.cells #[.slice none 0 0] 38)) 9 (.string s)).alloc (.cells #[.int .i64 k] 3)).alloc (.cells #[.string s] 9)
  have bK := (Boxed.new ((w.alloc (.cells #[.slice none 0 0] 38)).alloc (.cells #[.string s] 9)) 3 (.int .i64 k)).alloc (.cells #[.string s] 9)
  have bS := Boxed.new (((w.alloc (.cells #[.slice none 0 0] 38)).alloc (.cells #[.string s] 9)).alloc (.cells #[.int .i64 k] 3)) 9 (.string s)
  simp only [World.size_alloc] at bR bK bS
  have hsz : ((((w.alloc (.cells #[.slice none 0 0] 38)).alloc (.cells #[.string s] 9)).alloc (.cells #[.int .i64 k] 3)).alloc (.cells #[.string s] 9)).heap.size = w.heap.size + 4 := by simp
  have hB0 : Ext w ((((w.alloc (.cells #[.slice none 0 0] 38)).alloc (.cells #[.string s] 9)).alloc (.cells #[.int .i64 k] 3)).alloc (.cells #[.string s] 9)) :=
    ((((Below.refl _ w).alloc (Nat.le_refl _) _).alloc (by simp) _).alloc (by simp; omega) _).alloc (by simp; omega) _
  obtain ⟨W0, hW0⟩ : ∃ W0, ((((w.alloc (.cells #[.slice none 0 0] 38)).alloc (.cells #[.string s] 9)).alloc (.cells #[.int .i64 k] 3)).alloc (.cells #[.string s] 9)) = W0 := ⟨_, rfl⟩
  rw [hW0] at bO bR bK bS hB0 hsz ⊢
  clear hW0
  have hit := letters_iter k s hs (w.heap.size + 1 + 1) (w.heap.size + 1 + 1 + 1) (by omega) w W0 hT hB0 (by omega) (by omega) bK bS
  refine rangeFunc_outer rfl (enters_of Tryz.func66 (by kernel_rfl) rfl) (T := fun b => b = w.heap.size ∨ b = w.heap.size + 1) hit (Mod.refl _ _)
    (by intro b hb; omega) (by intro b hb; omega) (by intro b hb; omega) (fun _ => rfl)
    (fun pre W => (∃ v, Boxed W w.heap.size 38 v ∧ W.ownsRow (w.heap.size + 4) 9 1 v pre.length (strVals pre)) ∧ Boxed W (w.heap.size + 1) 9 (.string (restOf s pre)) ∧ Below w.heap.size w W ∧ w.heap.size + 4 ≤ W.heap.size ∧ pre.length ≤ 12)
    (fun c pre W => c = .exit 0 ∧ (∃ v, Boxed W w.heap.size 38 v ∧ W.ownsRow (w.heap.size + 4) 9 1 v pre.length (strVals pre)) ∧ Boxed W (w.heap.size + 1) 9 (.string (restOf s pre)) ∧ Below w.heap.size w W ∧ w.heap.size + 4 ≤ W.heap.size ∧ 12 < pre.length)
    ?hI ?hIx ⟨⟨_, bO, World.ownsRow_nil _ _ _ _⟩, bR, hB0, by omega, by simp⟩
    (fun x a' _ => a' = { tmps := #[.int .i64 k, .string s, undef, undef, .slice none 0 0, .int .i64 0, .pointer (some ⟨w.heap.size, 0, none⟩), .pointer (some ⟨w.heap.size + 1, 0, none⟩), .string x, .string s, .int .i64 k, .string s, .func (.func 66) #[] #[.pointer (some ⟨w.heap.size + 1 + 1, 0, none⟩), .pointer (some ⟨w.heap.size + 1 + 1 + 1, 0, none⟩)], .string x, undef, undef, undef, undef, undef, undef, undef, undef, undef, undef, undef, undef, undef, undef, undef, undef, undef, undef, undef, undef, undef, undef, undef, undef], defers := [] })
    (fun _ _ _ _ h _ => h) ?assign ?body ?done ?stop
  case hI =>
    rintro pre W W' ⟨⟨v, bO1, hown⟩, bR1, hB1, hsz1, hpl⟩ hst
    exact ⟨⟨v, hst.boxed bO1 (by omega), ownsRow_mod hown hst (fun g hg h => by
      rcases h with h | h
      · have := (ownsRow_block hown hg).1; omega
      · exact ownsRow_not_book hown hg h.2)⟩, hst.boxed bR1 (by omega), hst.below_trans hB1 hB1.size (by intro i hi h; omega), Nat.le_trans hsz1 hst.size, hpl⟩
  case hIx =>
    rintro c pre W W' ⟨hc, ⟨v, bO1, hown⟩, bR1, hB1, hsz1, hpl⟩ hst
    exact ⟨hc, ⟨v, hst.boxed bO1 (by omega), ownsRow_mod hown hst (fun g hg h => by
      rcases h with h | h
      · have := (ownsRow_block hown hg).1; omega
      · exact ownsRow_not_book hown hg h.2)⟩, hst.boxed bR1 (by omega), hst.below_trans hB1 hB1.size (by intro i hi h; omega), Nat.le_trans hsz1 hst.size, hpl⟩
  case assign =>
    intro l pre x rest W K hx hi hK
    gi_wp2
    exact hK _ _ (BMod.refl _ _ _) hi rfl
  case body =>
    rintro l pre x rest a' W hx hl hlr ⟨⟨v, bO1, hown⟩, bR1, hB1, hsz1, hpl⟩ rfl
    have hxs : x.size ≤ (restOf s pre).size := pieces_le hx
    have hrs : (restOf s pre).size ≤ s.size := by unfold restOf; rw [B_size, List.length_drop, data_length]; omega
    have hrn := restOf_snoc s pre x
    generalize restOf s pre = r at bR1 hxs hrs hrn
    gi_wp2
    refine wpIn_mono (Q := fun e a1 W1 => e = .normal ∧ ∃ v1 u14 u15 u16 u17 u18 u19 u20 u21, a1 = { tmps := #[.int .i64 k, .string s, undef, undef, .slice none 0 0, .int .i64 0, .pointer (some ⟨w.heap.size, 0, none⟩), .pointer (some ⟨w.heap.size + 1, 0, none⟩), .string x, .string s, .int .i64 k, .string s, .func (.func 66) #[] #[.pointer (some ⟨w.heap.size + 1 + 1, 0, none⟩), .pointer (some ⟨w.heap.size + 1 + 1 + 1, 0, none⟩)], .string x, u14, u15, u16, u17, u18, u19, u20, u21, undef, undef, undef, undef, undef, undef, undef, undef, undef, undef, undef, undef, undef, undef, undef, undef], defers := [] } ∧
      Boxed W1 w.heap.size 38 v1 ∧ W1.ownsRow (w.heap.size + 4) 9 1 v1 (pre.length + 1) (strVals (pre ++ [x])) ∧ Boxed W1 (w.heap.size + 1) 9 (.string (restOf s (pre ++ [x]))) ∧ Below w.heap.size w W1 ∧ w.heap.size + 4 ≤ W1.heap.size ∧ BMod W0.heap.size (fun b => b = w.heap.size ∨ b = w.heap.size + 1) W W1) ?reg ?aft
    case reg =>
      have c1 := bO1.cell
      have c2 := bR1.cell
      have hlen : (pre.length + 1) * 16 ≤ 140737488355328 := by omega
      have hszd : w.heap.size + 4 ≤ W.drew.heap.size := hsz1
      have hownd : W.drew.ownsRow (w.heap.size + 4) 9 1 v pre.length (strVals pre) := hown
      have hnot : ∀ g, v.ownBlock = some g → w.heap.size + 4 ≤ g := fun g hg => (ownsRow_block hown hg).1
      have hq : ∀ w1, Mod (fun k => v.ownBlock = some k) W.drew w1 → w1.cell? ⟨w.heap.size, 0, none⟩ = some v ∧ w1.frozen? ⟨w.heap.size, 0, none⟩ = false ∧ w1.cell? ⟨w.heap.size + 1, 0, none⟩ = some (.string r) ∧ w1.frozen? ⟨w.heap.size + 1, 0, none⟩ = false := fun w1 hm => by
        have b1 : Boxed w1 w.heap.size 38 v := hm.boxed (show Boxed W.drew w.heap.size 38 v from bO1) (fun h => by have := hnot _ h; omega)
        have b2 : Boxed w1 (w.heap.size + 1) 9 (.string r) := hm.boxed (show Boxed W.drew (w.heap.size + 1) 9 (.string r) from bR1) (fun h => by have := hnot _ h; omega)
        exact ⟨b1.cell, b1.frozen, b2.cell, b2.frozen⟩
      have HREST := Lib.hid hrn
      have c3 : ∀ o, (W.alloc o).cell? ⟨w.heap.size, 0, none⟩ = some v := fun o => (bO1.alloc o).cell
      have c4 : ∀ o, (W.alloc o).cell? ⟨w.heap.size + 1, 0, none⟩ = some (.string r) := fun o => (bR1.alloc o).cell
      have fin : ∀ v1 w1, Appended W.drew w1 (w.heap.size + 4) 9 1 pre.length v v1 (strVals pre) [.string x] →
          Boxed ((w1.setCell ⟨w.heap.size, 0, none⟩ v1).setCell ⟨w.heap.size + 1, 0, none⟩ (.string (r.extract x.size r.size))) w.heap.size 38 v1 ∧
          ((w1.setCell ⟨w.heap.size, 0, none⟩ v1).setCell ⟨w.heap.size + 1, 0, none⟩ (.string (r.extract x.size r.size))).ownsRow (w.heap.size + 4) 9 1 v1 (pre.length + 1) (strVals (pre ++ [x])) ∧
          Boxed ((w1.setCell ⟨w.heap.size, 0, none⟩ v1).setCell ⟨w.heap.size + 1, 0, none⟩ (.string (r.extract x.size r.size))) (w.heap.size + 1) 9 (.string (restOf s (pre ++ [x]))) ∧
          Below w.heap.size w ((w1.setCell ⟨w.heap.size, 0, none⟩ v1).setCell ⟨w.heap.size + 1, 0, none⟩ (.string (r.extract x.size r.size))) ∧
          w.heap.size + 4 ≤ ((w1.setCell ⟨w.heap.size, 0, none⟩ v1).setCell ⟨w.heap.size + 1, 0, none⟩ (.string (r.extract x.size r.size))).heap.size ∧
          BMod W0.heap.size (fun b => b = w.heap.size ∨ b = w.heap.size + 1) W ((w1.setCell ⟨w.heap.size, 0, none⟩ v1).setCell ⟨w.heap.size + 1, 0, none⟩ (.string (r.extract x.size r.size))) := fun v1 w1 hA => by
        have b1 : Boxed w1 w.heap.size 38 v := hA.mod.boxed (show Boxed W.drew w.heap.size 38 v from bO1) (fun h => by have := hnot _ h; omega)
        have b2 : Boxed w1 (w.heap.size + 1) 9 (.string r) := hA.mod.boxed (show Boxed W.drew (w.heap.size + 1) 9 (.string r) from bR1) (fun h => by have := hnot _ h; omega)
        have hm1 : Mod (fun k => v.ownBlock = some k) W w1 := ((Mod.refl _ W).drew).trans hA.mod
        have hm2 : Mod (fun k => v.ownBlock = some k ∨ k = w.heap.size ∨ k = w.heap.size + 1) W ((w1.setCell ⟨w.heap.size, 0, none⟩ v1).setCell ⟨w.heap.size + 1, 0, none⟩ (.string (r.extract x.size r.size))) :=
          ((hm1.mono (fun _ _ h => .inl h)).setCell (p := ⟨w.heap.size, 0, none⟩) (.inl (.inr (.inl rfl))) v1).setCell (p := ⟨w.heap.size + 1, 0, none⟩) (.inl (.inr (.inr rfl))) _
        refine ⟨(b1.set v1).other (by omega) _, ?_, ?_, ?_, Nat.le_trans hsz1 hm2.size, ?_⟩
        · rw [strVals_snoc]
          exact ownsRow_mod hA.own ((Mod.refl (fun k => k = w.heap.size ∨ k = w.heap.size + 1) w1).setCell (p := ⟨w.heap.size, 0, none⟩) (.inl (.inl rfl)) v1 |>.setCell (p := ⟨w.heap.size + 1, 0, none⟩) (.inl (.inr rfl)) _) (fun g hg h => by
            have := (ownsRow_block hA.own hg).1; omega)
        · rw [← HREST.out]; exact (b2.other (by omega) v1).set _
        · exact hm2.below_trans hB1 hB1.size (by
            intro i hi h
            rcases h with h | h
            · have := hnot _ h; omega
            · omega)
        · exact hm2.mono (fun k hk h => by
            rcases h with h | h
            · exact .inr ⟨by have := hnot _ h; omega, ownsRow_not_book hown h⟩
            · exact .inl h)
      clear hB1 hx hlr hl hrn bO1 bR1 bO bR bK bS hit hB0 hT hown
      refine wpIn_region_out Tryz.mixed (fun _ _ h => by simp at h) (by kernel_rfl) ?_
      refine wpAny_take (i := 1) (v := ?_) rfl (by kernel_rfl) (by kernel_rfl) (by kernel_rfl) (fun _ _ _ h => by cases h.1) (Or.inl ⟨by rfl, ?_⟩) ?_
      rotate_left
      · (intro w; go_simp; first | done | with_reducible rfl)
      refine wpAny_take (i := 5) (v := ?_) rfl (by kernel_rfl) (by kernel_rfl) (by kernel_rfl) (fun _ _ _ h => by cases h.1) (Or.inl ⟨by rfl, ?_⟩) ?_
      rotate_left
      · (intro w; go_simp; first | done | with_reducible rfl)
      refine wpAny_take (i := 6) (v := ?_) rfl (by kernel_rfl) (by kernel_rfl) (by kernel_rfl) (fun _ _ _ h => by cases h.1) (Or.inl ⟨by rfl, ?_⟩) ?_
      rotate_left
      · (intro w; go_simp; first | done | with_reducible rfl)
      refine wpAny_ready (rs := [0, 2, 4]) (by kernel_rfl) (by simp) ?_
      refine AllReady.cons rfl (fun K hK => ?_) ?_
      · go_simp
        refine hK _ _ ?_
        clear hK K
        refine wpAny_ready (rs := [2, 4]) (by kernel_rfl) (by simp) ?_
        refine AllReady.cons rfl (fun K hK => ?_) ?_
        · go_simp
          refine hK _ _ ?_
          clear hK K
          refine wpAny_ready (rs := [3, 4]) (by kernel_rfl) (by simp) ?_
          refine AllReady.cons rfl (fun K hK => ?_) ?_
          · (refine step_app1 (W := W.drew) (w.heap.size + 4) (.tmp 14) (.tmp 16) 38 9 (.string ⟨#[]⟩) 1 16 rfl Tryz.underlying38 Tryz.info_string rfl (by decide) (by decide) v pre.length (strVals pre) [.string x] rfl rfl rfl (by simp [Value.oneCell']) hownd hszd hlen rfl ?_; intro v1 w1 hA; obtain ⟨g1, cap1, rfl⟩ := ownsRow_succ hA.own; obtain ⟨q1, q2, q3, q4⟩ := hq _ hA.mod)
            refine hK _ _ ?_
            clear hK K
            refine wpAny_ready (rs := [4, 8]) (by kernel_rfl) (by simp) ?_
            refine AllReady.cons rfl (fun K hK => ?_) ?_
            · go_simp
              refine hK _ _ ?_
              clear hK K
              refine wpAny_take (i := 7) (v := ?_) rfl (by kernel_rfl) (by kernel_rfl) (by kernel_rfl) (fun _ _ _ h => by cases h.1) (Or.inl ⟨by rfl, ?_⟩) ?_
              rotate_left
              · (intro w; go_simp; first | done | with_reducible rfl)
              refine wpAny_ready (rs := [8]) (by kernel_rfl) (by simp) ?_
              refine AllReady.cons rfl (fun K hK => ?_) ?_
              · go_simp
                refine hK _ _ ?_
                clear hK K
                refine wpAny_ready (rs := [9]) (by kernel_rfl) (by simp) ?_
                refine AllReady.cons rfl (fun K hK => ?_) ?_
                · go_simp
                  refine hK _ _ ?_
                  clear hK K
                  refine wpAny_done (by kernel_rfl) ?_ _
                  exact ⟨rfl, _, _, _, _, _, _, _, _, _, rfl, fin _ _ hA⟩
                exact AllReady.nil
              exact AllReady.nil
            refine AllReady.cons rfl (fun K hK => ?_) ?_
            · go_simp
              refine hK _ _ ?_
              clear hK K
              refine wpAny_ready (rs := [4]) (by kernel_rfl) (by simp) ?_
              refine AllReady.cons rfl (fun K hK => ?_) ?_
              · go_simp
                refine hK _ _ ?_
                clear hK K
                refine wpAny_take (i := 7) (v := ?_) rfl (by kernel_rfl) (by kernel_rfl) (by kernel_rfl) (fun _ _ _ h => by cases h.1) (Or.inl ⟨by rfl, ?_⟩) ?_
                rotate_left
                · (intro w; go_simp; first | done | with_reducible rfl)
                refine wpAny_ready (rs := [9]) (by kernel_rfl) (by simp) ?_
                refine AllReady.cons rfl (fun K hK => ?_) ?_
                · go_simp
                  refine hK _ _ ?_
                  clear hK K
                  refine wpAny_done (by kernel_rfl) ?_ _
                  exact ⟨rfl, _, _, _, _, _, _, _, _, _, rfl, fin _ _ hA⟩
                exact AllReady.nil
              exact AllReady.nil
            exact AllReady.nil
          refine AllReady.cons rfl (fun K hK => ?_) ?_
          · go_simp
            refine hK _ _ ?_
            clear hK K
            refine wpAny_take (i := 7) (v := ?_) rfl (by kernel_rfl) (by kernel_rfl) (by kernel_rfl) (fun _ _ _ h => by cases h.1) (Or.inl ⟨by rfl, ?_⟩) ?_
            rotate_left
            · (intro w; go_simp; first | done | with_reducible rfl)
            refine wpAny_ready (rs := [3]) (by kernel_rfl) (by simp) ?_
            refine AllReady.cons rfl (fun K hK => ?_) ?_
            · (refine step_app1 (W := W.drew) (w.heap.size + 4) (.tmp 14) (.tmp 16) 38 9 (.string ⟨#[]⟩) 1 16 rfl Tryz.underlying38 Tryz.info_string rfl (by decide) (by decide) v pre.length (strVals pre) [.string x] rfl rfl rfl (by simp [Value.oneCell']) hownd hszd hlen rfl ?_; intro v1 w1 hA; obtain ⟨g1, cap1, rfl⟩ := ownsRow_succ hA.own; obtain ⟨q1, q2, q3, q4⟩ := hq _ hA.mod)
              refine hK _ _ ?_
              clear hK K
              refine wpAny_ready (rs := [8]) (by kernel_rfl) (by simp) ?_
              refine AllReady.cons rfl (fun K hK => ?_) ?_
              · go_simp
                refine hK _ _ ?_
                clear hK K
                refine wpAny_ready (rs := [9]) (by kernel_rfl) (by simp) ?_
                refine AllReady.cons rfl (fun K hK => ?_) ?_
                · go_simp
                  refine hK _ _ ?_
                  clear hK K
                  refine wpAny_done (by kernel_rfl) ?_ _
                  exact ⟨rfl, _, _, _, _, _, _, _, _, _, rfl, fin _ _ hA⟩
                exact AllReady.nil
              exact AllReady.nil
            exact AllReady.nil
          exact AllReady.nil
        refine AllReady.cons rfl (fun K hK => ?_) ?_
        · go_simp
          refine hK _ _ ?_
          clear hK K
          refine wpAny_take (i := 7) (v := ?_) rfl (by kernel_rfl) (by kernel_rfl) (by kernel_rfl) (fun _ _ _ h => by cases h.1) (Or.inl ⟨by rfl, ?_⟩) ?_
          rotate_left
          · (intro w; go_simp; first | done | with_reducible rfl)
          refine wpAny_ready (rs := [2]) (by kernel_rfl) (by simp) ?_
          refine AllReady.cons rfl (fun K hK => ?_) ?_
          · go_simp
            refine hK _ _ ?_
            clear hK K
            refine wpAny_ready (rs := [3]) (by kernel_rfl) (by simp) ?_
            refine AllReady.cons rfl (fun K hK => ?_) ?_
            · (refine step_app1 (W := W.drew) (w.heap.size + 4) (.tmp 14) (.tmp 16) 38 9 (.string ⟨#[]⟩) 1 16 rfl Tryz.underlying38 Tryz.info_string rfl (by decide) (by decide) v pre.length (strVals pre) [.string x] rfl rfl rfl (by simp [Value.oneCell']) hownd hszd hlen rfl ?_; intro v1 w1 hA; obtain ⟨g1, cap1, rfl⟩ := ownsRow_succ hA.own; obtain ⟨q1, q2, q3, q4⟩ := hq _ hA.mod)
              refine hK _ _ ?_
              clear hK K
              refine wpAny_ready (rs := [8]) (by kernel_rfl) (by simp) ?_
              refine AllReady.cons rfl (fun K hK => ?_) ?_
              · go_simp
                refine hK _ _ ?_
                clear hK K
                refine wpAny_ready (rs := [9]) (by kernel_rfl) (by simp) ?_
                refine AllReady.cons rfl (fun K hK => ?_) ?_
                · go_simp
                  refine hK _ _ ?_
                  clear hK K
                  refine wpAny_done (by kernel_rfl) ?_ _
                  exact ⟨rfl, _, _, _, _, _, _, _, _, _, rfl, fin _ _ hA⟩
                exact AllReady.nil
              exact AllReady.nil
            exact AllReady.nil
          exact AllReady.nil
        exact AllReady.nil
      refine AllReady.cons rfl (fun K hK => ?_) ?_
      · go_simp
        refine hK _ _ ?_
        clear hK K
        refine wpAny_ready (rs := [0, 4]) (by kernel_rfl) (by simp) ?_
        refine AllReady.cons rfl (fun K hK => ?_) ?_
        · go_simp
          refine hK _ _ ?_
          clear hK K
          refine wpAny_ready (rs := [3, 4]) (by kernel_rfl) (by simp) ?_
          refine AllReady.cons rfl (fun K hK => ?_) ?_
          · (refine step_app1 (W := W.drew) (w.heap.size + 4) (.tmp 14) (.tmp 16) 38 9 (.string ⟨#[]⟩) 1 16 rfl Tryz.underlying38 Tryz.info_string rfl (by decide) (by decide) v pre.length (strVals pre) [.string x] rfl rfl rfl (by simp [Value.oneCell']) hownd hszd hlen rfl ?_; intro v1 w1 hA; obtain ⟨g1, cap1, rfl⟩ := ownsRow_succ hA.own; obtain ⟨q1, q2, q3, q4⟩ := hq _ hA.mod)
            refine hK _ _ ?_
            clear hK K
            refine wpAny_ready (rs := [4, 8]) (by kernel_rfl) (by simp) ?_
            refine AllReady.cons rfl (fun K hK => ?_) ?_
            · go_simp
              refine hK _ _ ?_
              clear hK K
              refine wpAny_take (i := 7) (v := ?_) rfl (by kernel_rfl) (by kernel_rfl) (by kernel_rfl) (fun _ _ _ h => by cases h.1) (Or.inl ⟨by rfl, ?_⟩) ?_
              rotate_left
              · (intro w; go_simp; first | done | with_reducible rfl)
              refine wpAny_ready (rs := [8]) (by kernel_rfl) (by simp) ?_
              refine AllReady.cons rfl (fun K hK => ?_) ?_
              · go_simp
                refine hK _ _ ?_
                clear hK K
                refine wpAny_ready (rs := [9]) (by kernel_rfl) (by simp) ?_
                refine AllReady.cons rfl (fun K hK => ?_) ?_
                · go_simp
                  refine hK _ _ ?_
                  clear hK K
                  refine wpAny_done (by kernel_rfl) ?_ _
                  exact ⟨rfl, _, _, _, _, _, _, _, _, _, rfl, fin _ _ hA⟩
                exact AllReady.nil
              exact AllReady.nil
            refine AllReady.cons rfl (fun K hK => ?_) ?_
            · go_simp
              refine hK _ _ ?_
              clear hK K
              refine wpAny_ready (rs := [4]) (by kernel_rfl) (by simp) ?_
              refine AllReady.cons rfl (fun K hK => ?_) ?_
              · go_simp
                refine hK _ _ ?_
                clear hK K
                refine wpAny_take (i := 7) (v := ?_) rfl (by kernel_rfl) (by kernel_rfl) (by kernel_rfl) (fun _ _ _ h => by cases h.1) (Or.inl ⟨by rfl, ?_⟩) ?_
                rotate_left
                · (intro w; go_simp; first | done | with_reducible rfl)
                refine wpAny_ready (rs := [9]) (by kernel_rfl) (by simp) ?_
                refine AllReady.cons rfl (fun K hK => ?_) ?_
                · go_simp
                  refine hK _ _ ?_
                  clear hK K
                  refine wpAny_done (by kernel_rfl) ?_ _
                  exact ⟨rfl, _, _, _, _, _, _, _, _, _, rfl, fin _ _ hA⟩
                exact AllReady.nil
              exact AllReady.nil
            exact AllReady.nil
          refine AllReady.cons rfl (fun K hK => ?_) ?_
          · go_simp
            refine hK _ _ ?_
            clear hK K
            refine wpAny_take (i := 7) (v := ?_) rfl (by kernel_rfl) (by kernel_rfl) (by kernel_rfl) (fun _ _ _ h => by cases h.1) (Or.inl ⟨by rfl, ?_⟩) ?_
            rotate_left
            · (intro w; go_simp; first | done | with_reducible rfl)
            refine wpAny_ready (rs := [3]) (by kernel_rfl) (by simp) ?_
            refine AllReady.cons rfl (fun K hK => ?_) ?_
            · (refine step_app1 (W := W.drew) (w.heap.size + 4) (.tmp 14) (.tmp 16) 38 9 (.string ⟨#[]⟩) 1 16 rfl Tryz.underlying38 Tryz.info_string rfl (by decide) (by decide) v pre.length (strVals pre) [.string x] rfl rfl rfl (by simp [Value.oneCell']) hownd hszd hlen rfl ?_; intro v1 w1 hA; obtain ⟨g1, cap1, rfl⟩ := ownsRow_succ hA.own; obtain ⟨q1, q2, q3, q4⟩ := hq _ hA.mod)
              refine hK _ _ ?_
              clear hK K
              refine wpAny_ready (rs := [8]) (by kernel_rfl) (by simp) ?_
              refine AllReady.cons rfl (fun K hK => ?_) ?_
              · go_simp
                refine hK _ _ ?_
                clear hK K
                refine wpAny_ready (rs := [9]) (by kernel_rfl) (by simp) ?_
                refine AllReady.cons rfl (fun K hK => ?_) ?_
                · go_simp
                  refine hK _ _ ?_
                  clear hK K
                  refine wpAny_done (by kernel_rfl) ?_ _
                  exact ⟨rfl, _, _, _, _, _, _, _, _, _, rfl, fin _ _ hA⟩
                exact AllReady.nil
              exact AllReady.nil
            exact AllReady.nil
          exact AllReady.nil
        refine AllReady.cons rfl (fun K hK => ?_) ?_
        · go_simp
          refine hK _ _ ?_
          clear hK K
          refine wpAny_take (i := 7) (v := ?_) rfl (by kernel_rfl) (by kernel_rfl) (by kernel_rfl) (fun _ _ _ h => by cases h.1) (Or.inl ⟨by rfl, ?_⟩) ?_
          rotate_left
          · (intro w; go_simp; first | done | with_reducible rfl)
          refine wpAny_ready (rs := [0]) (by kernel_rfl) (by simp) ?_
          refine AllReady.cons rfl (fun K hK => ?_) ?_
          · go_simp
            refine hK _ _ ?_
            clear hK K
            refine wpAny_ready (rs := [3]) (by kernel_rfl) (by simp) ?_
            refine AllReady.cons rfl (fun K hK => ?_) ?_
            · (refine step_app1 (W := W.drew) (w.heap.size + 4) (.tmp 14) (.tmp 16) 38 9 (.string ⟨#[]⟩) 1 16 rfl Tryz.underlying38 Tryz.info_string rfl (by decide) (by decide) v pre.length (strVals pre) [.string x] rfl rfl rfl (by simp [Value.oneCell']) hownd hszd hlen rfl ?_; intro v1 w1 hA; obtain ⟨g1, cap1, rfl⟩ := ownsRow_succ hA.own; obtain ⟨q1, q2, q3, q4⟩ := hq _ hA.mod)
              refine hK _ _ ?_
              clear hK K
              refine wpAny_ready (rs := [8]) (by kernel_rfl) (by simp) ?_
              refine AllReady.cons rfl (fun K hK => ?_) ?_
              · go_simp
                refine hK _ _ ?_
                clear hK K
                refine wpAny_ready (rs := [9]) (by kernel_rfl) (by simp) ?_
                refine AllReady.cons rfl (fun K hK => ?_) ?_
                · go_simp
                  refine hK _ _ ?_
                  clear hK K
                  refine wpAny_done (by kernel_rfl) ?_ _
                  exact ⟨rfl, _, _, _, _, _, _, _, _, _, rfl, fin _ _ hA⟩
                exact AllReady.nil
              exact AllReady.nil
            exact AllReady.nil
          exact AllReady.nil
        exact AllReady.nil
      refine AllReady.cons rfl (fun K hK => ?_) ?_
      · go_simp
        refine hK _ _ ?_
        clear hK K
        refine wpAny_take (i := 7) (v := ?_) rfl (by kernel_rfl) (by kernel_rfl) (by kernel_rfl) (fun _ _ _ h => by cases h.1) (Or.inl ⟨by rfl, ?_⟩) ?_
        rotate_left
        · (intro w; go_simp; first | done | with_reducible rfl)
        refine wpAny_ready (rs := [0, 2]) (by kernel_rfl) (by simp) ?_
        refine AllReady.cons rfl (fun K hK => ?_) ?_
        · go_simp
          refine hK _ _ ?_
          clear hK K
          refine wpAny_ready (rs := [2]) (by kernel_rfl) (by simp) ?_
          refine AllReady.cons rfl (fun K hK => ?_) ?_
          · go_simp
            refine hK _ _ ?_
            clear hK K
            refine wpAny_ready (rs := [3]) (by kernel_rfl) (by simp) ?_
            refine AllReady.cons rfl (fun K hK => ?_) ?_
            · (refine step_app1 (W := W.drew) (w.heap.size + 4) (.tmp 14) (.tmp 16) 38 9 (.string ⟨#[]⟩) 1 16 rfl Tryz.underlying38 Tryz.info_string rfl (by decide) (by decide) v pre.length (strVals pre) [.string x] rfl rfl rfl (by simp [Value.oneCell']) hownd hszd hlen rfl ?_; intro v1 w1 hA; obtain ⟨g1, cap1, rfl⟩ := ownsRow_succ hA.own; obtain ⟨q1, q2, q3, q4⟩ := hq _ hA.mod)
              refine hK _ _ ?_
              clear hK K
              refine wpAny_ready (rs := [8]) (by kernel_rfl) (by simp) ?_
              refine AllReady.cons rfl (fun K hK => ?_) ?_
              · go_simp
                refine hK _ _ ?_
                clear hK K
                refine wpAny_ready (rs := [9]) (by kernel_rfl) (by simp) ?_
                refine AllReady.cons rfl (fun K hK => ?_) ?_
                · go_simp
                  refine hK _ _ ?_
                  clear hK K
                  refine wpAny_done (by kernel_rfl) ?_ _
                  exact ⟨rfl, _, _, _, _, _, _, _, _, _, rfl, fin _ _ hA⟩
                exact AllReady.nil
              exact AllReady.nil
            exact AllReady.nil
          exact AllReady.nil
        refine AllReady.cons rfl (fun K hK => ?_) ?_
        · go_simp
          refine hK _ _ ?_
          clear hK K
          refine wpAny_ready (rs := [0]) (by kernel_rfl) (by simp) ?_
          refine AllReady.cons rfl (fun K hK => ?_) ?_
          · go_simp
            refine hK _ _ ?_
            clear hK K
            refine wpAny_ready (rs := [3]) (by kernel_rfl) (by simp) ?_
            refine AllReady.cons rfl (fun K hK => ?_) ?_
            · (refine step_app1 (W := W.drew) (w.heap.size + 4) (.tmp 14) (.tmp 16) 38 9 (.string ⟨#[]⟩) 1 16 rfl Tryz.underlying38 Tryz.info_string rfl (by decide) (by decide) v pre.length (strVals pre) [.string x] rfl rfl rfl (by simp [Value.oneCell']) hownd hszd hlen rfl ?_; intro v1 w1 hA; obtain ⟨g1, cap1, rfl⟩ := ownsRow_succ hA.own; obtain ⟨q1, q2, q3, q4⟩ := hq _ hA.mod)
              refine hK _ _ ?_
              clear hK K
              refine wpAny_ready (rs := [8]) (by kernel_rfl) (by simp) ?_
              refine AllReady.cons rfl (fun K hK => ?_) ?_
              · go_simp
                refine hK _ _ ?_
                clear hK K
                refine wpAny_ready (rs := [9]) (by kernel_rfl) (by simp) ?_
                refine AllReady.cons rfl (fun K hK => ?_) ?_
                · go_simp
                  refine hK _ _ ?_
                  clear hK K
                  refine wpAny_done (by kernel_rfl) ?_ _
                  exact ⟨rfl, _, _, _, _, _, _, _, _, _, rfl, fin _ _ hA⟩
                exact AllReady.nil
              exact AllReady.nil
            exact AllReady.nil
          exact AllReady.nil
        exact AllReady.nil
      exact AllReady.nil
    case aft =>
      rintro e a1 W1 ⟨rfl, v1, u14, u15, u16, u17, u18, u19, u20, u21, rfl, hb, hown1, hr, hB2, hs2, hm⟩
      obtain ⟨g1, cap1, rfl⟩ := ownsRow_succ hown1
      have hc := hb.cell
      have hpl1 : (pre ++ [x]).length = pre.length + 1 := by simp
      simp only [Exit.then]
      by_cases h12 : 12 < pre.length + 1
      · have R : BMod W0.heap.size (fun b => b = w.heap.size ∨ b = w.heap.size + 1) W W1 ∧ ((∃ v, Boxed W1 w.heap.size 38 v ∧ W1.ownsRow (w.heap.size + 4) 9 1 v (pre ++ [x]).length (strVals (pre ++ [x]))) ∧ Boxed W1 (w.heap.size + 1) 9 (.string (restOf s (pre ++ [x]))) ∧ Below w.heap.size w W1 ∧ w.heap.size + 4 ≤ W1.heap.size ∧ 12 < (pre ++ [x]).length) :=
          ⟨hm, ⟨_, hb, by rw [hpl1]; exact hown1⟩, hr, hB2, hs2, by rw [hpl1]; exact h12⟩
        have R' := Lib.hid R
        clear R hm hb hown1 hr hB2 hs2 hB1 hpl1 bO1 bR1 bO bR bK bS hit hB0 hT hown hx hlr hrn
        gi_wp2
        exact ⟨R'.out.1, rfl, R'.out.2⟩
      · have R : BMod W0.heap.size (fun b => b = w.heap.size ∨ b = w.heap.size + 1) W W1 ∧ ((∃ v, Boxed W1 w.heap.size 38 v ∧ W1.ownsRow (w.heap.size + 4) 9 1 v (pre ++ [x]).length (strVals (pre ++ [x]))) ∧ Boxed W1 (w.heap.size + 1) 9 (.string (restOf s (pre ++ [x]))) ∧ Below w.heap.size w W1 ∧ w.heap.size + 4 ≤ W1.heap.size ∧ (pre ++ [x]).length ≤ 12) :=
          ⟨hm, ⟨_, hb, by rw [hpl1]; exact hown1⟩, hr, hB2, hs2, by rw [hpl1]; omega⟩
        have R' := Lib.hid R
        clear R hm hb hown1 hr hB2 hs2 hB1 hpl1 bO1 bR1 bO bR bK bS hit hB0 hT hown hx hlr hrn
        gi_wp2
        exact R'.out
  case done =>
    rintro D W hD ⟨⟨v, bO1, hown⟩, bR1, hB1, hsz1, hpl⟩ hK
    have hrest : restOf s (piecesB k s.data.toList) = B (leftover k s.data.toList) := by
      unfold restOf
      rw [pieces_rest (k := k) (l := s.data.toList) (rest := []) (by simp)]
      simp
    rw [hrest] at bR1
    have hplen : (piecesB k s.data.toList).length = (pieces k s.data.toList).length := by simp [piecesB]
    have hl : lettersS k s.data.toList = if leftover k s.data.toList = [] ∧ 1 ≤ (pieces k s.data.toList).length ∧ (pieces k s.data.toList).length ≤ 12 then some (pieces k s.data.toList) else none := rfl
    have HL := Lib.hid hl
    clear hl hrest hit bO bR bK bS hB0
    have c1 := bO1.cell
    have c2 := bR1.cell
    have hput : Below w.heap.size w (W.putObj D (.deferred none)) := ((Mod.refl (fun k => k = D) W).putObj (.inl rfl) _).below_trans hB1 hB1.size (by intro i hi h; omega)
    have hownp : (W.putObj D (.deferred none)).ownsRow w.heap.size 9 1 v (piecesB k s.data.toList).length (strVals (piecesB k s.data.toList)) :=
      ownsRow_lower (ownsRow_mod hown ((Mod.refl (fun k => k = D) W).putObj (.inl rfl) _) (fun g hg h => by subst h; exact ownsRow_not_book hown hg (.inr ⟨_, hK⟩))) (by omega)
    have HK := Lib.hid hK
    have HPUT := Lib.hid hput
    have HOWN := Lib.hid hownp
    clear hK hput hownp hB1 bO1 bR1 hT hD
    obtain ⟨A, c, rfl⟩ := ownsRow_slice hown
    clear hown
    by_cases h0 : leftover k s.data.toList = []
    · have e1 : (leftover k s.data.toList).isEmpty = true := by rw [h0]; rfl
      have HO2 : Hid (∀ W : World, W.ownsRow w.heap.size 9 1 (.slice A (piecesB k s.data.toList).length c) (piecesB k s.data.toList).length (strVals (piecesB k s.data.toList)) → W.ownsRow w.heap.size 9 1 (.slice A (piecesB k s.data.toList).length c) (pieces k s.data.toList).length (strVals ((pieces k s.data.toList).map B))) := Lib.hid (fun W h => by rw [hplen] at h ⊢; exact h)
      by_cases h1 : (pieces k s.data.toList).length = 0
      · have HN : Hid (lettersS k s.data.toList = none) := by rw [HL.out, if_neg (by omega)]; exact Lib.hid rfl
        rw [h1] at hplen
        clear h0 h1 HL HO2 HOWN
        generalize (piecesB k s.data.toList).length = n at c1 hplen hpl
        subst hplen
        gi_wp2
        refine ⟨by simp, .inl ⟨_, _, rfl, run_takeDeferred HK.out, ?_⟩⟩
        exact ⟨_, by simp [results, Tryz.results40, go_sem], HPUT.out, .inl ⟨HN.out, rfl⟩⟩
      · have HN : Hid (lettersS k s.data.toList = some (pieces k s.data.toList)) := by rw [HL.out, if_pos ⟨h0, by omega, by omega⟩]; exact Lib.hid rfl
        have HR := Lib.hid (HO2.out _ HOWN.out)
        clear HO2 HOWN h0 HL
        have hp0 : 0 < (piecesB k s.data.toList).length := by omega
        clear h1 hplen
        generalize (piecesB k s.data.toList).length = n at c1 hpl HR hp0
        have hz0 : ((n : Int) == 0) = false := by simp; omega
        gi_wp2
        refine ⟨by simp, .inl ⟨_, _, rfl, run_takeDeferred HK.out, ?_⟩⟩
        exact ⟨_, by simp [results, Tryz.results40, go_sem], HPUT.out, .inr ⟨_, _, HN.out, rfl, HR.out⟩⟩
    · have e1 : (leftover k s.data.toList).isEmpty = false := by simpa using h0
      have HN : Hid (lettersS k s.data.toList = none) := by rw [HL.out, if_neg (fun h => h0 h.1)]; exact Lib.hid rfl
      clear h0 HL
      gi_wp2
      refine ⟨by simp, .inl ⟨_, _, rfl, run_takeDeferred HK.out, ?_⟩⟩
      exact ⟨_, by simp [results, Tryz.results40, go_sem], HPUT.out, .inl ⟨HN.out, rfl⟩⟩
  case stop =>
    rintro D c pre W hD hpre ⟨rfl, ⟨v, bO1, hown⟩, bR1, hB1, hsz1, hpl⟩ hK
    have HN : Hid (lettersS k s.data.toList = none) := by
      have h1 := hpre.length_le
      have h2 : (piecesB k s.data.toList).length = (pieces k s.data.toList).length := by simp [piecesB]
      unfold lettersS
      rw [if_neg (by omega)]; exact Lib.hid rfl
    have c1 := bO1.cell
    have c2 := bR1.cell
    have hput : Below w.heap.size w (W.putObj D (.deferred none)) := ((Mod.refl (fun k => k = D) W).putObj (.inl rfl) _).below_trans hB1 hB1.size (by intro i hi h; omega)
    have HK := Lib.hid hK
    have HPUT := Lib.hid hput
    clear hK hput hB1 bO1 bR1 hT hD hit bO bR bK bS hB0 hpre
    obtain ⟨A, c, rfl⟩ := ownsRow_slice hown
    clear hown
    generalize restOf s pre = r at c2
    generalize pre.length = n at c1 hpl
    have hz0 : ((n : Int) == 0) = false := by simp; omega
    cases he : r.toList.isEmpty with
    | true =>
      gi_wp2
      refine ⟨by simp, .inl ⟨_, _, rfl, run_takeDeferred HK.out, ?_⟩⟩
      exact ⟨_, by simp [results, Tryz.results40, go_sem], HPUT.out, .inl ⟨HN.out, rfl⟩⟩
    | false =>
      gi_wp2
      refine ⟨by simp, .inl ⟨_, _, rfl, run_takeDeferred HK.out, ?_⟩⟩
      exact ⟨_, by simp [results, Tryz.results40, go_sem], HPUT.out, .inl ⟨HN.out, rfl⟩⟩
end Go.Proofs.YtkkbkhcapogobaaGreatDoor
