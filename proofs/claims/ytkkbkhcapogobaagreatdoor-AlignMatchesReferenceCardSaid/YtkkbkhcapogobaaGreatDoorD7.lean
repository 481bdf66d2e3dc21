/- Contracts: align.sideOf. -/
import Derived.Test.YtkkbkhcapogobaaGreatDoorD6
namespace Go.Proofs.YtkkbkhcapogobaaGreatDoor
open Go Go.RowKit Go.Lib Go.Proofs S Go.Shelf Go.Maps
set_option linter.unusedVariables false
set_option linter.unusedSimpArgs false

theorem let_of_own {w : World} {base : Nat} {v : Value} {ls : List Str} (h : w.ownsRow base 9 1 v ls.length (strVals (ls.map B))) (h1 : 1 ≤ ls.length) (h12 : ls.length ≤ 12) :
    ∃ g c, v = letVal g c ls ∧ LetAt w g c ls ∧ base ≤ g ∧ g < w.heap.size := by
  obtain ⟨hl, ⟨rfl, h0⟩ | ⟨g, cap, cur, rfl, hb, hh, hc, hm, hs, ht⟩⟩ := h
  · omega
  · refine ⟨g, cap, rfl, ⟨hc, h12, by omega, ?_⟩, hb, (Array.getElem?_eq_some_iff.1 hh).1⟩
    intro j x hx
    have hj : j < ls.length := (List.getElem?_eq_some_iff.1 hx).1
    rw [cell_of hh]
    have h2 : (cur.toList.take (ls.length * 1))[j]? = some (Value.string (B x)) := by rw [ht]; simp [strVals, hx]
    rw [List.getElem?_take_of_lt (by omega)] at h2
    simpa using h2
theorem flat_at' {α : Type} {f : α → List Value} {n : Nat} (hf : ∀ x, (f x).length = n) : ∀ (l : List α) (k j : Nat) (hk : k < l.length) (hj : j < n), (l.flatMap f)[k * n + j]? = (f l[k])[j]?
  | [], k, j, hk, hj => by simp at hk
  | x :: xs, 0, j, hk, hj => by
    rw [List.flatMap_cons, List.getElem?_append_left (by rw [hf]; omega)]; simp
  | x :: xs, k + 1, j, hk, hj => by
    rw [List.flatMap_cons, List.getElem?_append_right (by rw [hf, Nat.add_mul]; omega), hf, show (k + 1) * n + j - n = k * n + j by rw [Nat.add_mul]; omega]
    simpa using flat_at' hf xs k j (by simpa using hk) hj
theorem sideRules_snoc (k : Int) : ∀ (xs : List Rul) (i : Nat) (x : Rul), sideRules k i (xs ++ [x]) = sideRules k i xs ++ (aruleOf k (i + xs.length) x).toList
  | [], i, x => by simp [sideRules]
  | y :: ys, i, x => by
    simp only [List.cons_append, sideRules, sideRules_snoc k ys (i + 1) x, List.append_assoc, List.length_cons]
    rw [show i + 1 + ys.length = i + (ys.length + 1) by omega]
theorem sideRules_le (k : Int) : ∀ (xs : List Rul) (i : Nat), (sideRules k i xs).length ≤ xs.length
  | [], i => by simp [sideRules]
  | y :: ys, i => by
    have := sideRules_le k ys (i + 1)
    simp only [sideRules, List.length_append, List.length_cons]
    have h1 : ((aruleOf k i y).toList).length ≤ 1 := by cases aruleOf k i y <;> simp
    omega
theorem letters_size {k : Int} {s : Str} {ls : List Str} (h : lettersS k s = some ls) : 1 ≤ ls.length ∧ ls.length ≤ 12 := by
  unfold lettersS at h
  split at h
  · rename_i h2; cases h; exact h2.2
  · cases h
theorem Tryz.info_rule : (Tryz.prog.info? 55).map (fun i => (i.zero, i.size, i.bytes)) = some (some (.agg #[.int .i64 0, .int .i64 0, .slice none 0 0, .string ⟨#[]⟩]), 4, 56) := by kernel_rfl

/-- The rules of a side, as far as they are gathered. -/
structure Gath (w : World) (base : Nat) (v : Value) (rs : List MR) : Prop where
  own : w.ownsRow base 55 4 v rs.length (rs.flatMap mrVals)
  frm : ∀ r ∈ rs, LetAt w r.2.1 r.2.2 r.1.frm ∧ v.ownBlock ≠ some r.2.1 ∧ r.2.1 < w.heap.size ∧ base ≤ r.2.1
theorem own_ext {w w' : World} {base : Nat} {e : TypeId} {size n : Nat} {v : Value} {xs : List Value} (h : w.ownsRow base e size v n xs) (hm : Ext w w') : w'.ownsRow base e size v n xs := ownsRow_mod h (hm.mod (fun _ => False)) (fun _ _ h => h)
theorem Gath.nil (w : World) (base : Nat) : Gath w base (.slice none 0 0) [] := ⟨World.ownsRow_nil _ _ _ _, by simp⟩
theorem Gath.ext {w w' : World} {base : Nat} {v : Value} {rs : List MR} (h : Gath w base v rs) (hm : Ext w w') : Gath w' base v rs :=
  ⟨own_ext h.own hm, fun r hr => ⟨(h.frm r hr).1.ext hm, (h.frm r hr).2.1, by have := hm.size; have := (h.frm r hr).2.2; omega, (h.frm r hr).2.2.2⟩⟩
theorem let_mod {w w' : World} {S : Nat → Prop} {g c : Nat} {ls : List Str} (h : LetAt w g c ls) (hm : Mod S w w') (hn : ¬ S g) : LetAt w' g c ls :=
  ⟨h.cap, h.few, h.pos, fun j x hx => (cell_same (hm.block _ (World.block_lt_of_cell? w _ (h.cell j x hx)) hn)).trans (h.cell j x hx)⟩
theorem Gath.app {W w1 : World} {base : Nat} {v v1 : Value} {rs : List MR} {r : MR} (h : Gath W base v rs) (hr : LetAt W r.2.1 r.2.2 r.1.frm) (hg : v.ownBlock ≠ some r.2.1) (hlt : r.2.1 < W.heap.size) (hbase : base ≤ r.2.1)
    (hA : Appended W w1 base 55 4 rs.length v v1 (rs.flatMap mrVals) (mrVals r)) : Gath w1 base v1 (rs ++ [r]) := by
  have hne : ∀ g, v.ownBlock ≠ some g → g < W.heap.size → v1.ownBlock ≠ some g := fun g h1 h2 h3 => by
    rcases hA.loc with h4 | ⟨b, h4, h5⟩
    · rw [h4] at h3; exact h1 h3
    · rw [h4] at h3; cases h3; omega
  refine ⟨by rw [List.flatMap_append, List.length_append]; simpa using hA.own, fun x hx => ?_⟩
  have hs := hA.mod.size
  rcases List.mem_append.1 hx with hx | hx
  · obtain ⟨h1, h2, h3, h4⟩ := h.frm x hx
    exact ⟨let_mod h1 hA.mod h2, hne _ h2 h3, by omega, h4⟩
  · simp only [List.mem_singleton] at hx; subst hx
    exact ⟨let_mod hr hA.mod hg, hne _ hg hlt, by omega, hbase⟩
theorem Gath.put {w : World} {base : Nat} {v : Value} {rs : List MR} (h : Gath w base v rs) {p : Addr} (hp : p.block < base) (u : Value) : Gath (w.setCell p u) base v rs := by
  have hm : Mod (fun k => k = p.block) w (w.setCell p u) := (Mod.refl (fun k => k = p.block) w).setCell (.inl rfl) u
  refine ⟨ownsRow_mod h.own hm (fun g hg h1 => ?_), fun r hr => ⟨let_mod (h.frm r hr).1 hm (fun h1 => ?_), (h.frm r hr).2.1, by have := hm.size; have := (h.frm r hr).2.2; omega, (h.frm r hr).2.2.2⟩⟩
  · have := (ownsRow_block h.own hg).1; omega
  · have := (h.frm r hr).2.2.2; omega
theorem Gath.elems {w : World} {base n cap : Nat} {A : Option Addr} {rs : List MR} (h : Gath w base (.slice A n cap) rs) : ElemsAt w A 4 (rs.map mrVals) := by
  obtain ⟨hl, ⟨h1, h0⟩ | ⟨g, cap', cur, h1, hb, hh, hc, hm, hs, ht⟩⟩ := h.own
  · intro i r hr
    have := (List.getElem?_eq_some_iff.1 hr).1
    simp at this; omega
  · cases h1
    intro i r hr
    refine ⟨_, rfl, fun j v hv => ?_⟩
    rw [List.getElem?_map] at hr
    obtain ⟨m, hm', rfl⟩ := Option.map_eq_some_iff.1 hr
    have hj : j < 4 := (List.getElem?_eq_some_iff.1 hv).1
    have hi : i < rs.length := (List.getElem?_eq_some_iff.1 hm').1
    have h2 := h.own.cells rfl (i * 4 + j) v (by
      have := flat_at' (f := mrVals) (n := 4) (fun _ => rfl) rs i j hi hj
      rw [this]
      have : rs[i] = m := by rw [List.getElem?_eq_getElem hi] at hm'; exact Option.some.inj hm'
      rw [this]; exact hv)
    rw [← h2]
    congr 1
    cases hi0 : i * 4 with
    | zero => simp [Addr.add]
    | succ q =>
      cases j with
      | zero => simp [Addr.add]
      | succ j => simp [Addr.add] <;> omega
end Go.Proofs.YtkkbkhcapogobaaGreatDoor
