/- Base words: a map in memory as a function from keys to elements. -/
import Derived.Test.YtkkbkhcapogobaaGreatDoorB0
import Derived.Maps.Keyed
import Derived.Maps.OwnSet
namespace Go.Proofs.YtkkbkhcapogobaaGreatDoor
open Go Go.RowKit Go.Maps

/-- Block b holds a map with at most n entries, that says of each key what f says. -/
def MapAt (P : Program) (k : TypeId) (w : World) (b n : Nat) (f : Value → Option Value) : Prop :=
  ∃ es clock, w.heap[b]? = some (.map es clock) ∧ es.size ≤ n ∧ (∀ e ∈ es.toList, ∃ l, keyOf P k e.key = some l) ∧
    es.toList.Pairwise (fun x y => x.key ≠ y.key) ∧ (∀ e ∈ es.toList, f e.key = some e.val) ∧ (∀ x v, f x = some v → ∃ e ∈ es.toList, e.key = x)

variable {P : Program} {k t e : TypeId} {w : World} {b n : Nat} {f : Value → Option Value}

theorem MapAt.new (P : Program) (k : TypeId) (w : World) : MapAt P k (w.alloc (.map #[] 0)) w.heap.size 0 (fun _ => none) :=
  ⟨#[], 0, World.alloc_heap_new w _, by simp, by simp, by simp, by simp, by simp⟩
theorem MapAt.lt (h : MapAt P k w b n f) : b < w.heap.size := by
  obtain ⟨es, clock, h, _⟩ := h
  exact (Array.getElem?_eq_some_iff.1 h).1
theorem MapAt.kept {w' : World} (h : MapAt P k w b n f) (hb : w'.heap[b]? = w.heap[b]?) : MapAt P k w' b n f := by
  obtain ⟨es, clock, h, r⟩ := h
  exact ⟨es, clock, hb.trans h, r⟩
theorem MapAt.mod {w' : World} {S : Nat → Prop} (h : MapAt P k w b n f) (hm : Mod S w w') (hn : ¬ S b) : MapAt P k w' b n f := h.kept (hm.block b h.lt hn)
theorem MapAt.mono {n' : Nat} (h : MapAt P k w b n f) (hn : n ≤ n') : MapAt P k w b n' f := by
  obtain ⟨es, clock, h, h1, r⟩ := h
  exact ⟨es, clock, h, Nat.le_trans h1 hn, r⟩
theorem MapAt.not_cells (h : MapAt P k w b n f) {cs : Array Value} {ty : TypeId} {m : Nat × Nat} : w.heap[b]? ≠ some (.cells cs ty m) := by
  obtain ⟨es, clock, h, _⟩ := h
  rw [h]; simp
theorem MapAt.not_book (h : MapAt P k w b n f) : ¬ Book w b := by
  obtain ⟨es, clock, h, _⟩ := h
  rintro (⟨_, h'⟩ | ⟨_, h'⟩) <;> (rw [h] at h'; cases h')

/-- 'v, ok := m[key]' and 'm[key]'. -/
theorem MapAt.look (h : MapAt P k w b n f) (K : Keyed P k) (ht : P.underlying t = some (.map k e)) {z : Value} (hz : (zeroValue e).run P w = .ok z w) {key : Value} (hk : ∃ l, keyOf P k key = some l) (c : Bool) :
    (Instr.lookup t (.map (some b)) key c).run P w = .ok (if c then .tuple #[(f key).getD z, .bool (f key).isSome] else (f key).getD z) w := by
  obtain ⟨es, clock, hb, _, hkeys, _, h1, h2⟩ := h
  obtain ⟨kl, hkey⟩ := hk
  rcases K.find w hkey es.toList hkeys with ⟨g1, g2⟩ | ⟨j, e0, g1, g2, g3⟩
  · have hf : f key = none := by
      cases hfk : f key with
      | none => rfl
      | some v =>
        obtain ⟨x, hx, hxk⟩ := h2 key v hfk
        exact absurd hxk (g2 x hx)
    simp [Instr.lookup, run_underlying ht, MapKept.run_getObj_map hb, K.check w _ hkey, g1, hz, Result.andThen, hf]
  · have hm : e0 ∈ es.toList := List.mem_of_getElem? g2
    have hf : f key = some e0.val := by rw [← g3]; exact h1 _ hm
    simp [Instr.lookup, run_underlying ht, MapKept.run_getObj_map hb, K.check w _ hkey, g1, Result.andThen, hf]

open Classical in
/-- f with one key's element laid anew. -/
noncomputable def upd (f : Value → Option Value) (key val : Value) : Value → Option Value := fun x => if x = key then some val else f x
theorem upd_same (f : Value → Option Value) (key val : Value) : upd f key val key = some val := by simp [upd]
theorem upd_other (f : Value → Option Value) (key val : Value) {x : Value} (h : x ≠ key) : upd f key val x = f x := by simp [upd, h]

/-- 'm[key] = val'. -/
theorem MapAt.update (h : MapAt P k w b n f) (K : Keyed P k) (ht : P.underlying t = some (.map k e)) {key : Value} (hk : ∃ l, keyOf P k key = some l) (val : Value) :
    ∃ es' clock', (Instr.mapUpdate t (.map (some b)) key val).run P w = .ok () (w.putObj b (.map es' clock')) ∧ MapAt P k (w.putObj b (.map es' clock')) b (n + 1) (upd f key val) := by
  have hlt := h.lt
  obtain ⟨es, clock, hb, hn, hkeys, hd, h1, h2⟩ := h
  obtain ⟨kl, hkey⟩ := hk
  rcases K.find w hkey es.toList hkeys with ⟨g1, g2⟩ | ⟨j, e0, g1, g2, g3⟩
  · refine ⟨es.push ⟨key, val, clock⟩, clock + 1, ?_, es.push ⟨key, val, clock⟩, clock + 1, World.putObj_heap_same hlt, by simp; omega, ?_, ?_, ?_, ?_⟩
    · simp [Instr.mapUpdate, run_underlying ht, MapKept.run_getObj_map hb, K.check w false hkey, g1, MapKept.run_setObj_map _ hb, Result.andThen, World.putObj]
    · intro x hx
      simp only [Array.toList_push, List.mem_append, List.mem_singleton] at hx
      rcases hx with hx | rfl
      · exact hkeys x hx
      · exact ⟨kl, hkey⟩
    · rw [Array.toList_push, List.pairwise_append]
      refine ⟨hd, by simp, ?_⟩
      intro x hx y hy
      simp only [List.mem_singleton] at hy
      subst hy
      exact g2 x hx
    · intro x hx
      simp only [Array.toList_push, List.mem_append, List.mem_singleton] at hx
      rcases hx with hx | rfl
      · rw [upd_other _ _ _ (g2 x hx)]; exact h1 x hx
      · exact upd_same _ _ _
    · intro x v hx
      simp only [Array.toList_push, List.mem_append, List.mem_singleton]
      by_cases e1 : x = key
      · exact ⟨_, .inr rfl, e1.symm⟩
      · rw [upd_other _ _ _ e1] at hx
        obtain ⟨y, hy, hyk⟩ := h2 x v hx
        exact ⟨y, .inl hy, hyk⟩
  · have hj : es[j]? = some e0 := by simpa using g2
    have hjl : j < es.toList.length := (List.getElem?_eq_some_iff.1 g2).1
    have hlist : (es.modify j (fun e' => { e' with key := key, val := val })).toList = es.toList.set j { e0 with key := key, val := val } := by
      rw [Array.toList_modify]
      refine List.ext_getElem? (fun i => ?_)
      rw [List.getElem?_modify, List.getElem?_set]
      have hjs : j < es.size := by simpa using hjl
      by_cases e1 : j = i
      · subst e1
        have he : es[j] = e0 := by rw [Array.getElem?_eq_getElem hjs] at hj; cases hj; rfl
        simp [hjs, he]
      · simp [e1]
    have other : ∀ x i, es.toList[i]? = some x → j ≠ i → x.key ≠ key := by
      intro x i hi hne hx
      have hil : i < es.toList.length := (List.getElem?_eq_some_iff.1 hi).1
      rcases Nat.lt_or_gt_of_ne hne with hlt' | hlt'
      · have := List.pairwise_iff_getElem.1 hd j i hjl hil hlt'
        rw [List.getElem?_eq_getElem hjl] at g2; rw [List.getElem?_eq_getElem hil] at hi
        cases g2; cases hi
        exact this (g3.trans hx.symm)
      · have := List.pairwise_iff_getElem.1 hd i j hil hjl hlt'
        rw [List.getElem?_eq_getElem hjl] at g2; rw [List.getElem?_eq_getElem hil] at hi
        cases g2; cases hi
        exact this (hx.trans g3.symm)
    have who : ∀ x ∈ es.toList.set j { e0 with key := key, val := val }, x = { e0 with key := key, val := val } ∨ (x ∈ es.toList ∧ x.key ≠ key) := by
      intro x hx
      obtain ⟨i, hi⟩ := List.mem_iff_getElem?.1 hx
      rw [List.getElem?_set] at hi
      split at hi
      · rename_i e1
        subst e1
        first
        | exact .inl (by cases hi; rfl)
        | (split at hi
           · exact .inl (by cases hi; rfl)
           · cases hi)
      · rename_i hne
        exact .inr ⟨List.mem_of_getElem? hi, other x i hi hne⟩
    refine ⟨es.modify j (fun e' => { e' with key := key, val := val }), clock, ?_, es.modify j (fun e' => { e' with key := key, val := val }), clock, World.putObj_heap_same hlt, by simp; omega, ?_, ?_, ?_, ?_⟩
    · simp [Instr.mapUpdate, run_underlying ht, MapKept.run_getObj_map hb, K.check w false hkey, g1, hj, g3, K.stays w hkey, MapKept.run_setObj_map _ hb, Result.andThen, World.putObj]
    · rw [hlist]
      intro x hx
      rcases who x hx with rfl | ⟨hx', _⟩
      · exact ⟨kl, hkey⟩
      · exact hkeys x hx'
    · rw [hlist]
      refine List.pairwise_iff_getElem.2 (fun p q hp hq hpq => ?_)
      have hp' : p < es.toList.length := by simpa using hp
      have hq' : q < es.toList.length := by simpa using hq
      rw [List.getElem_set, List.getElem_set]
      split
      · rename_i e1
        rw [if_neg (by omega)]
        have := other _ q (List.getElem?_eq_getElem hq') (by omega)
        exact fun h => this h.symm
      · rename_i e1
        split
        · rename_i e2
          exact other _ p (List.getElem?_eq_getElem hp') (by omega)
        · exact List.pairwise_iff_getElem.1 hd p q hp' hq' hpq
    · rw [hlist]
      intro x hx
      rcases who x hx with rfl | ⟨hx', hne⟩
      · exact upd_same _ _ _
      · rw [upd_other _ _ _ hne]; exact h1 x hx'
    · rw [hlist]
      intro x v hx
      by_cases e1 : x = key
      · exact ⟨{ e0 with key := key, val := val }, List.mem_iff_getElem.2 ⟨j, by simpa using hjl, by simp⟩, e1.symm⟩
      · rw [upd_other _ _ _ e1] at hx
        obtain ⟨y, hy, hyk⟩ := h2 x v hx
        obtain ⟨i, hi⟩ := List.mem_iff_getElem?.1 hy
        refine ⟨y, List.mem_iff_getElem?.2 ⟨i, ?_⟩, hyk⟩
        rw [List.getElem?_set, if_neg ?_]
        · exact hi
        · rintro rfl
          rw [g2] at hi
          cases hi
          exact e1 (hyk.symm.trans g3)

end Go.Proofs.YtkkbkhcapogobaaGreatDoor
