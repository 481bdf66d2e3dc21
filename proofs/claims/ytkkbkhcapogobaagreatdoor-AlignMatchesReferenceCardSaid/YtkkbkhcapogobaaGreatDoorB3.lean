/- Base words: append of one element to a slice of the call's own: in a list of operations (in a fence or not), in a region that draws. -/
import Derived.Test.YtkkbkhcapogobaaGreatDoorB2
import Derived.Maps.AppendAt
import Derived.OwnWalk
import Derived.OwnWalkIn
namespace Go.Proofs.YtkkbkhcapogobaaGreatDoor
open Go Go.RowKit
set_option linter.unusedVariables false
variable {P : Program} {ops : Array Oper} {Q : Exit → Act → World → Prop}

theorem ownsRow_lower {w : World} {base base' : Nat} {e : TypeId} {size n : Nat} {v : Value} {xs : List Value} (h : w.ownsRow base e size v n xs) (hb : base' ≤ base) : w.ownsRow base' e size v n xs := by
  obtain ⟨h1, h2⟩ := h
  refine ⟨h1, ?_⟩
  rcases h2 with h2 | ⟨g, cap, cur, rfl, hg, r⟩
  · exact .inl h2
  · exact .inr ⟨g, cap, cur, rfl, Nat.le_trans hb hg, r⟩
theorem ownsRow_block {w : World} {base : Nat} {e : TypeId} {size n : Nat} {v : Value} {xs : List Value} (h : w.ownsRow base e size v n xs) {g : Nat} (hg : v.ownBlock = some g) :
    base ≤ g ∧ g < w.heap.size ∧ ∃ cur, w.heap[g]? = some (.cells cur e (0, 0)) := by
  rcases h.2 with ⟨rfl, _⟩ | ⟨g', cap, cur, rfl, hb, hh, _⟩
  · simp [Value.ownBlock] at hg
  · obtain rfl : g' = g := by simpa [Value.ownBlock] using hg
    exact ⟨hb, (Array.getElem?_eq_some_iff.1 hh).1, cur, hh⟩
theorem ownsRow_mod {w w' : World} {base : Nat} {e : TypeId} {size n : Nat} {v : Value} {xs : List Value} (h : w.ownsRow base e size v n xs) {S : Nat → Prop} (hm : Mod S w w') (hn : ∀ g, v.ownBlock = some g → ¬ S g) : w'.ownsRow base e size v n xs := by
  obtain ⟨h1, h2⟩ := h
  refine ⟨h1, ?_⟩
  rcases h2 with h2 | ⟨g, cap, cur, rfl, hb, hh, r⟩
  · exact .inl h2
  · exact .inr ⟨g, cap, cur, rfl, hb, (hm.block g (Array.getElem?_eq_some_iff.1 hh).1 (hn g (by simp [Value.ownBlock]))).trans hh, r⟩
theorem ownsRow_not_book {w : World} {base : Nat} {e : TypeId} {size n : Nat} {v : Value} {xs : List Value} (h : w.ownsRow base e size v n xs) {g : Nat} (hg : v.ownBlock = some g) : ¬ Book w g := by
  obtain ⟨_, _, cur, hh⟩ := ownsRow_block h hg
  rintro (⟨_, h'⟩ | ⟨_, h'⟩) <;> (rw [hh] at h'; cases h')
theorem Boxed.not_book {w : World} {b : Nat} {t : TypeId} {v : Value} (h : Boxed w b t v) : ¬ Book w b := by
  rintro (⟨_, h'⟩ | ⟨_, h'⟩) <;> (rw [show w.heap[b]? = _ from h] at h'; cases h')

theorem news_cells (W : World) (ys : List Value) (e : TypeId) : ∀ j u, ys[j]? = some u → (W.alloc (.cells ys.toArray e)).cell? ((⟨W.heap.size, 0, none⟩ : Addr).add j) = some u := by
  intro j u hj
  have hh := World.alloc_heap_new W (.cells ys.toArray e)
  have : ((⟨W.heap.size, 0, none⟩ : Addr).add j) = ⟨W.heap.size, j, none⟩ := by unfold Addr.add; split <;> simp_all
  rw [this]
  unfold World.cell?
  simp only [hh]
  simpa using hj

/-- What is known behind 'append(v, y)', y's cells having been laid in a block of their own. -/
structure Appended (W w1 : World) (base : Nat) (e : TypeId) (size n : Nat) (v v1 : Value) (xs ys : List Value) : Prop where
  own : w1.ownsRow base e size v1 (n + 1) (xs ++ ys)
  mod : Mod (fun k => v.ownBlock = some k) W w1
  loc : v1.ownBlock = v.ownBlock ∨ ∃ b, v1.ownBlock = some b ∧ W.heap.size ≤ b

theorem run_app1 {W : World} (base : Nat) (t ty e : TypeId) (z : Value) (size bytes : Nat) (ht : P.underlying t = some (.slice e))
    (hinfo : (P.info? e).map (fun i => (i.zero, i.size, i.bytes)) = some (some z, size, bytes)) (hz : z.cells.size = size) (hs0 : 0 < size) (hb0 : 0 < bytes)
    (v : Value) (n : Nat) (xs ys : List Value) (hys : ys.length = size) (h1 : ∀ u ∈ ys, u.oneCell' = true) (HO : W.ownsRow base e size v n xs) (hbase : base ≤ W.heap.size) (hl : (n + 1) * bytes ≤ 140737488355328) :
    ∃ v1 w1, (Builtin.append_ #[t, t] ty #[v, .slice (some ⟨W.heap.size, 0, none⟩) 1 1]).run P (W.alloc (.cells ys.toArray e)) = .ok v1 w1 ∧ Appended W w1 base e size n v v1 xs ys := by
  obtain ⟨i0, hi, hzz⟩ := Option.map_eq_some_iff.1 hinfo
  simp only [Prod.mk.injEq] at hzz
  obtain ⟨hz0, hz1, hz2⟩ := hzz
  have hlen : n + 1 ≤ 140737488355328 := Nat.le_trans (Nat.le_mul_of_pos_right _ hb0) hl
  have HO' : (W.alloc (.cells ys.toArray e)).ownsRow base e size v n xs := HO.alloc _
  obtain ⟨v1, w1, hr, hown, hg, _, hat⟩ := run_append_own_at (P := P) (W.alloc (.cells ys.toArray e)) base t ty e i0 z size bytes ht hi hz0 hz1 hz2 hz hs0 v n xs HO' ⟨W.heap.size, 0, none⟩ 1 1 ys (by rw [hys]; simp)
    (news_cells W ys e) h1 (by simp only [maxLen]; omega) hl (by simp; omega)
  refine ⟨v1, w1, hr, hown, ((Mod.refl _ W).alloc _).trans (Mod.of_grown hg |>.mono (fun k _ h => h)), ?_⟩
  rcases hat with h | h
  · exact .inl h
  · exact .inr ⟨_, h, by simp⟩

section
variable {o : Oper} {a : Act} {W : World} (base : Nat) (s x : Operand) (t e : TypeId) (z : Value) (size bytes : Nat)
    (ho : o.op = .call { callee := .builtin .append, args := #[s, x], argTypes := #[t, t] }) (ht : P.underlying t = some (.slice e))
    (hinfo : (P.info? e).map (fun i => (i.zero, i.size, i.bytes)) = some (some z, size, bytes)) (hz : z.cells.size = size) (hs0 : 0 < size) (hb0 : 0 < bytes)
    (v : Value) (n : Nat) (xs ys : List Value) (hs : a.eval s = v) (hx : a.eval x = .slice (some ⟨W.heap.size, 0, none⟩) 1 1) (hys : ys.length = size) (h1 : ∀ u ∈ ys, u.oneCell' = true)
    (HO : W.ownsRow base e size v n xs) (hbase : base ≤ W.heap.size) (hl : (n + 1) * bytes ≤ 140737488355328)
include ho ht hinfo hz hs0 hb0 hs hx hys h1 HO hbase hl

theorem wp_app1 {K : Act → World → Prop} (h : ∀ v1 w1, Appended W w1 base e size n v v1 xs ys → K (a.put o.dst v1) w1) : o.wp P a (W.alloc (.cells ys.toArray e)) K Q := by
  obtain ⟨v1, w1, hr, hA⟩ := run_app1 (P := P) base t o.type e z size bytes ht hinfo hz hs0 hb0 v n xs ys hys h1 HO hbase hl
  unfold Oper.wp execOp
  simp only [ho, resolve, invoke, builtin, Sem.run_bind, Sem.run_pure, Result.andThen_ok, List.map_toArray, List.map_cons, List.map_nil, hs, hx, hr]
  exact h _ _ hA
theorem step_app1 {K : Act → World → Prop} {E : Prop} (hg : o.guard = none) (h : ∀ v1 w1, Appended W w1 base e size n v v1 xs ys → K (a.put o.dst v1) w1) :
    if Region.wanted o (yielded ops a.tmps) = true then Oper.wp P o a (W.alloc (.cells ys.toArray e)) K Q else E := by
  rw [if_pos (by simp [Region.wanted, hg])]
  exact wp_app1 base s x t e z size bytes ho ht hinfo hz hs0 hb0 v n xs ys hs hx hys h1 HO hbase hl h
theorem wpList_app1 {rest : List Oper} (hg : o.guard = none) (h : ∀ v1 w1, Appended W w1 base e size n v v1 xs ys → wpList P ops Q rest (a.put o.dst v1) w1) :
    wpList P ops Q (o :: rest) a (W.alloc (.cells ys.toArray e)) :=
  wpList_plain hg fun _ hK => wp_app1 base s x t e z size bytes ho ht hinfo hz hs0 hb0 v n xs ys hs hx hys h1 HO hbase hl fun v1 w1 hA => hK _ _ (h v1 w1 hA)
theorem wpListIn_app1 {F : Fence} {m : Nat} {rest : List Oper} (hg : o.guard = none) (h : ∀ v1 w1, Appended W w1 base e size n v v1 xs ys → wpListIn F m P ops Q rest (a.put o.dst v1) w1) :
    wpListIn F m P ops Q (o :: rest) a (W.alloc (.cells ys.toArray e)) := by
  refine wpListIn_plain hg fun K hK => ?_
  obtain ⟨v1, w1, hr, hA⟩ := run_app1 (P := P) base t o.type e z size bytes ht hinfo hz hs0 hb0 v n xs ys hys h1 HO hbase hl
  unfold Oper.wpIn
  refine ⟨?_, ?_⟩
  · simp [Oper.about, ho, resolve, Target.leads, Sem.run_pure]
  · rw [Oper.semAt_plain F _ _ (by rw [ho]; intro c hc'; cases hc')]
    unfold execOp
    simp only [ho, resolve, invoke, builtin, Sem.run_bind, Sem.run_pure, Result.andThen_ok, List.map_toArray, List.map_cons, List.map_nil, hs, hx, hr]
    exact hK _ _ (h _ _ hA)
end
end Go.Proofs.YtkkbkhcapogobaaGreatDoor
