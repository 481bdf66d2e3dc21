/- Words for AlignMoreRules: append of a whole slice to a row of the call's own; rows of several cells in memory. -/
import Derived.Test.YtkkbkhcapogobaaGreatDoorRH
import Derived.Deep.AppendSrc
import Derived.SizedLaws
namespace Go.Proofs.YtkkbkhcapogobaaGreatDoor
open Go Go.RowKit Go.Lib Go.Proofs S Go.Shelf Go.Maps Go.WideMaps Go.Deep Go.WideShapes
set_option linter.unusedVariables false
set_option linter.unusedSimpArgs false

theorem Addr.add_add (a : Addr) (m k : Nat) : (a.add m).add k = a.add (m + k) := by
  cases m with
  | zero => rw [Addr.add_zero, Nat.zero_add]
  | succ m =>
    cases k with
    | zero => rw [Addr.add_zero, Nat.add_zero]
    | succ k =>
      have e : m + 1 + (k + 1) = (m + 1 + k) + 1 := rfl
      rw [Addr.add_pos, Addr.add_pos, e, Addr.add_pos]
      show (⟨a.block, a.off + (m + 1) + (k + 1), none⟩ : Addr) = ⟨a.block, a.off + (m + 1 + k + 1), none⟩
      rw [Nat.add_assoc]; rfl
theorem flat_at {size : Nat} : ∀ (rows : List (List Value)) (i : Nat) (r : List Value), (∀ r ∈ rows, r.length = size) → rows[i]? = some r → ∀ j, j < size → rows.flatten[i * size + j]? = r[j]?
  | [], i, r, _, h, _, _ => by simp at h
  | r0 :: rows, 0, r, hl, h, j, hj => by
    simp only [List.getElem?_cons_zero, Option.some.injEq] at h
    subst h
    rw [List.flatten_cons, Nat.zero_mul, Nat.zero_add, List.getElem?_append_left (by rw [hl r0 (by simp)]; exact hj)]
  | r0 :: rows, i + 1, r, hl, h, j, hj => by
    simp only [List.getElem?_cons_succ] at h
    have h0 := hl r0 (by simp)
    rw [List.flatten_cons, List.getElem?_append_right (by rw [h0, Nat.add_mul]; omega), h0, show (i + 1) * size + j - size = i * size + j by rw [Nat.add_mul]; omega]
    exact flat_at rows i r (fun r hr => hl r (by simp [hr])) h j hj
theorem flat_len {size : Nat} : ∀ (rows : List (List Value)), (∀ r ∈ rows, r.length = size) → rows.flatten.length = rows.length * size
  | [], _ => by simp
  | r0 :: rows, hl => by
    rw [List.flatten_cons, List.length_append, hl r0 (by simp), flat_len rows (fun r hr => hl r (by simp [hr])), List.length_cons, Nat.add_mul]; omega
/-- The cells of rows that lie one behind the other. -/
theorem elems_flat {w : World} {a : Addr} {size : Nat} {rows : List (List Value)} (hs : 0 < size) (hl : ∀ r ∈ rows, r.length = size) (h : ElemsAt w (some a) size rows) : ∀ j u, rows.flatten[j]? = some u → w.cell? (a.add j) = some u := by
  intro j u hj
  have hlt := (List.getElem?_eq_some_iff.1 hj).1
  rw [flat_len rows hl] at hlt
  have hi : j / size < rows.length := Nat.div_lt_of_lt_mul (by rw [Nat.mul_comm]; exact hlt)
  have hr : rows[j / size]? = some rows[j / size] := List.getElem?_eq_getElem hi
  have hm : j % size < size := Nat.mod_lt _ hs
  have hd : j / size * size + j % size = j := Nat.div_add_mod' j size
  have h1 := flat_at rows (j / size) _ hl hr (j % size) hm
  rw [hd, hj] at h1
  obtain ⟨a', ha, hc⟩ := h _ _ hr
  cases ha
  have := hc _ _ h1.symm
  rwa [Addr.add_add, hd] at this
theorem own_rows {w : World} {base : Nat} {e : TypeId} {size : Nat} {v : Value} {rows : List (List Value)} (hl : ∀ r ∈ rows, r.length = size) (h : w.ownsRow base e size v rows.length rows.flatten) : ∃ (A : Option Addr) (q : Nat), v = .slice A rows.length q ∧ ElemsAt w A size rows := by
  obtain ⟨h1, h2⟩ := h
  rcases h2 with ⟨rfl, hn⟩ | ⟨g, cap, cur, rfl, hb, hh, hc, hm, hs, ht⟩
  · have : rows = [] := List.eq_nil_of_length_eq_zero hn
    subst this
    exact ⟨none, 0, rfl, fun i r hr => by simp at hr⟩
  · refine ⟨some ⟨g, 0, none⟩, cap, rfl, fun i r hr => ⟨_, rfl, fun j u hu => ?_⟩⟩
    have hrm : r ∈ rows := List.mem_of_getElem? hr
    have hj : j < size := by rw [← hl r hrm]; exact (List.getElem?_eq_some_iff.1 hu).1
    rw [Addr.add_add]
    have ha : ((⟨g, 0, none⟩ : Addr).add (i * size + j)) = ⟨g, i * size + j, none⟩ := by
      cases i * size + j with
      | zero => simp [Addr.add]
      | succ n => simp [Addr.add]
    rw [ha, cell_of hh]
    have h3 := flat_at rows i r hl hr j hj
    rw [hu, ← ht, List.getElem?_take] at h3
    split at h3
    · simpa using h3
    · cases h3
section
variable {P : Program} {ops : Array Oper} {Q : Exit → Act → World → Prop}
/-- 'append(v, x...)': v a row of the call's own. -/
theorem run_appS {W : World} (base : Nat) (t ty e : TypeId) (z : Value) (size bytes : Nat) (ht : P.underlying t = some (.slice e))
    (hinfo : (P.info? e).map (fun i => (i.zero, i.size, i.bytes)) = some (some z, size, bytes)) (hz : z.cells.size = size) (hs0 : 0 < size) (hb0 : 0 < bytes)
    (g cap n : Nat) (xs : List Value) (A : Option Addr) (c : Nat) (rows : List (List Value)) (hrl : ∀ r ∈ rows, r.length = size) (h1 : ∀ u ∈ rows.flatten, u.oneCell' = true) (hA : ElemsAt W A size rows)
    (HO : W.ownsRow base e size (.slice (some ⟨g, 0, none⟩) n cap) n xs) (hbase : base ≤ W.heap.size) (hl : (n + rows.length) * bytes ≤ 140737488355328) :
    ∃ v1 w1, (Builtin.append_ #[t, t] ty #[.slice (some ⟨g, 0, none⟩) n cap, .slice A rows.length c]).run P W = .ok v1 w1 ∧ w1.ownsRow base e size v1 (n + rows.length) (xs ++ rows.flatten) ∧ Mod (fun k => k = g) W w1 ∧ (v1.ownBlock = some g ∨ ∃ b, v1.ownBlock = some b ∧ W.heap.size ≤ b) := by
  obtain ⟨i0, hi, hzz⟩ := Option.map_eq_some_iff.1 hinfo
  simp only [Prod.mk.injEq] at hzz
  obtain ⟨hz0, hz1, hz2⟩ := hzz
  have hlen : n + rows.length ≤ 140737488355328 := Nat.le_trans (Nat.le_mul_of_pos_right _ hb0) hl
  cases A with
  | some a =>
    obtain ⟨v1, w1, hr, hown, hg, _, hat⟩ := run_append_own_at (P := P) W base t ty e i0 z size bytes ht hi hz0 hz1 hz2 hz hs0 _ n xs HO a rows.length c rows.flatten (flat_len rows hrl) (elems_flat hs0 hrl hA) h1 (by simp only [maxLen]; omega) hl hbase
    refine ⟨v1, w1, hr, hown, (Mod.of_grown hg).mono (fun k _ hk => ?_), ?_⟩
    · simpa [Value.ownBlock] using hk.symm
    · rcases hat with h | h
      · exact .inl h
      · exact .inr ⟨_, h, Nat.le_refl _⟩
  | none =>
    have hr0 : rows = [] := by
      cases rows with
      | nil => rfl
      | cons r rs =>
        obtain ⟨a, ha, _⟩ := hA 0 r rfl
        cases ha
    subst hr0
    have hroom := run_append_room_src (P := P) W t t ty e i0 ht hi g 0 n cap (.slice none 0 c) 0 [] (Src.ofNil W ht c) (by
      rcases HO.2 with ⟨h, _⟩ | ⟨g', cap', cur, h, _, _, h2, _⟩
      · cases h
      · cases h; exact h2) (by simp) (by simp)
    refine ⟨_, _, hroom, ?_, ?_, .inl rfl⟩
    · simpa [World.setCells] using HO
    · exact Mod.refl _ _
/-- A row of the call's own that has a block. -/
theorem own_some {W : World} {base : Nat} {e : TypeId} {size n : Nat} {v : Value} {xs : List Value} (h : W.ownsRow base e size v n xs) {g : Nat} (hg : v.ownBlock = some g) : ∃ cap, v = .slice (some ⟨g, 0, none⟩) n cap := by
  rcases h.2 with ⟨rfl, _⟩ | ⟨g', cap, cur, rfl, _⟩
  · simp [Value.ownBlock] at hg
  · simp only [Value.ownBlock, Option.some.injEq] at hg
    subst hg
    exact ⟨cap, rfl⟩
/-- What is known behind 'append(v, x...)'. -/
structure AppS (W w1 : World) (base : Nat) (e : TypeId) (size g nm g1 cap1 : Nat) (xs : List Value) : Prop where
  own : w1.ownsRow base e size (.slice (some ⟨g1, 0, none⟩) nm cap1) nm xs
  mod : Mod (fun k => k = g) W w1
  loc : g1 = g ∨ W.heap.size ≤ g1
theorem wp_appS {K : Act → World → Prop} {o : Oper} {a : Act} {W : World} (base : Nat) (s x : Operand) (t e : TypeId) (z : Value) (size bytes : Nat)
    (ho : o.op = .call { callee := .builtin .append, args := #[s, x], argTypes := #[t, t] }) (ht : P.underlying t = some (.slice e))
    (hinfo : (P.info? e).map (fun i => (i.zero, i.size, i.bytes)) = some (some z, size, bytes)) (hz : z.cells.size = size) (hs0 : 0 < size) (hb0 : 0 < bytes)
    (g cap n : Nat) (xs : List Value) (A : Option Addr) (m c nm : Nat) (rows : List (List Value)) (hm : rows.length = m) (hnm : n + m = nm) (hs : a.eval s = .slice (some ⟨g, 0, none⟩) n cap) (hx : a.eval x = .slice A m c)
    (hrl : ∀ r ∈ rows, r.length = size) (h1 : ∀ u ∈ rows.flatten, u.oneCell' = true) (hA : ElemsAt W A size rows)
    (HO : W.ownsRow base e size (.slice (some ⟨g, 0, none⟩) n cap) n xs) (hbase : base ≤ W.heap.size) (hl : nm * bytes ≤ 140737488355328)
    (h : ∀ g1 cap1 w1, AppS W w1 base e size g nm g1 cap1 (xs ++ rows.flatten) → K (a.put o.dst (.slice (some ⟨g1, 0, none⟩) nm cap1)) w1) : o.wp P a W K Q := by
  subst hm
  subst hnm
  obtain ⟨v1, w1, hr, ho1, hm1, hl1⟩ := run_appS (P := P) base t o.type e z size bytes ht hinfo hz hs0 hb0 g cap n xs A c rows hrl h1 hA HO hbase hl
  obtain ⟨g1, hg1, hlo⟩ : ∃ g1, v1.ownBlock = some g1 ∧ (g1 = g ∨ W.heap.size ≤ g1) := by
    rcases hl1 with h2 | ⟨b, h2, h3⟩
    · exact ⟨g, h2, .inl rfl⟩
    · exact ⟨b, h2, .inr h3⟩
  obtain ⟨cap1, rfl⟩ := own_some ho1 hg1
  unfold Oper.wp execOp
  simp only [ho, resolve, invoke, builtin, Sem.run_bind, Sem.run_pure, Result.andThen_ok, List.map_toArray, List.map_cons, List.map_nil, hs, hx, hr]
  exact h _ _ _ ⟨ho1, hm1, hlo⟩
theorem step_appS {K : Act → World → Prop} {E : Prop} {o : Oper} {a : Act} {W : World} (base : Nat) (s x : Operand) (t e : TypeId) (z : Value) (size bytes : Nat)
    (ho : o.op = .call { callee := .builtin .append, args := #[s, x], argTypes := #[t, t] }) (ht : P.underlying t = some (.slice e))
    (hinfo : (P.info? e).map (fun i => (i.zero, i.size, i.bytes)) = some (some z, size, bytes)) (hz : z.cells.size = size) (hs0 : 0 < size) (hb0 : 0 < bytes)
    (g cap n : Nat) (xs : List Value) (A : Option Addr) (m c nm : Nat) (rows : List (List Value)) (hm : rows.length = m) (hnm : n + m = nm) (hs : a.eval s = .slice (some ⟨g, 0, none⟩) n cap) (hx : a.eval x = .slice A m c)
    (hrl : ∀ r ∈ rows, r.length = size) (h1 : ∀ u ∈ rows.flatten, u.oneCell' = true) (hA : ElemsAt W A size rows)
    (HO : W.ownsRow base e size (.slice (some ⟨g, 0, none⟩) n cap) n xs) (hbase : base ≤ W.heap.size) (hl : nm * bytes ≤ 140737488355328) (hg : o.guard = none)
    (h : ∀ g1 cap1 w1, AppS W w1 base e size g nm g1 cap1 (xs ++ rows.flatten) → K (a.put o.dst (.slice (some ⟨g1, 0, none⟩) nm cap1)) w1) :
    if Region.wanted o (yielded ops a.tmps) = true then Oper.wp P o a W K Q else E := by
  rw [if_pos (by simp [Region.wanted, hg])]
  exact wp_appS base s x t e z size bytes ho ht hinfo hz hs0 hb0 g cap n xs A m c nm rows hm hnm hs hx hrl h1 hA HO hbase hl h
end
theorem empty_own (X : World) (base : Nat) (e : TypeId) (size : Nat) (hb : base ≤ X.heap.size) : (X.alloc (.cells #[] e)).ownsRow base e size (.slice (some ⟨X.heap.size, 0, none⟩) 0 0) 0 [] :=
  ⟨by simp, .inr ⟨X.heap.size, 0, #[], rfl, hb, World.alloc_heap_new X _, Nat.le_refl _, Nat.zero_le _, by simp, by simp⟩⟩
theorem rule_new (X : World) (rr : Rul) : ElemsAt (X.alloc (.cells #[.int .i64 rr.script, .string (B rr.frm), .string (B rr.to), .int .i64 rr.cost] 68)) (some ⟨X.heap.size, 0, none⟩) 4 [ruleVals rr] := by
  intro i r hr
  match i, hr with
  | 0, hr =>
    simp only [List.getElem?_cons_zero, Option.some.injEq] at hr
    subst hr
    refine ⟨_, rfl, fun j u hu => ?_⟩
    rw [Nat.zero_mul, Addr.add_zero]
    have ha : ((⟨X.heap.size, 0, none⟩ : Addr).add j) = ⟨X.heap.size, j, none⟩ := by
      cases j with
      | zero => simp [Addr.add]
      | succ n => simp [Addr.add]
    rw [ha, cell_of (World.alloc_heap_new X _) j]
    simpa [ruleVals] using hu
  | i + 1, hr => simp at hr
/-- A row in a block of its own stays where another block is written. -/
theorem elems_far {W w1 : World} {g0 g size : Nat} {rows : List (List Value)} (h : ElemsAt W (some ⟨g0, 0, none⟩) size rows) (hm : Mod (fun k => k = g) W w1) (hn : g0 ≠ g) : ElemsAt w1 (some ⟨g0, 0, none⟩) size rows := by
  intro i r hr
  obtain ⟨a, ha, hc⟩ := h i r hr
  refine ⟨a, ha, fun j v hv => ?_⟩
  have h1 := hc j v hv
  have hb : ((a.add (i * size)).add j).block = g0 := by
    cases ha
    cases i * size <;> cases j <;> simp [Addr.add]
  have hlt := World.block_lt_of_cell? W _ h1
  rw [cell_same (hm.block _ hlt (by rw [hb]; exact hn))]
  exact h1
theorem rule_len (r : Rul) : (ruleVals r).length = 4 := rfl
theorem rules_one (rs : List Rul) : ∀ u ∈ (rs.map ruleVals).flatten, u.oneCell' = true := by
  intro u hu
  obtain ⟨r, hr, hu⟩ := List.mem_flatten.1 hu
  obtain ⟨x, _, rfl⟩ := List.mem_map.1 hr
  simp only [ruleVals, List.mem_cons, List.mem_nil_iff, or_false] at hu
  rcases hu with rfl | rfl | rfl | rfl <;> rfl
theorem Tryz.info_apirule : (Tryz.prog.info? 68).map (fun i => (i.zero, i.size, i.bytes)) = some (some (.agg #[.int .i64 0, .string ⟨#[]⟩, .string ⟨#[]⟩, .int .i64 0]), 4, 48) := by kernel_rfl
theorem Tryz.rule_bytes : Tryz.prog.bytesOf 68 = 48 := by kernel_rfl
section
variable {H : Type} {enc : TypeId × Value → H} {w : World} {base : Nat} {spare : Nat → Bool} {held : Bool}
set_option maxRecDepth 10000 in
theorem read_rule_val {r : Reach} {b0 : Nat} {v : Value} {d : DataW H} {p : List MemPlace} (hv : Value.okWide Tryz.prog w r b0 68 v) (h : DataW.Trod enc Tryz.prog w base spare held 68 v d p) :
    ∃ rr : Rul, v = .agg #[.int .i64 rr.script, .string (B rr.frm), .string (B rr.to), .int .i64 rr.cost] ∧ (I64 rr.script ∧ rr.frm.length ≤ Go.maxLen ∧ rr.to.length ≤ Go.maxLen ∧ I64 rr.cost) := by
  obtain ⟨cs, rfl, hsz⟩ := okWide_struct Tryz.underlying68 hv
  obtain ⟨fuel, hf⟩ := h
  rw [Tryz.rule_cells] at hsz
  obtain ⟨rr, h1, h2⟩ := read_rule (by simpa [Value.cells] using hsz) hf
  refine ⟨rr, ?_, h2⟩
  obtain ⟨l⟩ := cs
  simp only [Value.cells] at h1
  rw [show l = ruleVals rr from h1]
  rfl
set_option maxRecDepth 10000 in
theorem read_table_size {d : DataW H} {p : List MemPlace} {A1 A2 A3 : Option Addr} {q1 q2 q3 : Nat} {t : Tab} (h : DataW.Trod enc Tryz.prog w base spare held 25 (tabVal A1 q1 A2 q2 A3 q3 t) d p) (hs : ∀ x ∈ DataW.weights Tryz.prog 25 d, x ≤ reachBytes) : t.rules.length * 48 ≤ reachBytes := by
  obtain ⟨fuel, hf⟩ := h
  obtain ⟨xs, n, _, hxe, _, hlen, hx⟩ := DataW.trod_struct Tryz.underlying25 hf
  simp only [Prod.mk.injEq] at hxe
  match xs, hlen with
  | [x0, x1, x2, x3, x4, x5], _ =>
    have h0 := hx 0 _ rfl
    have h0' : DataW.trod enc Tryz.prog w base spare held n 22 [.slice A1 t.rules.length q1] = some x0 := by simpa [tabVal, Value.cells, Tryz.rules_cells] using h0
    have hd := hxe.1
    simp only [List.map_cons, List.map_nil] at hd
    rcases open_slice Tryz.underlying22 h0' with ⟨he, _⟩ | ⟨a, len, cap, m, n', D, Pl, he, hb, hl, hm, hmm, hxx, _⟩
    · simp only [List.cons.injEq, and_true, Value.slice.injEq] at he
      rw [he.2.1]; simp
    · simp only [List.cons.injEq, and_true, Value.slice.injEq] at he
      have h3 := hs ((((List.range len).map D).length + ((List.range (m - len)).map fun j => D (len + j)).length) * 48) (by
        rw [hd, hxx]
        simp [DataW.weights, DataW.weightsEach, Tryz.underlying25, Tryz.underlying22, Tryz.rule_bytes])
      rw [he.2.1]
      simp only [List.length_map, List.length_range] at h3
      rw [Nat.add_mul] at h3
      omega
end
end Go.Proofs.YtkkbkhcapogobaaGreatDoor
