/- Contracts: align.Best: the way it takes, and what a round keeps. -/
import Derived.Test.YtkkbkhcapogobaaGreatDoorS4
namespace Go.Proofs.YtkkbkhcapogobaaGreatDoor
open Go Go.RowKit Go.Lib Go.Proofs S Go.Shelf Go.Maps Go.WideMaps
set_option linter.unusedVariables false
set_option linter.unusedSimpArgs false

namespace S
def pathS (L R : Side) (s : St) (d : Der) : Der := pathF L R (remS L R s) s d
theorem next_mem {L R : Side} {s : St} {m : ARule × St} (h : nextS L R s = some m) : m ∈ movesS L R s := by
  unfold nextS at h; exact List.mem_of_find?_eq_some h
theorem next_nil {L R : Side} {s : St} (h : movesS L R s = []) : nextS L R s = none := by unfold nextS; rw [h]; rfl
theorem pathF_more {L R : Side} (hL : Fine L) (hR : Fine R) : ∀ (n m : Nat) (s : St) (d : Der), In L R s → remS L R s ≤ n → remS L R s ≤ m → pathF L R n s d = pathF L R m s d
  | 0, 0, s, d, _, _, _ => rfl
  | 0, m + 1, s, d, hs, h, _ => by
    simp only [pathF]
    rw [next_nil (done_moves hL hR hs (by omega))]; split <;> rfl
  | n + 1, 0, s, d, hs, _, h => by
    simp only [pathF]
    rw [next_nil (done_moves hL hR hs (by omega))]; split <;> rfl
  | n + 1, m + 1, s, d, hs, h1, h2 => by
    simp only [pathF]
    cases h : nextS L R s with
    | none => rfl
    | some x =>
      have := move_rem hL hR hs (next_mem h)
      simp only
      rw [pathF_more hL hR n m x.2 _ this.1 (by omega) (by omega)]
theorem pathS_next {L R : Side} (hL : Fine L) (hR : Fine R) {s : St} {d : Der} {m : ARule × St} (hs : In L R s) (hd : doneS L R s = false) (h : nextS L R s = some m) : pathS L R s d = pathS L R m.2 (takeS d s m) := by
  have hm := move_rem hL hR hs (next_mem h)
  unfold pathS
  rw [pathF_more hL hR (remS L R s) ((remS L R s - 1) + 1) s d hs (Nat.le_refl _) (by omega)]
  rw [pathF, if_neg (by simp [hd]), h]
  exact pathF_more hL hR _ _ m.2 _ hm.1 (by omega) (Nat.le_refl _)
theorem pathS_done {L R : Side} {s : St} {d : Der} (hd : doneS L R s = true) : pathS L R s d = d := by
  unfold pathS
  cases remS L R s with
  | zero => rfl
  | succ n => rw [pathF, if_pos hd]
theorem next_first {L R : Side} {s : St} {pre rest : List (ARule × St)} {m : ARule × St} (h : movesS L R s = pre ++ m :: rest) (hp : ∀ p ∈ pre, p.1.cost + val L R p.2 ≠ val L R s) (hm : m.1.cost + val L R m.2 = val L R s) : nextS L R s = some m := by
  unfold nextS
  rw [h, List.find?_append, List.find?_eq_none.2 (by simpa using hp)]
  simp [hm]
end S

def intVs (l : List Int) : List Value := l.map (Value.int .i64)
theorem intVs_snoc (l : List Int) (x : Int) : intVs (l ++ [x]) = intVs l ++ [.int .i64 x] := by simp [intVs]
/-- What a round of Best keeps. -/
structure BestI (L R : MSide) (w00 : World) (b n : Nat) (f : Value → Option Value) (Bw Bs Bd : Nat) (s : St) (d : Der) (vL vR : Value) (W : World) : Prop where
  ext : Ext w00 W
  words : W.heap[Bw]? = some (.cells (wordsCells L R) 43)
  st : W.heap[Bs]? = some (.cells (stVals s) 49)
  der : W.heap[Bd]? = some (.cells #[.int .i64 d.cost, vL, vR, .string (B d.form)] 28)
  left : W.ownsRow w00.heap.size 3 1 vL d.left.length (intVs d.left)
  right : W.ownsRow w00.heap.size 3 1 vR d.right.length (intVs d.right)
  apart : ∀ g, vL.ownBlock = some g → vR.ownBlock ≠ some g
  map : MapAt Tryz.prog 49 W b n f
section
variable {L R : MSide} {w00 : World} {b n : Nat} {f : Value → Option Value} {Bw Bs Bd : Nat} {s : St} {d : Der} {vL vR : Value} {W : World}
theorem BestI.step {W' : World} {S : Nat → Prop} (h : BestI L R w00 b n f Bw Bs Bd s d vL vR W) (hm : Mod S W W') (hS : ∀ k, S k → w00.heap.size ≤ k ∧ Book W k) : BestI L R w00 b n f Bw Bs Bd s d vL vR W' where
  ext := Mod.below_trans h.ext hm h.ext.size (fun i hi hs => by have := (hS i hs).1; omega)
  words := block_keep h.words hm (fun hs => cells_not_book h.words (hS _ hs).2)
  st := block_keep h.st hm (fun hs => cells_not_book h.st (hS _ hs).2)
  der := block_keep h.der hm (fun hs => cells_not_book h.der (hS _ hs).2)
  left := ownsRow_mod h.left hm (fun g hg hs => ownsRow_not_book h.left hg (hS _ hs).2)
  right := ownsRow_mod h.right hm (fun g hg hs => ownsRow_not_book h.right hg (hS _ hs).2)
  apart := h.apart
  map := h.map.mod hm (fun hs => h.map.not_book (hS _ hs).2)
theorem BestI.grow {W' : World} (h : BestI L R w00 b n f Bw Bs Bd s d vL vR W) (hm : Ext W W') : BestI L R w00 b n f Bw Bs Bd s d vL vR W' := h.step (hm.mod (fun _ => False)) (fun _ h => h.elim)
theorem BestI.cells (h : BestI L R w00 b n f Bw Bs Bd s d vL vR W) : Cells w00 W := Cells.of_ext h.ext
theorem own_far {base : Nat} {v : Value} {k : Nat} {xs : List Value} (h : W.ownsRow base 3 1 v k xs) {g : Nat} (hg : v.ownBlock = some g) {cs : Array Value} {t : TypeId} {m : Nat × Nat} {Bx : Nat} (hx : W.heap[Bx]? = some (.cells cs t m)) (ht : t ≠ 3) : g ≠ Bx := by
  rintro rfl
  obtain ⟨_, _, cur, hh⟩ := ownsRow_block h hg
  rw [hx] at hh
  simp only [Option.some.injEq, Obj.cells.injEq] at hh
  exact ht hh.2.1
/-- The blocks that a round may write. -/
def BestT (Bs Bd : Nat) (vL vR : Value) (k : Nat) : Prop := k = Bs ∨ k = Bd ∨ vL.ownBlock = some k ∨ vR.ownBlock = some k
theorem BestI.place (h : BestI L R w00 b n f Bw Bs Bd s d vL vR W) (hs : w00.heap.size ≤ Bs) (hd : w00.heap.size ≤ Bd) {k : Nat} (hk : BestT Bs Bd vL vR k) : w00.heap.size ≤ k ∧ k < W.heap.size ∧ k ≠ Bw ∧ k ≠ b := by
  have hb : ∀ {Bx : Nat} {cs : Array Value} {t : TypeId} {m : Nat × Nat}, W.heap[Bx]? = some (.cells cs t m) → Bx ≠ b := fun {Bx cs t m} hx e => h.map.not_cells (e ▸ hx)
  rcases hk with rfl | rfl | hk | hk
  · refine ⟨hs, (Array.getElem?_eq_some_iff.1 h.st).1, ?_, hb h.st⟩
    rintro rfl
    have := h.st; rw [h.words] at this; simp at this
  · refine ⟨hd, (Array.getElem?_eq_some_iff.1 h.der).1, ?_, hb h.der⟩
    rintro rfl
    have := h.der; rw [h.words] at this; simp at this
  · obtain ⟨h1, h2, cur, hh⟩ := ownsRow_block h.left hk
    exact ⟨h1, h2, own_far h.left hk h.words (by decide), hb hh⟩
  · obtain ⟨h1, h2, cur, hh⟩ := ownsRow_block h.right hk
    exact ⟨h1, h2, own_far h.right hk h.words (by decide), hb hh⟩
theorem BestI.goLeft {W' : World} {s' : St} {v1 : Value} {x : Int} {tt : Str} (h : BestI L R w00 b n f Bw Bs Bd s d vL vR W) (hs : w00.heap.size ≤ Bs) (hd : w00.heap.size ≤ Bd)
    (hm : Mod (fun k => k = Bs ∨ k = Bd ∨ vL.ownBlock = some k) W W') (kst : W'.heap[Bs]? = some (.cells (stVals s') 49)) (kd : W'.heap[Bd]? = some (.cells #[.int .i64 d.cost, v1, vR, .string (B (d.form ++ tt))] 28))
    (ho : W'.ownsRow w00.heap.size 3 1 v1 (d.left.length + 1) (intVs d.left ++ [.int .i64 x])) (hl : v1.ownBlock = vL.ownBlock ∨ ∃ g, v1.ownBlock = some g ∧ W.heap.size ≤ g) :
    BestI L R w00 b n f Bw Bs Bd s' { d with left := d.left ++ [x], form := d.form ++ tt } v1 vR W' := by
  have hT : ∀ k, (k = Bs ∨ k = Bd ∨ vL.ownBlock = some k) → BestT Bs Bd vL vR k := fun k hk => by
    rcases hk with hk | hk | hk
    · exact .inl hk
    · exact .inr (.inl hk)
    · exact .inr (.inr (.inl hk))
  have hp := fun k hk => h.place hs hd (hT k hk)
  refine ⟨Mod.below_trans h.ext hm h.ext.size (fun i hi hk => by have := (hp i hk).1; omega), block_keep h.words hm (fun hk => (hp _ hk).2.2.1 rfl), kst, kd, ?_, ?_, ?_, h.map.mod hm (fun hk => (hp _ hk).2.2.2 rfl)⟩
  · simp only [List.length_append, List.length_cons, List.length_nil]
    rw [intVs_snoc]; exact ho
  · refine ownsRow_mod h.right hm ?_
    rintro g hg (rfl | rfl | hk)
    · exact own_far h.right hg h.st (by decide) rfl
    · exact own_far h.right hg h.der (by decide) rfl
    · exact h.apart _ hk hg
  · intro g hg
    rcases hl with hl | ⟨g', hl, hlt⟩
    · exact h.apart g (hl ▸ hg)
    · rw [hl] at hg; cases hg
      intro hr
      have := (ownsRow_block h.right hr).2.1
      omega
theorem BestI.goRight {W' : World} {s' : St} {v1 : Value} {x : Int} (h : BestI L R w00 b n f Bw Bs Bd s d vL vR W) (hs : w00.heap.size ≤ Bs) (hd : w00.heap.size ≤ Bd)
    (hm : Mod (fun k => k = Bs ∨ k = Bd ∨ vR.ownBlock = some k) W W') (kst : W'.heap[Bs]? = some (.cells (stVals s') 49)) (kd : W'.heap[Bd]? = some (.cells #[.int .i64 d.cost, vL, v1, .string (B d.form)] 28))
    (ho : W'.ownsRow w00.heap.size 3 1 v1 (d.right.length + 1) (intVs d.right ++ [.int .i64 x])) (hl : v1.ownBlock = vR.ownBlock ∨ ∃ g, v1.ownBlock = some g ∧ W.heap.size ≤ g) :
    BestI L R w00 b n f Bw Bs Bd s' { d with right := d.right ++ [x] } vL v1 W' := by
  have hT : ∀ k, (k = Bs ∨ k = Bd ∨ vR.ownBlock = some k) → BestT Bs Bd vL vR k := fun k hk => by
    rcases hk with hk | hk | hk
    · exact .inl hk
    · exact .inr (.inl hk)
    · exact .inr (.inr (.inr hk))
  have hp := fun k hk => h.place hs hd (hT k hk)
  refine ⟨Mod.below_trans h.ext hm h.ext.size (fun i hi hk => by have := (hp i hk).1; omega), block_keep h.words hm (fun hk => (hp _ hk).2.2.1 rfl), kst, kd, ?_, ?_, ?_, h.map.mod hm (fun hk => (hp _ hk).2.2.2 rfl)⟩
  · refine ownsRow_mod h.left hm ?_
    rintro g hg (rfl | rfl | hk)
    · exact own_far h.left hg h.st (by decide) rfl
    · exact own_far h.left hg h.der (by decide) rfl
    · exact h.apart _ hg hk
  · simp only [List.length_append, List.length_cons, List.length_nil]
    rw [intVs_snoc]; exact ho
  · intro g hg
    rcases hl with hl | ⟨g', hl, hlt⟩
    · rw [hl]; exact h.apart g hg
    · rw [hl]; intro hr; cases hr
      have := (ownsRow_block h.left hg).2.1
      omega
end

/-- The calls that a loop with ranges over functions has put off: none left by a round. -/
def Waits (base : Nat) (ds : List Deferred) (W : World) : Prop := (ds.map (·.target)).Nodup ∧ ∀ x ∈ ds, ∃ D, base ≤ D ∧ x = { target := .collected D, args := #[] } ∧ W.heap[D]? = some (.deferred (some []))
theorem leaves_waits {F : Fence} {m : Nat} {P : Program} {fn : Func} {tmps : Array Value} {Q : Ending → World → Prop} {base : Nat} (Pr : World → Prop) (hP : ∀ W W', Mod (fun k => base ≤ k ∧ Book W k) W W' → Pr W → Pr W') (hL : ∀ W, Pr W → LeavesInM F m P fn tmps Q [] .returning W) : ∀ (ds : List Deferred) (W : World), Waits base ds W → Pr W → LeavesInM F m P fn tmps Q ds .returning W
  | [], W, _, h => hL W h
  | x :: ds, W, hw, h => by
    obtain ⟨hn, hd⟩ := hw
    obtain ⟨D, hDb, rfl, hD⟩ := hd x (by simp)
    simp only [List.map_cons, List.nodup_cons] at hn
    refine ⟨by simp, .inl ⟨D, _, rfl, run_takeDeferred hD, ?_⟩⟩
    refine leaves_waits Pr hP hL ds _ ⟨hn.2, fun y hy => ?_⟩ (hP W _ ((Mod.refl _ W).putObj (.inl ⟨hDb, .inr ⟨_, hD⟩⟩) _) h)
    obtain ⟨D', hDb', rfl, hD'⟩ := hd y (by simp [hy])
    refine ⟨D', hDb', rfl, (World.putObj_heap_other ?_).trans hD'⟩
    rintro rfl
    exact hn.1 (List.mem_map.2 ⟨_, hy, rfl⟩)
theorem Waits.step {base : Nat} {ds : List Deferred} {W W' : World} {S : Nat → Prop} (h : Waits base ds W) (hm : Mod S W W') (hS : ∀ k d, k < W.heap.size → W.heap[k]? = some (.deferred d) → ¬ S k) : Waits base ds W' := ⟨h.1, fun x hx => by
  obtain ⟨D, h0, h1, h2⟩ := h.2 x hx
  exact ⟨D, h0, h1, block_keep h2 hm (hS _ _ (Array.getElem?_eq_some_iff.1 h2).1 h2)⟩⟩
theorem Waits.more {base : Nat} {ds : List Deferred} {W W' : World} {D : Nat} (h : Waits base ds W) (h' : Waits base ds W') (hD : W.heap.size ≤ D) (hb : base ≤ D) (hk : W'.heap[D]? = some (.deferred (some []))) : Waits base ({ target := .collected D, args := #[] } :: ds) W' := by
  refine ⟨?_, fun x hx => ?_⟩
  · simp only [List.map_cons, List.nodup_cons]
    refine ⟨fun hm => ?_, h.1⟩
    obtain ⟨x, hx, he⟩ := List.mem_map.1 hm
    obtain ⟨D', _, rfl, h2⟩ := h.2 x hx
    cases he
    have := (Array.getElem?_eq_some_iff.1 h2).1
    omega
  · rcases List.mem_cons.1 hx with rfl | hx
    · exact ⟨D, hb, rfl, hk⟩
    · exact h'.2 x hx
/-- What a range over the moves keeps in Best. -/
def BestR (L R : MSide) (w00 : World) (b n : Nat) (f : Value → Option Value) (Bw Bs Bd : Nat) (s : St) (d : Der) (vL vR : Value) (W2 : World) (pre : List (MR × St)) (Wd : World) : Prop :=
  BestI L R w00 b n f Bw Bs Bd s d vL vR Wd ∧ Mod (BestT Bs Bd vL vR) W2 Wd ∧ ∀ p ∈ pre, p.1.1.cost + val L.side R.side p.2 ≠ val L.side R.side s
/-- How a range over the moves is left in Best: with a move taken. -/
def BestX (L R : MSide) (w00 : World) (b n : Nat) (f : Value → Option Value) (Bw Bs Bd : Nat) (s : St) (d : Der) (vL vR : Value) (W2 : World) (c : Code) (pre : List (MR × St)) (Wd : World) : Prop :=
  c = .exit 2 ∧ Mod (BestT Bs Bd vL vR) W2 Wd ∧ ∃ (p : MR × St) (vL' vR' : Value), BestI L R w00 b n f Bw Bs Bd p.2 (takeS d s (p.1.1, p.2)) vL' vR' Wd ∧ nextS L.side R.side s = some (p.1.1, p.2)
section
variable {L R : MSide} {w00 : World} {b n : Nat} {f : Value → Option Value} {Bw Bs Bd : Nat} {s : St} {d : Der} {vL vR : Value} {W2 : World} {pre : List (MR × St)} {Wd W' : World}
theorem BestR.step (h : BestR L R w00 b n f Bw Bs Bd s d vL vR W2 pre Wd) (hb : w00.heap.size ≤ W2.heap.size) (hst : StepX W2.heap.size Wd W') : BestR L R w00 b n f Bw Bs Bd s d vL vR W2 pre W' :=
  ⟨h.1.step hst (fun k hk => ⟨Nat.le_trans hb hk.1, hk.2⟩), h.2.1.trans' hst (fun _ _ h => h) (fun k hk h => by have := h.1; omega), h.2.2⟩
theorem BestX.step {c : Code} (h : BestX L R w00 b n f Bw Bs Bd s d vL vR W2 c pre Wd) (hb : w00.heap.size ≤ W2.heap.size) (hst : StepX W2.heap.size Wd W') : BestX L R w00 b n f Bw Bs Bd s d vL vR W2 c pre W' := by
  obtain ⟨h1, h2, p, v1, v2, h3, h4⟩ := h
  exact ⟨h1, h2.trans' hst (fun _ _ h => h) (fun k hk h => by have := h.1; omega), p, v1, v2, h3.step hst (fun k hk => ⟨Nat.le_trans hb hk.1, hk.2⟩), h4⟩
end
namespace S
theorem take_count (d : Der) (s : St) (m : ARule × St) : (takeS d s m).left.length + (takeS d s m).right.length = d.left.length + d.right.length + 1 := by
  unfold takeS; split <;> simp <;> omega
theorem take_form {L R : Side} (hL : Fine L) (hR : Fine R) {d : Der} {s : St} {m : ARule × St} (hm : m ∈ movesS L R s) (h : d.form.length ≤ 3 * d.left.length) : (takeS d s m).form.length ≤ 3 * (takeS d s m).left.length := by
  obtain ⟨h1, _, _⟩ := mem_moves hm
  have hsh : m.1.to.length ≤ 3 := by
    cases ht : turnS L s with
    | true => rw [ht] at h1; exact hL.short _ h1
    | false => rw [ht] at h1; exact hR.short _ h1
  unfold takeS; split
  · simp; omega
  · exact h
theorem next_val {L R : Side} {s : St} {m : ARule × St} (h : nextS L R s = some m) : m.1.cost + val L R m.2 = val L R s := by
  unfold nextS at h
  simpa using List.find?_some h
end S
section
variable {L R : MSide} {w00 : World} {b n : Nat} {f : Value → Option Value} {Bw Bs Bd : Nat} {s : St} {d : Der} {vL vR : Value} {W : World}
theorem BestI.cellsT (h : BestI L R w00 b n f Bw Bs Bd s d vL vR W) {k : Nat} (hk : BestT Bs Bd vL vR k) : ∃ cs t m, W.heap[k]? = some (.cells cs t m) := by
  rcases hk with rfl | rfl | hk | hk
  · exact ⟨_, _, _, h.st⟩
  · exact ⟨_, _, _, h.der⟩
  · obtain ⟨_, _, cur, hh⟩ := ownsRow_block h.left hk; exact ⟨_, _, _, hh⟩
  · obtain ⟨_, _, cur, hh⟩ := ownsRow_block h.right hk; exact ⟨_, _, _, hh⟩
theorem setSt {w5 : World} {cs : Array Value} (h : w5.heap[Bs]? = some (.cells cs 49)) (hc : cs.size = 4) (s' : St) :
    ((((w5.setCell ⟨Bs, 0, none⟩ (.int .i64 s'.i)).setCell ⟨Bs, 1, none⟩ (.int .i64 s'.j)).setCell ⟨Bs, 2, none⟩ (.string (B s'.ahead))).setCell ⟨Bs, 3, none⟩ (.bool s'.right)).heap[Bs]? = some (.cells (stVals s') 49) := by
  have := block_set (block_set (block_set (block_set h 0 (.int .i64 s'.i)) 1 (.int .i64 s'.j)) 2 (.string (B s'.ahead))) 3 (.bool s'.right)
  rw [this]
  obtain ⟨l⟩ := cs
  match l, hc with
  | [x0, x1, x2, x3], _ => simp [stVals]
theorem BestI.finLeft {w5 : World} {z1 : Value} {x : Int} {tt : Str} {s' : St} (h : BestI L R w00 b n f Bw Bs Bd s d vL vR W) (hs : w00.heap.size ≤ Bs) (hd : w00.heap.size ≤ Bd) (hne : Bs ≠ Bd)
    (hm : Mod (fun k => vL.ownBlock = some k) W w5) (ho : w5.ownsRow w00.heap.size 3 1 z1 (d.left.length + 1) (intVs d.left ++ [.int .i64 x])) (hl : z1.ownBlock = vL.ownBlock ∨ ∃ g, z1.ownBlock = some g ∧ W.heap.size ≤ g) :
    Mod (BestT Bs Bd vL vR) W ((((((w5.setCell ⟨Bd, 1, none⟩ z1).setCell ⟨Bd, 3, none⟩ (.string (B (d.form ++ tt)))).setCell ⟨Bs, 0, none⟩ (.int .i64 s'.i)).setCell ⟨Bs, 1, none⟩ (.int .i64 s'.j)).setCell ⟨Bs, 2, none⟩ (.string (B s'.ahead))).setCell ⟨Bs, 3, none⟩ (.bool s'.right)) ∧
    BestI L R w00 b n f Bw Bs Bd s' { d with left := d.left ++ [x], form := d.form ++ tt } z1 vR ((((((w5.setCell ⟨Bd, 1, none⟩ z1).setCell ⟨Bd, 3, none⟩ (.string (B (d.form ++ tt)))).setCell ⟨Bs, 0, none⟩ (.int .i64 s'.i)).setCell ⟨Bs, 1, none⟩ (.int .i64 s'.j)).setCell ⟨Bs, 2, none⟩ (.string (B s'.ahead))).setCell ⟨Bs, 3, none⟩ (.bool s'.right)) := by
  have kS5 := block_keep h.st hm (fun hk => own_far h.left hk h.st (by decide) rfl)
  have kD5 := block_keep h.der hm (fun hk => own_far h.left hk h.der (by decide) rfl)
  have m5 : Mod (fun k => k = Bs ∨ k = Bd ∨ vL.ownBlock = some k) W ((((((w5.setCell ⟨Bd, 1, none⟩ z1).setCell ⟨Bd, 3, none⟩ (.string (B (d.form ++ tt)))).setCell ⟨Bs, 0, none⟩ (.int .i64 s'.i)).setCell ⟨Bs, 1, none⟩ (.int .i64 s'.j)).setCell ⟨Bs, 2, none⟩ (.string (B s'.ahead))).setCell ⟨Bs, 3, none⟩ (.bool s'.right)) :=
    ((((((hm.mono (fun k _ hk => .inr (.inr hk))).setCell (p := ⟨Bd, 1, none⟩) (.inl (.inr (.inl rfl))) _).setCell (p := ⟨Bd, 3, none⟩) (.inl (.inr (.inl rfl))) _).setCell (p := ⟨Bs, 0, none⟩) (.inl (.inl rfl)) _).setCell (p := ⟨Bs, 1, none⟩) (.inl (.inl rfl)) _).setCell (p := ⟨Bs, 2, none⟩) (.inl (.inl rfl)) _).setCell (p := ⟨Bs, 3, none⟩) (.inl (.inl rfl)) _
  have md : Mod (fun k => k = Bd) w5 ((w5.setCell ⟨Bd, 1, none⟩ z1).setCell ⟨Bd, 3, none⟩ (.string (B (d.form ++ tt)))) := ((Mod.refl (fun k => k = Bd) w5).setCell (p := ⟨Bd, 1, none⟩) (.inl rfl) _).setCell (p := ⟨Bd, 3, none⟩) (.inl rfl) _
  have ms : ∀ w6 : World, Mod (fun k => k = Bs) w6 ((((w6.setCell ⟨Bs, 0, none⟩ (.int .i64 s'.i)).setCell ⟨Bs, 1, none⟩ (.int .i64 s'.j)).setCell ⟨Bs, 2, none⟩ (.string (B s'.ahead))).setCell ⟨Bs, 3, none⟩ (.bool s'.right)) := fun w6 =>
    ((((Mod.refl (fun k => k = Bs) w6).setCell (p := ⟨Bs, 0, none⟩) (.inl rfl) _).setCell (p := ⟨Bs, 1, none⟩) (.inl rfl) _).setCell (p := ⟨Bs, 2, none⟩) (.inl rfl) _).setCell (p := ⟨Bs, 3, none⟩) (.inl rfl) _
  refine ⟨m5.mono (fun k _ hk => ?_), h.goLeft hs hd m5 (setSt (block_keep kS5 md hne) rfl s') ?_ ?_ hl⟩
  · rcases hk with hk | hk | hk
    · exact .inl hk
    · exact .inr (.inl hk)
    · exact .inr (.inr (.inl hk))
  · refine block_keep ?_ (ms _) (fun e => hne e.symm)
    have := block_set (block_set kD5 1 z1) 3 (.string (B (d.form ++ tt)))
    rw [this]; simp
  · have o1 := ownsRow_mod ho md (fun g hg e => own_far ho hg kD5 (by decide) e)
    exact ownsRow_mod o1 (ms _) (fun g hg e => own_far ho hg kS5 (by decide) e)
theorem BestI.finRight {w5 : World} {z1 : Value} {x : Int} {s' : St} (h : BestI L R w00 b n f Bw Bs Bd s d vL vR W) (hs : w00.heap.size ≤ Bs) (hd : w00.heap.size ≤ Bd) (hne : Bs ≠ Bd)
    (hm : Mod (fun k => vR.ownBlock = some k) W w5) (ho : w5.ownsRow w00.heap.size 3 1 z1 (d.right.length + 1) (intVs d.right ++ [.int .i64 x])) (hl : z1.ownBlock = vR.ownBlock ∨ ∃ g, z1.ownBlock = some g ∧ W.heap.size ≤ g) :
    Mod (BestT Bs Bd vL vR) W (((((w5.setCell ⟨Bd, 2, none⟩ z1).setCell ⟨Bs, 0, none⟩ (.int .i64 s'.i)).setCell ⟨Bs, 1, none⟩ (.int .i64 s'.j)).setCell ⟨Bs, 2, none⟩ (.string (B s'.ahead))).setCell ⟨Bs, 3, none⟩ (.bool s'.right)) ∧
    BestI L R w00 b n f Bw Bs Bd s' { d with right := d.right ++ [x] } vL z1 (((((w5.setCell ⟨Bd, 2, none⟩ z1).setCell ⟨Bs, 0, none⟩ (.int .i64 s'.i)).setCell ⟨Bs, 1, none⟩ (.int .i64 s'.j)).setCell ⟨Bs, 2, none⟩ (.string (B s'.ahead))).setCell ⟨Bs, 3, none⟩ (.bool s'.right)) := by
  have kS5 := block_keep h.st hm (fun hk => own_far h.right hk h.st (by decide) rfl)
  have kD5 := block_keep h.der hm (fun hk => own_far h.right hk h.der (by decide) rfl)
  have m5 : Mod (fun k => k = Bs ∨ k = Bd ∨ vR.ownBlock = some k) W (((((w5.setCell ⟨Bd, 2, none⟩ z1).setCell ⟨Bs, 0, none⟩ (.int .i64 s'.i)).setCell ⟨Bs, 1, none⟩ (.int .i64 s'.j)).setCell ⟨Bs, 2, none⟩ (.string (B s'.ahead))).setCell ⟨Bs, 3, none⟩ (.bool s'.right)) :=
    (((((hm.mono (fun k _ hk => .inr (.inr hk))).setCell (p := ⟨Bd, 2, none⟩) (.inl (.inr (.inl rfl))) _).setCell (p := ⟨Bs, 0, none⟩) (.inl (.inl rfl)) _).setCell (p := ⟨Bs, 1, none⟩) (.inl (.inl rfl)) _).setCell (p := ⟨Bs, 2, none⟩) (.inl (.inl rfl)) _).setCell (p := ⟨Bs, 3, none⟩) (.inl (.inl rfl)) _
  have md : Mod (fun k => k = Bd) w5 (w5.setCell ⟨Bd, 2, none⟩ z1) := (Mod.refl (fun k => k = Bd) w5).setCell (p := ⟨Bd, 2, none⟩) (.inl rfl) _
  have ms : ∀ w6 : World, Mod (fun k => k = Bs) w6 ((((w6.setCell ⟨Bs, 0, none⟩ (.int .i64 s'.i)).setCell ⟨Bs, 1, none⟩ (.int .i64 s'.j)).setCell ⟨Bs, 2, none⟩ (.string (B s'.ahead))).setCell ⟨Bs, 3, none⟩ (.bool s'.right)) := fun w6 =>
    ((((Mod.refl (fun k => k = Bs) w6).setCell (p := ⟨Bs, 0, none⟩) (.inl rfl) _).setCell (p := ⟨Bs, 1, none⟩) (.inl rfl) _).setCell (p := ⟨Bs, 2, none⟩) (.inl rfl) _).setCell (p := ⟨Bs, 3, none⟩) (.inl rfl) _
  refine ⟨m5.mono (fun k _ hk => ?_), h.goRight hs hd m5 (setSt (block_keep kS5 md hne) rfl s') ?_ ?_ hl⟩
  · rcases hk with hk | hk | hk
    · exact .inl hk
    · exact .inr (.inl hk)
    · exact .inr (.inr (.inr hk))
  · refine block_keep ?_ (ms _) (fun e => hne e.symm)
    have := block_set kD5 2 z1
    rw [this]; simp
  · have o1 := ownsRow_mod ho md (fun g hg e => own_far ho hg kD5 (by decide) e)
    exact ownsRow_mod o1 (ms _) (fun g hg e => own_far ho hg kS5 (by decide) e)
end
theorem Tryz.info_int : (Tryz.prog.info? 3).map (fun i => (i.zero, i.size, i.bytes)) = some (some (.int .i64 0), 1, 8) := by kernel_rfl
theorem own_elems {w : World} {base : Nat} {v : Value} {l : List Int} (h : w.ownsRow base 3 1 v l.length (intVs l)) : ∃ (A : Option Addr) (q : Nat), v = .slice A l.length q ∧ ElemsAt w A 1 (l.map (fun i => [Value.int .i64 i])) := by
  obtain ⟨h1, h2⟩ := h
  rcases h2 with ⟨rfl, hn⟩ | ⟨g, cap, cur, rfl, hb, hh, hc, hm, hs, ht⟩
  · have : l = [] := List.eq_nil_of_length_eq_zero hn
    subst this
    exact ⟨none, 0, rfl, fun i r hr => by simp at hr⟩
  · refine ⟨some ⟨g, 0, none⟩, cap, rfl, fun i r hr => ?_⟩
    rw [List.getElem?_map] at hr
    obtain ⟨k, hk, rfl⟩ := Option.map_eq_some_iff.1 hr
    refine ⟨_, rfl, fun j u hu => ?_⟩
    match j, hu with
    | 0, hu =>
      simp at hu; subst hu
      have ha : (((⟨g, 0, none⟩ : Addr).add (i * 1)).add 0) = ⟨g, i, none⟩ := by
        rw [Addr.add_zero, Nat.mul_one]
        cases i with
        | zero => simp [Addr.add]
        | succ n => simp [Addr.add]
      rw [ha, cell_of hh i]
      have h3 : (intVs l)[i]? = some (.int .i64 k) := by simp [intVs, hk]
      rw [← ht, Nat.mul_one, List.getElem?_take] at h3
      split at h3
      · simpa using h3
      · cases h3
    | j + 1, hu => simp at hu
end Go.Proofs.YtkkbkhcapogobaaGreatDoor
