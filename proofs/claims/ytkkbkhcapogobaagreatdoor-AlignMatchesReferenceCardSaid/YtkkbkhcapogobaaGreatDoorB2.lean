/- Base words: a region that draws its order, within a round of a range over a function: walked as everywhere. -/
import Derived.Test.YtkkbkhcapogobaaGreatDoorB1
import Derived.OrdersIn
import Derived.RegionTactic
import Derived.Deep.RegionLaw
namespace Go.Proofs.YtkkbkhcapogobaaGreatDoor
open Go Go.RowKit
set_option linter.unusedVariables false
variable {P : Program} {ops : Array Oper} {Q : Exit → Act → World → Prop}

def noDefer (ops : Array Oper) : Bool := ops.all fun o => match o.op with | .defer _ => false | _ => true
theorem noDefer_spec (h : noDefer ops = true) {i : Nat} {o : Oper} (hi : ops[i]? = some o) : ∀ c, o.op ≠ .defer c := by
  intro c hc
  have hm : o ∈ ops.toList := by
    obtain ⟨h1, h2⟩ := Array.getElem?_eq_some_iff.1 hi
    rw [← h2]; exact Array.mem_toList_iff.2 (Array.getElem_mem h1)
  unfold noDefer at h
  rw [← Array.all_toList] at h
  have := List.all_eq_true.1 h o hm
  rw [hc] at this
  cases this

theorem upon_in {r : Option Nat} {n : Nat} {o : Oper} {a : Act} {next next' : Act → World → Prop} (hn : ∀ a w, next a w → next' a w) {res : Result Next} (h : o.upon P a next Q res) : o.uponIn (WF r) n P a next' Q res := by
  have hd : (WF r).depth.isSome = true → 1 ≤ n := fun h => by simp [Fence.wide] at h
  unfold Oper.upon at h
  unfold Oper.uponIn
  split at h
  · exact hn _ _ h
  · exact hn _ _ h
  · exact hn _ _ h
  · refine ⟨hd, trivial, fun cs _ => ?_⟩
    obtain ⟨e, w', fr, hR, hc, hf⟩ := h cs
    refine ⟨e, w', fr, ?_, (comesIn_wide (P := P)).2 hc, hf⟩
    cases e with
    | returned v => exact hn _ _ hR
    | panicked c => exact hR
    | outgrown => exact hR
  · refine ⟨hd, fun c cs _ => ?_⟩
    obtain ⟨v, w', hR, hs⟩ := h c cs
    exact ⟨v, w', hn _ _ hR, (stepsIn_wide (P := P)).2 hs⟩
  · exact h
  · exact h.elim

theorem wpOpIn_of_out {r : Option Nat} {n i : Nat} {a : Act} {w : World} {next next' : Act → World → Prop} (hQ : ∀ a w, ¬ Q .outgrown a w) (hd : noDefer ops = true) (hn : ∀ a w, next a w → next' a w) (h : wpOp P ops Q i next a w) : wpOpIn (WF r) n P ops Q i next' a w := by
  unfold wpOp at h
  unfold wpOpIn
  cases hi : ops[i]? with
  | none => simp only [hi] at h ⊢; exact hn _ _ h
  | some o =>
    simp only [hi] at h ⊢
    split
    · rename_i hw
      rw [if_pos hw] at h
      refine ⟨fun _ _ => trivial, ?_⟩
      rw [Oper.semAt_eq _ _ _ (noDefer_spec hd hi)]
      rcases h with h | ⟨_, a₀, w₀, h⟩
      · exact upon_in hn h
      · exact absurd h (hQ _ _)
    · rename_i hw
      rw [if_neg hw] at h
      exact ⟨fun _ _ => trivial, hn _ _ h⟩

theorem wpAnyIn_of_out {r : Option Nat} {n : Nat} {md : Region.Mode} (hQ : ∀ a w, ¬ Q .outgrown a w) (hd : noDefer ops = true) : ∀ (fuel : Nat) (listed : Array Bool) (a : Act) (w : World), wpAny P md ops Q fuel listed a w → wpAnyIn (WF r) n P md ops Q fuel listed a w
  | 0, _, _, _, h => h
  | fuel + 1, listed, a, w, h => ⟨h.1, fun i hi => wpOpIn_of_out hQ hd (fun a w => wpAnyIn_of_out hQ hd fuel _ a w) (h.2 i hi)⟩

/-- A region that draws, in a round or not. -/
theorem wpIn_region_out {r : Option Nat} {n id : Nat} {a : Act} {w : World} (hm : P.follows .mixedOrders = true) (hQ : ∀ a w, ¬ Q .outgrown a w) (hd : noDefer ops = true)
    (h : wpAny P .any ops Q ops.size (Array.replicate ops.size false) a w.drew) : (Code.region id ops true).wpIn (WF r) n P Q a w :=
  wpIn_region_any hm (wpAnyIn_of_out hQ hd _ _ _ _ h)
theorem wpOpsIn_of_out {r : Option Nat} {n : Nat} (hQ : ∀ a w, ¬ Q .outgrown a w) (hd : noDefer ops = true) : ∀ (l : List Nat) (a : Act) (w : World), wpOps P ops Q l a w → wpOpsIn (WF r) n P ops Q l a w
  | [], a, w, h => h
  | i :: l, a, w, h => by
    unfold wpOps at h
    unfold wpOpsIn
    exact wpOpIn_of_out hQ hd (fun a w h => wpOpsIn_of_out hQ hd l a w h) h
/-- A region in the order of its text, within a round: walked as everywhere. -/
theorem wpIn_region_plain {r : Option Nat} {n id : Nat} {l : List Oper} {a : Act} {w : World} (hQ : ∀ a w, ¬ Q .outgrown a w) (hd : noDefer l.toArray = true)
    (h : wpList P l.toArray Q l a w) : (Code.region id l.toArray false).wpIn (WF r) n P Q a w := by
  refine wpIn_region (wpOpsIn_of_out hQ hd _ _ _ ?_)
  rw [List.range_eq_range', ← Array.length_toList, wpOps_eq_wpList (P := P) (ops := l.toArray) l.toArray.toList 0 (by simp)]
  simpa using h
end Go.Proofs.YtkkbkhcapogobaaGreatDoor
