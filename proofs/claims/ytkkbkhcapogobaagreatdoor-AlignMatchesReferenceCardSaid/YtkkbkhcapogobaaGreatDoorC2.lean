/- Contracts: package script: the iterator over letters, Letters, Fold. -/
import Derived.Test.YtkkbkhcapogobaaGreatDoorC1
import Derived.RangeFuncNested
import Derived.RangeFuncBound
import Derived.RangeFuncCalls
import Derived.RangeFuncLeaves
import Derived.Shelf.Abstract
import Derived.Shelf.RegionOpen
import Derived.OwnWalkIn
import Derived.TacticsInMore
import Derived.LoopNIn
import Derived.LoopIn
namespace Go.Proofs.YtkkbkhcapogobaaGreatDoor
open Go Go.RowKit Go.Lib Go.Proofs S Go.Shelf
set_option linter.unusedVariables false
set_option linter.unusedSimpArgs false
attribute [local go_sem] Oper.semAt_some

/-- The string with a list of bytes. -/
abbrev B (l : Str) : ByteArray := ⟨⟨l⟩⟩
theorem B_data (s : ByteArray) : B s.data.toList = s := rfl
theorem extract_take (s : ByteArray) (n : Nat) (h : n ≤ s.size) : s.extract 0 n = B (s.data.toList.take n) := by
  rw [← B_data (s.extract 0 n), Lib.extract_data]; simp
theorem extract_drop (s : ByteArray) (n : Nat) : s.extract n s.size = B (s.data.toList.drop n) := by
  rw [← B_data (s.extract n s.size), Lib.extract_data]
  congr 2
  rw [List.take_of_length_le (by simp)]

/-- script.letters: the parameters lie in boxes that the iterator captures. -/
theorem lettersIt_any (k : Int) (s : ByteArray) (w : World) :
    Calls Tryz.prog 53 #[.int .i64 k, .string s] w fun e w' => e = .returned (.func (.func 66) #[] #[.pointer (some ⟨w.heap.size, 0, none⟩), .pointer (some ⟨w.heap.size + 1, 0, none⟩)]) ∧
      (w.alloc (.cells #[.int .i64 k] 3)).alloc (.cells #[.string s] 9) = w' := by
  go_enter Tryz.func53, Tryz.ntmps53
  go_wp2
  go_ret
  exact ⟨rfl, rfl⟩

def piecesB (k : Int) (l : Str) : List ByteArray := (pieces k l).map B
theorem piecesB_some {k : Int} {l : Str} (h : lenL k l ≠ 0) : piecesB k l = B (l.take (lenL k l)) :: piecesB k (l.drop (lenL k l)) := by
  unfold piecesB; rw [(pieces_some h).1]; rfl
theorem piecesB_none {k : Int} {l : Str} (h : lenL k l = 0) : piecesB k l = [] := by
  unfold piecesB; rw [(pieces_none h).1]; rfl

/-- How long the string in a cell is. -/
def strLen : Option Value → Nat
  | some (.string s) => s.size
  | _ => 0

set_option maxRecDepth 100000 in
set_option maxHeartbeats 2000000 in
/-- The iterator yields the letters with which the word begins. -/
theorem letters_iter (k : Int) (s : ByteArray) (hs : s.size ≤ 140737488351232) (Bk Bs : Nat) (hne : Bk ≠ Bs) (wd w0 : World) (hT : Tabs wd) (hd : Below wd.heap.size wd w0) (hBk : wd.heap.size ≤ Bk) (hBs : wd.heap.size ≤ Bs)
    (hk : Boxed w0 Bk 3 (.int .i64 k)) (hb : Boxed w0 Bs 9 (.string s)) :
    IterAt Tryz.prog 66 #[.pointer (some ⟨Bk, 0, none⟩), .pointer (some ⟨Bs, 0, none⟩)] (fun x : ByteArray => #[.string x]) (piecesB k s.data.toList) (fun b => b = Bs) (fun b => b < wd.heap.size ∨ b = Bk ∨ b = Bs) w0 := by
  intro l J Jx W hW hJ hJx hY h0
  have hkW : Boxed W Bk 3 (.int .i64 k) := hW.boxed hk (by have := hk.lt; omega)
  have hbW : Boxed W Bs 9 (.string s) := hW.boxed hb (by have := hb.lt; omega)
  have hdW : Below wd.heap.size wd W := hd.trans ((hW.below (fun _ h => h) (Nat.le_refl _)).mono hd.size)
  clear hk hb hd hW
  have hsz : wd.heap.size ≤ W.heap.size := hdW.size
  refine (callsIn_wide (n := 4)).1 ?_
  refine callsIn_of_wp Tryz.func66 rfl trivial ?_ rfl
  simp only [Tryz.ntmps66, List.size_toArray, List.length_cons, List.length_nil, Nat.reduceAdd, Nat.reduceSub, Array.replicate_succ, Array.replicate_zero, List.push_toArray, List.append_toArray, List.nil_append, List.cons_append]
  have hck := hkW.cell
  have hcs := hbW.cell
  gi_wp2_with (refine ⟨trivial, ?_⟩; gi_at_call 67; (with_reducible refine (callsIn_wide.2 (length_any _ _ _ hs (hT.below hdW))).mono ?_); rintro e w1 ⟨rfl, hb1⟩)
  gi_loopw [4] (fun n wr => ∃ (pre : List ByteArray) (cur : ByteArray), n = .int .i64 (lenL k cur.data.toList) ∧ cur.size ≤ s.size ∧ piecesB k s.data.toList = pre ++ piecesB k cur.data.toList ∧ J pre wr ∧ Boxed wr Bk 3 (.int .i64 k) ∧ Boxed wr Bs 9 (.string cur) ∧ Below wd.heap.size wd wr)
    (fun _ wr => strLen (wr.cell? ⟨Bs, 0, none⟩))
  case atStart => exact ⟨[], s, rfl, Nat.le_refl _, rfl, hJ _ _ _ h0 (hb1.mod _), (hb1.mod (fun _ => False)).boxed hkW (fun h => h), (hb1.mod (fun _ => False)).boxed hbW (fun h => h), below_ext hdW hsz hb1⟩
  case round =>
    obtain ⟨pre, cur, rfl, hcur, hp, hJr, hkr, hbr, hdr⟩ := hrel
    clear hck hcs hkW hbW hdW hb1 h0
    have hck := hkr.cell
    have hcs := hbr.cell
    have hfs := hbr.frozen
    have hle := lenL_le k cur.data.toList
    have hps := piecesB_some (k := k) (l := cur.data.toList)
    have hpn := piecesB_none (k := k) (l := cur.data.toList)
    by_cases hz : lenL k cur.data.toList = 0
    · rw [hpn hz, List.append_nil] at hp
      clear hps hpn hle
      gi_wp2
      refine ⟨fun _ h => (by cases h), ?_⟩
      gi_wp2
      go_end0
      exact ⟨⟨_, rfl⟩, .inl (by rw [hp]; exact hJr)⟩
    · have hp2 := hp
      rw [hps hz] at hp2
      clear hpn hps
      have hx : cur.extract 0 (lenL k cur.data.toList) = B (cur.data.toList.take (lenL k cur.data.toList)) := extract_take _ _ (by simpa using hle)
      have hy0 := hY pre _ _ wr hp2 hJr
      rw [← hx] at hy0 hp2
      have hd := extract_drop cur (lenL k cur.data.toList)
      rw [show cur.data.toList.drop (lenL k cur.data.toList) = (B (cur.data.toList.drop (lenL k cur.data.toList))).data.toList from rfl, ← hd] at hp2
      have hpos : 0 < lenL k cur.data.toList := by omega
      have hle2 : lenL k cur.data.toList ≤ cur.size := by simpa using hle
      clear hx hd hz hle hY
      generalize hn : lenL k cur.data.toList = n at hy0 hp2 hpos hle2 ⊢
      clear hn
      have HS0 : Hid (strLen (wr.cell? ⟨Bs, 0, none⟩) = cur.size) := by rw [hcs]; exact Lib.hid rfl
      have hmv : ∀ W3, Mod (fun k => ¬(k < wd.heap.size ∨ k = Bk ∨ k = Bs)) wr W3 → Boxed W3 Bk 3 (.int .i64 k) ∧ Boxed W3 Bs 9 (.string cur) ∧ Below wd.heap.size wd W3 := fun W3 hm =>
        ⟨hm.boxed hkr (by simp), hm.boxed hbr (by simp), hm.below_trans hdr hdr.size (fun i hi h => h (.inl hi))⟩
      obtain ⟨fn, tmps, assign, body, hy, hR⟩ := hy0
      gi_wp2
      refine hR.mono ?_
      rintro e W3 (⟨rfl, hJ3, hm3⟩ | ⟨rfl, hJx3⟩)
      · obtain ⟨hk3, hb3, hd3⟩ := hmv W3 hm3
        clear hm3 hmv hck hcs hfs hR hy hkr hbr hdr hJr
        have hck := hk3.cell
        have hcs := hb3.cell
        have hfs := hb3.frozen
        have hst : (W3.setCell ⟨Bs, 0, none⟩ (.string (cur.extract n cur.size))).cell? ⟨Bs, 0, none⟩ = some (.string (cur.extract n cur.size)) := World.cell?_setCell_same' _ _ _ (by rw [hcs]; rfl)
        have hb4 := hb3.set (.string (cur.extract n cur.size))
        have hk4 : Boxed (W3.setCell ⟨Bs, 0, none⟩ (.string (cur.extract n cur.size))) Bk 3 (.int .i64 k) := hk3.other hne _
        have hd4 : Below wd.heap.size wd (W3.setCell ⟨Bs, 0, none⟩ (.string (cur.extract n cur.size))) := hd3.setCell (p := ⟨Bs, 0, none⟩) hBs _
        have hck4 := hk4.cell
        have hsz4 : (cur.extract n cur.size).size ≤ 140737488351232 := by simp; omega
        gi_wp2_with (refine ⟨trivial, ?_⟩; gi_at_call 67; (with_reducible refine (callsIn_wide.2 (length_any _ _ _ hsz4 (hT.below hd4))).mono ?_); rintro e w1 ⟨rfl, hb1⟩)
        go_roundw
        case rel => exact ⟨pre ++ [cur.extract 0 n], cur.extract n cur.size, by rw [Lib.extract_data], by simp; omega, by rw [hp2]; simp, hJ _ _ _ hJ3 (((Mod.refl (fun b => b = Bs) W3).setCell (p := ⟨Bs, 0, none⟩) (.inl rfl) _).ext hb1), (hb1.mod (fun _ => False)).boxed hk4 (fun h => h), (hb1.mod (fun _ => False)).boxed hb4 (fun h => h), below_ext hd4 (by have := hd4.size; omega) hb1⟩
        case measure =>
          rw [HS0.out, ((hb1.mod (fun _ => False)).boxed hb4 (fun h => h)).cell]
          simp [strLen]; omega
      · gi_wp2
        go_end0
        exact ⟨⟨_, rfl⟩, .inr ⟨_, ⟨_, by rw [hp2, List.append_assoc]; rfl⟩, hJx3⟩⟩
end Go.Proofs.YtkkbkhcapogobaaGreatDoor
