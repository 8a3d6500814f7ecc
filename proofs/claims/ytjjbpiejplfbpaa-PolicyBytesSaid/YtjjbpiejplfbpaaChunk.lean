/- slices.Chunk over bytes, in parts of s bytes each: an iterator. -/
import Derived.Test.YtjjbpiejplfbpaaRnd
import Derived.RangeFuncNested
import Derived.RangeFuncBound
import Derived.RangeFuncCalls
import Derived.RangeFuncLeaves
import Derived.Shelf.Abstract
import Derived.Shelf.RegionOpen
import Derived.WalkKit
import Derived.OwnWalkIn
import Derived.TacticsInMore
import Derived.LoopNIn
import Derived.LoopIn
import Derived.Maps.AppendAt
namespace Go.Proofs.Ytjjbpiejplfbpaa
set_option linter.unusedVariables false
open Go.RowKit Go.Shelf
attribute [local go_sem] Oper.semAt_some

/-- Two blocks are as they were. -/
def Kp2 (B1 B2 : Nat) (W W' : World) : Prop := W'.heap[B1]? = W.heap[B1]? ∧ W'.heap[B2]? = W.heap[B2]?
theorem kp2_t {B1 B2 : Nat} {A B C : World} (h : Kp2 B1 B2 A B) (k : Kp2 B1 B2 B C) : Kp2 B1 B2 A C := ⟨Eq.trans k.1 h.1, Eq.trans k.2 h.2⟩
theorem kp2_b {B1 B2 : Nat} {w : World} (h1 : B1 < w.heap.size) (h2 : B2 < w.heap.size) (W : World) (l : Nat) (o o' : Obj) (hl : w.heap.size ≤ l) (h : W.heap[l]? = some o) (_ : o.isCells = false) (_ : o.isWalk = false) : Kp2 B1 B2 W (W.putObj l o') :=
  ⟨(grownBy_putObj' W l o').block B1 (by have := (Array.getElem?_eq_some_iff.1 h).1; omega) (by intro e; cases e; omega), (grownBy_putObj' W l o').block B2 (by have := (Array.getElem?_eq_some_iff.1 h).1; omega) (by intro e; cases e; omega)⟩
theorem drew_grown (w : World) : w.grownBy w.drew none := ⟨rfl, rfl, rfl, Nat.le_refl _, fun _ _ _ => rfl⟩
theorem cells_drew {w : World} {g : Nat} {cs : Array Value} (h : ∀ i, w.cell? ⟨g, i, none⟩ = cs[i]?) : ∀ i, w.drew.cell? ⟨g, i, none⟩ = cs[i]? := h
/-- The chunk of a number. -/
def encC (b o s q : Nat) (k : Nat) : Array Value := #[.slice (some ⟨b, o + s * min k (q - 1), none⟩) s s]

set_option maxRecDepth 100000 in
set_option maxHeartbeats 4000000 in
theorem chunk1_in (n : Nat) (hn : 1 ≤ n) (l B1 B2 b o m c s q : Nat) (hs : 0 < s) (hs2 : s ≤ 100000) (hm : m = s * q) (hm2 : m ≤ 100000000) (hmc : m ≤ c) (J Jx : List Nat → World → Prop)
    (hJ : ∀ pre W W', J pre W → W.grownBy W' none → J pre W')
    (hY : ∀ pre k W, J pre W → pre.length < q → YieldAt Fence.wide (n - 1) Try.prog l (encC b o s q k) W fun e W' =>
      (e = .returned (.bool true) ∧ J (pre ++ [k]) W' ∧ Kp2 B1 B2 W W') ∨ (e = .returned (.bool false) ∧ Jx (pre ++ [k]) W'))
    (W : World) (hB1 : Blk W B1 39 #[.slice (some ⟨b, o, none⟩) m c]) (hB2 : Blk W B2 3 #[.int .i64 s]) (h0 : J [] W) :
    CallsIn Fence.wide n Try.prog 45 #[.func (.yield l) #[] #[], .pointer (some ⟨B1, 0, none⟩), .pointer (some ⟨B2, 0, none⟩)] W fun e W' => (∃ v, e = .returned v) ∧
      ((∃ ys, ys = List.range q ∧ J ys W') ∨ (∃ pre, True ∧ Jx pre W')) := by
  have hro : Fence.wide.round = none := rfl
  have HM := Lib.hid hm
  have HY := Lib.hid hY
  have HJ := Lib.hid hJ
  clear hm hY hJ
  refine callsIn_of_wp Try.func45 rfl trivial ?_ hro
  simp only [Try.ntmps45, List.size_toArray, List.length_cons, List.length_nil, Nat.reduceAdd, Nat.reduceSub, Array.replicate_succ, Array.replicate_zero, List.push_toArray, List.append_toArray, List.nil_append, List.cons_append]
  gi_wp2
  gi_loopw [4] (fun i wr => ∃ k : Nat, k ≤ q ∧ i = .int .i64 (s * k : Nat) ∧ J (List.range k) wr ∧ Blk wr B1 39 #[.slice (some ⟨b, o, none⟩) m c] ∧ Blk wr B2 3 #[.int .i64 s]) (fun i _ => m - (intOf i).toNat)
  case atStart => exact ⟨0, by omega, rfl, h0, hB1, hB2⟩
  case round =>
    obtain ⟨k, hk, rfl, hJ, hb1, hb2⟩ := hrel
    clear hB1 hB2 h0
    have c1 := hb1.cell
    have c2 := hb2.cell
    by_cases hlt : k < q
    · have hsk : s * k + s ≤ m := by
        rw [HM.out]
        have := Nat.mul_le_mul_left s (show k + 1 ≤ q by omega)
        rw [Nat.mul_succ] at this
        exact this
      have HE := Lib.hid (show encC b o s q k = #[.slice (some ⟨b, o + s * k, none⟩) s s] by unfold encC; rw [Nat.min_eq_left (by omega)])
      generalize hx : s * k = x at *
      have HX := Lib.hid hx
      clear hx
      have hxm : x < m := by omega
      have a1 : ¬ c = x := by omega
      have a2 : min (s : Int) (m - x : Nat) = s := by omega
      have a3 : ((x : Int) + s).toNat = x + s := by omega
      have a4 : ¬ x + s = x := by omega
      have a5 : x + s - x = s := by omega
      have HN := Lib.hid (show s * (k + 1) = x + s by rw [Nat.mul_succ, HX.out])
      have HK := Lib.hid (show List.range (k + 1) = List.range k ++ [k] from List.range_succ)
      have hyk := HY.out (List.range k) k wr.drew (HJ.out _ _ _ hJ (drew_grown wr)) (by simpa using hlt)
      rw [HE.out] at hyk
      obtain ⟨fn, tmps, assign, body, hy, hR⟩ := hyk
      gi_wp2
      gi_region
      gi_wp2
      refine hR.mono ?_
      rintro e W3 (⟨rfl, hJ3, hk3⟩ | ⟨rfl, hJx3⟩)
      · have hb13 : Blk W3 B1 39 #[.slice (some ⟨b, o, none⟩) m c] := Eq.trans hk3.1 hb1
        have hb23 : Blk W3 B2 3 #[.int .i64 s] := Eq.trans hk3.2 hb2
        have d2 := hb23.cell
        clear c1 c2
        gi_wp2
        go_roundw
        case rel => exact ⟨k + 1, by omega, by rw [HN.out]; go_num, by rw [HK.out]; exact hJ3, hb13, hb23⟩
        case measure => simp [intOf]; omega
      · gi_wp2
        refine bodyPost_ret (results_none rfl _ _ _) rfl ?_
        exact ⟨⟨_, rfl⟩, .inr ⟨_, trivial, hJx3⟩⟩
    · obtain rfl : k = q := by omega
      rw [← HM.out]
      gi_wp2
      go_end0
      exact ⟨⟨_, rfl⟩, .inl ⟨_, rfl, hJ⟩⟩

theorem chunk_stops (n : Nat) (hn : 1 ≤ n) (B1 B2 b o m c s q : Nat) (hs : 0 < s) (hs2 : s ≤ 100000) (hm : m = s * q) (hm2 : m ≤ 100000000) (hmc : m ≤ c) (w : World) (hB1 : Blk w B1 39 #[.slice (some ⟨b, o, none⟩) m c]) (hB2 : Blk w B2 3 #[.int .i64 s]) :
    SeqStopsK Fence.wide n Try.prog 45 #[.pointer (some ⟨B1, 0, none⟩), .pointer (some ⟨B2, 0, none⟩)] (encC b o s q) (Kp2 B1 B2) (fun ys => ys = List.range q) (fun _ => True) q w := fun l J Jx W hW hJ _ hY h0 =>
  chunk1_in n hn l B1 B2 b o m c s q hs hs2 hm hm2 hmc J Jx (fun pre X Y h hg => hJ pre X Y none h hg (fun r e => by cases e)) hY W (hB1.kept hW) (hB2.kept hW) h0

set_option maxHeartbeats 1000000 in
theorem chunk_in (n : Nat) (A : Option Addr) (m c s : Nat) (hs : 0 < s) (w : World) :
    CallsIn Fence.wide n Try.prog 32 #[.slice A m c, .int .i64 s] w fun e w' => e = .returned (.func (.func 45) #[] #[.pointer (some ⟨w.heap.size, 0, none⟩), .pointer (some ⟨w.heap.size + 1, 0, none⟩)]) ∧
      w' = (w.alloc (.cells #[.slice A m c] 39)).alloc (.cells #[.int .i64 s] 3) := by
  have h1 : ¬ (s : Int) < 1 := by omega
  refine callsIn_of_wp Try.func32 rfl trivial ?_ rfl
  simp only [Try.ntmps32, List.size_toArray, List.length_cons, List.length_nil, Nat.reduceAdd, Nat.reduceSub, Array.replicate_succ, Array.replicate_zero, List.push_toArray, List.append_toArray, List.nil_append, List.cons_append]
  gi_wp2
  go_ret
  exact ⟨rfl, rfl⟩
end Go.Proofs.Ytjjbpiejplfbpaa
