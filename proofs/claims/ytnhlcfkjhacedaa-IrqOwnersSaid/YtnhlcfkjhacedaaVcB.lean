/- Chapter 21, the bits that are set: an iterator. -/
import Derived.Test.YtnhlcfkjhacedaaVcA
import Derived.RangeFuncNested
import Derived.RangeFuncBound
import Derived.RangeFuncCalls
import Derived.RangeFuncLeaves
import Derived.Shelf.Abstract
import Derived.Shelf.RegionOpen
import Derived.WalkKit
import Derived.OwnWalkIn
import Derived.TacticsInMore
import Derived.LoopNIn
import Derived.LoopIn
import Derived.Maps.AppendAt
namespace Go.Proofs.Ytnhlcfkjhacedaa
set_option linter.unusedVariables false
open Go.RowKit Go.Shelf
attribute [local go_sem] Oper.semAt_some

def bitsI (x : Int) : Nat → List Int
  | 0 => []
  | k + 1 => if bitN x k then bitsI x k ++ [(k : Int)] else bitsI x k
theorem bitsI_len (x : Int) : ∀ k, (bitsI x k).length ≤ k
  | 0 => Nat.le_refl _
  | k + 1 => by
    have := bitsI_len x k
    unfold bitsI
    split
    · simp; omega
    · omega
def KpB (Bn : Nat) (W W' : World) : Prop := W'.heap[Bn]? = W.heap[Bn]?
theorem kpB_t {Bn : Nat} {A B C : World} (h : KpB Bn A B) (k : KpB Bn B C) : KpB Bn A C := Eq.trans k h
theorem kpB_b {Bn : Nat} {w : World} (hn : Bn < w.heap.size) (W : World) (l : Nat) (o o' : Obj) (hl : w.heap.size ≤ l) (h : W.heap[l]? = some o) (_ : o.isCells = false) (_ : o.isWalk = false) : KpB Bn W (W.putObj l o') :=
  (grownBy_putObj' W l o').block Bn (by have := (Array.getElem?_eq_some_iff.1 h).1; omega) (by intro e; cases e; omega)

set_option maxRecDepth 100000 in
set_option maxHeartbeats 2000000 in
theorem set1_in (F : Fence) (n : Nat) (hf : F.fn 45) (hro : F.round = none) (hn : 1 ≤ n) (l Bn : Nat) (x : Int) (hx0 : 0 ≤ x) (hx1 : x < 4294967296) (J Jx : List Int → World → Prop)
    (hY : ∀ pre v W, J pre W → pre.length < 32 → YieldAt F (n - 1) Try.prog l #[.int .i64 v] W fun e W' =>
      (e = .returned (.bool true) ∧ J (pre ++ [v]) W' ∧ KpB Bn W W') ∨ (e = .returned (.bool false) ∧ Jx (pre ++ [v]) W'))
    (W : World) (hB : Boxed W Bn 22 (.int .u32 x)) (h0 : J [] W) :
    CallsIn F n Try.prog 45 #[.func (.yield l) #[] #[], .pointer (some ⟨Bn, 0, none⟩)] W fun e W' => (∃ v, e = .returned v) ∧
      ((∃ ys, ys = bitsI x 32 ∧ J ys W') ∨ (∃ pre, True ∧ Jx pre W')) := by
  refine callsIn_of_wp Try.func45 rfl hf ?_ hro
  simp only [Try.ntmps45, List.size_toArray, List.length_cons, List.length_nil, Nat.reduceAdd, Nat.reduceSub, Array.replicate_succ, Array.replicate_zero, List.push_toArray, List.append_toArray, List.nil_append, List.cons_append]
  gi_wp2
  gi_loopw [3, 4] (fun _ i wr => ∃ k : Nat, k ≤ 32 ∧ i = .int .i64 k ∧ J (bitsI x k) wr ∧ Boxed wr Bn 22 (.int .u32 x)) (fun _ i _ => 32 - (intOf i).toNat)
  case atStart => exact ⟨0, by omega, rfl, h0, hB⟩
  case round =>
    obtain ⟨k, hk, rfl, hJ, hbx⟩ := hrel
    have hc := hbx.cell
    by_cases hlt : k < 32
    · have hbk := bit_and x hx0 hx1 k
      by_cases hbit : x / 2 ^ k % 2 = 1
      · have e0 : (bits .and .u32 (x / 2 ^ k) 1 == 1) = true := by rw [hbk, hbit]; rfl
        have hS : bitsI x (k + 1) = bitsI x k ++ [(k : Int)] := by rw [bitsI, if_pos (by simpa [bitN] using hbit)]
        obtain ⟨fn, tmps, assign, body, hy, hR⟩ := hY (bitsI x k) k wr hJ (by have := bitsI_len x k; omega)
        clear hbk hbit
        gi_wp2
        refine hR.mono ?_
        rintro e W3 (⟨rfl, hJ3, hk3⟩ | ⟨rfl, hJx3⟩)
        · gi_wp2
          go_roundw
          case rel => exact ⟨k + 1, by omega, by go_num, by rw [hS]; exact hJ3, Eq.trans hk3 hbx⟩
          case measure => simp [intOf]; omega
        · gi_wp2
          refine bodyPost_ret (results_none rfl _ _ _) rfl ?_
          exact ⟨⟨_, rfl⟩, .inr ⟨_, trivial, hJx3⟩⟩
      · have e0 : (bits .and .u32 (x / 2 ^ k) 1 == 1) = false := by rw [hbk]; simpa using hbit
        have hS : bitsI x (k + 1) = bitsI x k := by rw [bitsI, if_neg (by simpa [bitN] using hbit)]
        clear hbk hbit
        gi_wp2
        refine ⟨fun _ h => (by cases h), ?_⟩
        gi_wp2
        go_roundw
        case rel => exact ⟨k + 1, by omega, by go_num, by rw [hS]; exact hJ, hbx⟩
        case measure => simp [intOf]; omega
    · obtain rfl : k = 32 := by omega
      gi_wp2
      go_end0
      exact ⟨⟨_, rfl⟩, .inl ⟨_, rfl, hJ⟩⟩

set_option maxHeartbeats 1000000 in
theorem set_in (F : Fence) (n : Nat) (hf : F.fn 32) (hro : F.round = none) (x : Int) (w : World) :
    CallsIn F n Try.prog 32 #[.int .u32 x] w fun e w' => e = .returned (.func (.func 45) #[] #[.pointer (some ⟨w.heap.size, 0, none⟩)]) ∧ w' = w.alloc (.cells #[.int .u32 x] 22) := by
  refine callsIn_of_wp Try.func32 rfl hf ?_ hro
  simp only [Try.ntmps32, List.size_toArray, List.length_cons, List.length_nil, Nat.reduceAdd, Nat.reduceSub, Array.replicate_succ, Array.replicate_zero, List.push_toArray, List.append_toArray, List.nil_append, List.cons_append]
  gi_wp2
  go_ret
  exact ⟨rfl, rfl⟩
theorem set_stops (F : Fence) (n : Nat) (hf : F.fn 45) (hro : F.round = none) (hn : 1 ≤ n) (Bn : Nat) (x : Int) (hx0 : 0 ≤ x) (hx1 : x < 4294967296) (w : World) (hB : Boxed w Bn 22 (.int .u32 x)) :
    SeqStopsK F n Try.prog 45 #[.pointer (some ⟨Bn, 0, none⟩)] (fun x : Int => #[Value.int .i64 x]) (KpB Bn) (fun ys => ys = bitsI x 32) (fun _ => True) 32 w := fun l J Jx W hW _ _ hY h0 =>
  set1_in F n hf hro hn l Bn x hx0 hx1 J Jx hY W ((hW.block Bn hB.lt).trans hB) h0
end Go.Proofs.Ytnhlcfkjhacedaa
