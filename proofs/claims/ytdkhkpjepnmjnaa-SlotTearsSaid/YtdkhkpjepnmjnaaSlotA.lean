/- Chapter 12, the slots: the sum of a record, its words. -/
import Derived.Test.YtdkhkpjepnmjnaaRegions
namespace Go.Proofs.Ytdkhkpjepnmjnaa
set_option linter.unusedVariables false
open Go.RowKit Go.Sort

def mixN (x v : Int) : Int :=
  (bits BinOp.or IntKind.u32 (bits BinOp.xor IntKind.u32 x v * 2654435761 % 4294967296 * 32768 % 4294967296) (bits BinOp.xor IntKind.u32 x v * 2654435761 % 4294967296 / 131072) + v) % 4294967296
theorem mixN_bd (x v : Int) : 0 ≤ mixN x v ∧ mixN x v < 4294967296 := by unfold mixN; omega

set_option maxHeartbeats 400000 in
theorem refMix_any (x v : Int) (h0 : 0 ≤ x) (h1 : x < 4294967296) (k0 : 0 ≤ v) (k1 : v < 4294967296) (w : World) :
    Calls Try.prog 53 #[.int .u32 x, .int .u32 v] w fun e w' => e = .returned (.int .u32 (mixN x v)) ∧ w = w' := by
  go_enter Try.func53, Try.ntmps53
  go_wp2
  go_ret
  exact ⟨rfl, rfl⟩

def encW (x : Int) : List Value := [.int .u32 x]

set_option maxHeartbeats 400000 in
theorem mixed_any (x : Int) (h0 : 0 ≤ x) (h1 : x < 4294967296) (A : Option Addr) (n c : Nat) (l : List Int) (hl : l.length = n) (hn : n ≤ 9223372036854775807) (hat : ∀ v ∈ l, 0 ≤ v ∧ v < 4294967296)
    (w : World) (hr : Rd w w.heap.size 1 A n (l.flatMap encW)) :
    Calls Try.prog 52 #[.int .u32 x, .slice A n c] w fun e w' => e = .returned (.int .u32 (l.foldl mixN x)) ∧ w = w' := by
  go_enter Try.func52, Try.ntmps52
  go_wp2
  go_loop [0, 6, 9] (fun s _ i => ∃ k : Nat, k ≤ n ∧ i = .int .i64 k ∧ ∃ y : Int, s = .int .u32 y ∧ y = (l.take k).foldl mixN x ∧ 0 ≤ y ∧ y < 4294967296) (fun _ _ i => n - (intOf i).toNat)
  case atStart => exact ⟨0, by omega, rfl, x, rfl, rfl, h0, h1⟩
  case round =>
    obtain ⟨k, hk, rfl, y, rfl, hy, hy0, hy1⟩ := hrel
    have HY := Lib.hid hy
    clear hy
    by_cases hlt : k < n
    · have hlt' : k < l.length := by omega
      obtain ⟨b, off, rfl, hbb, hc⟩ := hr.row (fun _ => rfl) hlt' hl
      have c0 := hc 0 (by omega)
      simp only [encW, Nat.add_zero, Nat.mul_one] at c0
      obtain ⟨v0, v1⟩ := hat _ (List.getElem_mem hlt')
      have HT := Lib.hid (List.take_succ_eq_append_getElem hlt')
      clear hc hat hr
      generalize l[k] = v at *
      have bd := mixN_bd y v
      have h15 : bits BinOp.and IntKind.u64 15 31 = 15 := by decide +kernel
      go_wp2
      go_round
      case rel => exact ⟨k + 1, by omega, by go_num, _, rfl, by rw [HT.out, List.foldl_append, ← HY.out]; rfl, bd.1, bd.2⟩
      case measure => simp [intOf]; omega
    · go_wp2
      go_ret
      exact ⟨ret_int' (by rw [HY.out, List.take_of_length_le (by omega)]), rfl⟩

/-- The sum of a record. -/
def checkN (id q v : Int) : Int := mixN (mixN (mixN 1853252468 (id % 4294967296)) q) v
theorem checkN_bd (id q v : Int) : 0 ≤ checkN id q v ∧ checkN id q v < 4294967296 := mixN_bd _ _

set_option maxHeartbeats 400000 in
theorem check_any (id q v : Int) (h0 : 0 ≤ q) (h1 : q < 4294967296) (k0 : 0 ≤ v) (k1 : v < 4294967296) (w : World) :
    Calls Try.prog 27 #[.int .i64 id, .agg #[.int .u32 q, .int .u32 v]] w fun e w' => e = .returned (.int .u32 (checkN id q v)) ∧ Below w.heap.size w w' := by
  go_enter Try.func27, Try.ntmps27
  go_wp2_with (go_at_call 52; refine (mixed_any _ (by decide) (by decide) _ 3 3 [id % 4294967296, q, v] rfl (by decide) (by simp; omega) _ (Rd.fresh _ _ _ 3 1 _ rfl)).mono ?_; rintro e w1 ⟨rfl, rfl⟩)
  go_ret
  exact ⟨rfl, ((Below.refl _ _).alloc (Nat.le_refl _) _).alloc (by simp) _⟩

set_option maxHeartbeats 400000 in
theorem refCheck_any (id q v : Int) (h0 : 0 ≤ q) (h1 : q < 4294967296) (k0 : 0 ≤ v) (k1 : v < 4294967296) (w : World) :
    Calls Try.prog 28 #[.int .i64 id, .agg #[.int .u32 q, .int .u32 v]] w fun e w' => e = .returned (.int .u32 (checkN id q v)) ∧ Below w.heap.size w w' := by
  have b1 := mixN_bd 1853252468 (id % 4294967296)
  have b2 := mixN_bd (mixN 1853252468 (id % 4294967296)) q
  go_enter Try.func28, Try.ntmps28
  go_wp2
  go_quiet ((go_at_call 53; exact Calls.quiet_of_same ((refMix_any _ _ (by omega) (by omega) (by omega) (by omega) _).mono fun _ _ ⟨a, b⟩ => ⟨a, b.symm⟩)))
  go_wp2
  go_ret
  exact ⟨rfl, below_drewN ((Below.refl _ _).alloc (Nat.le_refl _) _) _⟩

set_option maxHeartbeats 400000 in
theorem words_any (id q v : Int) (h0 : 0 ≤ q) (h1 : q < 4294967296) (k0 : 0 ≤ v) (k1 : v < 4294967296) (w : World) :
    Calls Try.prog 26 #[.int .i64 id, .agg #[.int .u32 q, .int .u32 v]] w fun e w' => e = .returned (.agg #[.int .u32 3282393660, .int .u32 q, .int .u32 v, .int .u32 (checkN id q v)]) ∧ Below w.heap.size w w' := by
  go_enter Try.func26, Try.ntmps26
  go_wp2
  refine wp_name ?_
  intro w1 hw1
  have hb1 : RowKit.Below w.heap.size w w1 := by rw [hw1]; exact ((Below.refl _ _).alloc (Nat.le_refl _) _).alloc (by simp) _
  have hA : Blk w1 w.heap.size 39 #[.int .u32 q, .int .u32 v] := by rw [hw1]; exact (Blk.new _ _ _).alloc _
  have hB : Blk w1 (w.heap.size + 1) 40 #[.int .u32 0, .int .u32 0, .int .u32 0, .int .u32 0] := by rw [hw1]; exact Blk.fresh _ _ _
  clear hw1
  refine wp_region_tail_below 8 (by kernel_rfl) (by kernel_rfl) ?_
  have e0 := blk_regrown hA
  simp only [List.take_succ_cons, List.take_zero, List.drop_succ_cons, List.drop_zero]
  repeat (quiet_step ((go_at_call 27; exact regrown (check_any _ _ _ h0 h1 k0 k1 _))))
  refine wpQuiet_nil ?_
  rintro w2 ⟨p, rfl⟩
  have hb2 := below_regrown w1 p.d p.os
  generalize grow (redrawn w1 p.d) p.os = w2 at hb2 ⊢
  have hB2 := hB.kept hb2
  have c2 := hB2.cell
  have f2 := hB2.frozen
  clear e0 hA hB
  go_wp2
  have c3 := ((((hB2.set_ 0 (.int .u32 3282393660)).set_ 1 (.int .u32 q)).set_ 2 (.int .u32 v)).set_ 3 (.int .u32 (checkN id q v))).cell
  refine bodyPost_ret (v := .agg #[.int .u32 3282393660, .int .u32 q, .int .u32 v, .int .u32 (checkN id q v)]) (by simp [results, Try.results26, go_sem, c3]) rfl ⟨rfl, ?_⟩
  exact (hb1.trans (hb2.mono hb1.size)).setCell (by simp) _ |>.setCell (by simp) _ |>.setCell (by simp) _ |>.setCell (by simp) _
set_option maxHeartbeats 400000 in
theorem refWords_any (id q v : Int) (h0 : 0 ≤ q) (h1 : q < 4294967296) (k0 : 0 ≤ v) (k1 : v < 4294967296) (w : World) :
    Calls Try.prog 29 #[.int .i64 id, .agg #[.int .u32 q, .int .u32 v]] w fun e w' => e = .returned (.agg #[.int .u32 3282393660, .int .u32 q, .int .u32 v, .int .u32 (checkN id q v)]) ∧ Below w.heap.size w w' := by
  go_enter Try.func29, Try.ntmps29
  go_wp2
  refine wp_name ?_
  intro w1 hw1
  have hb1 : RowKit.Below w.heap.size w w1 := by rw [hw1]; exact ((Below.refl _ _).alloc (Nat.le_refl _) _).alloc (by simp) _
  have hA : Blk w1 w.heap.size 39 #[.int .u32 q, .int .u32 v] := by rw [hw1]; exact (Blk.new _ _ _).alloc _
  have hB : Blk w1 (w.heap.size + 1) 40 #[.int .u32 0, .int .u32 0, .int .u32 0, .int .u32 0] := by rw [hw1]; exact Blk.fresh _ _ _
  clear hw1
  refine wp_region_tail_below 8 (by kernel_rfl) (by kernel_rfl) ?_
  have e0 := blk_regrown hA
  simp only [List.take_succ_cons, List.take_zero, List.drop_succ_cons, List.drop_zero]
  repeat (quiet_step ((go_at_call 28; exact regrown (refCheck_any _ _ _ h0 h1 k0 k1 _))))
  refine wpQuiet_nil ?_
  rintro w2 ⟨p, rfl⟩
  have hb2 := below_regrown w1 p.d p.os
  generalize grow (redrawn w1 p.d) p.os = w2 at hb2 ⊢
  have hB2 := hB.kept hb2
  have c2 := hB2.cell
  have f2 := hB2.frozen
  clear e0 hA hB
  go_wp2
  have c3 := ((((hB2.set_ 0 (.int .u32 3282393660)).set_ 1 (.int .u32 q)).set_ 2 (.int .u32 v)).set_ 3 (.int .u32 (checkN id q v))).cell
  refine bodyPost_ret (v := .agg #[.int .u32 3282393660, .int .u32 q, .int .u32 v, .int .u32 (checkN id q v)]) (by simp [results, Try.results29, go_sem, c3]) rfl ⟨rfl, ?_⟩
  exact (hb1.trans (hb2.mono hb1.size)).setCell (by simp) _ |>.setCell (by simp) _ |>.setCell (by simp) _ |>.setCell (by simp) _
end Go.Proofs.Ytdkhkpjepnmjnaa
