/- Chapters 12 and 13: records, their words, the writes that make them. -/
import Derived.Test.YtpenjfkdinmgmaaNvG
import Derived.ChangeKeysEq
import Derived.Deep.RegionHeld3
namespace Go.Proofs.Ytpenjfkdinmgmaa
set_option linter.unusedVariables false
set_option linter.unusedSimpArgs false
open Go.RowKit Go.Sort


def mixN (x v : Int) : Int :=
  (bits BinOp.or IntKind.u32 (bits BinOp.xor IntKind.u32 x v * 2654435761 % 4294967296 * 32768 % 4294967296) (bits BinOp.xor IntKind.u32 x v * 2654435761 % 4294967296 / 131072) + v) % 4294967296
theorem mixN_bd (x v : Int) : 0 ≤ mixN x v ∧ mixN x v < 4294967296 := by unfold mixN; omega

set_option maxHeartbeats 400000 in
theorem refMix_any (x v : Int) (h0 : 0 ≤ x) (h1 : x < 4294967296) (k0 : 0 ≤ v) (k1 : v < 4294967296) (w : World) :
    Calls Try.prog 49 #[.int .u32 x, .int .u32 v] w fun e w' => e = .returned (.int .u32 (mixN x v)) ∧ w = w' := by
  go_enter Try.func49, Try.ntmps49
  go_wp2
  go_ret
  exact ⟨rfl, rfl⟩

def encW (x : Int) : List Value := [.int .u32 x]

set_option maxHeartbeats 400000 in
theorem mixed_any (x : Int) (h0 : 0 ≤ x) (h1 : x < 4294967296) (A : Option Addr) (n c : Nat) (l : List Int) (hl : l.length = n) (hn : n ≤ 9223372036854775807) (hat : ∀ v ∈ l, 0 ≤ v ∧ v < 4294967296)
    (w : World) (hr : Rd w w.heap.size 1 A n (l.flatMap encW)) :
    Calls Try.prog 48 #[.int .u32 x, .slice A n c] w fun e w' => e = .returned (.int .u32 (l.foldl mixN x)) ∧ w = w' := by
  go_enter Try.func48, Try.ntmps48
  go_wp2
  go_loop [0, 6, 9] (fun s _ i => ∃ k : Nat, k ≤ n ∧ i = .int .i64 k ∧ ∃ y : Int, s = .int .u32 y ∧ y = (l.take k).foldl mixN x ∧ 0 ≤ y ∧ y < 4294967296) (fun _ _ i => n - (intOf i).toNat)
  case atStart => exact ⟨0, by omega, rfl, x, rfl, rfl, h0, h1⟩
  case round =>
    obtain ⟨k, hk, rfl, y, rfl, hy, hy0, hy1⟩ := hrel
    have HY := Lib.hid hy
    clear hy
    by_cases hlt : k < n
    · have hlt' : k < l.length := by omega
      obtain ⟨b, off, rfl, hbb, hc⟩ := hr.row (fun _ => rfl) hlt' hl
      have c0 := hc 0 (by omega)
      simp only [encW, Nat.add_zero, Nat.mul_one] at c0
      obtain ⟨v0, v1⟩ := hat _ (List.getElem_mem hlt')
      have HT := Lib.hid (List.take_succ_eq_append_getElem hlt')
      clear hc hat hr
      generalize l[k] = v at *
      have bd := mixN_bd y v
      have h15 : bits BinOp.and IntKind.u64 15 31 = 15 := by decide +kernel
      go_wp2
      go_round
      case rel => exact ⟨k + 1, by omega, by go_num, _, rfl, by rw [HT.out, List.foldl_append, ← HY.out]; rfl, bd.1, bd.2⟩
      case measure => simp [intOf]; omega
    · go_wp2
      go_ret
      exact ⟨ret_int' (by rw [HY.out, List.take_of_length_le (by omega)]), rfl⟩

/-- The sum of a record. -/
def checkN (id q v : Int) : Int := mixN (mixN (mixN 1853252468 (id % 4294967296)) q) v
theorem checkN_bd (id q v : Int) : 0 ≤ checkN id q v ∧ checkN id q v < 4294967296 := mixN_bd _ _

set_option maxHeartbeats 400000 in
theorem check_any (id q v : Int) (h0 : 0 ≤ q) (h1 : q < 4294967296) (k0 : 0 ≤ v) (k1 : v < 4294967296) (w : World) :
    Calls Try.prog 44 #[.int .i64 id, .agg #[.int .u32 q, .int .u32 v]] w fun e w' => e = .returned (.int .u32 (checkN id q v)) ∧ Below w.heap.size w w' := by
  go_enter Try.func44, Try.ntmps44
  go_wp2_with (go_at_call 48; refine (mixed_any _ (by decide) (by decide) _ 3 3 [id % 4294967296, q, v] rfl (by decide) (by simp; omega) _ (Rd.fresh _ _ _ 3 1 _ rfl)).mono ?_; rintro e w1 ⟨rfl, rfl⟩)
  go_ret
  exact ⟨rfl, ((Below.refl _ _).alloc (Nat.le_refl _) _).alloc (by simp) _⟩

set_option maxHeartbeats 400000 in
theorem refCheck_any (id q v : Int) (h0 : 0 ≤ q) (h1 : q < 4294967296) (k0 : 0 ≤ v) (k1 : v < 4294967296) (w : World) :
    Calls Try.prog 45 #[.int .i64 id, .agg #[.int .u32 q, .int .u32 v]] w fun e w' => e = .returned (.int .u32 (checkN id q v)) ∧ Below w.heap.size w w' := by
  have b1 := mixN_bd 1853252468 (id % 4294967296)
  have b2 := mixN_bd (mixN 1853252468 (id % 4294967296)) q
  go_enter Try.func45, Try.ntmps45
  go_wp2
  go_quiet ((go_at_call 49; exact Calls.quiet_of_same ((refMix_any _ _ (by omega) (by omega) (by omega) (by omega) _).mono fun _ _ ⟨a, b⟩ => ⟨a, b.symm⟩)))
  go_wp2
  go_ret
  exact ⟨rfl, below_drewN ((Below.refl _ _).alloc (Nat.le_refl _) _) _⟩

set_option maxHeartbeats 400000 in
theorem words_any (id q v : Int) (h0 : 0 ≤ q) (h1 : q < 4294967296) (k0 : 0 ≤ v) (k1 : v < 4294967296) (w : World) :
    Calls Try.prog 32 #[.int .i64 id, .agg #[.int .u32 q, .int .u32 v]] w fun e w' => e = .returned (.agg #[.int .u32 3282393660, .int .u32 q, .int .u32 v, .int .u32 (checkN id q v)]) ∧ Below w.heap.size w w' := by
  go_enter Try.func32, Try.ntmps32
  go_wp2
  refine wp_name ?_
  intro w1 hw1
  have hb1 : RowKit.Below w.heap.size w w1 := by rw [hw1]; exact ((Below.refl _ _).alloc (Nat.le_refl _) _).alloc (by simp) _
  have hA : Blk w1 w.heap.size 43 #[.int .u32 q, .int .u32 v] := by rw [hw1]; exact (Blk.new _ _ _).alloc _
  have hB : Blk w1 (w.heap.size + 1) 73 #[.int .u32 0, .int .u32 0, .int .u32 0, .int .u32 0] := by rw [hw1]; exact Blk.fresh _ _ _
  clear hw1
  refine wp_region_tail_below 8 (by kernel_rfl) (by kernel_rfl) ?_
  have e0 := blk_regrown hA
  simp only [List.take_succ_cons, List.take_zero, List.drop_succ_cons, List.drop_zero]
  repeat (quiet_step ((go_at_call 44; exact regrown (check_any _ _ _ h0 h1 k0 k1 _))))
  refine wpQuiet_nil ?_
  rintro w2 ⟨p, rfl⟩
  have hb2 := below_regrown w1 p.d p.os
  generalize grow (redrawn w1 p.d) p.os = w2 at hb2 ⊢
  have hB2 := hB.kept hb2
  have c2 := hB2.cell
  have f2 := hB2.frozen
  clear e0 hA hB
  go_wp2
  have c3 := ((((hB2.set_ 0 (.int .u32 3282393660)).set_ 1 (.int .u32 q)).set_ 2 (.int .u32 v)).set_ 3 (.int .u32 (checkN id q v))).cell
  refine bodyPost_ret (v := .agg #[.int .u32 3282393660, .int .u32 q, .int .u32 v, .int .u32 (checkN id q v)]) (by simp [results, Try.results32, go_sem, c3]) rfl ⟨rfl, ?_⟩
  exact (hb1.trans (hb2.mono hb1.size)).setCell (by simp) _ |>.setCell (by simp) _ |>.setCell (by simp) _ |>.setCell (by simp) _
set_option maxHeartbeats 400000 in
theorem refWords_any (id q v : Int) (h0 : 0 ≤ q) (h1 : q < 4294967296) (k0 : 0 ≤ v) (k1 : v < 4294967296) (w : World) :
    Calls Try.prog 33 #[.int .i64 id, .agg #[.int .u32 q, .int .u32 v]] w fun e w' => e = .returned (.agg #[.int .u32 3282393660, .int .u32 q, .int .u32 v, .int .u32 (checkN id q v)]) ∧ Below w.heap.size w w' := by
  go_enter Try.func33, Try.ntmps33
  go_wp2
  refine wp_name ?_
  intro w1 hw1
  have hb1 : RowKit.Below w.heap.size w w1 := by rw [hw1]; exact ((Below.refl _ _).alloc (Nat.le_refl _) _).alloc (by simp) _
  have hA : Blk w1 w.heap.size 43 #[.int .u32 q, .int .u32 v] := by rw [hw1]; exact (Blk.new _ _ _).alloc _
  have hB : Blk w1 (w.heap.size + 1) 73 #[.int .u32 0, .int .u32 0, .int .u32 0, .int .u32 0] := by rw [hw1]; exact Blk.fresh _ _ _
  clear hw1
  refine wp_region_tail_below 8 (by kernel_rfl) (by kernel_rfl) ?_
  have e0 := blk_regrown hA
  simp only [List.take_succ_cons, List.take_zero, List.drop_succ_cons, List.drop_zero]
  repeat (quiet_step ((go_at_call 45; exact regrown (refCheck_any _ _ _ h0 h1 k0 k1 _))))
  refine wpQuiet_nil ?_
  rintro w2 ⟨p, rfl⟩
  have hb2 := below_regrown w1 p.d p.os
  generalize grow (redrawn w1 p.d) p.os = w2 at hb2 ⊢
  have hB2 := hB.kept hb2
  have c2 := hB2.cell
  have f2 := hB2.frozen
  clear e0 hA hB
  go_wp2
  have c3 := ((((hB2.set_ 0 (.int .u32 3282393660)).set_ 1 (.int .u32 q)).set_ 2 (.int .u32 v)).set_ 3 (.int .u32 (checkN id q v))).cell
  refine bodyPost_ret (v := .agg #[.int .u32 3282393660, .int .u32 q, .int .u32 v, .int .u32 (checkN id q v)]) (by simp [results, Try.results33, go_sem, c3]) rfl ⟨rfl, ?_⟩
  exact (hb1.trans (hb2.mono hb1.size)).setCell (by simp) _ |>.setCell (by simp) _ |>.setCell (by simp) _ |>.setCell (by simp) _

theorem info_u32a : (Try.prog.info? 23).map (fun i => (i.size)) = some 1 := by kernel_rfl
theorem cells_u32 : Try.prog.cellsOf 23 = 1 := by kernel_rfl
theorem arr4_equal (w : World) (a b c d a' b' c' d' : Int) : (Op.equalIn 10000 73 (.agg #[.int .u32 a, .int .u32 b, .int .u32 c, .int .u32 d]) (.agg #[.int .u32 a', .int .u32 b', .int .u32 c', .int .u32 d'])).run Try.prog w =
    .ok (a == a' && (b == b' && (c == c' && d == d'))) w := by
  obtain ⟨i, hi, _⟩ := Option.map_eq_some_iff.1 info_u32a
  rw [run_equalIn_array w 9999 _ _ Try.underlying73 hi, cells_u32]
  simp only [show List.range 4 = [0, 1, 2, 3] from rfl, Op.eqItems]
  simp [go_sem, part]
  by_cases ha : a = a' <;> by_cases hb : b = b' <;> by_cases hc : c = c' <;> by_cases hd : d = d' <;> simp [ha, hb, hc, hd]
theorem arr4_eql (w : World) (a b c d a' b' c' d' : Int) : (binOp .eql 73 (.agg #[.int .u32 a, .int .u32 b, .int .u32 c, .int .u32 d]) (.agg #[.int .u32 a', .int .u32 b', .int .u32 c', .int .u32 d'])).run Try.prog w =
    .ok (.bool (a == a' && (b == b' && (c == c' && d == d')))) w := by
  rw [run_eql_struct, arr4_equal]; rfl
theorem arr4_neq (w : World) (a b c d a' b' c' d' : Int) : (binOp .neq 73 (.agg #[.int .u32 a, .int .u32 b, .int .u32 c, .int .u32 d]) (.agg #[.int .u32 a', .int .u32 b', .int .u32 c', .int .u32 d'])).run Try.prog w =
    .ok (.bool (!(a == a' && (b == b' && (c == c' && d == d'))))) w := by
  rw [run_neq_struct, arr4_equal]; rfl

/-- Words are a record's. -/
def isRec (id a b c d : Int) : Prop := a = 3282393660 ∧ d = checkN id b c
instance (id a b c d : Int) : Decidable (isRec id a b c d) := by unfold isRec; infer_instance

set_option maxHeartbeats 800000 in
theorem of_yes (id a b c d : Int) (h0 : 0 ≤ b) (h1 : b < 4294967296) (k0 : 0 ≤ c) (k1 : c < 4294967296) (hr : isRec id a b c d) (w : World) :
    Calls Try.prog 47 #[.int .i64 id, .agg #[.int .u32 a, .int .u32 b, .int .u32 c, .int .u32 d]] w fun e w' => e = .returned (.tuple #[.agg #[.int .u32 b, .int .u32 c], .bool true]) ∧ Below w.heap.size w w' := by
  obtain ⟨rfl, rfl⟩ := hr
  go_enter Try.func47, Try.ntmps47
  go_wp2
  refine wp_name ?_
  intro w1 hw1
  have hb1 : RowKit.Below w.heap.size w w1 := by rw [hw1]; exact bal (bal (bal (Below.refl _ _) _) _) _
  have hA : Blk w1 w.heap.size 73 #[.int .u32 3282393660, .int .u32 b, .int .u32 c, .int .u32 (checkN id b c)] := by rw [hw1]; exact ((Blk.new _ _ _).alloc _).alloc _
  have hB : Blk w1 (w.heap.size + 1) 43 #[.int .u32 0, .int .u32 0] := by rw [hw1]; exact (Blk.fresh _ _ _).alloc _
  have hC : Blk w1 (w.heap.size + 2) 43 #[.int .u32 b, .int .u32 c] := by rw [hw1]; exact Blk.fresh _ _ _
  clear hw1
  refine wp_region_quiet_below (by kernel_rfl) (by kernel_rfl) ?_
  have e0 := blk_regrown hA
  have e1 := blk_regrown hC
  repeat (quiet_step ((go_at_call 44; exact regrown (check_any _ _ _ h0 h1 k0 k1 _))))
  refine wpQuiet_nil ?_
  rintro w2 ⟨p, rfl⟩
  have hb2 := below_regrown w1 p.d p.os
  generalize grow (redrawn w1 p.d) p.os = w2 at hb2 ⊢
  have c2 := (hB.kept hb2).cell
  have f2 := (hB.kept hb2).frozen
  have c4 := (hC.kept hb2).cell
  have hB2 := hB.kept hb2
  clear e0 e1 hA hB hC
  go_wp2
  have c3 := ((hB2.set_ 0 ((.int .u32 b))).set_ 1 ((.int .u32 c))).cell
  refine bodyPost_ret (v := .tuple #[.agg #[.int .u32 b, .int .u32 c], .bool true]) (by simp [results, Try.results47, go_sem, c3]) rfl ⟨rfl, ?_⟩
  exact (hb1.trans (hb2.mono hb1.size)).setCell (by simp) _ |>.setCell (by simp) _

set_option maxHeartbeats 800000 in
theorem of_no1 (id a b c d : Int) (h0 : 0 ≤ b) (h1 : b < 4294967296) (k0 : 0 ≤ c) (k1 : c < 4294967296) (ha : (a != 3282393660) = true) (w : World) :
    Calls Try.prog 47 #[.int .i64 id, .agg #[.int .u32 a, .int .u32 b, .int .u32 c, .int .u32 d]] w fun e w' => e = .returned (.tuple #[.agg #[.int .u32 0, .int .u32 0], .bool false]) ∧ Below w.heap.size w w' := by
  go_enter Try.func47, Try.ntmps47
  go_wp2
  refine wp_name ?_
  intro w1 hw1
  have hb1 : RowKit.Below w.heap.size w w1 := by rw [hw1]; exact bal (bal (bal (Below.refl _ _) _) _) _
  have hA : Blk w1 w.heap.size 73 #[.int .u32 a, .int .u32 b, .int .u32 c, .int .u32 d] := by rw [hw1]; exact ((Blk.new _ _ _).alloc _).alloc _
  have hB : Blk w1 (w.heap.size + 1) 43 #[.int .u32 0, .int .u32 0] := by rw [hw1]; exact (Blk.fresh _ _ _).alloc _
  have hC : Blk w1 (w.heap.size + 2) 43 #[.int .u32 b, .int .u32 c] := by rw [hw1]; exact Blk.fresh _ _ _
  clear hw1
  refine wp_region_quiet_below (by kernel_rfl) (by kernel_rfl) ?_
  have e0 := blk_regrown hA
  have e1 := blk_regrown hC
  repeat (quiet_step ((go_at_call 44; exact regrown (check_any _ _ _ h0 h1 k0 k1 _))))
  refine wpQuiet_nil ?_
  rintro w2 ⟨p, rfl⟩
  have hb2 := below_regrown w1 p.d p.os
  generalize grow (redrawn w1 p.d) p.os = w2 at hb2 ⊢
  have c2 := (hB.kept hb2).cell
  have f2 := (hB.kept hb2).frozen
  have c4 := (hC.kept hb2).cell
  have hB2 := hB.kept hb2
  clear e0 e1 hA hB hC
  go_wp2
  have c3 := ((hB2.set_ 0 ((.int .u32 0))).set_ 1 ((.int .u32 0))).cell
  refine bodyPost_ret (v := .tuple #[.agg #[.int .u32 0, .int .u32 0], .bool false]) (by simp [results, Try.results47, go_sem, c3]) rfl ⟨rfl, ?_⟩
  exact (hb1.trans (hb2.mono hb1.size)).setCell (by simp) _ |>.setCell (by simp) _

set_option maxHeartbeats 800000 in
theorem of_no2 (id a b c d : Int) (h0 : 0 ≤ b) (h1 : b < 4294967296) (k0 : 0 ≤ c) (k1 : c < 4294967296) (ha : a = 3282393660) (hd : (d != checkN id b c) = true) (w : World) :
    Calls Try.prog 47 #[.int .i64 id, .agg #[.int .u32 a, .int .u32 b, .int .u32 c, .int .u32 d]] w fun e w' => e = .returned (.tuple #[.agg #[.int .u32 0, .int .u32 0], .bool false]) ∧ Below w.heap.size w w' := by
  subst ha
  go_enter Try.func47, Try.ntmps47
  go_wp2
  refine wp_name ?_
  intro w1 hw1
  have hb1 : RowKit.Below w.heap.size w w1 := by rw [hw1]; exact bal (bal (bal (Below.refl _ _) _) _) _
  have hA : Blk w1 w.heap.size 73 #[.int .u32 3282393660, .int .u32 b, .int .u32 c, .int .u32 d] := by rw [hw1]; exact ((Blk.new _ _ _).alloc _).alloc _
  have hB : Blk w1 (w.heap.size + 1) 43 #[.int .u32 0, .int .u32 0] := by rw [hw1]; exact (Blk.fresh _ _ _).alloc _
  have hC : Blk w1 (w.heap.size + 2) 43 #[.int .u32 b, .int .u32 c] := by rw [hw1]; exact Blk.fresh _ _ _
  clear hw1
  refine wp_region_quiet_below (by kernel_rfl) (by kernel_rfl) ?_
  have e0 := blk_regrown hA
  have e1 := blk_regrown hC
  repeat (quiet_step ((go_at_call 44; exact regrown (check_any _ _ _ h0 h1 k0 k1 _))))
  refine wpQuiet_nil ?_
  rintro w2 ⟨p, rfl⟩
  have hb2 := below_regrown w1 p.d p.os
  generalize grow (redrawn w1 p.d) p.os = w2 at hb2 ⊢
  have c2 := (hB.kept hb2).cell
  have f2 := (hB.kept hb2).frozen
  have c4 := (hC.kept hb2).cell
  have hB2 := hB.kept hb2
  clear e0 e1 hA hB hC
  go_wp2
  have c3 := ((hB2.set_ 0 ((.int .u32 0))).set_ 1 ((.int .u32 0))).cell
  refine bodyPost_ret (v := .tuple #[.agg #[.int .u32 0, .int .u32 0], .bool false]) (by simp [results, Try.results47, go_sem, c3]) rfl ⟨rfl, ?_⟩
  exact (hb1.trans (hb2.mono hb1.size)).setCell (by simp) _ |>.setCell (by simp) _

set_option maxHeartbeats 800000 in
theorem refOf_yes (id a b c d : Int) (h0 : 0 ≤ b) (h1 : b < 4294967296) (k0 : 0 ≤ c) (k1 : c < 4294967296) (hr : isRec id a b c d) (w : World) :
    Calls Try.prog 36 #[.int .i64 id, .agg #[.int .u32 a, .int .u32 b, .int .u32 c, .int .u32 d]] w fun e w' => e = .returned (.tuple #[.agg #[.int .u32 b, .int .u32 c], .bool true]) ∧ Below w.heap.size w w' := by
  obtain ⟨rfl, rfl⟩ := hr
  have hneq := arr4_neq
  go_enter Try.func36, Try.ntmps36
  go_wp2
  refine wp_name ?_
  intro w1 hw1
  have hb1 : RowKit.Below w.heap.size w w1 := by rw [hw1]; exact bal (bal (bal (Below.refl _ _) _) _) _
  have hA : Blk w1 w.heap.size 73 #[.int .u32 3282393660, .int .u32 b, .int .u32 c, .int .u32 (checkN id b c)] := by rw [hw1]; exact ((Blk.new _ _ _).alloc _).alloc _
  have hB : Blk w1 (w.heap.size + 1) 43 #[.int .u32 0, .int .u32 0] := by rw [hw1]; exact (Blk.fresh _ _ _).alloc _
  have hC : Blk w1 (w.heap.size + 2) 43 #[.int .u32 b, .int .u32 c] := by rw [hw1]; exact Blk.fresh _ _ _
  clear hw1
  refine wp_region_quiet_below (by kernel_rfl) (by kernel_rfl) ?_
  have e0 := blk_regrown hA
  have e1 := blk_regrown hC
  repeat (quiet_step ((go_at_call 33; exact regrown (refWords_any _ _ _ h0 h1 k0 k1 _))))
  refine wpQuiet_nil ?_
  rintro w2 ⟨p, rfl⟩
  have hb2 := below_regrown w1 p.d p.os
  generalize grow (redrawn w1 p.d) p.os = w2 at hb2 ⊢
  have c2 := (hB.kept hb2).cell
  have f2 := (hB.kept hb2).frozen
  have c4 := (hC.kept hb2).cell
  have hB2 := hB.kept hb2
  clear e0 e1 hA hB hC
  go_wp2
  have c3 := ((hB2.set_ 0 ((.int .u32 b))).set_ 1 ((.int .u32 c))).cell
  refine bodyPost_ret (v := .tuple #[.agg #[.int .u32 b, .int .u32 c], .bool true]) (by simp [results, Try.results36, go_sem, c3]) rfl ⟨rfl, ?_⟩
  exact (hb1.trans (hb2.mono hb1.size)).setCell (by simp) _ |>.setCell (by simp) _

set_option maxHeartbeats 800000 in
theorem refOf_no (id a b c d : Int) (h0 : 0 ≤ b) (h1 : b < 4294967296) (k0 : 0 ≤ c) (k1 : c < 4294967296) (hr : ¬ isRec id a b c d) (w : World) :
    Calls Try.prog 36 #[.int .i64 id, .agg #[.int .u32 a, .int .u32 b, .int .u32 c, .int .u32 d]] w fun e w' => e = .returned (.tuple #[.agg #[.int .u32 0, .int .u32 0], .bool false]) ∧ Below w.heap.size w w' := by
  have hneq := arr4_neq
  have hno : (a == 3282393660 && d == checkN id b c) = false := by
    unfold isRec at hr
    simpa using hr
  clear hr
  go_enter Try.func36, Try.ntmps36
  go_wp2
  refine wp_name ?_
  intro w1 hw1
  have hb1 : RowKit.Below w.heap.size w w1 := by rw [hw1]; exact bal (bal (bal (Below.refl _ _) _) _) _
  have hA : Blk w1 w.heap.size 73 #[.int .u32 a, .int .u32 b, .int .u32 c, .int .u32 d] := by rw [hw1]; exact ((Blk.new _ _ _).alloc _).alloc _
  have hB : Blk w1 (w.heap.size + 1) 43 #[.int .u32 0, .int .u32 0] := by rw [hw1]; exact (Blk.fresh _ _ _).alloc _
  have hC : Blk w1 (w.heap.size + 2) 43 #[.int .u32 b, .int .u32 c] := by rw [hw1]; exact Blk.fresh _ _ _
  clear hw1
  refine wp_region_quiet_below (by kernel_rfl) (by kernel_rfl) ?_
  have e0 := blk_regrown hA
  have e1 := blk_regrown hC
  repeat (quiet_step ((go_at_call 33; exact regrown (refWords_any _ _ _ h0 h1 k0 k1 _))))
  refine wpQuiet_nil ?_
  rintro w2 ⟨p, rfl⟩
  have hb2 := below_regrown w1 p.d p.os
  generalize grow (redrawn w1 p.d) p.os = w2 at hb2 ⊢
  have c2 := (hB.kept hb2).cell
  have f2 := (hB.kept hb2).frozen
  have c4 := (hC.kept hb2).cell
  have hB2 := hB.kept hb2
  clear e0 e1 hA hB hC
  go_wp2
  have c3 := ((hB2.set_ 0 ((.int .u32 0))).set_ 1 ((.int .u32 0))).cell
  refine bodyPost_ret (v := .tuple #[.agg #[.int .u32 0, .int .u32 0], .bool false]) (by simp [results, Try.results36, go_sem, c3]) rfl ⟨rfl, ?_⟩
  exact (hb1.trans (hb2.mono hb1.size)).setCell (by simp) _ |>.setCell (by simp) _


/-- A slice of rows that are the call's own is handed back; nothing that was there has turned. -/
def RetOwn {α : Type} (t : TypeId) (enc : α → List Value) (s : Nat) (l : List α) (w : World) (e : Ending) (w' : World) : Prop :=
  ∃ A c, e = .returned (.slice A l.length c) ∧ w'.ownsRow w.heap.size t s (.slice A l.length c) l.length (l.flatMap enc) ∧ Below w.heap.size w w'
theorem retOwn_own {α : Type} {enc : α → List Value} {s : Nat} {l : List α} {w w' : World} {base : Nat} {e : TypeId} {v : Value} {n : Nat} {xs : List Value} (h : w'.ownsRow base e s v n xs) (hw : w.heap.size ≤ base) (hn : n = l.length) (hx : xs = l.flatMap enc) (hb : Below w.heap.size w w') :
    RetOwn e enc s l w (.returned v) w' := by
  subst hn hx
  obtain ⟨A, c, rfl, hc, hr⟩ := own_slice h
  exact ⟨A, c, rfl, h.mono hw, hb⟩
def encP (p : Int × Int) : List Value := [.int .i64 p.1, .int .u32 p.2]
theorem info_put : (Try.prog.info? 76).map (fun i => (i.zero, i.size, i.bytes)) = some (some (.agg #[.int .i64 0, .int .u32 0]), 2, 16) := by kernel_rfl
theorem put_elem : ElemInfo Try.prog 71 76 2 16 := by
  obtain ⟨i, hi, hz, hs, hb⟩ := info_parts info_put
  exact ⟨Try.underlying71, ⟨i, _, hi, hz, hs, hb, rfl⟩, by decide⟩

set_option maxHeartbeats 800000 in
theorem steps_no (id a b c d q v : Int) (h0 : 0 ≤ q) (h1 : q < 4294967296) (k0 : 0 ≤ v) (k1 : v < 4294967296) (ha : (a == 3282393660) = false) (w : World) :
    Calls Try.prog 28 #[.int .i64 id, .agg #[.int .u32 a, .int .u32 b, .int .u32 c, .int .u32 d], .agg #[.int .u32 q, .int .u32 v]] w (RetOwn 76 encP 2 [(1, q), (2, v), (3, checkN id q v), (0, 3282393660)] w) := by
  go_enter Try.func28, Try.ntmps28
  go_wp2_with (go_at_call 32; refine (words_any _ _ _ h0 h1 k0 k1 _).mono ?_; rintro e w1 ⟨rfl, hb1⟩)
  refine wp_name ?_
  intro w2 hw2
  have hb2 : RowKit.Below w.heap.size w w2 := by rw [hw2]; exact bal (below_alloc (below_alloc hb1)) _
  have hA : Blk w2 w1.heap.size 73 #[.int .u32 3282393660, .int .u32 q, .int .u32 v, .int .u32 (checkN id q v)] := by rw [hw2]; exact Blk.new _ _ _
  have hlt : w1.heap.size < w2.heap.size := hA.lt
  clear hw2 hb1
  have i0 : ∀ w, (Instr.index 87 (.agg #[.int .i64 1, .int .i64 2, .int .i64 3, .int .i64 0]) (.int .i64 0)).run Try.prog w = .ok (.int .i64 1) w := fun _ => by kernel_rfl
  have i1 : ∀ w, (Instr.index 87 (.agg #[.int .i64 1, .int .i64 2, .int .i64 3, .int .i64 0]) (.int .i64 1)).run Try.prog w = .ok (.int .i64 2) w := fun _ => by kernel_rfl
  have i2 : ∀ w, (Instr.index 87 (.agg #[.int .i64 1, .int .i64 2, .int .i64 3, .int .i64 0]) (.int .i64 2)).run Try.prog w = .ok (.int .i64 3) w := fun _ => by kernel_rfl
  have i3 : ∀ w, (Instr.index 87 (.agg #[.int .i64 1, .int .i64 2, .int .i64 3, .int .i64 0]) (.int .i64 3)).run Try.prog w = .ok (.int .i64 0) w := fun _ => by kernel_rfl
  go_loopw [7, 10, 22] (fun s _ i wr => ∃ k : Nat, k ≤ 4 ∧ i = .int .i64 k ∧ wr.ownsRow w2.heap.size 76 2 s k (([(1, q), (2, v), (3, checkN id q v), (0, 3282393660)].take k).flatMap encP) ∧ RowKit.Below w2.heap.size w2 wr) (fun _ _ i _ => 4 - (intOf i).toNat)
  case atStart => exact ⟨0, by omega, rfl, World.ownsRow_nil _ _ _ _, Below.refl _ _⟩
  case round =>
    obtain ⟨k, hk, rfl, hown, hbr⟩ := hrel
    have hc := (hA.kept hbr).cell
    have hsz := hbr.size
    by_cases hlt : k < 4
    · rcases (by omega : k = 0 ∨ k = 1 ∨ k = 2 ∨ k = 3) with rfl | rfl | rfl | rfl
      · go_wp2_with (at_builtin; refine wpList_app put_elem rfl (.tmp 25) (.tmp 31) rfl w2.heap.size (hown.alloc _) rfl rfl (Rd.fresh _ _ _ 1 2 _ rfl) (by simp [Value.oneCell']) (by simp [maxLen]) (by omega) (by simp; omega) ?_; intro v' w' hown' hb' _)
        go_roundw
        case rel => exact ⟨1, by omega, rfl, hown', (hbr.alloc hsz _).trans hb'⟩
        case measure => simp [intOf]
      · go_wp2_with (at_builtin; refine wpList_app put_elem rfl (.tmp 25) (.tmp 31) rfl w2.heap.size (hown.alloc _) rfl rfl (Rd.fresh _ _ _ 1 2 _ rfl) (by simp [Value.oneCell']) (by simp [maxLen]) (by omega) (by simp; omega) ?_; intro v' w' hown' hb' _)
        go_roundw
        case rel => exact ⟨2, by omega, rfl, hown', (hbr.alloc hsz _).trans hb'⟩
        case measure => simp [intOf]
      · go_wp2_with (at_builtin; refine wpList_app put_elem rfl (.tmp 25) (.tmp 31) rfl w2.heap.size (hown.alloc _) rfl rfl (Rd.fresh _ _ _ 1 2 _ rfl) (by simp [Value.oneCell']) (by simp [maxLen]) (by omega) (by simp; omega) ?_; intro v' w' hown' hb' _)
        go_roundw
        case rel => exact ⟨3, by omega, rfl, hown', (hbr.alloc hsz _).trans hb'⟩
        case measure => simp [intOf]
      · go_wp2_with (at_builtin; refine wpList_app put_elem rfl (.tmp 25) (.tmp 31) rfl w2.heap.size (hown.alloc _) rfl rfl (Rd.fresh _ _ _ 1 2 _ rfl) (by simp [Value.oneCell']) (by simp [maxLen]) (by omega) (by simp; omega) ?_; intro v' w' hown' hb' _)
        go_roundw
        case rel => exact ⟨4, by omega, rfl, hown', (hbr.alloc hsz _).trans hb'⟩
        case measure => simp [intOf]
    · obtain rfl : k = 4 := by omega
      go_wp2
      go_ret
      exact retOwn_own hown hb2.size rfl rfl (hb2.trans (hbr.mono hb2.size))

set_option maxHeartbeats 800000 in
theorem steps_yes (id a b c d q v : Int) (h0 : 0 ≤ q) (h1 : q < 4294967296) (k0 : 0 ≤ v) (k1 : v < 4294967296) (ha : a = 3282393660) (w : World) :
    Calls Try.prog 28 #[.int .i64 id, .agg #[.int .u32 a, .int .u32 b, .int .u32 c, .int .u32 d], .agg #[.int .u32 q, .int .u32 v]] w (RetOwn 76 encP 2 [(0, 0), (1, q), (2, v), (3, checkN id q v), (0, 3282393660)] w) := by
  subst ha
  go_enter Try.func28, Try.ntmps28
  go_wp2_with (first
    | (at_builtin; refine wpList_app put_elem rfl (.tmp 14) (.tmp 16) rfl (w.heap.size + 2) (World.ownsRow_nil _ _ _ _) rfl rfl (Rd.fresh _ _ _ 1 2 _ rfl) (by simp [Value.oneCell']) (by simp [maxLen]) (by omega) (by simp) ?_; intro v1 w1 hown1 hb1 _; have cB := (Blk.below (g := w.heap.size + 1) ((Blk.fresh (w.alloc _) 43 #[.int .u32 q, .int .u32 v]).alloc _) hb1 (by omega)).cell)
    | (go_at_call 32; refine (words_any _ _ _ h0 h1 k0 k1 _).mono ?_; rintro e w2 ⟨rfl, hb2⟩))
  refine wp_name ?_
  intro w3 hw3
  have hb3 : RowKit.Below w1.heap.size w1 w3 := by rw [hw3]; exact bal hb2 _
  have hA : Blk w3 w2.heap.size 73 #[.int .u32 3282393660, .int .u32 q, .int .u32 v, .int .u32 (checkN id q v)] := by rw [hw3]; exact Blk.new _ _ _
  clear hw3
  have hs1 : w.heap.size + 3 ≤ w1.heap.size := by have := hb1.size; simp at this; omega
  have hb0 : RowKit.Below w.heap.size w w3 := ((bal (bal (bal (Below.refl _ _) _) _) _).trans (hb1.mono (by omega))).trans (hb3.mono (by omega))
  have hown3 : w3.ownsRow (w.heap.size + 2) 76 2 v1 1 (([(0, 0)] : List (Int × Int)).flatMap encP) := own_kept hown1 hb3
  have hs2 := hb2.size
  clear hb1 hb2 hb3 hown1
  have i0 : ∀ w, (Instr.index 87 (.agg #[.int .i64 1, .int .i64 2, .int .i64 3, .int .i64 0]) (.int .i64 0)).run Try.prog w = .ok (.int .i64 1) w := fun _ => by kernel_rfl
  have i1 : ∀ w, (Instr.index 87 (.agg #[.int .i64 1, .int .i64 2, .int .i64 3, .int .i64 0]) (.int .i64 1)).run Try.prog w = .ok (.int .i64 2) w := fun _ => by kernel_rfl
  have i2 : ∀ w, (Instr.index 87 (.agg #[.int .i64 1, .int .i64 2, .int .i64 3, .int .i64 0]) (.int .i64 2)).run Try.prog w = .ok (.int .i64 3) w := fun _ => by kernel_rfl
  have i3 : ∀ w, (Instr.index 87 (.agg #[.int .i64 1, .int .i64 2, .int .i64 3, .int .i64 0]) (.int .i64 3)).run Try.prog w = .ok (.int .i64 0) w := fun _ => by kernel_rfl
  go_loopw [7, 10, 22] (fun s _ i wr => ∃ k : Nat, k ≤ 4 ∧ i = .int .i64 k ∧ wr.ownsRow (w.heap.size + 2) 76 2 s (k + 1) (([(0, 0), (1, q), (2, v), (3, checkN id q v), (0, 3282393660)].take (k + 1)).flatMap encP) ∧ Blk wr w2.heap.size 73 #[.int .u32 3282393660, .int .u32 q, .int .u32 v, .int .u32 (checkN id q v)] ∧ RowKit.Below w.heap.size w wr) (fun _ _ i _ => 4 - (intOf i).toNat)
  case atStart => exact ⟨0, by omega, rfl, hown3, hA, hb0⟩
  case round =>
    obtain ⟨k, hk, rfl, hown, hAr, hbr⟩ := hrel
    have hc := hAr.cell
    have hsz := hAr.lt
    by_cases hlt : k < 4
    · rcases (by omega : k = 0 ∨ k = 1 ∨ k = 2 ∨ k = 3) with rfl | rfl | rfl | rfl
      · go_wp2_with (at_builtin; refine wpList_app put_elem rfl (.tmp 25) (.tmp 31) rfl (w.heap.size + 2) (hown.alloc _) rfl rfl (Rd.fresh _ _ _ 1 2 _ rfl) (by simp [Value.oneCell']) (by simp [maxLen]) (by omega) (by simp; omega) ?_; intro v' w' hown' hb' hg')
        go_roundw
        case rel => exact ⟨1, by omega, rfl, hown', (hAr.alloc _).grown hg' (own_blk_ne hown hAr (by decide)), (bal hbr _).trans (hb'.mono (by omega))⟩
        case measure => simp [intOf]
      · go_wp2_with (at_builtin; refine wpList_app put_elem rfl (.tmp 25) (.tmp 31) rfl (w.heap.size + 2) (hown.alloc _) rfl rfl (Rd.fresh _ _ _ 1 2 _ rfl) (by simp [Value.oneCell']) (by simp [maxLen]) (by omega) (by simp; omega) ?_; intro v' w' hown' hb' hg')
        go_roundw
        case rel => exact ⟨2, by omega, rfl, hown', (hAr.alloc _).grown hg' (own_blk_ne hown hAr (by decide)), (bal hbr _).trans (hb'.mono (by omega))⟩
        case measure => simp [intOf]
      · go_wp2_with (at_builtin; refine wpList_app put_elem rfl (.tmp 25) (.tmp 31) rfl (w.heap.size + 2) (hown.alloc _) rfl rfl (Rd.fresh _ _ _ 1 2 _ rfl) (by simp [Value.oneCell']) (by simp [maxLen]) (by omega) (by simp; omega) ?_; intro v' w' hown' hb' hg')
        go_roundw
        case rel => exact ⟨3, by omega, rfl, hown', (hAr.alloc _).grown hg' (own_blk_ne hown hAr (by decide)), (bal hbr _).trans (hb'.mono (by omega))⟩
        case measure => simp [intOf]
      · go_wp2_with (at_builtin; refine wpList_app put_elem rfl (.tmp 25) (.tmp 31) rfl (w.heap.size + 2) (hown.alloc _) rfl rfl (Rd.fresh _ _ _ 1 2 _ rfl) (by simp [Value.oneCell']) (by simp [maxLen]) (by omega) (by simp; omega) ?_; intro v' w' hown' hb' hg')
        go_roundw
        case rel => exact ⟨4, by omega, rfl, hown', (hAr.alloc _).grown hg' (own_blk_ne hown hAr (by decide)), (bal hbr _).trans (hb'.mono (by omega))⟩
        case measure => simp [intOf]
    · obtain rfl : k = 4 := by omega
      go_wp2
      go_ret
      exact retOwn_own hown (by omega) rfl rfl hbr
structure W4 where
  a : Int
  b : Int
  c : Int
  d : Int
def W4.arr (x : W4) : Array Value := #[.int .u32 x.a, .int .u32 x.b, .int .u32 x.c, .int .u32 x.d]
def put4 (x : W4) (p : Int × Int) : W4 :=
  if p.1 = 0 then { x with a := p.2 } else if p.1 = 1 then { x with b := p.2 } else if p.1 = 2 then { x with c := p.2 } else if p.1 = 3 then { x with d := p.2 } else x
theorem put4_0 (x : W4) (v : Int) : put4 x (0, v) = { x with a := v } := rfl
theorem put4_1 (x : W4) (v : Int) : put4 x (1, v) = { x with b := v } := rfl
theorem put4_2 (x : W4) (v : Int) : put4 x (2, v) = { x with c := v } := rfl
theorem put4_3 (x : W4) (v : Int) : put4 x (3, v) = { x with d := v } := rfl
theorem put4_no (x : W4) (at_ v : Int) (h : ¬ (0 ≤ at_ ∧ at_ ≤ 3)) : put4 x (at_, v) = x := by
  unfold put4
  simp only
  rw [if_neg (by omega), if_neg (by omega), if_neg (by omega), if_neg (by omega)]

def tear (mask : Int) (x : W4) (p : Int × Int) : W4 :=
  if p.1 = 0 then { x with a := bits .or .u32 (bits .andNot .u32 x.a mask) (bits .and .u32 p.2 mask) } else if p.1 = 1 then { x with b := bits .or .u32 (bits .andNot .u32 x.b mask) (bits .and .u32 p.2 mask) }
  else if p.1 = 2 then { x with c := bits .or .u32 (bits .andNot .u32 x.c mask) (bits .and .u32 p.2 mask) } else if p.1 = 3 then { x with d := bits .or .u32 (bits .andNot .u32 x.d mask) (bits .and .u32 p.2 mask) } else x
theorem tear_no (m : Int) (x : W4) (at_ v : Int) (h : ¬ (0 ≤ at_ ∧ at_ ≤ 3)) : tear m x (at_, v) = x := by
  unfold tear
  simp only
  rw [if_neg (by omega), if_neg (by omega), if_neg (by omega), if_neg (by omega)]
def upTo (k : Int) (n : Nat) : Nat := min k.toNat n
def tornN (x : W4) (l : List (Int × Int)) (k mask : Int) : W4 :=
  match l[upTo k l.length]? with
  | some p => tear mask ((l.take (upTo k l.length)).foldl put4 x) p
  | none => l.foldl put4 x


theorem of_words (id q v : Int) (h0 : 0 ≤ q) (h1 : q < 4294967296) (k0 : 0 ≤ v) (k1 : v < 4294967296) (w : World) : Calls Try.prog 47 #[.int .i64 id, .agg #[.int .u32 3282393660, .int .u32 q, .int .u32 v, .int .u32 (checkN id q v)]] w fun e w' => e = .returned (.tuple #[.agg #[.int .u32 q, .int .u32 v], .bool true]) ∧ Below w.heap.size w w' :=
  of_yes id 3282393660 q v (checkN id q v) h0 h1 k0 k1 ⟨rfl, rfl⟩ w
def ofN (id a b c d : Int) : Int × Int × Bool := if isRec id a b c d then (b, c, true) else (0, 0, false)
theorem of_any (id a b c d x y : Int) (f : Bool) (hx : ofN id a b c d = (x, y, f)) (h0 : 0 ≤ b) (h1 : b < 4294967296) (k0 : 0 ≤ c) (k1 : c < 4294967296) (w : World) :
    Calls Try.prog 47 #[.int .i64 id, .agg #[.int .u32 a, .int .u32 b, .int .u32 c, .int .u32 d]] w fun e w' => e = .returned (.tuple #[.agg #[.int .u32 x, .int .u32 y], .bool f]) ∧ Below w.heap.size w w' := by
  unfold ofN at hx
  split at hx
  · rename_i h; cases hx; exact of_yes id a b c d h0 h1 k0 k1 h w
  · rename_i h; cases hx
    by_cases ha : a = 3282393660
    · exact of_no2 id a b c d h0 h1 k0 k1 ha (by unfold isRec at h; simp only [bne_iff_ne, ne_eq]; intro hd; exact h ⟨ha, hd⟩) w
    · exact of_no1 id a b c d h0 h1 k0 k1 (by simpa using ha) w
theorem refOf_any (id a b c d x y : Int) (f : Bool) (hx : ofN id a b c d = (x, y, f)) (h0 : 0 ≤ b) (h1 : b < 4294967296) (k0 : 0 ≤ c) (k1 : c < 4294967296) (w : World) :
    Calls Try.prog 36 #[.int .i64 id, .agg #[.int .u32 a, .int .u32 b, .int .u32 c, .int .u32 d]] w fun e w' => e = .returned (.tuple #[.agg #[.int .u32 x, .int .u32 y], .bool f]) ∧ Below w.heap.size w w' := by
  unfold ofN at hx
  split at hx
  · rename_i h; cases hx; exact refOf_yes id a b c d h0 h1 k0 k1 h w
  · rename_i h; cases hx; exact refOf_no id a b c d h0 h1 k0 k1 h w

def tail4 (id q v : Int) : List (Int × Int) := [(1, q), (2, v), (3, checkN id q v), (0, 3282393660)]

set_option maxHeartbeats 800000 in
theorem refSteps_no (id a b c d q v : Int) (h0 : 0 ≤ q) (h1 : q < 4294967296) (k0 : 0 ≤ v) (k1 : v < 4294967296) (ha : (a == 3282393660) = false) (w : World) :
    Calls Try.prog 38 #[.int .i64 id, .agg #[.int .u32 a, .int .u32 b, .int .u32 c, .int .u32 d], .agg #[.int .u32 q, .int .u32 v]] w (RetOwn 76 encP 2 (tail4 id q v) w) := by
  go_enter Try.func38, Try.ntmps38
  go_wp2_with (first
    | (go_at_call 33; refine (refWords_any _ _ _ h0 h1 k0 k1 _).mono ?_; rintro e w1 ⟨rfl, hb1⟩)
    | (at_builtin; refine wpList_app put_elem rfl (.tmp 19) (.tmp 32) rfl (w1.heap.size + 1) (World.ownsRow_nil _ _ _ _) rfl rfl (Rd.fresh _ _ _ 4 2 _ rfl) (by simp [Value.oneCell']) (by simp [maxLen]) (by omega) (by simp) ?_; intro v2 w2 hown2 hb2 _))
  go_ret
  exact retOwn_own hown2 (by have := hb1.size; simp at this; omega) rfl rfl ((bal (bal (below_alloc (below_alloc hb1)) _) _).trans (hb2.mono (by have := hb1.size; simp at this; omega)))

set_option maxHeartbeats 800000 in
theorem refSteps_yes (id a b c d q v : Int) (h0 : 0 ≤ q) (h1 : q < 4294967296) (k0 : 0 ≤ v) (k1 : v < 4294967296) (ha : a = 3282393660) (w : World) :
    Calls Try.prog 38 #[.int .i64 id, .agg #[.int .u32 a, .int .u32 b, .int .u32 c, .int .u32 d], .agg #[.int .u32 q, .int .u32 v]] w (RetOwn 76 encP 2 ((0, 0) :: tail4 id q v) w) := by
  subst ha
  go_enter Try.func38, Try.ntmps38
  go_wp2_with (first
    | (at_builtin; with_reducible (refine wpList_app put_elem rfl (.tmp 12) (.tmp 14) rfl (w.heap.size + 2) (World.ownsRow_nil _ _ _ _) rfl rfl (Rd.fresh _ _ _ 1 2 _ rfl) ?_ ?_ ?_ ?_ ?_); (simp [Value.oneCell']); (simp [maxLen]); (omega); (simp); intro v1 w1 hown1 hb1 _; have cB := (Blk.below (g := w.heap.size + 1) ((Blk.fresh (w.alloc _) 43 #[.int .u32 q, .int .u32 v]).alloc _) hb1 (by omega)).cell; have hs1 : w.heap.size + 3 ≤ w1.heap.size := by have := hb1.size; simp at this; omega)
    | (go_at_call 33; refine (refWords_any _ _ _ h0 h1 k0 k1 _).mono ?_; rintro e w2 ⟨rfl, hb2⟩; have hown2 := own_kept hown1 hb2; have hs2 := hb2.size)
    | (at_builtin; refine wpList_app put_elem rfl (.tmp 19) (.tmp 32) rfl (w.heap.size + 2) ((hown2.alloc _).alloc _) rfl rfl (Rd.fresh _ _ _ 4 2 _ rfl) (by simp [Value.oneCell']) (by simp [maxLen]) (by omega) (by simp; omega) ?_; intro v3 w3 hown3 hb3 _))
  go_ret
  exact retOwn_own hown3 (by omega) rfl rfl (((bal (bal (bal (Below.refl _ _) _) _) _).trans (hb1.mono (by omega))).trans ((bal (bal hb2 _) _).mono (by omega) |>.trans (hb3.mono (by omega))))

def stepsN (id a q v : Int) : List (Int × Int) := if a = 3282393660 then (0, 0) :: tail4 id q v else tail4 id q v
theorem steps_any (id a b c d q v : Int) (h0 : 0 ≤ q) (h1 : q < 4294967296) (k0 : 0 ≤ v) (k1 : v < 4294967296) (w : World) :
    Calls Try.prog 28 #[.int .i64 id, .agg #[.int .u32 a, .int .u32 b, .int .u32 c, .int .u32 d], .agg #[.int .u32 q, .int .u32 v]] w (RetOwn 76 encP 2 (stepsN id a q v) w) := by
  by_cases ha : a = 3282393660
  · rw [show stepsN id a q v = _ from if_pos ha]; exact steps_yes id a b c d q v h0 h1 k0 k1 ha w
  · rw [show stepsN id a q v = _ from if_neg ha]; exact steps_no id a b c d q v h0 h1 k0 k1 (by simpa using ha) w
theorem refSteps_any (id a b c d q v : Int) (h0 : 0 ≤ q) (h1 : q < 4294967296) (k0 : 0 ≤ v) (k1 : v < 4294967296) (w : World) :
    Calls Try.prog 38 #[.int .i64 id, .agg #[.int .u32 a, .int .u32 b, .int .u32 c, .int .u32 d], .agg #[.int .u32 q, .int .u32 v]] w (RetOwn 76 encP 2 (stepsN id a q v) w) := by
  by_cases ha : a = 3282393660
  · rw [show stepsN id a q v = _ from if_pos ha]; exact refSteps_yes id a b c d q v h0 h1 k0 k1 ha w
  · rw [show stepsN id a q v = _ from if_neg ha]; exact refSteps_no id a b c d q v h0 h1 k0 k1 (by simpa using ha) w
theorem stepsN_done (id a b c d q v : Int) : (stepsN id a q v).foldl put4 ⟨a, b, c, d⟩ = ⟨3282393660, q, v, checkN id q v⟩ := by
  unfold stepsN tail4
  split <;> rfl
theorem stepsN_len (id a q v : Int) : (stepsN id a q v).length ≤ 5 := by unfold stepsN tail4; split <;> simp

theorem or_u32_bd (a b : Int) : 0 ≤ bits .or .u32 a b ∧ bits .or .u32 a b < 4294967296 := by
  have : bits .or .u32 a b = IntKind.u32.wrap ((BitVec.ofInt 32 a ||| BitVec.ofInt 32 b).toNat : Int) := rfl
  rw [this, IntKind.wrap_u32]
  omega
def W4.ok (x : W4) : Prop := (0 ≤ x.b ∧ x.b < 4294967296) ∧ 0 ≤ x.c ∧ x.c < 4294967296
theorem put4_ok (x : W4) (p : Int × Int) (hx : x.ok) (hp : 0 ≤ p.2 ∧ p.2 < 4294967296) : (put4 x p).ok := by
  unfold put4
  split
  · exact hx
  · split
    · exact ⟨hp, hx.2⟩
    · split
      · exact ⟨hx.1, hp⟩
      · split
        · exact hx
        · exact hx
theorem tear_ok (m : Int) (x : W4) (p : Int × Int) (hx : x.ok) : (tear m x p).ok := by
  unfold tear
  split
  · exact hx
  · split
    · exact ⟨or_u32_bd _ _, hx.2⟩
    · split
      · exact ⟨hx.1, or_u32_bd _ _⟩
      · split
        · exact hx
        · exact hx
theorem fold_ok (l : List (Int × Int)) : ∀ x : W4, x.ok → (∀ p ∈ l, 0 ≤ p.2 ∧ p.2 < 4294967296) → (l.foldl put4 x).ok := by
  induction l with
  | nil => intro x hx _; exact hx
  | cons p l ih => intro x hx hp; exact ih _ (put4_ok x p hx (hp p (List.mem_cons_self ..))) (fun q hq => hp q (List.mem_cons_of_mem _ hq))
theorem torn_ok (x : W4) (l : List (Int × Int)) (k m : Int) (hx : x.ok) (hl : ∀ p ∈ l, 0 ≤ p.2 ∧ p.2 < 4294967296) : (tornN x l k m).ok := by
  unfold tornN
  split
  · exact tear_ok _ _ _ (fold_ok _ _ hx (fun p hp => hl p (List.mem_of_mem_take hp)))
  · exact fold_ok _ _ hx hl
theorem steps_ok (id a q v : Int) (q0 : 0 ≤ q) (q1 : q < 4294967296) (v0 : 0 ≤ v) (v1 : v < 4294967296) : ∀ p ∈ stepsN id a q v, 0 ≤ p.2 ∧ p.2 < 4294967296 := by
  have := checkN_bd id q v
  unfold stepsN tail4
  split <;> simp <;> omega

theorem whole_plain (id a b c d q v k m : Int) (h : isRec id (tornN ⟨a, b, c, d⟩ (stepsN id a q v) k m).a (tornN ⟨a, b, c, d⟩ (stepsN id a q v) k m).b (tornN ⟨a, b, c, d⟩ (stepsN id a q v) k m).c (tornN ⟨a, b, c, d⟩ (stepsN id a q v) k m).d) :
    ((tornN ⟨a, b, c, d⟩ (stepsN id a q v) k m).b = q ∧ (tornN ⟨a, b, c, d⟩ (stepsN id a q v) k m).c = v) ∨
    (isRec id a b c d ∧ (tornN ⟨a, b, c, d⟩ (stepsN id a q v) k m).b = b ∧ (tornN ⟨a, b, c, d⟩ (stepsN id a q v) k m).c = c) := by
  by_cases ha : a = 3282393660
  · have e : stepsN id a q v = [(0, 0), (1, q), (2, v), (3, checkN id q v), (0, 3282393660)] := if_pos ha
    rw [e] at h ⊢
    unfold tornN at h ⊢
    have hu : upTo k 5 ≤ 5 := by unfold upTo; omega
    simp only [List.length_cons, List.length_nil, Nat.zero_add, Nat.reduceAdd] at h ⊢
    generalize upTo k 5 = u at *
    rcases (by omega : u = 0 ∨ u = 1 ∨ u = 2 ∨ u = 3 ∨ u = 4 ∨ u = 5) with rfl | rfl | rfl | rfl | rfl | rfl
    · right
      simp [tear, isRec] at h ⊢
      exact ⟨ha, h.2⟩
    · simp [tear, isRec, put4] at h
    · simp [tear, isRec, put4] at h
    · simp [tear, isRec, put4] at h
    · left; simp [tear, put4]
    · left; simp [put4]
  · have e : stepsN id a q v = [(1, q), (2, v), (3, checkN id q v), (0, 3282393660)] := if_neg ha
    rw [e] at h ⊢
    unfold tornN at h ⊢
    have hu : upTo k 4 ≤ 4 := by unfold upTo; omega
    simp only [List.length_cons, List.length_nil, Nat.zero_add, Nat.reduceAdd] at h ⊢
    generalize upTo k 4 = u at *
    rcases (by omega : u = 0 ∨ u = 1 ∨ u = 2 ∨ u = 3 ∨ u = 4) with rfl | rfl | rfl | rfl | rfl
    · simp [tear, isRec, ha] at h
    · simp [tear, isRec, put4, ha] at h
    · simp [tear, isRec, put4, ha] at h
    · left; simp [tear, put4]
    · left; simp [put4]

end Go.Proofs.Ytpenjfkdinmgmaa
