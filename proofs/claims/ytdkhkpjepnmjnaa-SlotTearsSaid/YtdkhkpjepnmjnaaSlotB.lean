/- Chapter 12, the slots: the record that words are. -/
import Derived.Test.YtdkhkpjepnmjnaaSlotA
import Derived.ChangeKeysEq
namespace Go.Proofs.Ytdkhkpjepnmjnaa
set_option linter.unusedVariables false
open Go.RowKit Go.Sort

theorem info_u32 : (Try.prog.info? 37).map (fun i => (i.size)) = some 1 := by kernel_rfl
theorem cells_u32 : Try.prog.cellsOf 37 = 1 := by kernel_rfl
theorem arr4_equal (w : World) (a b c d a' b' c' d' : Int) : (Op.equalIn 10000 40 (.agg #[.int .u32 a, .int .u32 b, .int .u32 c, .int .u32 d]) (.agg #[.int .u32 a', .int .u32 b', .int .u32 c', .int .u32 d'])).run Try.prog w =
    .ok (a == a' && (b == b' && (c == c' && d == d'))) w := by
  obtain ⟨i, hi, _⟩ := Option.map_eq_some_iff.1 info_u32
  rw [run_equalIn_array w 9999 _ _ Try.underlying40 hi, cells_u32]
  simp only [show List.range 4 = [0, 1, 2, 3] from rfl, Op.eqItems]
  simp [go_sem, part]
  by_cases ha : a = a' <;> by_cases hb : b = b' <;> by_cases hc : c = c' <;> by_cases hd : d = d' <;> simp [ha, hb, hc, hd]
theorem arr4_eql (w : World) (a b c d a' b' c' d' : Int) : (binOp .eql 40 (.agg #[.int .u32 a, .int .u32 b, .int .u32 c, .int .u32 d]) (.agg #[.int .u32 a', .int .u32 b', .int .u32 c', .int .u32 d'])).run Try.prog w =
    .ok (.bool (a == a' && (b == b' && (c == c' && d == d')))) w := by
  rw [run_eql_struct, arr4_equal]; rfl
theorem arr4_neq (w : World) (a b c d a' b' c' d' : Int) : (binOp .neq 40 (.agg #[.int .u32 a, .int .u32 b, .int .u32 c, .int .u32 d]) (.agg #[.int .u32 a', .int .u32 b', .int .u32 c', .int .u32 d'])).run Try.prog w =
    .ok (.bool (!(a == a' && (b == b' && (c == c' && d == d'))))) w := by
  rw [run_neq_struct, arr4_equal]; rfl

/-- Words are a record's. -/
def isRec (id a b c d : Int) : Prop := a = 3282393660 ∧ d = checkN id b c
instance (id a b c d : Int) : Decidable (isRec id a b c d) := by unfold isRec; infer_instance

set_option maxHeartbeats 800000 in
theorem of_yes (id a b c d : Int) (h0 : 0 ≤ b) (h1 : b < 4294967296) (k0 : 0 ≤ c) (k1 : c < 4294967296) (hr : isRec id a b c d) (w : World) :
    Calls Try.prog 24 #[.int .i64 id, .agg #[.int .u32 a, .int .u32 b, .int .u32 c, .int .u32 d]] w fun e w' => e = .returned (.tuple #[.agg #[.int .u32 b, .int .u32 c], .bool true]) ∧ Below w.heap.size w w' := by
  obtain ⟨rfl, rfl⟩ := hr
  go_enter Try.func24, Try.ntmps24
  go_wp2
  refine wp_name ?_
  intro w1 hw1
  have hb1 : RowKit.Below w.heap.size w w1 := by rw [hw1]; exact bal (bal (bal (Below.refl _ _) _) _) _
  have hA : Blk w1 w.heap.size 40 #[.int .u32 3282393660, .int .u32 b, .int .u32 c, .int .u32 (checkN id b c)] := by rw [hw1]; exact ((Blk.new _ _ _).alloc _).alloc _
  have hB : Blk w1 (w.heap.size + 1) 39 #[.int .u32 0, .int .u32 0] := by rw [hw1]; exact (Blk.fresh _ _ _).alloc _
  have hC : Blk w1 (w.heap.size + 2) 39 #[.int .u32 b, .int .u32 c] := by rw [hw1]; exact Blk.fresh _ _ _
  clear hw1
  refine wp_region_quiet_below (by kernel_rfl) (by kernel_rfl) ?_
  have e0 := blk_regrown hA
  have e1 := blk_regrown hC
  repeat (quiet_step ((go_at_call 27; exact regrown (check_any _ _ _ h0 h1 k0 k1 _))))
  refine wpQuiet_nil ?_
  rintro w2 ⟨p, rfl⟩
  have hb2 := below_regrown w1 p.d p.os
  generalize grow (redrawn w1 p.d) p.os = w2 at hb2 ⊢
  have c2 := (hB.kept hb2).cell
  have f2 := (hB.kept hb2).frozen
  have c4 := (hC.kept hb2).cell
  have hB2 := hB.kept hb2
  clear e0 e1 hA hB hC
  go_wp2
  have c3 := ((hB2.set_ 0 ((.int .u32 b))).set_ 1 ((.int .u32 c))).cell
  refine bodyPost_ret (v := .tuple #[.agg #[.int .u32 b, .int .u32 c], .bool true]) (by simp [results, Try.results24, go_sem, c3]) rfl ⟨rfl, ?_⟩
  exact (hb1.trans (hb2.mono hb1.size)).setCell (by simp) _ |>.setCell (by simp) _

set_option maxHeartbeats 800000 in
theorem of_no1 (id a b c d : Int) (h0 : 0 ≤ b) (h1 : b < 4294967296) (k0 : 0 ≤ c) (k1 : c < 4294967296) (ha : (a != 3282393660) = true) (w : World) :
    Calls Try.prog 24 #[.int .i64 id, .agg #[.int .u32 a, .int .u32 b, .int .u32 c, .int .u32 d]] w fun e w' => e = .returned (.tuple #[.agg #[.int .u32 0, .int .u32 0], .bool false]) ∧ Below w.heap.size w w' := by
  go_enter Try.func24, Try.ntmps24
  go_wp2
  refine wp_name ?_
  intro w1 hw1
  have hb1 : RowKit.Below w.heap.size w w1 := by rw [hw1]; exact bal (bal (bal (Below.refl _ _) _) _) _
  have hA : Blk w1 w.heap.size 40 #[.int .u32 a, .int .u32 b, .int .u32 c, .int .u32 d] := by rw [hw1]; exact ((Blk.new _ _ _).alloc _).alloc _
  have hB : Blk w1 (w.heap.size + 1) 39 #[.int .u32 0, .int .u32 0] := by rw [hw1]; exact (Blk.fresh _ _ _).alloc _
  have hC : Blk w1 (w.heap.size + 2) 39 #[.int .u32 b, .int .u32 c] := by rw [hw1]; exact Blk.fresh _ _ _
  clear hw1
  refine wp_region_quiet_below (by kernel_rfl) (by kernel_rfl) ?_
  have e0 := blk_regrown hA
  have e1 := blk_regrown hC
  repeat (quiet_step ((go_at_call 27; exact regrown (check_any _ _ _ h0 h1 k0 k1 _))))
  refine wpQuiet_nil ?_
  rintro w2 ⟨p, rfl⟩
  have hb2 := below_regrown w1 p.d p.os
  generalize grow (redrawn w1 p.d) p.os = w2 at hb2 ⊢
  have c2 := (hB.kept hb2).cell
  have f2 := (hB.kept hb2).frozen
  have c4 := (hC.kept hb2).cell
  have hB2 := hB.kept hb2
  clear e0 e1 hA hB hC
  go_wp2
  have c3 := ((hB2.set_ 0 ((.int .u32 0))).set_ 1 ((.int .u32 0))).cell
  refine bodyPost_ret (v := .tuple #[.agg #[.int .u32 0, .int .u32 0], .bool false]) (by simp [results, Try.results24, go_sem, c3]) rfl ⟨rfl, ?_⟩
  exact (hb1.trans (hb2.mono hb1.size)).setCell (by simp) _ |>.setCell (by simp) _

set_option maxHeartbeats 800000 in
theorem of_no2 (id a b c d : Int) (h0 : 0 ≤ b) (h1 : b < 4294967296) (k0 : 0 ≤ c) (k1 : c < 4294967296) (ha : a = 3282393660) (hd : (d != checkN id b c) = true) (w : World) :
    Calls Try.prog 24 #[.int .i64 id, .agg #[.int .u32 a, .int .u32 b, .int .u32 c, .int .u32 d]] w fun e w' => e = .returned (.tuple #[.agg #[.int .u32 0, .int .u32 0], .bool false]) ∧ Below w.heap.size w w' := by
  subst ha
  go_enter Try.func24, Try.ntmps24
  go_wp2
  refine wp_name ?_
  intro w1 hw1
  have hb1 : RowKit.Below w.heap.size w w1 := by rw [hw1]; exact bal (bal (bal (Below.refl _ _) _) _) _
  have hA : Blk w1 w.heap.size 40 #[.int .u32 3282393660, .int .u32 b, .int .u32 c, .int .u32 d] := by rw [hw1]; exact ((Blk.new _ _ _).alloc _).alloc _
  have hB : Blk w1 (w.heap.size + 1) 39 #[.int .u32 0, .int .u32 0] := by rw [hw1]; exact (Blk.fresh _ _ _).alloc _
  have hC : Blk w1 (w.heap.size + 2) 39 #[.int .u32 b, .int .u32 c] := by rw [hw1]; exact Blk.fresh _ _ _
  clear hw1
  refine wp_region_quiet_below (by kernel_rfl) (by kernel_rfl) ?_
  have e0 := blk_regrown hA
  have e1 := blk_regrown hC
  repeat (quiet_step ((go_at_call 27; exact regrown (check_any _ _ _ h0 h1 k0 k1 _))))
  refine wpQuiet_nil ?_
  rintro w2 ⟨p, rfl⟩
  have hb2 := below_regrown w1 p.d p.os
  generalize grow (redrawn w1 p.d) p.os = w2 at hb2 ⊢
  have c2 := (hB.kept hb2).cell
  have f2 := (hB.kept hb2).frozen
  have c4 := (hC.kept hb2).cell
  have hB2 := hB.kept hb2
  clear e0 e1 hA hB hC
  go_wp2
  have c3 := ((hB2.set_ 0 ((.int .u32 0))).set_ 1 ((.int .u32 0))).cell
  refine bodyPost_ret (v := .tuple #[.agg #[.int .u32 0, .int .u32 0], .bool false]) (by simp [results, Try.results24, go_sem, c3]) rfl ⟨rfl, ?_⟩
  exact (hb1.trans (hb2.mono hb1.size)).setCell (by simp) _ |>.setCell (by simp) _

set_option maxHeartbeats 800000 in
theorem refOf_yes (id a b c d : Int) (h0 : 0 ≤ b) (h1 : b < 4294967296) (k0 : 0 ≤ c) (k1 : c < 4294967296) (hr : isRec id a b c d) (w : World) :
    Calls Try.prog 25 #[.int .i64 id, .agg #[.int .u32 a, .int .u32 b, .int .u32 c, .int .u32 d]] w fun e w' => e = .returned (.tuple #[.agg #[.int .u32 b, .int .u32 c], .bool true]) ∧ Below w.heap.size w w' := by
  obtain ⟨rfl, rfl⟩ := hr
  have hneq := arr4_neq
  go_enter Try.func25, Try.ntmps25
  go_wp2
  refine wp_name ?_
  intro w1 hw1
  have hb1 : RowKit.Below w.heap.size w w1 := by rw [hw1]; exact bal (bal (bal (Below.refl _ _) _) _) _
  have hA : Blk w1 w.heap.size 40 #[.int .u32 3282393660, .int .u32 b, .int .u32 c, .int .u32 (checkN id b c)] := by rw [hw1]; exact ((Blk.new _ _ _).alloc _).alloc _
  have hB : Blk w1 (w.heap.size + 1) 39 #[.int .u32 0, .int .u32 0] := by rw [hw1]; exact (Blk.fresh _ _ _).alloc _
  have hC : Blk w1 (w.heap.size + 2) 39 #[.int .u32 b, .int .u32 c] := by rw [hw1]; exact Blk.fresh _ _ _
  clear hw1
  refine wp_region_quiet_below (by kernel_rfl) (by kernel_rfl) ?_
  have e0 := blk_regrown hA
  have e1 := blk_regrown hC
  repeat (quiet_step ((go_at_call 29; exact regrown (refWords_any _ _ _ h0 h1 k0 k1 _))))
  refine wpQuiet_nil ?_
  rintro w2 ⟨p, rfl⟩
  have hb2 := below_regrown w1 p.d p.os
  generalize grow (redrawn w1 p.d) p.os = w2 at hb2 ⊢
  have c2 := (hB.kept hb2).cell
  have f2 := (hB.kept hb2).frozen
  have c4 := (hC.kept hb2).cell
  have hB2 := hB.kept hb2
  clear e0 e1 hA hB hC
  go_wp2
  have c3 := ((hB2.set_ 0 ((.int .u32 b))).set_ 1 ((.int .u32 c))).cell
  refine bodyPost_ret (v := .tuple #[.agg #[.int .u32 b, .int .u32 c], .bool true]) (by simp [results, Try.results25, go_sem, c3]) rfl ⟨rfl, ?_⟩
  exact (hb1.trans (hb2.mono hb1.size)).setCell (by simp) _ |>.setCell (by simp) _

set_option maxHeartbeats 800000 in
theorem refOf_no (id a b c d : Int) (h0 : 0 ≤ b) (h1 : b < 4294967296) (k0 : 0 ≤ c) (k1 : c < 4294967296) (hr : ¬ isRec id a b c d) (w : World) :
    Calls Try.prog 25 #[.int .i64 id, .agg #[.int .u32 a, .int .u32 b, .int .u32 c, .int .u32 d]] w fun e w' => e = .returned (.tuple #[.agg #[.int .u32 0, .int .u32 0], .bool false]) ∧ Below w.heap.size w w' := by
  have hneq := arr4_neq
  have hno : (a == 3282393660 && d == checkN id b c) = false := by
    unfold isRec at hr
    simpa using hr
  clear hr
  go_enter Try.func25, Try.ntmps25
  go_wp2
  refine wp_name ?_
  intro w1 hw1
  have hb1 : RowKit.Below w.heap.size w w1 := by rw [hw1]; exact bal (bal (bal (Below.refl _ _) _) _) _
  have hA : Blk w1 w.heap.size 40 #[.int .u32 a, .int .u32 b, .int .u32 c, .int .u32 d] := by rw [hw1]; exact ((Blk.new _ _ _).alloc _).alloc _
  have hB : Blk w1 (w.heap.size + 1) 39 #[.int .u32 0, .int .u32 0] := by rw [hw1]; exact (Blk.fresh _ _ _).alloc _
  have hC : Blk w1 (w.heap.size + 2) 39 #[.int .u32 b, .int .u32 c] := by rw [hw1]; exact Blk.fresh _ _ _
  clear hw1
  refine wp_region_quiet_below (by kernel_rfl) (by kernel_rfl) ?_
  have e0 := blk_regrown hA
  have e1 := blk_regrown hC
  repeat (quiet_step ((go_at_call 29; exact regrown (refWords_any _ _ _ h0 h1 k0 k1 _))))
  refine wpQuiet_nil ?_
  rintro w2 ⟨p, rfl⟩
  have hb2 := below_regrown w1 p.d p.os
  generalize grow (redrawn w1 p.d) p.os = w2 at hb2 ⊢
  have c2 := (hB.kept hb2).cell
  have f2 := (hB.kept hb2).frozen
  have c4 := (hC.kept hb2).cell
  have hB2 := hB.kept hb2
  clear e0 e1 hA hB hC
  go_wp2
  have c3 := ((hB2.set_ 0 ((.int .u32 0))).set_ 1 ((.int .u32 0))).cell
  refine bodyPost_ret (v := .tuple #[.agg #[.int .u32 0, .int .u32 0], .bool false]) (by simp [results, Try.results25, go_sem, c3]) rfl ⟨rfl, ?_⟩
  exact (hb1.trans (hb2.mono hb1.size)).setCell (by simp) _ |>.setCell (by simp) _

end Go.Proofs.Ytdkhkpjepnmjnaa
