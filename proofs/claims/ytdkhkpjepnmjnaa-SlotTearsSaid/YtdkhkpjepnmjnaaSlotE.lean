/- Chapter 12, the slots: writes that are torn. -/
import Derived.Test.YtdkhkpjepnmjnaaSlotD
import Derived.Lib.MinMax
namespace Go.Proofs.Ytdkhkpjepnmjnaa
set_option linter.unusedVariables false
open Go.RowKit Go.Sort

theorem front_rows {α : Type} {enc : α → List Value} {s : Nat} (hs : ∀ x, (enc x).length = s) (l : List α) (m : Nat) : (l.flatMap enc).take (m * s) = (l.take m).flatMap enc := by
  induction l generalizing m with
  | nil => simp
  | cons a l ih =>
    cases m with
    | zero => simp
    | succ m =>
      rw [List.flatMap_cons, List.take_succ_cons, List.flatMap_cons, Nat.succ_mul, List.take_append, List.take_of_length_le (by rw [hs]; omega), hs, Nat.add_sub_cancel, ih]

theorem after_y (x y : W4) (A : Option Addr) (n c : Nat) (l : List (Int × Int)) (hy : l.foldl put4 x = y) (hl : l.length = n) (hn : n ≤ 9223372036854775807) (w : World) (hr : Rd w w.heap.size 2 A n (l.flatMap encP)) :
    Calls Try.prog 39 #[.agg #[.int .u32 x.a, .int .u32 x.b, .int .u32 x.c, .int .u32 x.d], .slice A n c] w fun e w' => e = .returned (.agg #[.int .u32 y.a, .int .u32 y.b, .int .u32 y.c, .int .u32 y.d]) ∧ Below w.heap.size w w' := by
  subst hy
  exact after_any x A n c l hl hn w hr

theorem torn_at (x y : W4) (l : List (Int × Int)) (k mask : Int) (m : Nat) (hm : min (max k 0) (l.length : Int) = (m : Int)) (hlt : m < l.length) (hy : (l.take m).foldl put4 x = y) : tornN x l k mask = tear mask y l[m] := by
  have hu : upTo k l.length = m := by unfold upTo; omega
  unfold tornN
  rw [hu, List.getElem?_eq_getElem hlt, hy]
theorem torn_end (x y : W4) (l : List (Int × Int)) (k mask : Int) (m : Nat) (hm : min (max k 0) (l.length : Int) = (m : Int)) (hlt : l.length ≤ m) (hy : (l.take m).foldl put4 x = y) : tornN x l k mask = y := by
  have hu : upTo k l.length = l.length := by unfold upTo; omega
  unfold tornN
  rw [hu, List.getElem?_eq_none (Nat.le_refl _)]
  rwa [List.take_of_length_le hlt] at hy

set_option maxHeartbeats 2000000 in
theorem torn_mid (x : W4) (A : Option Addr) (n c : Nat) (l : List (Int × Int)) (k mask : Int) (m : Nat) (hm : min (max k 0) (n : Int) = (m : Int)) (hmn : m ≤ n) (hl : l.length = n) (hn : n ≤ 9223372036854775807) (hc : n ≤ c) (w : World) (hr : Rd w w.heap.size 2 A n (l.flatMap encP)) :
    Calls Try.prog 40 #[.agg x.arr, .slice A n c, .int .i64 k, .int .u32 mask] w fun e w' => e = .returned (.agg (tornN x l k mask).arr) ∧ Below w.heap.size w w' := by
  have hfr : Rd w w.heap.size 2 A m ((l.take m).flatMap encP) := by rw [← front_rows (s := 2) (fun _ => rfl)]; exact hr.front hmn
  have hmc : m ≤ c := by omega
  obtain ⟨y, hy⟩ : ∃ y, (l.take m).foldl put4 x = y := ⟨_, rfl⟩
  have HY := Lib.hid hy
  clear hy
  unfold W4.arr
  go_enter Try.func40, Try.ntmps40
  go_wp2
  refine wp_name ?_
  intro w1 hw1
  have hb1 : RowKit.Below w.heap.size w w1 := by rw [hw1]; exact bal (bal (Below.refl _ _) _) _
  have hA : Blk w1 w.heap.size 40 x.arr := by rw [hw1]; exact (Blk.new _ _ _).alloc _
  have hB : Blk w1 (w.heap.size + 1) 40 #[.int .u32 0, .int .u32 0, .int .u32 0, .int .u32 0] := by rw [hw1]; exact Blk.fresh _ _ _
  clear hw1
  refine wp_region_tail_below 5 (by kernel_rfl) (by kernel_rfl) ?_
  have e0 := blk_regrown hA
  unfold W4.arr at e0
  simp only [List.take_succ_cons, List.take_zero, List.drop_succ_cons, List.drop_zero]
  repeat (quiet_step ((go_at_call 39; exact regrown (after_y x y A m _ (l.take m) HY.out (by simp; omega) (by omega) _ ((hfr.below (hb1.trans ((below_regrown w1 _ _).mono hb1.size))).more (Nat.le_trans hb1.size (below_regrown w1 _ _).size))))))
  refine wpQuiet_nil ?_
  rintro w2 ⟨p, rfl⟩
  have hb2 := below_regrown w1 p.d p.os
  generalize grow (redrawn w1 p.d) p.os = w2 at hb2 ⊢
  clear e0
  have hA2 := hA.kept hb2
  have hB2 := hB.kept hb2
  have c2 := hA2.cell
  have f2 := hA2.frozen
  unfold W4.arr at c2
  have hsz := hB2.lt
  have hsz0 := hA2.lt
  have hb0 : RowKit.Below w.heap.size w w2 := hb1.trans (hb2.mono hb1.size)
  have f3 := hB2.frozen
  have c3 := hB2.cell
  by_cases hlt : m < n
  · have hne : ((m : Int) == (n : Int)) = false := by rw [beq_eq_false_iff_ne]; omega
    have hlt' : m < l.length := by omega
    obtain ⟨b, off, rfl, hbb, hcl⟩ := (hr.below hb0).row (fun _ => rfl) hlt' hl
    have g0 := hcl 0 (by omega)
    have g1 := hcl 1 (by omega)
    simp only [encP, Nat.add_zero] at g0 g1
    have HX := Lib.hid (torn_at x y l k mask m (by rw [hl]; exact hm) hlt' HY.out)
    have hbn : ¬ (b = w.heap.size) := by omega
    have hbn' : ¬ (w.heap.size = b) := by omega
    clear hcl hm hb1 hb2 hA hB hfr hr
    generalize l[m] = q at *
    obtain ⟨at_, v⟩ := q
    simp only [List.getElem?_cons_zero, List.getElem?_cons_succ] at g0 g1
    by_cases hp : 0 ≤ at_ ∧ at_ ≤ 3
    · obtain ⟨hp0, hp1⟩ := hp
      rcases (by omega : at_ = 0 ∨ at_ = 1 ∨ at_ = 2 ∨ at_ = 3) with rfl | rfl | rfl | rfl
      · go_wp2
        refine wp_name ?_
        intro w3 hw3
        have hb3 : RowKit.Below w.heap.size w w3 := by rw [hw3]; exact bal (below4 hb0 (Nat.le_refl _) _ _ _ _) _
        have hA3 : Blk w3 w.heap.size 40 y.arr := by rw [hw3]; exact (set4 hA2 rfl _ _ _ _).alloc _
        have hB3 : Blk w3 (w.heap.size + 1) 40 #[.int .u32 0, .int .u32 0, .int .u32 0, .int .u32 0] := by rw [hw3]; exact (far4 hB2 (by simp) _ _ _ _).alloc _
        have hC3 : Blk w3 w2.heap.size 62 #[.int .i64 0, .int .u32 v] := by rw [hw3]; exact Blk.fresh _ _ _
        clear hw3 hb0 hA2 hB2 c2 f2 c3 f3 g0 g1
        refine wp_region_tail_below 14 (by kernel_rfl) (by kernel_rfl) ?_
        have e0 := blk_regrown hA3
        have e1 := blk_regrown hC3
        unfold W4.arr at e0
        simp only [List.take_succ_cons, List.take_zero, List.drop_succ_cons, List.drop_zero]
        repeat (quiet_step (fail))
        refine wpQuiet_nil ?_
        rintro w4 ⟨p4, rfl⟩
        have hb4 := hb3.trans ((below_regrown w3 p4.d p4.os).mono hb3.size)
        have hA4 := hA3.kept (below_regrown w3 p4.d p4.os)
        have hB4 := hB3.kept (below_regrown w3 p4.d p4.os)
        generalize grow (redrawn w3 p4.d) p4.os = w4 at *
        have c4 := hA4.cell
        have f4 := hA4.frozen
        have d4 := hB4.cell
        have k4 := hB4.frozen
        unfold W4.arr at c4
        clear e0 e1 hA3 hB3 hC3 hb3
        go_wp2
        have c5 := (set4 (hB4.far (p := ⟨w.heap.size, 0, none⟩) (by simp) (.int .u32 (bits .or .u32 (bits .andNot .u32 y.a mask) (bits .and .u32 v mask)))) rfl (.int .u32 (bits .or .u32 (bits .andNot .u32 y.a mask) (bits .and .u32 v mask))) (.int .u32 y.b) (.int .u32 y.c) (.int .u32 y.d)).cell
        refine bodyPost_ret (v := .agg (tear mask y (0, v)).arr) (by simp [results, Try.results40, go_sem, c5, W4.arr, tear]) rfl ⟨by rw [HX.out]; rfl, ?_⟩
        exact below4 (hb4.setCell (p := ⟨w.heap.size, 0, none⟩) (Nat.le_refl _) _) (by omega) _ _ _ _
      · go_wp2
        refine wp_name ?_
        intro w3 hw3
        have hb3 : RowKit.Below w.heap.size w w3 := by rw [hw3]; exact bal (below4 hb0 (Nat.le_refl _) _ _ _ _) _
        have hA3 : Blk w3 w.heap.size 40 y.arr := by rw [hw3]; exact (set4 hA2 rfl _ _ _ _).alloc _
        have hB3 : Blk w3 (w.heap.size + 1) 40 #[.int .u32 0, .int .u32 0, .int .u32 0, .int .u32 0] := by rw [hw3]; exact (far4 hB2 (by simp) _ _ _ _).alloc _
        have hC3 : Blk w3 w2.heap.size 62 #[.int .i64 1, .int .u32 v] := by rw [hw3]; exact Blk.fresh _ _ _
        clear hw3 hb0 hA2 hB2 c2 f2 c3 f3 g0 g1
        refine wp_region_tail_below 14 (by kernel_rfl) (by kernel_rfl) ?_
        have e0 := blk_regrown hA3
        have e1 := blk_regrown hC3
        unfold W4.arr at e0
        simp only [List.take_succ_cons, List.take_zero, List.drop_succ_cons, List.drop_zero]
        repeat (quiet_step (fail))
        refine wpQuiet_nil ?_
        rintro w4 ⟨p4, rfl⟩
        have hb4 := hb3.trans ((below_regrown w3 p4.d p4.os).mono hb3.size)
        have hA4 := hA3.kept (below_regrown w3 p4.d p4.os)
        have hB4 := hB3.kept (below_regrown w3 p4.d p4.os)
        generalize grow (redrawn w3 p4.d) p4.os = w4 at *
        have c4 := hA4.cell
        have f4 := hA4.frozen
        have d4 := hB4.cell
        have k4 := hB4.frozen
        unfold W4.arr at c4
        clear e0 e1 hA3 hB3 hC3 hb3
        go_wp2
        have c5 := (set4 (hB4.far (p := ⟨w.heap.size, 1, none⟩) (by simp) (.int .u32 (bits .or .u32 (bits .andNot .u32 y.b mask) (bits .and .u32 v mask)))) rfl (.int .u32 y.a) (.int .u32 (bits .or .u32 (bits .andNot .u32 y.b mask) (bits .and .u32 v mask))) (.int .u32 y.c) (.int .u32 y.d)).cell
        refine bodyPost_ret (v := .agg (tear mask y (1, v)).arr) (by simp [results, Try.results40, go_sem, c5, W4.arr, tear]) rfl ⟨by rw [HX.out]; rfl, ?_⟩
        exact below4 (hb4.setCell (p := ⟨w.heap.size, 1, none⟩) (Nat.le_refl _) _) (by omega) _ _ _ _
      · go_wp2
        refine wp_name ?_
        intro w3 hw3
        have hb3 : RowKit.Below w.heap.size w w3 := by rw [hw3]; exact bal (below4 hb0 (Nat.le_refl _) _ _ _ _) _
        have hA3 : Blk w3 w.heap.size 40 y.arr := by rw [hw3]; exact (set4 hA2 rfl _ _ _ _).alloc _
        have hB3 : Blk w3 (w.heap.size + 1) 40 #[.int .u32 0, .int .u32 0, .int .u32 0, .int .u32 0] := by rw [hw3]; exact (far4 hB2 (by simp) _ _ _ _).alloc _
        have hC3 : Blk w3 w2.heap.size 62 #[.int .i64 2, .int .u32 v] := by rw [hw3]; exact Blk.fresh _ _ _
        clear hw3 hb0 hA2 hB2 c2 f2 c3 f3 g0 g1
        refine wp_region_tail_below 14 (by kernel_rfl) (by kernel_rfl) ?_
        have e0 := blk_regrown hA3
        have e1 := blk_regrown hC3
        unfold W4.arr at e0
        simp only [List.take_succ_cons, List.take_zero, List.drop_succ_cons, List.drop_zero]
        repeat (quiet_step (fail))
        refine wpQuiet_nil ?_
        rintro w4 ⟨p4, rfl⟩
        have hb4 := hb3.trans ((below_regrown w3 p4.d p4.os).mono hb3.size)
        have hA4 := hA3.kept (below_regrown w3 p4.d p4.os)
        have hB4 := hB3.kept (below_regrown w3 p4.d p4.os)
        generalize grow (redrawn w3 p4.d) p4.os = w4 at *
        have c4 := hA4.cell
        have f4 := hA4.frozen
        have d4 := hB4.cell
        have k4 := hB4.frozen
        unfold W4.arr at c4
        clear e0 e1 hA3 hB3 hC3 hb3
        go_wp2
        have c5 := (set4 (hB4.far (p := ⟨w.heap.size, 2, none⟩) (by simp) (.int .u32 (bits .or .u32 (bits .andNot .u32 y.c mask) (bits .and .u32 v mask)))) rfl (.int .u32 y.a) (.int .u32 y.b) (.int .u32 (bits .or .u32 (bits .andNot .u32 y.c mask) (bits .and .u32 v mask))) (.int .u32 y.d)).cell
        refine bodyPost_ret (v := .agg (tear mask y (2, v)).arr) (by simp [results, Try.results40, go_sem, c5, W4.arr, tear]) rfl ⟨by rw [HX.out]; rfl, ?_⟩
        exact below4 (hb4.setCell (p := ⟨w.heap.size, 2, none⟩) (Nat.le_refl _) _) (by omega) _ _ _ _
      · go_wp2
        refine wp_name ?_
        intro w3 hw3
        have hb3 : RowKit.Below w.heap.size w w3 := by rw [hw3]; exact bal (below4 hb0 (Nat.le_refl _) _ _ _ _) _
        have hA3 : Blk w3 w.heap.size 40 y.arr := by rw [hw3]; exact (set4 hA2 rfl _ _ _ _).alloc _
        have hB3 : Blk w3 (w.heap.size + 1) 40 #[.int .u32 0, .int .u32 0, .int .u32 0, .int .u32 0] := by rw [hw3]; exact (far4 hB2 (by simp) _ _ _ _).alloc _
        have hC3 : Blk w3 w2.heap.size 62 #[.int .i64 3, .int .u32 v] := by rw [hw3]; exact Blk.fresh _ _ _
        clear hw3 hb0 hA2 hB2 c2 f2 c3 f3 g0 g1
        refine wp_region_tail_below 14 (by kernel_rfl) (by kernel_rfl) ?_
        have e0 := blk_regrown hA3
        have e1 := blk_regrown hC3
        unfold W4.arr at e0
        simp only [List.take_succ_cons, List.take_zero, List.drop_succ_cons, List.drop_zero]
        repeat (quiet_step (fail))
        refine wpQuiet_nil ?_
        rintro w4 ⟨p4, rfl⟩
        have hb4 := hb3.trans ((below_regrown w3 p4.d p4.os).mono hb3.size)
        have hA4 := hA3.kept (below_regrown w3 p4.d p4.os)
        have hB4 := hB3.kept (below_regrown w3 p4.d p4.os)
        generalize grow (redrawn w3 p4.d) p4.os = w4 at *
        have c4 := hA4.cell
        have f4 := hA4.frozen
        have d4 := hB4.cell
        have k4 := hB4.frozen
        unfold W4.arr at c4
        clear e0 e1 hA3 hB3 hC3 hb3
        go_wp2
        have c5 := (set4 (hB4.far (p := ⟨w.heap.size, 3, none⟩) (by simp) (.int .u32 (bits .or .u32 (bits .andNot .u32 y.d mask) (bits .and .u32 v mask)))) rfl (.int .u32 y.a) (.int .u32 y.b) (.int .u32 y.c) (.int .u32 (bits .or .u32 (bits .andNot .u32 y.d mask) (bits .and .u32 v mask)))).cell
        refine bodyPost_ret (v := .agg (tear mask y (3, v)).arr) (by simp [results, Try.results40, go_sem, c5, W4.arr, tear]) rfl ⟨by rw [HX.out]; rfl, ?_⟩
        exact below4 (hb4.setCell (p := ⟨w.heap.size, 3, none⟩) (Nat.le_refl _) _) (by omega) _ _ _ _
    · have HT := Lib.hid (tear_no mask y at_ v hp)
      go_wp2
      all_goals first | (exfalso; omega) | skip
      all_goals
        have c4 := ((set4 (far4 (g' := w.heap.size) hB2 (by omega) (.int .u32 y.a) (.int .u32 y.b) (.int .u32 y.c) (.int .u32 y.d)) rfl (.int .u32 y.a) (.int .u32 y.b) (.int .u32 y.c) (.int .u32 y.d)).alloc (.cells #[.int .i64 at_, .int .u32 v] 62)).cell
        refine bodyPost_ret (v := .agg y.arr) (by simp [results, Try.results40, go_sem, c4, W4.arr]) rfl ⟨by rw [HX.out, HT.out]; rfl, ?_⟩
        exact bal (below4 (below4 hb0 (Nat.le_refl _) _ _ _ _) (by omega) _ _ _ _) _
  · obtain rfl : m = n := by omega
    have HX := Lib.hid (torn_end x y l k mask m (by rw [hl]; exact hm) (by omega) HY.out)
    clear hm hb1 hb2 hA hB hfr hr
    go_wp2
    have c4 := (set4 (far4 (g' := w.heap.size) hB2 (by omega) (.int .u32 y.a) (.int .u32 y.b) (.int .u32 y.c) (.int .u32 y.d)) rfl (.int .u32 y.a) (.int .u32 y.b) (.int .u32 y.c) (.int .u32 y.d)).cell
    refine bodyPost_ret (v := .agg y.arr) (by simp [results, Try.results40, go_sem, c4, W4.arr]) rfl ⟨by rw [HX.out]; rfl, ?_⟩
    exact below4 (below4 hb0 (by omega) _ _ _ _) (by omega) _ _ _ _

theorem torn_any (x y : W4) (A : Option Addr) (n c : Nat) (l : List (Int × Int)) (k mask : Int) (hy : tornN x l k mask = y) (hl : l.length = n) (hn : n ≤ 9223372036854775807) (hc : n ≤ c) (w : World) (hr : Rd w w.heap.size 2 A n (l.flatMap encP)) :
    Calls Try.prog 40 #[.agg #[.int .u32 x.a, .int .u32 x.b, .int .u32 x.c, .int .u32 x.d], .slice A n c, .int .i64 k, .int .u32 mask] w fun e w' => e = .returned (.agg #[.int .u32 y.a, .int .u32 y.b, .int .u32 y.c, .int .u32 y.d]) ∧ Below w.heap.size w w' := by
  subst hy
  exact torn_mid x A n c l k mask (min (max k 0) (n : Int)).toNat (by omega) (by omega) hl hn hc w hr
end Go.Proofs.Ytdkhkpjepnmjnaa
