/- Chapter 12, the slots: the examples; the law SlotTells. -/
import Derived.Test.YtdkhkpjepnmjnaaSlotE
namespace Go.Proofs.Ytdkhkpjepnmjnaa
set_option linter.unusedVariables false
open Go.RowKit Go.Sort Go.ChangeShapes Go.WideShapes

theorem of_awake (w : World) : Calls Try.prog 24 #[.int .i64 3, .agg #[.int .u32 3282393660, .int .u32 1, .int .u32 7, .int .u32 (checkN 3 1 7)]] w fun e w' => e = .returned (.tuple #[.agg #[.int .u32 1, .int .u32 7], .bool true]) ∧ Below w.heap.size w w' :=
  of_yes 3 3282393660 1 7 (checkN 3 1 7) (by decide) (by decide) (by decide) (by decide) ⟨rfl, rfl⟩ w
theorem of_zero (w : World) : Calls Try.prog 24 #[.int .i64 3, .agg #[.int .u32 0, .int .u32 0, .int .u32 0, .int .u32 0]] w fun e w' => e = .returned (.tuple #[.agg #[.int .u32 0, .int .u32 0], .bool false]) ∧ Below w.heap.size w w' :=
  of_no1 3 0 0 0 0 (by decide) (by decide) (by decide) (by decide) (by decide) w

set_option maxHeartbeats 2000000 in
theorem awake12_any (w : World) :
    Calls Try.prog 23 #[] w fun e w' => e = .returned (.bool true) ∧ Below w.heap.size w w' := by
  go_enter Try.func23, Try.ntmps23
  go_wp2_with (first
    | (go_at_call 26; refine (words_any 3 1 7 (by decide) (by decide) (by decide) (by decide) _).mono ?_; rintro e w1 ⟨rfl, hb1⟩; have hB1 := (Blk.new w 39 #[.int .u32 1, .int .u32 7]).kept hb1; have hl1 := hB1.lt; have hb1' := below_alloc hb1; clear hb1)
    | (go_at_call 24; with_reducible (refine (of_awake _).mono ?_); rintro e w2 ⟨rfl, hb2⟩; have hB2 := hB1.kept hb2; have hl2 := hB2.lt; have hb2' := hb1'.trans (hb2.mono hb1'.size); clear hb2)
    | (go_at_call 24; with_reducible (refine (of_zero _).mono ?_); rintro e w3 ⟨rfl, hb3⟩; have hB3 := (hB2.alloc _).kept hb3; have hC3 := (Blk.new w2 39 #[.int .u32 1, .int .u32 7]).kept hb3; have hl3 := hB3.lt; have hm3 := hC3.lt; have cB := hB3.cell; have cC := hC3.cell; have hb3' := hb2'.trans (below_alloc hb3 |>.mono hb2'.size); clear hb3)
    | (go_at_call 37; refine (steps_no 3 0 0 0 0 1 7 (by decide) (by decide) (by decide) (by decide) (by decide) _).mono ?_; rintro e w4 ⟨A, c, rfl, _, hr4, hb4⟩; have hb4' := hb3'.trans (below_alloc hb4 |>.mono hb3'.size); clear hb4))
  go_ret
  exact ⟨rfl, hb4'⟩

theorem of_words (id q v : Int) (h0 : 0 ≤ q) (h1 : q < 4294967296) (k0 : 0 ≤ v) (k1 : v < 4294967296) (w : World) : Calls Try.prog 24 #[.int .i64 id, .agg #[.int .u32 3282393660, .int .u32 q, .int .u32 v, .int .u32 (checkN id q v)]] w fun e w' => e = .returned (.tuple #[.agg #[.int .u32 q, .int .u32 v], .bool true]) ∧ Below w.heap.size w w' :=
  of_yes id 3282393660 q v (checkN id q v) h0 h1 k0 k1 ⟨rfl, rfl⟩ w
/-- What 'Of' answers. -/
def ofN (id a b c d : Int) : Int × Int × Bool := if isRec id a b c d then (b, c, true) else (0, 0, false)
theorem of_any (id a b c d x y : Int) (f : Bool) (hx : ofN id a b c d = (x, y, f)) (h0 : 0 ≤ b) (h1 : b < 4294967296) (k0 : 0 ≤ c) (k1 : c < 4294967296) (w : World) :
    Calls Try.prog 24 #[.int .i64 id, .agg #[.int .u32 a, .int .u32 b, .int .u32 c, .int .u32 d]] w fun e w' => e = .returned (.tuple #[.agg #[.int .u32 x, .int .u32 y], .bool f]) ∧ Below w.heap.size w w' := by
  unfold ofN at hx
  split at hx
  · rename_i h; cases hx; exact of_yes id a b c d h0 h1 k0 k1 h w
  · rename_i h; cases hx
    by_cases ha : a = 3282393660
    · exact of_no2 id a b c d h0 h1 k0 k1 ha (by unfold isRec at h; simp only [bne_iff_ne, ne_eq]; intro hd; exact h ⟨ha, hd⟩) w
    · exact of_no1 id a b c d h0 h1 k0 k1 (by simpa using ha) w
theorem refOf_any (id a b c d x y : Int) (f : Bool) (hx : ofN id a b c d = (x, y, f)) (h0 : 0 ≤ b) (h1 : b < 4294967296) (k0 : 0 ≤ c) (k1 : c < 4294967296) (w : World) :
    Calls Try.prog 25 #[.int .i64 id, .agg #[.int .u32 a, .int .u32 b, .int .u32 c, .int .u32 d]] w fun e w' => e = .returned (.tuple #[.agg #[.int .u32 x, .int .u32 y], .bool f]) ∧ Below w.heap.size w w' := by
  unfold ofN at hx
  split at hx
  · rename_i h; cases hx; exact refOf_yes id a b c d h0 h1 k0 k1 h w
  · rename_i h; cases hx; exact refOf_no id a b c d h0 h1 k0 k1 h w

set_option maxHeartbeats 2000000 in
theorem slotTells_any (id q v a b c d : Int) (q0 : 0 ≤ q) (q1 : q < 4294967296) (v0 : 0 ≤ v) (v1 : v < 4294967296) (b0 : 0 ≤ b) (b1 : b < 4294967296) (c0 : 0 ≤ c) (c1 : c < 4294967296) (w : World) :
    Calls Try.prog 6 #[.int .i64 id, .agg #[.int .u32 q, .int .u32 v], .agg #[.int .u32 a, .int .u32 b, .int .u32 c, .int .u32 d]] w fun e w' => e = .returned (.bool true) ∧ Below w.heap.size w w' := by
  obtain ⟨x, y, f, hx⟩ : ∃ x y f, ofN id a b c d = (x, y, f) := ⟨_, _, _, rfl⟩
  have HX := Lib.hid hx
  clear hx
  go_enter Try.func6, Try.ntmps6
  go_wp2_with (first
    | (go_at_call 23; refine (awake12_any _).mono ?_; rintro e w1 ⟨rfl, hb1⟩; have hR1 := ((Blk.new w 39 #[.int .u32 q, .int .u32 v]).alloc (.cells #[.int .u32 a, .int .u32 b, .int .u32 c, .int .u32 d] 40)).kept hb1; have hW1 := Blk.kept (g := w.heap.size + 1) (Blk.fresh (w.alloc (.cells #[.int .u32 q, .int .u32 v] 39)) 40 #[.int .u32 a, .int .u32 b, .int .u32 c, .int .u32 d]) hb1; have hb1' := below_alloc (below_alloc hb1); clear hb1; have eW1 := hW1.cell)
    | (go_at_call 24; with_reducible (refine (of_any id a b c d x y f HX.out b0 b1 c0 c1 _).mono ?_); rintro e w2 ⟨rfl, hb2⟩; have hR2 := hR1.kept hb2; have hW2 := hW1.kept hb2; have hb2' := hb1'.trans (hb2.mono hb1'.size); clear hb2 eW1 hR1 hW1 hb1'; have eW2 := hW2.cell; have lW2 := hW2.lt)
    | (go_at_call 25; with_reducible (refine (refOf_any id a b c d x y f HX.out b0 b1 c0 c1 _).mono ?_); rintro e w3 ⟨rfl, hb3⟩; have hR3 := (hR2.alloc _).kept hb3; have hX3 := (Blk.new w2 39 #[.int .u32 x, .int .u32 y]).kept hb3; have hb3' := hb2'.trans ((below_alloc hb3).mono hb2'.size); clear hb3 eW2 lW2 hR2 hW2 hb2'; have eR3 := hR3.cell; have lR3 := hR3.lt)
    | (go_at_call 26; refine (words_any id q v q0 q1 v0 v1 _).mono ?_; rintro e w4 ⟨rfl, hb4⟩; have hR4 := (hR3.alloc _).kept hb4; have hX4 := (hX3.alloc _).kept hb4; have hY4 := (Blk.new w3 39 #[.int .u32 x, .int .u32 y]).kept hb4; have hb4' := hb3'.trans ((below_alloc hb4).mono hb3'.size); clear hb4 eR3 lR3 hR3 hX3 hb3')
    | (go_at_call 24; with_reducible (refine (of_words id q v q0 q1 v0 v1 _).mono ?_); rintro e w5 ⟨rfl, hb5⟩; have hR5 := hR4.kept hb5; have hX5 := hX4.kept hb5; have hY5 := hY4.kept hb5; have hb5' := hb4'.trans (hb5.mono hb4'.size); clear hb5 hR4 hX4 hY4 hb4'))
  refine wp_name ?_
  intro w6 hw6
  have hR6 : Blk w6 w.heap.size 39 #[.int .u32 q, .int .u32 v] := by rw [hw6]; exact hR5.alloc _
  have hX6 : Blk w6 w2.heap.size 39 #[.int .u32 x, .int .u32 y] := by rw [hw6]; exact hX5.alloc _
  have hY6 : Blk w6 w3.heap.size 39 #[.int .u32 x, .int .u32 y] := by rw [hw6]; exact hY5.alloc _
  have hZ6 : Blk w6 w5.heap.size 39 #[.int .u32 q, .int .u32 v] := by rw [hw6]; exact Blk.new _ _ _
  have hb6 : RowKit.Below w.heap.size w w6 := by rw [hw6]; exact bal hb5' _
  clear hw6 hb5' hR5 hX5 hY5
  refine wp_region_quiet_below (by kernel_rfl) (by kernel_rfl) ?_
  have e0 := blk_regrown hR6
  have e1 := blk_regrown hX6
  have e2 := blk_regrown hY6
  have e3 := blk_regrown hZ6
  have heq := arr4_eql
  repeat (quiet_step (first
    | (go_at_call 27; exact regrown (check_any _ _ _ q0 q1 v0 v1 _))
    | (go_at_call 28; exact regrown (refCheck_any _ _ _ q0 q1 v0 v1 _))
    | (go_at_call 26; exact regrown (words_any _ _ _ q0 q1 v0 v1 _))
    | (go_at_call 29; exact regrown (refWords_any _ _ _ q0 q1 v0 v1 _))))
  refine wpQuiet_nil ?_
  rintro w7 ⟨p, rfl⟩
  have hb7 := hb6.trans ((below_regrown w6 p.d p.os).mono hb6.size)
  generalize grow (redrawn w6 p.d) p.os = w7 at hb7 ⊢
  clear e0 e1 e2 e3
  go_wp2
  go_ret
  exact ⟨rfl, hb7⟩

end Go.Proofs.Ytdkhkpjepnmjnaa
