/- Chapter 12: the law SlotWhole. -/
import Derived.Test.YtdkhkpjepnmjnaaSlotH
namespace Go.Proofs.Ytdkhkpjepnmjnaa
set_option linter.unusedVariables false
open Go.RowKit Go.Sort Go.ChangeShapes Go.WideShapes

theorem or_u32_bd (a b : Int) : 0 ≤ bits .or .u32 a b ∧ bits .or .u32 a b < 4294967296 := by
  have : bits .or .u32 a b = IntKind.u32.wrap ((BitVec.ofInt 32 a ||| BitVec.ofInt 32 b).toNat : Int) := rfl
  rw [this, IntKind.wrap_u32]
  omega
/-- Words that fit. -/
def W4.ok (x : W4) : Prop := (0 ≤ x.b ∧ x.b < 4294967296) ∧ 0 ≤ x.c ∧ x.c < 4294967296
theorem put4_ok (x : W4) (p : Int × Int) (hx : x.ok) (hp : 0 ≤ p.2 ∧ p.2 < 4294967296) : (put4 x p).ok := by
  unfold put4
  split
  · exact hx
  · split
    · exact ⟨hp, hx.2⟩
    · split
      · exact ⟨hx.1, hp⟩
      · split
        · exact hx
        · exact hx
theorem tear_ok (m : Int) (x : W4) (p : Int × Int) (hx : x.ok) : (tear m x p).ok := by
  unfold tear
  split
  · exact hx
  · split
    · exact ⟨or_u32_bd _ _, hx.2⟩
    · split
      · exact ⟨hx.1, or_u32_bd _ _⟩
      · split
        · exact hx
        · exact hx
theorem fold_ok (l : List (Int × Int)) : ∀ x : W4, x.ok → (∀ p ∈ l, 0 ≤ p.2 ∧ p.2 < 4294967296) → (l.foldl put4 x).ok := by
  induction l with
  | nil => intro x hx _; exact hx
  | cons p l ih => intro x hx hp; exact ih _ (put4_ok x p hx (hp p (List.mem_cons_self ..))) (fun q hq => hp q (List.mem_cons_of_mem _ hq))
theorem torn_ok (x : W4) (l : List (Int × Int)) (k m : Int) (hx : x.ok) (hl : ∀ p ∈ l, 0 ≤ p.2 ∧ p.2 < 4294967296) : (tornN x l k m).ok := by
  unfold tornN
  split
  · exact tear_ok _ _ _ (fold_ok _ _ hx (fun p hp => hl p (List.mem_of_mem_take hp)))
  · exact fold_ok _ _ hx hl
theorem steps_ok (id a q v : Int) (q0 : 0 ≤ q) (q1 : q < 4294967296) (v0 : 0 ≤ v) (v1 : v < 4294967296) : ∀ p ∈ stepsN id a q v, 0 ≤ p.2 ∧ p.2 < 4294967296 := by
  have := checkN_bd id q v
  unfold stepsN tail4
  split <;> simp <;> omega

/-- The plain law: torn words are no record, or the old one, or the new one. -/
theorem whole_plain (id a b c d q v k m : Int) (h : isRec id (tornN ⟨a, b, c, d⟩ (stepsN id a q v) k m).a (tornN ⟨a, b, c, d⟩ (stepsN id a q v) k m).b (tornN ⟨a, b, c, d⟩ (stepsN id a q v) k m).c (tornN ⟨a, b, c, d⟩ (stepsN id a q v) k m).d) :
    ((tornN ⟨a, b, c, d⟩ (stepsN id a q v) k m).b = q ∧ (tornN ⟨a, b, c, d⟩ (stepsN id a q v) k m).c = v) ∨
    (isRec id a b c d ∧ (tornN ⟨a, b, c, d⟩ (stepsN id a q v) k m).b = b ∧ (tornN ⟨a, b, c, d⟩ (stepsN id a q v) k m).c = c) := by
  by_cases ha : a = 3282393660
  · have e : stepsN id a q v = [(0, 0), (1, q), (2, v), (3, checkN id q v), (0, 3282393660)] := if_pos ha
    rw [e] at h ⊢
    unfold tornN at h ⊢
    have hu : upTo k 5 ≤ 5 := by unfold upTo; omega
    simp only [List.length_cons, List.length_nil, Nat.zero_add, Nat.reduceAdd] at h ⊢
    generalize upTo k 5 = u at *
    rcases (by omega : u = 0 ∨ u = 1 ∨ u = 2 ∨ u = 3 ∨ u = 4 ∨ u = 5) with rfl | rfl | rfl | rfl | rfl | rfl
    · right
      simp [tear, isRec] at h ⊢
      exact ⟨ha, h.2⟩
    · simp [tear, isRec, put4] at h
    · simp [tear, isRec, put4] at h
    · simp [tear, isRec, put4] at h
    · left; simp [tear, put4]
    · left; simp [put4]
  · have e : stepsN id a q v = [(1, q), (2, v), (3, checkN id q v), (0, 3282393660)] := if_neg ha
    rw [e] at h ⊢
    unfold tornN at h ⊢
    have hu : upTo k 4 ≤ 4 := by unfold upTo; omega
    simp only [List.length_cons, List.length_nil, Nat.zero_add, Nat.reduceAdd] at h ⊢
    generalize upTo k 4 = u at *
    rcases (by omega : u = 0 ∨ u = 1 ∨ u = 2 ∨ u = 3 ∨ u = 4) with rfl | rfl | rfl | rfl | rfl
    · simp [tear, isRec, ha] at h
    · simp [tear, isRec, put4, ha] at h
    · simp [tear, isRec, put4, ha] at h
    · left; simp [tear, put4]
    · left; simp [put4]

set_option maxHeartbeats 2000000 in
theorem slotWhole_any (id a b c d q v k m : Int) (b0 : 0 ≤ b) (b1 : b < 4294967296) (c0 : 0 ≤ c) (c1 : c < 4294967296) (q0 : 0 ≤ q) (q1 : q < 4294967296) (v0 : 0 ≤ v) (v1 : v < 4294967296) (w : World) :
    Calls Try.prog 10 #[.int .i64 id, .agg #[.int .u32 a, .int .u32 b, .int .u32 c, .int .u32 d], .agg #[.int .u32 q, .int .u32 v], .int .i64 k, .int .u32 m] w fun e w' => e = .returned (.bool true) ∧ Below w.heap.size w w' := by
  obtain ⟨x1, y1, f1, hx1⟩ : ∃ x y f, ofN id a b c d = (x, y, f) := ⟨_, _, _, rfl⟩
  obtain ⟨T, hT⟩ : ∃ T, tornN ⟨a, b, c, d⟩ (stepsN id a q v) k m = T := ⟨_, rfl⟩
  have hok : T.ok := by rw [← hT]; exact torn_ok _ _ _ _ ⟨⟨b0, b1⟩, c0, c1⟩ (steps_ok id a q v q0 q1 v0 v1)
  have hp := whole_plain id a b c d q v k m
  rw [hT] at hp
  obtain ⟨x2, y2, f2, hx2⟩ : ∃ x y f, ofN id T.a T.b T.c T.d = (x, y, f) := ⟨_, _, _, rfl⟩
  have hend : f2 = false ∨ (x2 = q ∧ y2 = v) ∨ (f1 = true ∧ x2 = x1 ∧ y2 = y1) := by
    unfold ofN at hx1 hx2
    split at hx2
    · rename_i h
      cases hx2
      rcases hp h with ⟨e1, e2⟩ | ⟨hr, e1, e2⟩
      · exact .inr (.inl ⟨e1, e2⟩)
      · rw [if_pos hr] at hx1; cases hx1; exact .inr (.inr ⟨rfl, e1, e2⟩)
    · cases hx2; exact .inl rfl
  have HL := Lib.hid (stepsN_len id a q v)
  have HX1 := Lib.hid hx1
  have HX2 := Lib.hid hx2
  have HT := Lib.hid hT
  have HE := Lib.hid hend
  obtain ⟨⟨t0, t1⟩, t2, t3⟩ := hok
  clear hx1 hx2 hT hend hp
  go_enter Try.func10, Try.ntmps10
  go_wp2_with (first
    | (go_at_call 23; refine (awake12_any _).mono ?_; rintro e w1 ⟨rfl, hb1⟩; have hW1 := ((Blk.new w 40 #[.int .u32 a, .int .u32 b, .int .u32 c, .int .u32 d]).alloc (.cells #[.int .u32 q, .int .u32 v] 39)).kept hb1; have hR1 := Blk.kept (g := w.heap.size + 1) (Blk.fresh (w.alloc (.cells #[.int .u32 a, .int .u32 b, .int .u32 c, .int .u32 d] 40)) 39 #[.int .u32 q, .int .u32 v]) hb1; have hb1' := below_alloc (below_alloc hb1); clear hb1; have eW1 := hW1.cell)
    | (go_at_call 25; with_reducible (refine (refOf_any id a b c d x1 y1 f1 HX1.out b0 b1 c0 c1 _).mono ?_); rintro e w2 ⟨rfl, hb2⟩; have hR2 := (hR1.kept hb2).alloc (.cells #[.int .u32 x1, .int .u32 y1] 39); have hW2 := (hW1.kept hb2).alloc (.cells #[.int .u32 x1, .int .u32 y1] 39); have hX2 := Blk.new w2 39 #[.int .u32 x1, .int .u32 y1]; have hb2' := bal (hb1'.trans (hb2.mono hb1'.size)) (.cells #[.int .u32 x1, .int .u32 y1] 39); clear hb2 eW1 hR1 hW1 hb1'))
  refine wp_name ?_
  intro w3 hw3
  rw [← hw3] at hR2 hW2 hX2 hb2'
  clear hw3
  have lR : w.heap.size + 1 < w3.heap.size := hR2.lt
  have lW : w.heap.size < w3.heap.size := hW2.lt
  have lX : w2.heap.size < w3.heap.size := hX2.lt
  go_region_held3 (fun w' => (∀ i, w'.cell? ⟨w.heap.size, i, none⟩ = (#[.int .u32 a, .int .u32 b, .int .u32 c, .int .u32 d] : Array Value)[i]?) ∧ (∀ i, w'.cell? ⟨w.heap.size + 1, i, none⟩ = (#[.int .u32 q, .int .u32 v] : Array Value)[i]?) ∧ (∀ i, w'.cell? ⟨w2.heap.size, i, none⟩ = (#[.int .u32 x1, .int .u32 y1] : Array Value)[i]?))
    (first
      | exact ⟨hW2.drew.cell, hR2.drew.cell, hX2.drew.cell⟩
      | assumption
      | exact ⟨cells_set (cells_set (And.left (by assumption)) (by simp; omega) _) (by simp; omega) _, cells_set (cells_set (And.left (And.right (by assumption))) (by simp; omega) _) (by simp; omega) _, cells_set (cells_set (And.right (And.right (by assumption))) (by simp; omega) _) (by simp; omega) _⟩
      | exact ⟨cells_alloc (And.left (by assumption)) _ (by simp), cells_alloc (And.left (And.right (by assumption))) _ (by simp), cells_alloc (And.right (And.right (by assumption))) _ (by simp)⟩)
    (first
      | (go_at_call 37; refine (steps_any id a b c d q v q0 q1 v0 v1 _).mono ?_; rintro e w4 ⟨A2, c2, rfl, hc2, hr2, hb2⟩; have hSw4 := (And.intro (cells_kept (And.left (by assumption)) hb2 (by simp)) (And.intro (cells_kept (And.left (And.right (by assumption))) hb2 (by simp)) (cells_kept (And.right (And.right (by assumption))) hb2 (by simp)))); have hx4 : RowKit.Below w3.heap.size w3 w4 := (by first | exact hb2 | exact of_drew hb2 | exact below_alloc hb2 | exact of_drew (below_alloc hb2) | exact below_alloc (of_drew hb2)); obtain ⟨hcw4, hfw4⟩ := bcell hb2; have hzw4 := hb2.size; (try simp at hzw4); (try (have lw3w4 : w3.heap.size < w4.heap.size := (by omega))))
      | (go_at_call 40; refine (torn_any ⟨a, b, c, d⟩ T _ _ _ (stepsN id a q v) k m HT.out rfl (Nat.le_trans HL.out (by decide)) hc2 _ (by first | exact hr2 | exact (hr2.alloc (Nat.le_refl _) _).more (by simp))).mono ?_; rintro e w5 ⟨rfl, hb3⟩; have hSw5 := (And.intro (cells_kept (And.left (by assumption)) hb3 (by simp)) (And.intro (cells_kept (And.left (And.right (by assumption))) hb3 (by simp)) (cells_kept (And.right (And.right (by assumption))) hb3 (by simp)))); have hx5 : RowKit.Below w4.heap.size w4 w5 := (by first | exact hb3 | exact of_drew hb3 | exact below_alloc hb3 | exact of_drew (below_alloc hb3) | exact below_alloc (of_drew hb3)); obtain ⟨hcw5, hfw5⟩ := bcell hb3; have hzw5 := hb3.size; (try simp at hzw5); (try (have lw3w5 : w3.heap.size < w5.heap.size := (by omega))); (try (have lw4w5 : w4.heap.size < w5.heap.size := (by omega))))
      | (go_at_call 24; refine (of_any id T.a T.b T.c T.d x2 y2 f2 HX2.out t0 t1 t2 t3 _).mono ?_; rintro e w6 ⟨rfl, hb4⟩; have hSw6 := (And.intro (cells_kept (And.left (by assumption)) hb4 (by simp)) (And.intro (cells_kept (And.left (And.right (by assumption))) hb4 (by simp)) (cells_kept (And.right (And.right (by assumption))) hb4 (by simp)))); have hx6 : RowKit.Below w5.heap.size w5 w6 := (by first | exact hb4 | exact of_drew hb4 | exact below_alloc hb4 | exact of_drew (below_alloc hb4) | exact below_alloc (of_drew hb4)); obtain ⟨hcw6, hfw6⟩ := bcell hb4; have hzw6 := hb4.size; (try simp at hzw6); (try (have lw3w6 : w3.heap.size < w6.heap.size := (by omega))); (try (have lw4w6 : w4.heap.size < w6.heap.size := (by omega))); (try (have lw5w6 : w5.heap.size < w6.heap.size := (by omega)))))
  all_goals
    have hb := hb2'.trans ((ext_trans (ext_trans hx4 hx5) hx6).mono hb2'.size)
    have hw3 : w.heap.size < w3.heap.size := lW
    have hw6 := hx6.size
    have hw5 := hx5.size
    have hw4 := hx4.size
    have l06 : w.heap.size < w6.heap.size := by omega
    have l16 : w.heap.size + 1 < w6.heap.size := by omega
    have l26 : w2.heap.size < w6.heap.size := by omega
    clear hW2 hR2 hX2 hb2' hb2 hb3 hb4 hx4 hx5 hx6 hr2
    rcases HE.out with rfl | ⟨rfl, rfl⟩ | ⟨rfl, rfl, rfl⟩
    all_goals go_wp2
    all_goals go_ret
    all_goals (refine ⟨rfl, ?_⟩)
    all_goals first
      | exact hb
      | exact bal hb _
      | exact ((hb.setCell (p := ⟨w3.heap.size, 0, none⟩) (show w.heap.size ≤ w3.heap.size by omega) _).setCell (p := ⟨w3.heap.size, 1, none⟩) (show w.heap.size ≤ w3.heap.size by omega) _)
      | exact ((hb.setCell (p := ⟨w4.heap.size, 0, none⟩) (show w.heap.size ≤ w4.heap.size by omega) _).setCell (p := ⟨w4.heap.size, 1, none⟩) (show w.heap.size ≤ w4.heap.size by omega) _)
      | exact ((hb.setCell (p := ⟨w5.heap.size, 0, none⟩) (show w.heap.size ≤ w5.heap.size by omega) _).setCell (p := ⟨w5.heap.size, 1, none⟩) (show w.heap.size ≤ w5.heap.size by omega) _)

set_option maxRecDepth 100000 in
theorem slotWhole_law : LawWalk Try.prog 10 Try.f10 := by
  intro H enc W base args ds p hval hA hlt hfz hsz
  rw [Try.params10] at hA hval
  obtain ⟨v0, vs0, d0, ds0, p0, q0, hargs, rfl, rfl, h0, r0⟩ := trodAll_cons hA
  obtain ⟨v1, vs1, d1, ds1, p1, q1, rfl, rfl, rfl, h1, r1⟩ := trodAll_cons r0
  obtain ⟨v2, vs2, d2, ds2, p2, q2, rfl, rfl, rfl, h2, r2⟩ := trodAll_cons r1
  obtain ⟨v3, vs3, d3, ds3, p3, q3, rfl, rfl, rfl, h3, r3⟩ := trodAll_cons r2
  obtain ⟨v4, vs4, d4, ds4, p4, q4, rfl, rfl, rfl, h4, r4⟩ := trodAll_cons r3
  obtain ⟨rfl, rfl, rfl⟩ := trodAll_nil r4
  obtain rfl : args = #[v0, v1, v2, v3, v4] := by cases args; simp_all
  obtain ⟨id, rfl, rfl, rfl, wi⟩ := open_int Try.underlying3 (hval 0 3 v0 rfl rfl) h0
  obtain ⟨cs, rfl, hc⟩ := open_flat flat_w4 (by kernel_rfl) (hval 1 40 v1 rfl rfl) h1
  obtain ⟨a, b, c, d, rfl, ⟨_, _⟩, ⟨b0, b1⟩, ⟨c0, c1⟩, _, _⟩ := flat4 hc
  obtain ⟨cs, rfl, hc⟩ := open_flat flat_rec (by kernel_rfl) (hval 2 39 v2 rfl rfl) h2
  obtain ⟨q, v, rfl, q0, q1, v0, v1⟩ := flat2 hc
  obtain ⟨k, rfl, rfl, rfl, wk⟩ := open_int Try.underlying3 (hval 3 3 v3 rfl rfl) h3
  obtain ⟨m, rfl, rfl, rfl, wm⟩ := open_int Try.underlying37 (hval 4 37 v4 rfl rfl) h4
  exact slotWhole_any id a b c d q v k m b0 b1 c0 c1 q0 q1 v0 v1 W
theorem slotWhole_proved : Rows.SlotWholeSaid :=
  OpenClaim.holds_of_wide 10 Try.f10 rfl rfl rfl rfl rfl rfl rfl ⟨rfl, rfl, rfl, rfl, rfl⟩ rfl rfl rfl rfl rfl (by kernel_rfl) Try.func10 (by kernel_rfl)
    (of_decide_eq_true (by kernel_rfl)) (by unfold Func.isWrapper; rw [if_neg (of_decide_eq_false (by kernel_rfl))]; exact ⟨rfl, rfl⟩)
    (fun os started H enc _ => law_lifted (C := Try.checked) (s := Rows.slotWholeSpec) started own laidOut (by kernel_rfl) Try.func10 rfl (n := 5) (by kernel_rfl) (fun ds h => by match ds, h with | [_, _, _, _, _], _ => rfl) (tb := 4) (by kernel_rfl) Try.underlying4 (by kernel_rfl)
      (ChangeSpec.witness6 (enc := enc) (C := Try.checked) false ⟨#[], #[.int .i64 0, .agg #[.int .u32 0, .int .u32 0, .int .u32 0, .int .u32 0], .agg #[.int .u32 0, .int .u32 0], .int .i64 0, .int .u32 0], []⟩ 8 (by kernel_rfl) (by kernel_rfl) (by kernel_rfl) (by kernel_rfl)) slotWhole_law)
end Go.Proofs.Ytdkhkpjepnmjnaa
