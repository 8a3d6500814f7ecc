/- Chapter 12: the reference's writes; the law SlotSteps. -/
import Derived.Test.YtdkhkpjepnmjnaaSlotG
import Derived.Deep.RegionHeld3
namespace Go.Proofs.Ytdkhkpjepnmjnaa
set_option linter.unusedVariables false
open Go.RowKit Go.Sort Go.ChangeShapes Go.WideShapes

def tail4 (id q v : Int) : List (Int × Int) := [(1, q), (2, v), (3, checkN id q v), (0, 3282393660)]

set_option maxHeartbeats 800000 in
theorem refSteps_no (id a b c d q v : Int) (h0 : 0 ≤ q) (h1 : q < 4294967296) (k0 : 0 ≤ v) (k1 : v < 4294967296) (ha : (a == 3282393660) = false) (w : World) :
    Calls Try.prog 38 #[.int .i64 id, .agg #[.int .u32 a, .int .u32 b, .int .u32 c, .int .u32 d], .agg #[.int .u32 q, .int .u32 v]] w (RetRows encP 2 (tail4 id q v) w) := by
  go_enter Try.func38, Try.ntmps38
  go_wp2_with (first
    | (go_at_call 29; refine (refWords_any _ _ _ h0 h1 k0 k1 _).mono ?_; rintro e w1 ⟨rfl, hb1⟩)
    | (at_builtin; refine wpList_app put_elem rfl (.tmp 19) (.tmp 32) rfl (w1.heap.size + 1) (World.ownsRow_nil _ _ _ _) rfl rfl (Rd.fresh _ _ _ 4 2 _ rfl) (by simp [Value.oneCell']) (by simp [maxLen]) (by omega) (by simp) ?_; intro v2 w2 hown2 hb2 _))
  go_ret
  exact retRows_own hown2 rfl rfl ((bal (bal (below_alloc (below_alloc hb1)) _) _).trans (hb2.mono (by have := hb1.size; simp at this; omega)))

set_option maxHeartbeats 800000 in
theorem refSteps_yes (id a b c d q v : Int) (h0 : 0 ≤ q) (h1 : q < 4294967296) (k0 : 0 ≤ v) (k1 : v < 4294967296) (ha : a = 3282393660) (w : World) :
    Calls Try.prog 38 #[.int .i64 id, .agg #[.int .u32 a, .int .u32 b, .int .u32 c, .int .u32 d], .agg #[.int .u32 q, .int .u32 v]] w (RetRows encP 2 ((0, 0) :: tail4 id q v) w) := by
  subst ha
  go_enter Try.func38, Try.ntmps38
  go_wp2_with (first
    | (at_builtin; with_reducible (refine wpList_app put_elem rfl (.tmp 12) (.tmp 14) rfl (w.heap.size + 2) (World.ownsRow_nil _ _ _ _) rfl rfl (Rd.fresh _ _ _ 1 2 _ rfl) ?_ ?_ ?_ ?_ ?_); (simp [Value.oneCell']); (simp [maxLen]); (omega); (simp); intro v1 w1 hown1 hb1 _; have cB := (Blk.below (g := w.heap.size + 1) ((Blk.fresh (w.alloc _) 39 #[.int .u32 q, .int .u32 v]).alloc _) hb1 (by omega)).cell; have hs1 : w.heap.size + 3 ≤ w1.heap.size := by have := hb1.size; simp at this; omega)
    | (go_at_call 29; refine (refWords_any _ _ _ h0 h1 k0 k1 _).mono ?_; rintro e w2 ⟨rfl, hb2⟩; have hown2 := own_kept hown1 hb2; have hs2 := hb2.size)
    | (at_builtin; refine wpList_app put_elem rfl (.tmp 19) (.tmp 32) rfl (w.heap.size + 2) ((hown2.alloc _).alloc _) rfl rfl (Rd.fresh _ _ _ 4 2 _ rfl) (by simp [Value.oneCell']) (by simp [maxLen]) (by omega) (by simp; omega) ?_; intro v3 w3 hown3 hb3 _))
  go_ret
  exact retRows_own hown3 rfl rfl (((bal (bal (bal (Below.refl _ _) _) _) _).trans (hb1.mono (by omega))).trans ((bal (bal hb2 _) _).mono (by omega) |>.trans (hb3.mono (by omega))))

/-- The writes by which words become a record. -/
def stepsN (id a q v : Int) : List (Int × Int) := if a = 3282393660 then (0, 0) :: tail4 id q v else tail4 id q v
theorem steps_any (id a b c d q v : Int) (h0 : 0 ≤ q) (h1 : q < 4294967296) (k0 : 0 ≤ v) (k1 : v < 4294967296) (w : World) :
    Calls Try.prog 37 #[.int .i64 id, .agg #[.int .u32 a, .int .u32 b, .int .u32 c, .int .u32 d], .agg #[.int .u32 q, .int .u32 v]] w (RetRows encP 2 (stepsN id a q v) w) := by
  by_cases ha : a = 3282393660
  · rw [show stepsN id a q v = _ from if_pos ha]; exact steps_yes id a b c d q v h0 h1 k0 k1 ha w
  · rw [show stepsN id a q v = _ from if_neg ha]; exact steps_no id a b c d q v h0 h1 k0 k1 (by simpa using ha) w
theorem refSteps_any (id a b c d q v : Int) (h0 : 0 ≤ q) (h1 : q < 4294967296) (k0 : 0 ≤ v) (k1 : v < 4294967296) (w : World) :
    Calls Try.prog 38 #[.int .i64 id, .agg #[.int .u32 a, .int .u32 b, .int .u32 c, .int .u32 d], .agg #[.int .u32 q, .int .u32 v]] w (RetRows encP 2 (stepsN id a q v) w) := by
  by_cases ha : a = 3282393660
  · rw [show stepsN id a q v = _ from if_pos ha]; exact refSteps_yes id a b c d q v h0 h1 k0 k1 ha w
  · rw [show stepsN id a q v = _ from if_neg ha]; exact refSteps_no id a b c d q v h0 h1 k0 k1 (by simpa using ha) w
theorem stepsN_done (id a b c d q v : Int) : (stepsN id a q v).foldl put4 ⟨a, b, c, d⟩ = ⟨3282393660, q, v, checkN id q v⟩ := by
  unfold stepsN tail4
  split <;> rfl
theorem stepsN_len (id a q v : Int) : (stepsN id a q v).length ≤ 5 := by unfold stepsN tail4; split <;> simp

set_option maxHeartbeats 2000000 in
theorem slotSteps_any (id a b c d q v : Int) (q0 : 0 ≤ q) (q1 : q < 4294967296) (v0 : 0 ≤ v) (v1 : v < 4294967296) (w : World) :
    Calls Try.prog 9 #[.int .i64 id, .agg #[.int .u32 a, .int .u32 b, .int .u32 c, .int .u32 d], .agg #[.int .u32 q, .int .u32 v]] w fun e w' => e = .returned (.bool true) ∧ Below w.heap.size w w' := by
  obtain ⟨l, hl⟩ : ∃ l, stepsN id a q v = l := ⟨_, rfl⟩
  have hll := stepsN_len id a q v
  have hdone := stepsN_done id a b c d q v
  rw [hl] at hll hdone
  have hst := fun W => steps_any id a b c d q v q0 q1 v0 v1 W
  have hrs := fun W => refSteps_any id a b c d q v q0 q1 v0 v1 W
  rw [hl] at hst hrs
  have HS := Lib.hid hst
  have HR := Lib.hid hrs
  have HD := Lib.hid hdone
  clear hl hdone hst hrs
  go_enter Try.func9, Try.ntmps9
  go_wp2_with (first
    | (go_at_call 23; refine (awake12_any _).mono ?_; rintro e w1 ⟨rfl, hb1⟩; have hW1 := ((Blk.new w 40 #[.int .u32 a, .int .u32 b, .int .u32 c, .int .u32 d]).alloc (.cells #[.int .u32 q, .int .u32 v] 39)).kept hb1; have hR1 := Blk.kept (g := w.heap.size + 1) (Blk.fresh (w.alloc (.cells #[.int .u32 a, .int .u32 b, .int .u32 c, .int .u32 d] 40)) 39 #[.int .u32 q, .int .u32 v]) hb1; have hb1' := below_alloc (below_alloc hb1); clear hb1))
  have cW := hW1.cell
  have cR := hR1.cell
  go_region_held3 (fun w' => (∀ i, w'.cell? ⟨w.heap.size, i, none⟩ = (#[.int .u32 a, .int .u32 b, .int .u32 c, .int .u32 d] : Array Value)[i]?) ∧ (∀ i, w'.cell? ⟨w.heap.size + 1, i, none⟩ = (#[.int .u32 q, .int .u32 v] : Array Value)[i]?)) (first | exact ⟨hW1.drew.cell, hR1.drew.cell⟩ | exact ⟨hW2.cell, hR2.cell⟩ | exact ⟨hW3.cell, hR3.cell⟩)
    (first
      | (go_at_call 37; refine (HS.out _).mono ?_; rintro e w2 ⟨A2, c2, rfl, _, hr2, hb2⟩; have hW2 := hW1.drew.kept hb2; have hR2 := hR1.drew.kept hb2)
      | (go_at_call 38; refine (HR.out _).mono ?_; rintro e w3 ⟨A3, c3, rfl, _, hr3, hb3⟩; have hW3 := hW2.kept hb3; have hR3 := hR2.kept hb3))
  have hb3' : RowKit.Below w.heap.size w w3 := (hb1'.trans ((of_drew hb2).mono hb1'.size)).trans (hb3.mono (Nat.le_trans hb1'.size (of_drew hb2).size))
  have hr2' : Rd w3 w3.heap.size 2 A2 l.length (l.flatMap encP) := (hr2.below hb3).more hb3.size
  clear hb1' hb2 hb3 hW1 hR1 hW2 hR2 hr2 cW cR HS HR
  go_wp2
  go_loopw [9, 27] (fun _ i wr => ∃ k : Nat, k ≤ l.length ∧ i = .int .i64 k ∧ RowKit.Below w3.heap.size w3 wr) (fun _ i _ => l.length - (intOf i).toNat)
  case atStart => exact ⟨0, by omega, rfl, Below.refl _ _⟩
  case round =>
    obtain ⟨k, hk, rfl, hbr⟩ := hrel
    by_cases hlt : k < l.length
    · obtain ⟨b2, o2, rfl, hbb2, hc2⟩ := (hr2'.below hbr).row (fun _ => rfl) hlt rfl
      obtain ⟨b3, o3, rfl, hbb3, hc3⟩ := (hr3.below hbr).row (fun _ => rfl) hlt rfl
      have d0 := hc2 0 (by omega)
      have d1 := hc2 1 (by omega)
      have e0 := hc3 0 (by omega)
      have e1 := hc3 1 (by omega)
      simp only [encP, Nat.add_zero, List.getElem?_cons_zero, List.getElem?_cons_succ] at d0 d1 e0 e1
      clear hc2 hc3 hr2' hr3
      generalize l[k] = p at *
      go_wp2
      go_quiet (fail)
      go_wp2
      go_roundw
      case rel => exact ⟨k + 1, by omega, by go_num, below_drewN hbr _⟩
      case measure => simp [intOf]; omega
    · go_wp2
      have hWr := hW3.kept hbr
      have hRr := hR3.kept hbr
      have hr2r := (hr2'.below hbr).more hbr.size
      refine wp_region_quiet_below (by kernel_rfl) (by kernel_rfl) ?_
      have e0 := blk_regrown hWr
      have e1 := blk_regrown hRr
      have heq := arr4_eql
      repeat (quiet_step (first
        | (go_at_call 39; exact regrown (after_y ⟨a, b, c, d⟩ _ A2 l.length c2 l HD.out rfl (by omega) _ ((hr2r.below (below_regrown wr _ _)).more (below_regrown wr _ _).size)))
        | (go_at_call 29; exact regrown (refWords_any _ _ _ q0 q1 v0 v1 _))))
      refine wpQuiet_nil ?_
      rintro w7 ⟨p, rfl⟩
      have hb7 := (hb3'.trans (hbr.mono hb3'.size)).trans ((below_regrown wr p.d p.os).mono (Nat.le_trans hb3'.size hbr.size))
      generalize grow (redrawn wr p.d) p.os = w7 at hb7 ⊢
      clear e0 e1
      go_wp2
      go_ret
      exact ⟨rfl, hb7⟩

set_option maxRecDepth 100000 in
theorem slotSteps_law : LawWalk Try.prog 9 Try.f9 := by
  intro H enc W base args ds p hval hA hlt hfz hsz
  rw [Try.params9] at hA hval
  obtain ⟨v0, v1, v2, d0, d1, d2, p0, p1, p2, rfl, rfl, rfl, h0, h1, h2⟩ := trodAll_three hA
  obtain ⟨id, rfl, rfl, rfl, wi⟩ := open_int Try.underlying3 (hval 0 3 v0 rfl rfl) h0
  obtain ⟨cs, rfl, hc⟩ := open_flat flat_w4 (by kernel_rfl) (hval 1 40 v1 rfl rfl) h1
  obtain ⟨a, b, c, d, rfl, ⟨_, _⟩, ⟨b0, b1⟩, ⟨c0, c1⟩, _, _⟩ := flat4 hc
  obtain ⟨cs, rfl, hc⟩ := open_flat flat_rec (by kernel_rfl) (hval 2 39 v2 rfl rfl) h2
  obtain ⟨q, v, rfl, q0, q1, v0, v1⟩ := flat2 hc
  exact slotSteps_any id a b c d q v q0 q1 v0 v1 W
theorem slotSteps_proved : Rows.SlotStepsSaid :=
  OpenClaim.holds_of_wide 9 Try.f9 rfl rfl rfl rfl rfl rfl rfl ⟨rfl, rfl, rfl, rfl, rfl⟩ rfl rfl rfl rfl rfl (by kernel_rfl) Try.func9 (by kernel_rfl)
    (of_decide_eq_true (by kernel_rfl)) (by unfold Func.isWrapper; rw [if_neg (of_decide_eq_false (by kernel_rfl))]; exact ⟨rfl, rfl⟩)
    (fun os started H enc _ => law_lifted (C := Try.checked) (s := Rows.slotStepsSpec) started own laidOut (by kernel_rfl) Try.func9 rfl (n := 3) (by kernel_rfl) (fun ds h => by match ds, h with | [_, _, _], _ => rfl) (tb := 4) (by kernel_rfl) Try.underlying4 (by kernel_rfl)
      (ChangeSpec.witness6 (enc := enc) (C := Try.checked) false ⟨#[], #[.int .i64 0, .agg #[.int .u32 0, .int .u32 0, .int .u32 0, .int .u32 0], .agg #[.int .u32 0, .int .u32 0]], []⟩ 8 (by kernel_rfl) (by kernel_rfl) (by kernel_rfl) (by kernel_rfl)) slotSteps_law)
end Go.Proofs.Ytdkhkpjepnmjnaa
