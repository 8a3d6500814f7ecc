/- Chapter 25, the law MeasOn: the registers behind two lists: the walk. -/
import Derived.Test.YtjcklmhkdpbbdaaDoorMeasN
namespace Go.Proofs.YtjcklmhkdpbbdaaDoor
set_option linter.unusedVariables false
set_option linter.unusedSimpArgs false
open Go.RowKit Go.Sort Go.ChangeShapes

theorem flat_2n : flatOf Tryd.prog 5 54 = some (List.replicate 64 (.int .u8)) := by kernel_rfl
theorem eq_2n {l : List Int} (hl : l.length = 64) (w : World) : (binOp .eql 54 (.agg (l.flatMap encB).toArray) (.agg (l.flatMap encB).toArray)).run Tryd.prog w = .ok (.bool true) w := by
  have := eql_flat w flat_2n (by kernel_rfl) (by decide) (by kernel_rfl) (flatk_b 64 l hl) (flatk_b 64 l hl)
  rw [eqLeaves_self (flatk_b 64 l hl)] at this
  exact this
theorem neq_2n {l : List Int} (hl : l.length = 64) (w : World) : (binOp .neq 54 (.agg (l.flatMap encB).toArray) (.agg (l.flatMap encB).toArray)).run Tryd.prog w = .ok (.bool false) w := by
  have := neq_flat w flat_2n (by kernel_rfl) (by decide) (by kernel_rfl) (flatk_b 64 l hl) (flatk_b 64 l hl)
  rw [eqLeaves_self (flatk_b 64 l hl)] at this
  exact this
set_option maxRecDepth 100000 in
set_option maxHeartbeats 2000000 in
theorem measOn_any (A A2 : Option Addr) (n c n2 c2 : Nat) (l l2 : List Rc) (w : World) (hl : l.length = n) (hl2 : l2.length = n2) (hn : n ≤ 9223372036854775807) (hn2 : n2 ≤ 9223372036854775807) (h0 : RcsOk l) (h02 : RcsOk l2)
    (hr : Rd w w.heap.size 35 A n (l.flatMap Rc.cs)) (hr2 : Rd w w.heap.size 35 A2 n2 (l2.flatMap Rc.cs)) (hT : Tabs w) :
    Calls Tryd.prog 10 #[.slice A n c, .slice A2 n2 c2] w fun e w' => e = .returned (.bool true) ∧ Below w.heap.size w w' := by
  have HA := Lib.hid (awake25_any w hT)
  by_cases hs : n ≤ 40 ∧ n2 ≤ 40
  · obtain ⟨h1, h2⟩ := hs
    have h1I : ¬ (40 : Int) < (n : Int) := by omega
    have h2I : ¬ (40 : Int) < (n2 : Int) := by omega
    have HR := Lib.hid hr
    have HR2 := Lib.hid hr2
    have hap : RcsOk (l ++ l2) := fun r hr => (List.mem_append.1 hr).elim (h0 r) (h02 r)
    have F1 := Lib.hid (fun W A c (hb : Below w.heap.size w W) (ho : Rd W W.heap.size 35 A (n + n2) ((l ++ l2).flatMap Rc.cs)) => fold_any A (n + n2) c (l ++ l2) W (by rw [List.length_append, hl, hl2]) (by omega) hap ho (hT.kept hb))
    have F2 := Lib.hid (fun W (hb : Below w.heap.size w W) => fold_any A n c l W hl (by omega) h0 ((hr.below hb).more hb.size) (hT.kept hb))
    have F3 := Lib.hid (fun W (hb : Below w.heap.size w W) => refOn_any (onR reg0 l) A2 n2 c2 l2 W (reg0_ok.on l) hl2 (by omega) h02 ((hr2.below hb).more hb.size))
    have heq := fun W => eq_2n ((reg0_ok.on l).on l2).len W
    rw [← onR_app] at heq F3
    generalize onR reg0 (l ++ l2) = ob at *
    generalize onR reg0 l = o1 at *
    have HMx := Lib.hid (show 0 + n ≤ maxLen by unfold maxLen; omega)
    have HMy := Lib.hid (show (0 + n) * 56 ≤ 140737488355328 by omega)
    have HMx2 := Lib.hid (show n + n2 ≤ maxLen by unfold maxLen; omega)
    have HMy2 := Lib.hid (show (n + n2) * 56 ≤ 140737488355328 by omega)
    clear hr hr2 hT hl hl2 h0 h02 hap hn hn2
    go_enter Tryd.func10, Tryd.ntmps10
    go_wp2_with (first
      | (go_at_call 28; refine HA.out.mono ?_; rintro e w1 ⟨rfl, hb1⟩)
      | (at_builtin; refine wpList_app rec_elem rfl (.const (.slice none 0 0)) (.tmp 15) rfl w1.heap.size (World.ownsRow_nil _ _ _ _) rfl rfl (HR.out.below hb1) (one_rcs l) HMx.out HMy.out (Nat.le_refl _) ?_; intro v3 w3 hown3 hb3 hgr3; obtain ⟨A3, c3, rfl, _, _⟩ := own_slice hown3; rw [Nat.zero_add, List.nil_append] at hown3; have hb3x := hb1.trans (hb3.mono hb1.size))
      | (at_builtin; refine wpList_app rec_elem rfl (.tmp 16) (.tmp 17) rfl w1.heap.size hown3 rfl rfl (HR2.out.below hb3x) (one_rcs l2) HMx2.out HMy2.out hb3.size ?_; intro v4 w4 hown4 hb4 hgr4; obtain ⟨A4, c4, rfl, _, _⟩ := own_slice hown4; have hb4x := hb3x.trans (hb4.mono hb1.size); have hrd4 := Rd.of_own hown4; rw [← List.flatMap_append] at hrd4)
      | (go_at_call 37; (with_reducible refine (F1.out _ A4 c4 hb4x hrd4).mono ?_); rintro e w5 ⟨rfl, hb5⟩; have hb5x := hb4x.trans (hb5.mono hb4x.size))
      | (go_at_call 37; (with_reducible refine (F2.out _ hb5x).mono ?_); rintro e w6 ⟨rfl, hb6⟩; have hb6x := hb5x.trans (hb6.mono hb5x.size))
      | (go_at_call 38; (with_reducible refine (F3.out _ hb6x).mono ?_); rintro e w7 ⟨rfl, hb7⟩; have hb7x := hb6x.trans (hb7.mono hb6x.size)))
    go_ret
    exact ⟨rfl, hb7x⟩
  · have hc : 40 < n ∨ (n ≤ 40 ∧ 40 < n2) := by omega
    rcases hc with h1 | ⟨h1, h2⟩
    case' inl => have h1I : (40 : Int) < (n : Int) := by omega
    case' inr =>
      have h1I : ¬ (40 : Int) < (n : Int) := by omega
      have h2I : (40 : Int) < (n2 : Int) := by omega
    all_goals
      clear hs hr hr2 hT hl hl2 h0 h02
      go_enter Tryd.func10, Tryd.ntmps10
      go_wp2_with (go_at_call 28; refine HA.out.mono ?_; rintro e w1 ⟨rfl, hb1⟩)
      go_ret
      exact ⟨rfl, hb1⟩
set_option maxRecDepth 100000 in
theorem measOn_law : LawWalkL Tryd.prog 10 Tryd.f10 := by
  intro H enc W base args ds p hval hA hlt hfz hsz hT
  rw [Tryd.params10] at hA hval
  obtain ⟨v0, v1, d0, d1, p0, p1, rfl, rfl, rfl, h0, h1⟩ := trodAll_two hA
  obtain ⟨A, n, c, l, rfl, hnc, hn, hc, hl, ho, hr⟩ := open_recs (hval 0 51 v0 rfl rfl) h0 (fun x hx => hlt x (by simp [hx]))
  obtain ⟨A2, n2, c2, l2, rfl, hnc2, hn2, hc2, hl2, ho2, hr2⟩ := open_recs (hval 1 51 v1 rfl rfl) h1 (fun x hx => hlt x (by simp [hx]))
  exact measOn_any A A2 n c n2 c2 l l2 W hl hl2 hn hn2 ho ho2 hr hr2 hT
end Go.Proofs.YtjcklmhkdpbbdaaDoor
