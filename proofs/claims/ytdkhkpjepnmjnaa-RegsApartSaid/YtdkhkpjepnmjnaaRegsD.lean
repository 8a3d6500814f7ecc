/- Chapter 21: the law RegsApart: it returns true whatever the input, and leaves what was there. -/
import Derived.Test.YtdkhkpjepnmjnaaRegsB
namespace Go.Proofs.Ytdkhkpjepnmjnaa
set_option linter.unusedVariables false
open Go.RowKit Go.ChangeShapes Go.WideShapes

/-! ### RegsApart -/
theorem apart_ne {a b x y : Int} (h0 : 0 ≤ x) (h1 : x < 1099511627776) (k0 : 0 ≤ y) (k1 : y < 1099511627776) (h : ¬ (a = b ∧ x = y)) :
    (a * 281474976710656 + x == b * 281474976710656 + y) = false := by
  rw [beq_eq_false_iff_ne]; omega

set_option maxHeartbeats 800000 in
theorem regsApart_any (a b x y : Int) (hx : 0 ≤ x) (hy : 0 ≤ y) (w : World) :
    Calls Try.prog 3 #[.int .i64 a, .int .i64 b, .int .u64 x, .int .u64 y] w fun e w' => e = .returned (.bool true) ∧ Below w.heap.size w w' := by
  by_cases ha : vttbrOk a x
  · by_cases hb : vttbrOk b y
    · have hx1 := ha.2.2.2
      have hy1 := hb.2.2.2
      have HA := Lib.hid ha
      have HB := Lib.hid hb
      clear ha hb
      by_cases hab : a = b
      · subst hab
        by_cases hxy : x = y
        · subst hxy
          clear hx1 hy1
          go_enter Try.func3, Try.ntmps3
          go_wp2_with (first
            | (go_at_call 15; refine (awake21_any _).mono ?_; rintro e w1 ⟨rfl, hb1⟩)
            | (go_at_call 16; refine (vttbr_yes _ _ HA.out hx _).mono ?_; rintro e w2 ⟨rfl, hb2⟩; have hb1 := hb1.trans (hb2.mono hb1.size); clear hb2))
          go_ret
          exact ⟨rfl, hb1⟩
        · have g1 := apart_ne (a := a) (b := a) hx hx1 hy hy1 (fun h => hxy h.2)
          have g2 : (x == y) = false := by simpa using hxy
          clear hx1 hy1 hxy
          go_enter Try.func3, Try.ntmps3
          go_wp2_with (first
            | (go_at_call 15; refine (awake21_any _).mono ?_; rintro e w1 ⟨rfl, hb1⟩)
            | (go_at_call 16; with_reducible (refine (vttbr_yes a x HA.out hx _).mono ?_); rintro e w2 ⟨rfl, hb2⟩; have hb1 := hb1.trans (hb2.mono hb1.size); clear hb2)
            | (go_at_call 16; with_reducible (refine (vttbr_yes a y HB.out hy _).mono ?_); rintro e w2 ⟨rfl, hb2⟩; have hb1 := hb1.trans (hb2.mono hb1.size); clear hb2))
          go_ret
          exact ⟨rfl, hb1⟩
      · have g1 := apart_ne (a := a) (b := b) hx hx1 hy hy1 (fun h => hab h.1)
        have g2 : (a == b) = false := by simpa using hab
        clear hx1 hy1 hab
        go_enter Try.func3, Try.ntmps3
        go_wp2_with (first
          | (go_at_call 15; refine (awake21_any _).mono ?_; rintro e w1 ⟨rfl, hb1⟩)
          | (go_at_call 16; with_reducible (refine (vttbr_yes a x HA.out hx _).mono ?_); rintro e w2 ⟨rfl, hb2⟩; have hb1 := hb1.trans (hb2.mono hb1.size); clear hb2)
          | (go_at_call 16; with_reducible (refine (vttbr_yes b y HB.out hy _).mono ?_); rintro e w2 ⟨rfl, hb2⟩; have hb1 := hb1.trans (hb2.mono hb1.size); clear hb2))
        go_ret
        exact ⟨rfl, hb1⟩
    · have HA := Lib.hid ha
      have HB := Lib.hid hb
      clear ha hb
      go_enter Try.func3, Try.ntmps3
      go_wp2_with (first
        | (go_at_call 15; refine (awake21_any _).mono ?_; rintro e w1 ⟨rfl, hb1⟩)
        | (go_at_call 16; with_reducible (refine (vttbr_yes a x HA.out hx _).mono ?_); rintro e w2 ⟨rfl, hb2⟩; have hb1 := hb1.trans (hb2.mono hb1.size); clear hb2)
        | (go_at_call 16; with_reducible (refine (vttbr_no b y HB.out hy _).mono ?_); rintro e w2 ⟨rfl, hb2⟩; have hb1 := hb1.trans (hb2.mono hb1.size); clear hb2))
      go_ret
      exact ⟨rfl, hb1⟩
  · have HA := Lib.hid ha
    clear ha
    have hv : ∀ W : World, ∃ v f : Int, Calls Try.prog 16 #[.int .i64 b, .int .u64 y] W fun e w' => e = .returned (.tuple #[.int .u64 v, .int .i64 f]) ∧ Below W.heap.size W w' := by
      intro W
      by_cases hb : vttbrOk b y
      · exact ⟨_, _, vttbr_yes b y hb hy W⟩
      · exact ⟨_, _, vttbr_no b y hb hy W⟩
    have HV := Lib.hid hv
    clear hv
    go_enter Try.func3, Try.ntmps3
    go_wp2_with (first
      | (go_at_call 15; refine (awake21_any _).mono ?_; rintro e w1 ⟨rfl, hb1⟩)
      | (go_at_call 16; with_reducible (refine (vttbr_no a x HA.out hx _).mono ?_); rintro e w2 ⟨rfl, hb2⟩; have hb1 := hb1.trans (hb2.mono hb1.size); clear hb2)
      | (go_at_call 16; obtain ⟨v2, f2, h2⟩ := HV.out _; refine h2.mono ?_; clear h2; rintro e w2 ⟨rfl, hb2⟩; have hb1 := hb1.trans (hb2.mono hb1.size); clear hb2))
    all_goals go_ret
    all_goals exact ⟨rfl, hb1⟩

set_option maxRecDepth 100000 in
theorem regsApart_law : LawWalk Try.prog 3 Try.f3 := by
  intro H enc W base args ds p hval hA hlt hfz hsz
  rw [Try.params3] at hA hval
  obtain ⟨v0, v1, v2, v3, d0, d1, d2, d3, p0, p1, p2, p3, rfl, rfl, rfl, h0, h1, h2, h3⟩ := trodAll_four hA
  obtain ⟨a, rfl, rfl, rfl, wa⟩ := open_int Try.underlying3 (hval 0 3 v0 rfl rfl) h0
  obtain ⟨b, rfl, rfl, rfl, wb⟩ := open_int Try.underlying3 (hval 1 3 v1 rfl rfl) h1
  obtain ⟨x, rfl, rfl, rfl, wx⟩ := open_int Try.underlying22 (hval 2 22 v2 rfl rfl) h2
  obtain ⟨y, rfl, rfl, rfl, wy⟩ := open_int Try.underlying22 (hval 3 22 v3 rfl rfl) h3
  exact regsApart_any a b x y (wf_nonneg wx) (wf_nonneg wy) W
theorem regsApart_proved : Rows.RegsApartSaid :=
  OpenClaim.holds_of_wide 3 Try.f3 rfl rfl rfl rfl rfl rfl rfl ⟨rfl, rfl, rfl, rfl, rfl⟩ rfl rfl rfl rfl rfl (by kernel_rfl) Try.func3 (by kernel_rfl)
    (of_decide_eq_true (by kernel_rfl)) (by unfold Func.isWrapper; rw [if_neg (of_decide_eq_false (by kernel_rfl))]; exact ⟨rfl, rfl⟩)
    (fun os started H enc _ => law_lifted (C := Try.checked) (s := Rows.regsApartSpec) started own laidOut (by kernel_rfl) Try.func3 rfl (n := 4) (by kernel_rfl) (fun ds h => by match ds, h with | [_, _, _, _], _ => rfl) (tb := 4) (by kernel_rfl) Try.underlying4 (by kernel_rfl)
      (ChangeSpec.witness6 (enc := enc) (C := Try.checked) false ⟨#[], #[.int .i64 0, .int .i64 0, .int .u64 0, .int .u64 0], []⟩ 8 (by kernel_rfl) (by kernel_rfl) (by kernel_rfl) (by kernel_rfl)) regsApart_law)
end Go.Proofs.Ytdkhkpjepnmjnaa
