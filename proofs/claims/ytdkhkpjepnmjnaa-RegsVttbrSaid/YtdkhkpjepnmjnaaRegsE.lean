/- Chapter 21: the law RegsVttbr: it returns true whatever the input, and leaves what was there. -/
import Derived.Test.YtdkhkpjepnmjnaaRegsB
namespace Go.Proofs.Ytdkhkpjepnmjnaa
set_option linter.unusedVariables false
open Go.RowKit Go.ChangeShapes Go.WideShapes

theorem root_back (id root : Int) (h : vttbrOk id root) (h0 : 0 ≤ root) : IntKind.u64.wrap (fieldN (id * 281474976710656 + root) 47 1 * 2) = root := by
  obtain ⟨h1, h2, h3, h4⟩ := h
  rw [fieldN_yes (by decide) (by decide) (by decide), IntKind.wrap_u64, show (2 : Int) ^ (1 : Int).toNat = 2 by decide, show (2 : Int) ^ ((47 : Int) + 1 - 1).toNat = 140737488355328 by decide]
  omega
theorem vmid_back (id root : Int) (h : vttbrOk id root) (h0 : 0 ≤ root) : fieldN (id * 281474976710656 + root) 55 48 = id := by
  obtain ⟨h1, h2, h3, h4⟩ := h
  rw [fieldN_yes (by decide) (by decide) (by decide), show (2 : Int) ^ (48 : Int).toNat = 281474976710656 by decide +kernel, show (2 : Int) ^ ((55 : Int) + 1 - 48).toNat = 256 by decide]
  omega
theorem word_lt (id root : Int) (h : vttbrOk id root) (h0 : 0 ≤ root) : 0 ≤ id * 281474976710656 + root := by
  obtain ⟨h1, h2, h3, h4⟩ := h
  omega

set_option maxHeartbeats 800000 in
theorem regsVttbr_any (id root x : Int) (h0 : 0 ≤ root) (hx : 0 ≤ x) (hx1 : x < 18446744073709551616) (w : World) :
    Calls Try.prog 5 #[.int .i64 id, .int .u64 root, .int .u64 x] w fun e w' => e = .returned (.bool true) ∧ Below w.heap.size w w' := by
  have b0 := fieldN_bd x 55 48 hx
  have b1 := fieldN_55 x hx
  by_cases ha : vttbrOk id root
  · have g1 := root_back id root ha h0
    have g2 := vmid_back id root ha h0
    have g3 := word_lt id root ha h0
    have HA := Lib.hid ha
    clear ha
    go_enter Try.func5, Try.ntmps5
    go_wp2_with (first
      | (go_at_call 15; refine (awake21_any _).mono ?_; rintro e w1 ⟨rfl, hb1⟩)
      | (go_at_call 16; refine (vttbr_yes _ _ HA.out h0 _).mono ?_; rintro e w2 ⟨rfl, hb2⟩; have hb1 := hb1.trans (hb2.mono hb1.size); clear hb2)
      | (go_at_call 19; refine (refVttbr_yes _ _ HA.out h0 _).mono ?_; rintro e w2 ⟨rfl, rfl⟩)
      | (go_at_call 17; refine (vtcr_any _).mono ?_; rintro e w2 ⟨rfl, hb2⟩; have hb1 := hb1.trans (hb2.mono hb1.size); clear hb2)
      | (go_at_call 20; refine (refVtcr_any _).mono ?_; rintro e w2 ⟨rfl, rfl⟩)
      | (go_at_call 21; refine (root_any _ (by assumption) _).mono ?_; rintro e w2 ⟨rfl, rfl⟩)
      | (go_at_call 22; refine (vmid_any _ (by assumption) _).mono ?_; rintro e w2 ⟨rfl, rfl⟩)
      | (go_at_call 18; refine (refField_any _ _ _ hx hx1 _).mono ?_; rintro e w2 ⟨rfl, rfl⟩))
    all_goals go_ret
    all_goals exact ⟨rfl, hb1⟩
  · have HA := Lib.hid ha
    clear ha
    go_enter Try.func5, Try.ntmps5
    go_wp2_with (first
      | (go_at_call 15; refine (awake21_any _).mono ?_; rintro e w1 ⟨rfl, hb1⟩)
      | (go_at_call 16; refine (vttbr_no _ _ HA.out h0 _).mono ?_; rintro e w2 ⟨rfl, hb2⟩; have hb1 := hb1.trans (hb2.mono hb1.size); clear hb2)
      | (go_at_call 19; refine (refVttbr_no _ _ HA.out h0 _).mono ?_; rintro e w2 ⟨rfl, rfl⟩)
      | (go_at_call 17; refine (vtcr_any _).mono ?_; rintro e w2 ⟨rfl, hb2⟩; have hb1 := hb1.trans (hb2.mono hb1.size); clear hb2)
      | (go_at_call 20; refine (refVtcr_any _).mono ?_; rintro e w2 ⟨rfl, rfl⟩)
      | (go_at_call 21; refine (root_any _ (by assumption) _).mono ?_; rintro e w2 ⟨rfl, rfl⟩)
      | (go_at_call 22; refine (vmid_any _ (by assumption) _).mono ?_; rintro e w2 ⟨rfl, rfl⟩)
      | (go_at_call 18; refine (refField_any _ _ _ hx hx1 _).mono ?_; rintro e w2 ⟨rfl, rfl⟩))
    all_goals go_ret
    all_goals exact ⟨rfl, hb1⟩

set_option maxRecDepth 100000 in
theorem regsVttbr_law : LawWalk Try.prog 5 Try.f5 := by
  intro H enc W base args ds p hval hA hlt hfz hsz
  rw [Try.params5] at hA hval
  obtain ⟨v0, v1, v2, d0, d1, d2, p0, p1, p2, rfl, rfl, rfl, h0, h1, h2⟩ := trodAll_three hA
  obtain ⟨a, rfl, rfl, rfl, wa⟩ := open_int Try.underlying3 (hval 0 3 v0 rfl rfl) h0
  obtain ⟨x, rfl, rfl, rfl, wx⟩ := open_int Try.underlying22 (hval 1 22 v1 rfl rfl) h1
  obtain ⟨y, rfl, rfl, rfl, wy⟩ := open_int Try.underlying22 (hval 2 22 v2 rfl rfl) h2
  exact regsVttbr_any a x y (wf_nonneg wx) (wf_nonneg wy) (wf_lt wy) W
theorem regsVttbr_proved : Rows.RegsVttbrSaid :=
  OpenClaim.holds_of_wide 5 Try.f5 rfl rfl rfl rfl rfl rfl rfl ⟨rfl, rfl, rfl, rfl, rfl⟩ rfl rfl rfl rfl rfl (by kernel_rfl) Try.func5 (by kernel_rfl)
    (of_decide_eq_true (by kernel_rfl)) (by unfold Func.isWrapper; rw [if_neg (of_decide_eq_false (by kernel_rfl))]; exact ⟨rfl, rfl⟩)
    (fun os started H enc _ => law_lifted (C := Try.checked) (s := Rows.regsVttbrSpec) started own laidOut (by kernel_rfl) Try.func5 rfl (n := 3) (by kernel_rfl) (fun ds h => by match ds, h with | [_, _, _], _ => rfl) (tb := 4) (by kernel_rfl) Try.underlying4 (by kernel_rfl)
      (ChangeSpec.witness6 (enc := enc) (C := Try.checked) false ⟨#[], #[.int .i64 0, .int .u64 0, .int .u64 0], []⟩ 8 (by kernel_rfl) (by kernel_rfl) (by kernel_rfl) (by kernel_rfl)) regsVttbr_law)
end Go.Proofs.Ytdkhkpjepnmjnaa
