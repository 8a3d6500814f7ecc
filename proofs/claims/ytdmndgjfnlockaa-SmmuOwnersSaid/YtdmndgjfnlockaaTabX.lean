/- Chapter 23, the law SmmuTables: it returns true whatever the input, and leaves what was there. -/
import Derived.Test.YtdmndgjfnlockaaTabW
namespace Go.Proofs.Ytdmndgjfnlockaa
set_option linter.unusedVariables false
open Go.RowKit Go.Sort Go.ChangeShapes Go.WideShapes

set_option maxRecDepth 100000 in
set_option maxHeartbeats 8000000 in
theorem smmuTables_any (n : Int) (ver : Int) (A : Option Addr) (ng c : Nat) (A2 : Option Addr) (n2 c2 : Nat) (gs : List Gd) (A3 : Option Addr) (n3 c3 : Nat) (st : List Bool) (A4 : Option Addr) (n4 c4 : Nat) (vt : List Int) (w : World) (hm : ng ≤ 9223372036854775807) (hm2 : n2 ≤ 9223372036854775807) (hm3 : n3 ≤ 9223372036854775807) (hm4 : n4 ≤ 9223372036854775807)
    (hl : gs.length = ng) (hl3 : st.length = n3) (hl4 : vt.length = n4) (hg : GsOk w w.heap.size ng gs) (hr : GRows w A ng gs)
    (hr3 : Rd w w.heap.size 1 A3 n3 (st.flatMap encBl)) (hr4 : Rd w w.heap.size 1 A4 n4 (vt.flatMap encQ)) (hv : ∀ v ∈ vt, 0 ≤ v ∧ v < 18446744073709551616) :
    Calls Try.prog 5 #[.int .i64 n, .agg #[.int .u32 ver, .slice A ng c, .slice A2 n2 c2], .slice A3 n3 c3, .slice A4 n4 c4] w fun e w' => e = .returned (.bool true) ∧ Below w.heap.size w w' := by
  have HbX := Lib.hid (bal (Below.refl w.heap.size w) (.cells #[.int .u32 ver, .slice A ng c, .slice A2 n2 c2] 40))
  have HX := Lib.hid (Blk.new w 40 #[.int .u32 ver, .slice A ng c, .slice A2 n2 c2])
  have HGR := Lib.hid hr
  have HFw := Lib.hid (fun W (hr : GRows W A ng gs) => few_any ver A ng c A2 n2 c2 gs W hl hm hm2 hg hr)
  obtain ⟨F, hF⟩ : ∃ F, fewN ng n2 gs = F := ⟨_, rfl⟩
  rw [hF] at HFw
  cases F with
  | false =>
    clear hl hl3 hl4 hg hr hr3 hr4 hv hF
    go_enter Try.func5, Try.ntmps5
    go_wp2_with (first
      | (go_at_call 17; refine (awake23_any _).mono ?_; rintro e w1 ⟨rfl, hb1⟩; have hbx1 := HbX.out.trans (hb1.mono HbX.out.size); have hr1 := HGR.out.below hbx1; have hX1 := HX.out.kept hb1; have hcX1 := hX1.cell)
      | (go_at_call 18; refine (HFw.out _ hr1).mono ?_; rintro e w2 ⟨rfl, hb2⟩))
    all_goals (go_ret; exact ⟨rfl, hbx1.trans (hb2.mono hbx1.size)⟩)
  | true =>
    obtain ⟨hng, hn2, hfew⟩ := fewN_iff hl hF
    by_cases h30 : n3 ≤ 30 ∧ n4 ≤ 30
    · obtain ⟨h3, h4⟩ := h30
      by_cases hbad : n < 0 ∨ 256 < n ∨ n3 ≠ ng ∨ n4 ≠ ng
      · have HB1 := Lib.hid (fun W => tableBad_any n ver A ng c A2 n2 c2 A3 n3 c3 A4 n4 c4 W hbad)
        have HB2 := Lib.hid (fun W => refTableBad_any n ver A ng c A2 n2 c2 A3 n3 c3 A4 n4 c4 W hbad)
        clear hl hl3 hl4 hg hr hr3 hr4 hv hF hbad hfew
        go_enter Try.func5, Try.ntmps5
        go_wp2_with (first
          | (go_at_call 17; refine (awake23_any _).mono ?_; rintro e w1 ⟨rfl, hb1⟩; have hbx1 := HbX.out.trans (hb1.mono HbX.out.size); have hr1 := HGR.out.below hbx1; have hX1 := HX.out.kept hb1; have hcX1 := hX1.cell)
          | (go_at_call 18; refine (HFw.out _ hr1).mono ?_; rintro e w2 ⟨rfl, hb2⟩; have hX2 := hX1.kept hb2; have hcX2 := hX2.cell; have hbx2 := hbx1.trans (hb2.mono hbx1.size))
          | (go_at_call 19; refine (HB1.out _).mono ?_; rintro e w3 ⟨rfl, hb3⟩; have hX3 := hX2.kept hb3; have hcX3 := hX3.cell; have hbx3 := hbx2.trans (hb3.mono hbx2.size))
          | (go_at_call 20; refine (HB2.out _).mono ?_; rintro e w4 ⟨rfl, hb4⟩; have hbx4 := hbx3.trans (hb4.mono hbx3.size))
          | (go_at_call 21; refine (sameTable_eq none none 0 0 0 [] _ rfl (by decide) Rd.nil Rd.nil).mono ?_; rintro e w5 ⟨rfl, hb5⟩; have hbx5 := hbx4.trans (hb5.mono hbx4.size)))
        go_ret
        exact ⟨rfl, hbx5⟩
      · have hn0 : 0 ≤ n := by omega
        obtain ⟨N, rfl⟩ := Int.eq_ofNat_of_zero_le hn0
        have hN : N ≤ 256 := by omega
        obtain rfl : n3 = ng := by omega
        obtain rfl : n4 = n3 := by omega
        obtain ⟨R, hR⟩ : ∃ R, tabK N gs st vt n4 = R := ⟨_, rfl⟩
        have HT1 := Lib.hid (fun W (hW : Below w.heap.size w W) => table_any N ver A n4 c A2 n2 c2 gs A3 c3 st A4 c4 vt W hN hng hl hl3 hl4 hg hW.size (fun W' h => hW.trans (h.mono hW.size)) hfew (hr.below hW) ((hr3.below hW).more hW.size) ((hr4.below hW).more hW.size) hv)
        have HT2 := Lib.hid (fun W (hW : Below w.heap.size w W) => refTable_any N ver A n4 c A2 n2 c2 gs A3 c3 st A4 c4 vt W hN hng hl hl3 hl4 hg hW.size (fun W' h => hW.trans (h.mono hW.size)) hfew (hr.below hW) ((hr3.below hW).more hW.size) ((hr4.below hW).more hW.size) hv)
        rw [hR] at HT1 HT2
        clear hl hl3 hl4 hg hr hr3 hr4 hv hF hbad hfew hR hn0
        cases R with
        | none =>
          go_enter Try.func5, Try.ntmps5
          go_wp2_with (first
            | (go_at_call 17; refine (awake23_any _).mono ?_; rintro e w1 ⟨rfl, hb1⟩; have hbx1 := HbX.out.trans (hb1.mono HbX.out.size); have hr1 := HGR.out.below hbx1; have hX1 := HX.out.kept hb1; have hcX1 := hX1.cell)
            | (go_at_call 18; refine (HFw.out _ hr1).mono ?_; rintro e w2 ⟨rfl, hb2⟩; have hX2 := hX1.kept hb2; have hcX2 := hX2.cell; have hbx2 := hbx1.trans (hb2.mono hbx1.size))
            | (go_at_call 19; refine (HT1.out _ hbx2).mono ?_; rintro e w3 ⟨h3', hb3⟩; obtain rfl := (show e = .returned (.tuple #[.slice none 0 0, .int .i64 230]) from h3'); clear h3'; have hX3 := hX2.kept hb3; have hcX3 := hX3.cell; have hbx3 := hbx2.trans (hb3.mono hbx2.size))
            | (go_at_call 20; refine (HT2.out _ hbx3).mono ?_; rintro e w4 ⟨h4', hb4⟩; obtain rfl := (show e = .returned (.tuple #[.slice none 0 0, .int .i64 230]) from h4'); clear h4'; have hbx4 := hbx3.trans (hb4.mono hbx3.size))
            | (go_at_call 21; refine (sameTable_eq none none 0 0 0 [] _ rfl (by decide) Rd.nil Rd.nil).mono ?_; rintro e w5 ⟨rfl, hb5⟩; have hbx5 := hbx4.trans (hb5.mono hbx4.size)))
          go_ret
          exact ⟨rfl, hbx5⟩
        | some l =>
          go_enter Try.func5, Try.ntmps5
          go_wp2_with (first
            | (go_at_call 17; refine (awake23_any _).mono ?_; rintro e w1 ⟨rfl, hb1⟩; have hbx1 := HbX.out.trans (hb1.mono HbX.out.size); have hr1 := HGR.out.below hbx1; have hX1 := HX.out.kept hb1; have hcX1 := hX1.cell)
            | (go_at_call 18; refine (HFw.out _ hr1).mono ?_; rintro e w2 ⟨rfl, hb2⟩; have hX2 := hX1.kept hb2; have hcX2 := hX2.cell; have hbx2 := hbx1.trans (hb2.mono hbx1.size))
            | (go_at_call 19; refine (HT1.out _ hbx2).mono ?_; rintro e w3 ⟨h3', hb3⟩; obtain ⟨A7, c7, rfl, hl7, hr7⟩ := (show ∃ A c, e = .returned (.tuple #[.slice A N c, .int .i64 0]) ∧ l.length = N ∧ Rd w3 w3.heap.size 3 A N (l.flatMap encS) from h3'); clear h3'; have hX3 := hX2.kept hb3; have hcX3 := hX3.cell; have hbx3 := hbx2.trans (hb3.mono hbx2.size))
            | (go_at_call 20; refine (HT2.out _ hbx3).mono ?_; rintro e w4 ⟨h4', hb4⟩; obtain ⟨A8, c8, rfl, hl8, hr8⟩ := (show ∃ A c, e = .returned (.tuple #[.slice A N c, .int .i64 0]) ∧ l.length = N ∧ Rd w4 w4.heap.size 3 A N (l.flatMap encS) from h4'); clear h4'; have hbx4 := hbx3.trans (hb4.mono hbx3.size))
            | (go_at_call 21; refine (sameTable_eq A7 A8 N c7 c8 l _ hl7 (by omega) ((hr7.below hb4).more hb4.size) hr8).mono ?_; rintro e w5 ⟨rfl, hb5⟩; have hbx5 := hbx4.trans (hb5.mono hbx4.size)))
          go_ret
          exact ⟨rfl, hbx5⟩
    · have H := Lib.hid h30
      clear hl hl3 hl4 hg hr hr3 hr4 hv hF h30
      go_enter Try.func5, Try.ntmps5
      go_wp2_with (first
        | (go_at_call 17; refine (awake23_any _).mono ?_; rintro e w1 ⟨rfl, hb1⟩; have hbx1 := HbX.out.trans (hb1.mono HbX.out.size); have hr1 := HGR.out.below hbx1; have hX1 := HX.out.kept hb1; have hcX1 := hX1.cell)
        | (go_at_call 18; refine (HFw.out _ hr1).mono ?_; rintro e w2 ⟨rfl, hb2⟩; have hX2 := hX1.kept hb2; have hcX2 := hX2.cell; have hbx2 := hbx1.trans (hb2.mono hbx1.size))
        | (go_at_call 19; exfalso; refine H.out ?_; omega))
      all_goals (go_ret; exact ⟨rfl, hbx2⟩)

theorem flat_bool : flatOf Try.prog 5 4 = some [.bool] := by kernel_rfl
theorem flat_u64 : flatOf Try.prog 5 23 = some [.int .u64] := by kernel_rfl
theorem flatb1 {cs : List Value} (h : FlatOk [.bool] cs) : ∃ b : Bool, cs = encBl b := by
  match cs, h with
  | [.bool b], _ => exact ⟨b, rfl⟩
theorem flatq1 {cs : List Value} (h : FlatOk [.int .u64] cs) : ∃ x : Int, cs = encQ x ∧ (0 ≤ x ∧ x < 18446744073709551616) := by
  match cs, h with
  | [.int _ a], ⟨rfl, wa, _⟩ =>
    refine ⟨a, rfl, ?_⟩
    simp [Lit.wf, IntKind.min, IntKind.max, IntKind.signed, IntKind.bits] at wa
    omega
set_option maxRecDepth 100000 in
theorem smmuTables_law : LawWalk Try.prog 5 Try.f5 := by
  intro H enc W base args ds p hval hA hlt hfz hsz
  rw [Try.params5] at hA hval
  obtain ⟨v0, v1, v2, v3, d0, d1, d2, d3, p0, p1, p2, p3, rfl, rfl, rfl, h0, h1, h2, h3⟩ := trodAll_four hA
  obtain ⟨n, rfl, rfl, rfl, wn⟩ := open_int Try.underlying3 (hval 0 3 v0 rfl rfl) h0
  obtain ⟨ver, A, ng, c, A2, n2, c2, gs, rfl, hm, hm2, hl, hg, hr⟩ := open_config (hval 1 40 v1 rfl rfl) h1 (fun x hx => hlt x (by simp [hx]))
  obtain ⟨A3, n3, c3, xss, rfl, hnc3, hcm3, hx3, hok3, hr3⟩ := open_rows Try.underlying41 flat_bool (by kernel_rfl) (by decide) (hval 2 41 v2 rfl rfl) h2 (fun x hx => hlt x (by simp [hx]))
  obtain ⟨st, hl3, hf3, _⟩ := list_of_rows (enc := encBl) (ok := fun _ => True) xss (fun xs hxs => by obtain ⟨p, rfl⟩ := flatb1 (hok3 xs hxs); exact ⟨p, rfl, trivial⟩)
  rw [hf3] at hr3
  obtain ⟨A4, n4, c4, yss, rfl, hnc4, hcm4, hx4, hok4, hr4⟩ := open_rows Try.underlying42 flat_u64 (by kernel_rfl) (by decide) (hval 3 42 v3 rfl rfl) h3 (fun x hx => hlt x (by simp [hx]))
  obtain ⟨vt, hl4, hf4, hv4⟩ := list_of_rows (enc := encQ) (ok := fun x => 0 ≤ x ∧ x < 18446744073709551616) yss (fun xs hxs => by obtain ⟨p, rfl, hp⟩ := flatq1 (hok4 xs hxs); exact ⟨p, rfl, hp⟩)
  rw [hf4] at hr4
  exact smmuTables_any n ver A ng c A2 n2 c2 gs A3 n3 c3 st A4 n4 c4 vt W hm hm2 (ml (Nat.le_trans hnc3 hcm3)) (ml (Nat.le_trans hnc4 hcm4)) hl (hl3.trans hx3) (hl4.trans hx4) (gsOk_of hl hg) (gRows_of hl hg hr) hr3 hr4 hv4
theorem smmuTables_proved : Rows.SmmuTablesSaid :=
  OpenClaim.holds_of_wide 5 Try.f5 rfl rfl rfl rfl rfl rfl rfl ⟨rfl, rfl, rfl, rfl, rfl⟩ rfl rfl rfl rfl rfl (by kernel_rfl) Try.func5 (by kernel_rfl)
    (of_decide_eq_true (by kernel_rfl)) (by unfold Func.isWrapper; rw [if_neg (of_decide_eq_false (by kernel_rfl))]; exact ⟨rfl, rfl⟩)
    (fun os started H enc _ => law_lifted (C := Try.checked) (s := Rows.smmuTablesSpec) started own laidOut (by kernel_rfl) Try.func5 rfl (n := 4) (by kernel_rfl) (fun ds h => by match ds, h with | [_, _, _, _], _ => rfl) (tb := 4) (by kernel_rfl) Try.underlying4 (by kernel_rfl)
      (ChangeSpec.witness6 (enc := enc) (C := Try.checked) false ⟨#[], #[.int .i64 0, .agg #[.int .u32 0, .slice none 0 0, .slice none 0 0], .slice none 0 0, .slice none 0 0], []⟩ 8 (by kernel_rfl) (by kernel_rfl) (by kernel_rfl) (by kernel_rfl)) smmuTables_law)
end Go.Proofs.Ytdmndgjfnlockaa
