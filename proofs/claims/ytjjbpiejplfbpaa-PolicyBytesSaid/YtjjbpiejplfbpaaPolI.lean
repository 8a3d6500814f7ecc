/- Chapter 27, the law PolicyStarts: it returns true whatever the input, and leaves what was there. -/
import Derived.Test.YtjjbpiejplfbpaaPolH
namespace Go.Proofs.Ytjjbpiejplfbpaa
set_option linter.unusedVariables false
open Go.RowKit Go.Sort Go.ChangeShapes Go.WideShapes

set_option maxRecDepth 100000 in
set_option maxHeartbeats 8000000 in
theorem policyStarts_any (ver : Int) (A : Option Addr) (ng c : Nat) (A2 : Option Addr) (n2 c2 : Nat) (gs : List Gd) (A3 : Option Addr) (n3 c3 : Nat) (vs : List Vd) (gg : Int) (w : World) (hm : ng ≤ 9223372036854775807) (hm2 : n2 ≤ 9223372036854775807) (hm3 : n3 ≤ 9223372036854775807)
    (hl : gs.length = ng) (hg : GsOk w w.heap.size ng gs) (hr : GRows w A ng gs) (hv : VsOk n3 vs) (hr3 : VRows w w.heap.size A3 n3 vs) :
    Calls Try.prog 4 #[.agg #[.int .u32 ver, .slice A ng c, .slice A2 n2 c2], .slice A3 n3 c3, .int .i64 gg] w fun e w' => e = .returned (.bool true) ∧ Below w.heap.size w w' := by
  have HbX := Lib.hid (bal (Below.refl w.heap.size w) (.cells #[.int .u32 ver, .slice A ng c, .slice A2 n2 c2] 26))
  have HX := Lib.hid (Blk.new w 26 #[.int .u32 ver, .slice A ng c, .slice A2 n2 c2])
  have HGR := Lib.hid hr
  have HFw := Lib.hid (fun W (hr : GRows W A ng gs) => few_any ver A ng c A2 n2 c2 gs W hl hm hm2 hg hr)
  obtain ⟨F, hF⟩ : ∃ F, fewN ng n2 gs = F := ⟨_, rfl⟩
  rw [hF] at HFw
  cases F with
  | false =>
    clear hl hg hr hr3 hF hv
    go_enter Try.func4, Try.ntmps4
    go_wp2_with (first
      | (go_at_call 8; refine (awake27_any _).mono ?_; rintro e w1 ⟨rfl, hb1⟩; have hbx1 := HbX.out.trans (hb1.mono HbX.out.size); have hr1 := HGR.out.below hbx1; have hX1 := HX.out.kept hb1; have hcX1 := hX1.cell)
      | (go_at_call 9; refine (HFw.out _ hr1).mono ?_; rintro e w2 ⟨rfl, hb2⟩; have hX2 := hX1.kept hb2; have hcX2 := hX2.cell; have hbx2 := hbx1.trans (hb2.mono hbx1.size))
      | fail)
    all_goals (go_ret; exact ⟨rfl, hbx2⟩)
  | true =>
    obtain ⟨hng, hn2, hfew⟩ := fewN_iff hl hF
    by_cases h3 : n3 ≤ 30
    · by_cases hbad : n3 ≠ ng
      · have e1 : ((n3 : Int) != (ng : Int)) = true := by rw [bne_iff_ne]; omega
        clear hl hg hr hr3 hF hbad hfew hv
        go_enter Try.func4, Try.ntmps4
        go_wp2_with (first
          | (go_at_call 8; refine (awake27_any _).mono ?_; rintro e w1 ⟨rfl, hb1⟩; have hbx1 := HbX.out.trans (hb1.mono HbX.out.size); have hr1 := HGR.out.below hbx1; have hX1 := HX.out.kept hb1; have hcX1 := hX1.cell)
          | (go_at_call 9; refine (HFw.out _ hr1).mono ?_; rintro e w2 ⟨rfl, hb2⟩; have hX2 := hX1.kept hb2; have hcX2 := hX2.cell; have hbx2 := hbx1.trans (hb2.mono hbx1.size))
          | fail)
        all_goals (go_ret; exact ⟨rfl, hbx2⟩)
      · obtain rfl : n3 = ng := by omega
        obtain ⟨R, hR⟩ : ∃ R, fbK vs gs n3 = R := ⟨_, rfl⟩
        have HT1 := Lib.hid (fun W (hW : Below w.heap.size w W) => decide_any ver A n3 c A2 n2 c2 A3 c3 gs vs W (by omega) (fun W' h => gsOk_at hg (hW.trans (h.mono hW.size)) hW.size) (fun W' h => gRows_at hr (hW.trans (h.mono hW.size))) hv (hr3.below hW hW.size))
        rw [hR] at HT1
        have HRe := Lib.hid hR
        have HG := Lib.hid hg
        have HV := Lib.hid hv
        have HR3 := Lib.hid hr3
        clear hl hg hr hr3 hF hbad hfew hR hv
        cases R with
        | some g =>
          go_enter Try.func4, Try.ntmps4
          go_wp2_with (first
            | (go_at_call 8; refine (awake27_any _).mono ?_; rintro e w1 ⟨rfl, hb1⟩; have hbx1 := HbX.out.trans (hb1.mono HbX.out.size); have hr1 := HGR.out.below hbx1; have hX1 := HX.out.kept hb1; have hcX1 := hX1.cell)
            | (go_at_call 9; refine (HFw.out _ hr1).mono ?_; rintro e w2 ⟨rfl, hb2⟩; have hX2 := hX1.kept hb2; have hcX2 := hX2.cell; have hbx2 := hbx1.trans (hb2.mono hbx1.size))
            | (go_at_call 10; refine (HT1.out _ hbx2).mono ?_; rintro e w3 ⟨h3', hb3⟩; obtain rfl := (show e = .returned (.tuple #[.slice none 0 0, .int .i64 g, .int .i64 270]) from h3'); clear h3'; have hX3 := hX2.kept hb3; have hcX3 := hX3.cell; have hbx3 := hbx2.trans (hb3.mono hbx2.size)))
          have HX3 := Lib.hid hX3
          clear hX1 hcX1 hX2 hcX2 hbx1 hbx2 hr1 hX3 hcX3 hb1 hb2 hb3 HT1
          go_loopw [10, 39] (fun s10 i wr => ∃ k : Nat, k ≤ n3 ∧ i = .int .i64 k ∧ s10 = .bool (fbK vs gs k).isSome ∧ Below w3.heap.size w3 wr) (fun _ i _ => n3 - (intOf i).toNat)
          case atStart => exact ⟨0, by omega, rfl, rfl, Below.refl _ _⟩
          case round =>
            obtain ⟨k, hk, rfl, rfl, hb⟩ := hrel
            have hbw := hbx3.trans (hb.mono hbx3.size)
            have hcX := (HX3.out.kept hb).cell
            by_cases hlt : k < n3
            · cases hfb : fbK vs gs k with
              | some g' =>
                have HN := Lib.hid (show (fbK vs gs (k + 1)).isSome = true by rw [fbK_some hfb 1]; rfl)
                clear hfb
                simp only [Option.isSome_some]
                go_wp2
                go_roundw
                case rel => exact ⟨k + 1, by omega, by go_num, by rw [HN.out], hb⟩
                case measure => simp [intOf]; omega
              | none =>
                obtain ⟨b, o, rfl, hbb, hrg⟩ := HGR.out k hlt
                have hgk := HG.out k hlt
                have d1 : wr.cell? ⟨b, o + k * 79 + 1, none⟩ = some (.bool (gs.getD k zG).mand) := (hbw.cell (p := ⟨b, o + k * 79 + 1, none⟩) hbb).trans (hrg 1 _ hgk.c1)
                obtain ⟨b3, o3, rfl, hb3, hrg3⟩ := HR3.out.below hbw (Nat.le_refl _) k hlt
                have hvk := HV.out k hlt
                have e0 : wr.cell? ⟨b3, o3 + k * 35, none⟩ = some (.int .i64 (vs.getD k zVd).err) := by have := hrg3 0 _ hvk.c0; simpa using this
                have hst := fbK_none hfb
                have hbd : badN vs gs k = (decide ((vs.getD k zVd).err ≠ 0) && (gs.getD k zG).mand) := rfl
                rw [hbd] at hst
                clear hrg hgk hrg3 hvk hbd hfb
                generalize (gs.getD k zG).mand = md at *
                generalize (vs.getD k zVd).err = ev at *
                simp only [Option.isSome_none]
                by_cases herr : ev = 0
                · have HN := Lib.hid (show (fbK vs gs (k + 1)).isSome = false by rw [hst, herr]; rfl)
                  have x1 : (ev != 0) = false := by rw [bne_eq_false_iff_eq]; exact herr
                  clear hst herr
                  go_wp2
                  go_roundw
                  case rel => exact ⟨k + 1, by omega, by go_num, by rw [HN.out], hb⟩
                  case measure => simp [intOf]; omega
                · have x1 : (ev != 0) = true := by rw [bne_iff_ne]; exact herr
                  have HN := Lib.hid (show (fbK vs gs (k + 1)).isSome = md by rw [hst, decide_eq_true herr]; cases md <;> rfl)
                  clear hst herr
                  go_wp2
                  go_roundw
                  case rel => exact ⟨k + 1, by omega, by go_num, by rw [HN.out], hb⟩
                  case measure => simp [intOf]; omega
            · obtain rfl : k = n3 := by omega
              rw [HRe.out]
              simp only [Option.isSome_some]
              go_wp2
              go_ret
              exact ⟨rfl, hbw⟩
        | none =>
          have HL := Lib.hid (okK_len vs n3)
          go_enter Try.func4, Try.ntmps4
          go_wp2_with (first
            | (go_at_call 8; refine (awake27_any _).mono ?_; rintro e w1 ⟨rfl, hb1⟩; have hbx1 := HbX.out.trans (hb1.mono HbX.out.size); have hr1 := HGR.out.below hbx1; have hX1 := HX.out.kept hb1; have hcX1 := hX1.cell)
            | (go_at_call 9; refine (HFw.out _ hr1).mono ?_; rintro e w2 ⟨rfl, hb2⟩; have hX2 := hX1.kept hb2; have hcX2 := hX2.cell; have hbx2 := hbx1.trans (hb2.mono hbx1.size))
            | (go_at_call 10; refine (HT1.out _ hbx2).mono ?_; rintro e w3 ⟨h3', hb3⟩; obtain ⟨A7, c7, rfl, hr7⟩ := (show ∃ A c, e = .returned (.tuple #[.slice A n3 c, .int .i64 0, .int .i64 0]) ∧ Rd w3 w3.heap.size 1 A n3 ((okK vs n3).flatMap encBl) from h3'); clear h3'; have HR7 := Lib.hid hr7; clear hr7; have hX3 := hX2.kept hb3; have hcX3 := hX3.cell; have hbx3 := hbx2.trans (hb3.mono hbx2.size)))
          have HX3 := Lib.hid hX3
          clear hX1 hcX1 hX2 hcX2 hbx1 hbx2 hr1 hX3 hcX3 hb1 hb2 hb3 HT1
          go_loopw [10, 39] (fun s10 i wr => ∃ k : Nat, k ≤ n3 ∧ i = .int .i64 k ∧ s10 = .bool (fbK vs gs k).isSome ∧ Below w3.heap.size w3 wr) (fun _ i _ => n3 - (intOf i).toNat)
          case atStart => exact ⟨0, by omega, rfl, rfl, Below.refl _ _⟩
          case round =>
            obtain ⟨k, hk, rfl, rfl, hb⟩ := hrel
            have hbw := hbx3.trans (hb.mono hbx3.size)
            have hcX := (HX3.out.kept hb).cell
            by_cases hlt : k < n3
            · cases hfb : fbK vs gs k with
              | some g' =>
                have HN := Lib.hid (show (fbK vs gs (k + 1)).isSome = true by rw [fbK_some hfb 1]; rfl)
                clear hfb
                simp only [Option.isSome_some]
                go_wp2
                go_roundw
                case rel => exact ⟨k + 1, by omega, by go_num, by rw [HN.out], hb⟩
                case measure => simp [intOf]; omega
              | none =>
                obtain ⟨b, o, rfl, hbb, hrg⟩ := HGR.out k hlt
                have hgk := HG.out k hlt
                have d1 : wr.cell? ⟨b, o + k * 79 + 1, none⟩ = some (.bool (gs.getD k zG).mand) := (hbw.cell (p := ⟨b, o + k * 79 + 1, none⟩) hbb).trans (hrg 1 _ hgk.c1)
                obtain ⟨b3, o3, rfl, hb3, hrg3⟩ := HR3.out.below hbw (Nat.le_refl _) k hlt
                have hvk := HV.out k hlt
                have e0 : wr.cell? ⟨b3, o3 + k * 35, none⟩ = some (.int .i64 (vs.getD k zVd).err) := by have := hrg3 0 _ hvk.c0; simpa using this
                have hst := fbK_none hfb
                have hbd : badN vs gs k = (decide ((vs.getD k zVd).err ≠ 0) && (gs.getD k zG).mand) := rfl
                rw [hbd] at hst
                clear hrg hgk hrg3 hvk hbd hfb
                generalize (gs.getD k zG).mand = md at *
                generalize (vs.getD k zVd).err = ev at *
                simp only [Option.isSome_none]
                by_cases herr : ev = 0
                · have HN := Lib.hid (show (fbK vs gs (k + 1)).isSome = false by rw [hst, herr]; rfl)
                  have x1 : (ev != 0) = false := by rw [bne_eq_false_iff_eq]; exact herr
                  clear hst herr
                  go_wp2
                  go_roundw
                  case rel => exact ⟨k + 1, by omega, by go_num, by rw [HN.out], hb⟩
                  case measure => simp [intOf]; omega
                · have x1 : (ev != 0) = true := by rw [bne_iff_ne]; exact herr
                  have HN := Lib.hid (show (fbK vs gs (k + 1)).isSome = md by rw [hst, decide_eq_true herr]; cases md <;> rfl)
                  clear hst herr
                  go_wp2
                  go_roundw
                  case rel => exact ⟨k + 1, by omega, by go_num, by rw [HN.out], hb⟩
                  case measure => simp [intOf]; omega
            · obtain rfl : k = n3 := by omega
              rw [HRe.out]
              simp only [Option.isSome_none]
              have HBw := Lib.hid hbw
              by_cases hg0 : gg < 0
              · clear hbw hcX
                go_wp2
                go_quiet (fail)
                go_wp2
                go_ret
                exact ⟨rfl, below_drewN HBw.out _⟩
              · obtain ⟨q, rfl⟩ := Int.eq_ofNat_of_zero_le (show 0 ≤ gg by omega)
                clear hg0
                have z0 : decide ((q : Int) < 0) = false := decide_eq_false (by omega)
                have z2 : ¬ (q : Int) < 0 := by omega
                by_cases hq : k ≤ q
                · have z1 : decide ((k : Int) ≤ (q : Int)) = true := decide_eq_true (by omega)
                  have z3 : (k : Int) ≤ (q : Int) := by omega
                  clear hbw hcX
                  go_wp2
                  go_quiet (fail)
                  go_wp2
                  go_ret
                  exact ⟨rfl, below_drewN HBw.out _⟩
                · have hq2 : q < k := by omega
                  have z1 : decide ((k : Int) ≤ (q : Int)) = false := decide_eq_false (by omega)
                  have z3 : ¬ (k : Int) ≤ (q : Int) := by omega
                  obtain ⟨b8, o8, rfl, hb8, hc8⟩ := (HR7.out.below hb).row (fun _ => rfl) (k := q) (by rw [HL.out]; exact hq2) HL.out
                  have d8 := hc8 0 (by omega)
                  rw [okK_get vs k q hq2] at d8
                  simp only [encBl, Nat.add_zero, Nat.mul_one, List.getElem?_cons_zero] at d8
                  obtain ⟨b3, o3, rfl, hb3, hrg3⟩ := HR3.out.below hbw (Nat.le_refl _) q hq2
                  have hvk := HV.out q hq2
                  have e0 : wr.cell? ⟨b3, o3 + q * 35, none⟩ = some (.int .i64 (vs.getD q zVd).err) := by have := hrg3 0 _ hvk.c0; simpa using this
                  clear hc8 hrg3 hvk hbw hcX
                  generalize (vs.getD q zVd).err = ev at *
                  cases hev : (ev == 0)
                  all_goals
                    rw [hev] at d8
                    go_wp2
                    go_quiet (fail)
                    go_wp2
                    go_ret
                    exact ⟨rfl, below_drewN HBw.out _⟩
    · have H := Lib.hid h3
      clear hl hg hr hr3 hF h3 hv
      go_enter Try.func4, Try.ntmps4
      go_wp2_with (first
        | (go_at_call 8; refine (awake27_any _).mono ?_; rintro e w1 ⟨rfl, hb1⟩; have hbx1 := HbX.out.trans (hb1.mono HbX.out.size); have hr1 := HGR.out.below hbx1; have hX1 := HX.out.kept hb1; have hcX1 := hX1.cell)
        | (go_at_call 9; refine (HFw.out _ hr1).mono ?_; rintro e w2 ⟨rfl, hb2⟩; have hX2 := hX1.kept hb2; have hcX2 := hX2.cell; have hbx2 := hbx1.trans (hb2.mono hbx1.size))
        | (go_at_call 10; exfalso; refine H.out ?_; omega))
      all_goals (go_ret; exact ⟨rfl, hbx2⟩)

set_option maxRecDepth 100000 in
theorem policyStarts_law : LawWalk Try.prog 4 Try.f4 := by
  intro H enc W base args ds p hval hA hlt hfz hsz
  rw [Try.params4] at hA hval
  obtain ⟨v0, v1, v2, d0, d1, d2, p0, p1, p2, rfl, rfl, rfl, h0, h1, h2⟩ := trodAll_three hA
  obtain ⟨gg, rfl, rfl, rfl, wg⟩ := open_int Try.underlying3 (hval 2 3 v2 rfl rfl) h2
  obtain ⟨ver, A, ng, c, A2, n2, c2, gs, rfl, hm, hm2, hl, hg, hr⟩ := open_config (hval 0 26 v0 rfl rfl) h0 (fun x hx => hlt x (by simp [hx]))
  obtain ⟨A3, n3, c3, vs, rfl, hm3, hl3, hv, hr3⟩ := open_vds (hval 1 27 v1 rfl rfl) h1 (fun x hx => hlt x (by simp [hx]))
  exact policyStarts_any ver A ng c A2 n2 c2 gs A3 n3 c3 vs gg W hm hm2 hm3 hl (gsOk_of hl hg) (gRows_of hl hg hr) hv hr3
theorem policyStarts_proved : Rows.PolicyStartsSaid :=
  OpenClaim.holds_of_wide 4 Try.f4 rfl rfl rfl rfl rfl rfl rfl ⟨rfl, rfl, rfl, rfl, rfl⟩ rfl rfl rfl rfl rfl (by kernel_rfl) Try.func4 (by kernel_rfl)
    (of_decide_eq_true (by kernel_rfl)) (by unfold Func.isWrapper; rw [if_neg (of_decide_eq_false (by kernel_rfl))]; exact ⟨rfl, rfl⟩)
    (fun os started H enc _ => law_lifted (C := Try.checked) (s := Rows.policyStartsSpec) started own laidOut (by kernel_rfl) Try.func4 rfl (n := 3) (by kernel_rfl) (fun ds h => by match ds, h with | [_, _, _], _ => rfl) (tb := 4) (by kernel_rfl) Try.underlying4 (by kernel_rfl)
      (ChangeSpec.witness6 (enc := enc) (C := Try.checked) false ⟨#[], #[.agg #[.int .u32 0, .slice none 0 0, .slice none 0 0], .slice none 0 0, .int .i64 0], []⟩ 8 (by kernel_rfl) (by kernel_rfl) (by kernel_rfl) (by kernel_rfl)) policyStarts_law)
end Go.Proofs.Ytjjbpiejplfbpaa
