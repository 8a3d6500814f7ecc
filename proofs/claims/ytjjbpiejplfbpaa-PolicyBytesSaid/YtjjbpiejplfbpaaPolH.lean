/- Chapter 27, the laws PolicyDecides and PolicyStarts: they return true whatever the input, and leave what was there. -/
import Derived.Test.YtjjbpiejplfbpaaPolG
namespace Go.Proofs.Ytjjbpiejplfbpaa
set_option linter.unusedVariables false
open Go.RowKit Go.Sort Go.ChangeShapes Go.WideShapes

theorem gsOk_at {w W : World} {n B : Nat} {gs : List Gd} (h : GsOk w w.heap.size n gs) (hb : Below w.heap.size w W) (hs : w.heap.size ≤ B) : GsOk W B n gs := fun k hk => by
  have g := h k hk
  exact ⟨g.len, g.one, g.c0, g.c1, g.cW, g.cD, g.cI, g.cS, g.li, g.ls, (g.ri.below hb).more hs, (g.rs.below hb).more hs, g.bs, g.mI, g.mS, g.mW, g.mD, g.mN⟩
theorem gRows_at {w W : World} {A : Option Addr} {n : Nat} {gs : List Gd} (h : GRows w A n gs) (hb : Below w.heap.size w W) : GRows W A n gs := h.below hb

set_option maxRecDepth 100000 in
set_option maxHeartbeats 8000000 in
theorem policyDecides_any (ver : Int) (A : Option Addr) (ng c : Nat) (A2 : Option Addr) (n2 c2 : Nat) (gs : List Gd) (A3 : Option Addr) (n3 c3 : Nat) (vs : List Vd) (w : World) (hm : ng ≤ 9223372036854775807) (hm2 : n2 ≤ 9223372036854775807) (hm3 : n3 ≤ 9223372036854775807)
    (hl : gs.length = ng) (hg : GsOk w w.heap.size ng gs) (hr : GRows w A ng gs) (hv : VsOk n3 vs) (hr3 : VRows w w.heap.size A3 n3 vs) :
    Calls Try.prog 3 #[.agg #[.int .u32 ver, .slice A ng c, .slice A2 n2 c2], .slice A3 n3 c3] w fun e w' => e = .returned (.bool true) ∧ Below w.heap.size w w' := by
  have HbX := Lib.hid (bal (Below.refl w.heap.size w) (.cells #[.int .u32 ver, .slice A ng c, .slice A2 n2 c2] 26))
  have HX := Lib.hid (Blk.new w 26 #[.int .u32 ver, .slice A ng c, .slice A2 n2 c2])
  have HGR := Lib.hid hr
  have HFw := Lib.hid (fun W (hr : GRows W A ng gs) => few_any ver A ng c A2 n2 c2 gs W hl hm hm2 hg hr)
  obtain ⟨F, hF⟩ : ∃ F, fewN ng n2 gs = F := ⟨_, rfl⟩
  rw [hF] at HFw
  cases F with
  | false =>
    clear hl hg hr hr3 hF hv
    go_enter Try.func3, Try.ntmps3
    go_wp2_with (first
      | (go_at_call 8; refine (awake27_any _).mono ?_; rintro e w1 ⟨rfl, hb1⟩; have hbx1 := HbX.out.trans (hb1.mono HbX.out.size); have hr1 := HGR.out.below hbx1; have hX1 := HX.out.kept hb1; have hcX1 := hX1.cell)
      | (go_at_call 9; refine (HFw.out _ hr1).mono ?_; rintro e w2 ⟨rfl, hb2⟩; have hX2 := hX1.kept hb2; have hcX2 := hX2.cell; have hbx2 := hbx1.trans (hb2.mono hbx1.size))
      | fail)
    all_goals (go_ret; exact ⟨rfl, hbx2⟩)
  | true =>
    obtain ⟨hng, hn2, hfew⟩ := fewN_iff hl hF
    by_cases h3 : n3 ≤ 30
    · by_cases hbad : n3 ≠ ng
      · have HB1 := Lib.hid (fun W => decideBad_any ver A ng c A2 n2 c2 A3 n3 c3 W hbad)
        have HB2 := Lib.hid (fun W => refDecideBad_any ver A ng c A2 n2 c2 A3 n3 c3 W hbad)
        clear hl hg hr hr3 hF hbad hfew hv
        go_enter Try.func3, Try.ntmps3
        go_wp2_with (first
          | (go_at_call 8; refine (awake27_any _).mono ?_; rintro e w1 ⟨rfl, hb1⟩; have hbx1 := HbX.out.trans (hb1.mono HbX.out.size); have hr1 := HGR.out.below hbx1; have hX1 := HX.out.kept hb1; have hcX1 := hX1.cell)
          | (go_at_call 9; refine (HFw.out _ hr1).mono ?_; rintro e w2 ⟨rfl, hb2⟩; have hX2 := hX1.kept hb2; have hcX2 := hX2.cell; have hbx2 := hbx1.trans (hb2.mono hbx1.size))
          | (go_at_call 10; refine (HB1.out _).mono ?_; rintro e w3 ⟨rfl, hb3⟩; have hX3 := hX2.kept hb3; have hcX3 := hX3.cell; have hbx3 := hbx2.trans (hb3.mono hbx2.size))
          | (go_at_call 11; refine (HB2.out _).mono ?_; rintro e w4 ⟨rfl, hb4⟩; have hbx4 := hbx3.trans (hb4.mono hbx3.size)))
        go_loopw [11, 53] (fun _ i wr => i = .int .i64 0 ∧ wr = w4) (fun _ _ _ => 0)
        case atStart => exact ⟨rfl, rfl⟩
        case round =>
          obtain ⟨rfl, rfl⟩ := hrel
          go_wp2
          go_ret
          exact ⟨rfl, hbx4⟩
      · obtain rfl : n3 = ng := by omega
        obtain ⟨R, hR⟩ : ∃ R, fbK vs gs n3 = R := ⟨_, rfl⟩
        have HT1 := Lib.hid (fun W (hW : Below w.heap.size w W) => decide_any ver A n3 c A2 n2 c2 A3 c3 gs vs W (by omega) (fun W' h => gsOk_at hg (hW.trans (h.mono hW.size)) hW.size) (fun W' h => gRows_at hr (hW.trans (h.mono hW.size))) hv (hr3.below hW hW.size))
        have HT2 := Lib.hid (fun W (hW : Below w.heap.size w W) => refDecide_any ver A n3 c A2 n2 c2 A3 c3 gs vs W (by omega) (fun W' h => gsOk_at hg (hW.trans (h.mono hW.size)) hW.size) (fun W' h => gRows_at hr (hW.trans (h.mono hW.size))) hv (hr3.below hW hW.size))
        rw [hR] at HT1 HT2
        clear hl hg hr hr3 hF hbad hfew hR hv
        cases R with
        | some g =>
          go_enter Try.func3, Try.ntmps3
          go_wp2_with (first
            | (go_at_call 8; refine (awake27_any _).mono ?_; rintro e w1 ⟨rfl, hb1⟩; have hbx1 := HbX.out.trans (hb1.mono HbX.out.size); have hr1 := HGR.out.below hbx1; have hX1 := HX.out.kept hb1; have hcX1 := hX1.cell)
            | (go_at_call 9; refine (HFw.out _ hr1).mono ?_; rintro e w2 ⟨rfl, hb2⟩; have hX2 := hX1.kept hb2; have hcX2 := hX2.cell; have hbx2 := hbx1.trans (hb2.mono hbx1.size))
            | (go_at_call 10; refine (HT1.out _ hbx2).mono ?_; rintro e w3 ⟨h3', hb3⟩; obtain rfl := (show e = .returned (.tuple #[.slice none 0 0, .int .i64 g, .int .i64 270]) from h3'); clear h3'; have hX3 := hX2.kept hb3; have hcX3 := hX3.cell; have hbx3 := hbx2.trans (hb3.mono hbx2.size))
            | (go_at_call 11; refine (HT2.out _ hbx3).mono ?_; rintro e w4 ⟨h4', hb4⟩; obtain rfl := (show e = .returned (.tuple #[.slice none 0 0, .int .i64 g, .int .i64 270]) from h4'); clear h4'; have hbx4 := hbx3.trans (hb4.mono hbx3.size)))
          go_loopw [11, 53] (fun _ i wr => i = .int .i64 0 ∧ wr = w4) (fun _ _ _ => 0)
          case atStart => exact ⟨rfl, rfl⟩
          case round =>
            obtain ⟨rfl, rfl⟩ := hrel
            go_wp2
            go_ret
            exact ⟨rfl, hbx4⟩
        | none =>
          have HL := Lib.hid (okK_len vs n3)
          go_enter Try.func3, Try.ntmps3
          go_wp2_with (first
            | (go_at_call 8; refine (awake27_any _).mono ?_; rintro e w1 ⟨rfl, hb1⟩; have hbx1 := HbX.out.trans (hb1.mono HbX.out.size); have hr1 := HGR.out.below hbx1; have hX1 := HX.out.kept hb1; have hcX1 := hX1.cell)
            | (go_at_call 9; refine (HFw.out _ hr1).mono ?_; rintro e w2 ⟨rfl, hb2⟩; have hX2 := hX1.kept hb2; have hcX2 := hX2.cell; have hbx2 := hbx1.trans (hb2.mono hbx1.size))
            | (go_at_call 10; refine (HT1.out _ hbx2).mono ?_; rintro e w3 ⟨h3', hb3⟩; obtain ⟨A7, c7, rfl, hr7⟩ := (show ∃ A c, e = .returned (.tuple #[.slice A n3 c, .int .i64 0, .int .i64 0]) ∧ Rd w3 w3.heap.size 1 A n3 ((okK vs n3).flatMap encBl) from h3'); clear h3'; have hX3 := hX2.kept hb3; have hcX3 := hX3.cell; have hbx3 := hbx2.trans (hb3.mono hbx2.size))
            | (go_at_call 11; refine (HT2.out _ hbx3).mono ?_; rintro e w4 ⟨h4', hb4⟩; obtain ⟨A8, c8, rfl, hr8⟩ := (show ∃ A c, e = .returned (.tuple #[.slice A n3 c, .int .i64 0, .int .i64 0]) ∧ Rd w4 w4.heap.size 1 A n3 ((okK vs n3).flatMap encBl) from h4'); clear h4'; have hbx4 := hbx3.trans (hb4.mono hbx3.size)))
          have X1 := Lib.hid ((hr7.below hb4).more hb4.size)
          have Y1 := Lib.hid hr8
          clear hr7 hr8
          go_loopw [11, 53] (fun _ i wr => ∃ k : Nat, k ≤ n3 ∧ i = .int .i64 k ∧ Below w4.heap.size w4 wr) (fun _ i _ => n3 - (intOf i).toNat)
          case atStart => exact ⟨0, by omega, rfl, Below.refl _ _⟩
          case round =>
            obtain ⟨k, hk, rfl, hbr⟩ := hrel
            by_cases hlt : k < n3
            · have hlt' : k < (okK vs n3).length := by rw [HL.out]; exact hlt
              obtain ⟨b1, o1, rfl, hbb1, hc1⟩ := (X1.out.below hbr).row (fun _ => rfl) hlt' HL.out
              obtain ⟨b2, o2, rfl, hbb2, hc2⟩ := (Y1.out.below hbr).row (fun _ => rfl) hlt' HL.out
              have d0 := hc1 0 (by omega)
              have e0 := hc2 0 (by omega)
              simp only [encBl, Nat.add_zero, Nat.mul_one, List.getElem?_cons_zero] at d0 e0
              clear hc1 hc2
              generalize (okK vs n3)[k] = s at *
              go_wp2
              go_quiet (fail)
              go_wp2
              go_roundw
              case rel => exact ⟨k + 1, by omega, by go_num, below_drewN hbr _⟩
              case measure => simp [intOf]; omega
            · go_wp2
              go_ret
              exact ⟨rfl, hbx4.trans (hbr.mono hbx4.size)⟩
    · have H := Lib.hid h3
      clear hl hg hr hr3 hF h3 hv
      go_enter Try.func3, Try.ntmps3
      go_wp2_with (first
        | (go_at_call 8; refine (awake27_any _).mono ?_; rintro e w1 ⟨rfl, hb1⟩; have hbx1 := HbX.out.trans (hb1.mono HbX.out.size); have hr1 := HGR.out.below hbx1; have hX1 := HX.out.kept hb1; have hcX1 := hX1.cell)
        | (go_at_call 9; refine (HFw.out _ hr1).mono ?_; rintro e w2 ⟨rfl, hb2⟩; have hX2 := hX1.kept hb2; have hcX2 := hX2.cell; have hbx2 := hbx1.trans (hb2.mono hbx1.size))
        | (go_at_call 10; exfalso; refine H.out ?_; omega))
      all_goals (go_ret; exact ⟨rfl, hbx2⟩)

theorem sh_vd {w : World} {B : Nat} (m : Nat) (cs : List Value) (h : Sh Try.prog w B m 41 cs) : ∃ v : Vd, cs = v.cs ∧ VdOk v := by
  have ho := sh_one m 10 _ _ (by kernel_rfl) h
  obtain ⟨m, hl, hf⟩ := sh_struct Try.underlying41 h
  rw [show Try.prog.cellsOf 41 = 35 by kernel_rfl] at hl
  have h0 := sh_field hf 0 31 0 1 rfl (by kernel_rfl)
  obtain ⟨x, e0, _⟩ := sh_int Try.underlying31 h0
  exact ⟨⟨cs, x⟩, rfl, hl, ho, piece1 e0⟩
set_option maxRecDepth 100000 in
theorem open_vds {H : Type} {enc : TypeId × Value → H} {W : World} {v : Value} {d : DataW H} {p : List MemPlace} {b0 : Nat} {r : Reach}
    (hv : Value.okWide Try.prog W r b0 27 v) (h : DataW.Trod enc Try.prog W 0 (fun _ => true) true 27 v d p) (hlt : ∀ x ∈ p, x.block < W.heap.size) :
    ∃ (A : Option Addr) (n c : Nat) (vs : List Vd), v = .slice A n c ∧ n ≤ 9223372036854775807 ∧ vs.length = n ∧ VsOk n vs ∧ VRows W W.heap.size A n vs := by
  obtain ⟨A, n, c, m, rfl, hs⟩ := open_sh_slice Try.underlying27 hv h hlt
  obtain ⟨A', len, cap, l, he, h1, h2, hl, hok, hr⟩ := sh_list (enc := Vd.cs) (ok := VdOk) Try.underlying27 (k := 35) (by kernel_rfl) (by decide) sh_vd hs
  simp only [List.cons.injEq, and_true] at he
  injection he with e1 e2 e3
  subst e1 e2 e3
  have hget : ∀ k, (hk : k < l.length) → l.getD k zVd = l[k] := fun k hk => by rw [List.getD_eq_getElem?_getD, List.getElem?_eq_getElem hk]; rfl
  refine ⟨A, n, c, l, rfl, ml (Nat.le_trans h1 h2), hl, fun k hk => ?_, fun k hk => ?_⟩
  · rw [hget k (by omega)]; exact hok _ (List.getElem_mem _)
  · obtain ⟨b, o, hA, hb, hc⟩ := hr.range (fun x hx => (hok x hx).len) (k := k) (by omega) hl
    exact ⟨b, o, hA, hb, by rw [hget k (by omega)]; exact hc⟩
set_option maxRecDepth 100000 in
theorem policyDecides_law : LawWalk Try.prog 3 Try.f3 := by
  intro H enc W base args ds p hval hA hlt hfz hsz
  rw [Try.params3] at hA hval
  obtain ⟨v0, v1, d0, d1, p0, p1, rfl, rfl, rfl, h0, h1⟩ := trodAll_two hA
  obtain ⟨ver, A, ng, c, A2, n2, c2, gs, rfl, hm, hm2, hl, hg, hr⟩ := open_config (hval 0 26 v0 rfl rfl) h0 (fun x hx => hlt x (by simp [hx]))
  obtain ⟨A3, n3, c3, vs, rfl, hm3, hl3, hv, hr3⟩ := open_vds (hval 1 27 v1 rfl rfl) h1 (fun x hx => hlt x (by simp [hx]))
  exact policyDecides_any ver A ng c A2 n2 c2 gs A3 n3 c3 vs W hm hm2 hm3 hl (gsOk_of hl hg) (gRows_of hl hg hr) hv hr3
theorem policyDecides_proved : Rows.PolicyDecidesSaid :=
  OpenClaim.holds_of_wide 3 Try.f3 rfl rfl rfl rfl rfl rfl rfl ⟨rfl, rfl, rfl, rfl, rfl⟩ rfl rfl rfl rfl rfl (by kernel_rfl) Try.func3 (by kernel_rfl)
    (of_decide_eq_true (by kernel_rfl)) (by unfold Func.isWrapper; rw [if_neg (of_decide_eq_false (by kernel_rfl))]; exact ⟨rfl, rfl⟩)
    (fun os started H enc _ => law_lifted (C := Try.checked) (s := Rows.policyDecidesSpec) started own laidOut (by kernel_rfl) Try.func3 rfl (n := 2) (by kernel_rfl) (fun ds h => by match ds, h with | [_, _], _ => rfl) (tb := 4) (by kernel_rfl) Try.underlying4 (by kernel_rfl)
      (ChangeSpec.witness6 (enc := enc) (C := Try.checked) false ⟨#[], #[.agg #[.int .u32 0, .slice none 0 0, .slice none 0 0], .slice none 0 0], []⟩ 8 (by kernel_rfl) (by kernel_rfl) (by kernel_rfl) (by kernel_rfl)) policyDecides_law)
end Go.Proofs.Ytjjbpiejplfbpaa
