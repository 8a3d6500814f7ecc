/- Chapter 22, the laws IrqRoutes and IrqOwners: they return true whatever the input, and leave what was there. -/
import Derived.Test.YtnhlcfkjhacedaaIrqX
import Derived.Test.YtnhlcfkjhacedaaConfW
namespace Go.Proofs.Ytnhlcfkjhacedaa
set_option linter.unusedVariables false
open Go.RowKit Go.Sort Go.ChangeShapes Go.WideShapes

set_option maxRecDepth 100000 in
set_option maxHeartbeats 2000000 in
theorem routesBad_any (n : Int) (ver : Int) (A : Option Addr) (ng c : Nat) (A2 : Option Addr) (n2 c2 : Nat) (A3 : Option Addr) (n3 c3 : Nat) (w : World) (h : n < 0 ∨ 1020 < n ∨ n3 ≠ ng) :
    Calls Try.prog 16 #[.int .i64 n, .agg #[.int .u32 ver, .slice A ng c, .slice A2 n2 c2], .slice A3 n3 c3] w fun e w' => e = .returned (.tuple #[.slice none 0 0, .int .i64 1]) ∧ Below w.heap.size w w' := by
  by_cases h1 : n < 0
  · clear h
    go_enter Try.func16, Try.ntmps16
    go_wp2
    all_goals
      refine bodyPost_ret (v := .tuple #[.slice none 0 0, .int .i64 1]) (by simp [results, Try.results16, go_sem]) rfl ⟨rfl, ?_⟩
      first
        | exact bal (bal (bal (bal (Below.refl _ _) _) _) _) _
        | (repeat (with_reducible refine RowKit.Below.setCell ?_ (by simp <;> omega) _)
           exact bal (bal (bal (bal (Below.refl _ _) _) _) _) _)
  · by_cases h2 : 1020 < n
    · clear h
      go_enter Try.func16, Try.ntmps16
      go_wp2
      all_goals
        refine bodyPost_ret (v := .tuple #[.slice none 0 0, .int .i64 1]) (by simp [results, Try.results16, go_sem]) rfl ⟨rfl, ?_⟩
        first
          | exact bal (bal (bal (bal (Below.refl _ _) _) _) _) _
          | (repeat (with_reducible refine RowKit.Below.setCell ?_ (by simp <;> omega) _)
             exact bal (bal (bal (bal (Below.refl _ _) _) _) _) _)
    · have e1 : ((n3 : Int) != (ng : Int)) = true := by rw [bne_iff_ne]; omega
      clear h
      go_enter Try.func16, Try.ntmps16
      go_wp2
      all_goals
        refine bodyPost_ret (v := .tuple #[.slice none 0 0, .int .i64 1]) (by simp [results, Try.results16, go_sem]) rfl ⟨rfl, ?_⟩
        first
          | exact bal (bal (bal (bal (Below.refl _ _) _) _) _) _
          | (repeat (with_reducible refine RowKit.Below.setCell ?_ (by simp <;> omega) _)
             exact bal (bal (bal (bal (Below.refl _ _) _) _) _) _)
set_option maxRecDepth 100000 in
set_option maxHeartbeats 2000000 in
theorem refRoutesBad_any (n : Int) (ver : Int) (A : Option Addr) (ng c : Nat) (A2 : Option Addr) (n2 c2 : Nat) (A3 : Option Addr) (n3 c3 : Nat) (w : World) (h : n < 0 ∨ 1020 < n ∨ n3 ≠ ng) :
    Calls Try.prog 17 #[.int .i64 n, .agg #[.int .u32 ver, .slice A ng c, .slice A2 n2 c2], .slice A3 n3 c3] w fun e w' => e = .returned (.tuple #[.slice none 0 0, .int .i64 1]) ∧ Below w.heap.size w w' := by
  by_cases h1 : n < 0
  · clear h
    go_enter Try.func17, Try.ntmps17
    go_wp2
    all_goals (go_ret2; exact ⟨rfl, bal (Below.refl _ _) _⟩)
  · by_cases h2 : 1020 < n
    · clear h
      go_enter Try.func17, Try.ntmps17
      go_wp2
      all_goals (go_ret2; exact ⟨rfl, bal (Below.refl _ _) _⟩)
    · have e1 : ((n3 : Int) != (ng : Int)) = true := by rw [bne_iff_ne]; omega
      clear h
      go_enter Try.func17, Try.ntmps17
      go_wp2
      all_goals (go_ret2; exact ⟨rfl, bal (Below.refl _ _) _⟩)

theorem gsOk_at {w W : World} {n B : Nat} {gs : List Gd} (h : GsOk w w.heap.size n gs) (hb : Below w.heap.size w W) (hs : w.heap.size ≤ B) : GsOk W B n gs := fun k hk => by
  have g := h k hk
  exact ⟨g.len, g.one, g.c0, g.c1, g.cW, g.cD, g.cI, g.cS, g.li, g.ls, (g.ri.below hb).more hs, (g.rs.below hb).more hs, g.bs, g.mI, g.mS, g.mW, g.mD, g.mN⟩
theorem gRows_at {w W : World} {A : Option Addr} {n : Nat} {gs : List Gd} (h : GRows w A n gs) (hb : Below w.heap.size w W) : GRows W A n gs := h.below hb
theorem runR_some {l l' : List Rt} {p xs : List (Nat × Iq)} (h : p <+: xs) (hn : runR l xs = some l') : ∃ l2, runR l p = some l2 := by
  cases hp : runR l p with
  | some l2 => exact ⟨l2, rfl⟩
  | none => rw [runR_none h hp] at hn; cases hn
theorem stepR_own {l l' : List Rt} {x : Nat × Iq} (h : stepR l x = some l') (q : Nat) : (l'.getD q zR).own = if x.2.num = q then (x.1 : Int) else (l.getD q zR).own := by
  unfold stepR at h
  split at h
  · cases h
  · rename_i hn
    injection h with h
    subst h
    obtain ⟨g, ⟨num, cpu, edge⟩⟩ := x
    simp only at *
    obtain ⟨j, rfl⟩ := Int.eq_ofNat_of_zero_le (show 0 ≤ num by omega)
    have hj : j < l.length := by omega
    simp only [Int.toNat_natCast]
    by_cases e : j = q
    · subst e
      rw [if_pos rfl, List.getD_eq_getElem?_getD, List.getElem?_set_self hj]
      rfl
    · rw [if_neg (by omega), List.getD_eq_getElem?_getD, List.getElem?_set_ne e, ← List.getD_eq_getElem?_getD]

set_option maxRecDepth 100000 in
set_option maxHeartbeats 8000000 in
theorem irqRoutes_any (n : Int) (ver : Int) (A : Option Addr) (ng c : Nat) (A2 : Option Addr) (n2 c2 : Nat) (gs : List Gd) (A3 : Option Addr) (n3 c3 : Nat) (st : List Bool) (w : World) (hm : ng ≤ 9223372036854775807) (hm2 : n2 ≤ 9223372036854775807) (hm3 : n3 ≤ 9223372036854775807)
    (hl : gs.length = ng) (hl3 : st.length = n3) (hg : GsOk w w.heap.size ng gs) (hr : GRows w A ng gs) (hr3 : Rd w w.heap.size 1 A3 n3 (st.flatMap encBl)) :
    Calls Try.prog 4 #[.int .i64 n, .agg #[.int .u32 ver, .slice A ng c, .slice A2 n2 c2], .slice A3 n3 c3] w fun e w' => e = .returned (.bool true) ∧ Below w.heap.size w w' := by
  have HbX := Lib.hid (bal (Below.refl w.heap.size w) (.cells #[.int .u32 ver, .slice A ng c, .slice A2 n2 c2] 33))
  have HX := Lib.hid (Blk.new w 33 #[.int .u32 ver, .slice A ng c, .slice A2 n2 c2])
  have HGR := Lib.hid hr
  have HFw := Lib.hid (fun W (hr : GRows W A ng gs) => few_any ver A ng c A2 n2 c2 gs W hl hm hm2 hg hr)
  obtain ⟨F, hF⟩ : ∃ F, fewN ng n2 gs = F := ⟨_, rfl⟩
  rw [hF] at HFw
  cases F with
  | false =>
    clear hl hl3 hg hr hr3 hF
    go_enter Try.func4, Try.ntmps4
    go_wp2_with (first
      | (go_at_call 14; refine (awake22_any _).mono ?_; rintro e w1 ⟨rfl, hb1⟩; have hbx1 := HbX.out.trans (hb1.mono HbX.out.size); have hr1 := HGR.out.below hbx1; have hX1 := HX.out.kept hb1; have hcX1 := hX1.cell)
      | (go_at_call 15; refine (HFw.out _ hr1).mono ?_; rintro e w2 ⟨rfl, hb2⟩; have hX2 := hX1.kept hb2; have hcX2 := hX2.cell; have hbx2 := hbx1.trans (hb2.mono hbx1.size))
      | fail)
    all_goals (go_ret; exact ⟨rfl, hbx2⟩)
  | true =>
    obtain ⟨hng, hn2, hfew⟩ := fewN_iff hl hF
    by_cases h3 : n3 ≤ 30
    · by_cases hbad : n < 0 ∨ 1020 < n ∨ n3 ≠ ng
      · have HB1 := Lib.hid (fun W => routesBad_any n ver A ng c A2 n2 c2 A3 n3 c3 W hbad)
        have HB2 := Lib.hid (fun W => refRoutesBad_any n ver A ng c A2 n2 c2 A3 n3 c3 W hbad)
        clear hl hl3 hg hr hr3 hF hbad hfew
        go_enter Try.func4, Try.ntmps4
        go_wp2_with (first
          | (go_at_call 14; refine (awake22_any _).mono ?_; rintro e w1 ⟨rfl, hb1⟩; have hbx1 := HbX.out.trans (hb1.mono HbX.out.size); have hr1 := HGR.out.below hbx1; have hX1 := HX.out.kept hb1; have hcX1 := hX1.cell)
          | (go_at_call 15; refine (HFw.out _ hr1).mono ?_; rintro e w2 ⟨rfl, hb2⟩; have hX2 := hX1.kept hb2; have hcX2 := hX2.cell; have hbx2 := hbx1.trans (hb2.mono hbx1.size))
          | (go_at_call 16; refine (HB1.out _).mono ?_; rintro e w3 ⟨rfl, hb3⟩; have hX3 := hX2.kept hb3; have hcX3 := hX3.cell; have hbx3 := hbx2.trans (hb3.mono hbx2.size))
          | (go_at_call 17; refine (HB2.out _).mono ?_; rintro e w4 ⟨rfl, hb4⟩; have hbx4 := hbx3.trans (hb4.mono hbx3.size))
          | (go_at_call 18; refine (sameRoutes_eq none none 0 0 0 [] _ rfl (by decide) Rd.nil Rd.nil).mono ?_; rintro e w5 ⟨rfl, hb5⟩; have hbx5 := hbx4.trans (hb5.mono hbx4.size)))
        go_ret
        exact ⟨rfl, hbx5⟩
      · have hn0 : 0 ≤ n := by omega
        obtain ⟨N, rfl⟩ := Int.eq_ofNat_of_zero_le hn0
        have hN : N ≤ 1020 := by omega
        obtain rfl : n3 = ng := by omega
        obtain ⟨R, hR⟩ : ∃ R, routesN N gs st n3 = R := ⟨_, rfl⟩
        have HT1 := Lib.hid (fun W (hW : Below w.heap.size w W) => routes_any N ver A n3 c A2 n2 c2 A3 c3 gs st W hN hng hl3 hfew (fun W' h => gsOk_at hg (hW.trans (h.mono hW.size)) hW.size) (fun W' h => gRows_at hr (hW.trans (h.mono hW.size))) ((hr3.below hW).more hW.size))
        have HT2 := Lib.hid (fun W (hW : Below w.heap.size w W) => refRoutes_any N ver A n3 c A2 n2 c2 A3 c3 gs st W hN hng hl3 hfew (fun W' h => gsOk_at hg (hW.trans (h.mono hW.size)) hW.size) (fun W' h => gRows_at hr (hW.trans (h.mono hW.size))) ((hr3.below hW).more hW.size))
        rw [hR] at HT1 HT2
        clear hl hl3 hg hr hr3 hF hbad hfew hR hn0
        cases R with
        | none =>
          go_enter Try.func4, Try.ntmps4
          go_wp2_with (first
            | (go_at_call 14; refine (awake22_any _).mono ?_; rintro e w1 ⟨rfl, hb1⟩; have hbx1 := HbX.out.trans (hb1.mono HbX.out.size); have hr1 := HGR.out.below hbx1; have hX1 := HX.out.kept hb1; have hcX1 := hX1.cell)
            | (go_at_call 15; refine (HFw.out _ hr1).mono ?_; rintro e w2 ⟨rfl, hb2⟩; have hX2 := hX1.kept hb2; have hcX2 := hX2.cell; have hbx2 := hbx1.trans (hb2.mono hbx1.size))
            | (go_at_call 16; refine (HT1.out _ hbx2).mono ?_; rintro e w3 ⟨h3', hb3⟩; obtain rfl := (show e = .returned (.tuple #[.slice none 0 0, .int .i64 220]) from h3'); clear h3'; have hX3 := hX2.kept hb3; have hcX3 := hX3.cell; have hbx3 := hbx2.trans (hb3.mono hbx2.size))
            | (go_at_call 17; refine (HT2.out _ hbx3).mono ?_; rintro e w4 ⟨h4', hb4⟩; obtain rfl := (show e = .returned (.tuple #[.slice none 0 0, .int .i64 220]) from h4'); clear h4'; have hbx4 := hbx3.trans (hb4.mono hbx3.size))
            | (go_at_call 18; refine (sameRoutes_eq none none 0 0 0 [] _ rfl (by decide) Rd.nil Rd.nil).mono ?_; rintro e w5 ⟨rfl, hb5⟩; have hbx5 := hbx4.trans (hb5.mono hbx4.size)))
          go_ret
          exact ⟨rfl, hbx5⟩
        | some l =>
          go_enter Try.func4, Try.ntmps4
          go_wp2_with (first
            | (go_at_call 14; refine (awake22_any _).mono ?_; rintro e w1 ⟨rfl, hb1⟩; have hbx1 := HbX.out.trans (hb1.mono HbX.out.size); have hr1 := HGR.out.below hbx1; have hX1 := HX.out.kept hb1; have hcX1 := hX1.cell)
            | (go_at_call 15; refine (HFw.out _ hr1).mono ?_; rintro e w2 ⟨rfl, hb2⟩; have hX2 := hX1.kept hb2; have hcX2 := hX2.cell; have hbx2 := hbx1.trans (hb2.mono hbx1.size))
            | (go_at_call 16; refine (HT1.out _ hbx2).mono ?_; rintro e w3 ⟨h3', hb3⟩; obtain ⟨A7, c7, rfl, hl7, hr7⟩ := (show ∃ A c, e = .returned (.tuple #[.slice A N c, .int .i64 0]) ∧ l.length = N ∧ Rd w3 w3.heap.size 3 A N (l.flatMap encR) from h3'); clear h3'; have hX3 := hX2.kept hb3; have hcX3 := hX3.cell; have hbx3 := hbx2.trans (hb3.mono hbx2.size); have HL7 := Lib.hid hl7; clear hl7)
            | (go_at_call 17; refine (HT2.out _ hbx3).mono ?_; rintro e w4 ⟨h4', hb4⟩; obtain ⟨A8, c8, rfl, hl8, hr8⟩ := (show ∃ A c, e = .returned (.tuple #[.slice A N c, .int .i64 0]) ∧ l.length = N ∧ Rd w4 w4.heap.size 3 A N (l.flatMap encR) from h4'); clear h4' hl8; have hbx4 := hbx3.trans (hb4.mono hbx3.size))
            | (go_at_call 18; refine (sameRoutes_eq A7 A8 N c7 c8 l _ HL7.out (by omega) ((hr7.below hb4).more hb4.size) hr8).mono ?_; rintro e w5 ⟨rfl, hb5⟩; have hbx5 := hbx4.trans (hb5.mono hbx4.size)))
          go_ret
          exact ⟨rfl, hbx5⟩
    · have H := Lib.hid h3
      clear hl hl3 hg hr hr3 hF h3
      go_enter Try.func4, Try.ntmps4
      go_wp2_with (first
        | (go_at_call 14; refine (awake22_any _).mono ?_; rintro e w1 ⟨rfl, hb1⟩; have hbx1 := HbX.out.trans (hb1.mono HbX.out.size); have hr1 := HGR.out.below hbx1; have hX1 := HX.out.kept hb1; have hcX1 := hX1.cell)
        | (go_at_call 15; refine (HFw.out _ hr1).mono ?_; rintro e w2 ⟨rfl, hb2⟩; have hX2 := hX1.kept hb2; have hcX2 := hX2.cell; have hbx2 := hbx1.trans (hb2.mono hbx1.size))
        | (go_at_call 16; exfalso; refine H.out ?_; omega))
      all_goals (go_ret; exact ⟨rfl, hbx2⟩)

theorem flat_bool : flatOf Try.prog 5 4 = some [.bool] := by kernel_rfl
theorem flatb1 {cs : List Value} (h : FlatOk [.bool] cs) : ∃ b : Bool, cs = encBl b := by
  match cs, h with
  | [.bool b], _ => exact ⟨b, rfl⟩
set_option maxRecDepth 100000 in
theorem irqRoutes_law : LawWalk Try.prog 4 Try.f4 := by
  intro H enc W base args ds p hval hA hlt hfz hsz
  rw [Try.params4] at hA hval
  obtain ⟨v0, v1, v2, d0, d1, d2, p0, p1, p2, rfl, rfl, rfl, h0, h1, h2⟩ := trodAll_three hA
  obtain ⟨n, rfl, rfl, rfl, wn⟩ := open_int Try.underlying3 (hval 0 3 v0 rfl rfl) h0
  obtain ⟨ver, A, ng, c, A2, n2, c2, gs, rfl, hm, hm2, hl, hg, hr⟩ := open_config (hval 1 33 v1 rfl rfl) h1 (fun x hx => hlt x (by simp [hx]))
  obtain ⟨A3, n3, c3, xss, rfl, hnc3, hcm3, hx3, hok3, hr3⟩ := open_rows Try.underlying34 flat_bool (by kernel_rfl) (by decide) (hval 2 34 v2 rfl rfl) h2 (fun x hx => hlt x (by simp [hx]))
  obtain ⟨st, hl3, hf3, _⟩ := list_of_rows (enc := encBl) (ok := fun _ => True) xss (fun xs hxs => by obtain ⟨p, rfl⟩ := flatb1 (hok3 xs hxs); exact ⟨p, rfl, trivial⟩)
  rw [hf3] at hr3
  exact irqRoutes_any n ver A ng c A2 n2 c2 gs A3 n3 c3 st W hm hm2 (ml (Nat.le_trans hnc3 hcm3)) hl (hl3.trans hx3) (gsOk_of hl hg) (gRows_of hl hg hr) hr3
theorem irqRoutes_proved : Rows.IrqRoutesSaid :=
  OpenClaim.holds_of_wide 4 Try.f4 rfl rfl rfl rfl rfl rfl rfl ⟨rfl, rfl, rfl, rfl, rfl⟩ rfl rfl rfl rfl rfl (by kernel_rfl) Try.func4 (by kernel_rfl)
    (of_decide_eq_true (by kernel_rfl)) (by unfold Func.isWrapper; rw [if_neg (of_decide_eq_false (by kernel_rfl))]; exact ⟨rfl, rfl⟩)
    (fun os started H enc _ => law_lifted (C := Try.checked) (s := Rows.irqRoutesSpec) started own laidOut (by kernel_rfl) Try.func4 rfl (n := 3) (by kernel_rfl) (fun ds h => by match ds, h with | [_, _, _], _ => rfl) (tb := 4) (by kernel_rfl) Try.underlying4 (by kernel_rfl)
      (ChangeSpec.witness6 (enc := enc) (C := Try.checked) false ⟨#[], #[.int .i64 0, .agg #[.int .u32 0, .slice none 0 0, .slice none 0 0], .slice none 0 0], []⟩ 8 (by kernel_rfl) (by kernel_rfl) (by kernel_rfl) (by kernel_rfl)) irqRoutes_law)
end Go.Proofs.Ytnhlcfkjhacedaa
