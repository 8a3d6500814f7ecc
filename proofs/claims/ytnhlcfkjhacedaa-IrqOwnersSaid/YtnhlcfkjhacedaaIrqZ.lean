/- Chapter 22, the law IrqOwners: it returns true whatever the input, and leaves what was there. -/
import Derived.Test.YtnhlcfkjhacedaaIrqY
namespace Go.Proofs.Ytnhlcfkjhacedaa
set_option linter.unusedVariables false
open Go.RowKit Go.Sort Go.ChangeShapes Go.WideShapes

set_option maxRecDepth 100000 in
set_option maxHeartbeats 8000000 in
theorem irqOwners_any (n : Int) (ver : Int) (A : Option Addr) (ng c : Nat) (A2 : Option Addr) (n2 c2 : Nat) (gs : List Gd) (A3 : Option Addr) (n3 c3 : Nat) (st : List Bool) (kk : Int) (w : World) (hm : ng ≤ 9223372036854775807) (hm2 : n2 ≤ 9223372036854775807) (hm3 : n3 ≤ 9223372036854775807)
    (hl : gs.length = ng) (hl3 : st.length = n3) (hg : GsOk w w.heap.size ng gs) (hr : GRows w A ng gs) (hr3 : Rd w w.heap.size 1 A3 n3 (st.flatMap encBl)) :
    Calls Try.prog 6 #[.int .i64 n, .agg #[.int .u32 ver, .slice A ng c, .slice A2 n2 c2], .slice A3 n3 c3, .int .i64 kk] w fun e w' => e = .returned (.bool true) ∧ Below w.heap.size w w' := by
  have HbX := Lib.hid (bal (Below.refl w.heap.size w) (.cells #[.int .u32 ver, .slice A ng c, .slice A2 n2 c2] 33))
  have HX := Lib.hid (Blk.new w 33 #[.int .u32 ver, .slice A ng c, .slice A2 n2 c2])
  have HGR := Lib.hid hr
  have HFw := Lib.hid (fun W (hr : GRows W A ng gs) => few_any ver A ng c A2 n2 c2 gs W hl hm hm2 hg hr)
  obtain ⟨F, hF⟩ : ∃ F, fewN ng n2 gs = F := ⟨_, rfl⟩
  rw [hF] at HFw
  cases F with
  | false =>
    clear hl hl3 hg hr hr3 hF
    go_enter Try.func6, Try.ntmps6
    go_wp2_with (first
      | (go_at_call 14; refine (awake22_any _).mono ?_; rintro e w1 ⟨rfl, hb1⟩; have hbx1 := HbX.out.trans (hb1.mono HbX.out.size); have hr1 := HGR.out.below hbx1; have hX1 := HX.out.kept hb1; have hcX1 := hX1.cell)
      | (go_at_call 15; refine (HFw.out _ hr1).mono ?_; rintro e w2 ⟨rfl, hb2⟩; have hX2 := hX1.kept hb2; have hcX2 := hX2.cell; have hbx2 := hbx1.trans (hb2.mono hbx1.size))
      | fail)
    all_goals (go_ret; exact ⟨rfl, hbx2⟩)
  | true =>
    obtain ⟨hng, hn2, hfew⟩ := fewN_iff hl hF
    by_cases h3 : n3 ≤ 30
    · by_cases hbad : n < 0 ∨ 1020 < n ∨ n3 ≠ ng
      · have HB1 := Lib.hid (fun W => routesBad_any n ver A ng c A2 n2 c2 A3 n3 c3 W hbad)
        clear hl hl3 hg hr hr3 hF hbad hfew
        go_enter Try.func6, Try.ntmps6
        go_wp2_with (first
          | (go_at_call 14; refine (awake22_any _).mono ?_; rintro e w1 ⟨rfl, hb1⟩; have hbx1 := HbX.out.trans (hb1.mono HbX.out.size); have hr1 := HGR.out.below hbx1; have hX1 := HX.out.kept hb1; have hcX1 := hX1.cell)
          | (go_at_call 15; refine (HFw.out _ hr1).mono ?_; rintro e w2 ⟨rfl, hb2⟩; have hX2 := hX1.kept hb2; have hcX2 := hX2.cell; have hbx2 := hbx1.trans (hb2.mono hbx1.size))
          | (go_at_call 16; refine (HB1.out _).mono ?_; rintro e w3 ⟨rfl, hb3⟩; have hbx3 := hbx2.trans (hb3.mono hbx2.size)))
        all_goals (go_ret; exact ⟨rfl, hbx3⟩)
      · have hn0 : 0 ≤ n := by omega
        obtain ⟨N, rfl⟩ := Int.eq_ofNat_of_zero_le hn0
        have hN : N ≤ 1020 := by omega
        obtain rfl : n3 = ng := by omega
        obtain ⟨R, hR⟩ : ∃ R, routesN N gs st n3 = R := ⟨_, rfl⟩
        have HT1 := Lib.hid (fun W (hW : Below w.heap.size w W) => routes_any N ver A n3 c A2 n2 c2 A3 c3 gs st W hN hng hl3 hfew (fun W' h => gsOk_at hg (hW.trans (h.mono hW.size)) hW.size) (fun W' h => gRows_at hr (hW.trans (h.mono hW.size))) ((hr3.below hW).more hW.size))
        rw [hR] at HT1
        cases R with
        | none =>
          clear hl hl3 hg hr hr3 hF hbad hfew hR hn0
          go_enter Try.func6, Try.ntmps6
          go_wp2_with (first
            | (go_at_call 14; refine (awake22_any _).mono ?_; rintro e w1 ⟨rfl, hb1⟩; have hbx1 := HbX.out.trans (hb1.mono HbX.out.size); have hr1 := HGR.out.below hbx1; have hX1 := HX.out.kept hb1; have hcX1 := hX1.cell)
            | (go_at_call 15; refine (HFw.out _ hr1).mono ?_; rintro e w2 ⟨rfl, hb2⟩; have hX2 := hX1.kept hb2; have hcX2 := hX2.cell; have hbx2 := hbx1.trans (hb2.mono hbx1.size))
            | (go_at_call 16; refine (HT1.out _ hbx2).mono ?_; rintro e w3 ⟨h3', hb3⟩; obtain rfl := (show e = .returned (.tuple #[.slice none 0 0, .int .i64 220]) from h3'); clear h3'; have hbx3 := hbx2.trans (hb3.mono hbx2.size)))
          all_goals (go_ret; exact ⟨rfl, hbx3⟩)
        | some l =>
          by_cases hkk : kk < 0 ∨ (N : Int) ≤ kk
          · clear hl hl3 hg hr hr3 hF hbad hfew hR hn0
            have hk0 : kk < 0 ∨ (¬ kk < 0 ∧ (N : Int) ≤ kk) := by omega
            clear hkk
            rcases hk0 with hkk | ⟨hk1, hkk⟩
            all_goals
              go_enter Try.func6, Try.ntmps6
              go_wp2_with (first
                | (go_at_call 14; refine (awake22_any _).mono ?_; rintro e w1 ⟨rfl, hb1⟩; have hbx1 := HbX.out.trans (hb1.mono HbX.out.size); have hr1 := HGR.out.below hbx1; have hX1 := HX.out.kept hb1; have hcX1 := hX1.cell)
                | (go_at_call 15; refine (HFw.out _ hr1).mono ?_; rintro e w2 ⟨rfl, hb2⟩; have hX2 := hX1.kept hb2; have hcX2 := hX2.cell; have hbx2 := hbx1.trans (hb2.mono hbx1.size))
                | (go_at_call 16; refine (HT1.out _ hbx2).mono ?_; rintro e w3 ⟨h3', hb3⟩; obtain ⟨A7, c7, rfl, hl7, hr7⟩ := (show ∃ A c, e = .returned (.tuple #[.slice A N c, .int .i64 0]) ∧ l.length = N ∧ Rd w3 w3.heap.size 3 A N (l.flatMap encR) from h3'); clear h3'; have hX3 := hX2.kept hb3; have hcX3 := hX3.cell; have hlX3 := hX3.lt; have hbx3 := hbx2.trans (hb3.mono hbx2.size); have HL7 := Lib.hid hl7; clear hl7)
                | fail)
              all_goals (go_ret; exact ⟨rfl, hbx3⟩)
          · obtain ⟨q, rfl⟩ := Int.eq_ofNat_of_zero_le (show 0 ≤ kk by omega)
            have hqN : q < N := by omega
            have HTS := Lib.hid (fun p (hp : p <+: namedK st gs n3) => runR_some hp hR)
            have HRe := Lib.hid hR
            have HG := Lib.hid hg
            have HF := Lib.hid hfew
            have HL3 := Lib.hid hl3
            have HR3 := Lib.hid hr3
            clear hl hl3 hg hr hr3 hF hbad hfew hR hn0 hkk
            go_enter Try.func6, Try.ntmps6
            go_wp2_with (first
              | (go_at_call 14; refine (awake22_any _).mono ?_; rintro e w1 ⟨rfl, hb1⟩; have hbx1 := HbX.out.trans (hb1.mono HbX.out.size); have hr1 := HGR.out.below hbx1; have hX1 := HX.out.kept hb1; have hcX1 := hX1.cell)
              | (go_at_call 15; refine (HFw.out _ hr1).mono ?_; rintro e w2 ⟨rfl, hb2⟩; have hX2 := hX1.kept hb2; have hcX2 := hX2.cell; have hbx2 := hbx1.trans (hb2.mono hbx1.size))
              | (go_at_call 16; refine (HT1.out _ hbx2).mono ?_; rintro e w3 ⟨h3', hb3⟩; obtain ⟨A7, c7, rfl, hl7, hr7⟩ := (show ∃ A c, e = .returned (.tuple #[.slice A N c, .int .i64 0]) ∧ l.length = N ∧ Rd w3 w3.heap.size 3 A N (l.flatMap encR) from h3'); clear h3'; have hX3 := hX2.kept hb3; have hcX3 := hX3.cell; have hlX3 := hX3.lt; have hbx3 := hbx2.trans (hb3.mono hbx2.size); have HL7 := Lib.hid hl7; clear hl7)
              | fail)
            have HR7 := Lib.hid hr7
            have HX3 := Lib.hid hX3
            have hbw3 := hbx3
            clear hX1 hcX1 hX2 hcX2 hbx1 hbx2 hr1 hr7 hX3 hcX3 hb1 hb2 hb3
            go_loopw [11, 47] (fun s11 i wr => ∃ k : Nat, k ≤ n3 ∧ i = .int .i64 k ∧ ∃ l', runR (List.replicate N mR) (namedK st gs k) = some l' ∧ s11 = .int .i64 (l'.getD q zR).own ∧ Below w3.heap.size w3 wr) (fun _ i _ => n3 - (intOf i).toNat)
            case atStart =>
              refine ⟨0, by omega, rfl, _, rfl, ?_, Below.refl _ _⟩
              rw [List.getD_eq_getElem?_getD, List.getElem?_replicate, if_pos hqN]
              rfl
            case round =>
              obtain ⟨k, hk, rfl, l', hk', rfl, hb⟩ := hrel
              have HK := Lib.hid hk'
              clear hk'
              have hbw := hbw3.trans (hb.mono hbw3.size)
              have hcX := (HX3.out.kept hb).cell
              by_cases hlt : k < n3
              · obtain ⟨b, o, rfl, hbb, hrg⟩ := HGR.out k hlt
                have hgk := HG.out k hlt
                have hfk := HF.out k hlt
                have d77 : wr.cell? ⟨b, o + k * 79 + 77, none⟩ = some (.slice (gs.getD k zG).AI (gs.getD k zG).nI (gs.getD k zG).cI) := (hbw.cell (p := ⟨b, o + k * 79 + 77, none⟩) hbb).trans (hrg 77 _ hgk.cI)
                have HRi := Lib.hid (hgk.ri.below hbw)
                have HLi := Lib.hid hgk.li
                have hI70 : (gs.getD k zG).nI ≤ 70 := few_nI hfk
                have hstep : namedK st gs (k + 1) = namedK st gs k ++ if st.getD k false then (gs.getD k zG).irqs.map (fun x => (k, x)) else [] := rfl
                have hmid := fun (h : st.getD k false = true) (j : Nat) => namedK_mid (gs := gs) (j := j) hlt h
                obtain ⟨b3, o3, rfl, hb3, hc3⟩ := (HR3.out.below hbw).row (fun _ => rfl) (k := k) (by rw [HL3.out]; exact hlt) HL3.out
                have d3 := hc3 0 (by omega)
                have hg3 : st.getD k false = st[k]'(by rw [HL3.out]; exact hlt) := by rw [List.getD_eq_getElem?_getD, List.getElem?_eq_getElem (by rw [HL3.out]; exact hlt)]; rfl
                simp only [encBl, Nat.add_zero, Nat.mul_one, List.getElem?_cons_zero] at d3
                rw [hg3] at hstep hmid
                have D3 := Lib.hid (fun (W : World) (hW : Below wr.heap.size wr W) => (hW.cell (p := ⟨b3, o3 + k, none⟩) (Nat.lt_of_lt_of_le hb3 hbw.size)).trans d3)
                have HRw := Lib.hid (fun (W : World) (hW : Below wr.heap.size wr W) => HRi.out.below (hW.mono hbw.size))
                have hzw := hbw.size
                clear hrg hgk hfk hc3 hg3 d3
                generalize (gs.getD k zG).AI = AI at *
                generalize (gs.getD k zG).nI = nI at *
                generalize (gs.getD k zG).cI = cI at *
                generalize (gs.getD k zG).irqs = irqs at *
                generalize st[k]'(by rw [HL3.out]; exact hlt) = sk at *
                cases sk
                case false =>
                  have HN := Lib.hid (show namedK st gs (k + 1) = namedK st gs k by rw [hstep]; simp)
                  clear hstep hmid
                  generalize hO : (l'.getD q zR).own = O at *
                  have HO := Lib.hid hO
                  clear hO
                  go_wp2_with fail
                  generalize hwr : wr = wr0 at *
                  clear hwr
                  go_loopw [11, 57] (fun s11 i wi => s11 = .int .i64 O ∧ ∃ j : Nat, j ≤ nI ∧ i = .int .i64 j ∧ Below wr0.heap.size wr0 wi) (fun _ i _ => nI - (intOf i).toNat)
                  case atStart => exact ⟨rfl, 0, by omega, rfl, Below.refl _ _⟩
                  case round =>
                    obtain ⟨rfl, j, hj, rfl, hbi⟩ := hrel
                    by_cases hjl : j < nI
                    · have hjl' : j < irqs.length := by rw [HLi.out]; exact hjl
                      obtain ⟨b7, o7, rfl, hb7, hc7⟩ := (HRw.out wr hbi).row (fun _ => rfl) hjl' HLi.out
                      have d0 := hc7 0 (by omega)
                      have d1 := hc7 1 (by omega)
                      have d2 := hc7 2 (by omega)
                      simp only [encIq, Nat.add_zero, List.getElem?_cons_zero, List.getElem?_cons_succ] at d0 d1 d2
                      have d3 := D3.out _ hbi
                      have hz3 : b3 < wr.heap.size := Nat.lt_of_lt_of_le (Nat.lt_of_lt_of_le hb3 hzw) hbi.size
                      clear hc7
                      generalize irqs[j] = x at *
                      go_wp2_with fail
                      go_roundw
                      case rel => exact ⟨rfl, j + 1, by omega, by go_num, bal hbi _⟩
                      case measure => simp [intOf]; omega
                    · obtain rfl : j = nI := by omega
                      go_wp2_with fail
                      go_roundw
                      case rel => exact ⟨k + 1, by omega, by go_num, l', by rw [HN.out]; exact HK.out, by rw [HO.out], hb.trans (hbi.mono hb.size)⟩
                      case measure => simp [intOf]; omega
                case true =>
                  have HN := Lib.hid (show namedK st gs (k + 1) = namedK st gs k ++ irqs.map (fun x => (k, x)) by rw [hstep]; simp)
                  have HM := Lib.hid (hmid rfl)
                  clear hstep hmid
                  generalize hO : (l'.getD q zR).own = O at *
                  have HO := Lib.hid hO
                  clear hO
                  go_wp2_with fail
                  generalize hwr : wr = wr0 at *
                  clear hwr
                  go_loopw [11, 57] (fun s11 i wi => ∃ j : Nat, j ≤ nI ∧ i = .int .i64 j ∧ ∃ l2, runR (List.replicate N mR) (namedK st gs k ++ (irqs.take j).map (fun x => (k, x))) = some l2 ∧ s11 = .int .i64 (l2.getD q zR).own ∧ Below wr0.heap.size wr0 wi) (fun _ i _ => nI - (intOf i).toNat)
                  case atStart => exact ⟨0, by omega, rfl, l', by simpa using HK.out, by rw [HO.out], Below.refl _ _⟩
                  case round =>
                    obtain ⟨j, hj, rfl, l2, hk2, rfl, hbi⟩ := hrel
                    have HK2 := Lib.hid hk2
                    clear hk2
                    by_cases hjl : j < nI
                    · have hjl' : j < irqs.length := by rw [HLi.out]; exact hjl
                      obtain ⟨b7, o7, rfl, hb7, hc7⟩ := (HRw.out wr hbi).row (fun _ => rfl) hjl' HLi.out
                      have d0 := hc7 0 (by omega)
                      have d1 := hc7 1 (by omega)
                      have d2 := hc7 2 (by omega)
                      simp only [encIq, Nat.add_zero, List.getElem?_cons_zero, List.getElem?_cons_succ] at d0 d1 d2
                      have d3 := D3.out _ hbi
                      have hz3 : b3 < wr.heap.size := Nat.lt_of_lt_of_le (Nat.lt_of_lt_of_le hb3 hzw) hbi.size
                      have hT : namedK st gs k ++ (irqs.take (j + 1)).map (fun x => (k, x)) = (namedK st gs k ++ (irqs.take j).map (fun x => (k, x))) ++ [(k, irqs[j])] := by
                        rw [List.take_succ_eq_append_getElem hjl', List.map_append, List.append_assoc]; rfl
                      obtain ⟨l3, hl3⟩ := HTS.out _ (HM.out (j + 1))
                      have hs : stepR l2 (k, irqs[j]) = some l3 := by
                        rw [hT, runR_snoc, HK2.out] at hl3
                        exact hl3
                      have hown := stepR_own hs q
                      have HL3b := Lib.hid hl3
                      clear hc7 hT hl3 hs
                      generalize irqs[j] = x at *
                      simp only at hown
                      generalize hO2 : (l2.getD q zR).own = O2 at *
                      clear hO2
                      by_cases hq : x.num = q
                      · rw [if_pos hq] at hown
                        have HW := Lib.hid hown
                        have e1 : (x.num == (q : Int)) = true := by rw [beq_iff_eq]; exact hq
                        clear hown hq
                        go_wp2_with fail
                        go_roundw
                        case rel => exact ⟨j + 1, by omega, by go_num, l3, HL3b.out, by rw [HW.out], bal hbi _⟩
                        case measure => simp [intOf]; omega
                      · rw [if_neg hq] at hown
                        have HW := Lib.hid hown
                        have e1 : (x.num == (q : Int)) = false := by rw [beq_eq_false_iff_ne]; exact hq
                        clear hown hq
                        go_wp2_with fail
                        go_roundw
                        case rel => exact ⟨j + 1, by omega, by go_num, l3, HL3b.out, by rw [HW.out], bal hbi _⟩
                        case measure => simp [intOf]; omega
                    · obtain rfl : j = nI := by omega
                      have HN3 := Lib.hid (show runR (List.replicate N mR) (namedK st gs (k + 1)) = some l2 by
                        rw [HN.out, ← HK2.out, List.take_of_length_le (by rw [HLi.out]; exact Nat.le_refl _)])
                      generalize hO2 : (l2.getD q zR).own = O2 at *
                      have HO2 := Lib.hid hO2
                      clear hO2
                      go_wp2_with fail
                      go_roundw
                      case rel => exact ⟨k + 1, by omega, by go_num, l2, HN3.out, by rw [HO2.out], hb.trans (hbi.mono hb.size)⟩
                      case measure => simp [intOf]; omega
              · obtain rfl : k = n3 := by omega
                have hll : l = l' := by
                  have h1 := HRe.out
                  have h2 : some l' = some l := HK.out.symm.trans h1
                  injection h2 with h2
                  exact h2.symm
                subst hll
                have hql : q < l.length := by rw [HL7.out]; exact hqN
                obtain ⟨b8, o8, rfl, hb8, hc8⟩ := (HR7.out.below hb).row (fun _ => rfl) hql HL7.out
                have d8 := hc8 0 (by omega)
                have hgd : (l.getD q zR).own = (l[q]).own := by rw [List.getD_eq_getElem?_getD, List.getElem?_eq_getElem hql]; rfl
                simp only [encR, Nat.add_zero, List.getElem?_cons_zero] at d8
                rw [hgd]
                clear hc8 hgd
                generalize (l[q]).own = O at *
                go_wp2_with fail
                go_ret
                exact ⟨rfl, hbw⟩
    · have H := Lib.hid h3
      clear hl hl3 hg hr hr3 hF h3
      go_enter Try.func6, Try.ntmps6
      go_wp2_with (first
        | (go_at_call 14; refine (awake22_any _).mono ?_; rintro e w1 ⟨rfl, hb1⟩; have hbx1 := HbX.out.trans (hb1.mono HbX.out.size); have hr1 := HGR.out.below hbx1; have hX1 := HX.out.kept hb1; have hcX1 := hX1.cell)
        | (go_at_call 15; refine (HFw.out _ hr1).mono ?_; rintro e w2 ⟨rfl, hb2⟩; have hX2 := hX1.kept hb2; have hcX2 := hX2.cell; have hbx2 := hbx1.trans (hb2.mono hbx1.size))
        | (go_at_call 16; exfalso; refine H.out ?_; omega))
      all_goals (go_ret; exact ⟨rfl, hbx2⟩)
set_option maxRecDepth 100000 in
theorem irqOwners_law : LawWalk Try.prog 6 Try.f6 := by
  intro H enc W base args ds p hval hA hlt hfz hsz
  rw [Try.params6] at hA hval
  obtain ⟨v0, v1, v2, v3, d0, d1, d2, d3, p0, p1, p2, p3, rfl, rfl, rfl, h0, h1, h2, h3⟩ := trodAll_four hA
  obtain ⟨n, rfl, rfl, rfl, wn⟩ := open_int Try.underlying3 (hval 0 3 v0 rfl rfl) h0
  obtain ⟨kk, rfl, rfl, rfl, wk⟩ := open_int Try.underlying3 (hval 3 3 v3 rfl rfl) h3
  obtain ⟨ver, A, ng, c, A2, n2, c2, gs, rfl, hm, hm2, hl, hg, hr⟩ := open_config (hval 1 33 v1 rfl rfl) h1 (fun x hx => hlt x (by simp [hx]))
  obtain ⟨A3, n3, c3, xss, rfl, hnc3, hcm3, hx3, hok3, hr3⟩ := open_rows Try.underlying34 flat_bool (by kernel_rfl) (by decide) (hval 2 34 v2 rfl rfl) h2 (fun x hx => hlt x (by simp [hx]))
  obtain ⟨st, hl3, hf3, _⟩ := list_of_rows (enc := encBl) (ok := fun _ => True) xss (fun xs hxs => by obtain ⟨p, rfl⟩ := flatb1 (hok3 xs hxs); exact ⟨p, rfl, trivial⟩)
  rw [hf3] at hr3
  exact irqOwners_any n ver A ng c A2 n2 c2 gs A3 n3 c3 st kk W hm hm2 (ml (Nat.le_trans hnc3 hcm3)) hl (hl3.trans hx3) (gsOk_of hl hg) (gRows_of hl hg hr) hr3
theorem irqOwners_proved : Rows.IrqOwnersSaid :=
  OpenClaim.holds_of_wide 6 Try.f6 rfl rfl rfl rfl rfl rfl rfl ⟨rfl, rfl, rfl, rfl, rfl⟩ rfl rfl rfl rfl rfl (by kernel_rfl) Try.func6 (by kernel_rfl)
    (of_decide_eq_true (by kernel_rfl)) (by unfold Func.isWrapper; rw [if_neg (of_decide_eq_false (by kernel_rfl))]; exact ⟨rfl, rfl⟩)
    (fun os started H enc _ => law_lifted (C := Try.checked) (s := Rows.irqOwnersSpec) started own laidOut (by kernel_rfl) Try.func6 rfl (n := 4) (by kernel_rfl) (fun ds h => by match ds, h with | [_, _, _, _], _ => rfl) (tb := 4) (by kernel_rfl) Try.underlying4 (by kernel_rfl)
      (ChangeSpec.witness6 (enc := enc) (C := Try.checked) false ⟨#[], #[.int .i64 0, .agg #[.int .u32 0, .slice none 0 0, .slice none 0 0], .slice none 0 0, .int .i64 0], []⟩ 8 (by kernel_rfl) (by kernel_rfl) (by kernel_rfl) (by kernel_rfl)) irqOwners_law)
end Go.Proofs.Ytnhlcfkjhacedaa
