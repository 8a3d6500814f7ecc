/- Chapter 23, the law SmmuOwners. -/
import Derived.Test.YtdmndgjfnlockaaTabX
namespace Go.Proofs.Ytdmndgjfnlockaa
set_option linter.unusedVariables false
open Go.RowKit Go.Sort Go.ChangeShapes Go.WideShapes

def cellsS (s : Ste) : Array Value := #[.bool s.ok, .int .i64 s.id, .int .u64 s.root]
theorem tabK_some {n : Nat} {gs : List Gd} {st : List Bool} {vt : List Int} {k m : Nat} {l : List Ste} (h : tabK n gs st vt m = some l) (hk : k ≤ m) : ∃ l', tabK n gs st vt k = some l' := by
  cases hx : tabK n gs st vt k with
  | some l' => exact ⟨l', rfl⟩
  | none => rw [tabK_none_le hx hk] at h; cases h
theorem laidK_some {l l1 : List Ste} {own : Ste} {ss : List Int} {k : Nat} (h : laidN l own ss = some l1) (hk : k ≤ ss.length) : ∃ l', laidK l own ss k = some l' := by
  cases hx : laidK l own ss k with
  | some l' => exact ⟨l', rfl⟩
  | none => rw [laidN_none hk hx] at h; cases h
theorem stepS_at {l l' : List Ste} {own : Ste} {s q : Nat} (h : stepS l own (s : Int) = some l') : l'.getD q zS = if s = q then own else l.getD q zS := by
  unfold stepS at h
  split at h
  · cases h
  · rename_i hn
    injection h with h
    rw [← h, Int.toNat_natCast]
    have hs : s < l.length := by
      apply Classical.byContradiction
      intro h1
      exact hn (.inl (by omega))
    by_cases e : s = q
    · subst e
      simp [List.getD_eq_getElem?_getD, hs]
    · simp [List.getD_eq_getElem?_getD, e]

set_option maxRecDepth 100000 in
set_option maxHeartbeats 8000000 in
theorem smmuOwners_any (n : Int) (ver : Int) (A : Option Addr) (ng c : Nat) (A2 : Option Addr) (n2 c2 : Nat) (gs : List Gd) (A3 : Option Addr) (n3 c3 : Nat) (st : List Bool) (A4 : Option Addr) (n4 c4 : Nat) (vt : List Int) (kk : Int) (w : World) (hm : ng ≤ 9223372036854775807) (hm2 : n2 ≤ 9223372036854775807) (hm3 : n3 ≤ 9223372036854775807) (hm4 : n4 ≤ 9223372036854775807)
    (hl : gs.length = ng) (hl3 : st.length = n3) (hl4 : vt.length = n4) (hg : GsOk w w.heap.size ng gs) (hr : GRows w A ng gs)
    (hr3 : Rd w w.heap.size 1 A3 n3 (st.flatMap encBl)) (hr4 : Rd w w.heap.size 1 A4 n4 (vt.flatMap encQ)) (hv : ∀ v ∈ vt, 0 ≤ v ∧ v < 18446744073709551616) :
    Calls Try.prog 6 #[.int .i64 n, .agg #[.int .u32 ver, .slice A ng c, .slice A2 n2 c2], .slice A3 n3 c3, .slice A4 n4 c4, .int .i64 kk] w fun e w' => e = .returned (.bool true) ∧ Below w.heap.size w w' := by
  have HbX := Lib.hid (bal (Below.refl w.heap.size w) (.cells #[.int .u32 ver, .slice A ng c, .slice A2 n2 c2] 40))
  have HX := Lib.hid (Blk.new w 40 #[.int .u32 ver, .slice A ng c, .slice A2 n2 c2])
  have HGR := Lib.hid hr
  have HFw := Lib.hid (fun W (hr : GRows W A ng gs) => few_any ver A ng c A2 n2 c2 gs W hl hm hm2 hg hr)
  obtain ⟨F, hF⟩ : ∃ F, fewN ng n2 gs = F := ⟨_, rfl⟩
  rw [hF] at HFw
  cases F with
  | false =>
    clear hl hl3 hl4 hg hr hr3 hr4 hv hF
    go_enter Try.func6, Try.ntmps6
    go_wp2_with (first
      | (go_at_call 17; refine (awake23_any _).mono ?_; rintro e w1 ⟨rfl, hb1⟩; have hbx1 := HbX.out.trans (hb1.mono HbX.out.size); have hr1 := HGR.out.below hbx1; have hX1 := HX.out.kept hb1; have hcX1 := hX1.cell)
      | (go_at_call 18; refine (HFw.out _ hr1).mono ?_; rintro e w2 ⟨rfl, hb2⟩))
    all_goals (go_ret; exact ⟨rfl, hbx1.trans (hb2.mono hbx1.size)⟩)
  | true =>
    obtain ⟨hng, hn2, hfew⟩ := fewN_iff hl hF
    by_cases h30 : n3 ≤ 30 ∧ n4 ≤ 30
    · obtain ⟨h3, h4⟩ := h30
      by_cases hbad : n < 0 ∨ 256 < n ∨ n3 ≠ ng ∨ n4 ≠ ng
      · have HB1 := Lib.hid (fun W => tableBad_any n ver A ng c A2 n2 c2 A3 n3 c3 A4 n4 c4 W hbad)
        clear hl hl3 hl4 hg hr hr3 hr4 hv hF hbad hfew
        go_enter Try.func6, Try.ntmps6
        go_wp2_with (first
          | (go_at_call 17; refine (awake23_any _).mono ?_; rintro e w1 ⟨rfl, hb1⟩; have hbx1 := HbX.out.trans (hb1.mono HbX.out.size); have hr1 := HGR.out.below hbx1; have hX1 := HX.out.kept hb1; have hcX1 := hX1.cell)
          | (go_at_call 18; refine (HFw.out _ hr1).mono ?_; rintro e w2 ⟨rfl, hb2⟩; have hX2 := hX1.kept hb2; have hcX2 := hX2.cell; have hbx2 := hbx1.trans (hb2.mono hbx1.size))
          | (go_at_call 19; refine (HB1.out _).mono ?_; rintro e w3 ⟨rfl, hb3⟩; have hbx3 := hbx2.trans (hb3.mono hbx2.size)))
        all_goals (go_ret; exact ⟨rfl, hbx3⟩)
      · have hn0 : 0 ≤ n := by omega
        obtain ⟨N, rfl⟩ := Int.eq_ofNat_of_zero_le hn0
        have hN : N ≤ 256 := by omega
        obtain rfl : n3 = ng := by omega
        obtain rfl : n4 = n3 := by omega
        obtain ⟨R, hR⟩ : ∃ R, tabK N gs st vt n4 = R := ⟨_, rfl⟩
        have HT1 := Lib.hid (fun W (hW : Below w.heap.size w W) => table_any N ver A n4 c A2 n2 c2 gs A3 c3 st A4 c4 vt W hN hng hl hl3 hl4 hg hW.size (fun W' h => hW.trans (h.mono hW.size)) hfew (hr.below hW) ((hr3.below hW).more hW.size) ((hr4.below hW).more hW.size) hv)
        rw [hR] at HT1
        cases R with
        | none =>
          clear hl hl3 hl4 hg hr hr3 hr4 hv hF hbad hfew hR hn0
          go_enter Try.func6, Try.ntmps6
          go_wp2_with (first
            | (go_at_call 17; refine (awake23_any _).mono ?_; rintro e w1 ⟨rfl, hb1⟩; have hbx1 := HbX.out.trans (hb1.mono HbX.out.size); have hr1 := HGR.out.below hbx1; have hX1 := HX.out.kept hb1; have hcX1 := hX1.cell)
            | (go_at_call 18; refine (HFw.out _ hr1).mono ?_; rintro e w2 ⟨rfl, hb2⟩; have hX2 := hX1.kept hb2; have hcX2 := hX2.cell; have hbx2 := hbx1.trans (hb2.mono hbx1.size))
            | (go_at_call 19; refine (HT1.out _ hbx2).mono ?_; rintro e w3 ⟨h3', hb3⟩; obtain rfl := (show e = .returned (.tuple #[.slice none 0 0, .int .i64 230]) from h3'); clear h3'; have hbx3 := hbx2.trans (hb3.mono hbx2.size)))
          all_goals (go_ret; exact ⟨rfl, hbx3⟩)
        | some l =>
          by_cases hkk : kk < 0 ∨ (N : Int) ≤ kk
          · clear hl hl3 hl4 hg hr hr3 hr4 hv hF hbad hfew hR hn0
            have hk0 : kk < 0 ∨ (¬ kk < 0 ∧ (N : Int) ≤ kk) := by omega
            clear hkk
            rcases hk0 with hkk | ⟨hk1, hkk⟩
            all_goals
              go_enter Try.func6, Try.ntmps6
              go_wp2_with (first
                | (go_at_call 17; refine (awake23_any _).mono ?_; rintro e w1 ⟨rfl, hb1⟩; have hbx1 := HbX.out.trans (hb1.mono HbX.out.size); have hr1 := HGR.out.below hbx1; have hX1 := HX.out.kept hb1; have hcX1 := hX1.cell)
                | (go_at_call 18; refine (HFw.out _ hr1).mono ?_; rintro e w2 ⟨rfl, hb2⟩; have hX2 := hX1.kept hb2; have hcX2 := hX2.cell; have hbx2 := hbx1.trans (hb2.mono hbx1.size))
                | (go_at_call 19; refine (HT1.out _ hbx2).mono ?_; rintro e w3 ⟨h3', hb3⟩; obtain ⟨A7, c7, rfl, hl7, hr7⟩ := (show ∃ A c, e = .returned (.tuple #[.slice A N c, .int .i64 0]) ∧ l.length = N ∧ Rd w3 w3.heap.size 3 A N (l.flatMap encS) from h3'); clear h3'; have hbx3 := hbx2.trans (hb3.mono hbx2.size)))
              all_goals (go_ret; exact ⟨rfl, hbx3⟩)
          · obtain ⟨q, rfl⟩ := Int.eq_ofNat_of_zero_le (show 0 ≤ kk by omega)
            have hqN : q < N := by omega
            have HTS := Lib.hid (fun k (hk : k ≤ n4) => tabK_some hR hk)
            have HRe := Lib.hid hR
            have HG := Lib.hid hg
            have HF := Lib.hid hfew
            have HL3 := Lib.hid hl3
            have HL4 := Lib.hid hl4
            have HR3 := Lib.hid hr3
            have HR4 := Lib.hid hr4
            have HV := Lib.hid hv
            clear hl hl3 hl4 hg hr hr3 hr4 hv hF hbad hfew hR hn0 hkk
            go_enter Try.func6, Try.ntmps6
            go_wp2_with (first
              | (go_at_call 17; refine (awake23_any _).mono ?_; rintro e w1 ⟨rfl, hb1⟩; have hbx1 := HbX.out.trans (hb1.mono HbX.out.size); have hr1 := HGR.out.below hbx1; have hX1 := HX.out.kept hb1; have hcX1 := hX1.cell)
              | (go_at_call 18; refine (HFw.out _ hr1).mono ?_; rintro e w2 ⟨rfl, hb2⟩; have hX2 := hX1.kept hb2; have hcX2 := hX2.cell; have hbx2 := hbx1.trans (hb2.mono hbx1.size))
              | (go_at_call 19; refine (HT1.out _ hbx2).mono ?_; rintro e w3 ⟨h3', hb3⟩; obtain ⟨A7, c7, rfl, hl7, hr7⟩ := (show ∃ A c, e = .returned (.tuple #[.slice A N c, .int .i64 0]) ∧ l.length = N ∧ Rd w3 w3.heap.size 3 A N (l.flatMap encS) from h3'); clear h3'; have hX3 := hX2.kept hb3; have hcX3 := hX3.cell; have hlX3 := hX3.lt; have hbx3 := hbx2.trans (hb3.mono hbx2.size)))
            have hbw3 := hbx3
            refine wp_name ?_
            intro w4 hw4
            have hB4 : Blk w4 w3.heap.size 52 (cellsS ((List.replicate N zS).getD q zS)) := by
              have e : (List.replicate N zS).getD q zS = zS := by simp [List.getD_eq_getElem?_getD, hqN]
              rw [hw4, e]
              exact Blk.new _ _ _
            have hb34 : RowKit.Below w3.heap.size w3 w4 := by rw [hw4]; exact bal (Below.refl _ _) _
            have HR7 := Lib.hid hr7
            have HX3 := Lib.hid hX3
            have HL7 := Lib.hid hl7
            clear hw4 hX1 hcX1 hX2 hcX2 hbx1 hbx2 hr1 hr7 hX3 hcX3 hb1 hb2 hb3 hl7
            generalize hgB : w3.heap.size = gB at *
            go_loopw [56] (fun i wr => ∃ k : Nat, k ≤ n4 ∧ i = .int .i64 k ∧ ∃ l', tabK N gs st vt k = some l' ∧ Blk wr gB 52 (cellsS (l'.getD q zS)) ∧ Below gB w3 wr) (fun i _ => n4 - (intOf i).toNat)
            case atStart => exact ⟨0, by omega, rfl, _, rfl, hB4, hb34⟩
            case round =>
              obtain ⟨k, hk, rfl, l', hk', hB, hb⟩ := hrel
              clear hB4 hb34
              have HK := Lib.hid hk'
              clear hk'
              have hbw := hbx3.trans (hb.mono (by rw [← hgB]; exact hbx3.size))
              have hcX := (HX3.out.below hb (by omega)).cell
              by_cases hlt : k < n4
              · obtain ⟨b, o, rfl, hbb, hrg⟩ := HGR.out k hlt
                have hgk := HG.out k hlt
                have hfk := HF.out k hlt
                have hstep : tabK N gs st vt (k + 1) = if st.getD k false then laidN l' (ownS (vt.getD k 0)) (gs.getD k zG).strs else some l' := by rw [tabK, HK.out]; rfl
                have d78 : wr.cell? ⟨b, o + k * 79 + 78, none⟩ = some (.slice (gs.getD k zG).AS (gs.getD k zG).nS (gs.getD k zG).cS) := (hbw.cell (p := ⟨b, o + k * 79 + 78, none⟩) hbb).trans (hrg 78 _ hgk.cS)
                have HSt := Lib.hid (hgk.rs.below hbw)
                have HLs := Lib.hid hgk.ls
                have HBs := Lib.hid hgk.bs
                have hS40 : (gs.getD k zG).nS ≤ 40 := few_nS hfk
                clear hrg hgk hfk
                generalize (gs.getD k zG).AS = AS at *
                generalize (gs.getD k zG).nS = nS at *
                generalize (gs.getD k zG).cS = cS at *
                generalize (gs.getD k zG).strs = strs at *
                obtain ⟨b3, o3, rfl, hb3, hc3⟩ := (HR3.out.below hbw).row (fun _ => rfl) (k := k) (by rw [HL3.out]; exact hlt) HL3.out
                have d3 := hc3 0 (by omega)
                have hg3 : st.getD k false = st[k]'(by rw [HL3.out]; exact hlt) := by rw [List.getD_eq_getElem?_getD, List.getElem?_eq_getElem (by rw [HL3.out]; exact hlt)]; rfl
                simp only [encBl, Nat.add_zero, Nat.mul_one, List.getElem?_cons_zero] at d3
                rw [hg3] at hstep
                obtain ⟨b4, o4, rfl, hb4, hc4⟩ := (HR4.out.below hbw).row (fun _ => rfl) (k := k) (by rw [HL4.out]; exact hlt) HL4.out
                have d4 := hc4 0 (by omega)
                have hg4 : vt.getD k 0 = vt[k]'(by rw [HL4.out]; exact hlt) := by rw [List.getD_eq_getElem?_getD, List.getElem?_eq_getElem (by rw [HL4.out]; exact hlt)]; rfl
                simp only [encQ, Nat.add_zero, Nat.mul_one, List.getElem?_cons_zero] at d4
                rw [hg4] at hstep
                obtain ⟨hv0, hv1⟩ := HV.out _ (List.getElem_mem (l := vt) (n := k) (by rw [HL4.out]; exact hlt))
                clear hc3 hc4 hg3 hg4
                generalize st[k]'(by rw [HL3.out]; exact hlt) = sk at *
                generalize vt[k]'(by rw [HL4.out]; exact hlt) = v at *
                have HF1 := Lib.hid (fun W => refField_any v 55 48 hv0 hv1 W)
                have HF2 := Lib.hid (fun W => refField_any v 47 1 hv0 hv1 W)
                have HOw := Lib.hid (show ownS v = ⟨true, fieldN v 55 48, IntKind.u64.wrap (fieldN v 47 1 * 2)⟩ by rw [vmidN, rootN v hv0]; rfl)
                have hid1 : IntKind.i64.wrap (fieldN v 55 48) = fieldN v 55 48 := by
                  have h1 := fieldN_bd v 55 48 hv0
                  have h2 := fieldN_55 v hv0
                  exact wrap_small _ h1 (by omega)
                have D3 := Lib.hid (fun (W : World) (hW : Below w.heap.size w W) => (hW.cell (p := ⟨b3, o3 + k, none⟩) hb3).trans ((hbw.cell (p := ⟨b3, o3 + k, none⟩) hb3).symm.trans d3))
                have D4 := Lib.hid (fun (W : World) (hW : Below w.heap.size w W) => (hW.cell (p := ⟨b4, o4 + k, none⟩) hb4).trans ((hbw.cell (p := ⟨b4, o4 + k, none⟩) hb4).symm.trans d4))
                generalize ownS v = own at *
                generalize fieldN v 55 48 = oid at *
                generalize fieldN v 47 1 = ofl at *
                clear hv0 hv1 d3 d4
                cases sk
                case false =>
                  have HN := Lib.hid (show tabK N gs st vt (k + 1) = some l' by rw [hstep]; rfl)
                  clear hstep
                  go_wp2_with fail
                  generalize hwr : wr = wr0 at *
                  clear hwr
                  go_loopw [66] (fun i wi => ∃ j : Nat, j ≤ nS ∧ i = .int .i64 j ∧ wi = wr0) (fun i _ => nS - (intOf i).toNat)
                  case atStart => exact ⟨0, by omega, rfl, rfl⟩
                  case round =>
                    obtain ⟨j, hj, rfl, rfl⟩ := hrel
                    by_cases hjl : j < nS
                    · have hjl' : j < strs.length := by rw [HLs.out]; exact hjl
                      obtain ⟨b7, o7, rfl, hb7, hc7⟩ := HSt.out.row (fun _ => rfl) hjl' HLs.out
                      have d7 := hc7 0 (by omega)
                      have d3 := D3.out _ hbw
                      simp only [encU32, Nat.add_zero, Nat.mul_one, List.getElem?_cons_zero] at d7
                      clear hc7
                      generalize strs[j] = s at *
                      go_wp2_with fail
                      go_roundw
                      case rel => exact ⟨j + 1, by omega, by go_num, by first | trivial | rfl⟩
                      case measure => simp [intOf]; omega
                    · obtain rfl : j = nS := by omega
                      go_wp2_with fail
                      go_roundw
                      case rel => exact ⟨k + 1, by omega, by go_num, l', HN.out, hB, hb⟩
                      case measure => simp [intOf]; omega
                case true =>
                  obtain ⟨l1, hl1⟩ := HTS.out (k + 1) (by omega)
                  have hlN : laidN l' own strs = some l1 := by rw [← hl1, hstep]; rfl
                  have HN := Lib.hid hl1
                  have HLN := Lib.hid hlN
                  clear hstep hl1 hlN
                  go_wp2_with fail
                  generalize hwr : wr = wr0 at *
                  clear hwr
                  go_loopw [66] (fun i wi => ∃ j : Nat, j ≤ nS ∧ i = .int .i64 j ∧ ∃ l2, laidK l' own strs j = some l2 ∧ Blk wi gB 52 (cellsS (l2.getD q zS)) ∧ Below gB w3 wi) (fun i _ => nS - (intOf i).toNat)
                  case atStart => exact ⟨0, by omega, rfl, l', rfl, hB, hb⟩
                  case round =>
                    obtain ⟨j, hj, rfl, l2, hk2, hB2, hb2⟩ := hrel
                    have HK2 := Lib.hid hk2
                    have hbwi := hbx3.trans (hb2.mono (by rw [← hgB]; exact hbx3.size))
                    clear hk2
                    by_cases hjl : j < nS
                    · have hjl' : j < strs.length := by rw [HLs.out]; exact hjl
                      obtain ⟨b7, o7, rfl, hb7, hc7⟩ := HSt.out.row (fun _ => rfl) hjl' HLs.out
                      have d7 := hc7 0 (by omega)
                      simp only [encU32, Nat.add_zero, Nat.mul_one, List.getElem?_cons_zero] at d7
                      have d7' : wr.cell? ⟨b7, o7 + j, none⟩ = some (.int .u32 strs[j]) := (hbwi.cell (p := ⟨b7, o7 + j, none⟩) hb7).trans ((hbw.cell (p := ⟨b7, o7 + j, none⟩) hb7).symm.trans d7)
                      have d3 := D3.out _ hbwi
                      have hb4w : b4 < wr.heap.size := Nat.lt_of_lt_of_le hb4 hbwi.size
                      obtain ⟨hs0, hs1⟩ := HBs.out _ (List.getElem_mem hjl')
                      have hgd : strs.getD j 0 = strs[j] := by rw [List.getD_eq_getElem?_getD, List.getElem?_eq_getElem hjl']; rfl
                      obtain ⟨l3, hl3⟩ := laidK_some HLN.out (k := j + 1) (by rw [HLs.out]; omega)
                      have hst2 : stepS l2 own (strs[j]) = some l3 := by rw [← hl3, laidK, HK2.out, hgd]; rfl
                      have HL3' := Lib.hid hl3
                      clear hc7 d7 hgd hl3
                      generalize strs[j] = s at *
                      obtain ⟨sq, rfl⟩ := Int.eq_ofNat_of_zero_le hs0
                      have hat := stepS_at (q := q) hst2
                      have hw1 : IntKind.u64.wrap (sq : Int) = sq := by rw [IntKind.wrap_u64]; exact Int.emod_eq_of_lt (by omega) (by omega)
                      have hw2 : IntKind.u64.wrap (q : Int) = q := by rw [IntKind.wrap_u64]; exact Int.emod_eq_of_lt (by omega) (by omega)
                      clear hst2 hs0 hs1
                      by_cases hsq : sq = q
                      · subst hsq
                        rw [if_pos rfl] at hat
                        have HA := Lib.hid hat
                        have d4 := D4.out _ hbwi
                        have e4 : ∀ d os, (grow (redrawn wr d) os).cell? ⟨b4, o4 + k, none⟩ = some (.int .u64 v) := fun d os => D4.out _ (hbwi.trans ((below_regrown wr d os).mono hbwi.size))
                        clear hat d4
                        go_wp2_with fail
                        refine wp_region_tail_below 13 (by kernel_rfl) (by kernel_rfl) ?_
                        simp only [List.take_succ_cons, List.take_zero, List.drop_succ_cons, List.drop_zero]
                        repeat (go_big_quiet_step (first
                          | (go_at_call 11; first | with_reducible exact regrown_same (HF1.out _) | with_reducible exact regrown_same (HF2.out _))))
                        refine wpQuiet_nil ?_
                        rintro w5 ⟨p, rfl⟩
                        have hb5 := below_regrown wr p.d p.os
                        have hB5 := hB2.kept hb5
                        generalize grow (redrawn wr p.d) p.os = w5 at *
                        clear e4
                        have hcB := hB5.cell
                        have hfB := hB5.frozen
                        unfold cellsS at hcB
                        have hB6 := ((hB5.set_ 0 (.bool true)).set_ 1 (.int .i64 oid)).set_ 2 (.int .u64 (IntKind.u64.wrap (ofl * 2)))
                        have HB6 := Lib.hid hB6
                        clear hB6
                        go_wp2_with fail
                        go_roundw
                        case rel =>
                          refine ⟨j + 1, by omega, by go_num, l3, HL3'.out, ?_, ?_⟩
                          · rw [HA.out, HOw.out]
                            simpa [cellsS] using HB6.out
                          · exact (((hb2.trans (hb5.mono (by rw [← hgB]; exact hb2.size))).setCell (p := ⟨gB, 0, none⟩) (Nat.le_refl _) _).setCell (p := ⟨gB, 1, none⟩) (Nat.le_refl _) _).setCell (p := ⟨gB, 2, none⟩) (Nat.le_refl _) _
                        case measure => simp [intOf]; omega
                      · rw [if_neg hsq] at hat
                        have e1 : ((sq : Int) == (q : Int)) = false := by rw [beq_eq_false_iff_ne]; omega
                        have HA := Lib.hid hat
                        clear hat hsq
                        go_wp2_with fail
                        go_roundw
                        case rel => exact ⟨j + 1, by omega, by go_num, l3, HL3'.out, by rw [HA.out]; exact hB2, hb2⟩
                        case measure => simp [intOf]; omega
                    · obtain rfl : j = nS := by omega
                      have HN3 := Lib.hid (show tabK N gs st vt (k + 1) = some l2 by
                        rw [HN.out, ← HLN.out, laidN, HLs.out, HK2.out])
                      go_wp2_with fail
                      go_roundw
                      case rel => exact ⟨k + 1, by omega, by go_num, l2, HN3.out, hB2, hb2⟩
                      case measure => simp [intOf]; omega
              · obtain rfl : k = n4 := by omega
                obtain rfl : l' = l := by have := HK.out; rw [HRe.out] at this; injection this with this; exact this.symm
                have hq' : q < l'.length := by rw [HL7.out]; exact hqN
                obtain ⟨b7, o7, rfl, hb7, hc7⟩ := (HR7.out.below hb).row (fun _ => rfl) hq' HL7.out
                have d70 := hc7 0 (by omega)
                have d71 := hc7 1 (by omega)
                have d72 := hc7 2 (by omega)
                simp only [encS, Nat.add_zero, List.getElem?_cons_zero, List.getElem?_cons_succ] at d70 d71 d72
                have hgd : l'.getD q zS = l'[q] := by rw [List.getD_eq_getElem?_getD, List.getElem?_eq_getElem hq']; rfl
                rw [hgd] at hB
                have hcB := hB.cell
                unfold cellsS at hcB
                clear hc7 hgd
                generalize l'[q] = s at *
                obtain ⟨ok, id, root⟩ := s
                simp only at d70 d71 d72 hcB
                have hq2 := fun w => ste_eql w ok ok id root id root
                simp only [beq_self_eq_true, Bool.and_true] at hq2
                have hb7' : b7 < wr.heap.size := Nat.lt_of_lt_of_le hb7 (by rw [← hgB]; exact hb.size)
                go_wp2_with fail
                go_quiet (fail)
                go_wp2_with fail
                go_ret
                exact ⟨rfl, below_drewN hbw _⟩
    · have H := Lib.hid h30
      clear hl hl3 hl4 hg hr hr3 hr4 hv hF h30
      go_enter Try.func6, Try.ntmps6
      go_wp2_with (first
        | (go_at_call 17; refine (awake23_any _).mono ?_; rintro e w1 ⟨rfl, hb1⟩; have hbx1 := HbX.out.trans (hb1.mono HbX.out.size); have hr1 := HGR.out.below hbx1; have hX1 := HX.out.kept hb1; have hcX1 := hX1.cell)
        | (go_at_call 18; refine (HFw.out _ hr1).mono ?_; rintro e w2 ⟨rfl, hb2⟩; have hX2 := hX1.kept hb2; have hcX2 := hX2.cell; have hbx2 := hbx1.trans (hb2.mono hbx1.size))
        | (go_at_call 19; exfalso; refine H.out ?_; omega))
      all_goals (go_ret; exact ⟨rfl, hbx2⟩)

theorem trodAll_5 {H : Type} {enc : TypeId × Value → H} {P : Program} {w : World} {base : Nat} {spare : Nat → Bool} {held : Bool} {t t1 t2 t3 t4 : TypeId} {args : Array Value} {ds : List (DataW H)} {ps : List MemPlace} (h : DataW.TrodAll enc P w base spare held [t, t1, t2, t3, t4] args.toList ds ps) :
    ∃ v v1 v2 v3 v4 d d1 d2 d3 d4 p p1 p2 p3 p4, args = #[v, v1, v2, v3, v4] ∧ ds = [d, d1, d2, d3, d4] ∧ ps = p ++ p1 ++ p2 ++ p3 ++ p4 ∧ DataW.Trod enc P w base spare held t v d p ∧ DataW.Trod enc P w base spare held t1 v1 d1 p1 ∧ DataW.Trod enc P w base spare held t2 v2 d2 p2 ∧ DataW.Trod enc P w base spare held t3 v3 d3 p3 ∧ DataW.Trod enc P w base spare held t4 v4 d4 p4 := by
  obtain ⟨v, vs, d, e1, p, q, hargs, rfl, rfl, hd, hrest⟩ := trodAll_cons h
  obtain ⟨v1, vs1, d1, e2, p1, q1, rfl, rfl, rfl, hd1, hrest1⟩ := trodAll_cons hrest
  obtain ⟨v2, vs2, d2, e3, p2, q2, rfl, rfl, rfl, hd2, hrest2⟩ := trodAll_cons hrest1
  obtain ⟨v3, vs3, d3, e4, p3, q3, rfl, rfl, rfl, hd3, hrest3⟩ := trodAll_cons hrest2
  obtain ⟨v4, vs4, d4, e5, p4, q4, rfl, rfl, rfl, hd4, hrest4⟩ := trodAll_cons hrest3
  obtain ⟨rfl, rfl, rfl⟩ := trodAll_nil hrest4
  exact ⟨v, v1, v2, v3, v4, d, d1, d2, d3, d4, p, p1, p2, p3, p4, by cases args; simp_all, rfl, by simp, hd, hd1, hd2, hd3, hd4⟩
set_option maxRecDepth 100000 in
theorem smmuOwners_law : LawWalk Try.prog 6 Try.f6 := by
  intro H enc W base args ds p hval hA hlt hfz hsz
  rw [Try.params6] at hA hval
  obtain ⟨v0, v1, v2, v3, v4, d0, d1, d2, d3, d4, p0, p1, p2, p3, p4, rfl, rfl, rfl, h0, h1, h2, h3, h4⟩ := trodAll_5 hA
  obtain ⟨n, rfl, rfl, rfl, wn⟩ := open_int Try.underlying3 (hval 0 3 v0 rfl rfl) h0
  obtain ⟨ver, A, ng, c, A2, n2, c2, gs, rfl, hm, hm2, hl, hg, hr⟩ := open_config (hval 1 40 v1 rfl rfl) h1 (fun x hx => hlt x (by simp [hx]))
  obtain ⟨A3, n3, c3, xss, rfl, hnc3, hcm3, hx3, hok3, hr3⟩ := open_rows Try.underlying41 flat_bool (by kernel_rfl) (by decide) (hval 2 41 v2 rfl rfl) h2 (fun x hx => hlt x (by simp [hx]))
  obtain ⟨st, hl3, hf3, _⟩ := list_of_rows (enc := encBl) (ok := fun _ => True) xss (fun xs hxs => by obtain ⟨p, rfl⟩ := flatb1 (hok3 xs hxs); exact ⟨p, rfl, trivial⟩)
  rw [hf3] at hr3
  obtain ⟨A4, n4, c4, yss, rfl, hnc4, hcm4, hx4, hok4, hr4⟩ := open_rows Try.underlying42 flat_u64 (by kernel_rfl) (by decide) (hval 3 42 v3 rfl rfl) h3 (fun x hx => hlt x (by simp [hx]))
  obtain ⟨vt, hl4, hf4, hv4⟩ := list_of_rows (enc := encQ) (ok := fun x => 0 ≤ x ∧ x < 18446744073709551616) yss (fun xs hxs => by obtain ⟨p, rfl, hp⟩ := flatq1 (hok4 xs hxs); exact ⟨p, rfl, hp⟩)
  rw [hf4] at hr4
  obtain ⟨kk, rfl, rfl, rfl, wk⟩ := open_int Try.underlying3 (hval 4 3 v4 rfl rfl) h4
  exact smmuOwners_any n ver A ng c A2 n2 c2 gs A3 n3 c3 st A4 n4 c4 vt kk W hm hm2 (ml (Nat.le_trans hnc3 hcm3)) (ml (Nat.le_trans hnc4 hcm4)) hl (hl3.trans hx3) (hl4.trans hx4) (gsOk_of hl hg) (gRows_of hl hg hr) hr3 hr4 hv4
theorem smmuOwners_proved : Rows.SmmuOwnersSaid :=
  OpenClaim.holds_of_wide 6 Try.f6 rfl rfl rfl rfl rfl rfl rfl ⟨rfl, rfl, rfl, rfl, rfl⟩ rfl rfl rfl rfl rfl (by kernel_rfl) Try.func6 (by kernel_rfl)
    (of_decide_eq_true (by kernel_rfl)) (by unfold Func.isWrapper; rw [if_neg (of_decide_eq_false (by kernel_rfl))]; exact ⟨rfl, rfl⟩)
    (fun os started H enc _ => law_lifted (C := Try.checked) (s := Rows.smmuOwnersSpec) started own laidOut (by kernel_rfl) Try.func6 rfl (n := 5) (by kernel_rfl) (fun ds h => by match ds, h with | [_, _, _, _, _], _ => rfl) (tb := 4) (by kernel_rfl) Try.underlying4 (by kernel_rfl)
      (ChangeSpec.witness6 (enc := enc) (C := Try.checked) false ⟨#[], #[.int .i64 0, .agg #[.int .u32 0, .slice none 0 0, .slice none 0 0], .slice none 0 0, .slice none 0 0, .int .i64 0], []⟩ 8 (by kernel_rfl) (by kernel_rfl) (by kernel_rfl) (by kernel_rfl)) smmuOwners_law)
end Go.Proofs.Ytdmndgjfnlockaa
