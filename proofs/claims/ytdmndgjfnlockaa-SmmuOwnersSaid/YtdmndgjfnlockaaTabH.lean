/- Chapter 23, the table of streams: the document's. -/
import Derived.Test.YtdmndgjfnlockaaTabG
namespace Go.Proofs.Ytdmndgjfnlockaa
set_option linter.unusedVariables false
open Go.RowKit Go.Sort

theorem few_nS {g : Gd} (h : fewG g = true) : g.nS ≤ 40 := by
  simp [fewG] at h
  omega
set_option maxRecDepth 100000 in
set_option maxHeartbeats 8000000 in
theorem refTable_any (n : Nat) (ver : Int) (A : Option Addr) (ng c : Nat) (A2 : Option Addr) (n2 c2 : Nat) (gs : List Gd) (A3 : Option Addr) (c3 : Nat) (st : List Bool) (A4 : Option Addr) (c4 : Nat) (vt : List Int) (w : World) (hn : n ≤ 256) (hng : ng ≤ 20) (hl : gs.length = ng) (hl3 : st.length = ng) (hl4 : vt.length = ng)
    {w0 : World} {B0 : Nat} (hg : GsOk w0 B0 ng gs) (hB0 : B0 ≤ w.heap.size) (hw0 : ∀ W, Below w.heap.size w W → Below B0 w0 W) (hfew : ∀ k, k < ng → fewG (gs.getD k zG) = true) (hr : GRows w A ng gs)
    (hr3 : Rd w w.heap.size 1 A3 ng (st.flatMap encBl)) (hr4 : Rd w w.heap.size 1 A4 ng (vt.flatMap encQ)) (hv : ∀ v ∈ vt, 0 ≤ v ∧ v < 18446744073709551616) :
    Calls Try.prog 20 #[.int .i64 n, .agg #[.int .u32 ver, .slice A ng c, .slice A2 n2 c2], .slice A3 ng c3, .slice A4 ng c4] w (TabR (tabK n gs st vt ng) n w) := by
  obtain ⟨R, hR⟩ : ∃ R, tabK n gs st vt ng = R := ⟨_, rfl⟩
  rw [hR]
  have HRes := Lib.hid hR
  have HL := Lib.hid hl
  have HL3 := Lib.hid hl3
  have HL4 := Lib.hid hl4
  have HG := Lib.hid hg
  have HW0 := Lib.hid hw0
  have HF := Lib.hid hfew
  have HR := Lib.hid hr
  have HR3 := Lib.hid hr3
  have HR4 := Lib.hid hr4
  have HV := Lib.hid hv
  have HT0 := Lib.hid (show tabK n gs st vt 0 = some (List.replicate n zS) from rfl)
  have hmk := fun w => make_stes w n (by omega)
  have hcs : (madeCells #[Value.bool false, .int .i64 0, .int .u64 0] (n * 3)).size = n * 3 := size_madeCells _ _
  have HM := Lib.hid (made_stes n)
  generalize madeCells #[Value.bool false, .int .i64 0, .int .u64 0] (n * 3) = cur at *
  clear hR hl hl3 hl4 hg hw0 hfew hr hr3 hr4 hv
  go_enter Try.func20, Try.ntmps20
  go_wp2
  refine wp_name ?_
  intro w2 hw2
  obtain ⟨gw, hgw0, hb2, ho2, hC2⟩ : ∃ gw, gw = w.heap.size + 1 ∧ RowKit.Below w.heap.size w w2 ∧ w2.ownsRow (w.heap.size + 1) 52 3 (.slice (some ⟨gw, 0, none⟩) n n) n ((List.replicate n zS).flatMap encS) ∧ Blk w2 w.heap.size 40 #[.int .u32 ver, .slice A ng c, .slice A2 n2 c2] := by
    refine ⟨_, rfl, by rw [hw2]; exact bal (bal (Below.refl _ _) _) _, ?_, by rw [hw2]; exact (Blk.new _ _ _).alloc _⟩
    rw [hw2, ← HM.out]
    have := own_made (w := w.alloc (.cells #[.int .u32 ver, .slice A ng c, .slice A2 n2 c2] 40)) (base := w.heap.size + 1) (e := 52) (size := 3) (n := n) (cur := cur) (by simp) (by unfold maxLen; omega) hcs
    simpa using this
  subst hgw0
  clear hw2 hmk hcs HM
  go_loopw [42] (fun i wr => ∃ k : Nat, k ≤ ng ∧ i = .int .i64 k ∧ ∃ l', tabK n gs st vt k = some l' ∧ wr.ownsRow (w.heap.size + 1) 52 3 (.slice (some ⟨w.heap.size + 1, 0, none⟩) n n) n (l'.flatMap encS) ∧ Below w.heap.size w wr ∧ Blk wr w.heap.size 40 #[.int .u32 ver, .slice A ng c, .slice A2 n2 c2]) (fun i _ => ng - (intOf i).toNat)
  case atStart => exact ⟨0, by omega, rfl, _, HT0.out, ho2, hb2, hC2⟩
  case round =>
    obtain ⟨k, hk, rfl, l', hk', ho, hb, hC⟩ := hrel
    clear ho2 hb2 hC2
    have HK := Lib.hid hk'
    have HLt := Lib.hid (tabK_len hk')
    clear hk'
    by_cases hlt : k < ng
    · obtain ⟨b, o, rfl, hbb, hrg⟩ := HR.out k hlt
      have hgk := HG.out k hlt
      have hfk := HF.out k hlt
      have hstep : tabK n gs st vt (k + 1) = if st.getD k false then laidN l' (ownS (vt.getD k 0)) (gs.getD k zG).strs else some l' := by rw [tabK, HK.out]; rfl
      have d78 : wr.cell? ⟨b, o + k * 79 + 78, none⟩ = some (.slice (gs.getD k zG).AS (gs.getD k zG).nS (gs.getD k zG).cS) := (hb.cell (p := ⟨b, o + k * 79 + 78, none⟩) hbb).trans (hrg 78 _ hgk.cS)
      have HSt := Lib.hid (hgk.rs.below (HW0.out wr hb))
      have HLs := Lib.hid hgk.ls
      have HBs := Lib.hid hgk.bs
      have hS40 : (gs.getD k zG).nS ≤ 40 := few_nS hfk
      clear hrg hgk hfk
      generalize (gs.getD k zG).AS = AS at *
      generalize (gs.getD k zG).nS = nS at *
      generalize (gs.getD k zG).cS = cS at *
      generalize (gs.getD k zG).strs = strs at *
      obtain ⟨b3, o3, rfl, hb3, hc3⟩ := (HR3.out.below hb).row (fun _ => rfl) (k := k) (by rw [HL3.out]; exact hlt) HL3.out
      have d3 := hc3 0 (by omega)
      have hg3 : st.getD k false = st[k]'(by rw [HL3.out]; exact hlt) := by rw [List.getD_eq_getElem?_getD, List.getElem?_eq_getElem (by rw [HL3.out]; exact hlt)]; rfl
      simp only [encBl, Nat.add_zero, Nat.mul_one, List.getElem?_cons_zero] at d3
      rw [hg3] at hstep
      obtain ⟨b4, o4, rfl, hb4, hc4⟩ := (HR4.out.below hb).row (fun _ => rfl) (k := k) (by rw [HL4.out]; exact hlt) HL4.out
      have d4 := hc4 0 (by omega)
      have hg4 : vt.getD k 0 = vt[k]'(by rw [HL4.out]; exact hlt) := by rw [List.getD_eq_getElem?_getD, List.getElem?_eq_getElem (by rw [HL4.out]; exact hlt)]; rfl
      simp only [encQ, Nat.add_zero, Nat.mul_one, List.getElem?_cons_zero] at d4
      rw [hg4] at hstep
      obtain ⟨hv0, hv1⟩ := HV.out _ (List.getElem_mem (l := vt) (n := k) (by rw [HL4.out]; exact hlt))
      clear hc3 hc4 hg3 hg4
      generalize st[k]'(by rw [HL3.out]; exact hlt) = sk at *
      generalize vt[k]'(by rw [HL4.out]; exact hlt) = v at *
      have hA1 := and_vmid v hv0 hv1
      have hA2 := and_root v hv0 hv1
      have HOw := Lib.hid (show ownS v = ⟨true, v / 281474976710656 % 256, v / 2 % 140737488355328 * 2⟩ from rfl)
      have hid1 : IntKind.i64.wrap (v / 281474976710656 % 256) = v / 281474976710656 % 256 := by
        have h1 : 0 ≤ v / 281474976710656 % 256 := Int.emod_nonneg _ (by decide)
        have h2 : v / 281474976710656 % 256 < 256 := Int.emod_lt_of_pos _ (by decide)
        exact wrap_small _ h1 (by omega)
      generalize ownS v = own at *
      generalize v / 281474976710656 % 256 = oid at *
      generalize v / 2 % 140737488355328 * 2 = oroot at *
      clear hv0 hv1
      have D3 := Lib.hid (fun (W : World) (hW : Below w.heap.size w W) => (hW.cell (p := ⟨b3, o3 + k, none⟩) hb3).trans ((hb.cell (p := ⟨b3, o3 + k, none⟩) hb3).symm.trans d3))
      have D4 := Lib.hid (fun (W : World) (hW : Below w.heap.size w W) => (hW.cell (p := ⟨b4, o4 + k, none⟩) hb4).trans ((hb.cell (p := ⟨b4, o4 + k, none⟩) hb4).symm.trans d4))
      clear d3 d4
      have hcC := hC.cell
      cases sk
      case false =>
        have HN := Lib.hid (show tabK n gs st vt (k + 1) = some l' by rw [hstep]; rfl)
        clear hstep
        go_wp2_with fail
        generalize hwr : wr = wr0 at *
        clear hwr
        go_loopw [52] (fun i wi => ∃ j : Nat, j ≤ nS ∧ i = .int .i64 j ∧ wi = wr0) (fun i _ => nS - (intOf i).toNat)
        case atStart => exact ⟨0, by omega, rfl, rfl⟩
        case round =>
          obtain ⟨j, hj, rfl, rfl⟩ := hrel
          by_cases hjl : j < nS
          · have hjl' : j < strs.length := by rw [HLs.out]; exact hjl
            obtain ⟨b7, o7, rfl, hb7, hc7⟩ := HSt.out.row (fun _ => rfl) hjl' HLs.out
            have d7 := hc7 0 (by omega)
            have d3 := D3.out _ hb
            simp only [encU32, Nat.add_zero, Nat.mul_one, List.getElem?_cons_zero] at d7
            clear hc7
            generalize strs[j] = s at *
            go_wp2_with fail
            go_roundw
            case rel => exact ⟨j + 1, by omega, by go_num, by first | trivial | rfl⟩
            case measure => simp [intOf]; omega
          · obtain rfl : j = nS := by omega
            go_wp2_with fail
            go_roundw
            case rel => exact ⟨k + 1, by omega, by go_num, l', HN.out, ho, hb, hC⟩
            case measure => simp [intOf]; omega
      case true =>
        have HN := Lib.hid (show tabK n gs st vt (k + 1) = laidN l' own strs by rw [hstep]; rfl)
        clear hstep
        go_wp2_with fail
        generalize hwr : wr = wr0 at *
        clear hwr
        go_loopw [52] (fun i wi => ∃ j : Nat, j ≤ nS ∧ i = .int .i64 j ∧ ∃ l2, laidK l' own strs j = some l2 ∧ wi.ownsRow (w.heap.size + 1) 52 3 (.slice (some ⟨w.heap.size + 1, 0, none⟩) n n) n (l2.flatMap encS) ∧ Near (fun i => i = w.heap.size + 1) wr0 wi) (fun i _ => nS - (intOf i).toNat)
        case atStart => exact ⟨0, by omega, rfl, l', rfl, ho, Near.refl _ _⟩
        case round =>
          obtain ⟨j, hj, rfl, l2, hk2, ho2, hn2⟩ := hrel
          have HK2 := Lib.hid hk2
          have HL2 := Lib.hid ((laidK_len hk2).trans HLt.out)
          have hbi := hb.trans (hn2.below (fun i h => by omega) hb.size)
          have hCi := hC.same (hn2.block _ hC.lt (by omega))
          clear hk2
          by_cases hjl : j < nS
          · have hjl' : j < strs.length := by rw [HLs.out]; exact hjl
            obtain ⟨b7, o7, rfl, hb7, hc7⟩ := HSt.out.row (fun _ => rfl) hjl' HLs.out
            have d7 := hc7 0 (by omega)
            simp only [encU32, Nat.add_zero, Nat.mul_one, List.getElem?_cons_zero] at d7
            have d7' : wr.cell? ⟨b7, o7 + j, none⟩ = some (.int .u32 strs[j]) := (hbi.cell (p := ⟨b7, o7 + j, none⟩) (by show b7 < w.heap.size; omega)).trans ((hb.cell (p := ⟨b7, o7 + j, none⟩) (by show b7 < w.heap.size; omega)).symm.trans d7)
            have d3 := D3.out _ hbi
            have d4 := D4.out _ hbi
            have hcCi := hCi.cell
            obtain ⟨hs0, hs1⟩ := HBs.out _ (List.getElem_mem hjl')
            have hgd : strs.getD j 0 = strs[j] := by rw [List.getD_eq_getElem?_getD, List.getElem?_eq_getElem hjl']; rfl
            have HSt2 := Lib.hid (show laidK l' own strs (j + 1) = stepS l2 own (strs[j]) by rw [laidK, HK2.out, hgd]; rfl)
            clear hc7 d7 hgd
            generalize strs[j] = s at *
            obtain ⟨q, rfl⟩ := Int.eq_ofNat_of_zero_le hs0
            have hw1 : IntKind.u64.wrap (q : Int) = q := by rw [IntKind.wrap_u64]; exact Int.emod_eq_of_lt (by omega) (by omega)
            have hw2 : IntKind.u64.wrap (n : Int) = n := by rw [IntKind.wrap_u64]; exact Int.emod_eq_of_lt (by omega) (by omega)
            by_cases hqn : n ≤ q
            · have HF2 := Lib.hid (show R = none by
                rw [← HRes.out]
                refine tabK_none_le (k := k + 1) ?_ (by omega)
                rw [HN.out]
                refine laidN_none (k := j + 1) (by rw [HLs.out]; omega) ?_
                rw [HSt2.out, stepS, if_pos (.inl (by rw [HL2.out]; omega))])
              clear hs0 hs1
              go_wp2_with fail
              all_goals (go_ret2; rw [HF2.out]; exact ⟨rfl, hbi⟩)
            · have hqn' : q < n := by omega
              have c0 := ho2.cellAt (q * 3) (by omega)
              have e0 := flatMap_get (enc := encS) (s := 3) (fun _ => rfl) l2 q 0 (by omega) (by rw [HL2.out]; exact hqn')
              rw [Nat.add_zero] at e0
              rw [e0] at c0
              have hgd : l2.getD q zS = l2[q]'(by rw [HL2.out]; exact hqn') := by rw [List.getD_eq_getElem?_getD, List.getElem?_eq_getElem (by rw [HL2.out]; exact hqn')]; rfl
              simp only [encS, List.getElem?_cons_zero] at c0
              cases hok : (l2[q]'(by rw [HL2.out]; exact hqn')).ok
              · have c1 := ho2.cellAt (q * 3 + 1) (by omega)
                have c2' := ho2.cellAt (q * 3 + 2) (by omega)
                have e1 := flatMap_get (enc := encS) (s := 3) (fun _ => rfl) l2 q 1 (by omega) (by rw [HL2.out]; exact hqn')
                have e2 := flatMap_get (enc := encS) (s := 3) (fun _ => rfl) l2 q 2 (by omega) (by rw [HL2.out]; exact hqn')
                rw [e1] at c1
                rw [e2] at c2'
                simp only [encS, List.getElem?_cons_zero, List.getElem?_cons_succ] at c1 c2'
                have hfz := ho2.frozenAt
                rw [hok] at c0
                have HN2 := Lib.hid (show laidK l' own strs (j + 1) = some (l2.set q own) by
                  rw [HSt2.out, stepS, if_neg]
                  · rfl
                  · rintro (h | h)
                    · rw [HL2.out] at h; omega
                    · rw [Int.toNat_natCast, hgd, hok] at h; cases h)
                have HO := row_set3 HL2.out ho2 q hqn' own
                rw [HOw.out] at HO HN2
                simp only at HO
                have HO2 := Lib.hid HO
                clear e0 e1 e2 hgd hok ho2 hs0 hs1 HO
                generalize (l2[q]'(by rw [HL2.out]; exact hqn')) = old at *
                go_wp2_with fail
                go_roundw
                case rel => exact ⟨j + 1, by omega, by go_num, _, by rw [HOw.out]; exact HN2.out, HO2.out, ((hn2.setCell (p := ⟨w.heap.size + 1, q * 3, none⟩) rfl _).setCell (p := ⟨w.heap.size + 1, q * 3 + 1, none⟩) rfl _).setCell (p := ⟨w.heap.size + 1, q * 3 + 2, none⟩) rfl _⟩
                case measure => simp [intOf]; omega
              · have HF2 := Lib.hid (show R = none by
                  rw [← HRes.out]
                  refine tabK_none_le (k := k + 1) ?_ (by omega)
                  rw [HN.out]
                  refine laidN_none (k := j + 1) (by rw [HLs.out]; omega) ?_
                  rw [HSt2.out, stepS, if_pos (.inr (by rw [Int.toNat_natCast, hgd, hok]))])
                rw [hok] at c0
                clear e0 hgd hok hs0 hs1
                go_wp2_with fail
                all_goals (go_ret2; rw [HF2.out]; exact ⟨rfl, hbi⟩)
          · obtain rfl : j = nS := by omega
            have HN3 := Lib.hid (show tabK n gs st vt (k + 1) = some l2 by rw [HN.out, laidN, HLs.out, HK2.out])
            go_wp2_with fail
            go_roundw
            case rel => exact ⟨k + 1, by omega, by go_num, l2, HN3.out, ho2, hbi, hCi⟩
            case measure => simp [intOf]; omega
    · obtain rfl : k = ng := by omega
      have HF2 := Lib.hid (show R = some l' by rw [← HRes.out, HK.out])
      obtain ⟨A9, c9, hA9, _, hr9⟩ := own_slice ho
      injection hA9 with hA9 _ hc9
      subst hA9 hc9
      go_wp2
      go_ret2
      rw [HF2.out]
      exact ⟨⟨_, _, rfl, HLt.out, hr9⟩, hb⟩
end Go.Proofs.Ytdmndgjfnlockaa
