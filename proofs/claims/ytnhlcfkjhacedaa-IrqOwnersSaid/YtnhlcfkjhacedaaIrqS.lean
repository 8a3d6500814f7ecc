/- Chapter 22, the routes of interrupts: the document's; both refused. -/
import Derived.Test.YtnhlcfkjhacedaaIrqA
import Derived.Test.YtnhlcfkjhacedaaNear
namespace Go.Proofs.Ytnhlcfkjhacedaa
set_option linter.unusedVariables false
open Go.RowKit Go.Sort

/-- What the making of routes hands back. -/
def RouR (R : Option (List Rt)) (n : Nat) (w : World) (e : Ending) (w' : World) : Prop :=
  (match R with
  | none => e = .returned (.tuple #[.slice none 0 0, .int .i64 220])
  | some l => ∃ A c, e = .returned (.tuple #[.slice A n c, .int .i64 0]) ∧ l.length = n ∧ Rd w' w'.heap.size 3 A n (l.flatMap encR)) ∧ Below w.heap.size w w'
theorem own_le {w : World} {base : Nat} {e : TypeId} {size n : Nat} {v : Value} {xs : List Value} (h : w.ownsRow base e size v n xs) (hn : 0 < n) : ∃ g cap, v = .slice (some ⟨g, 0, none⟩) n cap ∧ base ≤ g := by
  rcases h.2 with ⟨_, h0⟩ | ⟨g, cap, cur, rfl, hg, _⟩
  · omega
  · exact ⟨g, cap, rfl, hg⟩

set_option maxRecDepth 100000 in
set_option maxHeartbeats 8000000 in
theorem refRoutes_any (n : Nat) (ver : Int) (A : Option Addr) (ng c : Nat) (A2 : Option Addr) (n2 c2 : Nat) (A3 : Option Addr) (c3 : Nat) (gs : List Gd) (st : List Bool) (w : World) (hn : n ≤ 1020) (hng : ng ≤ 20) (hl3 : st.length = ng)
    (hfew : ∀ k, k < ng → fewG (gs.getD k zG) = true) (hg : ∀ W, Below w.heap.size w W → GsOk W w.heap.size ng gs) (hr : ∀ W, Below w.heap.size w W → GRows W A ng gs) (hr3 : Rd w w.heap.size 1 A3 ng (st.flatMap encBl)) :
    Calls Try.prog 17 #[.int .i64 n, .agg #[.int .u32 ver, .slice A ng c, .slice A2 n2 c2], .slice A3 ng c3] w (RouR (routesN n gs st ng) n w) := by
  obtain ⟨R, hR⟩ : ∃ R, routesN n gs st ng = R := ⟨_, rfl⟩
  rw [hR]
  have HRes := Lib.hid hR
  have HL3 := Lib.hid hl3
  have HG := Lib.hid hg
  have HF := Lib.hid hfew
  have HR := Lib.hid hr
  have HR3 := Lib.hid hr3
  clear hR hl3 hg hfew hr hr3
  go_enter Try.func17, Try.ntmps17
  go_wp2
  have hC0 := Blk.new w 33 #[.int .u32 ver, .slice A ng c, .slice A2 n2 c2]
  go_loopw [8, 9] (fun s8 i wr => ∃ k : Nat, k ≤ n ∧ i = .int .i64 k ∧ wr.ownsRow (w.heap.size + 1) 58 3 s8 k ((List.replicate k mR).flatMap encR) ∧ Below w.heap.size w wr ∧ Blk wr w.heap.size 33 #[.int .u32 ver, .slice A ng c, .slice A2 n2 c2]) (fun _ i _ => n - (intOf i).toNat)
  case atStart => exact ⟨0, by omega, rfl, World.ownsRow_nil _ _ _ _, bal (Below.refl _ _) _, hC0⟩
  case round =>
    obtain ⟨k, hk, rfl, ho, hb, hC⟩ := hrel
    clear hC0
    obtain ⟨A8, c8, rfl, _, _⟩ := own_slice ho
    by_cases hlt : k < n
    · have HM := Lib.hid (show k + 1 ≤ maxLen by unfold maxLen; omega)
      have HX := Lib.hid (show (List.replicate (k + 1) mR).flatMap encR = (List.replicate k mR).flatMap encR ++ encR mR by rw [List.replicate_succ', List.flatMap_append]; simp)
      have hz := hb.size
      have hzC := hC.lt
      go_wp2_with (at_builtin; refine wpList_app route_elem rfl (.tmp 32) (.tmp 34) rfl (w.heap.size + 1) (ho.alloc _) rfl rfl (Rd.fresh _ _ _ 1 3 _ rfl) (by simp [Value.oneCell']) HM.out (by omega) (by simp; omega) ?_; intro v2 w5 hown5 hb5 hgr)
      go_roundw
      case rel => exact ⟨k + 1, by omega, by go_num, by rw [HX.out]; exact hown5, (bal hb _).trans (hb5.mono (by omega)), (hC.alloc _).below hb5 (by omega)⟩
      case measure => simp [intOf]; omega
    · obtain rfl : k = n := by omega
      have hcC := hC.cell
      go_wp2
      have HO := Lib.hid ho
      clear ho hcC
      generalize hwr : wr = w3 at *
      clear hwr
      go_loopw [39] (fun i wr => ∃ q : Nat, q ≤ ng ∧ i = .int .i64 q ∧ ∃ l', runR (List.replicate k mR) (namedK st gs q) = some l' ∧ wr.ownsRow (w.heap.size + 1) 58 3 (.slice A8 k c8) k (l'.flatMap encR) ∧ Below w.heap.size w wr ∧ Blk wr w.heap.size 33 #[.int .u32 ver, .slice A ng c, .slice A2 n2 c2]) (fun i _ => ng - (intOf i).toNat)
      case atStart => exact ⟨0, by omega, rfl, _, rfl, HO.out, hb, hC⟩
      case round =>
        obtain ⟨q, hq, rfl, l', hq', ho, hb, hC⟩ := hrel
        clear HO
        have HK := Lib.hid hq'
        have HLt := Lib.hid (show l'.length = k by rw [runR_len hq']; simp)
        clear hq'
        have hcC := hC.cell
        by_cases hlt : q < ng
        · obtain ⟨b, o, rfl, hbb, hrg⟩ := HR.out wr hb q hlt
          have hgk := HG.out wr hb q hlt
          have hfk := HF.out q hlt
          have d77 : wr.cell? ⟨b, o + q * 79 + 77, none⟩ = some (.slice (gs.getD q zG).AI (gs.getD q zG).nI (gs.getD q zG).cI) := hrg 77 _ hgk.cI
          have hI70 : (gs.getD q zG).nI ≤ 70 := few_nI hfk
          have HLi := Lib.hid hgk.li
          have HRi := Lib.hid hgk.ri
          have hstep : namedK st gs (q + 1) = namedK st gs q ++ if st.getD q false then (gs.getD q zG).irqs.map (fun x => (q, x)) else [] := rfl
          have hmid := fun (h : st.getD q false = true) (j : Nat) => namedK_mid (gs := gs) (j := j) hlt h
          obtain ⟨b3, o3, rfl, hb3, hc3⟩ := (HR3.out.below hb).row (fun _ => rfl) (k := q) (by rw [HL3.out]; exact hlt) HL3.out
          have d3 := hc3 0 (by omega)
          have hg3 : st.getD q false = st[q]'(by rw [HL3.out]; exact hlt) := by rw [List.getD_eq_getElem?_getD, List.getElem?_eq_getElem (by rw [HL3.out]; exact hlt)]; rfl
          simp only [encBl, Nat.add_zero, Nat.mul_one, List.getElem?_cons_zero] at d3
          rw [hg3] at hstep hmid
          clear hrg hgk hfk hc3 hg3
          generalize (gs.getD q zG).AI = AI at *
          generalize (gs.getD q zG).nI = nI at *
          generalize (gs.getD q zG).cI = cI at *
          generalize (gs.getD q zG).irqs = irqs at *
          generalize st[q]'(by rw [HL3.out]; exact hlt) = sk at *
          have D3 := Lib.hid (fun (W : World) (hW : Below w.heap.size w W) => (hW.cell (p := ⟨b3, o3 + q, none⟩) hb3).trans ((hb.cell (p := ⟨b3, o3 + q, none⟩) hb3).symm.trans d3))
          have HRw := Lib.hid (fun (W : World) (hW : Below wr.heap.size wr W) => HRi.out.below (hW.mono hb.size))
          clear d3
          cases sk
          case false =>
            have HN := Lib.hid (show namedK st gs (q + 1) = namedK st gs q by rw [hstep]; simp)
            clear hstep hmid
            go_wp2_with fail
            generalize hwr : wr = w4 at *
            clear hwr
            go_loopw [49] (fun i wi => ∃ j : Nat, j ≤ nI ∧ i = .int .i64 j ∧ Below w4.heap.size w4 wi) (fun i _ => nI - (intOf i).toNat)
            case atStart => exact ⟨0, by omega, rfl, Below.refl _ _⟩
            case round =>
              obtain ⟨j, hj, rfl, hbi⟩ := hrel
              by_cases hjl : j < nI
              · have hjl' : j < irqs.length := by rw [HLi.out]; exact hjl
                obtain ⟨b7, o7, rfl, hb7, hc7⟩ := (HRw.out wr hbi).row (fun _ => rfl) hjl' HLi.out
                have d0 := hc7 0 (by omega)
                have d1 := hc7 1 (by omega)
                have d2 := hc7 2 (by omega)
                simp only [encIq, Nat.add_zero, List.getElem?_cons_zero, List.getElem?_cons_succ] at d0 d1 d2
                have hbx := hb.trans (hbi.mono hb.size)
                have d3 := D3.out _ hbx
                have hz3 : b3 < wr.heap.size := Nat.lt_of_lt_of_le hb3 hbx.size
                clear hc7
                generalize irqs[j] = x at *
                go_wp2_with fail
                go_roundw
                case rel => exact ⟨j + 1, by omega, by go_num, bal hbi _⟩
                case measure => simp [intOf]; omega
              · obtain rfl : j = nI := by omega
                have hbx := hb.trans (hbi.mono hb.size)
                go_wp2_with fail
                go_roundw
                case rel => exact ⟨q + 1, by omega, by go_num, l', by rw [HN.out]; exact HK.out, own_kept ho hbi, hbx, hC.kept hbi⟩
                case measure => simp [intOf]; omega
          case true =>
            have HN := Lib.hid (show namedK st gs (q + 1) = namedK st gs q ++ irqs.map (fun x => (q, x)) by rw [hstep]; simp)
            have HM := Lib.hid (hmid rfl)
            clear hstep hmid
            go_wp2_with fail
            generalize hwr : wr = w4 at *
            clear hwr
            have HO2 := Lib.hid ho
            clear ho hcC
            go_loopw [49] (fun i wi => ∃ j : Nat, j ≤ nI ∧ i = .int .i64 j ∧ ∃ l2, runR (List.replicate k mR) (namedK st gs q ++ (irqs.take j).map (fun x => (q, x))) = some l2 ∧ wi.ownsRow (w.heap.size + 1) 58 3 (.slice A8 k c8) k (l2.flatMap encR) ∧ Below w.heap.size w wi ∧ Blk wi w.heap.size 33 #[.int .u32 ver, .slice (some ⟨b, o, none⟩) ng c, .slice A2 n2 c2]) (fun i _ => nI - (intOf i).toNat)
            case atStart => exact ⟨0, by omega, rfl, l', by simpa using HK.out, HO2.out, hb, hC⟩
            case round =>
              obtain ⟨j, hj, rfl, l2, hk2, ho2, hbi, hCi⟩ := hrel
              have HK2 := Lib.hid hk2
              have HL2 := Lib.hid (show l2.length = k by rw [runR_len hk2]; simp)
              clear hk2 HO2 hC
              by_cases hjl : j < nI
              · have hjl' : j < irqs.length := by rw [HLi.out]; exact hjl
                obtain ⟨b7, o7, hA7, hb7, hc7⟩ := HRi.out.row (fun _ => rfl) hjl' HLi.out
                have d0 := (hbi.cell (p := ⟨b7, o7 + j * 3 + 0, none⟩) hb7).trans ((hb.cell (p := ⟨b7, o7 + j * 3 + 0, none⟩) hb7).symm.trans (hc7 0 (by omega)))
                have d1 := (hbi.cell (p := ⟨b7, o7 + j * 3 + 1, none⟩) hb7).trans ((hb.cell (p := ⟨b7, o7 + j * 3 + 1, none⟩) hb7).symm.trans (hc7 1 (by omega)))
                have d2 := (hbi.cell (p := ⟨b7, o7 + j * 3 + 2, none⟩) hb7).trans ((hb.cell (p := ⟨b7, o7 + j * 3 + 2, none⟩) hb7).symm.trans (hc7 2 (by omega)))
                simp only [encIq, Nat.add_zero, List.getElem?_cons_zero, List.getElem?_cons_succ] at d0 d1 d2
                subst hA7
                have d3 := D3.out _ hbi
                have hz3 : b3 < wr.heap.size := Nat.lt_of_lt_of_le hb3 hbi.size
                have hz7 : b7 < wr.heap.size := Nat.lt_of_lt_of_le hb7 hbi.size
                have HT := Lib.hid (show namedK st gs q ++ (irqs.take (j + 1)).map (fun x => (q, x)) = (namedK st gs q ++ (irqs.take j).map (fun x => (q, x))) ++ [(q, irqs[j])] by
                  rw [List.take_succ_eq_append_getElem hjl', List.map_append, List.append_assoc]; rfl)
                have HS := Lib.hid (show runR (List.replicate k mR) (namedK st gs q ++ (irqs.take (j + 1)).map (fun x => (q, x))) = stepR l2 (q, irqs[j]) by rw [HT.out, runR_snoc, HK2.out]; rfl)
                have HE := Lib.hid (show stepR l2 (q, irqs[j]) = none → R = none from fun h => by
                  rw [← HRes.out]; exact runR_none (HM.out (j + 1)) (by rw [HS.out, h]))
                clear hc7 HT
                generalize irqs[j] = x at *
                obtain ⟨qn, qc, qe⟩ := x
                simp only at d0 d1 d2
                have hzz := hbi.size
                have hzC := hCi.lt
                by_cases q1 : qn < 0
                · have HNo := Lib.hid (HE.out (by rw [stepR, if_pos (.inl q1)]))
                  go_wp2_with fail
                  all_goals (go_ret2; rw [HNo.out]; exact ⟨rfl, bal hbi _⟩)
                · by_cases q2 : (k : Int) ≤ qn
                  · have HNo := Lib.hid (HE.out (by rw [stepR, if_pos (.inr (.inl (by rw [HL2.out]; exact q2)))]))
                    go_wp2_with fail
                    all_goals (go_ret2; rw [HNo.out]; exact ⟨rfl, bal hbi _⟩)
                  · obtain ⟨m, rfl⟩ := Int.eq_ofNat_of_zero_le (show 0 ≤ qn by omega)
                    have hm : m < k := by omega
                    obtain ⟨gl, cl, hv, hgl⟩ := own_le ho2 (by omega)
                    injection hv with hA8 _ hc8
                    subst hA8 hc8
                    have c0 := ho2.cellAt (m * 3) (by omega)
                    have c1 := ho2.cellAt (m * 3 + 1) (by omega)
                    have c2' := ho2.cellAt (m * 3 + 2) (by omega)
                    have hj' : m < l2.length := by rw [HL2.out]; exact hm
                    have e0 := flatMap_get (enc := encR) (s := 3) (fun _ => rfl) l2 m 0 (by omega) hj'
                    have e1 := flatMap_get (enc := encR) (s := 3) (fun _ => rfl) l2 m 1 (by omega) hj'
                    have e2 := flatMap_get (enc := encR) (s := 3) (fun _ => rfl) l2 m 2 (by omega) hj'
                    rw [Nat.add_zero] at e0
                    rw [e0] at c0
                    rw [e1] at c1
                    rw [e2] at c2'
                    have hgd : l2.getD m zR = l2[m] := by rw [List.getD_eq_getElem?_getD, List.getElem?_eq_getElem hj']; rfl
                    simp only [encR, List.getElem?_cons_zero, List.getElem?_cons_succ] at c0 c1 c2'
                    have hfz := ho2.frozenAt
                    have HHO := Lib.hid ((row_set3 HL2.out ho2 m hm ⟨q, qc, qe⟩).alloc (.cells #[.int .i64 m, .int .i64 qc, .bool qe] 56))
                    have hgl4 := (own_lt ho2 (k := gl) (by simp [Value.ownBlock])).2
                    have hSN : ∀ (h : ¬ (0 ≤ (l2[m]).own ∨ qc < 0 ∨ 32 ≤ qc)), stepR l2 (q, ⟨(m : Int), qc, qe⟩) = some (l2.set m ⟨q, qc, qe⟩) := fun h => by
                      rw [stepR, if_neg]
                      · rfl
                      · rintro (h1 | h1 | h1)
                        · exact q1 h1
                        · rw [HL2.out] at h1; exact q2 h1
                        · rw [Int.toNat_natCast, hgd] at h1; exact h h1
                    have hSE : ∀ (h : 0 ≤ (l2[m]).own ∨ qc < 0 ∨ 32 ≤ qc), stepR l2 (q, ⟨(m : Int), qc, qe⟩) = none := fun h => by
                      rw [stepR, if_pos (.inr (.inr (by rw [Int.toNat_natCast, hgd]; exact h)))]
                    clear e0 e1 e2 hgd ho2
                    generalize l2[m] = old at *
                    by_cases q3 : 0 ≤ old.own
                    · have HNo := Lib.hid (HE.out (hSE (.inl q3)))
                      clear hSN hSE
                      go_wp2_with fail
                      all_goals (go_ret2; rw [HNo.out]; exact ⟨rfl, bal hbi _⟩)
                    · by_cases q4 : qc < 0
                      · have HNo := Lib.hid (HE.out (hSE (.inr (.inl q4))))
                        clear hSN hSE
                        go_wp2_with fail
                        all_goals (go_ret2; rw [HNo.out]; exact ⟨rfl, bal hbi _⟩)
                      · by_cases q5 : 32 ≤ qc
                        · have HNo := Lib.hid (HE.out (hSE (.inr (.inr q5))))
                          have q6 : 31 < qc := by omega
                          clear hSN hSE
                          go_wp2_with fail
                          all_goals (go_ret2; rw [HNo.out]; exact ⟨rfl, bal hbi _⟩)
                        · have q6 : ¬ 31 < qc := by omega
                          have HY := Lib.hid (show runR (List.replicate k mR) (namedK st gs q ++ (irqs.take (j + 1)).map (fun x => (q, x))) = some (l2.set m ⟨q, qc, qe⟩) by rw [HS.out, hSN (by omega)])
                          clear hSN hSE HE
                          go_wp2_with fail
                          go_roundw
                          case rel => exact ⟨j + 1, by omega, by go_num, _, HY.out, HHO.out, bal (((hbi.setCell (p := ⟨gl, m * 3, none⟩) (by simp; omega) _).setCell (p := ⟨gl, m * 3 + 1, none⟩) (by simp; omega) _).setCell (p := ⟨gl, m * 3 + 2, none⟩) (by simp; omega) _) _, (((hCi.far (p := ⟨gl, m * 3, none⟩) (by simp; omega) _).far (p := ⟨gl, m * 3 + 1, none⟩) (by simp; omega) _).far (p := ⟨gl, m * 3 + 2, none⟩) (by simp; omega) _).alloc _⟩
                          case measure => simp [intOf]; omega
              · obtain rfl : j = nI := by omega
                have HN3 := Lib.hid (show runR (List.replicate k mR) (namedK st gs (q + 1)) = some l2 by
                  rw [HN.out, ← HK2.out, List.take_of_length_le (by rw [HLi.out]; exact Nat.le_refl _)])
                go_wp2_with fail
                go_roundw
                case rel => exact ⟨q + 1, by omega, by go_num, l2, HN3.out, ho2, hbi, hCi⟩
                case measure => simp [intOf]; omega
        · obtain rfl : q = ng := by omega
          have HF2 := Lib.hid (show R = some l' by rw [← HRes.out]; exact HK.out)
          obtain ⟨A9, c9, hA9, _, hr9⟩ := own_slice ho
          injection hA9 with hA9 _ hc9
          subst hA9 hc9
          go_wp2
          go_ret2
          rw [HF2.out]
          exact ⟨⟨_, _, rfl, HLt.out, hr9⟩, hb⟩

set_option maxHeartbeats 2000000 in
theorem sameRoutes_eq (A A2 : Option Addr) (n c c2 : Nat) (l : List Rt) (w : World) (hl : l.length = n) (hn : n ≤ 1000000) (hr : Rd w w.heap.size 3 A n (l.flatMap encR)) (hr2 : Rd w w.heap.size 3 A2 n (l.flatMap encR)) :
    Calls Try.prog 18 #[.slice A n c, .slice A2 n c2] w fun e w' => e = .returned (.bool true) ∧ Below w.heap.size w w' := by
  have HL := Lib.hid hl
  have HR := Lib.hid hr
  have HR2 := Lib.hid hr2
  clear hl hr hr2
  go_enter Try.func18, Try.ntmps18
  go_wp2
  go_loopw [5, 13] (fun _ i wr => ∃ k : Nat, k ≤ n ∧ i = .int .i64 k ∧ Below w.heap.size w wr) (fun _ i _ => n - (intOf i).toNat)
  case atStart => exact ⟨0, by omega, rfl, Below.refl _ _⟩
  case round =>
    obtain ⟨k, hk, rfl, hbr⟩ := hrel
    by_cases hlt : k < n
    · have hlt' : k < l.length := by rw [HL.out]; exact hlt
      obtain ⟨b1, o1, rfl, hb1, hc1⟩ := (HR.out.below hbr).row (fun _ => rfl) hlt' HL.out
      obtain ⟨b2, o2, rfl, hb2, hc2⟩ := (HR2.out.below hbr).row (fun _ => rfl) hlt' HL.out
      have d0 := hc1 0 (by omega)
      have d1 := hc1 1 (by omega)
      have d2 := hc1 2 (by omega)
      have e0 := hc2 0 (by omega)
      have e1 := hc2 1 (by omega)
      have e2 := hc2 2 (by omega)
      simp only [encR, Nat.add_zero, List.getElem?_cons_zero, List.getElem?_cons_succ] at d0 d1 d2 e0 e1 e2
      clear hc1 hc2
      generalize l[k] = s at *
      have hq : ∀ w, (binOp .neq 58 (.agg #[.int .i64 s.own, .int .i64 s.cpu, .bool s.edge]) (.agg #[.int .i64 s.own, .int .i64 s.cpu, .bool s.edge])).run Try.prog w = .ok (.bool false) w := fun w => by rw [route_neq]; simp
      go_wp2
      go_quiet (fail)
      go_wp2
      go_roundw
      case rel => exact ⟨k + 1, by omega, by go_num, below_drewN hbr _⟩
      case measure => simp [intOf]; omega
    · go_wp2
      go_ret
      exact ⟨rfl, hbr⟩
end Go.Proofs.Ytnhlcfkjhacedaa
