/- Device trees: whether one is small; walked. -/
import Derived.Test.YtnkpaockginooaaTreeA
import Derived.BigQuiet
import Derived.Deep.CutRange
import Derived.Lib.QuietBelow
import Derived.Test.YtnkpaockginooaaRegH
namespace Go.Proofs.Ytnkpaockginooaa
set_option linter.unusedVariables false
set_option linter.unusedSimpArgs false
open Go.RowKit Go.Sort

set_option maxRecDepth 100000 in
set_option maxHeartbeats 2000000 in
theorem size_any : ∀ (k : Nat) (t : Tr) (cs : List Value) (n d : Int) (w : World), TrOk w w.heap.size k t cs →
    Calls Try.prog 34 #[.agg cs.toArray, .int .i64 n, .int .i64 d] w fun e w' => (∃ r : Int, e = .returned (.int .i64 r)) ∧ Below w.heap.size w w'
  | 0, _, _, _, _, _, h => h.elim
  | k + 1, t, cs, n, d, w, h => by
    have ih := size_any k
    have HT := Lib.hid h
    obtain ⟨h0, A1, c1, A2, c2, f, g, rfl, h2, h3, h4, h5, h6, h7, h8, h9⟩ := h
    have HF := Lib.hid h6
    have HG := Lib.hid h7
    have HP := Lib.hid h8
    have HK := Lib.hid h9
    have HI := Lib.hid ih
    obtain ⟨np, hnp⟩ : ∃ np, t.ps.length = np := ⟨_, rfl⟩
    obtain ⟨nk, hnk⟩ : ∃ nk, t.ks.length = nk := ⟨_, rfl⟩
    rw [hnp] at h2 HF HT ⊢
    rw [hnk] at h4 HG HT ⊢
    have HNp := Lib.hid hnp
    have HNk := Lib.hid hnk
    generalize t.nm = nm at *
    unfold maxLen at h3 h5
    clear h6 h7 h8 h9 ih h0 HT hnp hnk
    go_enter Try.func34, Try.ntmps34
    go_upto_region 2 with (fail)
    generalize wrap64 (n + wrap64 (1 + (np : Int))) = m at *
    have hT := Blk.new w 25 #[.string nm, .slice A1 np c1, .slice A2 nk c2]
    have hb := bal (Below.refl w.heap.size w) (.cells #[.string nm, .slice A1 np c1, .slice A2 nk c2] 25)
    generalize w.alloc (.cells #[.string nm, .slice A1 np c1, .slice A2 nk c2] 25) = w1 at *
    have cT := hT.cell
    by_cases q0 : 12 < d
    · have e0 : decide (12 < d) = true := decide_eq_true q0
      go_wp2
      go_ret
      exact ⟨⟨_, rfl⟩, hb⟩
    · have e0 : decide (12 < d) = false := decide_eq_false q0
      by_cases q1 : 400 < m
      · skip
        go_wp2
        go_ret
        exact ⟨⟨_, rfl⟩, hb⟩
      · skip
        by_cases q2 : 100 < nm.size
        · skip
          go_wp2
          go_ret
          exact ⟨⟨_, rfl⟩, hb⟩
        · skip
          by_cases q3 : 400 < nk
          · skip
            go_wp2
            go_ret
            exact ⟨⟨_, rfl⟩, hb⟩
          · skip
            go_wp2
            go_loopw [38] (fun i wr => ∃ j : Nat, j ≤ np ∧ i = .int .i64 j ∧ Below w1.heap.size w1 wr) (fun i _ => np - (intOf i).toNat)
            case atStart => exact ⟨0, by omega, rfl, Below.refl _ _⟩
            case round =>
              obtain ⟨j, hj, rfl, hbr⟩ := hrel
              have hbw := hb.trans (hbr.mono hb.size)
              clear cT
              by_cases hlt : j < np
              · obtain ⟨p, hp⟩ : ∃ p, t.ps[j]? = some p := ⟨_, List.getElem?_eq_getElem (by rw [HNp.out]; exact hlt)⟩
                obtain ⟨_, _, Ap, cp, hfj, hcp1, hcp2, _⟩ := HP.out j p hp
                obtain ⟨b1, o1, rfl, hbk, hc1⟩ := HF.out (by omega)
                have x0 := (hbw.cell (p := ⟨b1, o1 + (j * 2 + 0), none⟩) hbk).trans (hc1 j hlt 0 (by omega))
                have x1 := (hbw.cell (p := ⟨b1, o1 + (j * 2 + 1), none⟩) hbk).trans (hc1 j hlt 1 (by omega))
                rw [hfj] at x0 x1
                simp only [Nat.add_zero, ← Nat.add_assoc, List.getElem?_cons_zero, List.getElem?_cons_succ] at x0 x1
                clear hc1 hfj hp
                generalize p.2.length = pl at *
                obtain ⟨pn, pb⟩ := p
                simp only at x0
                unfold maxLen at hcp2
                by_cases z0 : 100 < pn.size
                · skip
                  go_wp2
                  go_ret
                  exact ⟨⟨_, rfl⟩, bal hbw _⟩
                · skip
                  by_cases z1 : 5000 < pl
                  · skip
                    go_wp2
                    go_ret
                    exact ⟨⟨_, rfl⟩, bal hbw _⟩
                  · skip
                    go_wp2
                    go_roundw
                    case rel => exact ⟨j + 1, by omega, by go_num, bal' hbr _ hbr.size⟩
                    case measure => simp [intOf]; omega
              · obtain rfl : j = np := by omega
                have cT := (hT.kept hbr).cell
                go_wp2
                go_loopw [1, 56] (fun mv i wr2 => ∃ (mm : Int) (j : Nat), j ≤ nk ∧ mv = .int .i64 mm ∧ i = .int .i64 j ∧ Below w.heap.size w wr2) (fun _ i _ => nk - (intOf i).toNat)
                case atStart => exact ⟨m, 0, by omega, rfl, rfl, hbw⟩
                case round =>
                  clear hbr hbw cT
                  obtain ⟨mm, i, hi, rfl, rfl, hbr⟩ := hrel
                  by_cases hlt : i < nk
                  · obtain ⟨kd, hkd⟩ : ∃ kd, t.ks[i]? = some kd := ⟨_, List.getElem?_eq_getElem (by rw [HNk.out]; exact hlt)⟩
                    have hK := HK.out i kd hkd
                    obtain ⟨b2, o2, rfl, hbk, hc2⟩ := HG.out (by omega)
                    have x0 := (hbr.cell (p := ⟨b2, o2 + (i * 3 + 0), none⟩) hbk).trans (hc2 i hlt 0 (by omega))
                    have x1 := (hbr.cell (p := ⟨b2, o2 + (i * 3 + 1), none⟩) hbk).trans (hc2 i hlt 1 (by omega))
                    have x2 := (hbr.cell (p := ⟨b2, o2 + (i * 3 + 2), none⟩) hbk).trans (hc2 i hlt 2 (by omega))
                    have hK2 := (hK.below hbr).more hbr.size
                    obtain ⟨sn, K1, n1, cc1, K2, n2, cc2, hv⟩ : ∃ (sn : ByteArray) (K1 : Option Addr) (n1 cc1 : Nat) (K2 : Option Addr) (n2 cc2 : Nat), g i = [.string sn, .slice K1 n1 cc1, .slice K2 n2 cc2] := by
                      cases k with
                      | zero => exact hK.elim
                      | succ k =>
                        obtain ⟨_, _, _, _, _, _, _, e, _⟩ := hK
                        exact ⟨_, _, _, _, _, _, _, e⟩
                    rw [hv] at x0 x1 x2 hK2
                    have HK2 := Lib.hid hK2
                    simp only [Nat.add_zero, ← Nat.add_assoc, List.getElem?_cons_zero, List.getElem?_cons_succ] at x0 x1 x2
                    clear hc2 hK hkd hv hK2
                    have hx := bal (Below.refl wr.heap.size wr) (.cells #[.string sn, .slice K1 n1 cc1, .slice K2 n2 cc2] 25)
                    have HX := Lib.hid hx
                    have hb6 := hbr.trans (hx.mono hbr.size)
                    have HC := Lib.hid (fun (r d : Int) => HI.out kd _ r d _ ((HK2.out.below hx).more hx.size))
                    clear hx HK2
                    go_upto_region 14 with (go_at_call 34; refine (HC.out _ _).mono ?_; rintro e w5 ⟨⟨r, rfl⟩, hb5⟩)
                    have hb7 := hb6.trans (hb5.mono hb6.size)
                    by_cases q5 : 400 < r
                    · go_wp2
                      go_ret
                      exact ⟨⟨_, rfl⟩, hb7⟩
                    · go_wp2
                      go_roundw
                      case rel => exact ⟨r, i + 1, by omega, rfl, by go_num, hb7⟩
                      case measure => simp [intOf]; omega
                  · go_wp2
                    go_ret
                    exact ⟨⟨_, rfl⟩, hbr⟩
end Go.Proofs.Ytnkpaockginooaa
