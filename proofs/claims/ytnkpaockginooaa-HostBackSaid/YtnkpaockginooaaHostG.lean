/- The board of a tree: a number's property, a span's; the program's and the document's; walked. -/
import Derived.Test.YtnkpaockginooaaHostF
import Derived.Test.YtnkpaockginooaaWordGet
import Derived.Test.YtnkpaockginooaaTreeE
namespace Go.Proofs.Ytnkpaockginooaa
set_option linter.unusedVariables false
set_option linter.unusedSimpArgs false
open Go.RowKit Go.Sort

/-- The number of the first property of a name with 4 bytes; the two numbers of a node's one property. -/
def pnum (s : ByteArray) : List Pr → Option Int
  | [] => none
  | p :: ps => if p.1 = s ∧ p.2.length = 4 then some (numB p.2) else pnum s ps
def pspan (t : Tr) : Option (Int × Int) :=
  match t.ps with
  | [p] => if p.2.length = 16 then some (numB (p.2.take 8), numB (p.2.drop 8)) else none
  | _ => none
theorem pnum_yes {s : ByteArray} {p : Pr} {ps : List Pr} (h1 : p.1 = s) (h2 : p.2.length = 4) : pnum s (p :: ps) = some (numB p.2) := by simp [pnum, h1, h2]
theorem pnum_no {s : ByteArray} {p : Pr} {ps : List Pr} (h : ¬ (p.1 = s ∧ p.2.length = 4)) : pnum s (p :: ps) = pnum s ps := by rw [pnum, if_neg h]
set_option maxRecDepth 100000 in
set_option maxHeartbeats 2000000 in
theorem hnumber_any (g : Nat) (cs : Array Value) (hcs : cs.size = 8) (k : Nat) (t : Tr) (tcs : List Value) (s : ByteArray) (w : World) (hB : Blk w g 94 cs) (ht : TrOk w w.heap.size k t tcs) :
    Calls Try.prog 46 #[.pointer (some ⟨g, 0, none⟩), .agg tcs.toArray, .string s] w fun e w' => e = .returned (.int .i64 ((pnum s t.ps).getD 0)) ∧ Blk w' g 94 (if (pnum s t.ps).isSome = true then cs else cs.setIfInBounds 7 (.bool true)) ∧ Near (fun i => i = g) w w' := by
  match k, ht with
  | k + 1, ht =>
  obtain ⟨h0, A1, c1, A2, c2, f, g', rfl, h2, h3, h4, h5, h6, h7, h8, h9⟩ := ht
  have HF := Lib.hid h6
  have HP := Lib.hid h8
  obtain ⟨np, hnp⟩ : ∃ np, t.ps.length = np := ⟨_, rfl⟩
  rw [hnp] at h2 HF ⊢
  have HNp := Lib.hid hnp
  generalize t.nm = nm at *
  generalize t.ks.length = nk at *
  unfold maxLen at h3 h5
  obtain ⟨pn, hpn⟩ : ∃ pn, pnum s t.ps = pn := ⟨_, rfl⟩
  rw [hpn]
  have HPN := Lib.hid hpn
  clear h6 h7 h8 h9 h0 hnp hpn
  have hgl := hB.lt
  have hB1 := hB.alloc (.cells #[.string nm, .slice A1 np c1, .slice A2 nk c2] 25)
  have hb1 := bal (Below.refl w.heap.size w) (.cells #[.string nm, .slice A1 np c1, .slice A2 nk c2] 25)
  go_enter Try.func46, Try.ntmps46
  go_wp2_with fail
  generalize w.alloc (.cells #[.string nm, .slice A1 np c1, .slice A2 nk c2] 25) = w1 at *
  go_loopw [14] (fun i wr => ∃ j : Nat, j ≤ np ∧ i = .int .i64 j ∧ Hid (pnum s (t.ps.drop j) = pn) ∧ Below w1.heap.size w1 wr) (fun i _ => np - (intOf i).toNat)
  case atStart => exact ⟨0, by omega, rfl, Lib.hid (by simpa using HPN.out), Below.refl _ _⟩
  case round =>
    obtain ⟨j, hj, rfl, hq, hbr⟩ := hrel
    have hbw := hb1.trans (hbr.mono hb1.size)
    by_cases hlt : j < np
    · obtain ⟨p, hp⟩ : ∃ p, t.ps[j]? = some p := ⟨_, List.getElem?_eq_getElem (by rw [HNp.out]; exact hlt)⟩
      have hdrop : t.ps.drop j = p :: t.ps.drop (j + 1) := by
        rw [List.drop_eq_getElem_cons (by rw [HNp.out]; exact hlt)]
        congr 1
        exact (List.getElem?_eq_some_iff.1 hp).2
      have HD := Lib.hid hdrop
      obtain ⟨_, hbok, Ap, cp, hfj, hcp1, hcp2, hrd⟩ := HP.out j p hp
      obtain ⟨b1, o1, rfl, hbk, hc1⟩ := HF.out (by omega)
      have x0 := (hbw.cell (p := ⟨b1, o1 + (j * 2 + 0), none⟩) hbk).trans (hc1 j hlt 0 (by omega))
      have x1 := (hbw.cell (p := ⟨b1, o1 + (j * 2 + 1), none⟩) hbk).trans (hc1 j hlt 1 (by omega))
      rw [hfj] at x0 x1
      simp only [Nat.add_zero, ← Nat.add_assoc, List.getElem?_cons_zero, List.getElem?_cons_succ] at x0 x1
      clear hc1 hfj hp hdrop
      have HRd := Lib.hid ((hrd.below hbw).more hbw.size)
      have HBk := Lib.hid hbok
      clear hrd hbok
      obtain ⟨pnm, pb⟩ := p
      simp only at x0 x1 hcp1 HRd HBk
      unfold maxLen at hcp2
      by_cases z0 : pnm = s
      · subst z0
        by_cases z1 : pb.length = 4
        · have hbe := Lib.hid (fun W (hW : Below wr.heap.size wr W) => be32_yes Ap 4 cp pb 0 W z1 HBk.out (by decide) (by decide) (by have := HRd.out.kept hW; rw [z1] at this; exact this))
          have htk : (pb.drop 0).take 4 = pb := by rw [List.drop_zero]; exact List.take_of_length_le (by omega)
          rw [htk] at hbe
          obtain ⟨y0, y1⟩ := numB_bd 4 pb z1 HBk.out
          rw [z1] at x1
          have e9 : pn = some (numB pb) := by
            rw [← hq.out, HD.out]
            exact pnum_yes rfl z1
          obtain ⟨y, hy⟩ : ∃ y, numB pb = y := ⟨_, rfl⟩
          rw [hy] at e9 hbe y0 y1
          subst e9
          clear HRd HBk htk z1 hy
          have y1' : y < 4294967296 := by simpa using y1
          clear y1
          go_wp2_with (go_at_call 62; refine (hbe.out _ (bal (Below.refl _ _) _)).mono ?_; rintro e w5 ⟨rfl, rfl⟩)
          go_ret
          have hb9 := hbw.trans ((bal (Below.refl _ wr) (.cells #[.string pnm, .slice Ap 4 cp] 88)).mono hbw.size)
          exact ⟨rfl, hB.kept hb9, Near.of_below _ hb9⟩
        · have z2 : ((pb.length : Int) == 4) = false := by simpa using (show ¬ (pb.length : Int) = 4 by omega)
          have hq2 : pnum pnm (t.ps.drop (j + 1)) = pn := by
            rw [← hq.out, HD.out]
            exact (pnum_no (fun h => z1 h.2)).symm
          have HQ := Lib.hid hq2
          clear hq2
          go_wp2_with fail
          go_roundw
          case rel => exact ⟨j + 1, by omega, by go_num, HQ, bal' hbr _ hbr.size⟩
          case measure => simp [intOf]; omega
      · have z2 := baL z0
        have hq2 : pnum s (t.ps.drop (j + 1)) = pn := by
          rw [← hq.out, HD.out]
          exact (pnum_no (fun h => z0 h.1)).symm
        have HQ := Lib.hid hq2
        clear hq2
        go_wp2_with fail
        go_roundw
        case rel => exact ⟨j + 1, by omega, by go_num, HQ, bal' hbr _ hbr.size⟩
        case measure => simp [intOf]; omega
    · obtain rfl : j = np := by omega
      have e9 : pn = none := by
        rw [← hq.out, List.drop_of_length_le (by rw [HNp.out]; exact Nat.le_refl _)]
        rfl
      subst e9
      have hB2 := hB1.kept hbr
      have hc2 := hB2.cell
      have hf2 := hB2.frozen
      have hc7 : ∃ u, cs[7]? = some u := ⟨_, Array.getElem?_eq_getElem (by rw [hcs]; decide)⟩
      obtain ⟨u, hu⟩ := hc7
      have hc8 := (hc2 7).trans hu
      go_wp2_with fail
      go_ret
      exact ⟨rfl, hB2.set_ 7 _, (Near.of_below (fun i => i = g) hbw).setCell (p := ⟨g, 7, none⟩) rfl _⟩
theorem Near.cut {S S' : Nat → Prop} {a b : World} (h : Near S' a b) (hs : ∀ i, i < a.heap.size → S' i → S i) : Near S a b := ⟨h.os, h.tape, h.output, h.size, fun i hi hn => h.block i hi (fun h' => hn (hs i hi h'))⟩
theorem pspan_no {t : Tr} (h : t.ps.length ≠ 1) : pspan t = none := by
  unfold pspan
  match hps : t.ps with
  | [] => rfl
  | [p] => rw [hps] at h; exact absurd rfl h
  | p :: q :: l => rfl
set_option maxRecDepth 100000 in
set_option maxHeartbeats 2000000 in
theorem hspan_any (g : Nat) (cs : Array Value) (hcs : cs.size = 8) (k : Nat) (t : Tr) (tcs : List Value) (w : World) (hB : Blk w g 94 cs) (ht : TrOk w w.heap.size k t tcs) :
    Calls Try.prog 47 #[.pointer (some ⟨g, 0, none⟩), .agg tcs.toArray] w fun e w' => e = .returned (.agg #[.int .u64 ((pspan t).getD (0, 0)).1, .int .u64 ((pspan t).getD (0, 0)).2]) ∧ Blk w' g 94 (if (pspan t).isSome = true then cs else cs.setIfInBounds 7 (.bool true)) ∧ Near (fun i => i = g) w w' := by
  match k, ht with
  | k + 1, ht =>
  obtain ⟨h0, A1, c1, A2, c2, f, g', rfl, h2, h3, h4, h5, h6, h7, h8, h9⟩ := ht
  obtain ⟨np, hnp⟩ : ∃ np, t.ps.length = np := ⟨_, rfl⟩
  rw [hnp] at h2 h6 ⊢
  obtain ⟨pn, hpn⟩ : ∃ pn, pspan t = pn := ⟨_, rfl⟩
  rw [hpn]
  generalize t.nm = nm at *
  generalize t.ks.length = nk at *
  unfold maxLen at h3 h5
  have hgl := hB.lt
  have hBs := (hB.alloc (.cells #[.string nm, .slice A1 np c1, .slice A2 nk c2] 25)).alloc (.cells #[.int .u64 0, .int .u64 0] 37)
  have hbs := bal (bal (Below.refl w.heap.size w) (.cells #[.string nm, .slice A1 np c1, .slice A2 nk c2] 25)) (.cells #[.int .u64 0, .int .u64 0] 37)
  have hTs := (Blk.new w 25 #[.string nm, .slice A1 np c1, .slice A2 nk c2]).alloc (.cells #[.int .u64 0, .int .u64 0] 37)
  have hRs := Blk.fresh (w.alloc (.cells #[.string nm, .slice A1 np c1, .slice A2 nk c2] 25)) 37 #[.int .u64 0, .int .u64 0] (g := w.heap.size + 1)
  have hc7 : ∃ u, cs[7]? = some u := ⟨_, Array.getElem?_eq_getElem (by rw [hcs]; decide)⟩
  obtain ⟨u7, hu7⟩ := hc7
  by_cases hn1 : np = 1
  · subst hn1
    obtain ⟨p, hps⟩ : ∃ p, t.ps = [p] := by
      match hps : t.ps, hnp with
      | [p], _ => exact ⟨p, rfl⟩
    have hp0 : t.ps[0]? = some p := by rw [hps]; rfl
    obtain ⟨_, hbok, Ap, cp, hfj, hcp1, hcp2, hrd⟩ := h8 0 p hp0
    obtain ⟨b1, o1, rfl, hbk, hc1⟩ := h6 (by decide)
    have x0 := hc1 0 (by decide) 0 (by decide)
    have x1 := hc1 0 (by decide) 1 (by decide)
    rw [hfj] at x0 x1
    simp only [Nat.zero_mul, Nat.zero_add, Nat.add_zero, List.getElem?_cons_zero, List.getElem?_cons_succ] at x0 x1
    clear hc1 hfj hp0 h8 h9 h6 h7
    have HRd := Lib.hid (fun W (hW : Below w.heap.size w W) => hrd.kept hW)
    have HBk := Lib.hid hbok
    obtain ⟨pnm, pb⟩ := p
    simp only at x0 x1 hcp1 hcp2 HRd HBk
    have y1 := (hbs.cell (p := ⟨b1, o1 + 1, none⟩) hbk).trans x1
    clear hrd hbok
    unfold maxLen at hcp2
    have HPs := Lib.hid hps
    clear hps hnp
    go_enter Try.func47, Try.ntmps47
    go_upto_region 1 with (fail)
    have hbs2 := hbs
    generalize (w.alloc (.cells #[.string nm, .slice (some ⟨b1, o1, none⟩) 1 c1, .slice A2 nk c2] 25)).alloc (.cells #[.int .u64 0, .int .u64 0] 37) = w1 at *
    have cT := hTs.cell
    by_cases z1 : pb.length = 16
    · have e9 : pn = some (numB (pb.take 8), numB (pb.drop 8)) := by
        rw [← hpn]
        unfold pspan
        rw [HPs.out]
        simp [z1]
      have hrd := HRd.out _ hbs
      rw [z1] at hrd y1
      have hbe1 := Lib.hid (be64_yes Ap 16 cp pb 0 w1 z1 HBk.out (by decide) (by decide) hrd)
      have hbe2 := Lib.hid (be64_yes Ap 16 cp pb 8 w1 z1 HBk.out (by decide) (by decide) hrd)
      rw [List.drop_zero, show ((0 : Nat) : Int) = 0 from rfl] at hbe1
      rw [show ((8 : Nat) : Int) = 8 from rfl] at hbe2
      rw [show (pb.drop 8).take 8 = pb.drop 8 from List.take_of_length_le (by rw [List.length_drop]; omega)] at hbe2
      obtain ⟨q1, hq1⟩ : ∃ y, numB (pb.take 8) = y := ⟨_, rfl⟩
      obtain ⟨q2, hq2⟩ : ∃ y, numB (pb.drop 8) = y := ⟨_, rfl⟩
      rw [hq1, hq2] at e9
      rw [hq1] at hbe1
      rw [hq2] at hbe2
      subst e9
      clear HRd HBk z1 hq1 hq2 hrd hpn
      have cR := hRs.cell
      have fR := hRs.frozen
      go_wp2_with (first | (go_at_call 89; with_reducible refine (hbe1.out).mono ?_; rintro e w5 ⟨rfl, rfl⟩) | (go_at_call 89; with_reducible refine (hbe2.out).mono ?_; rintro e w5 ⟨rfl, rfl⟩))
      have cZ := ((hRs.set_ 0 (.int .u64 q1)).set_ 1 (.int .u64 q2)).cell
      have hbz := (hbs.setCell (p := ⟨w.heap.size + 1, 0, none⟩) (by simp) (.int .u64 q1)).setCell (p := ⟨w.heap.size + 1, 1, none⟩) (by simp) (.int .u64 q2)
      exact bodyPost_ret (v := .agg #[.int .u64 q1, .int .u64 q2]) (by simp [results, Try.results47, go_sem, cZ]) rfl ⟨rfl, hB.kept hbz, Near.of_below _ hbz⟩
    · have e9 : pn = none := by
        rw [← hpn]
        unfold pspan
        rw [HPs.out]
        simp [z1]
      subst e9
      have z2 : ((pb.length : Int) != 16) = true := by simpa using (show ¬ (pb.length : Int) = 16 by omega)
      have cB := hBs.cell
      have fB := hBs.frozen
      have cB7 := (cB 7).trans hu7
      have hB1 := hBs.set_ 7 (.bool true)
      have hR1 := hRs.far (p := ⟨g, 7, none⟩) (by simp; omega) (.bool true)
      have cR := hR1.cell
      have fR := hR1.frozen
      have cZ := ((hR1.set_ 0 (.int .u64 0)).set_ 1 (.int .u64 0)).cell
      have hnr := (((Near.of_below (fun i => i = g ∨ w.heap.size ≤ i) hbs).setCell (p := ⟨g, 7, none⟩) (.inl rfl) (.bool true)).setCell (p := ⟨w.heap.size + 1, 0, none⟩) (.inr (by simp)) (.int .u64 0)).setCell (p := ⟨w.heap.size + 1, 1, none⟩) (.inr (by simp)) (.int .u64 0)
      have hnc := hnr.cut (S := fun i => i = g) (fun i hi h => h.elim id (fun h => absurd hi (by omega)))
      have hBz := (hB1.far (p := ⟨w.heap.size + 1, 0, none⟩) (by simp; omega) (.int .u64 0)).far (p := ⟨w.heap.size + 1, 1, none⟩) (by simp; omega) (.int .u64 0)
      clear HRd HBk hnr hB1 hR1
      go_wp2_with fail
      exact bodyPost_ret (v := .agg #[.int .u64 0, .int .u64 0]) (by simp [results, Try.results47, go_sem, cZ]) rfl ⟨rfl, hBz, hnc⟩
  · have e9 : pn = none := by
      rw [← hpn]
      exact pspan_no (by rw [hnp]; exact hn1)
    subst e9
    have z2 : ((np : Int) != 1) = true := by simpa using (show ¬ (np : Int) = 1 by omega)
    clear h6 h7 h8 h9 hnp hpn hn1
    go_enter Try.func47, Try.ntmps47
    go_upto_region 1 with (fail)
    generalize (w.alloc (.cells #[.string nm, .slice A1 np c1, .slice A2 nk c2] 25)).alloc (.cells #[.int .u64 0, .int .u64 0] 37) = w1 at *
    have cT := hTs.cell
    have cB := hBs.cell
    have fB := hBs.frozen
    have cB7 := (cB 7).trans hu7
    have hB1 := hBs.set_ 7 (.bool true)
    have hR1 := hRs.far (p := ⟨g, 7, none⟩) (by simp; omega) (.bool true)
    have cR := hR1.cell
    have fR := hR1.frozen
    have cZ := ((hR1.set_ 0 (.int .u64 0)).set_ 1 (.int .u64 0)).cell
    have hnr := (((Near.of_below (fun i => i = g ∨ w.heap.size ≤ i) hbs).setCell (p := ⟨g, 7, none⟩) (.inl rfl) (.bool true)).setCell (p := ⟨w.heap.size + 1, 0, none⟩) (.inr (by simp)) (.int .u64 0)).setCell (p := ⟨w.heap.size + 1, 1, none⟩) (.inr (by simp)) (.int .u64 0)
    have hnc := hnr.cut (S := fun i => i = g) (fun i hi h => h.elim id (fun h => absurd hi (by omega)))
    have hBz := (hB1.far (p := ⟨w.heap.size + 1, 0, none⟩) (by simp; omega) (.int .u64 0)).far (p := ⟨w.heap.size + 1, 1, none⟩) (by simp; omega) (.int .u64 0)
    clear hnr hB1 hR1
    go_wp2_with fail
    exact bodyPost_ret (v := .agg #[.int .u64 0, .int .u64 0]) (by simp [results, Try.results47, go_sem, cZ]) rfl ⟨rfl, hBz, hnc⟩
end Go.Proofs.Ytnkpaockginooaa
