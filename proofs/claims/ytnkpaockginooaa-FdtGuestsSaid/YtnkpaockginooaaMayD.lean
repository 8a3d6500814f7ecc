/- The document's check, walked. -/
import Derived.Test.YtnkpaockginooaaMayA
import Derived.Test.YtnkpaockginooaaTreeC
namespace Go.Proofs.Ytnkpaockginooaa
set_option linter.unusedVariables false
set_option linter.unusedSimpArgs false
open Go.RowKit Go.Sort

theorem kidsF_count {g : Tr → Int × Int → Option (Int × Int)} (hg : ∀ t c c', g t c = some c' → c.1 + 1 ≤ c'.1) : ∀ (l : List Tr) (c c' : Int × Int), kidsF g l c = some c' → c.1 + l.length ≤ c'.1
  | [], c, c', h => by
    simp only [kidsF, Option.some.injEq] at h
    subst h
    simp
  | k :: l, c, c', h => by
    simp only [kidsF, Option.bind_eq_some_iff] at h
    obtain ⟨d, hd, hl⟩ := h
    have a := hg k c d hd
    have b := kidsF_count hg l d c' hl
    simp only [List.length_cons]
    omega
theorem mayF_count : ∀ (f : Nat) (t : Tr) (c c' : Int × Int), mayF f t c = some c' → c.1 + 1 ≤ c'.1
  | 0, _, _, _, h => by simp [mayF] at h
  | f + 1, t, c, c', h => by
    unfold mayF at h
    split at h
    · rw [Option.bind_eq_some_iff] at h
      obtain ⟨d, hd, h⟩ := h
      split at h
      · simp only [Option.some.injEq] at h
        subst h
        have a := kidsF_count (fun t c c' => mayF_count f t c c') t.ks _ d hd
        simp only at a
        omega
      · cases h
    · cases h
theorem nodup_snoc {α : Type} (l : List α) (x : α) (h : l.Nodup) (hx : x ∉ l) : (l ++ [x]).Nodup := by
  rw [List.nodup_append]
  exact ⟨h, by simp, fun a ha b hb => by
    rw [List.mem_singleton] at hb
    subst hb
    rintro rfl
    exact hx ha⟩
theorem dup_of {α β : Type} (l : List α) (g : α → β) (i j : Nat) (x y : α) (hi : l[i]? = some x) (hj : l[j]? = some y) (hlt : i < j) (he : g x = g y) : ¬ (l.map g).Nodup := by
  intro h
  rw [List.nodup_iff_pairwise_ne, List.pairwise_iff_getElem] at h
  obtain ⟨h1, rfl⟩ := List.getElem?_eq_some_iff.1 hi
  obtain ⟨h2, rfl⟩ := List.getElem?_eq_some_iff.1 hj
  have := h i j (by simpa using h1) (by simpa using h2) hlt
  simp only [List.getElem_map] at this
  exact this he
theorem not_mem_take {α β : Type} (l : List α) (g : α → β) (j : Nat) (x : β) (h : ∀ i y, i < j → l[i]? = some y → g y ≠ x) : x ∉ (l.take j).map g := by
  intro hm
  obtain ⟨y, hy, rfl⟩ := List.mem_map.1 hm
  obtain ⟨i, hi, rfl⟩ := List.getElem_of_mem hy
  rw [List.length_take] at hi
  refine h i _ (by omega) (List.getElem?_eq_getElem (by omega)) ?_
  simp
set_option maxRecDepth 100000 in
set_option maxHeartbeats 4000000 in
theorem rcheck_any : ∀ (f k : Nat) (t : Tr) (cs : List Value) (at_ n p : Int) (gc B : Nat) (w : World), f ≤ 8 → at_ = 9 - f → TrOk w B k t cs → LensF k t → B ≤ gc → Blk w gc 86 #[.int .i64 n, .int .i64 p] → 0 ≤ n → n ≤ 200 → 0 ≤ p → p ≤ 1000 →
    Calls Try.prog 41 #[.pointer (some ⟨gc, 0, none⟩), .agg cs.toArray, .int .i64 at_] w (MayP 86 f t n p gc w) := by
  intro f
  induction f with
  | zero =>
    intro k t cs at_ n p gc B w hf hat hT hL hBg hB hn0 hn2_ hp0 hp2
    cases k with
    | zero => exact hT.elim
    | succ k =>
      have HB := Lib.hid hB
      have hlt := hB.lt
      have HT := Lib.hid hT
      obtain ⟨h0, A1, c1, A2, c2, rowF, rowG, rfl, h2, h3, h4, h5, h6, h7, h8, h9⟩ := hT
      obtain ⟨l1, l2, l3, l4, l5⟩ := hL
      have HF := Lib.hid h6
      have HG := Lib.hid h7
      have HP := Lib.hid h8
      have HK := Lib.hid h9
      have HLp := Lib.hid l4
      have HLk := Lib.hid l5
      obtain ⟨np, hnp⟩ : ∃ np, t.ps.length = np := ⟨_, rfl⟩
      obtain ⟨nk, hnk⟩ : ∃ nk, t.ks.length = nk := ⟨_, rfl⟩
      obtain ⟨nm, hnm⟩ : ∃ nm, t.nm = nm := ⟨_, rfl⟩
      rw [hnp] at h2 HF l2 ⊢
      rw [hnk] at h4 HG l3 ⊢
      rw [hnm] at l1 ⊢
      have HNp := Lib.hid hnp
      have HNk := Lib.hid hnk
      have HNm := Lib.hid hnm
      have cB := (hB.alloc (.cells #[.string nm, .slice A1 np c1, .slice A2 nk c2] 25)).cell
      have fB := (hB.alloc (.cells #[.string nm, .slice A1 np c1, .slice A2 nk c2] 25)).frozen
      unfold maxLen at h3 h5
      clear h6 h7 h8 h9 h0 hB hnp hnk hnm l4 l5
      go_enter Try.func41, Try.ntmps41
      go_upto_region 2 with (fail)
      refine wp_name ?_
      intro w1 hw1
      have hB1 : Blk w1 gc 86 #[.int .i64 (n + 1), .int .i64 p] := by rw [hw1]; exact (HB.out.set_ 0 (.int .i64 (n + 1))).alloc _
      have hT1 : Blk w1 w.heap.size 25 #[.string nm, .slice A1 np c1, .slice A2 nk c2] := by rw [hw1]; exact Blk.fresh _ _ _ (by simp)
      have hn1 : Near (fun i => i = gc) w w1 := by rw [hw1]; exact (Near.setCell (Near.refl (fun i => i = gc) w) (p := ⟨gc, 0, none⟩) rfl (.int .i64 (n + 1))).alloc _
      clear hw1
      clear cB fB
      have cB := hB1.cell
      have fB := hB1.frozen
      have cT := hT1.cell
      have hrw : wrap64 (p + (np : Int)) = p + np := by unfold wrap64; omega
      go_region
      have hB2 := (hB1.set_ 1 (.int .i64 (p + np))).drew
      have hT2 := (hT1.far (p := ⟨gc, 1, none⟩) (by first | omega | (simp; omega) | (simp only; omega)) (.int .i64 (p + np))).drew
      have hn2 := (hn1.setCell (p := ⟨gc, 1, none⟩) rfl (.int .i64 (p + np))).drew
      generalize (w1.setCell ⟨gc, 1, none⟩ (.int .i64 (p + np))).drew = w2 at *
      clear cB fB cT hB1 hT1 hn1 hrw
      have cB := hB2.cell
      have cT := hT2.cell
      have e0 : decide (8 < at_) = true := decide_eq_true (by omega)
      go_wp2_with fail
      go_ret
      exact MayP.no rfl hn2
  | succ f ih =>
    intro k t cs at_ n p gc B w hf hat hT hL hBg hB hn0 hn2_ hp0 hp2
    cases k with
    | zero => exact hT.elim
    | succ k =>
      have IH := Lib.hid (ih k)
      clear ih
      have hatl : at_ ≤ 9 - ((f : Int) + 1) := by omega
      have hatg : 9 - ((f : Int) + 1) ≤ at_ := by omega
      clear hat
      have HB := Lib.hid hB
      have hlt := hB.lt
      have HT := Lib.hid hT
      obtain ⟨h0, A1, c1, A2, c2, rowF, rowG, rfl, h2, h3, h4, h5, h6, h7, h8, h9⟩ := hT
      obtain ⟨l1, l2, l3, l4, l5⟩ := hL
      have HF := Lib.hid h6
      have HG := Lib.hid h7
      have HP := Lib.hid h8
      have HK := Lib.hid h9
      have HLp := Lib.hid l4
      have HLk := Lib.hid l5
      obtain ⟨np, hnp⟩ : ∃ np, t.ps.length = np := ⟨_, rfl⟩
      obtain ⟨nk, hnk⟩ : ∃ nk, t.ks.length = nk := ⟨_, rfl⟩
      obtain ⟨nm, hnm⟩ : ∃ nm, t.nm = nm := ⟨_, rfl⟩
      rw [hnp] at h2 HF l2 ⊢
      rw [hnk] at h4 HG l3 ⊢
      rw [hnm] at l1 ⊢
      have HNp := Lib.hid hnp
      have HNk := Lib.hid hnk
      have HNm := Lib.hid hnm
      have cB := (hB.alloc (.cells #[.string nm, .slice A1 np c1, .slice A2 nk c2] 25)).cell
      have fB := (hB.alloc (.cells #[.string nm, .slice A1 np c1, .slice A2 nk c2] 25)).frozen
      unfold maxLen at h3 h5
      clear h6 h7 h8 h9 h0 hB hnp hnk hnm l4 l5
      go_enter Try.func41, Try.ntmps41
      go_upto_region 2 with (fail)
      refine wp_name ?_
      intro w1 hw1
      have hB1 : Blk w1 gc 86 #[.int .i64 (n + 1), .int .i64 p] := by rw [hw1]; exact (HB.out.set_ 0 (.int .i64 (n + 1))).alloc _
      have hT1 : Blk w1 w.heap.size 25 #[.string nm, .slice A1 np c1, .slice A2 nk c2] := by rw [hw1]; exact Blk.fresh _ _ _ (by simp)
      have hn1 : Near (fun i => i = gc) w w1 := by rw [hw1]; exact (Near.setCell (Near.refl (fun i => i = gc) w) (p := ⟨gc, 0, none⟩) rfl (.int .i64 (n + 1))).alloc _
      clear hw1
      clear cB fB
      have cB := hB1.cell
      have fB := hB1.frozen
      have cT := hT1.cell
      have hrw : wrap64 (p + (np : Int)) = p + np := by unfold wrap64; omega
      go_region
      have hB2 := (hB1.set_ 1 (.int .i64 (p + np))).drew
      have hT2 := (hT1.far (p := ⟨gc, 1, none⟩) (by first | omega | (simp; omega) | (simp only; omega)) (.int .i64 (p + np))).drew
      have hn2 := (hn1.setCell (p := ⟨gc, 1, none⟩) rfl (.int .i64 (p + np))).drew
      generalize (w1.setCell ⟨gc, 1, none⟩ (.int .i64 (p + np))).drew = w2 at *
      clear cB fB cT hB1 hT1 hn1 hrw
      have cB := hB2.cell
      have cT := hT2.cell
      have e0 : decide (8 < at_) = false := decide_eq_false (by omega)
      by_cases q1 : 200 < n + 1
      · skip
        go_wp2_with fail
        go_ret
        exact MayP.no (mayF_no fun h => absurd h.1 (by omega)) hn2
      · skip
        by_cases q2 : 1000 < p + np
        · skip
          go_wp2_with fail
          go_ret
          exact MayP.no (mayF_no fun h => absurd h.2.1 (by rw [HNp.out]; omega)) hn2
        · skip
          by_cases hf7 : f = 7
          · have HF7 := Lib.hid hf7
            have a1 : (at_ == 1) = true := by simp; omega
            have a2 : decide (1 < at_) = false := decide_eq_false (by omega)
            by_cases hz : nm.size = 0
            · have hnmo : nmOk f nm = true := by unfold nmOk; simp [hz, hf7]
              have HNo := Lib.hid hnmo
              clear hf7
              have hse : nm.toList.isEmpty = true := by
                rw [ByteArray.toList_eq, List.isEmpty_iff]
                exact List.eq_nil_of_length_eq_zero hz
              clear hnmo
              go_wp2_with fail
              have HN3 := Lib.hid hn2
              go_loopw [68] (fun i wr => ∃ j : Nat, j ≤ np ∧ i = .int .i64 j ∧ Hid (∀ q ∈ t.ps.take j, prOk q = true) ∧ Hid ((t.ps.take j).map (·.1)).Nodup ∧ Below w2.heap.size w2 wr) (fun i _ => np - (intOf i).toNat)
              case atStart => exact ⟨0, by omega, rfl, by simp [Hid], by simp [Hid], Below.refl _ _⟩
              case round =>
                obtain ⟨j, hj, rfl, hq, hnd, hb⟩ := hrel
                have hbase := hb.size
                have hnr := HN3.out.trans (Near.of_below _ hb)
                have hBr : Below B w wr := hnr.below (fun i hi => by omega) (by omega)
                have hTr := hT2.kept hb
                clear cT cB
                by_cases hlj : j < np
                · obtain ⟨pr, hpr⟩ : ∃ q, t.ps[j]? = some q := ⟨_, List.getElem?_eq_getElem (by rw [HNp.out]; exact hlj)⟩
                  obtain ⟨hps, hpb, Ap, cp, hfj, hcp1, hcp2, _⟩ := HP.out j pr hpr
                  obtain ⟨b1, o1, rfl, hbk, hc1⟩ := HF.out (by omega)
                  have x0 := (hBr.cell (p := ⟨b1, o1 + (j * 2 + 0), none⟩) hbk).trans (hc1 j hlj 0 (by omega))
                  have x1 := (hBr.cell (p := ⟨b1, o1 + (j * 2 + 1), none⟩) hbk).trans (hc1 j hlj 1 (by omega))
                  rw [hfj] at x0 x1
                  simp only [Nat.add_zero, ← Nat.add_assoc, List.getElem?_cons_zero, List.getElem?_cons_succ] at x0 x1
                  have HC1 := Lib.hid hc1
                  have HPr := Lib.hid hpr
                  have hmem := List.mem_of_getElem? hpr
                  have hln := (HLp.out _ hmem).1
                  have htk : t.ps.take (j + 1) = t.ps.take j ++ [pr] := by
                    obtain ⟨hj', rfl⟩ := List.getElem?_eq_some_iff.1 hpr
                    exact List.take_succ_eq_append_getElem hj'
                  have HTk := Lib.hid htk
                  have HMem := Lib.hid hmem
                  clear hc1 hfj hpr htk hmem
                  obtain ⟨pn, pb⟩ := pr
                  simp only at x0 hln hps
                  obtain ⟨pl, hpl⟩ : ∃ pl, pb.length = pl := ⟨_, rfl⟩
                  simp only at x1 hcp1 hcp2 hpb
                  rw [hpl] at x1 hcp1
                  have HPl := Lib.hid hpl
                  clear hpl hpb
                  unfold maxLen at hcp2
                  have hX := Blk.new wr 88 #[.string pn, .slice Ap pl cp]
                  have hbX := bal (Below.refl wr.heap.size wr) (.cells #[.string pn, .slice Ap pl cp] 88)
                  have cT := (hTr.kept hbX).cell
                  have HNm2 := Lib.hid (fun w => rname_any pn ofP w hln (by decide))
                  rcases hnp1 : nameB pn ofP with _ | _
                  · rw [hnp1] at HNm2
                    have HQ := Lib.hid hnp1
                    clear hnp1
                    go_wp2_with (go_at_call 88; refine (HNm2.out _).mono ?_; rintro e w5 ⟨rfl, rfl⟩)
                    go_ret
                    refine MayP.no (mayF_no fun hh => ?_) (hnr.trans (Near.of_below _ hbX))
                    have := List.all_eq_true.1 hh.2.2.2.1 _ HMem.out
                    unfold prOk at this
                    simp only [HQ.out, Bool.false_and, Bool.false_eq_true] at this
                  · rw [hnp1] at HNm2
                    have HQ := Lib.hid hnp1
                    clear hnp1
                    by_cases z1 : 4096 < pl
                    · go_wp2_with (go_at_call 88; refine (HNm2.out _).mono ?_; rintro e w5 ⟨rfl, rfl⟩)
                      go_ret
                      refine MayP.no (mayF_no fun hh => ?_) (hnr.trans (Near.of_below _ hbX))
                      have := List.all_eq_true.1 hh.2.2.2.1 _ HMem.out
                      unfold prOk at this
                      simp only [HPl.out, Bool.and_eq_true, decide_eq_true_eq] at this
                      omega
                    · go_wp2_with (go_at_call 88; refine (HNm2.out _).mono ?_; rintro e w5 ⟨rfl, rfl⟩)
                      clear cT x0 x1
                      have HTX := Lib.hid (hTr.kept hbX)
                      have HX := Lib.hid hX
                      generalize hwX : wr.alloc (.cells #[.string pn, .slice Ap pl cp] 88) = wX at *
                      have HbX := Lib.hid (hb.trans (hbX.mono hb.size))
                      have HNX := Lib.hid (hnr.trans (Near.of_below _ hbX))
                      have hszX := hbX.size
                      clear hwX hX hbX hTr
                      go_loopw [88] (fun i w6 => ∃ i2 : Nat, i2 ≤ j ∧ i = .int .i64 i2 ∧ Hid (∀ i y, i < i2 → t.ps[i]? = some y → y.1 ≠ pn) ∧ Below wX.heap.size wX w6) (fun i _ => j - (intOf i).toNat)
                      case atStart => exact ⟨0, by omega, rfl, fun i y hi => absurd hi (by omega), Below.refl _ _⟩
                      case round =>
                        obtain ⟨i2, hi2, rfl, hne, hb6⟩ := hrel
                        have cX := (HX.out.kept hb6).cell
                        have hnS := HNX.out.trans (Near.of_below _ hb6)
                        have hBs : Below B w wr := hnS.below (fun i hi => by omega) (by omega)
                        by_cases hl2 : i2 < j
                        · obtain ⟨pr2, hpr2⟩ : ∃ q, t.ps[i2]? = some q := ⟨_, List.getElem?_eq_getElem (by rw [HNp.out]; omega)⟩
                          obtain ⟨_, _, Ap2, cp2, hfj2, hcp12, hcp22, _⟩ := HP.out i2 pr2 hpr2
                          have x0 := (hBs.cell (p := ⟨b1, o1 + (i2 * 2 + 0), none⟩) hbk).trans (HC1.out i2 (by omega) 0 (by omega))
                          have x1 := (hBs.cell (p := ⟨b1, o1 + (i2 * 2 + 1), none⟩) hbk).trans (HC1.out i2 (by omega) 1 (by omega))
                          rw [hfj2] at x0 x1
                          simp only [Nat.add_zero, ← Nat.add_assoc, List.getElem?_cons_zero, List.getElem?_cons_succ] at x0 x1
                          have HPr2 := Lib.hid hpr2
                          clear hfj2 hpr2
                          obtain ⟨pn2, pb2⟩ := pr2
                          simp only at x0 x1
                          generalize pb2.length = pl2 at x1
                          clear cX
                          have cX := ((HX.out.kept hb6).alloc (.cells #[.string pn2, .slice Ap2 pl2 cp2] 88)).cell
                          by_cases heq : pn2 = pn
                          · subst heq
                            go_wp2_with fail
                            go_ret
                            refine MayP.no (mayF_no fun hh => ?_) (hnS.trans (Near.of_below _ (bal (Below.refl _ _) _)))
                            exact dup_of t.ps (·.1) i2 j _ _ HPr2.out HPr.out hl2 rfl hh.2.2.2.2.1
                          · have heb := baL heq
                            have HEq := Lib.hid heq
                            clear heq
                            go_wp2_with fail
                            go_roundw
                            case rel =>
                              refine ⟨i2 + 1, by omega, by go_num, fun i y hi hy => ?_, bal' hb6 _ hb6.size⟩
                              rcases Nat.lt_or_ge i i2 with h | h
                              · exact hne.out i y h hy
                              · obtain rfl : i = i2 := by omega
                                rw [HPr2.out] at hy
                                injection hy with hy
                                subst hy
                                exact HEq.out
                            case measure => simp [intOf]; omega
                        · obtain rfl : i2 = j := by omega
                          go_wp2_with fail
                          go_roundw
                          case rel =>
                            refine ⟨i2 + 1, by omega, by go_num, ?_, ?_, HbX.out.trans (hb6.mono (by have := HbX.out.size; omega))⟩
                            · show ∀ q ∈ _, _
                              rw [HTk.out]
                              intro q hq'
                              rcases List.mem_append.1 hq' with h | h
                              · exact hq.out q h
                              · rw [List.mem_singleton] at h
                                subst h
                                unfold prOk
                                simp only [HQ.out, HPl.out, Bool.true_and, decide_eq_true_eq]
                                omega
                            · refine Lib.hid ?_
                              rw [HTk.out, List.map_append]
                              exact nodup_snoc _ _ hnd.out (not_mem_take t.ps (·.1) i2 pn hne.out)
                          case measure => simp [intOf]; omega
                · obtain rfl : j = np := by omega
                  have hall : t.ps.all prOk = true := by
                    rw [List.all_eq_true]
                    have := hq.out
                    rw [← HNp.out, List.take_length] at this
                    exact this
                  have hnd2 : (t.ps.map (·.1)).Nodup := by
                    have := hnd.out
                    rw [← HNp.out, List.take_length] at this
                    exact this
                  have HAll := Lib.hid hall
                  have HNd := Lib.hid hnd2
                  clear hall hnd2 hq hnd
                  have cT := hTr.cell
                  have hB5 := hB2.kept hb
                  go_wp2_with fail
                  generalize wr = w5 at *
                  have hn5 := hnr
                  have hT5 := hTr
                  clear hnr hTr hBr hb hbase HN3 hT2 hB2 hn2 cT
                  have hgc5 := hB5.lt
                  have hw5 := hn5.size
                  go_loopw [102] (fun i wr => ∃ (j : Nat) (n' p' : Int), j ≤ nk ∧ i = .int .i64 j ∧ Hid (kidsF (mayF f) (t.ks.take j) (n + 1, p + t.ps.length) = some (n', p')) ∧ Hid ((t.ks.take j).map Tr.nm).Nodup ∧ Blk wr gc 86 #[.int .i64 n', .int .i64 p'] ∧ Near (fun i => i = gc) w5 wr) (fun i _ => nk - (intOf i).toNat)
                  case atStart => exact ⟨0, n + 1, _, by omega, rfl, by rw [HNp.out]; exact Lib.hid rfl, by simp [Hid], hB5, Near.refl _ _⟩
                  case round =>
                    obtain ⟨j, n', p', hj, rfl, hkf, hknd, hBc, hnw⟩ := hrel
                    have hnr := hn5.trans hnw
                    have hBr : Below B w wr := hnr.below (fun i hi => by omega) (by omega)
                    have hle := kidsF_le (fun t c c' => mayF_le f t c c') _ _ _ hkf.out (by simp only; omega) (by simp only; omega) (by simp only; omega) (by simp only; rw [HNp.out]; omega)
                    simp only at hle
                    have hcnt := kidsF_count (fun t c c' => mayF_count f t c c') _ _ _ hkf.out
                    simp only [List.length_take] at hcnt
                    rw [HNk.out] at hcnt
                    have hsz := hnw.size
                    by_cases hlj : j < nk
                    · obtain ⟨kd, hkd⟩ : ∃ q, t.ks[j]? = some q := ⟨_, List.getElem?_eq_getElem (by rw [HNk.out]; exact hlj)⟩
                      have hK := HK.out j kd hkd
                      obtain ⟨b2, o2, rfl, hbk, hc2⟩ := HG.out (by omega)
                      have x0 := (hBr.cell (p := ⟨b2, o2 + (j * 3 + 0), none⟩) hbk).trans (hc2 j hlj 0 (by omega))
                      have x1 := (hBr.cell (p := ⟨b2, o2 + (j * 3 + 1), none⟩) hbk).trans (hc2 j hlj 1 (by omega))
                      have x2 := (hBr.cell (p := ⟨b2, o2 + (j * 3 + 2), none⟩) hbk).trans (hc2 j hlj 2 (by omega))
                      obtain ⟨K1, n1, cc1, K2, n2, cc2, hv⟩ : ∃ (K1 : Option Addr) (n1 cc1 : Nat) (K2 : Option Addr) (n2 cc2 : Nat), rowG j = [.string kd.nm, .slice K1 n1 cc1, .slice K2 n2 cc2] := by
                        cases k with
                        | zero => exact hK.elim
                        | succ k =>
                          obtain ⟨_, _, _, _, _, _, _, e, _⟩ := hK
                          exact ⟨_, _, _, _, _, _, e⟩
                      rw [hv] at x0 x1 x2 hK
                      simp only [Nat.add_zero, ← Nat.add_assoc, List.getElem?_cons_zero, List.getElem?_cons_succ] at x0 x1 x2
                      have HKt := Lib.hid (kidsF_take (mayF f) t.ks j kd (n + 1, p + t.ps.length) hkd)
                      have HLk2 := Lib.hid (HLk.out kd (List.mem_of_getElem? hkd))
                      have htk : t.ks.take (j + 1) = t.ks.take j ++ [kd] := by
                        obtain ⟨hj', rfl⟩ := List.getElem?_eq_some_iff.1 hkd
                        exact List.take_succ_eq_append_getElem hj'
                      have HTk := Lib.hid htk
                      have HKd := Lib.hid hkd
                      have HC2 := Lib.hid hc2
                      obtain ⟨sn, hsn⟩ : ∃ sn, kd.nm = sn := ⟨_, rfl⟩
                      rw [hsn] at x0 hK
                      have HSn := Lib.hid hsn
                      have HK2 := Lib.hid hK
                      clear hc2 hK hkd hv hsn htk
                      have hX := Blk.new wr 25 #[.string sn, .slice K1 n1 cc1, .slice K2 n2 cc2]
                      have hbX := bal (Below.refl wr.heap.size wr) (.cells #[.string sn, .slice K1 n1 cc1, .slice K2 n2 cc2] 25)
                      have hnX := hnw.alloc (.cells #[.string sn, .slice K1 n1 cc1, .slice K2 n2 cc2] 25)
                      have hBX := hBc.alloc (.cells #[.string sn, .slice K1 n1 cc1, .slice K2 n2 cc2] 25)
                      have cT := ((hT5.same (hnw.block _ hT5.lt (by omega))).alloc (.cells #[.string sn, .slice K1 n1 cc1, .slice K2 n2 cc2] 25)).cell
                      go_wp2_with fail
                      clear cT x0 x1 x2 hBc
                      have HX := Lib.hid hX
                      generalize hwX : wr.alloc (.cells #[.string sn, .slice K1 n1 cc1, .slice K2 n2 cc2] 25) = wX at *
                      have HNX := Lib.hid hnX
                      have hszX := hbX.size
                      have hlX := hX.lt
                      clear hwX hX hbX hnX
                      go_loopw [112] (fun i wr => ∃ i2 : Nat, i2 ≤ j ∧ i = .int .i64 i2 ∧ Hid (∀ i y, i < i2 → t.ks[i]? = some y → y.nm ≠ sn) ∧ Below wX.heap.size wX wr) (fun i _ => j - (intOf i).toNat)
                      case atStart => exact ⟨0, by omega, rfl, fun i y hi => absurd hi (by omega), Below.refl _ _⟩
                      case round =>
                        obtain ⟨i2, hi2, rfl, hne, hb6⟩ := hrel
                        have hnS := hn5.trans (HNX.out.trans (Near.of_below _ hb6))
                        have hBs : Below B w wr := hnS.below (fun i hi => by omega) (by omega)
                        by_cases hl2 : i2 < j
                        · obtain ⟨k2, hk2⟩ : ∃ q, t.ks[i2]? = some q := ⟨_, List.getElem?_eq_getElem (by rw [HNk.out]; omega)⟩
                          have hK := HK.out i2 k2 hk2
                          have x0 := (hBs.cell (p := ⟨b2, o2 + (i2 * 3 + 0), none⟩) hbk).trans (HC2.out i2 (by omega) 0 (by omega))
                          have x1 := (hBs.cell (p := ⟨b2, o2 + (i2 * 3 + 1), none⟩) hbk).trans (HC2.out i2 (by omega) 1 (by omega))
                          have x2 := (hBs.cell (p := ⟨b2, o2 + (i2 * 3 + 2), none⟩) hbk).trans (HC2.out i2 (by omega) 2 (by omega))
                          obtain ⟨L1, m1, dd1, L2, m2, dd2, hv⟩ : ∃ (K1 : Option Addr) (n1 cc1 : Nat) (K2 : Option Addr) (n2 cc2 : Nat), rowG i2 = [.string k2.nm, .slice K1 n1 cc1, .slice K2 n2 cc2] := by
                            cases k with
                            | zero => exact hK.elim
                            | succ k =>
                              obtain ⟨_, _, _, _, _, _, _, e, _⟩ := hK
                              exact ⟨_, _, _, _, _, _, e⟩
                          rw [hv] at x0 x1 x2
                          simp only [Nat.add_zero, ← Nat.add_assoc, List.getElem?_cons_zero, List.getElem?_cons_succ] at x0 x1 x2
                          have HK3 := Lib.hid hk2
                          obtain ⟨s2, hs2⟩ : ∃ sn, k2.nm = sn := ⟨_, rfl⟩
                          rw [hs2] at x0
                          have HS2 := Lib.hid hs2
                          clear hK hk2 hv hs2
                          have cX := ((HX.out.kept hb6).alloc (.cells #[.string s2, .slice L1 m1 dd1, .slice L2 m2 dd2] 25)).cell
                          by_cases heq : s2 = sn
                          · subst heq
                            go_wp2_with fail
                            go_ret
                            refine MayP.no (mayF_dup ?_) (hnS.trans (Near.of_below _ (bal (Below.refl _ _) _)))
                            exact dup_of t.ks Tr.nm i2 j _ _ HK3.out HKd.out hl2 (by rw [HS2.out, HSn.out])
                          · have heb := baL heq
                            have HEq := Lib.hid heq
                            clear heq
                            go_wp2_with fail
                            go_roundw
                            case rel =>
                              refine ⟨i2 + 1, by omega, by go_num, fun i y hi hy => ?_, bal' hb6 _ hb6.size⟩
                              rcases Nat.lt_or_ge i i2 with h | h
                              · exact hne.out i y h hy
                              · obtain rfl : i = i2 := by omega
                                rw [HK3.out] at hy
                                injection hy with hy
                                subst hy
                                rw [HS2.out]
                                exact HEq.out
                            case measure => simp [intOf]; omega
                        · obtain rfl : i2 = j := by omega
                          have cX := (HX.out.kept hb6).cell
                          have hB6 := hBX.kept hb6
                          have cB := hB6.cell
                          have HC := Lib.hid (IH.out kd _ (at_ + 1) n' p' gc B _ (by omega) (by omega) (HK2.out.below hBs) HLk2.out hBg hB6 (by omega) (by omega) (by omega) (by omega))
                          clear HK2 HLk2 hB6 hBX
                          have HNS := Lib.hid hnS
                          rcases hm : mayF f kd (n', p') with _ | ⟨n2', p2'⟩
                          · have HM := Lib.hid hm
                            clear hm
                            go_wp2_with (go_at_call 41; refine HC.out.mono ?_; rintro e w6 ⟨b, rfl, hn6, hbq, _⟩; rw [HM.out] at hbq; have hbf : b = false := hbq; subst hbf; clear hbq)
                            go_ret
                            refine MayP.no (mayF_kids (kidsF_none _ _ (i2 + 1) _ ?_)) (HNS.out.trans hn6)
                            rw [HKt.out, hkf.out, Option.bind_some, HM.out]
                          · have HM := Lib.hid hm
                            clear hm
                            go_wp2_with (go_at_call 41; refine HC.out.mono ?_; rintro e w6 ⟨b, rfl, hn6, hbq, hbk6⟩; rw [HM.out] at hbq; have hbf : b = true := hbq; subst hbf; clear hbq; have hB6 := hbk6 _ _ HM.out)
                            go_roundw
                            case rel =>
                              refine ⟨i2 + 1, n2', p2', by omega, by go_num, ?_, ?_, hB6, (HNX.out.trans (Near.of_below _ hb6)).trans hn6⟩
                              · refine Lib.hid ?_
                                rw [HKt.out, hkf.out, Option.bind_some, HM.out]
                              · refine Lib.hid ?_
                                rw [HTk.out, List.map_append]
                                refine nodup_snoc _ _ hknd.out ?_
                                rw [HSn.out]
                                exact not_mem_take t.ks Tr.nm i2 sn hne.out
                            case measure => simp [intOf]; omega
                    · obtain rfl : j = nk := by omega
                      have etk : t.ks.take j = t.ks := by rw [← HNk.out, List.take_length]
                      rw [etk] at hknd hkf
                      have hm := mayF_yes (f := f) (t := t) (n := n) (p := p) ⟨by omega, by rw [HNp.out]; omega, by rw [HNm.out]; exact HNo.out, HAll.out, HNd.out, by rw [HNk.out]; omega⟩ hkf.out hknd.out
                      have HM := Lib.hid hm
                      clear hm etk
                      go_wp2_with fail
                      go_ret
                      refine ⟨true, rfl, hnr, by rw [HM.out]; rfl, fun n2 p2 h2 => ?_⟩
                      rw [HM.out] at h2
                      simp only [Option.some.injEq, Prod.mk.injEq] at h2
                      obtain ⟨rfl, rfl⟩ := h2
                      exact hBc
            · clear hf7
              have hse : nm.toList.isEmpty = false := by
                rw [Bool.eq_false_iff]
                intro h
                rw [ByteArray.toList_eq, List.isEmpty_iff] at h
                exact hz (congrArg List.length h)
              go_wp2_with fail
              go_ret
              exact MayP.no (mayF_no fun h => by
                have := h.2.2.1
                rw [HNm.out] at this
                unfold nmOk at this
                simp [hz, HF7.out] at this) hn2
          · have a1 : (at_ == 1) = false := by simp; omega
            have a2 : decide (1 < at_) = true := decide_eq_true (by omega)
            have HNn := Lib.hid (fun w => rname_any nm ofN w l1 (by decide))
            rcases hnb : nameB nm ofN with _ | _
            · rw [hnb] at HNn
              have HQ := Lib.hid hnb
              clear hnb
              go_wp2_with (go_at_call 88; refine (HNn.out _).mono ?_; rintro e w3 ⟨rfl, rfl⟩)
              go_ret
              exact MayP.no (mayF_no fun h => by
                have := h.2.2.1
                rw [HNm.out] at this
                unfold nmOk at this
                rw [if_neg hf7, HQ.out] at this
                cases this) hn2
            · rw [hnb] at HNn
              have hnmo : nmOk f nm = true := by unfold nmOk; rw [if_neg hf7]; exact hnb
              have HNo := Lib.hid hnmo
              clear hnb hnmo
              go_wp2_with (go_at_call 88; refine (HNn.out _).mono ?_; rintro e w3 ⟨rfl, rfl⟩)
              have HN3 := Lib.hid hn2
              go_loopw [68] (fun i wr => ∃ j : Nat, j ≤ np ∧ i = .int .i64 j ∧ Hid (∀ q ∈ t.ps.take j, prOk q = true) ∧ Hid ((t.ps.take j).map (·.1)).Nodup ∧ Below w2.heap.size w2 wr) (fun i _ => np - (intOf i).toNat)
              case atStart => exact ⟨0, by omega, rfl, by simp [Hid], by simp [Hid], Below.refl _ _⟩
              case round =>
                obtain ⟨j, hj, rfl, hq, hnd, hb⟩ := hrel
                have hbase := hb.size
                have hnr := HN3.out.trans (Near.of_below _ hb)
                have hBr : Below B w wr := hnr.below (fun i hi => by omega) (by omega)
                have hTr := hT2.kept hb
                clear cT cB
                by_cases hlj : j < np
                · obtain ⟨pr, hpr⟩ : ∃ q, t.ps[j]? = some q := ⟨_, List.getElem?_eq_getElem (by rw [HNp.out]; exact hlj)⟩
                  obtain ⟨hps, hpb, Ap, cp, hfj, hcp1, hcp2, _⟩ := HP.out j pr hpr
                  obtain ⟨b1, o1, rfl, hbk, hc1⟩ := HF.out (by omega)
                  have x0 := (hBr.cell (p := ⟨b1, o1 + (j * 2 + 0), none⟩) hbk).trans (hc1 j hlj 0 (by omega))
                  have x1 := (hBr.cell (p := ⟨b1, o1 + (j * 2 + 1), none⟩) hbk).trans (hc1 j hlj 1 (by omega))
                  rw [hfj] at x0 x1
                  simp only [Nat.add_zero, ← Nat.add_assoc, List.getElem?_cons_zero, List.getElem?_cons_succ] at x0 x1
                  have HC1 := Lib.hid hc1
                  have HPr := Lib.hid hpr
                  have hmem := List.mem_of_getElem? hpr
                  have hln := (HLp.out _ hmem).1
                  have htk : t.ps.take (j + 1) = t.ps.take j ++ [pr] := by
                    obtain ⟨hj', rfl⟩ := List.getElem?_eq_some_iff.1 hpr
                    exact List.take_succ_eq_append_getElem hj'
                  have HTk := Lib.hid htk
                  have HMem := Lib.hid hmem
                  clear hc1 hfj hpr htk hmem
                  obtain ⟨pn, pb⟩ := pr
                  simp only at x0 hln hps
                  obtain ⟨pl, hpl⟩ : ∃ pl, pb.length = pl := ⟨_, rfl⟩
                  simp only at x1 hcp1 hcp2 hpb
                  rw [hpl] at x1 hcp1
                  have HPl := Lib.hid hpl
                  clear hpl hpb
                  unfold maxLen at hcp2
                  have hX := Blk.new wr 88 #[.string pn, .slice Ap pl cp]
                  have hbX := bal (Below.refl wr.heap.size wr) (.cells #[.string pn, .slice Ap pl cp] 88)
                  have cT := (hTr.kept hbX).cell
                  have HNm2 := Lib.hid (fun w => rname_any pn ofP w hln (by decide))
                  rcases hnp1 : nameB pn ofP with _ | _
                  · rw [hnp1] at HNm2
                    have HQ := Lib.hid hnp1
                    clear hnp1
                    go_wp2_with (go_at_call 88; refine (HNm2.out _).mono ?_; rintro e w5 ⟨rfl, rfl⟩)
                    go_ret
                    refine MayP.no (mayF_no fun hh => ?_) (hnr.trans (Near.of_below _ hbX))
                    have := List.all_eq_true.1 hh.2.2.2.1 _ HMem.out
                    unfold prOk at this
                    simp only [HQ.out, Bool.false_and, Bool.false_eq_true] at this
                  · rw [hnp1] at HNm2
                    have HQ := Lib.hid hnp1
                    clear hnp1
                    by_cases z1 : 4096 < pl
                    · go_wp2_with (go_at_call 88; refine (HNm2.out _).mono ?_; rintro e w5 ⟨rfl, rfl⟩)
                      go_ret
                      refine MayP.no (mayF_no fun hh => ?_) (hnr.trans (Near.of_below _ hbX))
                      have := List.all_eq_true.1 hh.2.2.2.1 _ HMem.out
                      unfold prOk at this
                      simp only [HPl.out, Bool.and_eq_true, decide_eq_true_eq] at this
                      omega
                    · go_wp2_with (go_at_call 88; refine (HNm2.out _).mono ?_; rintro e w5 ⟨rfl, rfl⟩)
                      clear cT x0 x1
                      have HTX := Lib.hid (hTr.kept hbX)
                      have HX := Lib.hid hX
                      generalize hwX : wr.alloc (.cells #[.string pn, .slice Ap pl cp] 88) = wX at *
                      have HbX := Lib.hid (hb.trans (hbX.mono hb.size))
                      have HNX := Lib.hid (hnr.trans (Near.of_below _ hbX))
                      have hszX := hbX.size
                      clear hwX hX hbX hTr
                      go_loopw [88] (fun i w6 => ∃ i2 : Nat, i2 ≤ j ∧ i = .int .i64 i2 ∧ Hid (∀ i y, i < i2 → t.ps[i]? = some y → y.1 ≠ pn) ∧ Below wX.heap.size wX w6) (fun i _ => j - (intOf i).toNat)
                      case atStart => exact ⟨0, by omega, rfl, fun i y hi => absurd hi (by omega), Below.refl _ _⟩
                      case round =>
                        obtain ⟨i2, hi2, rfl, hne, hb6⟩ := hrel
                        have cX := (HX.out.kept hb6).cell
                        have hnS := HNX.out.trans (Near.of_below _ hb6)
                        have hBs : Below B w wr := hnS.below (fun i hi => by omega) (by omega)
                        by_cases hl2 : i2 < j
                        · obtain ⟨pr2, hpr2⟩ : ∃ q, t.ps[i2]? = some q := ⟨_, List.getElem?_eq_getElem (by rw [HNp.out]; omega)⟩
                          obtain ⟨_, _, Ap2, cp2, hfj2, hcp12, hcp22, _⟩ := HP.out i2 pr2 hpr2
                          have x0 := (hBs.cell (p := ⟨b1, o1 + (i2 * 2 + 0), none⟩) hbk).trans (HC1.out i2 (by omega) 0 (by omega))
                          have x1 := (hBs.cell (p := ⟨b1, o1 + (i2 * 2 + 1), none⟩) hbk).trans (HC1.out i2 (by omega) 1 (by omega))
                          rw [hfj2] at x0 x1
                          simp only [Nat.add_zero, ← Nat.add_assoc, List.getElem?_cons_zero, List.getElem?_cons_succ] at x0 x1
                          have HPr2 := Lib.hid hpr2
                          clear hfj2 hpr2
                          obtain ⟨pn2, pb2⟩ := pr2
                          simp only at x0 x1
                          generalize pb2.length = pl2 at x1
                          clear cX
                          have cX := ((HX.out.kept hb6).alloc (.cells #[.string pn2, .slice Ap2 pl2 cp2] 88)).cell
                          by_cases heq : pn2 = pn
                          · subst heq
                            go_wp2_with fail
                            go_ret
                            refine MayP.no (mayF_no fun hh => ?_) (hnS.trans (Near.of_below _ (bal (Below.refl _ _) _)))
                            exact dup_of t.ps (·.1) i2 j _ _ HPr2.out HPr.out hl2 rfl hh.2.2.2.2.1
                          · have heb := baL heq
                            have HEq := Lib.hid heq
                            clear heq
                            go_wp2_with fail
                            go_roundw
                            case rel =>
                              refine ⟨i2 + 1, by omega, by go_num, fun i y hi hy => ?_, bal' hb6 _ hb6.size⟩
                              rcases Nat.lt_or_ge i i2 with h | h
                              · exact hne.out i y h hy
                              · obtain rfl : i = i2 := by omega
                                rw [HPr2.out] at hy
                                injection hy with hy
                                subst hy
                                exact HEq.out
                            case measure => simp [intOf]; omega
                        · obtain rfl : i2 = j := by omega
                          go_wp2_with fail
                          go_roundw
                          case rel =>
                            refine ⟨i2 + 1, by omega, by go_num, ?_, ?_, HbX.out.trans (hb6.mono (by have := HbX.out.size; omega))⟩
                            · show ∀ q ∈ _, _
                              rw [HTk.out]
                              intro q hq'
                              rcases List.mem_append.1 hq' with h | h
                              · exact hq.out q h
                              · rw [List.mem_singleton] at h
                                subst h
                                unfold prOk
                                simp only [HQ.out, HPl.out, Bool.true_and, decide_eq_true_eq]
                                omega
                            · refine Lib.hid ?_
                              rw [HTk.out, List.map_append]
                              exact nodup_snoc _ _ hnd.out (not_mem_take t.ps (·.1) i2 pn hne.out)
                          case measure => simp [intOf]; omega
                · obtain rfl : j = np := by omega
                  have hall : t.ps.all prOk = true := by
                    rw [List.all_eq_true]
                    have := hq.out
                    rw [← HNp.out, List.take_length] at this
                    exact this
                  have hnd2 : (t.ps.map (·.1)).Nodup := by
                    have := hnd.out
                    rw [← HNp.out, List.take_length] at this
                    exact this
                  have HAll := Lib.hid hall
                  have HNd := Lib.hid hnd2
                  clear hall hnd2 hq hnd
                  have cT := hTr.cell
                  have hB5 := hB2.kept hb
                  go_wp2_with fail
                  generalize wr = w5 at *
                  have hn5 := hnr
                  have hT5 := hTr
                  clear hnr hTr hBr hb hbase HN3 hT2 hB2 hn2 cT
                  have hgc5 := hB5.lt
                  have hw5 := hn5.size
                  go_loopw [102] (fun i wr => ∃ (j : Nat) (n' p' : Int), j ≤ nk ∧ i = .int .i64 j ∧ Hid (kidsF (mayF f) (t.ks.take j) (n + 1, p + t.ps.length) = some (n', p')) ∧ Hid ((t.ks.take j).map Tr.nm).Nodup ∧ Blk wr gc 86 #[.int .i64 n', .int .i64 p'] ∧ Near (fun i => i = gc) w5 wr) (fun i _ => nk - (intOf i).toNat)
                  case atStart => exact ⟨0, n + 1, _, by omega, rfl, by rw [HNp.out]; exact Lib.hid rfl, by simp [Hid], hB5, Near.refl _ _⟩
                  case round =>
                    obtain ⟨j, n', p', hj, rfl, hkf, hknd, hBc, hnw⟩ := hrel
                    have hnr := hn5.trans hnw
                    have hBr : Below B w wr := hnr.below (fun i hi => by omega) (by omega)
                    have hle := kidsF_le (fun t c c' => mayF_le f t c c') _ _ _ hkf.out (by simp only; omega) (by simp only; omega) (by simp only; omega) (by simp only; rw [HNp.out]; omega)
                    simp only at hle
                    have hcnt := kidsF_count (fun t c c' => mayF_count f t c c') _ _ _ hkf.out
                    simp only [List.length_take] at hcnt
                    rw [HNk.out] at hcnt
                    have hsz := hnw.size
                    by_cases hlj : j < nk
                    · obtain ⟨kd, hkd⟩ : ∃ q, t.ks[j]? = some q := ⟨_, List.getElem?_eq_getElem (by rw [HNk.out]; exact hlj)⟩
                      have hK := HK.out j kd hkd
                      obtain ⟨b2, o2, rfl, hbk, hc2⟩ := HG.out (by omega)
                      have x0 := (hBr.cell (p := ⟨b2, o2 + (j * 3 + 0), none⟩) hbk).trans (hc2 j hlj 0 (by omega))
                      have x1 := (hBr.cell (p := ⟨b2, o2 + (j * 3 + 1), none⟩) hbk).trans (hc2 j hlj 1 (by omega))
                      have x2 := (hBr.cell (p := ⟨b2, o2 + (j * 3 + 2), none⟩) hbk).trans (hc2 j hlj 2 (by omega))
                      obtain ⟨K1, n1, cc1, K2, n2, cc2, hv⟩ : ∃ (K1 : Option Addr) (n1 cc1 : Nat) (K2 : Option Addr) (n2 cc2 : Nat), rowG j = [.string kd.nm, .slice K1 n1 cc1, .slice K2 n2 cc2] := by
                        cases k with
                        | zero => exact hK.elim
                        | succ k =>
                          obtain ⟨_, _, _, _, _, _, _, e, _⟩ := hK
                          exact ⟨_, _, _, _, _, _, e⟩
                      rw [hv] at x0 x1 x2 hK
                      simp only [Nat.add_zero, ← Nat.add_assoc, List.getElem?_cons_zero, List.getElem?_cons_succ] at x0 x1 x2
                      have HKt := Lib.hid (kidsF_take (mayF f) t.ks j kd (n + 1, p + t.ps.length) hkd)
                      have HLk2 := Lib.hid (HLk.out kd (List.mem_of_getElem? hkd))
                      have htk : t.ks.take (j + 1) = t.ks.take j ++ [kd] := by
                        obtain ⟨hj', rfl⟩ := List.getElem?_eq_some_iff.1 hkd
                        exact List.take_succ_eq_append_getElem hj'
                      have HTk := Lib.hid htk
                      have HKd := Lib.hid hkd
                      have HC2 := Lib.hid hc2
                      obtain ⟨sn, hsn⟩ : ∃ sn, kd.nm = sn := ⟨_, rfl⟩
                      rw [hsn] at x0 hK
                      have HSn := Lib.hid hsn
                      have HK2 := Lib.hid hK
                      clear hc2 hK hkd hv hsn htk
                      have hX := Blk.new wr 25 #[.string sn, .slice K1 n1 cc1, .slice K2 n2 cc2]
                      have hbX := bal (Below.refl wr.heap.size wr) (.cells #[.string sn, .slice K1 n1 cc1, .slice K2 n2 cc2] 25)
                      have hnX := hnw.alloc (.cells #[.string sn, .slice K1 n1 cc1, .slice K2 n2 cc2] 25)
                      have hBX := hBc.alloc (.cells #[.string sn, .slice K1 n1 cc1, .slice K2 n2 cc2] 25)
                      have cT := ((hT5.same (hnw.block _ hT5.lt (by omega))).alloc (.cells #[.string sn, .slice K1 n1 cc1, .slice K2 n2 cc2] 25)).cell
                      go_wp2_with fail
                      clear cT x0 x1 x2 hBc
                      have HX := Lib.hid hX
                      generalize hwX : wr.alloc (.cells #[.string sn, .slice K1 n1 cc1, .slice K2 n2 cc2] 25) = wX at *
                      have HNX := Lib.hid hnX
                      have hszX := hbX.size
                      have hlX := hX.lt
                      clear hwX hX hbX hnX
                      go_loopw [112] (fun i wr => ∃ i2 : Nat, i2 ≤ j ∧ i = .int .i64 i2 ∧ Hid (∀ i y, i < i2 → t.ks[i]? = some y → y.nm ≠ sn) ∧ Below wX.heap.size wX wr) (fun i _ => j - (intOf i).toNat)
                      case atStart => exact ⟨0, by omega, rfl, fun i y hi => absurd hi (by omega), Below.refl _ _⟩
                      case round =>
                        obtain ⟨i2, hi2, rfl, hne, hb6⟩ := hrel
                        have hnS := hn5.trans (HNX.out.trans (Near.of_below _ hb6))
                        have hBs : Below B w wr := hnS.below (fun i hi => by omega) (by omega)
                        by_cases hl2 : i2 < j
                        · obtain ⟨k2, hk2⟩ : ∃ q, t.ks[i2]? = some q := ⟨_, List.getElem?_eq_getElem (by rw [HNk.out]; omega)⟩
                          have hK := HK.out i2 k2 hk2
                          have x0 := (hBs.cell (p := ⟨b2, o2 + (i2 * 3 + 0), none⟩) hbk).trans (HC2.out i2 (by omega) 0 (by omega))
                          have x1 := (hBs.cell (p := ⟨b2, o2 + (i2 * 3 + 1), none⟩) hbk).trans (HC2.out i2 (by omega) 1 (by omega))
                          have x2 := (hBs.cell (p := ⟨b2, o2 + (i2 * 3 + 2), none⟩) hbk).trans (HC2.out i2 (by omega) 2 (by omega))
                          obtain ⟨L1, m1, dd1, L2, m2, dd2, hv⟩ : ∃ (K1 : Option Addr) (n1 cc1 : Nat) (K2 : Option Addr) (n2 cc2 : Nat), rowG i2 = [.string k2.nm, .slice K1 n1 cc1, .slice K2 n2 cc2] := by
                            cases k with
                            | zero => exact hK.elim
                            | succ k =>
                              obtain ⟨_, _, _, _, _, _, _, e, _⟩ := hK
                              exact ⟨_, _, _, _, _, _, e⟩
                          rw [hv] at x0 x1 x2
                          simp only [Nat.add_zero, ← Nat.add_assoc, List.getElem?_cons_zero, List.getElem?_cons_succ] at x0 x1 x2
                          have HK3 := Lib.hid hk2
                          obtain ⟨s2, hs2⟩ : ∃ sn, k2.nm = sn := ⟨_, rfl⟩
                          rw [hs2] at x0
                          have HS2 := Lib.hid hs2
                          clear hK hk2 hv hs2
                          have cX := ((HX.out.kept hb6).alloc (.cells #[.string s2, .slice L1 m1 dd1, .slice L2 m2 dd2] 25)).cell
                          by_cases heq : s2 = sn
                          · subst heq
                            go_wp2_with fail
                            go_ret
                            refine MayP.no (mayF_dup ?_) (hnS.trans (Near.of_below _ (bal (Below.refl _ _) _)))
                            exact dup_of t.ks Tr.nm i2 j _ _ HK3.out HKd.out hl2 (by rw [HS2.out, HSn.out])
                          · have heb := baL heq
                            have HEq := Lib.hid heq
                            clear heq
                            go_wp2_with fail
                            go_roundw
                            case rel =>
                              refine ⟨i2 + 1, by omega, by go_num, fun i y hi hy => ?_, bal' hb6 _ hb6.size⟩
                              rcases Nat.lt_or_ge i i2 with h | h
                              · exact hne.out i y h hy
                              · obtain rfl : i = i2 := by omega
                                rw [HK3.out] at hy
                                injection hy with hy
                                subst hy
                                rw [HS2.out]
                                exact HEq.out
                            case measure => simp [intOf]; omega
                        · obtain rfl : i2 = j := by omega
                          have cX := (HX.out.kept hb6).cell
                          have hB6 := hBX.kept hb6
                          have cB := hB6.cell
                          have HC := Lib.hid (IH.out kd _ (at_ + 1) n' p' gc B _ (by omega) (by omega) (HK2.out.below hBs) HLk2.out hBg hB6 (by omega) (by omega) (by omega) (by omega))
                          clear HK2 HLk2 hB6 hBX
                          have HNS := Lib.hid hnS
                          rcases hm : mayF f kd (n', p') with _ | ⟨n2', p2'⟩
                          · have HM := Lib.hid hm
                            clear hm
                            go_wp2_with (go_at_call 41; refine HC.out.mono ?_; rintro e w6 ⟨b, rfl, hn6, hbq, _⟩; rw [HM.out] at hbq; have hbf : b = false := hbq; subst hbf; clear hbq)
                            go_ret
                            refine MayP.no (mayF_kids (kidsF_none _ _ (i2 + 1) _ ?_)) (HNS.out.trans hn6)
                            rw [HKt.out, hkf.out, Option.bind_some, HM.out]
                          · have HM := Lib.hid hm
                            clear hm
                            go_wp2_with (go_at_call 41; refine HC.out.mono ?_; rintro e w6 ⟨b, rfl, hn6, hbq, hbk6⟩; rw [HM.out] at hbq; have hbf : b = true := hbq; subst hbf; clear hbq; have hB6 := hbk6 _ _ HM.out)
                            go_roundw
                            case rel =>
                              refine ⟨i2 + 1, n2', p2', by omega, by go_num, ?_, ?_, hB6, (HNX.out.trans (Near.of_below _ hb6)).trans hn6⟩
                              · refine Lib.hid ?_
                                rw [HKt.out, hkf.out, Option.bind_some, HM.out]
                              · refine Lib.hid ?_
                                rw [HTk.out, List.map_append]
                                refine nodup_snoc _ _ hknd.out ?_
                                rw [HSn.out]
                                exact not_mem_take t.ks Tr.nm i2 sn hne.out
                            case measure => simp [intOf]; omega
                    · obtain rfl : j = nk := by omega
                      have etk : t.ks.take j = t.ks := by rw [← HNk.out, List.take_length]
                      rw [etk] at hknd hkf
                      have hm := mayF_yes (f := f) (t := t) (n := n) (p := p) ⟨by omega, by rw [HNp.out]; omega, by rw [HNm.out]; exact HNo.out, HAll.out, HNd.out, by rw [HNk.out]; omega⟩ hkf.out hknd.out
                      have HM := Lib.hid hm
                      clear hm etk
                      go_wp2_with fail
                      go_ret
                      refine ⟨true, rfl, hnr, by rw [HM.out]; rfl, fun n2 p2 h2 => ?_⟩
                      rw [HM.out] at h2
                      simp only [Option.some.injEq, Prod.mk.injEq] at h2
                      obtain ⟨rfl, rfl⟩ := h2
                      exact hBc
end Go.Proofs.Ytnkpaockginooaa
namespace Go.Proofs.Ytnkpaockginooaa
set_option linter.unusedVariables false
set_option linter.unusedSimpArgs false
open Go.RowKit Go.Sort

theorem rCheck_any (k : Nat) (t : Tr) (cs : List Value) (w : World) (hT : TrOk w w.heap.size k t cs) (hL : LensF k t) : Calls Try.prog 18 #[.agg cs.toArray] w fun e w' => e = .returned (.bool (mayT t)) ∧ Below w.heap.size w w' := by
  obtain ⟨sn, K1, n1, cc1, K2, n2, cc2, hv⟩ : ∃ (sn : ByteArray) (K1 : Option Addr) (n1 cc1 : Nat) (K2 : Option Addr) (n2 cc2 : Nat), cs = [.string sn, .slice K1 n1 cc1, .slice K2 n2 cc2] := by
    cases k with
    | zero => exact hT.elim
    | succ k =>
      obtain ⟨_, _, _, _, _, _, _, e, _⟩ := hT
      exact ⟨_, _, _, _, _, _, _, e⟩
  subst hv
  have hB := Blk.new (w.alloc (.cells #[.string sn, .slice K1 n1 cc1, .slice K2 n2 cc2] 25)) 86 #[.int .i64 0, .int .i64 0]
  rw [World.size_alloc] at hB
  have hb := (bal (bal (Below.refl w.heap.size w) (.cells #[.string sn, .slice K1 n1 cc1, .slice K2 n2 cc2] 25)) (.cells #[.int .i64 0, .int .i64 0] 86))
  have HM := Lib.hid (rcheck_any 8 k t _ 1 0 0 _ w.heap.size _ (by omega) (by rfl) (hT.below hb) hL (by omega) hB (by omega) (by omega) (by omega) (by omega))
  have HB := Lib.hid hb
  obtain ⟨r, hr⟩ : ∃ r, mayT t = r := ⟨_, rfl⟩
  rw [hr]
  have HR := Lib.hid hr
  clear hB hb hr hT hL
  go_enter Try.func18, Try.ntmps18
  go_wp2_with (go_at_call 41; refine HM.out.mono ?_; rintro e w3 ⟨b, rfl, hn3, hbq, _⟩; have hbr : b = r := (hbq.trans HR.out); subst hbr; clear hbq)
  go_ret
  exact ⟨rfl, HB.out.trans (hn3.below (fun i hi => by omega) (by simp; omega))⟩
end Go.Proofs.Ytnkpaockginooaa
