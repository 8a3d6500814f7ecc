/- Chapter 14: the document's Same whole; walked. -/
import Derived.Test.YtmhbpfclfffgkaaCfSb
import Derived.Test.YtmhbpfclfffgkaaCfSd
namespace Go.Proofs.Ytmhbpfclfffgkaa
set_option linter.unusedVariables false
set_option linter.unusedSimpArgs false
open Go.RowKit Go.Sort

theorem rangeC_regrown {w : World} {b o : Nat} {cs : List Value} (h : w.rangeAt b o cs) (hb : b < w.heap.size) : ∀ W, (∃ p : Regrown, W = grow (redrawn w p.d) p.os) → W.rangeAt b o cs := by
  rintro W ⟨p, rfl⟩
  exact range_below h hb (below_regrown w _ _)
set_option maxRecDepth 100000 in
set_option maxHeartbeats 8000000 in
theorem rsame_any (x y : Cf) (A A2 B B2 : Option Addr) (c c2 d d2 : Nat) (w : World) (hx : CfR w w.heap.size x A c A2 c2) (hy : CfR w w.heap.size y B d B2 d2) :
    Calls Try.prog 15 #[.agg #[.int .u32 x.ver, .slice A x.gs.length c, .slice A2 x.cs.length c2], .agg #[.int .u32 y.ver, .slice B y.gs.length d, .slice B2 y.cs.length d2]] w fun e w' => e = .returned (.bool (sameX x y)) ∧ Below w.heap.size w w' := by
  obtain ⟨bb, hbb⟩ : ∃ bb, sameX x y = bb := ⟨_, rfl⟩
  rw [hbb]
  have HX := Lib.hid hx
  have HY := Lib.hid hy
  obtain ⟨q0, h0⟩ : ∃ q, (x.ver == y.ver) = q := ⟨_, rfl⟩
  have e0 : (x.ver != y.ver) = !q0 := by rw [bne, h0]
  obtain ⟨n1, hn1⟩ : ∃ n, x.gs.length = n := ⟨_, rfl⟩
  obtain ⟨n2, hn2⟩ : ∃ n, y.gs.length = n := ⟨_, rfl⟩
  obtain ⟨m1, hm1⟩ : ∃ n, x.cs.length = n := ⟨_, rfl⟩
  obtain ⟨m2, hm2⟩ : ∃ n, y.cs.length = n := ⟨_, rfl⟩
  rw [hn1, hn2, hm1, hm2]
  obtain ⟨v1, hv1⟩ : ∃ v, x.ver = v := ⟨_, rfl⟩
  obtain ⟨v2, hv2⟩ : ∃ v, y.ver = v := ⟨_, rfl⟩
  have HBB : Hid ((((v1 == v2) && gsEqB (x.gs.map Prod.fst) (y.gs.map Prod.fst)) && decide (x.cs = y.cs)) = bb) := Lib.hid (by rw [← hbb, ← hv1, ← hv2]; rfl)
  rw [hv1, hv2] at h0 e0 ⊢
  have b1 : n1 ≤ 9223372036854775807 := by rw [← hn1]; exact rows_ml (Nat.le_trans hx.lg.1 hx.lg.2)
  have b2 : m1 ≤ 9223372036854775807 := by rw [← hm1]; exact rows_ml (Nat.le_trans hx.lc.1 hx.lc.2)
  have HN1 := Lib.hid hn1
  have HN2 := Lib.hid hn2
  have HM1 := Lib.hid hm1
  have HM2 := Lib.hid hm2
  have HQ0 := Lib.hid h0
  clear hbb hx hy hn1 hn2 hm1 hm2 hv1 hv2 h0
  have HA := Lib.hid ((Blk.new w 28 #[.int .u32 v1, .slice A n1 c, .slice A2 m1 c2]).alloc (.cells #[.int .u32 v2, .slice B n2 d, .slice B2 m2 d2] 28))
  have HB : Hid (Blk ((w.alloc (.cells #[.int .u32 v1, .slice A n1 c, .slice A2 m1 c2] 28)).alloc (.cells #[.int .u32 v2, .slice B n2 d, .slice B2 m2 d2] 28)) (w.heap.size + 1) 28 #[.int .u32 v2, .slice B n2 d, .slice B2 m2 d2]) := Lib.hid (by
    have := Blk.new (w.alloc (.cells #[.int .u32 v1, .slice A n1 c, .slice A2 m1 c2] 28)) 28 #[.int .u32 v2, .slice B n2 d, .slice B2 m2 d2]
    simpa using this)
  have HbX := Lib.hid (bal (bal (Below.refl w.heap.size w) (.cells #[.int .u32 v1, .slice A n1 c, .slice A2 m1 c2] 28)) (.cells #[.int .u32 v2, .slice B n2 d, .slice B2 m2 d2] 28))
  have cA := HA.out.cell
  have cB := HB.out.cell
  go_enter Try.func15, Try.ntmps15
  go_upto_region 1 with (fail)
  generalize (w.alloc (.cells #[.int .u32 v1, .slice A n1 c, .slice A2 m1 c2] 28)).alloc (.cells #[.int .u32 v2, .slice B n2 d, .slice B2 m2 d2] 28) = w0 at *
  rcases q0 with _ | _
  · have hf : bb = false := by rw [← HBB.out, HQ0.out]; rfl
    subst hf
    simp only [Bool.not_false] at e0
    go_wp2
    go_ret
    exact ⟨rfl, HbX.out⟩
  simp only [Bool.not_true] at e0
  by_cases z1 : n1 = n2
  case neg =>
    have y1 : ((n1 : Int) != (n2 : Int)) = true := by rw [bne_iff_ne]; omega
    have hf : bb = false := by
      rw [← HBB.out, ← Bool.not_eq_true]
      intro h
      simp only [Bool.and_eq_true] at h
      have := gsEqB_len h.1.2
      rw [List.length_map, List.length_map, HN1.out, HN2.out] at this
      exact z1 this
    subst hf
    clear z1
    go_wp2
    go_ret
    exact ⟨rfl, HbX.out⟩
  have y1 : ((n1 : Int) != (n2 : Int)) = false := by rw [bne_eq_false_iff_eq]; omega
  by_cases z2 : m1 = m2
  case neg =>
    have y2 : ((m1 : Int) != (m2 : Int)) = true := by rw [bne_iff_ne]; omega
    have hf : bb = false := by
      rw [← HBB.out, ← Bool.not_eq_true]
      intro h
      simp only [Bool.and_eq_true, decide_eq_true_eq] at h
      apply z2
      rw [← HM1.out, ← HM2.out, h.2]
    subst hf
    clear z1 z2
    go_wp2
    go_ret
    exact ⟨rfl, HbX.out⟩
  have y2 : ((m1 : Int) != (m2 : Int)) = false := by rw [bne_eq_false_iff_eq]; omega
  have HZ1 := Lib.hid z1
  have HZ2 := Lib.hid z2
  clear z1 z2
  go_wp2
  clear y1 y2 e0 cA cB
  go_loopw [5, 33] (fun _ i wr => ∃ k : Nat, k ≤ n1 ∧ i = .int .i64 k ∧ Hid (∀ j a b, j < k → x.gs[j]? = some a → y.gs[j]? = some b → gEqB a.1 b.1 = true) ∧ Below w0.heap.size w0 wr) (fun _ i _ => n1 - (intOf i).toNat)
  case atStart => exact ⟨0, by omega, rfl, Lib.hid (fun j a b hj => absurd hj (by omega)), Below.refl _ _⟩
  case round =>
    obtain ⟨k, hk, rfl, hq, hbw⟩ := hrel
    have hbw0 := HbX.out.trans (hbw.mono HbX.out.size)
    by_cases hlt : k < n1
    · obtain ⟨g1, b1, o1, hp1, hA1, hb1, hrow1, hG1, hl1⟩ := (HX.out.grow (Below.refl _ _)).at hbw0 (k := k) (by rw [HN1.out]; exact hlt)
      obtain ⟨g2, b2, o2, hp2, hA2, hb2, hrow2, hG2, hl2⟩ := (HY.out.grow (Below.refl _ _)).at hbw0 (k := k) (by rw [HN2.out, ← HZ1.out]; exact hlt)
      have hi1 : (Try.prog.info? 70).map (·.size) = some (gcells g1).length := by rw [hl1]; kernel_rfl
      have hi2 : (Try.prog.info? 70).map (·.size) = some (gcells g2).length := by rw [hl2]; kernel_rfl
      have hs0 := hbw0.size
      have hq1 := rangeC_regrown hrow1 (by omega)
      have hq2 := rangeC_regrown hrow2 (by omega)
      have HC := Lib.hid (fun (d : Nat) (os : Array Obj) => rsameGuest_any g1 g2 (grow (redrawn wr d) os) ((hG1.below (below_regrown wr d os)).more (below_regrown wr d os).size) ((hG2.below (below_regrown wr d os)).more (below_regrown wr d os).size))
      have cA := blk_regrown (HA.out.kept hbw)
      have cB := blk_regrown (HB.out.kept hbw)
      have s1 := fun d os => cA d os 1
      have s2 := fun d os => cB d os 1
      simp only [List.getElem?_toArray, List.getElem?_cons_succ, List.getElem?_cons_zero] at s1 s2
      rw [hA1] at s1
      rw [hA2, ← HZ1.out] at s2
      have HP1 := Lib.hid hp1
      have HP2 := Lib.hid hp2
      clear cA cB hp1 hp2 hrow1 hrow2 hG1 hG2 hl1 hl2 hb1 hb2 hA1 hA2
      obtain ⟨q, hqe⟩ : ∃ q, gEqB g1.1 g2.1 = q := ⟨_, rfl⟩
      rw [hqe] at HC
      have HQ := Lib.hid hqe
      clear hqe
      rcases q with _ | _
      · have hf : bb = false := by
          rw [← HBB.out, ← Bool.not_eq_true]
          intro h
          simp only [Bool.and_eq_true] at h
          have := gsEqB_at h.1.2 (k := k) (a := g1.1) (b := g2.1) (by rw [List.getElem?_map, HP1.out]; rfl) (by rw [List.getElem?_map, HP2.out]; rfl)
          rw [HQ.out] at this
          cases this
        subst hf
        go_wp2
        refine wp_region_quiet_below (by kernel_rfl) (by kernel_rfl) ?_
        iterate 4 (quiet_step ((fail)))
        refine wpQuiet_load 70 (.tmp 39) rfl b1 (o1 + k * 79) (by rfl) (gcells g1) _ hq1 Try.underlying70 rfl hi1 (by kernel_rfl) ?_
        iterate 4 (quiet_step ((fail)))
        refine wpQuiet_load 70 (.tmp 44) rfl b2 (o2 + k * 79) (by rfl) (gcells g2) _ hq2 Try.underlying70 rfl hi2 (by kernel_rfl) ?_
        quiet_step ((go_at_call 33; with_reducible exact regrown (HC.out _ _)))
        quiet_step ((fail))
        refine wpQuiet_nil ?_
        rintro w7 ⟨p7, rfl⟩
        have hb7 := hbw.trans ((below_regrown wr p7.d p7.os).mono hbw.size)
        generalize grow (redrawn wr p7.d) p7.os = w7 at hb7 ⊢
        go_wp2
        go_ret
        exact ⟨rfl, HbX.out.trans (hb7.mono HbX.out.size)⟩
      · go_wp2
        refine wp_region_quiet_below (by kernel_rfl) (by kernel_rfl) ?_
        iterate 4 (quiet_step ((fail)))
        refine wpQuiet_load 70 (.tmp 39) rfl b1 (o1 + k * 79) (by rfl) (gcells g1) _ hq1 Try.underlying70 rfl hi1 (by kernel_rfl) ?_
        iterate 4 (quiet_step ((fail)))
        refine wpQuiet_load 70 (.tmp 44) rfl b2 (o2 + k * 79) (by rfl) (gcells g2) _ hq2 Try.underlying70 rfl hi2 (by kernel_rfl) ?_
        quiet_step ((go_at_call 33; with_reducible exact regrown (HC.out _ _)))
        quiet_step ((fail))
        refine wpQuiet_nil ?_
        rintro w7 ⟨p7, rfl⟩
        have hb7 := hbw.trans ((below_regrown wr p7.d p7.os).mono hbw.size)
        generalize grow (redrawn wr p7.d) p7.os = w7 at hb7 ⊢
        go_wp2
        go_roundw
        case rel => exact ⟨k + 1, by omega, by go_num, Lib.hid (fun j a b hj ha hb => by
            rcases Nat.lt_or_ge j k with h1 | h1
            · exact hq.out j a b h1 ha hb
            · obtain rfl : j = k := by omega
              rw [HP1.out] at ha
              rw [HP2.out] at hb
              cases ha; cases hb
              exact HQ.out), hb7⟩
        case measure => simp [intOf]; omega
    · obtain rfl : k = n1 := by omega
      have HGs : Hid (gsEqB (x.gs.map Prod.fst) (y.gs.map Prod.fst) = true) := Lib.hid (by
        refine gsEqB_all (by rw [List.length_map, List.length_map, HN1.out, HN2.out, HZ1.out]) fun j a b ha hb => ?_
        obtain ⟨a, ha2, rfl⟩ := map_at ha
        obtain ⟨b, hb2, rfl⟩ := map_at hb
        exact hq.out j a b (by rw [← HN1.out]; exact (List.getElem?_eq_some_iff.1 ha2).1) ha2 hb2)
      have c2 := (HA.out.kept hbw).cell 2
      simp only [List.getElem?_toArray, List.getElem?_cons_succ, List.getElem?_cons_zero] at c2
      clear hq hlt
      go_wp2
      clear c2
      go_loopw [6, 52] (fun _ i wr => ∃ k : Nat, k ≤ m1 ∧ i = .int .i64 k ∧ Hid (x.cs.take k = y.cs.take k) ∧ Below w0.heap.size w0 wr) (fun _ i _ => m1 - (intOf i).toNat)
      case atStart => exact ⟨0, by omega, rfl, Lib.hid rfl, hbw⟩
      case round =>
        obtain ⟨k, hk, rfl, hh, hbw⟩ := hrel
        have hbw0 := HbX.out.trans (hbw.mono HbX.out.size)
        by_cases hlt : k < m1
        · have hlt1 : k < x.cs.length := by rw [HM1.out]; exact hlt
          have hlt2 : k < y.cs.length := by rw [HM2.out, ← HZ2.out]; exact hlt
          obtain ⟨b1, o1, hpa, hb1, hc⟩ := (HX.out.rc.below hbw0).range (fun _ _ => rfl) hlt1 rfl
          obtain ⟨b2, o2, hpb, hb2, hc2⟩ := (HY.out.rc.below hbw0).range (fun _ _ => rfl) hlt2 rfl
          have s1 := (HA.out.kept hbw).cell 2
          have s2 := (HB.out.kept hbw).cell 2
          simp only [List.getElem?_toArray, List.getElem?_cons_succ, List.getElem?_cons_zero] at s1 s2
          rw [hpa] at s1
          rw [hpb, ← HZ2.out] at s2
          have hs : ∀ i, (wr.drewN i).cell? ⟨w.heap.size, 2, none⟩ = some (.slice (some ⟨b1, o1, none⟩) m1 c2) := fun i => s1
          have hs2 : ∀ i, (wr.drewN i).cell? ⟨w.heap.size + 1, 2, none⟩ = some (.slice (some ⟨b2, o2, none⟩) m1 d2) := fun i => s2
          clear hpa hpb hb1 hb2
          have hi : (Try.prog.info? 77).map (·.size) = some (encCh x.cs[k]).length := by rw [len_Ch trivial]; kernel_rfl
          have hi2 : (Try.prog.info? 77).map (·.size) = some (encCh y.cs[k]).length := by rw [len_Ch trivial]; kernel_rfl
          have hc := range_drawn hc
          have hc2 := range_drawn hc2
          have hE := fun W => ne_Ch W x.cs[k] y.cs[k]
          have hstep := Lib.hid (fun he => take_step hh.out hlt1 hlt2 he)
          have hbad : Hid (x.cs[k] ≠ y.cs[k] → bb = false) := Lib.hid (fun h => by
            rw [← HBB.out, ← Bool.not_eq_true]
            intro hg
            simp only [Bool.and_eq_true, decide_eq_true_eq] at hg
            have e := hg.2
            exact h (by simp only [e]))
          generalize x.cs[k] = p at *
          generalize y.cs[k] = r at *
          by_cases hxy : p = r
          · have HXY := Lib.hid hxy
            rw [decide_eq_true hxy] at hE
            clear hxy
            go_wp2
            refine wp_region_quiet_lit (by kernel_rfl) (by kernel_rfl) ?_
            iterate 4 (quiet_step ((fail)))
            refine wpQuiet_load 77 (.tmp 58) rfl b1 (o1 + k * 8) (by rfl) (encCh p) _ hc Try.underlying77 rfl hi (by kernel_rfl) ?_
            iterate 4 (quiet_step ((fail)))
            refine wpQuiet_load 77 (.tmp 63) rfl b2 (o2 + k * 8) (by rfl) (encCh r) _ hc2 Try.underlying77 rfl hi2 (by kernel_rfl) ?_
            quiet_step ((fail))
            refine wpQuiet_nil ?_
            intro _ hw'
            obtain ⟨nq, hw''⟩ := hw'
            subst hw''
            go_wp2
            go_roundw
            case rel => exact ⟨k + 1, by omega, by go_num, Lib.hid (hstep.out HXY.out), below_drewN hbw _⟩
            case measure => simp [intOf]; omega
          · have HXY := Lib.hid hxy
            rw [decide_eq_false hxy] at hE
            clear hxy
            go_wp2
            refine wp_region_quiet_lit (by kernel_rfl) (by kernel_rfl) ?_
            iterate 4 (quiet_step ((fail)))
            refine wpQuiet_load 77 (.tmp 58) rfl b1 (o1 + k * 8) (by rfl) (encCh p) _ hc Try.underlying77 rfl hi (by kernel_rfl) ?_
            iterate 4 (quiet_step ((fail)))
            refine wpQuiet_load 77 (.tmp 63) rfl b2 (o2 + k * 8) (by rfl) (encCh r) _ hc2 Try.underlying77 rfl hi2 (by kernel_rfl) ?_
            quiet_step ((fail))
            refine wpQuiet_nil ?_
            intro _ hw'
            obtain ⟨nq, hw''⟩ := hw'
            subst hw''
            go_wp2
            go_ret
            exact ⟨by rw [hbad.out HXY.out]; rfl, below_drewN hbw0 _⟩
        · have hkk : k = m1 := by omega
          have hf : bb = true := by
            have e := hh.out
            rw [List.take_of_length_le (by rw [HM1.out, hkk]; exact Nat.le_refl _), List.take_of_length_le (by rw [HM2.out, ← HZ2.out, hkk]; exact Nat.le_refl _)] at e
            rw [← HBB.out, HQ0.out, HGs.out, decide_eq_true e]; rfl
          subst hkk
          subst hf
          go_wp2
          go_ret
          exact ⟨rfl, hbw0⟩
end Go.Proofs.Ytmhbpfclfffgkaa
