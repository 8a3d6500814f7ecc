/- Chapter 14: which guests are alike, as the document says; walked: the rows. (Printed by cfs.py.) -/
import Derived.Test.YtmhbpfclfffgkaaCfSc
namespace Go.Proofs.Ytmhbpfclfffgkaa
set_option linter.unusedVariables false
set_option linter.unusedSimpArgs false
open Go.RowKit Go.Sort

theorem gEqB_ws {a b : Gs} (h : gEqB a b = true) : a.ws = b.ws ∧ a.ds = b.ds ∧ a.qs = b.qs ∧ a.ss = b.ss := by
  unfold gEqB at h
  simp only [Bool.and_eq_true, decide_eq_true_eq] at h
  exact ⟨h.1.1.1.2, h.1.1.2, h.1.2, h.2⟩
theorem gEqB_all {a b : Gs} (hk : ((((((((a.nm.toList == b.nm.toList) && (a.mand == b.mand)) && (a.off == b.off)) && (a.len == b.len)) && (a.cpus == b.cpus)) && (a.entry == b.entry)) && (a.dtb == b.dtb)) && decide (a.key = b.key)) = true) (h1 : a.ws = b.ws) (h2 : a.ds = b.ds) (h3 : a.qs = b.qs) (h4 : a.ss = b.ss) : gEqB a b = true := by
  unfold gEqB
  rw [hk, decide_eq_true h1, decide_eq_true h2, decide_eq_true h3, decide_eq_true h4]; rfl
set_option maxRecDepth 100000 in
set_option maxHeartbeats 8000000 in
theorem rsg_rows (a b : Gs × Gp) (w : World) (ha : GsR w w.heap.size a) (hb : GsR w w.heap.size b) (hk : ((((((((a.1.nm.toList == b.1.nm.toList) && (a.1.mand == b.1.mand)) && (a.1.off == b.1.off)) && (a.1.len == b.1.len)) && (a.1.cpus == b.1.cpus)) && (a.1.entry == b.1.entry)) && (a.1.dtb == b.1.dtb)) && decide (a.1.key = b.1.key)) = true) :
    Calls Try.prog 33 #[.agg (gcells a).toArray, .agg (gcells b).toArray] w fun e w' => e = .returned (.bool (gEqB a.1 b.1)) ∧ Below w.heap.size w w' := by
  obtain ⟨bb, hbb⟩ : ∃ bb, gEqB a.1 b.1 = bb := ⟨_, rfl⟩
  rw [hbb]
  have HBB := Lib.hid hbb
  have HK := Lib.hid hk
  have HMa := Lib.hid ha
  have HMb := Lib.hid hb
  have HA := Lib.hid ((Blk.new w 70 (gcells a).toArray).alloc (.cells (gcells b).toArray 70))
  have HB : Hid (Blk ((w.alloc (.cells (gcells a).toArray 70)).alloc (.cells (gcells b).toArray 70)) (w.heap.size + 1) 70 (gcells b).toArray) := Lib.hid (by
    have := Blk.new (w.alloc (.cells (gcells a).toArray 70)) 70 (gcells b).toArray
    simpa using this)
  have HbX := Lib.hid (bal (bal (Below.refl w.heap.size w) (.cells (gcells a).toArray 70)) (.cells (gcells b).toArray 70))
  have HGa := Lib.hid (gst_cells HA.out ha.kl)
  have HGb := Lib.hid (gst_cells HB.out hb.kl)
  obtain ⟨c0, c1, c2, c3, c4, c5, c6, -, -, -, -, -⟩ := HGa.out
  obtain ⟨d0, d1, d2, d3, d4, d5, d6, -, -, -, -, -⟩ := HGb.out
  have Hia : Hid ((Try.prog.info? 64).map (·.size) = some (a.1.key.flatMap encB).length) := Lib.hid (by rw [flatB_len, ha.kl]; kernel_rfl)
  have Hib : Hid ((Try.prog.info? 64).map (·.size) = some (b.1.key.flatMap encB).length) := Lib.hid (by rw [flatB_len, hb.kl]; kernel_rfl)
  have hE := fun W => key_neq W ha.kl hb.kl
  obtain ⟨x0, h0⟩ : ∃ x, (a.1.nm.toList == b.1.nm.toList) = x := ⟨_, rfl⟩
  have e0 : (a.1.nm.toList != b.1.nm.toList) = !x0 := by rw [bne, h0]
  obtain ⟨x1, h1⟩ : ∃ x, (a.1.mand == b.1.mand) = x := ⟨_, rfl⟩
  have e1 : (a.1.mand != b.1.mand) = !x1 := by rw [bne, h1]
  obtain ⟨x2, h2⟩ : ∃ x, (a.1.off == b.1.off) = x := ⟨_, rfl⟩
  have e2 : (a.1.off != b.1.off) = !x2 := by rw [bne, h2]
  obtain ⟨x3, h3⟩ : ∃ x, (a.1.len == b.1.len) = x := ⟨_, rfl⟩
  have e3 : (a.1.len != b.1.len) = !x3 := by rw [bne, h3]
  obtain ⟨x4, h4⟩ : ∃ x, (a.1.cpus == b.1.cpus) = x := ⟨_, rfl⟩
  have e4 : (a.1.cpus != b.1.cpus) = !x4 := by rw [bne, h4]
  obtain ⟨x5, h5⟩ : ∃ x, (a.1.entry == b.1.entry) = x := ⟨_, rfl⟩
  have e5 : (a.1.entry != b.1.entry) = !x5 := by rw [bne, h5]
  obtain ⟨x6, h6⟩ : ∃ x, (a.1.dtb == b.1.dtb) = x := ⟨_, rfl⟩
  have e6 : (a.1.dtb != b.1.dtb) = !x6 := by rw [bne, h6]
  obtain ⟨x7, h7⟩ : ∃ x, (decide (a.1.key = b.1.key)) = x := ⟨_, rfl⟩
  rw [h7] at hE
  rw [h0, h1, h2, h3, h4, h5, h6, h7] at hk
  simp only [Bool.and_eq_true] at hk
  obtain ⟨⟨⟨⟨⟨⟨⟨k0, k1⟩, k2⟩, k3⟩, k4⟩, k5⟩, k6⟩, k7⟩ := hk
  subst k0 k1 k2 k3 k4 k5 k6 k7
  clear ha hb hbb h7
  simp only [Bool.not_true] at *
  go_enter Try.func33, Try.ntmps33
  go_upto_region 3 with (first
    | (refine wpList_load_want (by kernel_rfl) 64 (.tmp 59) rfl (w.heap.size + 1) 7 (by rfl) (b.1.key.flatMap encB) _ HGb.out.key Try.underlying64 rfl Hib.out ?_)
    | (refine wpList_load_want (by kernel_rfl) 64 (.tmp 57) rfl w.heap.size 7 (by rfl) (a.1.key.flatMap encB) _ HGa.out.key Try.underlying64 rfl Hia.out ?_))
  clear hE c0 c1 c2 c3 c4 c5 c6 d0 d1 d2 d3 d4 d5 d6 e0 e1 e2 e3 e4 e5 e6 h0 h1 h2 h3 h4 h5 h6
  have HA := HA.out
  have HB := HB.out
  have hbX := HbX.out
  clear HGa HGb HbX
  generalize (w.alloc (.cells (gcells a).toArray 70)).alloc (.cells (gcells b).toArray 70) = w1 at *
  obtain ⟨-, -, -, -, -, -, -, c75, c76, c77, c78, -⟩ := gst_cells HA HMa.out.kl
  obtain ⟨-, -, -, -, -, -, -, d75, d76, d77, d78, -⟩ := gst_cells HB HMb.out.kl
  have HA := Lib.hid HA
  have HB := Lib.hid HB
  obtain ⟨nW, hnW⟩ : ∃ n, a.1.ws.length = n := ⟨_, rfl⟩
  obtain ⟨mW, hmW⟩ : ∃ n, b.1.ws.length = n := ⟨_, rfl⟩
  have HNW := Lib.hid hnW
  have HMW := Lib.hid hmW
  have hxW : nW ≤ 9223372036854775807 := by rw [← hnW]; exact rows_ml (Nat.le_trans HMa.out.lW.1 HMa.out.lW.2)
  obtain ⟨nD, hnD⟩ : ∃ n, a.1.ds.length = n := ⟨_, rfl⟩
  obtain ⟨mD, hmD⟩ : ∃ n, b.1.ds.length = n := ⟨_, rfl⟩
  have HND := Lib.hid hnD
  have HMD := Lib.hid hmD
  have hxD : nD ≤ 9223372036854775807 := by rw [← hnD]; exact rows_ml (Nat.le_trans HMa.out.lD.1 HMa.out.lD.2)
  obtain ⟨nI, hnI⟩ : ∃ n, a.1.qs.length = n := ⟨_, rfl⟩
  obtain ⟨mI, hmI⟩ : ∃ n, b.1.qs.length = n := ⟨_, rfl⟩
  have HNI := Lib.hid hnI
  have HMI := Lib.hid hmI
  have hxI : nI ≤ 9223372036854775807 := by rw [← hnI]; exact rows_ml (Nat.le_trans HMa.out.lI.1 HMa.out.lI.2)
  obtain ⟨nS, hnS⟩ : ∃ n, a.1.ss.length = n := ⟨_, rfl⟩
  obtain ⟨mS, hmS⟩ : ∃ n, b.1.ss.length = n := ⟨_, rfl⟩
  have HNS := Lib.hid hnS
  have HMS := Lib.hid hmS
  have hxS : nS ≤ 9223372036854775807 := by rw [← hnS]; exact rows_ml (Nat.le_trans HMa.out.lS.1 HMa.out.lS.2)
  rw [hnW] at c75
  rw [hmW] at d75
  rw [hnD] at c76
  rw [hmD] at d76
  rw [hnI] at c77
  rw [hmI] at d77
  rw [hnS] at c78
  rw [hmS] at d78
  clear hnW hnD hnI hnS hmW hmD hmI hmS
  by_cases zW : nW = mW
  case neg =>
    have yW : ((nW : Int) != (mW : Int)) = true := by rw [bne_iff_ne]; omega
    have hf : bb = false := by
      rw [← HBB.out, ← Bool.not_eq_true]
      intro h
      apply zW
      rw [← HNW.out, ← HMW.out, (gEqB_ws h).1]
    subst hf
    clear zW
    go_wp2
    go_ret
    exact ⟨rfl, hbX⟩
  have yW : ((nW : Int) != (mW : Int)) = false := by rw [bne_eq_false_iff_eq]; omega
  by_cases zD : nD = mD
  case neg =>
    have yD : ((nD : Int) != (mD : Int)) = true := by rw [bne_iff_ne]; omega
    have hf : bb = false := by
      rw [← HBB.out, ← Bool.not_eq_true]
      intro h
      apply zD
      rw [← HND.out, ← HMD.out, (gEqB_ws h).2.1]
    subst hf
    clear zD
    go_wp2
    go_ret
    exact ⟨rfl, hbX⟩
  have yD : ((nD : Int) != (mD : Int)) = false := by rw [bne_eq_false_iff_eq]; omega
  by_cases zI : nI = mI
  case neg =>
    have yI : ((nI : Int) != (mI : Int)) = true := by rw [bne_iff_ne]; omega
    have hf : bb = false := by
      rw [← HBB.out, ← Bool.not_eq_true]
      intro h
      apply zI
      rw [← HNI.out, ← HMI.out, (gEqB_ws h).2.2.1]
    subst hf
    clear zI
    go_wp2
    go_ret
    exact ⟨rfl, hbX⟩
  have yI : ((nI : Int) != (mI : Int)) = false := by rw [bne_eq_false_iff_eq]; omega
  by_cases zS : nS = mS
  case neg =>
    have yS : ((nS : Int) != (mS : Int)) = true := by rw [bne_iff_ne]; omega
    have hf : bb = false := by
      rw [← HBB.out, ← Bool.not_eq_true]
      intro h
      apply zS
      rw [← HNS.out, ← HMS.out, (gEqB_ws h).2.2.2]
    subst hf
    clear zS
    go_wp2
    go_ret
    exact ⟨rfl, hbX⟩
  have yS : ((nS : Int) != (mS : Int)) = false := by rw [bne_eq_false_iff_eq]; omega
  have HZW := Lib.hid zW
  have HZD := Lib.hid zD
  have HZI := Lib.hid zI
  have HZS := Lib.hid zS
  clear zW zD zI zS
  go_wp2
  clear yW yD yI yS c75 c76 c77 c78 d75 d76 d77 d78
  go_loopw [5, 100] (fun _ i wr => ∃ k : Nat, k ≤ nW ∧ i = .int .i64 k ∧ Hid (a.1.ws.take k = b.1.ws.take k) ∧ Below w1.heap.size w1 wr) (fun _ i _ => nW - (intOf i).toNat)
  case atStart => exact ⟨0, by omega, rfl, Lib.hid rfl, Below.refl _ _⟩
  case round =>
    obtain ⟨kW, hkW, rfl, hhW, hbw⟩ := hrel
    by_cases hlt : kW < nW
    · skip
      have hbw0 := hbX.trans (hbw.mono hbX.size)
      have hlt1 : kW < a.1.ws.length := by rw [HNW.out]; exact hlt
      have hlt2 : kW < b.1.ws.length := by rw [HMW.out, ← HZW.out]; exact hlt
      obtain ⟨-, -, -, -, -, -, -, c75, c76, c77, c78, -⟩ := gst_cells (HA.out.kept hbw) HMa.out.kl
      obtain ⟨-, -, -, -, -, -, -, d75, d76, d77, d78, -⟩ := gst_cells (HB.out.kept hbw) HMb.out.kl
      obtain ⟨b1, o1, hpa, hb1, hc⟩ := (HMa.out.rW.below hbw0).range (fun _ _ => rfl) hlt1 rfl
      obtain ⟨b2, o2, hpb, hb2, hc2⟩ := (HMb.out.rW.below hbw0).range (fun _ _ => rfl) hlt2 rfl
      rw [hpa, HNW.out] at c75
      rw [hpb, HMW.out, ← HZW.out] at d75
      clear hpa hpb hb1 hb2
      clear c76 d76
      clear c77 d77
      clear c78 d78
      have hi : (Try.prog.info? 135).map (·.size) = some (encWn a.1.ws[kW]).length := by rw [len_Wn trivial]; kernel_rfl
      have hi2 : (Try.prog.info? 135).map (·.size) = some (encWn b.1.ws[kW]).length := by rw [len_Wn trivial]; kernel_rfl
      have hc := range_drawn hc
      have hc2 := range_drawn hc2
      have hE := fun W => ne_Wn W a.1.ws[kW] b.1.ws[kW]
      have hs : ∀ i, (wr.drewN i).cell? ⟨w.heap.size, 75, none⟩ = some (.slice (some ⟨b1, o1, none⟩) nW a.2.cW) := fun i => c75
      have hs2 : ∀ i, (wr.drewN i).cell? ⟨w.heap.size + 1, 75, none⟩ = some (.slice (some ⟨b2, o2, none⟩) nW b.2.cW) := fun i => d75
      have hstep := Lib.hid (fun he => take_step hhW.out hlt1 hlt2 he)
      have hbad : Hid (a.1.ws[kW] ≠ b.1.ws[kW] → bb = false) := Lib.hid (fun h => by
        rw [← HBB.out, ← Bool.not_eq_true]
        intro hg
        have e := (gEqB_ws hg).1
        exact h (by simp only [e]))
      generalize a.1.ws[kW] = x at *
      generalize b.1.ws[kW] = y at *
      by_cases hxy : x = y
      · have HX := Lib.hid hxy
        rw [decide_eq_true hxy] at hE
        clear hxy
        go_wp2
        refine wp_region_quiet_lit (by kernel_rfl) (by kernel_rfl) ?_
        iterate 4 (quiet_step ((fail)))
        refine wpQuiet_load 135 (.tmp 106) rfl b1 (o1 + kW * 4) (by rfl) (encWn x) _ hc Try.underlying135 rfl hi (by kernel_rfl) ?_
        iterate 4 (quiet_step ((fail)))
        refine wpQuiet_load 135 (.tmp 111) rfl b2 (o2 + kW * 4) (by rfl) (encWn y) _ hc2 Try.underlying135 rfl hi2 (by kernel_rfl) ?_
        quiet_step ((fail))
        refine wpQuiet_nil ?_
        intro _ hw'
        obtain ⟨nq, hw''⟩ := hw'
        subst hw''
        go_wp2
        go_roundw
        case rel => exact ⟨kW + 1, by omega, by go_num, Lib.hid (hstep.out HX.out), below_drewN hbw _⟩
        case measure => simp [intOf]; omega
      · have HX := Lib.hid hxy
        rw [decide_eq_false hxy] at hE
        clear hxy
        go_wp2
        refine wp_region_quiet_lit (by kernel_rfl) (by kernel_rfl) ?_
        iterate 4 (quiet_step ((fail)))
        refine wpQuiet_load 135 (.tmp 106) rfl b1 (o1 + kW * 4) (by rfl) (encWn x) _ hc Try.underlying135 rfl hi (by kernel_rfl) ?_
        iterate 4 (quiet_step ((fail)))
        refine wpQuiet_load 135 (.tmp 111) rfl b2 (o2 + kW * 4) (by rfl) (encWn y) _ hc2 Try.underlying135 rfl hi2 (by kernel_rfl) ?_
        quiet_step ((fail))
        refine wpQuiet_nil ?_
        intro _ hw'
        obtain ⟨nq, hw''⟩ := hw'
        subst hw''
        go_wp2
        go_ret
        exact ⟨by rw [hbad.out HX.out]; rfl, below_drewN hbw0 _⟩
    · have hkk : kW = nW := by omega
      have HQW : Hid (a.1.ws = b.1.ws) := Lib.hid (by
        have e := hhW.out
        rw [List.take_of_length_le (by rw [HNW.out, hkk]; exact Nat.le_refl _), List.take_of_length_le (by rw [HMW.out, ← HZW.out, hkk]; exact Nat.le_refl _)] at e
        exact e)
      subst hkk
      clear hhW hlt hkW
      have c76 := (gst_cells (HA.out.kept hbw) HMa.out.kl).cD
      rw [HND.out] at c76
      go_wp2
      clear c76
      go_loopw [6, 118] (fun _ i wr => ∃ k : Nat, k ≤ nD ∧ i = .int .i64 k ∧ Hid (a.1.ds.take k = b.1.ds.take k) ∧ Below w1.heap.size w1 wr) (fun _ i _ => nD - (intOf i).toNat)
      case atStart => exact ⟨0, by omega, rfl, Lib.hid rfl, hbw⟩
      case round =>
        obtain ⟨kD, hkD, rfl, hhD, hbw⟩ := hrel
        by_cases hlt : kD < nD
        · skip
          have hbw0 := hbX.trans (hbw.mono hbX.size)
          have hlt1 : kD < a.1.ds.length := by rw [HND.out]; exact hlt
          have hlt2 : kD < b.1.ds.length := by rw [HMD.out, ← HZD.out]; exact hlt
          obtain ⟨-, -, -, -, -, -, -, c75, c76, c77, c78, -⟩ := gst_cells (HA.out.kept hbw) HMa.out.kl
          obtain ⟨-, -, -, -, -, -, -, d75, d76, d77, d78, -⟩ := gst_cells (HB.out.kept hbw) HMb.out.kl
          obtain ⟨b1, o1, hpa, hb1, hc⟩ := (HMa.out.rD.below hbw0).range (fun _ _ => rfl) hlt1 rfl
          obtain ⟨b2, o2, hpb, hb2, hc2⟩ := (HMb.out.rD.below hbw0).range (fun _ _ => rfl) hlt2 rfl
          rw [hpa, HND.out] at c76
          rw [hpb, HMD.out, ← HZD.out] at d76
          clear hpa hpb hb1 hb2
          clear c75 d75
          clear c77 d77
          clear c78 d78
          have hi : (Try.prog.info? 137).map (·.size) = some (encDv a.1.ds[kD]).length := by rw [len_Dv trivial]; kernel_rfl
          have hi2 : (Try.prog.info? 137).map (·.size) = some (encDv b.1.ds[kD]).length := by rw [len_Dv trivial]; kernel_rfl
          have hc := range_drawn hc
          have hc2 := range_drawn hc2
          have hE := fun W => ne_Dv W a.1.ds[kD] b.1.ds[kD]
          have hs : ∀ i, (wr.drewN i).cell? ⟨w.heap.size, 76, none⟩ = some (.slice (some ⟨b1, o1, none⟩) nD a.2.cD) := fun i => c76
          have hs2 : ∀ i, (wr.drewN i).cell? ⟨w.heap.size + 1, 76, none⟩ = some (.slice (some ⟨b2, o2, none⟩) nD b.2.cD) := fun i => d76
          have hstep := Lib.hid (fun he => take_step hhD.out hlt1 hlt2 he)
          have hbad : Hid (a.1.ds[kD] ≠ b.1.ds[kD] → bb = false) := Lib.hid (fun h => by
            rw [← HBB.out, ← Bool.not_eq_true]
            intro hg
            have e := (gEqB_ws hg).2.1
            exact h (by simp only [e]))
          generalize a.1.ds[kD] = x at *
          generalize b.1.ds[kD] = y at *
          by_cases hxy : x = y
          · have HX := Lib.hid hxy
            rw [decide_eq_true hxy] at hE
            clear hxy
            go_wp2
            refine wp_region_quiet_lit (by kernel_rfl) (by kernel_rfl) ?_
            iterate 4 (quiet_step ((fail)))
            refine wpQuiet_load 137 (.tmp 124) rfl b1 (o1 + kD * 3) (by rfl) (encDv x) _ hc Try.underlying137 rfl hi (by kernel_rfl) ?_
            iterate 4 (quiet_step ((fail)))
            refine wpQuiet_load 137 (.tmp 129) rfl b2 (o2 + kD * 3) (by rfl) (encDv y) _ hc2 Try.underlying137 rfl hi2 (by kernel_rfl) ?_
            quiet_step ((fail))
            refine wpQuiet_nil ?_
            intro _ hw'
            obtain ⟨nq, hw''⟩ := hw'
            subst hw''
            go_wp2
            go_roundw
            case rel => exact ⟨kD + 1, by omega, by go_num, Lib.hid (hstep.out HX.out), below_drewN hbw _⟩
            case measure => simp [intOf]; omega
          · have HX := Lib.hid hxy
            rw [decide_eq_false hxy] at hE
            clear hxy
            go_wp2
            refine wp_region_quiet_lit (by kernel_rfl) (by kernel_rfl) ?_
            iterate 4 (quiet_step ((fail)))
            refine wpQuiet_load 137 (.tmp 124) rfl b1 (o1 + kD * 3) (by rfl) (encDv x) _ hc Try.underlying137 rfl hi (by kernel_rfl) ?_
            iterate 4 (quiet_step ((fail)))
            refine wpQuiet_load 137 (.tmp 129) rfl b2 (o2 + kD * 3) (by rfl) (encDv y) _ hc2 Try.underlying137 rfl hi2 (by kernel_rfl) ?_
            quiet_step ((fail))
            refine wpQuiet_nil ?_
            intro _ hw'
            obtain ⟨nq, hw''⟩ := hw'
            subst hw''
            go_wp2
            go_ret
            exact ⟨by rw [hbad.out HX.out]; rfl, below_drewN hbw0 _⟩
        · have hkk : kD = nD := by omega
          have HQD : Hid (a.1.ds = b.1.ds) := Lib.hid (by
            have e := hhD.out
            rw [List.take_of_length_le (by rw [HND.out, hkk]; exact Nat.le_refl _), List.take_of_length_le (by rw [HMD.out, ← HZD.out, hkk]; exact Nat.le_refl _)] at e
            exact e)
          subst hkk
          clear hhD hlt hkD
          have c77 := (gst_cells (HA.out.kept hbw) HMa.out.kl).cI
          rw [HNI.out] at c77
          go_wp2
          clear c77
          go_loopw [7, 136] (fun _ i wr => ∃ k : Nat, k ≤ nI ∧ i = .int .i64 k ∧ Hid (a.1.qs.take k = b.1.qs.take k) ∧ Below w1.heap.size w1 wr) (fun _ i _ => nI - (intOf i).toNat)
          case atStart => exact ⟨0, by omega, rfl, Lib.hid rfl, hbw⟩
          case round =>
            obtain ⟨kI, hkI, rfl, hhI, hbw⟩ := hrel
            by_cases hlt : kI < nI
            · skip
              have hbw0 := hbX.trans (hbw.mono hbX.size)
              have hlt1 : kI < a.1.qs.length := by rw [HNI.out]; exact hlt
              have hlt2 : kI < b.1.qs.length := by rw [HMI.out, ← HZI.out]; exact hlt
              obtain ⟨-, -, -, -, -, -, -, c75, c76, c77, c78, -⟩ := gst_cells (HA.out.kept hbw) HMa.out.kl
              obtain ⟨-, -, -, -, -, -, -, d75, d76, d77, d78, -⟩ := gst_cells (HB.out.kept hbw) HMb.out.kl
              obtain ⟨b1, o1, hpa, hb1, hc⟩ := (HMa.out.rI.below hbw0).range (fun _ _ => rfl) hlt1 rfl
              obtain ⟨b2, o2, hpb, hb2, hc2⟩ := (HMb.out.rI.below hbw0).range (fun _ _ => rfl) hlt2 rfl
              rw [hpa, HNI.out] at c77
              rw [hpb, HMI.out, ← HZI.out] at d77
              clear hpa hpb hb1 hb2
              clear c75 d75
              clear c76 d76
              clear c78 d78
              have hi : (Try.prog.info? 139).map (·.size) = some (encIq a.1.qs[kI]).length := by rw [len_Iq trivial]; kernel_rfl
              have hi2 : (Try.prog.info? 139).map (·.size) = some (encIq b.1.qs[kI]).length := by rw [len_Iq trivial]; kernel_rfl
              have hc := range_drawn hc
              have hc2 := range_drawn hc2
              have hE := fun W => ne_Iq W a.1.qs[kI] b.1.qs[kI]
              have hs : ∀ i, (wr.drewN i).cell? ⟨w.heap.size, 77, none⟩ = some (.slice (some ⟨b1, o1, none⟩) nI a.2.cI) := fun i => c77
              have hs2 : ∀ i, (wr.drewN i).cell? ⟨w.heap.size + 1, 77, none⟩ = some (.slice (some ⟨b2, o2, none⟩) nI b.2.cI) := fun i => d77
              have hstep := Lib.hid (fun he => take_step hhI.out hlt1 hlt2 he)
              have hbad : Hid (a.1.qs[kI] ≠ b.1.qs[kI] → bb = false) := Lib.hid (fun h => by
                rw [← HBB.out, ← Bool.not_eq_true]
                intro hg
                have e := (gEqB_ws hg).2.2.1
                exact h (by simp only [e]))
              generalize a.1.qs[kI] = x at *
              generalize b.1.qs[kI] = y at *
              by_cases hxy : x = y
              · have HX := Lib.hid hxy
                rw [decide_eq_true hxy] at hE
                clear hxy
                go_wp2
                refine wp_region_quiet_lit (by kernel_rfl) (by kernel_rfl) ?_
                iterate 4 (quiet_step ((fail)))
                refine wpQuiet_load 139 (.tmp 142) rfl b1 (o1 + kI * 3) (by rfl) (encIq x) _ hc Try.underlying139 rfl hi (by kernel_rfl) ?_
                iterate 4 (quiet_step ((fail)))
                refine wpQuiet_load 139 (.tmp 147) rfl b2 (o2 + kI * 3) (by rfl) (encIq y) _ hc2 Try.underlying139 rfl hi2 (by kernel_rfl) ?_
                quiet_step ((fail))
                refine wpQuiet_nil ?_
                intro _ hw'
                obtain ⟨nq, hw''⟩ := hw'
                subst hw''
                go_wp2
                go_roundw
                case rel => exact ⟨kI + 1, by omega, by go_num, Lib.hid (hstep.out HX.out), below_drewN hbw _⟩
                case measure => simp [intOf]; omega
              · have HX := Lib.hid hxy
                rw [decide_eq_false hxy] at hE
                clear hxy
                go_wp2
                refine wp_region_quiet_lit (by kernel_rfl) (by kernel_rfl) ?_
                iterate 4 (quiet_step ((fail)))
                refine wpQuiet_load 139 (.tmp 142) rfl b1 (o1 + kI * 3) (by rfl) (encIq x) _ hc Try.underlying139 rfl hi (by kernel_rfl) ?_
                iterate 4 (quiet_step ((fail)))
                refine wpQuiet_load 139 (.tmp 147) rfl b2 (o2 + kI * 3) (by rfl) (encIq y) _ hc2 Try.underlying139 rfl hi2 (by kernel_rfl) ?_
                quiet_step ((fail))
                refine wpQuiet_nil ?_
                intro _ hw'
                obtain ⟨nq, hw''⟩ := hw'
                subst hw''
                go_wp2
                go_ret
                exact ⟨by rw [hbad.out HX.out]; rfl, below_drewN hbw0 _⟩
            · have hkk : kI = nI := by omega
              have HQI : Hid (a.1.qs = b.1.qs) := Lib.hid (by
                have e := hhI.out
                rw [List.take_of_length_le (by rw [HNI.out, hkk]; exact Nat.le_refl _), List.take_of_length_le (by rw [HMI.out, ← HZI.out, hkk]; exact Nat.le_refl _)] at e
                exact e)
              subst hkk
              clear hhI hlt hkI
              have c78 := (gst_cells (HA.out.kept hbw) HMa.out.kl).cS
              rw [HNS.out] at c78
              go_wp2
              clear c78
              go_loopw [8, 154] (fun _ i wr => ∃ k : Nat, k ≤ nS ∧ i = .int .i64 k ∧ Hid (a.1.ss.take k = b.1.ss.take k) ∧ Below w1.heap.size w1 wr) (fun _ i _ => nS - (intOf i).toNat)
              case atStart => exact ⟨0, by omega, rfl, Lib.hid rfl, hbw⟩
              case round =>
                obtain ⟨kS, hkS, rfl, hhS, hbw⟩ := hrel
                by_cases hlt : kS < nS
                · skip
                  have hbw0 := hbX.trans (hbw.mono hbX.size)
                  have hlt1 : kS < a.1.ss.length := by rw [HNS.out]; exact hlt
                  have hlt2 : kS < b.1.ss.length := by rw [HMS.out, ← HZS.out]; exact hlt
                  obtain ⟨-, -, -, -, -, -, -, c75, c76, c77, c78, -⟩ := gst_cells (HA.out.kept hbw) HMa.out.kl
                  obtain ⟨-, -, -, -, -, -, -, d75, d76, d77, d78, -⟩ := gst_cells (HB.out.kept hbw) HMb.out.kl
                  obtain ⟨b1, o1, hpa, hb1, hc⟩ := (HMa.out.rS.below hbw0).range (fun _ _ => rfl) hlt1 rfl
                  obtain ⟨b2, o2, hpb, hb2, hc2⟩ := (HMb.out.rS.below hbw0).range (fun _ _ => rfl) hlt2 rfl
                  rw [hpa, HNS.out] at c78
                  rw [hpb, HMS.out, ← HZS.out] at d78
                  clear hpa hpb hb1 hb2
                  clear c75 d75
                  clear c76 d76
                  clear c77 d77
                  have hc := hc 0 _ rfl
                  have hc2 := hc2 0 _ rfl
                  rw [Nat.mul_one, Nat.add_zero] at hc hc2
                  have hc : ∀ i, (wr.drewN i).cell? ⟨b1, o1 + kS, none⟩ = some (.int .u32 a.1.ss[kS]) := fun i => hc
                  have hc2 : ∀ i, (wr.drewN i).cell? ⟨b2, o2 + kS, none⟩ = some (.int .u32 b.1.ss[kS]) := fun i => hc2
                  have hs : ∀ i, (wr.drewN i).cell? ⟨w.heap.size, 78, none⟩ = some (.slice (some ⟨b1, o1, none⟩) nS a.2.cS) := fun i => c78
                  have hs2 : ∀ i, (wr.drewN i).cell? ⟨w.heap.size + 1, 78, none⟩ = some (.slice (some ⟨b2, o2, none⟩) nS b.2.cS) := fun i => d78
                  have hstep := Lib.hid (fun he => take_step hhS.out hlt1 hlt2 he)
                  have hbad : Hid (a.1.ss[kS] ≠ b.1.ss[kS] → bb = false) := Lib.hid (fun h => by
                    rw [← HBB.out, ← Bool.not_eq_true]
                    intro hg
                    have e := (gEqB_ws hg).2.2.2
                    exact h (by simp only [e]))
                  generalize a.1.ss[kS] = x at *
                  generalize b.1.ss[kS] = y at *
                  by_cases hxy : x = y
                  · have HX := Lib.hid hxy
                    have hE : (x != y) = false := by simp [hxy]
                    clear hxy
                    go_wp2
                    refine wp_region_quiet_lit (by kernel_rfl) (by kernel_rfl) ?_
                    iterate 11 (quiet_step ((fail)))
                    refine wpQuiet_nil ?_
                    intro _ hw'
                    obtain ⟨nq, hw''⟩ := hw'
                    subst hw''
                    go_wp2
                    go_roundw
                    case rel => exact ⟨kS + 1, by omega, by go_num, Lib.hid (hstep.out HX.out), below_drewN hbw _⟩
                    case measure => simp [intOf]; omega
                  · have HX := Lib.hid hxy
                    have hE : (x != y) = true := by simp [hxy]
                    clear hxy
                    go_wp2
                    refine wp_region_quiet_lit (by kernel_rfl) (by kernel_rfl) ?_
                    iterate 11 (quiet_step ((fail)))
                    refine wpQuiet_nil ?_
                    intro _ hw'
                    obtain ⟨nq, hw''⟩ := hw'
                    subst hw''
                    go_wp2
                    go_ret
                    exact ⟨by rw [hbad.out HX.out]; rfl, below_drewN hbw0 _⟩
                · have hkk : kS = nS := by omega
                  have HQS : Hid (a.1.ss = b.1.ss) := Lib.hid (by
                    have e := hhS.out
                    rw [List.take_of_length_le (by rw [HNS.out, hkk]; exact Nat.le_refl _), List.take_of_length_le (by rw [HMS.out, ← HZS.out, hkk]; exact Nat.le_refl _)] at e
                    exact e)
                  subst hkk
                  clear hhS hlt hkS
                  have hf : bb = true := by rw [← HBB.out]; exact gEqB_all HK.out HQW.out HQD.out HQI.out HQS.out
                  subst hf
                  go_wp2
                  go_ret
                  exact ⟨rfl, hbX.trans (hbw.mono hbX.size)⟩
theorem rsameGuest_any (a b : Gs × Gp) (w : World) (ha : GsR w w.heap.size a) (hb : GsR w w.heap.size b) :
    Calls Try.prog 33 #[.agg (gcells a).toArray, .agg (gcells b).toArray] w fun e w' => e = .returned (.bool (gEqB a.1 b.1)) ∧ Below w.heap.size w w' := by
  rcases h : ((((((((a.1.nm.toList == b.1.nm.toList) && (a.1.mand == b.1.mand)) && (a.1.off == b.1.off)) && (a.1.len == b.1.len)) && (a.1.cpus == b.1.cpus)) && (a.1.entry == b.1.entry)) && (a.1.dtb == b.1.dtb)) && decide (a.1.key = b.1.key)) with _ | _
  · exact rsg_head a b w ha hb h
  · exact rsg_rows a b w ha hb h
end Go.Proofs.Ytmhbpfclfffgkaa
