/- Chapter 27: which manifests are alike, as the document says. -/
import Derived.Test.YtjjbpiejplfbpaaPolK
namespace Go.Proofs.Ytjjbpiejplfbpaa
set_option linter.unusedVariables false
open Go.RowKit Go.Sort

theorem bne_eq_false_of_eq {a b : Int} (h : a = b) : (a != b) = false := by rw [bne_eq_false_iff_eq]; exact h
set_option maxRecDepth 100000 in
set_option maxHeartbeats 8000000 in
theorem refSame_any (a b : Mf) (w : World) (ha : MfOk w w.heap.size a) (hb : MfOk w w.heap.size b) (hna : a.n ≤ 100000) (hna2 : a.n2 ≤ 100000) :
    Calls Try.prog 14 #[.agg a.cs.toArray, .agg b.cs.toArray] w fun e w' => e = .returned (.bool (mfEq a b)) ∧ Below w.heap.size w w' := by
  have HMa := Lib.hid ha
  have HMb := Lib.hid hb
  have hsa : a.cs.toArray.size = 71 := by simp [Mf.len ha.rl]
  have hsb : b.cs.toArray.size = 71 := by simp [Mf.len hb.rl]
  have HA := Lib.hid ((Blk.new w 55 a.cs.toArray).alloc (.cells b.cs.toArray 55))
  have HB : Hid (Blk ((w.alloc (.cells a.cs.toArray 55)).alloc (.cells b.cs.toArray 55)) (w.heap.size + 1) 55 b.cs.toArray) := Lib.hid (by
    have := Blk.new (w.alloc (.cells a.cs.toArray 55)) 55 b.cs.toArray
    simpa using this)
  have HbX := Lib.hid (bal (bal (Below.refl w.heap.size w) (.cells a.cs.toArray 55)) (.cells b.cs.toArray 55))
  obtain ⟨c69, c70⟩ := mcellL ha.rl HA.out
  obtain ⟨d69, d70⟩ := mcellL hb.rl HB.out
  obtain ⟨c0, c1, c2, c3, c4⟩ := mcell HA.out
  obtain ⟨d0, d1, d2, d3, d4⟩ := mcell HB.out
  have HRa := Lib.hid (mRange ha.rl HA.out)
  have HRb := Lib.hid (mRange hb.rl HB.out)
  have Hia : Hid ((Try.prog.info? 51).map (·.size) = some (a.regs.flatMap encB).length) := Lib.hid (by rw [flatB_len, ha.rl]; kernel_rfl)
  have Hib : Hid ((Try.prog.info? 51).map (·.size) = some (b.regs.flatMap encB).length) := Lib.hid (by rw [flatB_len, hb.rl]; kernel_rfl)
  have hE := fun W => regs_neq W ha.rl hb.rl
  have HLog := Lib.hid (fun W (h : Below w.heap.size w W) => sameLog_any a.A a.n a.c a.log b.A b.n b.c b.log W (by omega) ha.ll hb.ll ha.lo hb.lo ((ha.lr.below h).more h.size) ((hb.lr.below h).more h.size))
  have Hn := Lib.hid hna2
  clear ha hb hna hna2
  by_cases h1 : a.ver = b.ver
  case neg =>
    · have HF := Lib.hid (show mfEq a b = false by unfold mfEq; exact decide_eq_false (fun h => h1 h.1))
      have x1 := bne_iff_ne.2 h1
      clear h1
      go_enter Try.func14, Try.ntmps14
      go_wp2
      go_ret
      exact ⟨by rw [HF.out]; rfl, HbX.out⟩
  have x1 := bne_eq_false_of_eq h1
  have H1 := Lib.hid h1
  clear h1
  by_cases h2 : a.vt = b.vt
  case neg =>
    · have HF := Lib.hid (show mfEq a b = false by unfold mfEq; exact decide_eq_false (fun h => h2 h.2.1))
      have x2 := bne_iff_ne.2 h2
      clear h2
      go_enter Try.func14, Try.ntmps14
      go_wp2
      go_ret
      exact ⟨by rw [HF.out]; rfl, HbX.out⟩
  have x2 := bne_eq_false_of_eq h2
  have H2 := Lib.hid h2
  clear h2
  by_cases h3 : a.irq = b.irq
  case neg =>
    · have HF := Lib.hid (show mfEq a b = false by unfold mfEq; exact decide_eq_false (fun h => h3 h.2.2.1))
      have x3 := bne_iff_ne.2 h3
      clear h3
      go_enter Try.func14, Try.ntmps14
      go_wp2
      go_ret
      exact ⟨by rw [HF.out]; rfl, HbX.out⟩
  have x3 := bne_eq_false_of_eq h3
  have H3 := Lib.hid h3
  clear h3
  by_cases h4 : a.str = b.str
  case neg =>
    · have HF := Lib.hid (show mfEq a b = false by unfold mfEq; exact decide_eq_false (fun h => h4 h.2.2.2.1))
      have x4 := bne_iff_ne.2 h4
      clear h4
      go_enter Try.func14, Try.ntmps14
      go_wp2
      go_ret
      exact ⟨by rw [HF.out]; rfl, HbX.out⟩
  have x4 := bne_eq_false_of_eq h4
  have H4 := Lib.hid h4
  clear h4
  by_cases h5 : a.fr = b.fr
  case neg =>
    · have HF := Lib.hid (show mfEq a b = false by unfold mfEq; exact decide_eq_false (fun h => h5 h.2.2.2.2.1))
      have x5 := bne_iff_ne.2 h5
      clear h5
      go_enter Try.func14, Try.ntmps14
      go_wp2
      go_ret
      exact ⟨by rw [HF.out]; rfl, HbX.out⟩
  have x5 := bne_eq_false_of_eq h5
  have H5 := Lib.hid h5
  clear h5
  obtain ⟨R6, hR6⟩ : ∃ R, decide (a.regs = b.regs) = R := ⟨_, rfl⟩
  obtain ⟨R7, hR7⟩ : ∃ R, decide (a.log = b.log) = R := ⟨_, rfl⟩
  obtain ⟨R8, hR8⟩ : ∃ R, decide (a.gs = b.gs) = R := ⟨_, rfl⟩
  have HF := Lib.hid (show mfEq a b = (R6 && R7 && R8) by
    unfold mfEq
    rw [← hR6, ← hR7, ← hR8, Bool.eq_iff_iff]
    simp only [decide_eq_true_eq, Bool.and_eq_true]
    exact ⟨fun h => ⟨⟨h.2.2.2.2.2.1, h.2.2.2.2.2.2.1⟩, h.2.2.2.2.2.2.2⟩, fun h => ⟨H1.out, H2.out, H3.out, H4.out, H5.out, h.1.1, h.1.2, h.2⟩⟩)
  rw [hR6] at hE
  rw [hR7] at HLog
  have HR8 := Lib.hid hR8
  clear hR6 hR7 hR8
  generalize a.regs.flatMap encB = ra at *
  generalize b.regs.flatMap encB = rb at *
  cases R6 with
  | false =>
    go_enter Try.func14, Try.ntmps14
    go_wp2_with
      (first
        | (refine wpList_load_want (by kernel_rfl) 51 (.tmp 40) rfl w.heap.size 5 (by rfl) ra _ HRa.out Try.underlying51 rfl Hia.out ?_)
        | (refine wpList_load_want (by kernel_rfl) 51 (.tmp 42) rfl (w.heap.size + 1) 5 (by rfl) rb _ HRb.out Try.underlying51 rfl Hib.out ?_)
        | (go_at_call 21; refine (HLog.out _ HbX.out).mono ?_; rintro e w1 ⟨rfl, hb1⟩; have hA1 := HA.out.kept hb1; have hB1 := HB.out.kept hb1; obtain ⟨f69, f70⟩ := mcellL HMa.out.rl hA1; obtain ⟨g69, g70⟩ := mcellL HMb.out.rl hB1; have hbx1 := HbX.out.trans (hb1.mono HbX.out.size)))
    go_ret
    exact ⟨by rw [HF.out]; rfl, HbX.out⟩
  | true =>
    cases R7 with
    | false =>
      go_enter Try.func14, Try.ntmps14
      go_wp2_with
        (first
          | (refine wpList_load_want (by kernel_rfl) 51 (.tmp 40) rfl w.heap.size 5 (by rfl) ra _ HRa.out Try.underlying51 rfl Hia.out ?_)
          | (refine wpList_load_want (by kernel_rfl) 51 (.tmp 42) rfl (w.heap.size + 1) 5 (by rfl) rb _ HRb.out Try.underlying51 rfl Hib.out ?_)
          | (go_at_call 21; refine (HLog.out _ HbX.out).mono ?_; rintro e w1 ⟨rfl, hb1⟩; have hA1 := HA.out.kept hb1; have hB1 := HB.out.kept hb1; obtain ⟨f69, f70⟩ := mcellL HMa.out.rl hA1; obtain ⟨g69, g70⟩ := mcellL HMb.out.rl hB1; have hbx1 := HbX.out.trans (hb1.mono HbX.out.size)))
      go_ret
      exact ⟨by rw [HF.out]; rfl, hbx1⟩
    | true =>
      by_cases hnn : a.n2 = b.n2
      · have z1 : ((a.n2 : Int) != (b.n2 : Int)) = false := by rw [bne_eq_false_iff_eq]; omega
        have HNN := Lib.hid hnn
        clear hnn
        go_enter Try.func14, Try.ntmps14
        go_wp2_with
          (first
            | (refine wpList_load_want (by kernel_rfl) 51 (.tmp 40) rfl w.heap.size 5 (by rfl) ra _ HRa.out Try.underlying51 rfl Hia.out ?_)
            | (refine wpList_load_want (by kernel_rfl) 51 (.tmp 42) rfl (w.heap.size + 1) 5 (by rfl) rb _ HRb.out Try.underlying51 rfl Hib.out ?_)
            | (go_at_call 21; refine (HLog.out _ HbX.out).mono ?_; rintro e w1 ⟨rfl, hb1⟩; have hA1 := HA.out.kept hb1; have hB1 := HB.out.kept hb1; obtain ⟨f69, f70⟩ := mcellL HMa.out.rl hA1; obtain ⟨g69, g70⟩ := mcellL HMb.out.rl hB1; have hbx1 := HbX.out.trans (hb1.mono HbX.out.size)))
        have HA1 := Lib.hid hA1
        have HB1 := Lib.hid hB1
        clear hA1 hB1 hb1 x1 x2 x3 x4 x5 z1 hE c0 c1 c2 c3 c4 d0 d1 d2 d3 d4 c69 c70 d69 d70 f69 f70 g69 g70
        have Hl := Lib.hid HMa.out.gl
        have Hl2 := Lib.hid (HMb.out.gl.trans HNN.out.symm)
        go_loopw [5, 66] (fun _ i wr => ∃ k : Nat, k ≤ a.n2 ∧ i = .int .i64 k ∧ Hid (a.gs.take k = b.gs.take k) ∧ Below w1.heap.size w1 wr) (fun _ i _ => a.n2 - (intOf i).toNat)
        case atStart => exact ⟨0, by omega, rfl, Lib.hid rfl, Below.refl _ _⟩
        case round =>
          obtain ⟨k, hk, rfl, hh, hb⟩ := hrel
          have hn := Hn.out
          by_cases hlt : k < a.n2
          · have hbw := hbx1.trans (hb.mono hbx1.size)
            have hlt1 : k < a.gs.length := by rw [Hl.out]; exact hlt
            have hlt2 : k < b.gs.length := by rw [Hl2.out]; exact hlt
            obtain ⟨b1, o1, hpa, hbb, hc⟩ := (HMa.out.gr.below hbw).range (fun x hx => st_len (HMa.out.go x hx)) hlt1 HMa.out.gl
            obtain ⟨b2, o2, hpb, hbb2, hc2⟩ := (HMb.out.gr.below hbw).range (fun x hx => st_len (HMb.out.go x hx)) hlt2 HMb.out.gl
            have ok1 := HMa.out.go _ (List.getElem_mem hlt1)
            have ok2 := HMb.out.go _ (List.getElem_mem hlt2)
            have hi : (Try.prog.info? 72).map (·.size) = some (encSt a.gs[k]).length := by rw [st_len ok1]; kernel_rfl
            have hi2 : (Try.prog.info? 72).map (·.size) = some (encSt b.gs[k]).length := by rw [st_len ok2]; kernel_rfl
            have hc := range_drawn hc
            have hc2 := range_drawn hc2
            have hE := fun W => st_neq W ok1 ok2
            have f70 := (mcellL HMa.out.rl (HA1.out.kept hb)).2
            have g70 := (mcellL HMb.out.rl (HB1.out.kept hb)).2
            rw [hpa] at f70
            rw [hpb, ← HNN.out] at g70
            clear hpa hpb
            have hstep := Lib.hid (fun he => take_step hh.out hlt1 hlt2 he)
            have hbad : Hid (a.gs[k] ≠ b.gs[k] → R8 = false) := Lib.hid (fun h => by rw [← HR8.out]; exact decide_eq_false (fun e => h (by simp only [e])))
            clear ok1 ok2
            generalize a.gs[k] = x at *
            generalize b.gs[k] = y at *
            by_cases hxy : x = y
            · rw [decide_eq_true hxy] at hE
              have HX := Lib.hid hxy
              clear hxy
              go_wp2
              refine wp_region_quiet_lit (by kernel_rfl) (by kernel_rfl) ?_
              iterate 4 (quiet_step ((fail)))
              refine wpQuiet_load 72 (.tmp 72) rfl b1 (o1 + k * 6) (by rfl) (encSt x) _ hc Try.underlying72 rfl hi (by kernel_rfl) ?_
              iterate 4 (quiet_step ((fail)))
              refine wpQuiet_load 72 (.tmp 77) rfl b2 (o2 + k * 6) (by rfl) (encSt y) _ hc2 Try.underlying72 rfl hi2 (by kernel_rfl) ?_
              quiet_step ((fail))
              refine wpQuiet_nil ?_
              intro _ hw'
              obtain ⟨nq, hw''⟩ := hw'
              subst hw''
              go_wp2
              go_roundw
              case rel => exact ⟨k + 1, by omega, by go_num, Lib.hid (hstep.out HX.out), below_drewN hb _⟩
              case measure => simp [intOf]; omega
            · rw [decide_eq_false hxy] at hE
              have HX := Lib.hid hxy
              clear hxy
              go_wp2
              refine wp_region_quiet_lit (by kernel_rfl) (by kernel_rfl) ?_
              iterate 4 (quiet_step ((fail)))
              refine wpQuiet_load 72 (.tmp 72) rfl b1 (o1 + k * 6) (by rfl) (encSt x) _ hc Try.underlying72 rfl hi (by kernel_rfl) ?_
              iterate 4 (quiet_step ((fail)))
              refine wpQuiet_load 72 (.tmp 77) rfl b2 (o2 + k * 6) (by rfl) (encSt y) _ hc2 Try.underlying72 rfl hi2 (by kernel_rfl) ?_
              quiet_step ((fail))
              refine wpQuiet_nil ?_
              intro _ hw'
              obtain ⟨nq, hw''⟩ := hw'
              subst hw''
              go_wp2
              go_ret
              exact ⟨by rw [HF.out, hbad.out HX.out]; rfl, below_drewN hbw _⟩
          · have hkk : k = a.n2 := by omega
            go_wp2
            go_ret
            have e := hh.out
            rw [List.take_of_length_le (by rw [Hl.out, hkk]; exact Nat.le_refl _), List.take_of_length_le (by rw [Hl2.out, hkk]; exact Nat.le_refl _)] at e
            exact ⟨by rw [HF.out, ← HR8.out, decide_eq_true e]; rfl, hbx1.trans (hb.mono hbx1.size)⟩
      · have z1 : ((a.n2 : Int) != (b.n2 : Int)) = true := by rw [bne_iff_ne]; omega
        have HF8 := Lib.hid (show R8 = false by rw [← HR8.out]; exact decide_eq_false (fun e => hnn (by rw [← HMa.out.gl, ← HMb.out.gl, e])))
        clear hnn
        go_enter Try.func14, Try.ntmps14
        go_wp2_with
          (first
            | (refine wpList_load_want (by kernel_rfl) 51 (.tmp 40) rfl w.heap.size 5 (by rfl) ra _ HRa.out Try.underlying51 rfl Hia.out ?_)
            | (refine wpList_load_want (by kernel_rfl) 51 (.tmp 42) rfl (w.heap.size + 1) 5 (by rfl) rb _ HRb.out Try.underlying51 rfl Hib.out ?_)
            | (go_at_call 21; refine (HLog.out _ HbX.out).mono ?_; rintro e w1 ⟨rfl, hb1⟩; have hA1 := HA.out.kept hb1; have hB1 := HB.out.kept hb1; obtain ⟨f69, f70⟩ := mcellL HMa.out.rl hA1; obtain ⟨g69, g70⟩ := mcellL HMb.out.rl hB1; have hbx1 := HbX.out.trans (hb1.mono HbX.out.size)))
        go_ret
        exact ⟨by rw [HF.out, HF8.out]; rfl, hbx1⟩
end Go.Proofs.Ytjjbpiejplfbpaa
