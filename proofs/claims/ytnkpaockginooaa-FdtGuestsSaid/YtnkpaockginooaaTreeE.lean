/- Device trees: which are alike; the document's, whole. -/
import Derived.Test.YtnkpaockginooaaTreeC
namespace Go.Proofs.Ytnkpaockginooaa
set_option linter.unusedVariables false
set_option linter.unusedSimpArgs false
open Go.RowKit Go.Sort

theorem pr_parts {w : World} {B : Nat} {p : Pr} {cs : List Value} (h : PrOk w B p cs) : ∃ (x1 : ByteArray) (xA : Option Addr) (xc : Nat) (l : List Int), p = (x1, l) ∧ BytesOk l ∧ cs = [.string x1, .slice xA l.length xc] ∧ Rd w B 1 xA l.length (l.flatMap encB) := by
  obtain ⟨_, hb, A, c, e, _, _, hr⟩ := h
  exact ⟨_, _, _, _, rfl, hb, e, hr⟩
set_option maxRecDepth 100000 in
set_option maxHeartbeats 4000000 in
theorem rsame_any : ∀ (k k2 : Nat) (t1 t2 : Tr) (cs1 cs2 : List Value) (dp : Int) (w : World), TrOk w w.heap.size k t1 cs1 → TrOk w w.heap.size k2 t2 cs2 →
    Calls Try.prog 45 #[.agg cs1.toArray, .agg cs2.toArray, .int .i64 dp] w fun e w' => e = .returned (.bool (eqv t1 t2)) ∧ Below w.heap.size w w'
  | 0, _, _, _, _, _, _, _, h, _ => h.elim
  | k + 1, 0, _, _, _, _, _, _, _, h => h.elim
  | k + 1, k2 + 1, t1, t2, cs1, cs2, dp, w, h, h' => by
    obtain ⟨_, A1, c1, A2, c2, f, g, rfl, h2, h3, h4, h5, h6, h7, h8, h9⟩ := h
    obtain ⟨_, A1', c1', A2', c2', f', g', rfl, h2', h3', h4', h5', h6', h7', h8', h9'⟩ := h'
    unfold maxLen at h3 h5 h3' h5'
    have hn1m : t1.ps.length ≤ 9223372036854775807 := by omega
    have hn2m : t2.ps.length ≤ 9223372036854775807 := by omega
    have hm1m : t1.ks.length ≤ 9223372036854775807 := by omega
    have hm2m : t2.ks.length ≤ 9223372036854775807 := by omega
    obtain ⟨bb, hbb⟩ : ∃ bb, eqv t1 t2 = bb := ⟨_, rfl⟩
    rw [hbb]
    have HBB := Lib.hid hbb
    have HI := Lib.hid (rsame_any k k2)
    have HR := Lib.hid h6
    have HR' := Lib.hid h6'
    have HG := Lib.hid h7
    have HG' := Lib.hid h7'
    have HP := Lib.hid h8
    have HP' := Lib.hid h8'
    have HK := Lib.hid h9
    have HK' := Lib.hid h9'
    obtain ⟨s1, hs1⟩ : ∃ s, t1.nm = s := ⟨_, rfl⟩
    obtain ⟨s2, hs2⟩ : ∃ s, t2.nm = s := ⟨_, rfl⟩
    obtain ⟨n1, hn1⟩ : ∃ n, t1.ps.length = n := ⟨_, rfl⟩
    obtain ⟨n2, hn2⟩ : ∃ n, t2.ps.length = n := ⟨_, rfl⟩
    obtain ⟨m1, hm1⟩ : ∃ n, t1.ks.length = n := ⟨_, rfl⟩
    obtain ⟨m2, hm2⟩ : ∃ n, t2.ks.length = n := ⟨_, rfl⟩
    rw [hn1] at HR hn1m
    rw [hn2] at HR' hn2m
    rw [hm1] at HG hm1m
    rw [hm2] at HG' hm2m
    rw [hs1, hs2, hn1, hn2, hm1, hm2]
    have HN1 := Lib.hid hn1
    have HN2 := Lib.hid hn2
    have HM1 := Lib.hid hm1
    have HM2 := Lib.hid hm2
    have HS1 := Lib.hid hs1
    have HS2 := Lib.hid hs2
    clear h2 h4 h2' h4' h3 h5 h6 h7 h8 h9 h3' h5' h6' h7' h8' h9' hbb hs1 hs2 hn1 hn2 hm1 hm2
    have hb := bal (bal (Below.refl w.heap.size w) (.cells #[.string s1, .slice A1 n1 c1, .slice A2 m1 c2] 25)) (.cells #[.string s2, .slice A1' n2 c1', .slice A2' m2 c2'] 25)
    have hT1 := (Blk.new w 25 #[.string s1, .slice A1 n1 c1, .slice A2 m1 c2]).alloc (.cells #[.string s2, .slice A1' n2 c1', .slice A2' m2 c2'] 25)
    have hT2 : Blk ((w.alloc (.cells #[.string s1, .slice A1 n1 c1, .slice A2 m1 c2] 25)).alloc (.cells #[.string s2, .slice A1' n2 c1', .slice A2' m2 c2'] 25)) (w.heap.size + 1) 25 #[.string s2, .slice A1' n2 c1', .slice A2' m2 c2'] := Blk.fresh _ _ _
    by_cases q1 : s1 = s2 ∧ n1 = n2 ∧ m1 = m2
    · obtain ⟨rfl, rfl, rfl⟩ := q1
      go_enter Try.func45, Try.ntmps45
      go_upto_region 1 with (fail)
      generalize (w.alloc (.cells #[.string s1, .slice A1 n1 c1, .slice A2 m1 c2] 25)).alloc (.cells #[.string s1, .slice A1' n1 c1', .slice A2' m1 c2'] 25) = w1 at *
      have cT1 := hT1.cell
      have cT2 := hT2.cell
      go_wp2
      go_loopw [7, 35] (fun _ i wr => ∃ j : Nat, j ≤ n1 ∧ i = .int .i64 j ∧ Hid (∀ i, i < j → t1.ps[i]? = t2.ps[i]?) ∧ Below w1.heap.size w1 wr) (fun _ i _ => n1 - (intOf i).toNat)
      case atStart => exact ⟨0, by omega, rfl, fun j hj => absurd hj (by omega), Below.refl _ _⟩
      case round =>
        obtain ⟨j, hj, rfl, hq, hbr⟩ := hrel
        have hbw := hb.trans (hbr.mono hb.size)
        clear cT1 cT2
        by_cases hlt : j < n1
        · obtain ⟨p1, hp1⟩ : ∃ p, t1.ps[j]? = some p := ⟨_, List.getElem?_eq_getElem (by rw [HN1.out]; exact hlt)⟩
          obtain ⟨p2, hp2⟩ : ∃ p, t2.ps[j]? = some p := ⟨_, List.getElem?_eq_getElem (by rw [HN2.out]; exact hlt)⟩
          obtain ⟨x1, xA, xc, l1, he1, hx1, hx, hq1⟩ := pr_parts (HP.out j p1 hp1)
          obtain ⟨y1, yA, yc, l2, he2, hy1, hy, hq2⟩ := pr_parts (HP'.out j p2 hp2)
          obtain ⟨b1, o1, rfl, hb1, hd1⟩ := HR.out (by omega)
          obtain ⟨b2, o2, rfl, hb2, hd2⟩ := HR'.out (by omega)
          have hz1 : b1 < wr.heap.size := by have := hbw.size; omega
          have hz2 : b2 < wr.heap.size := by have := hbw.size; omega
          have d0 := (hbw.cell (p := ⟨b1, o1 + (j * 2 + 0), none⟩) hb1).trans (hd1 j hlt 0 (by omega))
          have d1 := (hbw.cell (p := ⟨b1, o1 + (j * 2 + 1), none⟩) hb1).trans (hd1 j hlt 1 (by omega))
          have e0 := (hbw.cell (p := ⟨b2, o2 + (j * 2 + 0), none⟩) hb2).trans (hd2 j hlt 0 (by omega))
          have e1 := (hbw.cell (p := ⟨b2, o2 + (j * 2 + 1), none⟩) hb2).trans (hd2 j hlt 1 (by omega))
          rw [hx] at d0 d1
          rw [hy] at e0 e1
          simp only [Nat.add_zero, ← Nat.add_assoc, List.getElem?_cons_zero, List.getElem?_cons_succ] at d0 d1 e0 e1
          have HP1 := Lib.hid hp1
          have HP2 := Lib.hid hp2
          have HE1 := Lib.hid he1
          have HE2 := Lib.hid he2
          have HNo := Lib.hid (show p1 ≠ p2 → bb = false from fun hne => by
            rw [← HBB.out]
            refine eqv_f fun h => hne ?_
            have := HP1.out
            rw [h, HP2.out] at this
            exact (Option.some.inj this).symm)
          have HX1 := Lib.hid hx1
          have HY1 := Lib.hid hy1
          clear hd1 hd2 hp1 hp2 hx hy he1 he2 hx1 hy1
          by_cases hnm : x1 = y1
          · subst hnm
            by_cases hst : strOfNums l1 = strOfNums l2
            · have hll : l1 = l2 := strOfNums_toList HX1.out HY1.out hst
              have HLL := Lib.hid hll
              clear HNo hll
              have hT1r := hT1.kept hbr
              have hT2r := hT2.kept hbr
              have D0 := fun (d : Nat) (os : Array Obj) => ((below_regrown wr d os).cell (p := ⟨b1, o1 + j * 2, none⟩) hz1).trans d0
              have D1 := fun (d : Nat) (os : Array Obj) => ((below_regrown wr d os).cell (p := ⟨b1, o1 + j * 2 + 1, none⟩) hz1).trans d1
              have D2 := fun (d : Nat) (os : Array Obj) => ((below_regrown wr d os).cell (p := ⟨b2, o2 + j * 2, none⟩) hz2).trans e0
              have D3 := fun (d : Nat) (os : Array Obj) => ((below_regrown wr d os).cell (p := ⟨b2, o2 + j * 2 + 1, none⟩) hz2).trans e1
              have S1 := fun (d : Nat) (os : Array Obj) => conv_str (hq1.below (hbw.trans ((below_regrown wr d os).mono hbw.size))) rfl xc
              have S2 := fun (d : Nat) (os : Array Obj) => conv_str (hq2.below (hbw.trans ((below_regrown wr d os).mono hbw.size))) rfl yc
              clear hq1 hq2
              generalize l1.length = q1 at *
              generalize l2.length = q2 at *
              generalize strOfNums l1 = u1 at *
              generalize strOfNums l2 = u2 at *
              go_wp2_with fail
              have E0 := blk_regrown hT1r
              have E1 := blk_regrown hT2r
              refine wp_region_quiet_below (by kernel_rfl) (by kernel_rfl) ?_
              repeat (go_big_quiet_step (fail))
              refine wpQuiet_nil ?_
              rintro w7 ⟨p7, rfl⟩
              have hb7 := hbr.trans ((below_regrown wr p7.d p7.os).mono hbr.size)
              generalize grow (redrawn wr p7.d) p7.os = w7 at hb7 ⊢
              clear D0 D1 D2 D3 S1 S2 E0 E1 hT1r hT2r
              go_wp2
              go_roundw
              case rel => exact ⟨j + 1, by omega, by go_num, (fun i hi => by
                rcases Nat.lt_or_ge i j with h1 | h1
                · exact hq.out i h1
                · obtain rfl : i = j := by omega
                  rw [HP1.out, HP2.out, HE1.out, HE2.out, HLL.out]), hb7⟩
              case measure => simp [intOf]; omega
            · have hf : bb = false := HNo.out (by rw [HE1.out, HE2.out]; intro h; apply hst; rw [(Prod.mk.inj h).2])
              subst hf
              have hq9 := baL hst
              clear HNo hst
              have hT1r := hT1.kept hbr
              have hT2r := hT2.kept hbr
              have D0 := fun (d : Nat) (os : Array Obj) => ((below_regrown wr d os).cell (p := ⟨b1, o1 + j * 2, none⟩) hz1).trans d0
              have D1 := fun (d : Nat) (os : Array Obj) => ((below_regrown wr d os).cell (p := ⟨b1, o1 + j * 2 + 1, none⟩) hz1).trans d1
              have D2 := fun (d : Nat) (os : Array Obj) => ((below_regrown wr d os).cell (p := ⟨b2, o2 + j * 2, none⟩) hz2).trans e0
              have D3 := fun (d : Nat) (os : Array Obj) => ((below_regrown wr d os).cell (p := ⟨b2, o2 + j * 2 + 1, none⟩) hz2).trans e1
              have S1 := fun (d : Nat) (os : Array Obj) => conv_str (hq1.below (hbw.trans ((below_regrown wr d os).mono hbw.size))) rfl xc
              have S2 := fun (d : Nat) (os : Array Obj) => conv_str (hq2.below (hbw.trans ((below_regrown wr d os).mono hbw.size))) rfl yc
              clear hq1 hq2
              generalize l1.length = q1 at *
              generalize l2.length = q2 at *
              generalize strOfNums l1 = u1 at *
              generalize strOfNums l2 = u2 at *
              go_wp2_with fail
              have E0 := blk_regrown hT1r
              have E1 := blk_regrown hT2r
              refine wp_region_quiet_below (by kernel_rfl) (by kernel_rfl) ?_
              repeat (go_big_quiet_step (fail))
              refine wpQuiet_nil ?_
              rintro w7 ⟨p7, rfl⟩
              have hb7 := hbr.trans ((below_regrown wr p7.d p7.os).mono hbr.size)
              generalize grow (redrawn wr p7.d) p7.os = w7 at hb7 ⊢
              clear D0 D1 D2 D3 S1 S2 E0 E1 hT1r hT2r
              go_wp2
              go_ret
              exact ⟨rfl, hb.trans (hb7.mono hb.size)⟩
          · have hf : bb = false := HNo.out (by rw [HE1.out, HE2.out]; intro h; apply hnm; rw [(Prod.mk.inj h).1])
            subst hf
            have hq9 := baL hnm
            clear HNo hnm
            have hT1r := hT1.kept hbr
            have hT2r := hT2.kept hbr
            have D0 := fun (d : Nat) (os : Array Obj) => ((below_regrown wr d os).cell (p := ⟨b1, o1 + j * 2, none⟩) hz1).trans d0
            have D1 := fun (d : Nat) (os : Array Obj) => ((below_regrown wr d os).cell (p := ⟨b1, o1 + j * 2 + 1, none⟩) hz1).trans d1
            have D2 := fun (d : Nat) (os : Array Obj) => ((below_regrown wr d os).cell (p := ⟨b2, o2 + j * 2, none⟩) hz2).trans e0
            have D3 := fun (d : Nat) (os : Array Obj) => ((below_regrown wr d os).cell (p := ⟨b2, o2 + j * 2 + 1, none⟩) hz2).trans e1
            have S1 := fun (d : Nat) (os : Array Obj) => conv_str (hq1.below (hbw.trans ((below_regrown wr d os).mono hbw.size))) rfl xc
            have S2 := fun (d : Nat) (os : Array Obj) => conv_str (hq2.below (hbw.trans ((below_regrown wr d os).mono hbw.size))) rfl yc
            clear hq1 hq2
            generalize l1.length = q1 at *
            generalize l2.length = q2 at *
            generalize strOfNums l1 = u1 at *
            generalize strOfNums l2 = u2 at *
            go_wp2_with fail
            have E0 := blk_regrown hT1r
            have E1 := blk_regrown hT2r
            refine wp_region_quiet_below (by kernel_rfl) (by kernel_rfl) ?_
            repeat (go_big_quiet_step (fail))
            refine wpQuiet_nil ?_
            rintro w7 ⟨p7, rfl⟩
            have hb7 := hbr.trans ((below_regrown wr p7.d p7.os).mono hbr.size)
            generalize grow (redrawn wr p7.d) p7.os = w7 at hb7 ⊢
            clear D0 D1 D2 D3 S1 S2 E0 E1 hT1r hT2r
            go_wp2
            go_ret
            exact ⟨rfl, hb.trans (hb7.mono hb.size)⟩
        · obtain rfl : j = n1 := by omega
          have HPs := Lib.hid (take_all HN1.out HN2.out rfl hq.out)
          have cT1 := (hT1.kept hbr).cell
          have cT2 := (hT2.kept hbr).cell
          have hT1r := hT1.kept hbr
          have hT2r := hT2.kept hbr
          go_wp2
          have hb1w := hb.trans (hbr.mono hb.size)
          clear hT1 hT2 hbw
          generalize hwl : wr = wl at *
          clear hwl
          go_loopw [8, 72] (fun _ i wr => ∃ j : Nat, j ≤ m1 ∧ i = .int .i64 j ∧ Hid (∀ i, i < j → t1.ks[i]? = t2.ks[i]?) ∧ Below wl.heap.size wl wr) (fun _ i _ => m1 - (intOf i).toNat)
          case atStart => exact ⟨0, by omega, rfl, fun j hj => absurd hj (by omega), Below.refl _ _⟩
          case round =>
            clear hbr hq cT1 cT2
            obtain ⟨i, hi, rfl, hq, hbr⟩ := hrel
            have hbw := hb1w.trans (hbr.mono hb1w.size)
            by_cases hlt : i < m1
            · obtain ⟨kd1, hp1⟩ : ∃ p, t1.ks[i]? = some p := ⟨_, List.getElem?_eq_getElem (by rw [HM1.out]; exact hlt)⟩
              obtain ⟨kd2, hp2⟩ : ∃ p, t2.ks[i]? = some p := ⟨_, List.getElem?_eq_getElem (by rw [HM2.out]; exact hlt)⟩
              have hk1 := HK.out i kd1 hp1
              have hk2 := HK'.out i kd2 hp2
              obtain ⟨x1, xA, xl, xc, xB, xm, xd, hx⟩ := tr_form hk1
              obtain ⟨y1, yA, yl, yc, yB, ym, yd, hy⟩ := tr_form hk2
              obtain ⟨b1, o1, rfl, hb1, hd1⟩ := HG.out (by omega)
              obtain ⟨b2, o2, rfl, hb2, hd2⟩ := HG'.out (by omega)
              have d0 := fun j (hj : j < 3) (d : Nat) (os : Array Obj) => ((hbw.trans ((below_regrown wr d os).mono hbw.size)).cell (p := ⟨b1, o1 + (i * 3 + j), none⟩) hb1).trans (hd1 i hlt j hj)
              have e0 := fun j (hj : j < 3) (d : Nat) (os : Array Obj) => ((hbw.trans ((below_regrown wr d os).mono hbw.size)).cell (p := ⟨b2, o2 + (i * 3 + j), none⟩) hb2).trans (hd2 i hlt j hj)
              rw [hx] at d0
              rw [hy] at e0
              have D0 := d0 0 (by decide)
              have D1 := d0 1 (by decide)
              have D2 := d0 2 (by decide)
              have D3 := e0 0 (by decide)
              have D4 := e0 1 (by decide)
              have D5 := e0 2 (by decide)
              simp only [Nat.add_zero, ← Nat.add_assoc, List.getElem?_cons_zero, List.getElem?_cons_succ] at D0 D1 D2 D3 D4 D5
              have HC := Lib.hid (fun (dd : Int) (d : Nat) (os : Array Obj) => by
                have hxw := hbw.trans ((below_regrown wr d os).mono hbw.size)
                have := HI.out kd1 kd2 (g i) (g' i) dd (grow (redrawn wr d) os) ((hk1.below hxw).more hxw.size) ((hk2.below hxw).more hxw.size)
                rw [hx, hy] at this
                exact this)
              have E0 := blk_regrown (hT1r.kept hbr)
              have E1 := blk_regrown (hT2r.kept hbr)
              have HP1 := Lib.hid hp1
              have HP2 := Lib.hid hp2
              clear d0 e0 hd1 hd2 hp1 hp2 hx hy hk1 hk2
              by_cases hkk : kd1 = kd2
              · rw [eqv_t hkk] at HC
                go_wp2_with fail
                refine wp_region_quiet_below (by kernel_rfl) (by kernel_rfl) ?_
                repeat (go_big_quiet_step ((go_at_call 45; exact regrown (HC.out _ _ _))))
                refine wpQuiet_nil ?_
                rintro w7 ⟨p7, rfl⟩
                have hb7 := hbr.trans ((below_regrown wr p7.d p7.os).mono hbr.size)
                generalize grow (redrawn wr p7.d) p7.os = w7 at hb7 ⊢
                clear D0 D1 D2 D3 D4 D5 E0 E1
                go_wp2
                go_roundw
                case rel => exact ⟨i + 1, by omega, by go_num, (fun a ha => by
                  rcases Nat.lt_or_ge a i with h1 | h1
                  · exact hq.out a h1
                  · obtain rfl : a = i := by omega
                    rw [HP1.out, HP2.out, hkk]), hb7⟩
                case measure => simp [intOf]; omega
              · rw [eqv_f hkk] at HC
                have hf : bb = false := by
                  rw [← HBB.out]
                  refine eqv_f fun h => hkk ?_
                  have := HP1.out
                  rw [h, HP2.out] at this
                  exact (Option.some.inj this).symm
                subst hf
                clear hkk
                go_wp2_with fail
                refine wp_region_quiet_below (by kernel_rfl) (by kernel_rfl) ?_
                repeat (go_big_quiet_step ((go_at_call 45; exact regrown (HC.out _ _ _))))
                refine wpQuiet_nil ?_
                rintro w7 ⟨p7, rfl⟩
                have hb7 := hbr.trans ((below_regrown wr p7.d p7.os).mono hbr.size)
                generalize grow (redrawn wr p7.d) p7.os = w7 at hb7 ⊢
                clear D0 D1 D2 D3 D4 D5 E0 E1
                go_wp2
                go_ret
                exact ⟨rfl, hb1w.trans (hb7.mono hb1w.size)⟩
            · obtain rfl : i = m1 := by omega
              have hf : bb = true := by
                rw [← HBB.out]
                exact eqv_t (tr_eq (HS1.out.trans HS2.out.symm) HPs.out (take_all HM1.out HM2.out rfl hq.out))
              subst hf
              go_wp2
              go_ret
              exact ⟨rfl, hbw⟩
    · have hf : bb = false := by
        rw [← HBB.out]
        refine eqv_f fun h => q1 ⟨?_, ?_, ?_⟩
        · rw [← HS1.out, ← HS2.out, h]
        · rw [← HN1.out, ← HN2.out, h]
        · rw [← HM1.out, ← HM2.out, h]
      subst hf
      have cT1 := hT1.cell
      have cT2 := hT2.cell
      by_cases z0 : s1 = s2
      · subst z0
        by_cases z1 : n1 = n2
        · subst z1
          have z2 : ((m1 : Int) != (m2 : Int)) = true := by rw [bne_iff_ne]; intro h; exact q1 ⟨rfl, rfl, by omega⟩
          clear q1
          go_enter Try.func45, Try.ntmps45
          go_wp2
          go_ret
          exact ⟨rfl, hb⟩
        · have z2 : ((n1 : Int) != (n2 : Int)) = true := by rw [bne_iff_ne]; omega
          clear q1 z1
          go_enter Try.func45, Try.ntmps45
          go_wp2
          go_ret
          exact ⟨rfl, hb⟩
      · have z2 := baL z0
        have z3 : (s1.toList != s2.toList) = true := by rw [bne, z2]; rfl
        clear q1 z0
        go_enter Try.func45, Try.ntmps45
        go_wp2
        go_ret
        exact ⟨rfl, hb⟩
theorem refSame_any (k k2 : Nat) (t1 t2 : Tr) (cs1 cs2 : List Value) (w : World) (h : TrOk w w.heap.size k t1 cs1) (h' : TrOk w w.heap.size k2 t2 cs2) :
    Calls Try.prog 20 #[.agg cs1.toArray, .agg cs2.toArray] w fun e w' => e = .returned (.bool (eqv t1 t2)) ∧ Below w.heap.size w w' := by
  obtain ⟨x1, xA, xl, xc, xB, xm, xd, hx⟩ := tr_form h
  obtain ⟨y1, yA, yl, yc, yB, ym, yd, hy⟩ := tr_form h'
  have HC := Lib.hid (fun W (hW : Below w.heap.size w W) => rsame_any k k2 t1 t2 cs1 cs2 1 W ((h.below hW).more hW.size) ((h'.below hW).more hW.size))
  subst hx hy
  have HB := Lib.hid (bal (bal (Below.refl w.heap.size w) (.cells #[.string x1, .slice xA xl xc, .slice xB xm xd] 25)) (.cells #[.string y1, .slice yA yl yc, .slice yB ym yd] 25))
  clear h h'
  go_enter Try.func20, Try.ntmps20
  go_wp2_with (go_at_call 45; refine (HC.out _ HB.out).mono ?_; rintro e w5 ⟨rfl, hb5⟩)
  go_ret
  exact ⟨rfl, HB.out.trans (hb5.mono HB.out.size)⟩
end Go.Proofs.Ytnkpaockginooaa
