/- Chapter 27: a manifest read out of bytes: the program's. -/
import Derived.Test.YtjjbpiejplfbpaaPolRb
namespace Go.Proofs.Ytjjbpiejplfbpaa
set_option linter.unusedVariables false
set_option linter.unusedSimpArgs false
open Go.RowKit Go.Sort Go.Shelf
attribute [local go_sem] Oper.semAt_some

set_option maxRecDepth 100000 in
set_option maxHeartbeats 8000000 in
theorem policyOf_any (A : Option Addr) (n c : Nat) (l : List Int) (w : World) (hl : l.length = n) (hok : BytesOk l) (hm : n ≤ 30000) (hnc : n ≤ c) (hr : Rd w w.heap.size 1 A n (l.flatMap encB)) :
    Calls Try.prog 17 #[.slice A n c] w (MofRes l w) := by
  have hz2 := (zero_of_info info_mf).1
  have hsz2 : m0cs.size = 71 := by decide +kernel
  have hm0 : ∀ u ∈ m0cs.toList, u.oneCell' = true := by decide +kernel
  have HBu := Lib.hid (fun W => build_mf0 W)
  have HBelow := Lib.hid (bal (Below.refl w.heap.size w) (.cells m0cs 55))
  have HG0 := Lib.hid (Blk.new w 55 m0cs)
  by_cases h104 : n < 104
  · have HNo := Lib.hid (show mofOk l = false by unfold mofOk; rw [decide_eq_false (by omega)]; rfl)
    have H1 := Lib.hid (fun W => number_no A n c 100 W (by omega) (.inr (.inr (by omega))))
    have hst0 := fun W => store_mf (cs := m0cs.toList) (by simpa using hsz2) hm0 W
    clear hr hl hok
    refine calls_of_wp_m Try.func17 rfl ?_
    simp only [Try.ntmps17, List.size_toArray, List.length_cons, List.length_nil, Nat.reduceAdd, Nat.reduceSub, Array.replicate_succ, Array.replicate_zero, List.push_toArray, List.append_toArray, List.nil_append, List.cons_append]
    go_wp2_with (first
      | (go_at_call 29; refine (H1.out _).mono ?_; rintro e w1 ⟨rfl, rfl⟩)
      | (refine wpList_built rfl 55 #[] rfl (vals := #[]) (by go_simp) (HBu.out _) ?_))
    refine bodyPostM_ret (mf_result (g := w.heap.size) (cs := m0cs.toList) ?_ ?_ ?_) ?_ ?_
    · simpa using HG0.out
    · simpa using hsz2
    · rfl
    · rfl
    · exact ⟨.inr ⟨HNo.out, rfl⟩, HBelow.out⟩
  · have H100 := Lib.hid (fun W hb => numAt (i := 100) hl hok (by omega) hr (a := 100) rfl (by omega) (c := c) W hb)
    obtain ⟨q0, q1⟩ := nAt_bd (s := 4) hok (a := 100) (by omega)
    have hq : recN l = (nAt 4 l 100).toNat := rfl
    obtain ⟨q, hqe⟩ := Int.eq_ofNat_of_zero_le q0
    rw [hqe] at H100 q1 hq
    have hq : recN l = q := by rw [hq]; rfl
    clear q0 hqe
    have hq1 : q < 4294967296 := by have q2 : (q : Int) < 4294967296 := by simpa using q1
                                    omega
    clear q1
    by_cases h108 : n < 108 + 44 * q
    · have HNo := Lib.hid (show mofOk l = false by unfold mofOk; rw [decide_eq_false (by omega)]; rfl)
      have hst0 := fun W => store_mf (cs := m0cs.toList) (by simpa using hsz2) hm0 W
      clear hr hl hok hq
      refine calls_of_wp_m Try.func17 rfl ?_
      simp only [Try.ntmps17, List.size_toArray, List.length_cons, List.length_nil, Nat.reduceAdd, Nat.reduceSub, Array.replicate_succ, Array.replicate_zero, List.push_toArray, List.append_toArray, List.nil_append, List.cons_append]
      go_wp2_with (first
        | (go_at_call 29; refine (H100.out _ HBelow.out).mono ?_; rintro e w1 ⟨rfl, rfl⟩)
        | (refine wpList_built rfl 55 #[] rfl (vals := #[]) (by go_simp) (HBu.out _) ?_))
      refine bodyPostM_ret (mf_result (g := w.heap.size) (cs := m0cs.toList) ?_ ?_ ?_) ?_ ?_
      · simpa using HG0.out
      · simpa using hsz2
      · rfl
      · rfl
      · exact ⟨.inr ⟨HNo.out, rfl⟩, HBelow.out⟩
    · have hn108 : 108 + 44 * q ≤ n := by omega
      clear h108
      obtain ⟨b, o, rfl, hb0, _⟩ := hr.2 (by omega)
      have H4 := Lib.hid (fun W hb => numAt (i := 4) hl hok (by omega) hr (a := 4) rfl (by omega) (c := c) W hb)
      have H8 := Lib.hid (fun W hb => wideAt (i := 8) hl hok (by omega) hr (a := 8) rfl (by omega) (c := c) W hb)
      have H16 := Lib.hid (fun W hb => wideAt (i := 16) hl hok (by omega) hr (a := 16) rfl (by omega) (c := c) W hb)
      have H24 := Lib.hid (fun W hb => wideAt (i := 24) hl hok (by omega) hr (a := 24) rfl (by omega) (c := c) W hb)
      have H32 := Lib.hid (fun W hb => numAt (i := 32) hl hok (by omega) hr (a := 32) rfl (by omega) (c := c) W hb)
      have HEnd := Lib.hid (fun W hb => numAt (i := 104 + 44 * (q : Int)) hl hok (by omega) hr (a := 104 + 44 * q) (by push_cast; rfl) (by omega) (c := c) W hb)
      have HMf := Lib.hid (show mAt l = ⟨nAt 4 l 4, nAt 8 l 8, nAt 8 l 16, nAt 8 l 24, nAt 4 l 32, subB l 36 64, none, 0, 0, recsN (logOf l) q, none, 0, 0, (List.range (gsN l)).map fun i => stAt l (108 + 44 * q + 36 * i)⟩ by unfold mAt; rw [hq])
      have B4 := nAt_bd (s := 4) hok (a := 4) (by omega)
      have B8 := Lib.hid (nAt_bd (s := 8) hok (a := 8) (by omega))
      have B16 := Lib.hid (nAt_bd (s := 8) hok (a := 16) (by omega))
      have B24 := Lib.hid (nAt_bd (s := 8) hok (a := 24) (by omega))
      have B32 := nAt_bd (s := 4) hok (a := 32) (by omega)
      have HR1 := Lib.hid (hr.rangeB hl (a := 36) (m := 32) (by omega))
      have HR2 := Lib.hid (hr.rangeB hl (a := 68) (m := 32) (by omega))
      have HRg := Lib.hid (show (l.drop 36).take 32 ++ (l.drop 68).take 32 = subB l 36 64 by unfold subB; rw [show 68 = 36 + 32 from rfl, ← List.drop_drop, ← List.take_add])
      have hd1 : ((l.drop 36).take 32).length = 32 := by simp; omega
      have hd2 : ((l.drop 68).take 32).length = 32 := by simp; omega
      have HRl := Lib.hid (show (subB l 36 64).length = 64 from subB_len (by omega))
      have HRo := Lib.hid (subB_ok hok 36 64)
      generalize nAt 4 l 4 = x4 at *
      generalize nAt 8 l 8 = x8 at *
      generalize nAt 8 l 16 = x16 at *
      generalize nAt 8 l 24 = x24 at *
      generalize nAt 4 l 32 = x32 at *
      generalize (l.drop 36).take 32 = d1 at *
      generalize (l.drop 68).take 32 = d2 at *
      generalize hreg : subB l 36 64 = regs at *
      clear hreg
      have HD1 := Lib.hid (show (d1.flatMap encB).length = 32 by rw [flatB_len, hd1])
      have HD2 := Lib.hid (show (d2.flatMap encB).length = 32 by rw [flatB_len, hd2])
      have HBn := Lib.hid (fun W => build_nodes W (d1.flatMap encB) (d2.flatMap encB) HD1.out HD2.out)
      have HBm := Lib.hid (fun W => store_mf0 W x4 x8 x16 x24 x32)
      have B32' := B32.1
      have B32'' : x32 < 4294967296 := by simpa using B32.2
      generalize hm1 : Mf.cs ⟨x4, x8, x16, x24, x32, List.replicate 64 0, none, 0, 0, [], none, 0, 0, []⟩ = M1 at *
      have hM1l : M1.length = 71 := by rw [← hm1]; exact Mf.len (by simp)
      have HM11 := Lib.hid (show M1.toArray.all (·.oneCell') = true by rw [← hm1]; exact all_oneCell_toArray (Mf.one _))
      have HM1 := Lib.hid hm1
      have HNb : Hid (Blk ((w.alloc (.cells m0cs 55)).alloc (.cells m0cs 55)) (w.heap.size + 1) 55 m0cs) := Lib.hid (Blk.fresh _ _ _)
      have HSa : Hid (setAt m0cs 0 M1.toArray.toList = M1.toArray) := Lib.hid (setAt_whole (by rw [hM1l, hsz2]))
      have HBx2 := Lib.hid (bal (bal (Below.refl w.heap.size w) (.cells m0cs 55)) (.cells m0cs 55))
      have HG2 := Lib.hid ((Blk.new w 55 m0cs).alloc (.cells m0cs 55))
      have hM1s : M1.toArray.size = 71 := by simp [hM1l]
      have HM1l := Lib.hid hM1l
      clear hm1 hM1l
      have HL := Lib.hid hl
      have HOK := Lib.hid hok
      have HR := Lib.hid hr
      have HQ := Lib.hid hq
      have HB4 := Lib.hid B4
      have HB32 := Lib.hid B32
      clear hl hok hr hq B4 B32
      refine calls_of_wp_m Try.func17 rfl ?_
      simp only [Try.ntmps17, List.size_toArray, List.length_cons, List.length_nil, Nat.reduceAdd, Nat.reduceSub, Array.replicate_succ, Array.replicate_zero, List.push_toArray, List.append_toArray, List.nil_append, List.cons_append]
      go_upto_region 6 with (first
        | (go_at_call 29; first
            | (with_reducible refine (H100.out _ HBelow.out).mono ?_; rintro e w1 ⟨rfl, rfl⟩)
            | (with_reducible refine (H4.out _ HBelow.out).mono ?_; rintro e w1 ⟨rfl, rfl⟩)
            | (with_reducible refine (H32.out _ HBelow.out).mono ?_; rintro e w1 ⟨rfl, rfl⟩))
        | (go_at_call 30; first
            | (with_reducible refine (H8.out _ HBelow.out).mono ?_; rintro e w1 ⟨rfl, rfl⟩)
            | (with_reducible refine (H16.out _ HBelow.out).mono ?_; rintro e w1 ⟨rfl, rfl⟩)
            | (with_reducible refine (H24.out _ HBelow.out).mono ?_; rintro e w1 ⟨rfl, rfl⟩))
        | (refine wpList_built rfl 55 #[(0, .tmp 27), (1, .tmp 29), (2, .tmp 31), (3, .tmp 33), (4, .tmp 36)] rfl (vals := #[(0, .int .u32 x4), (1, .int .u64 x8), (2, .int .u64 x16), (3, .int .u64 x24), (4, .int .i64 x32)]) (by go_simp) (HBm.out _) ?_)
        | (refine wpList_store_blk rfl 55 (.tmp 6) (.tmp 37) rfl (w.heap.size + 1) 0 M1.toArray (by rfl) (by rfl) HNb.out (by rw [hM1s, hsz2]; decide) (by rw [hM1s]; kernel_rfl) HM11.out HSa.out ?_; intro w6 hB6 hbl6 hz6 hh6))
      have hz6' : w6.heap.size = w.heap.size + 2 := by rw [hz6]; simp
      have hbx6 : RowKit.Below w.heap.size w w6 := HBx2.out.trans (hbl6 _ (by omega))
      have hG6 : Blk w6 w.heap.size 55 m0cs := Eq.trans (hh6 _ (by omega)) HG2.out
      clear hbl6 hh6 hz6
      have HbM1 := Lib.hid hB6
      have k1 : (68 : Int) ≤ c := by omega
      have k2 : (100 : Int) ≤ c := by omega
      have k3 : ¬ c = 36 := by omega
      have k4 : ¬ c = 68 := by omega
      refine wp_region_tail_below 9 (by kernel_rfl) (by kernel_rfl) ?_
      have hAr1 := fun W => arrayAt_run' W b (o + 36) (c - 36)
      have hAr2 := fun W => arrayAt_run' W b (o + 68) (c - 68)
      iterate 3 (quiet_step ((fail)))
      refine wpQuiet_load 38 (.tmp 40) rfl b (o + 36) (by rfl) (d1.flatMap encB) _ (range_grown HR1.out hb0 hbx6) Try.underlying38 rfl (by rw [HD1.out]; kernel_rfl) (by kernel_rfl) ?_
      iterate 3 (quiet_step ((fail)))
      refine wpQuiet_load 38 (.tmp 44) rfl b (o + 68) (by rfl) (d2.flatMap encB) _ (range_grown HR2.out hb0 hbx6) Try.underlying38 rfl (by rw [HD2.out]; kernel_rfl) (by kernel_rfl) ?_
      refine wpQuiet_built 51 #[(0, .tmp 41), (1, .tmp 45)] rfl (vals := #[(0, .agg (d1.flatMap encB).toArray), (1, .agg (d2.flatMap encB).toArray)]) (by go_simp) (fun W => HBn.out W) (by kernel_rfl) ?_
      refine wpQuiet_nil ?_
      rintro W ⟨p, rfl⟩
      have hbW := below_regrown w6 p.d p.os
      generalize grow (redrawn w6 p.d) p.os = W at *
      have hbx7 := hbx6.trans (hbW.mono hbx6.size)
      have HG7 := Lib.hid (hG6.kept hbW)
      have HB7 := Lib.hid (HbM1.out.kept hbW)
      have hs7 : w.heap.size + 2 ≤ W.heap.size := by have := hbW.size; omega
      clear hbW hbx6 hG6 hz6' hB6 HbM1 HBx2 HG2 HNb HSa k1 k2 k3 k4 hAr1 hAr2
      have HSr := Lib.hid (setRegs2 HM1.out HRg.out HRl.out)
      generalize hM2 : (⟨x4, x8, x16, x24, x32, regs, none, 0, 0, [], none, 0, 0, []⟩ : Mf) = M2 at *
      have HM2 := Lib.hid hM2
      have HM2r := Lib.hid (show M2.regs.length = 64 by rw [← hM2]; exact HRl.out)
      clear hM2
      have HDD := Lib.hid (show (d1.flatMap encB ++ d2.flatMap encB).toArray.size = 64 by simp [HD1.out, HD2.out])
      have HD1c := Lib.hid (show (d1.flatMap encB ++ d2.flatMap encB).toArray.all (·.oneCell') = true from all_oneCell_toArray (fun v hv => by rcases List.mem_append.1 hv with h | h <;> exact one_b _ _ h))
      simp only [List.drop_succ_cons, List.drop_zero]
      go_upto_region 7 with (refine wpList_store_blk rfl 51 (.tmp 47) (.tmp 46) rfl (w.heap.size + 1) 5 (d1.flatMap encB ++ d2.flatMap encB).toArray (by rfl) (by rfl) HB7.out (by rw [HDD.out, hM1s]; decide) (by rw [HDD.out]; kernel_rfl) HD1c.out HSr.out ?_; intro w8 hB8 hbl8 hz8 hh8)
      have hbx8 : RowKit.Below w.heap.size w w8 := hbx7.trans (hbl8 _ (by omega))
      have hG8 : Blk w8 w.heap.size 55 m0cs := Eq.trans (hh8 _ (by omega)) HG7.out
      have hs8 : w.heap.size + 2 ≤ w8.heap.size := by omega
      have HG8 := Lib.hid hG8
      have HB8 := Lib.hid hB8
      clear hbl8 hh8 hz8 hbx7 HG7 HB7 hG8 hB8 HSr hs7 hM1s HBm HBn HM11 HM1 HM1l HR1 HR2
      have HLo := Lib.hid (ofLog_any (some ⟨b, o + 100, none⟩) (4 + 44 * q) (c - 100) (logOf l) w8 (by unfold logOf; rw [HQ.out]; exact subB_len (by rw [HL.out]; omega)) (subB_ok HOK.out _ _) (by omega) (by omega)
        (by unfold logOf; rw [HQ.out]; exact (((HR.out.below hbx8).more hbx8.size).subB HL.out (by omega))))
      have HLq := Lib.hid (show logN (logOf l) = q by rw [logN_of]; exact HQ.out)
      have c69 := (mcellL HM2r.out HB8.out).1
      have c70 := (mcellL HM2r.out HB8.out).2
      have k1 : (100 : Int) ≤ 104 + 44 * q := by omega
      have k2 : (104 + 44 * (q : Int)) ≤ c := by omega
      have k3 : ¬ c = 100 := by omega
      have k5 : 104 + 44 * q - 100 = 4 + 44 * q := by omega
      have HFz := Lib.hid (show setAt m0cs 0 m0cs.toList = m0cs from setAt_whole (cs := m0cs) (new := m0cs.toList) (by simp))
      have HF1 := Lib.hid (show m0cs.all (·.oneCell') = true from by decide +kernel)
      cases hlo : ofLogOk (logOf l) with
      | false =>
        have HNo := Lib.hid (show mofOk l = false by unfold mofOk; rw [hlo]; simp)
        have HLf := Lib.hid (ofLog_fails hlo HLo.out)
        clear hlo HLo
        go_wp2_with (first
          | (go_at_call 31; refine HLf.out.mono ?_; rintro e w9 ⟨rfl, hb9⟩)
          | (refine wpList_built rfl 55 #[] rfl (vals := #[]) (by go_simp) (HBu.out _) ?_)
          | (refine wpList_store_blk rfl 55 (.tmp 2) (.tmp 57) rfl w.heap.size 0 m0cs (by rfl) (by rfl) (HG8.out.kept hb9) (by simp) (by rw [hsz2]; kernel_rfl) HF1.out HFz.out ?_; intro w10 hB10 hbl10 hz10 hh10))
        refine bodyPostM_ret (mf_result (g := w.heap.size) (cs := m0cs.toList) ?_ ?_ ?_) ?_ ?_
        · simpa using hB10
        · simpa using hsz2
        · rfl
        · rfl
        · exact ⟨.inr ⟨HNo.out, rfl⟩, (hbx8.trans (hb9.mono hbx8.size)).trans (hbl10 _ (Nat.le_refl _))⟩
      | true =>
        have HLt := Lib.hid (ofLog_does hlo HLq.out HLo.out)
        have HLy := Lib.hid hlo
        clear hlo HLo
        go_upto_region 10 with (go_at_call 31; refine HLt.out.mono ?_; rintro e w9 ⟨A1, c1, rfl, hown9, hb9⟩)
        have HB9 := HB8.out.kept hb9
        have HG9 := Lib.hid (HG8.out.kept hb9)
        have hbx9 := hbx8.trans (hb9.mono hbx8.size)
        have hs9 : w.heap.size + 2 ≤ w9.heap.size := Nat.le_trans hs8 hb9.size
        clear c69 c70 HG8 HB8 hbx8 k1 k2 k3 k5
        have c69 := (mcellL HM2r.out HB9).1
        have hfz := HB9.frozen
        have HB10 := Lib.hid (show Blk (w9.setCell ⟨w.heap.size + 1, 69, none⟩ (.slice A1 q c1)) (w.heap.size + 1) 55 (Mf.cs { M2 with A := A1, n := q, c := c1 }).toArray by rw [← setLog M2 A1 q c1 HM2r.out]; exact HB9.set_ 69 _)
        go_upto_region 11 with (fail)
        have hsz10 : (w9.setCell ⟨w.heap.size + 1, 69, none⟩ (.slice A1 q c1)).heap.size = w9.heap.size := by simp [World.setCell]
        have hbx10 : RowKit.Below w.heap.size w (w9.setCell ⟨w.heap.size + 1, 69, none⟩ (.slice A1 q c1)) := hbx9.setCell (by simp) _
        have HG10 := Lib.hid (HG9.out.far (p := ⟨w.heap.size + 1, 69, none⟩) (by simp) (.slice A1 q c1))
        have HO10 : Hid ((w9.setCell ⟨w.heap.size + 1, 69, none⟩ (.slice A1 q c1)).ownsRow w8.heap.size 69 35 (.slice A1 q c1) q ((recsN (logOf l) q).flatMap Rc.cs)) :=
          Lib.hid (own_same hown9 fun k hk => Below.heap_setCell w9 ⟨w.heap.size + 1, 69, none⟩ _ k (by have := (own_lt hown9 hk).1; simp; omega))
        generalize w9.setCell ⟨w.heap.size + 1, 69, none⟩ (.slice A1 q c1) = w10 at *
        have hs10 : w.heap.size + 2 ≤ w10.heap.size := by omega
        clear c69 hfz hbx9 HB9 HG9 hown9 hb9 hs9 hsz10
        obtain ⟨o2, ho2, hif⟩ : ∃ o2, (108 + 44 * q < n → o2 = o + (108 + 44 * q)) ∧ (if c = 108 + 44 * q then some (⟨b, o, none⟩ : Addr) else some ⟨b, o + (108 + 44 * q), none⟩) = some ⟨b, o2, none⟩ := by
          by_cases he : c = 108 + 44 * q
          · exact ⟨o, by omega, by rw [if_pos he]⟩
          · exact ⟨_, fun _ => rfl, by rw [if_neg he]⟩
        obtain ⟨g0, g1⟩ := nAt_bd (s := 4) HOK.out (a := 104 + 44 * q) (by rw [HL.out]; omega)
        have hg : gsN l = (nAt 4 l (104 + 44 * q)).toNat := by unfold gsN; rw [HQ.out]
        obtain ⟨g, hge⟩ := Int.eq_ofNat_of_zero_le g0
        rw [hge] at HEnd g1 hg
        have hg : gsN l = g := by rw [hg]; rfl
        have hg1 : g < 4294967296 := by
          have q2 : (g : Int) < 4294967296 := by simpa using g1
          omega
        have HGs := Lib.hid hg
        clear g0 hge g1 hg
        have k1 : (104 + 44 * (q : Int) + 4) ≤ c := by omega
        have k2 : (104 + 44 * (q : Int) + 4) ≤ n := by omega
        have k5 : 104 + 44 * q + 4 = 108 + 44 * q := by omega
        by_cases hlen : n = 108 + 44 * q + 36 * g
        · have HLen := Lib.hid hlen
          have e1 : (((n - (108 + 44 * q) : Nat) : Int) != 36 * (g : Int)) = false := by rw [bne_eq_false_iff_eq]; omega
          clear hlen
          go_wp2_with (first
            | (go_at_call 29; refine (HEnd.out _ hbx10).mono ?_; rintro e w1 ⟨rfl, rfl⟩)
            | (go_at_call 32; refine (callsIn_wide.1 (chunk_in 1 _ _ _ 36 (by decide) _)).mono ?_; rintro e w11 ⟨rfl, hw11⟩; have HW11 := Lib.hid hw11; clear hw11))
          have hw11 := HW11.out
          have hbx11 : RowKit.Below w.heap.size w w11 := by rw [hw11]; exact bal (bal hbx10 _) _
          have hB11 : Blk w11 (w.heap.size + 1) 55 (Mf.cs { M2 with A := A1, n := q, c := c1 }).toArray := by rw [hw11]; exact (HB10.out.alloc _).alloc _
          have hG11 : Blk w11 w.heap.size 55 m0cs := by rw [hw11]; exact (HG10.out.alloc _).alloc _
          have hO11 : w11.ownsRow w8.heap.size 69 35 (.slice A1 q c1) q ((recsN (logOf l) q).flatMap Rc.cs) := by rw [hw11]; exact (HO10.out.alloc _).alloc _
          have hs11 : w11.heap.size = w10.heap.size + 2 := by rw [hw11]; simp
          have hbs : Blk w11 w10.heap.size 39 #[.slice (some ⟨b, o2, none⟩) (n - (108 + 44 * q)) (c - (108 + 44 * q))] := by rw [hw11]; exact (Blk.new _ _ _).alloc _
          have hbi : Blk w11 (w10.heap.size + 1) 3 #[.int .i64 36] := by rw [hw11]; exact Blk.fresh _ _ _
          clear hw11
          have hM2n : M2.n2 = 0 ∧ M2.A2 = none ∧ M2.c2 = 0 := by rw [← HM2.out]; exact ⟨rfl, rfl, rfl⟩
          generalize hM3 : ({ M2 with A := A1, n := q, c := c1 } : Mf) = M3 at *
          have hM3r : M3.regs.length = 64 := by rw [← hM3]; exact HM2r.out
          have hM3z : ({ M3 with A2 := none, n2 := 0, c2 := 0 } : Mf) = M3 := by rw [← hM3]; rw [← HM2.out]
          have hI0 : OfI w w8.heap.size M3 (fun x => stAt l (108 + 44 * q + 36 * min x (g - 1))) ((recsN (logOf l) q).flatMap Rc.cs) w10.heap.size (.slice (some ⟨b, o2, none⟩) (n - (108 + 44 * q)) (c - (108 + 44 * q))) [] w11 :=
            ⟨⟨none, 0, by rw [List.length_nil, hM3z]; exact hB11, World.ownsRow_nil _ _ _ _⟩, hG11, by rw [← hM3]; exact hO11, hbx11, by omega, hbs, hbi⟩
          have hlen := HLen.out
          refine (wpIn_wide (n := 5)).1 ?_
          refine' wpIn_rangeFunc_ownG (F := Fence.wide) rfl (by omega) (gf := 45) (lb := #[.pointer (some ⟨w10.heap.size, 0, none⟩), .pointer (some ⟨w10.heap.size + 1, 0, none⟩)]) rfl trivial (enters_of Try.func45 (by kernel_rfl) rfl)
            (chunk_stops 4 (by omega) w10.heap.size (w10.heap.size + 1) b o2 (n - (108 + 44 * q)) (c - (108 + 44 * q)) 36 g (by omega) (by omega) (by omega) (by omega) (by omega) w11 hbs hbi) kp2_t (kp2_b (by omega) (by omega)) (RowKit.Below.refl _ _) (fun _ => rfl)
            (OfI w w8.heap.size M3 (fun x => stAt l (108 + 44 * q + 36 * min x (g - 1))) ((recsN (logOf l) q).flatMap Rc.cs) w10.heap.size (.slice (some ⟨b, o2, none⟩) (n - (108 + 44 * q)) (c - (108 + 44 * q)))) (fun _ _ _ => False)
            (OfI.own (by have := hbx11.size; omega)) (fun _ _ _ _ _ hs _ _ => hs) hI0 _ ?assign ?body ?done ?stop
          case assign =>
            intro lr x W K hK
            have HK := Lib.hid hK
            clear hK
            unfold encC
            gi_wp2
            exact HK.out
          case body =>
            rintro lr pre x W hI hlt
            obtain ⟨A2, c2, hmb, hrow⟩ := hI.mb
            have HLn' := HL.out
            have hx : min x (g - 1) < g := by omega
            have HSx := Lib.hid (show stAt l (108 + 44 * q + 36 * min x (g - 1)) = stAt l (108 + 44 * q + 36 * min x (g - 1)) from rfl)
            generalize hkx : min x (g - 1) = k at *
            have HKx := Lib.hid hkx
            clear hkx
            have ho := ho2 (by omega)
            have hrs := HR.out.subB HL.out (a := 108 + 44 * q + 36 * k) (m := 36) (by omega)
            rw [show o + (108 + 44 * q + 36 * k) = o2 + 36 * k by omega] at hrs
            have hsl := subB_len (l := l) (a := 108 + 44 * q + 36 * k) (m := 36) (by omega)
            have hso := subB_ok HOK.out (108 + 44 * q + 36 * k) 36
            have HSx := Lib.hid (stAt_read l (108 + 44 * q + 36 * k))
            generalize subB l (108 + 44 * q + 36 * k) 36 = sb at *
            have N0 := Lib.hid (fun W hb => numAt (i := 0) hsl hso (by omega) hrs (a := 0) rfl (by omega) (c := 36) W hb)
            have N4 := Lib.hid (fun W hb => numAt (i := 4) hsl hso (by omega) hrs (a := 4) rfl (by omega) (c := 36) W hb)
            have N32 := Lib.hid (fun W hb => numAt (i := 32) hsl hso (by omega) hrs (a := 32) rfl (by omega) (c := 36) W hb)
            have N8 := Lib.hid (fun W hb => wideAt (i := 8) hsl hso (by omega) hrs (a := 8) rfl (by omega) (c := 36) W hb)
            have N16 := Lib.hid (fun W hb => wideAt (i := 16) hsl hso (by omega) hrs (a := 16) rfl (by omega) (c := 36) W hb)
            have N24 := Lib.hid (fun W hb => wideAt (i := 24) hsl hso (by omega) hrs (a := 24) rfl (by omega) (c := 36) W hb)
            have b0 := (nAt_bd (s := 4) hso (a := 0) (by omega)).1
            have b0' : nAt 4 sb 0 < 4294967296 := by simpa using (nAt_bd (s := 4) hso (a := 0) (by omega)).2
            generalize nAt 4 sb 0 = y0 at *
            generalize nAt 4 sb 4 = y4 at *
            generalize nAt 8 sb 8 = y8 at *
            generalize nAt 8 sb 16 = y16 at *
            generalize nAt 8 sb 24 = y24 at *
            generalize nAt 4 sb 32 = y32 at *
            have hS : (fun w' : World => w'.cell? ⟨w.heap.size + 1, 70, none⟩ = some (.slice A2 pre.length c2)) W.drew := (mcellL (m := { M3 with A2 := A2, n2 := pre.length, c2 := c2 }) hM3r hmb.drew).2
            have hbD : RowKit.Below w.heap.size w W.drew := hI.bl.drew
            have HMb := Lib.hid hmb
            have HRw := Lib.hid hrow
            have HI := Lib.hid hI
            have HMx := Lib.hid (show pre.length + 1 ≤ maxLen by unfold maxLen; omega)
            have HMy := Lib.hid (show (pre.length + 1) * 48 ≤ 140737488355328 by omega)
            clear hrs hsl hso hmb hrow hI HLn' ho hbx11 hB11 hG11 hO11 hs11 hbs hbi hM3z hI0 hM2n hM3 hlen
            have ew : IntKind.i64.wrap y0 = y0 := IntWalk.i64_in _ (by omega)
            refine wpIn_block ?_
            refine wpIn_round_until 17 (fun w' : World => w'.cell? ⟨w.heap.size + 1, 70, none⟩ = some (.slice A2 pre.length c2)) ?hQ (by kernel_rfl) (by kernel_rfl) ?_
            case hQ => rintro ⟨_, _, h⟩; exact h
            refine wpAnyT_free (i := 0) (v := ?v0) rfl (by kernel_rfl) (by kernel_rfl) (by kernel_rfl) rfl (fun _ _ _ h => h) hS (Or.inl ⟨by kernel_rfl, ?hy0⟩) ?rest0
            case hy0 =>
              intro w hSw
              clear hSw
              go_simp
              first | done | with_reducible rfl
            (try simp only [Act.put, List.setIfInBounds_toArray, List.set_cons_zero, List.set_cons_succ])
            refine wpAnyT_take (i := 1) (v := .slice A2 pre.length c2) rfl (by kernel_rfl) (by kernel_rfl) (by kernel_rfl) (by kernel_rfl) rfl (fun _ _ _ h => h) (Or.inl ⟨by kernel_rfl, ?hy1⟩) hS ?rest1
            case hy1 =>
              intro w hSw
              (try dsimp only at hSw)
              go_simp
            (try simp only [Act.put, List.setIfInBounds_toArray, List.set_cons_zero, List.set_cons_succ])
            refine wpAnyT_free (i := 2) (v := ?v2) rfl (by kernel_rfl) (by kernel_rfl) (by kernel_rfl) rfl (fun _ _ _ h => h) hS (Or.inl ⟨by kernel_rfl, ?hy2⟩) ?rest2
            case hy2 =>
              intro w hSw
              clear hSw
              go_simp
              first | done | with_reducible rfl
            (try simp only [Act.put, List.setIfInBounds_toArray, List.set_cons_zero, List.set_cons_succ])
            refine wpAnyT_free (i := 5) (v := ?v5) rfl (by kernel_rfl) (by kernel_rfl) (by kernel_rfl) rfl (fun _ _ _ h => h) hS (Or.inl ⟨by kernel_rfl, ?hy5⟩) ?rest5
            case hy5 =>
              intro w hSw
              clear hSw
              go_simp
              first | done | with_reducible rfl
            (try simp only [Act.put, List.setIfInBounds_toArray, List.set_cons_zero, List.set_cons_succ])
            refine wpAnyT_free (i := 7) (v := ?v7) rfl (by kernel_rfl) (by kernel_rfl) (by kernel_rfl) rfl (fun _ _ _ h => h) hS (Or.inl ⟨by kernel_rfl, ?hy7⟩) ?rest7
            case hy7 =>
              intro w hSw
              clear hSw
              go_simp
              first | done | with_reducible rfl
            (try simp only [Act.put, List.setIfInBounds_toArray, List.set_cons_zero, List.set_cons_succ])
            refine wpAnyT_free (i := 9) (v := ?v9) rfl (by kernel_rfl) (by kernel_rfl) (by kernel_rfl) rfl (fun _ _ _ h => h) hS (Or.inl ⟨by kernel_rfl, ?hy9⟩) ?rest9
            case hy9 =>
              intro w hSw
              clear hSw
              go_simp
              first | done | with_reducible rfl
            (try simp only [Act.put, List.setIfInBounds_toArray, List.set_cons_zero, List.set_cons_succ])
            refine wpAnyT_free (i := 11) (v := ?v11) rfl (by kernel_rfl) (by kernel_rfl) (by kernel_rfl) rfl (fun _ _ _ h => h) hS (Or.inl ⟨by kernel_rfl, ?hy11⟩) ?rest11
            case hy11 =>
              intro w hSw
              clear hSw
              go_simp
              first | done | with_reducible rfl
            (try simp only [Act.put, List.setIfInBounds_toArray, List.set_cons_zero, List.set_cons_succ])
            refine wpAnyT_free (i := 13) (v := ?v13) rfl (by kernel_rfl) (by kernel_rfl) (by kernel_rfl) rfl (fun _ _ _ h => h) hS (Or.inl ⟨by kernel_rfl, ?hy13⟩) ?rest13
            case hy13 =>
              intro w hSw
              clear hSw
              go_simp
              first | done | with_reducible rfl
            (try simp only [Act.put, List.setIfInBounds_toArray, List.set_cons_zero, List.set_cons_succ])
            refine wpAnyT_call (i := 3) (by kernel_rfl) rfl (by kernel_rfl) fun K hK => ?_
            simp only [List.getElem_toArray, List.getElem_cons_succ, List.getElem_cons_zero]
            go_simp
            go_at_call 29
            refine (N0.out _ hbD).mono ?_
            rintro e w4 ⟨rfl, rfl⟩
            refine hK.out _ _ hS ?_
            clear hK K
            (try simp only [Act.put, List.setIfInBounds_toArray, List.set_cons_zero, List.set_cons_succ])
            refine wpAnyT_free (i := 4) (v := ?v4) rfl (by kernel_rfl) (by kernel_rfl) (by kernel_rfl) rfl (fun _ _ _ h => h) hS (Or.inl ⟨by kernel_rfl, ?hy4⟩) ?rest4
            case hy4 =>
              intro w hSw
              clear hSw
              go_simp
              first | done | with_reducible rfl
            (try simp only [Act.put, List.setIfInBounds_toArray, List.set_cons_zero, List.set_cons_succ])
            refine wpAnyT_call (i := 6) (by kernel_rfl) rfl (by kernel_rfl) fun K hK => ?_
            simp only [List.getElem_toArray, List.getElem_cons_succ, List.getElem_cons_zero]
            go_simp
            go_at_call 29
            refine (N4.out _ hbD).mono ?_
            rintro e w4 ⟨rfl, rfl⟩
            refine hK.out _ _ hS ?_
            clear hK K
            (try simp only [Act.put, List.setIfInBounds_toArray, List.set_cons_zero, List.set_cons_succ])
            refine wpAnyT_call (i := 8) (by kernel_rfl) rfl (by kernel_rfl) fun K hK => ?_
            simp only [List.getElem_toArray, List.getElem_cons_succ, List.getElem_cons_zero]
            go_simp
            go_at_call 30
            refine (N8.out _ hbD).mono ?_
            rintro e w4 ⟨rfl, rfl⟩
            refine hK.out _ _ hS ?_
            clear hK K
            (try simp only [Act.put, List.setIfInBounds_toArray, List.set_cons_zero, List.set_cons_succ])
            refine wpAnyT_call (i := 10) (by kernel_rfl) rfl (by kernel_rfl) fun K hK => ?_
            simp only [List.getElem_toArray, List.getElem_cons_succ, List.getElem_cons_zero]
            go_simp
            go_at_call 30
            refine (N16.out _ hbD).mono ?_
            rintro e w4 ⟨rfl, rfl⟩
            refine hK.out _ _ hS ?_
            clear hK K
            (try simp only [Act.put, List.setIfInBounds_toArray, List.set_cons_zero, List.set_cons_succ])
            refine wpAnyT_call (i := 12) (by kernel_rfl) rfl (by kernel_rfl) fun K hK => ?_
            simp only [List.getElem_toArray, List.getElem_cons_succ, List.getElem_cons_zero]
            go_simp
            go_at_call 30
            refine (N24.out _ hbD).mono ?_
            rintro e w4 ⟨rfl, rfl⟩
            refine hK.out _ _ hS ?_
            clear hK K
            (try simp only [Act.put, List.setIfInBounds_toArray, List.set_cons_zero, List.set_cons_succ])
            refine wpAnyT_call (i := 14) (by kernel_rfl) rfl (by kernel_rfl) fun K hK => ?_
            simp only [List.getElem_toArray, List.getElem_cons_succ, List.getElem_cons_zero]
            go_simp
            go_at_call 29
            refine (N32.out _ hbD).mono ?_
            rintro e w4 ⟨rfl, rfl⟩
            refine hK.out _ _ hS ?_
            clear hK K
            (try simp only [Act.put, List.setIfInBounds_toArray, List.set_cons_zero, List.set_cons_succ])
            refine wpAnyT_free (i := 15) (v := .agg (encSt ⟨y0, y4, y8, y16, y24, y32⟩).toArray) rfl (by kernel_rfl) (by kernel_rfl) (by kernel_rfl) rfl (fun _ _ _ h => h) hS (Or.inl ⟨by kernel_rfl, ?hy15⟩) ?rest15
            case hy15 =>
              intro w hSw
              clear hSw
              go_simp
              rfl
            (try simp only [Act.put, List.setIfInBounds_toArray, List.set_cons_zero, List.set_cons_succ])
            have HSl := Lib.hid (slice_st W.drew ⟨y0, y4, y8, y16, y24, y32⟩)
            refine wpAnyT_call (i := 16) (by kernel_rfl) rfl (by kernel_rfl) fun K hK => ?_
            simp only [List.getElem_toArray, List.getElem_cons_succ, List.getElem_cons_zero]
            refine wp_builtSlice 53 1 #[(0, .tmp 93)] rfl (vals := #[(0, .agg (encSt ⟨y0, y4, y8, y16, y24, y32⟩).toArray)]) (by go_simp) HSl.out ?_
            refine hK.out _ _ (mcellL (m := { M3 with A2 := A2, n2 := pre.length, c2 := c2 }) hM3r (HMb.out.drew.alloc _)).2 ?_
            clear hK K
            (try simp only [Act.put, List.setIfInBounds_toArray, List.set_cons_zero, List.set_cons_succ])
            refine wpAnyT_drop (by kernel_rfl) (by kernel_rfl) ?_
            simp only [List.drop_succ_cons, List.drop_zero]
            have hb1 := (RowKit.Below.refl W.heap.size W).drew
            have hown1 := own_kept HRw.out hb1
            have hw1s : w.heap.size + 2 ≤ W.drew.heap.size := HI.out.sz
            generalize W.drew = W1 at *
            refine wpList_app st_elem rfl (.tmp 79) (.tmp 94) rfl (w.heap.size + 2) (hown1.alloc _) rfl rfl (Rd.fresh _ _ _ 1 6 _ rfl) (one_st _) HMx.out HMy.out (by simp; omega) ?_
            intro v5 w5 hown5 hb5 hgr
            obtain ⟨A5, c5, rfl, _, _⟩ := own_slice hown5
            have hm5 := ((HMb.out.kept hb1).alloc _).grown hgr (own_blk_ne HRw.out HMb.out (by decide))
            have hc5 := (mcellL (m := { M3 with A2 := A2, n2 := pre.length, c2 := c2 }) hM3r hm5).2
            have hf5 := hm5.frozen
            have hnext := OfI.next hM3r HI.out HMb.out HRw.out hb1 (x := x) (by rw [HKx.out, HSx.out]; exact hown5) hgr hs8
            have HN := Lib.hid hnext
            clear hnext hgr hown5 hb5 hm5 hown1 hS
            go_wp2
            exact ⟨HN.out.1.from _, HN.out.2.1, HN.out.2.2⟩
          case stop =>
            rintro D c pre W _ _ h _
            exact h.elim
          case done =>
            rintro D xs W hD rfl hI hK
            obtain ⟨A2, c2, hmb, hrow⟩ := hI.mb
            have e2 : (List.range g).map (fun x => stAt l (108 + 44 * q + 36 * min x (g - 1))) = (List.range g).map fun i => stAt l (108 + 44 * q + 36 * i) := range_len_map g (fun k => stAt l (108 + 44 * q + 36 * k))
            rw [e2] at hrow
            simp only [List.length_range] at hmb hrow
            have hgs : ∀ s ∈ (List.range g).map (fun i => stAt l (108 + 44 * q + 36 * i)), StOk s := by
              intro s hs
              obtain ⟨i, hi, rfl⟩ := List.mem_map.1 hs
              have := List.mem_range.1 hi
              exact stAt_ok HOK.out (by rw [HL.out]; omega)
            have hlg : (logOf l).length = 4 + 44 * q := by unfold logOf; rw [HQ.out]; exact subB_len (by rw [HL.out]; omega)
            have hlo : RcsOk (recsN (logOf l) q) := recsN_ok (show BytesOk (logOf l) from subB_ok HOK.out _ _) q (by rw [hlg]; exact Nat.le_refl _)
            obtain ⟨f, hfe⟩ : ∃ f : Mf, (⟨x4, x8, x16, x24, x32, regs, A1, q, c1, recsN (logOf l) q, A2, g, c2, (List.range g).map fun i => stAt l (108 + 44 * q + 36 * i)⟩ : Mf) = f := ⟨_, rfl⟩
            have hfl : (mAt l).lie A1 q c1 A2 g c2 = f := by rw [HMf.out, ← hfe, HGs.out]; rfl
            have hcs : Mf.cs { M3 with A2 := A2, n2 := g, c2 := c2 } = f.cs := by rw [← hM3, ← HM2.out, ← hfe]; rfl
            rw [hcs] at hmb
            have hf : MfOk W W.heap.size f := by
              rw [← hfe]
              exact ⟨by simpa using HB4.out, by simpa using B8.out, by simpa using B16.out, by simpa using B24.out, HRl.out, HRo.out, recsN_len _ _, hlo, Rd.of_own (by have := hI.lg; rw [← hM3] at this; exact this), by simp, hgs, Rd.of_own hrow⟩
            have hf1 : f.n = q ∧ f.n2 = g := by rw [← hfe]; exact ⟨rfl, rfl⟩
            have HPut := Lib.hid (mput_any f W hf (by rw [hf1.1]; omega) (by rw [hf1.2]; omega))
            have HF := Lib.hid hf
            have HFl := Lib.hid hfl
            have HFk := Lib.hid hf1
            have HBo := Lib.hid (mBytes_ok hf.rb hf.lo)
            have HMb := Lib.hid hmb
            have HFL := Lib.hid (Mf.len hf.rl)
            have HGr := Lib.hid hI.gr
            have HbW := Lib.hid hI.bl
            have HK := Lib.hid hK
            have HDl := Lib.hid (show w.heap.size + 2 ≤ D by omega)
            have HFr : Hid (W.rangeAt (w.heap.size + 1) 0 f.cs) := Lib.hid (hmb.rangeIn fun j v hv => by rw [Nat.zero_add]; simpa using hv)
            have HWs := Lib.hid hI.sz
            have HLg : Hid (W.ownsRow w8.heap.size 69 35 (.slice f.A f.n f.c) f.n (f.log.flatMap Rc.cs)) := Lib.hid (by have := hI.lg; rw [← hM3] at this; rw [← hfe]; exact this)
            have HRw : Hid (W.ownsRow (w.heap.size + 2) 72 6 (.slice f.A2 f.n2 f.c2) f.n2 (f.gs.flatMap encSt)) := Lib.hid (by rw [← hfe]; exact hrow)
            clear hbx11 hB11 hG11 hO11 hs11 hbs hbi hM3z hI0 hM2n hM3 hM3r hlen hfl hfe hcs hmb hrow e2 hgs hlg hlo hf hf1 hI hK hD
            cases hp : mputOk f with
            | false =>
              have HNo := Lib.hid (show mofOk l = false by
                unfold mofOk
                rw [← (mputOk_lie (mAt l) A1 q c1 A2 g c2).1, HFl.out, hp]; simp)
              have HPf := Lib.hid (mput_fails hp HPut.out)
              clear hp
              go_wp2_with (first
                | (refine wpList_load_mid rfl 55 (.tmp 6) rfl (w.heap.size + 1) 0 (by rfl) f.cs _ HFr.out Try.underlying55 rfl (by rw [HFL.out]; kernel_rfl) ?_)
                | (go_at_call 15; refine HPf.out.mono ?_; rintro e w12 ⟨rfl, hb12⟩)
                | (refine wpList_built rfl 55 #[] rfl (vals := #[]) (by go_simp) (HBu.out _) ?_)
                | (refine wpList_store_blk rfl 55 (.tmp 2) (.tmp 111) rfl w.heap.size 0 m0cs (by rfl) (by rfl) (HGr.out.kept hb12) (by simp) (by rw [hsz2]; kernel_rfl) HF1.out HFz.out ?_; intro w13 hB13 hbl13 hz13 hh13))
              have hKD : w13.heap[D]? = some (.deferred (some [])) := (hh13 D (by have := HDl.out; have := hs10; omega)).trans ((hb12.block D (Array.getElem?_eq_some_iff.1 HK.out).1).trans HK.out)
              refine bodyPostM_ret1 (D := D) ?_ ?_ (mf_result (g := w.heap.size) (cs := m0cs.toList) ?_ ?_ ?_) ?_
              · rfl
              · exact hKD
              · simpa using blk_putObj hB13 hKD (.deferred none)
              · simpa using hsz2
              · rfl
              · exact ⟨.inr ⟨HNo.out, rfl⟩, ((HbW.out.trans (hb12.mono HbW.out.size)).trans (hbl13 _ (Nat.le_refl _))).trans (belowK_b (w := w) (Nat.le_refl _) _ D _ _ (by have := HDl.out; omega) hKD rfl rfl)⟩
            | true =>
              have HPf := Lib.hid (mputs hp HPut.out)
              have HPy := Lib.hid hp
              have HFn := Lib.hid (show 0 + f.cs.toArray.size ≤ m0cs.size by rw [hsz2]; simp [HFL.out])
              have HFi : Hid ((Try.prog.info? 55).map (·.size) = some f.cs.toArray.size) := Lib.hid (by rw [show f.cs.toArray.size = 71 by simp [HFL.out]]; kernel_rfl)
              have HFo := Lib.hid (all_oneCell_toArray (Mf.one f))
              have HFw := Lib.hid (show setAt m0cs 0 f.cs.toArray.toList = f.cs.toArray from setAt_whole (by rw [hsz2]; exact HFL.out))
              clear hp
              by_cases heq : mBytes f = l
              · have HYes := Lib.hid (show mofOk l = true by
                  unfold mofOk
                  rw [← (mputOk_lie (mAt l) A1 q c1 A2 g c2).1, ← (mputOk_lie (mAt l) A1 q c1 A2 g c2).2, HFl.out, HPy.out, HLy.out, heq, HQ.out, HGs.out, HL.out, decide_eq_true (show 104 ≤ n ∧ 108 + 44 * q ≤ n by omega), decide_eq_true HLen.out]; simp)
                have HE := Lib.hid heq
                clear heq
                go_upto_region 18 with (first
                  | (refine wpList_load_mid rfl 55 (.tmp 6) rfl (w.heap.size + 1) 0 (by rfl) f.cs _ HFr.out Try.underlying55 rfl (by rw [HFL.out]; kernel_rfl) ?_)
                  | (go_at_call 15; refine HPf.out.mono ?_; rintro e w12 ⟨A5, x5, rfl, hown5, hb12⟩; have s1 := conv_str (Rd.of_own hown5) rfl x5; have s2 := conv_str (HR.out.below (HbW.out.trans (hb12.mono HbW.out.size))) HL.out c; rw [show strOfNums (mBytes f) = strOfNums l from congrArg _ HE.out] at s1; have hr12 := range_below HFr.out (by have := HWs.out; omega) hb12))
                go_wp2_with (first
                  | (refine wpList_load_mid rfl 55 (.tmp 6) rfl (w.heap.size + 1) 0 (by rfl) f.cs _ hr12 Try.underlying55 rfl (by rw [HFL.out]; kernel_rfl) ?_)
                  | (refine wpList_store_blk rfl 55 (.tmp 2) (.tmp 112) rfl w.heap.size 0 f.cs.toArray (by rfl) (by rfl) (HGr.out.kept hb12) HFn.out HFi.out HFo.out HFw.out ?_; intro w13 hB13 hbl13 hz13 hh13))
                have hKD : w13.heap[D]? = some (.deferred (some [])) := (hh13 D (by have := HDl.out; have := hs10; omega)).trans ((hb12.block D (Array.getElem?_eq_some_iff.1 HK.out).1).trans HK.out)
                refine bodyPostM_ret1 (D := D) ?_ ?_ (mf_result (g := w.heap.size) (cs := f.cs) ?_ ?_ ?_) ?_
                · rfl
                · exact hKD
                · exact blk_putObj hB13 hKD (.deferred none)
                · exact HFL.out
                · rfl
                · have h1 : w13.ownsRow w8.heap.size 69 35 (.slice f.A f.n f.c) f.n (f.log.flatMap Rc.cs) := own_same (own_kept HLg.out hb12) fun k hk => hh13 k (by have := (own_lt HLg.out hk).1; omega)
                  have h2 : w13.ownsRow (w.heap.size + 2) 72 6 (.slice f.A2 f.n2 f.c2) f.n2 (f.gs.flatMap encSt) := own_same (own_kept HRw.out hb12) fun k hk => hh13 k (by have := (own_lt HRw.out hk).1; omega)
                  refine ⟨.inl ⟨HYes.out, A1, q, c1, A2, g, c2, by rw [HFl.out]; rfl, ?_, by omega, by have := HLen.out; omega⟩, ((HbW.out.trans (hb12.mono HbW.out.size)).trans (hbl13 _ (Nat.le_refl _))).trans (belowK_b (w := w) (Nat.le_refl _) _ D _ _ (by have := HDl.out; omega) hKD rfl rfl)⟩
                  rw [HFl.out]
                  exact ⟨HF.out.ver, HF.out.vt, HF.out.irq, HF.out.str, HF.out.rl, HF.out.rb, HF.out.ll, HF.out.lo, Rd.of_own (ownsRow_putObj h1 _ hKD rfl), HF.out.gl, HF.out.go, Rd.of_own (ownsRow_putObj h2 _ hKD rfl)⟩
              · have HNo := Lib.hid (show mofOk l = false by
                  unfold mofOk
                  rw [← (mputOk_lie (mAt l) A1 q c1 A2 g c2).2, HFl.out, decide_eq_false heq]; simp)
                have HS : Hid (((strOfNums (mBytes f)).toList == (strOfNums l).toList) = false) := Lib.hid (by
                  rw [beq_eq_false_iff_ne]; exact fun h => heq (strOfNums_inj HBo.out HOK.out h))
                clear heq
                go_upto_region 18 with (first
                  | (refine wpList_load_mid rfl 55 (.tmp 6) rfl (w.heap.size + 1) 0 (by rfl) f.cs _ HFr.out Try.underlying55 rfl (by rw [HFL.out]; kernel_rfl) ?_)
                  | (go_at_call 15; refine HPf.out.mono ?_; rintro e w12 ⟨A5, x5, rfl, hown5, hb12⟩; have s1 := conv_str (Rd.of_own hown5) rfl x5; have s2 := conv_str (HR.out.below (HbW.out.trans (hb12.mono HbW.out.size))) HL.out c; have hne := HS.out; have hr12 := range_below HFr.out (by have := HWs.out; omega) hb12))
                go_wp2_with (first
                  | (refine wpList_built rfl 55 #[] rfl (vals := #[]) (by go_simp) (HBu.out _) ?_)
                  | (refine wpList_store_blk rfl 55 (.tmp 2) (.tmp 111) rfl w.heap.size 0 m0cs (by rfl) (by rfl) (HGr.out.kept hb12) (by simp) (by rw [hsz2]; kernel_rfl) HF1.out HFz.out ?_; intro w13 hB13 hbl13 hz13 hh13))
                have hKD : w13.heap[D]? = some (.deferred (some [])) := (hh13 D (by have := HDl.out; have := hs10; omega)).trans ((hb12.block D (Array.getElem?_eq_some_iff.1 HK.out).1).trans HK.out)
                refine bodyPostM_ret1 (D := D) ?_ ?_ (mf_result (g := w.heap.size) (cs := m0cs.toList) ?_ ?_ ?_) ?_
                · rfl
                · exact hKD
                · simpa using blk_putObj hB13 hKD (.deferred none)
                · simpa using hsz2
                · rfl
                · exact ⟨.inr ⟨HNo.out, rfl⟩, ((HbW.out.trans (hb12.mono HbW.out.size)).trans (hbl13 _ (Nat.le_refl _))).trans (belowK_b (w := w) (Nat.le_refl _) _ D _ _ (by have := HDl.out; omega) hKD rfl rfl)⟩
        · have HNo := Lib.hid (show mofOk l = false by unfold mofOk; rw [HL.out, HQ.out, HGs.out, decide_eq_false hlen]; simp)
          have e1 : (((n - (108 + 44 * q) : Nat) : Int) != 36 * (g : Int)) = true := by rw [bne_iff_ne]; omega
          clear hlen
          go_wp2_with (first
            | (go_at_call 29; refine (HEnd.out _ hbx10).mono ?_; rintro e w1 ⟨rfl, rfl⟩)
            | (refine wpList_built rfl 55 #[] rfl (vals := #[]) (by go_simp) (HBu.out _) ?_)
            | (refine wpList_store_blk rfl 55 (.tmp 2) (.tmp 74) rfl w.heap.size 0 m0cs (by rfl) (by rfl) HG10.out (by simp) (by rw [hsz2]; kernel_rfl) HF1.out HFz.out ?_; intro w11 hB11 hbl11 hz11 hh11))
          refine bodyPostM_ret (mf_result (g := w.heap.size) (cs := m0cs.toList) ?_ ?_ ?_) ?_ ?_
          · simpa using hB11
          · simpa using hsz2
          · rfl
          · rfl
          · exact ⟨.inr ⟨HNo.out, rfl⟩, hbx10.trans (hbl11 _ (Nat.le_refl _))⟩
end Go.Proofs.Ytjjbpiejplfbpaa
