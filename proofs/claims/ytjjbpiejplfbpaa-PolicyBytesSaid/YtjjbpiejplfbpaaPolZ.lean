/- Chapter 27: the document's manifest read out of bytes: good lengths. -/
import Derived.Test.YtjjbpiejplfbpaaPolYb
import Derived.Test.YtjjbpiejplfbpaaUntil2
namespace Go.Proofs.Ytjjbpiejplfbpaa
set_option linter.unusedVariables false
set_option linter.unusedSimpArgs false
open Go.RowKit Go.Sort Go.Shelf

theorem refputs {m : Mf} {w : World} {A : Array Value} (h : mputOk m = true) (hc : Calls Try.prog 16 A w (MputRes m w)) : Calls Try.prog 16 A w fun e w' => ∃ A' c', e = .returned (.tuple #[.slice A' (mBytes m).length c', .int .i64 0]) ∧ w'.ownsRow w.heap.size 5 1 (.slice A' (mBytes m).length c') (mBytes m).length ((mBytes m).flatMap encB) ∧ Below w.heap.size w w' :=
  hc.mono fun e w' ⟨hh, hb⟩ => by
    rcases hh with ⟨_, A', c', he, ho⟩ | ⟨h', _⟩
    · exact ⟨A', c', he, ho, hb⟩
    · rw [h] at h'; cases h'
theorem refput_fails {m : Mf} {w : World} {A : Array Value} (h : mputOk m = false) (hc : Calls Try.prog 16 A w (MputRes m w)) : Calls Try.prog 16 A w fun e w' => e = .returned (.tuple #[.slice none 0 0, .int .i64 271]) ∧ Below w.heap.size w w' :=
  hc.mono fun e w' ⟨hh, hb⟩ => by
    rcases hh with ⟨h', _⟩ | ⟨_, he⟩
    · rw [h] at h'; cases h'
    · exact ⟨he, hb⟩
set_option maxRecDepth 100000 in
set_option maxHeartbeats 60000000 in
theorem refMfOf_main (A : Option Addr) (n c : Nat) (l : List Int) (w : World) (hl : l.length = n) (hok : BytesOk l) (hm : n ≤ 30000) (hnc : n ≤ c) (hr : Rd w w.heap.size 1 A n (l.flatMap encB)) (hbd : 104 ≤ n ∧ recN l ≤ 64 ∧ 108 + 44 * recN l ≤ n) :
    Calls Try.prog 18 #[.slice A n c] w (MofRes l w) := by
  have hz2 := (zero_of_info info_mf).1
  have hsz2 : m0cs.size = 71 := by decide +kernel
  have HBu := Lib.hid (fun W => build_mf0 W)
  have HBelow := Lib.hid (bal (Below.refl w.heap.size w) (.cells m0cs 55))
  obtain ⟨b, o, rfl, hb0, _⟩ := hr.2 (by omega)
  obtain ⟨q, hq⟩ : ∃ q, recN l = q := ⟨_, rfl⟩
  rw [hq] at hbd
  obtain ⟨h104, hq64, h108⟩ := hbd
  have h100 : nAt 4 l 100 = q := by
    have := (nAt_bd (s := 4) hok (a := 100) (by omega)).1
    rw [← hq]
    unfold recN
    omega
  have H100 := Lib.hid (fun W hb => refNumAt (s := 4) hl hok (by omega) (by decide) hr (a := 100) rfl (by omega) (c := c) W hb)
  rw [h100] at H100
  simp only [Int.cast_ofNat_Int] at H100
  have ew : IntKind.i64.wrap (q : Int) = (q : Int) := IntWalk.i64_in _ (by omega)
  have HMf := Lib.hid (show mAt l = ⟨nAt 4 l 4, nAt 8 l 8, nAt 8 l 16, nAt 8 l 24, nAt 4 l 32, subB l 36 64, none, 0, 0, recsN (logOf l) q, none, 0, 0, (List.range (gsN l)).map fun i => stAt l (108 + 44 * q + 36 * i)⟩ by unfold mAt; rw [hq])
  have B4 := nAt_bd (s := 4) hok (a := 4) (by omega)
  have B8 := Lib.hid (nAt_bd (s := 8) hok (a := 8) (by omega))
  have B16 := Lib.hid (nAt_bd (s := 8) hok (a := 16) (by omega))
  have B24 := Lib.hid (nAt_bd (s := 8) hok (a := 24) (by omega))
  have B32 := nAt_bd (s := 4) hok (a := 32) (by omega)
  have HR1 := Lib.hid (hr.rangeB hl (a := 36) (m := 32) (by omega))
  have HR2 := Lib.hid (hr.rangeB hl (a := 68) (m := 32) (by omega))
  have HRg := Lib.hid (show (l.drop 36).take 32 ++ (l.drop 68).take 32 = subB l 36 64 by unfold subB; rw [show 68 = 36 + 32 from rfl, ← List.drop_drop, ← List.take_add])
  have hd1 : ((l.drop 36).take 32).length = 32 := by simp; omega
  have hd2 : ((l.drop 68).take 32).length = 32 := by simp; omega
  have HRl := Lib.hid (show (subB l 36 64).length = 64 from subB_len (by omega))
  have HRo := Lib.hid (subB_ok hok 36 64)
  obtain ⟨x4, hx4⟩ : ∃ x, nAt 4 l 4 = x := ⟨_, rfl⟩
  obtain ⟨x8, hx8⟩ : ∃ x, nAt 8 l 8 = x := ⟨_, rfl⟩
  obtain ⟨x16, hx16⟩ : ∃ x, nAt 8 l 16 = x := ⟨_, rfl⟩
  obtain ⟨x24, hx24⟩ : ∃ x, nAt 8 l 24 = x := ⟨_, rfl⟩
  obtain ⟨x32, hx32⟩ : ∃ x, nAt 4 l 32 = x := ⟨_, rfl⟩
  rw [hx4, hx8, hx16, hx24, hx32] at HMf
  rw [hx4] at B4
  rw [hx8] at B8
  rw [hx16] at B16
  rw [hx24] at B24
  rw [hx32] at B32
  have H4 := Lib.hid hx4
  have H8 := Lib.hid hx8
  have H16 := Lib.hid hx16
  have H24 := Lib.hid hx24
  have H32 := Lib.hid hx32
  generalize (l.drop 36).take 32 = d1 at *
  generalize (l.drop 68).take 32 = d2 at *
  generalize hreg : subB l 36 64 = regs at *
  have HD1 := Lib.hid (show (d1.flatMap encB).length = 32 by rw [flatB_len, hd1])
  have HD2 := Lib.hid (show (d2.flatMap encB).length = 32 by rw [flatB_len, hd2])
  have HBn := Lib.hid (fun W => build_nodes W (d1.flatMap encB) (d2.flatMap encB) HD1.out HD2.out)
  have HBm := Lib.hid (fun W => build_mfr W regs HRl.out)
  rw [← HRg.out, List.flatMap_append] at HBm
  have B4' : 0 ≤ x4 ∧ x4 < 4294967296 := by simpa using B4
  have B32' : 0 ≤ x32 ∧ x32 < 4294967296 := by simpa using B32
  have u4 : IntKind.u32.wrap x4 = x4 := by rw [IntKind.wrap_u32']; omega
  have u32 : IntKind.i64.wrap x32 = x32 := IntWalk.i64_in _ (by omega)
  have HL := Lib.hid hl
  have HOK := Lib.hid hok
  have HR := Lib.hid hr
  have HQ := Lib.hid hq
  have k1 : (68 : Int) ≤ c := by omega
  have k2 : (100 : Int) ≤ c := by omega
  have k3 : ¬ c = 36 := by omega
  have k4 : ¬ c = 68 := by omega
  clear hx4 hx8 hx16 hx24 hx32 hreg hl hok hr hq B4 B32 h100 hd1 hd2
  go_enter Try.func18, Try.ntmps18
  go_upto_region 4 with (go_at_call 33; refine (H100.out _ HBelow.out).mono ?_; rintro e w1 ⟨rfl, rfl⟩)
  refine wp_name ?_
  intro w6 hw6
  have hbx6 : RowKit.Below w.heap.size w w6 := by rw [hw6]; exact HBelow.out
  have HG6 : Hid (Blk w6 w.heap.size 55 m0cs) := Lib.hid (by rw [hw6]; exact Blk.new _ _ _)
  have hz6 : w6.heap.size = w.heap.size + 1 := by rw [hw6]; simp
  clear hw6
  have hAr1 := fun W => arrayAt_run' W b (o + 36) (c - 36)
  have hAr2 := fun W => arrayAt_run' W b (o + 68) (c - 68)
  have hS : (fun w' : World => w'.rangeAt b (o + 36) (d1.flatMap encB) ∧ w'.rangeAt b (o + 68) (d2.flatMap encB)) w6.drew := ⟨range_below HR1.out hb0 hbx6.drew, range_below HR2.out hb0 hbx6.drew⟩
  have hbd6 := hbx6.drew
  have HGd6 := Lib.hid HG6.out.drew
  have hzd6 : w6.drew.heap.size = w.heap.size + 1 := hz6
  refine wp_region_until 11 (fun w' : World => w'.rangeAt b (o + 36) (d1.flatMap encB) ∧ w'.rangeAt b (o + 68) (d2.flatMap encB)) (by kernel_rfl) ?_
  generalize w6.drew = W6 at *
  refine wpAnyT_free (i := 0) (v := ?v0p) rfl (by kernel_rfl) (by kernel_rfl) (by kernel_rfl) rfl (fun _ _ _ h => h) hS (Or.inl ⟨by kernel_rfl, ?hy0p⟩) ?rest0p
  case hy0p =>
    intro w hSw
    clear hSw
    go_simp
    first | done | with_reducible rfl
  simp only [List.getElem_toArray, List.getElem_cons_succ, List.getElem_cons_zero]
  simp only [Act.put, List.setIfInBounds_toArray, List.set_cons_zero, List.set_cons_succ]
  refine wpAnyT_free (i := 1) (v := ?v1p) rfl (by kernel_rfl) (by kernel_rfl) (by kernel_rfl) rfl (fun _ _ _ h => h) hS (Or.inl ⟨by kernel_rfl, ?hy1p⟩) ?rest1p
  case hy1p =>
    intro w hSw
    clear hSw
    go_simp
    first | done | with_reducible rfl
  simp only [List.getElem_toArray, List.getElem_cons_succ, List.getElem_cons_zero]
  simp only [Act.put, List.setIfInBounds_toArray, List.set_cons_zero, List.set_cons_succ]
  refine wpAnyT_free (i := 2) (v := ?v2p) rfl (by kernel_rfl) (by kernel_rfl) (by kernel_rfl) rfl (fun _ _ _ h => h) hS (Or.inl ⟨by kernel_rfl, ?hy2p⟩) ?rest2p
  case hy2p =>
    intro w hSw
    clear hSw
    go_simp
    first | done | with_reducible rfl
  simp only [List.getElem_toArray, List.getElem_cons_succ, List.getElem_cons_zero]
  simp only [Act.put, List.setIfInBounds_toArray, List.set_cons_zero, List.set_cons_succ]
  refine wpAnyT_load (i := 3) rfl (by kernel_rfl) (by kernel_rfl) (by kernel_rfl) (by kernel_rfl) rfl (fun _ _ _ _ h => h) (by kernel_rfl) 38 (.tmp 40) rfl b (o + 36) (by rfl) (d1.flatMap encB) _ (fun _ h => h.1) Try.underlying38 rfl (by rw [HD1.out]; kernel_rfl) hS ?_
  simp only [List.getElem_toArray, List.getElem_cons_succ, List.getElem_cons_zero]
  simp only [Act.put, List.setIfInBounds_toArray, List.set_cons_zero, List.set_cons_succ]
  refine wpAnyT_free (i := 4) (v := ?v4p) rfl (by kernel_rfl) (by kernel_rfl) (by kernel_rfl) rfl (fun _ _ _ h => h) hS (Or.inl ⟨by kernel_rfl, ?hy4p⟩) ?rest4p
  case hy4p =>
    intro w hSw
    clear hSw
    go_simp
    first | done | with_reducible rfl
  simp only [List.getElem_toArray, List.getElem_cons_succ, List.getElem_cons_zero]
  simp only [Act.put, List.setIfInBounds_toArray, List.set_cons_zero, List.set_cons_succ]
  refine wpAnyT_free (i := 5) (v := ?v5p) rfl (by kernel_rfl) (by kernel_rfl) (by kernel_rfl) rfl (fun _ _ _ h => h) hS (Or.inl ⟨by kernel_rfl, ?hy5p⟩) ?rest5p
  case hy5p =>
    intro w hSw
    clear hSw
    go_simp
    first | done | with_reducible rfl
  simp only [List.getElem_toArray, List.getElem_cons_succ, List.getElem_cons_zero]
  simp only [Act.put, List.setIfInBounds_toArray, List.set_cons_zero, List.set_cons_succ]
  refine wpAnyT_free (i := 6) (v := ?v6p) rfl (by kernel_rfl) (by kernel_rfl) (by kernel_rfl) rfl (fun _ _ _ h => h) hS (Or.inl ⟨by kernel_rfl, ?hy6p⟩) ?rest6p
  case hy6p =>
    intro w hSw
    clear hSw
    go_simp
    first | done | with_reducible rfl
  simp only [List.getElem_toArray, List.getElem_cons_succ, List.getElem_cons_zero]
  simp only [Act.put, List.setIfInBounds_toArray, List.set_cons_zero, List.set_cons_succ]
  refine wpAnyT_load (i := 7) rfl (by kernel_rfl) (by kernel_rfl) (by kernel_rfl) (by kernel_rfl) rfl (fun _ _ _ _ h => h) (by kernel_rfl) 38 (.tmp 44) rfl b (o + 68) (by rfl) (d2.flatMap encB) _ (fun _ h => h.2) Try.underlying38 rfl (by rw [HD2.out]; kernel_rfl) hS ?_
  simp only [List.getElem_toArray, List.getElem_cons_succ, List.getElem_cons_zero]
  simp only [Act.put, List.setIfInBounds_toArray, List.set_cons_zero, List.set_cons_succ]
  refine wpAnyT_built (i := 8) rfl (by kernel_rfl) (by kernel_rfl) (by kernel_rfl) rfl (fun _ _ _ _ h => h) (by kernel_rfl) 51 #[(0, .tmp 41), (1, .tmp 45)] rfl (vals := #[(0, .agg (d1.flatMap encB).toArray), (1, .agg (d2.flatMap encB).toArray)]) (by go_simp) (fun W => HBn.out W) hS ?_
  simp only [List.getElem_toArray, List.getElem_cons_succ, List.getElem_cons_zero]
  simp only [Act.put, List.setIfInBounds_toArray, List.set_cons_zero, List.set_cons_succ]
  refine wpAnyT_built (i := 9) rfl (by kernel_rfl) (by kernel_rfl) (by kernel_rfl) rfl (fun _ _ _ _ h => h) (by kernel_rfl) 55 #[(5, .tmp 46)] rfl (vals := #[(5, .agg (d1.flatMap encB ++ d2.flatMap encB).toArray)]) (by go_simp) (fun W => HBm.out W) hS ?_
  simp only [List.getElem_toArray, List.getElem_cons_succ, List.getElem_cons_zero]
  simp only [Act.put, List.setIfInBounds_toArray, List.set_cons_zero, List.set_cons_succ]
  refine wpAnyT_call (i := 10) (by kernel_rfl) rfl (by kernel_rfl) fun K hK => ?_
  simp only [List.getElem_toArray, List.getElem_cons_succ, List.getElem_cons_zero]
  go_simp
  refine hK.out _ _ ⟨range_below hS.1 (by omega) (bal (Below.refl _ _) _), range_below hS.2 (by omega) (bal (Below.refl _ _) _)⟩ ?_
  clear hK K
  (try simp only [List.getElem_toArray, List.getElem_cons_succ, List.getElem_cons_zero])
  (try simp only [Act.put, List.setIfInBounds_toArray, List.set_cons_zero, List.set_cons_succ])
  refine wpAnyT_drop (by kernel_rfl) (by kernel_rfl) ?_
  simp only [List.drop_succ_cons, List.drop_zero]
  have hM1l : (Mf.cs ⟨0, 0, 0, 0, 0, d1 ++ d2, none, 0, 0, [], none, 0, 0, []⟩).length = 71 := Mf.len (by rw [HRg.out]; exact HRl.out)
  have hst := fun W => store_mf (cs := Mf.cs ⟨0, 0, 0, 0, 0, d1 ++ d2, none, 0, 0, [], none, 0, 0, []⟩) hM1l (Mf.one _) W
  generalize hM1 : Mf.cs ⟨0, 0, 0, 0, 0, d1 ++ d2, none, 0, 0, [], none, 0, 0, []⟩ = M1 at *
  have HM1 := Lib.hid hM1
  clear hM1
  have hst6 : (storeCells ⟨w.heap.size + 1, 0, none⟩ M1 0).run Try.prog (W6.alloc (.cells m0cs 55)) = .ok () (W6.alloc (.cells M1.toArray 55)) := by rw [← hzd6]; exact hst W6
  go_upto_region 5 with (fail)
  have HB7 : Hid (Blk (W6.alloc (.cells M1.toArray 55)) (w.heap.size + 1) 55 (Mf.cs ⟨0, 0, 0, 0, 0, regs, none, 0, 0, [], none, 0, 0, []⟩).toArray) := Lib.hid (by
    rw [← hzd6, ← HRg.out, HM1.out]; exact Blk.new _ _ _)
  have HG7 := Lib.hid (HGd6.out.alloc (.cells M1.toArray 55))
  have hbx7 := bal' hbd6 (.cells M1.toArray 55) (by omega)
  have hs7 : w.heap.size + 2 ≤ (W6.alloc (.cells M1.toArray 55)).heap.size := by simp; omega
  clear hst hst6 hM1l HM1 hS hbd6 HGd6 hzd6 HG6 hbx6 hz6 HBm HBn HD1 HD2 HR1 HR2 hAr1 hAr2 k1 k2 k3 k4
  generalize W6.alloc (.cells M1.toArray 55) = w7 at *
  have c0 := (mcell HB7.out).1
  have hfz := HB7.out.frozen
  have HN := Lib.hid (fun W hb => refNumAt (s := 4) HL.out HOK.out (by omega) (by decide) HR.out (a := 4) rfl (by omega) (c := c) W hb)
  simp only [Int.cast_ofNat_Int] at HN
  rw [H4.out] at HN
  go_upto_region 7 with (go_at_call 33; refine (HN.out _ hbx7).mono ?_; rintro e w1 ⟨rfl, rfl⟩)
  clear HN
  have HB8 : Hid (Blk (w7.setCell ⟨w.heap.size + 1, 0, none⟩ (.int .u32 x4)) (w.heap.size + 1) 55 (Mf.cs ⟨x4, 0, 0, 0, 0, regs, none, 0, 0, [], none, 0, 0, []⟩).toArray) := Lib.hid (by have := HB7.out.set_ 0 (.int .u32 x4); rw [mf_set0] at this; exact this)
  have HG8 := Lib.hid (HG7.out.far (p := ⟨w.heap.size + 1, 0, none⟩) (by simp) (.int .u32 x4))
  have hbx8 : RowKit.Below w.heap.size w (w7.setCell ⟨w.heap.size + 1, 0, none⟩ (.int .u32 x4)) := hbx7.setCell (by simp) _
  have hs8 : w.heap.size + 2 ≤ (w7.setCell ⟨w.heap.size + 1, 0, none⟩ (.int .u32 x4)).heap.size := by simpa [World.setCell] using hs7
  clear c0 hfz HB7 HG7 hbx7 hs7
  generalize w7.setCell ⟨w.heap.size + 1, 0, none⟩ (.int .u32 x4) = w8 at *
  have c1 := (mcell HB8.out).2.1
  have hfz := HB8.out.frozen
  have HN := Lib.hid (fun W hb => refNumAt (s := 8) HL.out HOK.out (by omega) (by decide) HR.out (a := 8) rfl (by omega) (c := c) W hb)
  simp only [Int.cast_ofNat_Int] at HN
  rw [H8.out] at HN
  go_upto_region 8 with (go_at_call 33; refine (HN.out _ hbx8).mono ?_; rintro e w1 ⟨rfl, rfl⟩)
  clear HN
  have HB9 : Hid (Blk (w8.setCell ⟨w.heap.size + 1, 1, none⟩ (.int .u64 x8)) (w.heap.size + 1) 55 (Mf.cs ⟨x4, x8, 0, 0, 0, regs, none, 0, 0, [], none, 0, 0, []⟩).toArray) := Lib.hid (by have := HB8.out.set_ 1 (.int .u64 x8); rw [mf_set1] at this; exact this)
  have HG9 := Lib.hid (HG8.out.far (p := ⟨w.heap.size + 1, 1, none⟩) (by simp) (.int .u64 x8))
  have hbx9 : RowKit.Below w.heap.size w (w8.setCell ⟨w.heap.size + 1, 1, none⟩ (.int .u64 x8)) := hbx8.setCell (by simp) _
  have hs9 : w.heap.size + 2 ≤ (w8.setCell ⟨w.heap.size + 1, 1, none⟩ (.int .u64 x8)).heap.size := by simpa [World.setCell] using hs8
  clear c1 hfz HB8 HG8 hbx8 hs8
  generalize w8.setCell ⟨w.heap.size + 1, 1, none⟩ (.int .u64 x8) = w9 at *
  have c2 := (mcell HB9.out).2.2.1
  have hfz := HB9.out.frozen
  have HN := Lib.hid (fun W hb => refNumAt (s := 8) HL.out HOK.out (by omega) (by decide) HR.out (a := 16) rfl (by omega) (c := c) W hb)
  simp only [Int.cast_ofNat_Int] at HN
  rw [H16.out] at HN
  go_upto_region 9 with (go_at_call 33; refine (HN.out _ hbx9).mono ?_; rintro e w1 ⟨rfl, rfl⟩)
  clear HN
  have HB10 : Hid (Blk (w9.setCell ⟨w.heap.size + 1, 2, none⟩ (.int .u64 x16)) (w.heap.size + 1) 55 (Mf.cs ⟨x4, x8, x16, 0, 0, regs, none, 0, 0, [], none, 0, 0, []⟩).toArray) := Lib.hid (by have := HB9.out.set_ 2 (.int .u64 x16); rw [mf_set2] at this; exact this)
  have HG10 := Lib.hid (HG9.out.far (p := ⟨w.heap.size + 1, 2, none⟩) (by simp) (.int .u64 x16))
  have hbx10 : RowKit.Below w.heap.size w (w9.setCell ⟨w.heap.size + 1, 2, none⟩ (.int .u64 x16)) := hbx9.setCell (by simp) _
  have hs10 : w.heap.size + 2 ≤ (w9.setCell ⟨w.heap.size + 1, 2, none⟩ (.int .u64 x16)).heap.size := by simpa [World.setCell] using hs9
  clear c2 hfz HB9 HG9 hbx9 hs9
  generalize w9.setCell ⟨w.heap.size + 1, 2, none⟩ (.int .u64 x16) = w10 at *
  have c3 := (mcell HB10.out).2.2.2.1
  have hfz := HB10.out.frozen
  have HN := Lib.hid (fun W hb => refNumAt (s := 8) HL.out HOK.out (by omega) (by decide) HR.out (a := 24) rfl (by omega) (c := c) W hb)
  simp only [Int.cast_ofNat_Int] at HN
  rw [H24.out] at HN
  go_upto_region 10 with (go_at_call 33; refine (HN.out _ hbx10).mono ?_; rintro e w1 ⟨rfl, rfl⟩)
  clear HN
  have HB11 : Hid (Blk (w10.setCell ⟨w.heap.size + 1, 3, none⟩ (.int .u64 x24)) (w.heap.size + 1) 55 (Mf.cs ⟨x4, x8, x16, x24, 0, regs, none, 0, 0, [], none, 0, 0, []⟩).toArray) := Lib.hid (by have := HB10.out.set_ 3 (.int .u64 x24); rw [mf_set3] at this; exact this)
  have HG11 := Lib.hid (HG10.out.far (p := ⟨w.heap.size + 1, 3, none⟩) (by simp) (.int .u64 x24))
  have hbx11 : RowKit.Below w.heap.size w (w10.setCell ⟨w.heap.size + 1, 3, none⟩ (.int .u64 x24)) := hbx10.setCell (by simp) _
  have hs11 : w.heap.size + 2 ≤ (w10.setCell ⟨w.heap.size + 1, 3, none⟩ (.int .u64 x24)).heap.size := by simpa [World.setCell] using hs10
  clear c3 hfz HB10 HG10 hbx10 hs10
  generalize w10.setCell ⟨w.heap.size + 1, 3, none⟩ (.int .u64 x24) = w11 at *
  have c4 := (mcell HB11.out).2.2.2.2
  have hfz := HB11.out.frozen
  have HN := Lib.hid (fun W hb => refNumAt (s := 4) HL.out HOK.out (by omega) (by decide) HR.out (a := 32) rfl (by omega) (c := c) W hb)
  simp only [Int.cast_ofNat_Int] at HN
  rw [H32.out] at HN
  go_upto_region 12 with (go_at_call 33; refine (HN.out _ hbx11).mono ?_; rintro e w1 ⟨rfl, rfl⟩)
  clear HN
  have HB12 : Hid (Blk (w11.setCell ⟨w.heap.size + 1, 4, none⟩ (.int .i64 x32)) (w.heap.size + 1) 55 (Mf.cs ⟨x4, x8, x16, x24, x32, regs, none, 0, 0, [], none, 0, 0, []⟩).toArray) := Lib.hid (by have := HB11.out.set_ 4 (.int .i64 x32); rw [mf_set4] at this; exact this)
  have HG12 := Lib.hid (HG11.out.far (p := ⟨w.heap.size + 1, 4, none⟩) (by simp) (.int .i64 x32))
  have hbx12 : RowKit.Below w.heap.size w (w11.setCell ⟨w.heap.size + 1, 4, none⟩ (.int .i64 x32)) := hbx11.setCell (by simp) _
  have hs12 : w.heap.size + 2 ≤ (w11.setCell ⟨w.heap.size + 1, 4, none⟩ (.int .i64 x32)).heap.size := by simpa [World.setCell] using hs11
  clear c4 hfz HB11 HG11 hbx11 hs11
  generalize w11.setCell ⟨w.heap.size + 1, 4, none⟩ (.int .i64 x32) = w12 at *
  obtain ⟨M, hME⟩ : ∃ M : Mf, (⟨x4, x8, x16, x24, x32, regs, none, 0, 0, [], none, 0, 0, []⟩ : Mf) = M := ⟨_, rfl⟩
  have HM12 : Hid (MB w M [] [] w12) := Lib.hid ⟨HG12.out, ⟨none, 0, none, 0, by rw [← hME]; exact HB12.out, World.ownsRow_nil _ _ _ _, World.ownsRow_nil _ _ _ _⟩, hbx12, hs12⟩
  have hMr : M.regs.length = 64 := by rw [← hME]; exact HRl.out
  have HME := Lib.hid hME
  have HMr := Lib.hid hMr
  have HLg := Lib.hid (show ∀ k, k < q → recsN (logOf l) (k + 1) = recsN (logOf l) k ++ [recAt l (104 + 44 * k)] from fun k hk => by
    show recsN (logOf l) k ++ [recAt (logOf l) (4 + 44 * k)] = _
    unfold logOf
    rw [HQ.out, recAt_sub (by omega), show 100 + (4 + 44 * k) = 104 + 44 * k by omega])
  have HRk := Lib.hid (show ∀ k, k < q → RcOk (recAt l (104 + 44 * k)) from fun k hk => recAt_ok HOK.out (by rw [HL.out]; omega))
  clear hME HB12 HG12 hbx12 hs12 hMr
  go_upto_region 14 with (fail)
  go_loopw [9, 10] (fun v i wr => ∃ (k a : Nat), k ≤ q ∧ v = .int .i64 (a : Int) ∧ i = .int .i64 k ∧ Hid (a = 104 + 44 * k) ∧ Hid (MB w M (recsN (logOf l) k) [] wr)) (fun _ i _ => q - (intOf i).toNat)
  case atStart => exact ⟨0, 104, by omega, rfl, rfl, Lib.hid (by omega), HM12⟩
  case round =>
    obtain ⟨k, a, hk, rfl, rfl, ha, HI⟩ := hrel
    clear HM12
    have ha2 : a ≤ 3000 := by have := ha.out; omega
    by_cases hlt : k < q
    · have hrok := HRk.out k hlt
      have hlg1 := HLg.out k hlt
      rw [← ha.out] at hrok hlg1
      have HRec := Lib.hid (fun W hb => refRecord_any (some ⟨b, o, none⟩) n c l a W HL.out HOK.out hm hnc (by have := ha.out; omega) ((HR.out.below hb).more hb.size))
      have HLl := Lib.hid (recsN_len (logOf l) k)
      have hI := HI.out
      obtain ⟨A1, c1, A2, c2, hmb, hrl, hrg⟩ := hI.mb
      rw [recsN_len] at hmb hrl
      have HSl := Lib.hid (fun W => slice_rec W (recAt l a).cs (Rc.len hrok))
      have hrs : (recAt l a).cs.toArray.size = 35 := by simp [Rc.len hrok]
      generalize recAt l a = r at *
      have HLg1 := Lib.hid hlg1
      clear hlg1 hrok
      have HMx := Lib.hid (show k + 1 ≤ maxLen by unfold maxLen; omega)
      have HMy := Lib.hid (show (k + 1) * 56 ≤ 140737488355328 by omega)
      have hsz0 := hI.sz
      go_upto_region 16 with (fail)
      have hS : (fun w' : World => w'.cell? ⟨w.heap.size + 1, 69, none⟩ = some (.slice A1 k c1)) wr.drew := (mcellL (m := M.lie A1 k c1 A2 ([] : List St).length c2) HMr.out hmb.drew).1
      have hbD : RowKit.Below w.heap.size w wr.drew := hI.bl.drew
      have HMb := Lib.hid hmb
      have HRl1 := Lib.hid hrl
      have HRg1 := Lib.hid hrg
      clear hmb hrl hrg
      have hdr := (RowKit.Below.refl wr.heap.size wr).drew
      refine wp_region_until 6 (fun w' : World => w'.cell? ⟨w.heap.size + 1, 69, none⟩ = some (.slice A1 k c1)) (by kernel_rfl) ?_
      generalize wr.drew = W1 at *
      refine wpAnyT_free (i := 0) (v := ?v0q) rfl (by kernel_rfl) (by kernel_rfl) (by kernel_rfl) rfl (fun _ _ _ h => h) hS (Or.inl ⟨by kernel_rfl, ?hy0q⟩) ?rest0q
      case hy0q =>
        intro w hSw
        clear hSw
        go_simp
        first | done | with_reducible rfl
      simp only [List.getElem_toArray, List.getElem_cons_succ, List.getElem_cons_zero]
      simp only [Act.put, List.setIfInBounds_toArray, List.set_cons_zero, List.set_cons_succ]
      refine wpAnyT_take (i := 1) (v := .slice A1 k c1) rfl (by kernel_rfl) (by kernel_rfl) (by kernel_rfl) (by kernel_rfl) rfl (fun _ _ _ h => h) (Or.inl ⟨by kernel_rfl, ?hy1r⟩) hS ?rest1r
      case hy1r =>
        intro w hSw
        (try dsimp only at hSw)
        go_simp
      simp only [List.getElem_toArray, List.getElem_cons_succ, List.getElem_cons_zero]
      simp only [Act.put, List.setIfInBounds_toArray, List.set_cons_zero, List.set_cons_succ]
      refine wpAnyT_free (i := 2) (v := ?v2q) rfl (by kernel_rfl) (by kernel_rfl) (by kernel_rfl) rfl (fun _ _ _ h => h) hS (Or.inl ⟨by kernel_rfl, ?hy2q⟩) ?rest2q
      case hy2q =>
        intro w hSw
        clear hSw
        go_simp
        first | done | with_reducible rfl
      simp only [List.getElem_toArray, List.getElem_cons_succ, List.getElem_cons_zero]
      simp only [Act.put, List.setIfInBounds_toArray, List.set_cons_zero, List.set_cons_succ]
      refine wpAnyT_free (i := 3) (v := ?v3q) rfl (by kernel_rfl) (by kernel_rfl) (by kernel_rfl) rfl (fun _ _ _ h => h) hS (Or.inl ⟨by kernel_rfl, ?hy3q⟩) ?rest3q
      case hy3q =>
        intro w hSw
        clear hSw
        go_simp
        first | done | with_reducible rfl
      simp only [List.getElem_toArray, List.getElem_cons_succ, List.getElem_cons_zero]
      simp only [Act.put, List.setIfInBounds_toArray, List.set_cons_zero, List.set_cons_succ]
      refine wpAnyT_call (i := 4) (by kernel_rfl) rfl (by kernel_rfl) fun K hK => ?_
      simp only [List.getElem_toArray, List.getElem_cons_succ, List.getElem_cons_zero]
      go_simp
      go_at_call 34
      refine (HRec.out _ hbD).mono ?_
      rintro e w4 ⟨rfl, hb4⟩
      have hw4 := hdr.trans (hb4.mono hdr.size)
      refine hK.out _ _ (mcellL (m := M.lie A1 k c1 A2 ([] : List St).length c2) HMr.out (HMb.out.kept hw4)).1 ?_
      clear hK K
      (try simp only [Act.put, List.setIfInBounds_toArray, List.set_cons_zero, List.set_cons_succ])
      refine wpAnyT_call (i := 5) (by kernel_rfl) rfl (by kernel_rfl) fun K hK => ?_
      simp only [List.getElem_toArray, List.getElem_cons_succ, List.getElem_cons_zero]
      refine wp_builtSlice 52 1 #[(0, .tmp 92)] rfl (vals := #[(0, .agg r.cs.toArray)]) (by go_simp) (HSl.out _) ?_
      refine hK.out _ _ (mcellL (m := M.lie A1 k c1 A2 ([] : List St).length c2) HMr.out ((HMb.out.kept hw4).alloc _)).1 ?_
      clear hK K
      (try simp only [Act.put, List.setIfInBounds_toArray, List.set_cons_zero, List.set_cons_succ])
      refine wpAnyT_drop (by kernel_rfl) (by kernel_rfl) ?_
      simp only [List.drop_succ_cons, List.drop_zero]
      refine wpList_app rec_elem rfl (.tmp 89) (.tmp 93) rfl (w.heap.size + 2) ((own_kept HRl1.out hw4).alloc _) rfl rfl (Rd.fresh _ _ _ 1 35 _ hrs) (Rc.one r) HMx.out HMy.out (by have := hw4.size; simp; omega) ?_
      intro v5 w5 hown5 hb5 hgr
      obtain ⟨A5, c5, rfl, _, _⟩ := own_slice hown5
      have hm5 := ((HMb.out.kept hw4).alloc _).grown hgr (own_blk_ne HRl1.out HMb.out (by decide))
      have hc5 := (mcellL (m := M.lie A1 k c1 A2 ([] : List St).length c2) HMr.out hm5).1
      have hf5 := hm5.frozen
      have HNx : Hid (MB w M (recsN (logOf l) (k + 1)) [] (w5.setCell ⟨w.heap.size + 1, 69, none⟩ (.slice A5 (k + 1) c5))) := Lib.hid (by
        rw [HLg1.out]
        have := MB.nextLog (log := recsN (logOf l) k) (gs := []) (A1 := A1) (c1 := c1) (A2 := A2) (c2 := c2) HMr.out HI.out (by rw [HLl.out]; exact HMb.out) (by rw [HLl.out]; exact HRl1.out) HRg1.out hw4 (by rw [HLl.out]; exact hown5) (by rw [HLl.out]; exact hgr)
        rw [HLl.out] at this
        exact this)
      clear hgr hown5 hb5 hm5 hS hw4 hb4
      go_wp2
      go_roundw
      case rel => exact ⟨k + 1, a + 44, by omega, by go_num, by go_num, Lib.hid (by have := ha.out; omega), HNx⟩
      case measure => simp [intOf]; omega
    · obtain rfl : k = q := by omega
      have HNe := Lib.hid (fun W hb => refNumAt (s := 4) HL.out HOK.out (by omega) (by decide) HR.out (a := a) rfl (by have := ha.out; omega) (c := c) W hb)
      obtain ⟨g, hg⟩ : ∃ g, gsN l = g := ⟨_, rfl⟩
      have hge : nAt 4 l a = g := by
        have := (nAt_bd (s := 4) HOK.out (a := a) (by rw [HL.out]; have := ha.out; omega)).1
        rw [← hg]
        unfold gsN
        rw [HQ.out, ← ha.out]
        omega
      have hgb : g < 4294967296 := by
        have := (nAt_bd (s := 4) HOK.out (a := a) (by rw [HL.out]; have := ha.out; omega)).2
        rw [hge] at this
        have q2 : (g : Int) < 4294967296 := by simpa using this
        omega
      rw [hge] at HNe
      simp only [Int.cast_ofNat_Int] at HNe
      have HGs := Lib.hid hg
      have HA := Lib.hid (show a + 4 = 108 + 44 * k by have := ha.out; omega)
      have hna : a + 4 ≤ n := by have := ha.out; omega
      have uw : IntKind.u64.wrap ((n : Int) - ((a : Int) + 4)) = (n : Int) - ((a : Int) + 4) := wrap_in (by omega) (by omega)
      have HFz := Lib.hid (show setAt m0cs 0 m0cs.toList = m0cs from setAt_whole (cs := m0cs) (new := m0cs.toList) (by simp))
      have HF1 := Lib.hid (show m0cs.all (·.oneCell') = true from by decide +kernel)
      have HIg := Lib.hid HI.out.gr
      have HIb := Lib.hid HI.out.bl
      clear hg hge hlt hk
      by_cases h16 : 16 < g
      · have HNo := Lib.hid (show mofOk l = false by
          cases hq : mputOk (mAt l) with
          | false => unfold mofOk; rw [hq]; simp
          | true =>
            unfold mputOk at hq
            simp only [Bool.and_eq_true] at hq
            have := rises_len (by omega) (by omega) hq.2
            rw [HMf.out, List.length_map, List.length_range, HGs.out] at this
            omega)
        go_wp2_with (first
          | (go_at_call 33; refine (HNe.out _ HIb.out).mono ?_; rintro e w1 ⟨rfl, rfl⟩)
          | (refine wpList_built rfl 55 #[] rfl (vals := #[]) (by go_simp) (HBu.out _) ?_)
          | (refine wpList_store_blk rfl 55 (.tmp 2) (.tmp 118) rfl w.heap.size 0 m0cs (by rfl) (by rfl) HIg.out (by simp) (by rw [hsz2]; kernel_rfl) HF1.out HFz.out ?_; intro w13 hB13 hbl13 hz13 hh13))
        refine bodyPost_ret (mf_result2 (g := w.heap.size) (cs := m0cs.toList) ?_ ?_ ?_) ?_ ?_
        · simpa using hB13
        · simpa using hsz2
        · rfl
        · rfl
        · exact ⟨.inr ⟨HNo.out, rfl⟩, HIb.out.trans (hbl13 _ (Nat.le_refl _))⟩
      · by_cases hlen : n = a + 4 + 36 * g
        · have HLen := Lib.hid hlen
          have e1 : (((n : Int) - ((a : Int) + 4)) != 36 * (g : Int)) = false := by rw [bne_eq_false_iff_eq]; omega
          have h16' : g ≤ 16 := by omega
          clear hlen h16
          go_upto_region 22 with (go_at_call 33; refine (HNe.out _ HIb.out).mono ?_; rintro e w1 ⟨rfl, rfl⟩)
          have HI0 := HI
          clear HIg HIb HI HNe
          go_loopw [9] (fun v wr => ∃ (j a2 : Nat), j ≤ g ∧ v = .int .i64 (a2 : Int) ∧ Hid (a2 = a + 4 + 36 * j) ∧ Hid (MB w M (recsN (logOf l) k) ((List.range j).map fun i => stAt l (108 + 44 * k + 36 * i)) wr)) (fun v _ => n - (intOf v).toNat)
          case atStart => exact ⟨0, a + 4, by omega, by go_num, Lib.hid (by omega), HI0⟩
          case round =>
            obtain ⟨j, a2, hj, rfl, hx, HI⟩ := hrel
            have hl2 := HLen.out
            have ha3 : a2 ≤ 30000 := by have := hx.out; omega
            clear HI0
            by_cases hlt : j < g
            · have hlt2 : a2 + 36 ≤ n := by have := hx.out; omega
              clear hl2
              have HLl := Lib.hid (recsN_len (logOf l) k)
              have HLj := Lib.hid (show ((List.range j).map fun i => stAt l (108 + 44 * k + 36 * i)).length = j by simp)
              have HNj := Lib.hid (show (List.range (j + 1)).map (fun i => stAt l (108 + 44 * k + 36 * i)) = (List.range j).map (fun i => stAt l (108 + 44 * k + 36 * i)) ++ [stAt l a2] by
                rw [List.range_succ, List.map_append, List.map_cons, List.map_nil]
                have e : 108 + 44 * k + 36 * j = a2 := by have := hx.out; have := HA.out; omega
                rw [e])
              generalize (List.range j).map (fun i => stAt l (108 + 44 * k + 36 * i)) = gs0 at *
              obtain ⟨A1, c1, A2, c2, hmb, hrl, hrg⟩ := HI.out.mb
              rw [HLj.out] at hmb hrg
              rw [HLl.out] at hmb hrl
              have HMb := Lib.hid hmb
              have HRl1 := Lib.hid hrl
              have HRg1 := Lib.hid hrg
              have hszr := HI.out.sz
              have hblr := HI.out.bl
              clear hmb hrl hrg
              obtain ⟨y0, hy0⟩ : ∃ x, nAt 4 l a2 = x := ⟨_, rfl⟩
              obtain ⟨y4, hy4⟩ : ∃ x, nAt 4 l (a2 + 4) = x := ⟨_, rfl⟩
              obtain ⟨y8, hy8⟩ : ∃ x, nAt 8 l (a2 + 8) = x := ⟨_, rfl⟩
              obtain ⟨y16, hy16⟩ : ∃ x, nAt 8 l (a2 + 16) = x := ⟨_, rfl⟩
              obtain ⟨y24, hy24⟩ : ∃ x, nAt 8 l (a2 + 24) = x := ⟨_, rfl⟩
              obtain ⟨y32, hy32⟩ : ∃ x, nAt 4 l (a2 + 32) = x := ⟨_, rfl⟩
              have HSt := Lib.hid (show stAt l a2 = ⟨y0, y4, y8, y16, y24, y32⟩ by unfold stAt; rw [hy0, hy4, hy8, hy16, hy24, hy32])
              have b0 := nAt_bd (s := 4) HOK.out (a := a2) (by rw [HL.out]; omega)
              have b4 := nAt_bd (s := 4) HOK.out (a := a2 + 4) (by rw [HL.out]; omega)
              have b32 := nAt_bd (s := 4) HOK.out (a := a2 + 32) (by rw [HL.out]; omega)
              rw [hy0] at b0
              rw [hy4] at b4
              rw [hy32] at b32
              have b0' : 0 ≤ y0 ∧ y0 < 4294967296 := by simpa using b0
              have b4' : 0 ≤ y4 ∧ y4 < 4294967296 := by simpa using b4
              have b32' : 0 ≤ y32 ∧ y32 < 4294967296 := by simpa using b32
              have v0 : IntKind.i64.wrap y0 = y0 := IntWalk.i64_in _ (by omega)
              have v4 : IntKind.u32.wrap y4 = y4 := by rw [IntKind.wrap_u32']; omega
              have v32 : IntKind.u32.wrap y32 = y32 := by rw [IntKind.wrap_u32']; omega
              have H0 := Lib.hid hy0
              have H4 := Lib.hid hy4
              have H8 := Lib.hid hy8
              have H16 := Lib.hid hy16
              have H24 := Lib.hid hy24
              have H32 := Lib.hid hy32
              clear hy0 hy4 hy8 hy16 hy24 hy32 b0 b4 b32
              go_upto_region 25 with (fail)
              refine wp_name ?_
              intro z0 hz0
              have HX0 : Hid (Blk z0 wr.heap.size 72 #[.int .i64 0, .int .u32 0, .int .u64 0, .int .u64 0, .int .u64 0, .int .u32 0]) := Lib.hid (by rw [hz0]; exact Blk.new _ _ _)
              have hbz0 : RowKit.Below wr.heap.size wr z0 := by rw [hz0]; exact bal (Below.refl _ _) _
              clear hz0
              obtain ⟨gx, hgx⟩ : ∃ x, wr.heap.size = x := ⟨_, rfl⟩
              rw [hgx] at HX0 hbz0 hszr ⊢
              have e0 : z0.cell? ⟨gx, 0, none⟩ = some (.int .i64 0) := HX0.out.cell 0
              have hfz := HX0.out.frozen
              have HN := Lib.hid (fun W hb => refNumAt (s := 4) HL.out HOK.out (by omega) (by decide) HR.out (a := a2) (i := (a2 : Int)) (by first | rfl | (push_cast; rfl)) (by omega) (c := c) W hb)
              simp only [Int.cast_ofNat_Int] at HN
              rw [H0.out] at HN
              have HbW := Lib.hid (hblr.trans ((show RowKit.Below wr.heap.size wr z0 by rw [hgx]; exact hbz0).mono hblr.size))
              have X := HN.out z0 HbW.out
              clear HN HbW
              go_upto_region 27 with (go_at_call 33; with_reducible refine X.mono ?_; rintro e w1 ⟨rfl, rfl⟩)
              have HX1 : Hid (Blk (z0.setCell ⟨gx, 0, none⟩ (.int .i64 y0)) gx 72 #[.int .i64 y0, .int .u32 0, .int .u64 0, .int .u64 0, .int .u64 0, .int .u32 0]) := Lib.hid (HX0.out.set_ 0 (.int .i64 y0))
              have hbz1 : RowKit.Below gx wr (z0.setCell ⟨gx, 0, none⟩ (.int .i64 y0)) := hbz0.setCell (by simp) _
              clear e0 hfz X HX0 hbz0
              generalize z0.setCell ⟨gx, 0, none⟩ (.int .i64 y0) = z1 at *
              have e1 : z1.cell? ⟨gx, 1, none⟩ = some (.int .u32 0) := HX1.out.cell 1
              have hfz := HX1.out.frozen
              have HN := Lib.hid (fun W hb => refNumAt (s := 4) HL.out HOK.out (by omega) (by decide) HR.out (a := a2 + 4) (i := (a2 : Int) + 4) (by first | rfl | (push_cast; rfl)) (by omega) (c := c) W hb)
              simp only [Int.cast_ofNat_Int] at HN
              rw [H4.out] at HN
              have HbW := Lib.hid (hblr.trans ((show RowKit.Below wr.heap.size wr z1 by rw [hgx]; exact hbz1).mono hblr.size))
              have X := HN.out z1 HbW.out
              clear HN HbW
              go_upto_region 29 with (go_at_call 33; with_reducible refine X.mono ?_; rintro e w1 ⟨rfl, rfl⟩)
              have HX2 : Hid (Blk (z1.setCell ⟨gx, 1, none⟩ (.int .u32 y4)) gx 72 #[.int .i64 y0, .int .u32 y4, .int .u64 0, .int .u64 0, .int .u64 0, .int .u32 0]) := Lib.hid (HX1.out.set_ 1 (.int .u32 y4))
              have hbz2 : RowKit.Below gx wr (z1.setCell ⟨gx, 1, none⟩ (.int .u32 y4)) := hbz1.setCell (by simp) _
              clear e1 hfz X HX1 hbz1
              generalize z1.setCell ⟨gx, 1, none⟩ (.int .u32 y4) = z2 at *
              have e2 : z2.cell? ⟨gx, 2, none⟩ = some (.int .u64 0) := HX2.out.cell 2
              have hfz := HX2.out.frozen
              have HN := Lib.hid (fun W hb => refNumAt (s := 8) HL.out HOK.out (by omega) (by decide) HR.out (a := a2 + 8) (i := (a2 : Int) + 8) (by first | rfl | (push_cast; rfl)) (by omega) (c := c) W hb)
              simp only [Int.cast_ofNat_Int] at HN
              rw [H8.out] at HN
              have HbW := Lib.hid (hblr.trans ((show RowKit.Below wr.heap.size wr z2 by rw [hgx]; exact hbz2).mono hblr.size))
              have X := HN.out z2 HbW.out
              clear HN HbW
              go_upto_region 30 with (go_at_call 33; with_reducible refine X.mono ?_; rintro e w1 ⟨rfl, rfl⟩)
              have HX3 : Hid (Blk (z2.setCell ⟨gx, 2, none⟩ (.int .u64 y8)) gx 72 #[.int .i64 y0, .int .u32 y4, .int .u64 y8, .int .u64 0, .int .u64 0, .int .u32 0]) := Lib.hid (HX2.out.set_ 2 (.int .u64 y8))
              have hbz3 : RowKit.Below gx wr (z2.setCell ⟨gx, 2, none⟩ (.int .u64 y8)) := hbz2.setCell (by simp) _
              clear e2 hfz X HX2 hbz2
              generalize z2.setCell ⟨gx, 2, none⟩ (.int .u64 y8) = z3 at *
              have e3 : z3.cell? ⟨gx, 3, none⟩ = some (.int .u64 0) := HX3.out.cell 3
              have hfz := HX3.out.frozen
              have HN := Lib.hid (fun W hb => refNumAt (s := 8) HL.out HOK.out (by omega) (by decide) HR.out (a := a2 + 16) (i := (a2 : Int) + 16) (by first | rfl | (push_cast; rfl)) (by omega) (c := c) W hb)
              simp only [Int.cast_ofNat_Int] at HN
              rw [H16.out] at HN
              have HbW := Lib.hid (hblr.trans ((show RowKit.Below wr.heap.size wr z3 by rw [hgx]; exact hbz3).mono hblr.size))
              have X := HN.out z3 HbW.out
              clear HN HbW
              go_upto_region 31 with (go_at_call 33; with_reducible refine X.mono ?_; rintro e w1 ⟨rfl, rfl⟩)
              have HX4 : Hid (Blk (z3.setCell ⟨gx, 3, none⟩ (.int .u64 y16)) gx 72 #[.int .i64 y0, .int .u32 y4, .int .u64 y8, .int .u64 y16, .int .u64 0, .int .u32 0]) := Lib.hid (HX3.out.set_ 3 (.int .u64 y16))
              have hbz4 : RowKit.Below gx wr (z3.setCell ⟨gx, 3, none⟩ (.int .u64 y16)) := hbz3.setCell (by simp) _
              clear e3 hfz X HX3 hbz3
              generalize z3.setCell ⟨gx, 3, none⟩ (.int .u64 y16) = z4 at *
              have e4 : z4.cell? ⟨gx, 4, none⟩ = some (.int .u64 0) := HX4.out.cell 4
              have hfz := HX4.out.frozen
              have HN := Lib.hid (fun W hb => refNumAt (s := 8) HL.out HOK.out (by omega) (by decide) HR.out (a := a2 + 24) (i := (a2 : Int) + 24) (by first | rfl | (push_cast; rfl)) (by omega) (c := c) W hb)
              simp only [Int.cast_ofNat_Int] at HN
              rw [H24.out] at HN
              have HbW := Lib.hid (hblr.trans ((show RowKit.Below wr.heap.size wr z4 by rw [hgx]; exact hbz4).mono hblr.size))
              have X := HN.out z4 HbW.out
              clear HN HbW
              go_upto_region 32 with (go_at_call 33; with_reducible refine X.mono ?_; rintro e w1 ⟨rfl, rfl⟩)
              have HX5 : Hid (Blk (z4.setCell ⟨gx, 4, none⟩ (.int .u64 y24)) gx 72 #[.int .i64 y0, .int .u32 y4, .int .u64 y8, .int .u64 y16, .int .u64 y24, .int .u32 0]) := Lib.hid (HX4.out.set_ 4 (.int .u64 y24))
              have hbz5 : RowKit.Below gx wr (z4.setCell ⟨gx, 4, none⟩ (.int .u64 y24)) := hbz4.setCell (by simp) _
              clear e4 hfz X HX4 hbz4
              generalize z4.setCell ⟨gx, 4, none⟩ (.int .u64 y24) = z5 at *
              have e5 : z5.cell? ⟨gx, 5, none⟩ = some (.int .u32 0) := HX5.out.cell 5
              have hfz := HX5.out.frozen
              have HN := Lib.hid (fun W hb => refNumAt (s := 4) HL.out HOK.out (by omega) (by decide) HR.out (a := a2 + 32) (i := (a2 : Int) + 32) (by first | rfl | (push_cast; rfl)) (by omega) (c := c) W hb)
              simp only [Int.cast_ofNat_Int] at HN
              rw [H32.out] at HN
              have HbW := Lib.hid (hblr.trans ((show RowKit.Below wr.heap.size wr z5 by rw [hgx]; exact hbz5).mono hblr.size))
              have X := HN.out z5 HbW.out
              clear HN HbW
              go_upto_region 34 with (go_at_call 33; with_reducible refine X.mono ?_; rintro e w1 ⟨rfl, rfl⟩)
              have HX6 : Hid (Blk (z5.setCell ⟨gx, 5, none⟩ (.int .u32 y32)) gx 72 #[.int .i64 y0, .int .u32 y4, .int .u64 y8, .int .u64 y16, .int .u64 y24, .int .u32 y32]) := Lib.hid (HX5.out.set_ 5 (.int .u32 y32))
              have hbz6 : RowKit.Below gx wr (z5.setCell ⟨gx, 5, none⟩ (.int .u32 y32)) := hbz5.setCell (by simp) _
              clear e5 hfz X HX5 hbz5
              generalize z5.setCell ⟨gx, 5, none⟩ (.int .u32 y32) = z6 at *
              have hbz7 : RowKit.Below wr.heap.size wr z6 := by rw [hgx]; exact hbz6
              have HMx := Lib.hid (show j + 1 ≤ maxLen by unfold maxLen; omega)
              have HMy := Lib.hid (show (j + 1) * 48 ≤ 140737488355328 by omega)
              have HRx : Hid (z6.rangeAt gx 0 (encSt ⟨y0, y4, y8, y16, y24, y32⟩)) := Lib.hid (HX6.out.rangeIn fun i v hv => by rw [Nat.zero_add]; simpa [encSt] using hv)
              have HSl := Lib.hid (slice_st z6 ⟨y0, y4, y8, y16, y24, y32⟩)
              have e70 := (mcellL (m := M.lie A1 k c1 A2 j c2) HMr.out (HMb.out.kept hbz7)).2
              have hzs : w.heap.size + 2 ≤ z6.heap.size := by have := hbz6.size; have := hbz7.size; omega
              go_wp2_with (first
                | (refine wpList_load_mid rfl 72 (.tmp 13) rfl gx 0 (by rfl) (encSt ⟨y0, y4, y8, y16, y24, y32⟩) _ HRx.out Try.underlying72 rfl (by kernel_rfl) ?_)
                | (refine wpList_builtSlice rfl 53 1 #[(0, .tmp 180)] rfl (vals := #[(0, .agg (encSt ⟨y0, y4, y8, y16, y24, y32⟩).toArray)]) (by go_simp) HSl.out ?_)
                | (at_builtin; refine wpList_app st_elem rfl (.tmp 179) (.tmp 181) rfl (w.heap.size + 2) ((own_kept HRg1.out hbz7).alloc _) rfl rfl (Rd.fresh _ _ _ 1 6 _ rfl) (one_st _) HMx.out HMy.out (by simp; omega) ?_
                   intro v5 w5 hown5 hb5 hgr
                   obtain ⟨A5, c5, rfl, _, _⟩ := own_slice hown5
                   have hm5 := ((HMb.out.kept hbz7).alloc (.cells (encSt ⟨y0, y4, y8, y16, y24, y32⟩).toArray 72)).grown hgr (own_blk_ne HRg1.out HMb.out (by decide))
                   have hc5 := (mcellL (m := M.lie A1 k c1 A2 j c2) HMr.out hm5).2
                   have hf5 := hm5.frozen
                   have HNx : Hid (MB w M (recsN (logOf l) k) (gs0 ++ [⟨y0, y4, y8, y16, y24, y32⟩]) (w5.setCell ⟨w.heap.size + 1, 70, none⟩ (.slice A5 (j + 1) c5))) := Lib.hid (by
                     have := MB.nextGs (log := recsN (logOf l) k) (gs := gs0) (A1 := A1) (c1 := c1) (A2 := A2) (c2 := c2) (r := ⟨y0, y4, y8, y16, y24, y32⟩) HMr.out HI.out (by rw [HLl.out, HLj.out]; exact HMb.out) (by rw [HLl.out]; exact HRl1.out) (by rw [HLj.out]; exact HRg1.out) hbz7 (by rw [HLj.out]; exact hown5) (by rw [HLj.out]; exact hgr)
                     rw [HLj.out] at this
                     exact this)
                   clear hgr hown5 hb5 hm5))
              go_roundw
              case rel =>
                refine ⟨j + 1, a2 + 36, by omega, by go_num, Lib.hid (by have := hx.out; omega), Lib.hid ?_⟩
                rw [HNj.out, HSt.out]
                exact HNx.out
              case measure => simp [intOf]; omega
            · obtain rfl : j = g := by omega
              obtain ⟨A1, c1, A2, c2, hmb, hrl, hrg⟩ := HI.out.mb
              simp only [List.length_map, List.length_range] at hmb hrg
              rw [recsN_len] at hmb hrl
              have hgs : ∀ s ∈ (List.range j).map (fun i => stAt l (108 + 44 * k + 36 * i)), StOk s := by
                intro s hs
                obtain ⟨i, hi, rfl⟩ := List.mem_map.1 hs
                have := List.mem_range.1 hi
                have := HA.out
                exact stAt_ok HOK.out (by rw [HL.out]; omega)
              have hlg : (logOf l).length = 4 + 44 * k := by unfold logOf; rw [HQ.out]; exact subB_len (by rw [HL.out]; omega)
              have hlo : RcsOk (recsN (logOf l) k) := recsN_ok (show BytesOk (logOf l) from subB_ok HOK.out _ _) k (by rw [hlg]; exact Nat.le_refl _)
              obtain ⟨f, hfe⟩ : ∃ f : Mf, (⟨x4, x8, x16, x24, x32, regs, A1, k, c1, recsN (logOf l) k, A2, j, c2, (List.range j).map fun i => stAt l (108 + 44 * k + 36 * i)⟩ : Mf) = f := ⟨_, rfl⟩
              have hfl : (mAt l).lie A1 k c1 A2 j c2 = f := by rw [HMf.out, ← hfe, HGs.out]; rfl
              have hcs : Mf.cs (M.lie A1 k c1 A2 j c2) = f.cs := by rw [← HME.out, ← hfe]; rfl
              rw [hcs] at hmb
              have hf : MfOk wr wr.heap.size f := by
                rw [← hfe]
                exact ⟨by simpa using B4', B8.out, B16.out, B24.out, HRl.out, HRo.out, recsN_len _ _, hlo, Rd.of_own hrl, by simp, hgs, Rd.of_own hrg⟩
              have hf1 : f.n = k ∧ f.n2 = j := by rw [← hfe]; exact ⟨rfl, rfl⟩
              have HPut := Lib.hid (refPutMf_any f wr hf (by rw [hf1.1]; omega) (by rw [hf1.2]; omega))
              have HF := Lib.hid hf
              have HFl := Lib.hid hfl
              have HFk := Lib.hid hf1
              have HBo := Lib.hid (mBytes_ok hf.rb hf.lo)
              have HFL := Lib.hid (Mf.len hf.rl)
              have HGr := Lib.hid HI.out.gr
              have HbW := Lib.hid HI.out.bl
              have HFr : Hid (wr.rangeAt (w.heap.size + 1) 0 f.cs) := Lib.hid (hmb.rangeIn fun j v hv => by rw [Nat.zero_add]; simpa using hv)
              have HWs := Lib.hid HI.out.sz
              have HLg : Hid (wr.ownsRow (w.heap.size + 2) 69 35 (.slice f.A f.n f.c) f.n (f.log.flatMap Rc.cs)) := Lib.hid (by rw [← hfe]; exact hrl)
              have HRw : Hid (wr.ownsRow (w.heap.size + 2) 72 6 (.slice f.A2 f.n2 f.c2) f.n2 (f.gs.flatMap encSt)) := Lib.hid (by rw [← hfe]; exact hrg)
              have HLn : Hid (104 ≤ n ∧ 108 + 44 * k ≤ n ∧ n = 108 + 44 * k + 36 * j) := Lib.hid (by have := HA.out; have := HLen.out; omega)
              have HLo : Hid (mputOk f = true → ofLogOk (logOf l) = true) := Lib.hid (by
                intro h
                unfold mputOk at h
                simp only [Bool.and_eq_true] at h
                have h2 := h.1.1
                unfold lputOk at h2
                simp only [Bool.and_eq_true, decide_eq_true_eq] at h2
                unfold ofLogOk
                rw [logN_of, HQ.out, hlg, decide_eq_true (by omega)]
                rw [← hfe] at h2
                rw [h2.2]; rfl)
              have hge : ¬ (a2 : Int) < (n : Int) := by have := hx.out; omega
              clear hfl hfe hcs hmb hrl hrg hgs hlg hlo hf hf1 HI hl2
              cases hp : mputOk f with
              | false =>
                have HNo := Lib.hid (show mofOk l = false by
                  unfold mofOk
                  rw [← (mputOk_lie (mAt l) A1 k c1 A2 j c2).1, HFl.out, hp]; simp)
                have HPf := Lib.hid (refput_fails hp HPut.out)
                clear hp
                go_wp2_with (first
                  | (refine wpList_load_mid rfl 55 (.tmp 6) rfl (w.heap.size + 1) 0 (by rfl) f.cs _ HFr.out Try.underlying55 rfl (by rw [HFL.out]; kernel_rfl) ?_)
                  | (go_at_call 16; refine HPf.out.mono ?_; rintro e w12 ⟨rfl, hb12⟩)
                  | (refine wpList_built rfl 55 #[] rfl (vals := #[]) (by go_simp) (HBu.out _) ?_)
                  | (refine wpList_store_blk rfl 55 (.tmp 2) (.tmp 198) rfl w.heap.size 0 m0cs (by rfl) (by rfl) (HGr.out.kept hb12) (by simp) (by rw [hsz2]; kernel_rfl) HF1.out HFz.out ?_; intro w13 hB13 hbl13 hz13 hh13))
                refine bodyPost_ret (mf_result2 (g := w.heap.size) (cs := m0cs.toList) ?_ ?_ ?_) ?_ ?_
                · simpa using hB13
                · simpa using hsz2
                · rfl
                · rfl
                · exact ⟨.inr ⟨HNo.out, rfl⟩, (HbW.out.trans (hb12.mono HbW.out.size)).trans (hbl13 _ (Nat.le_refl _))⟩
              | true =>
                have HPf := Lib.hid (refputs hp HPut.out)
                have HPy := Lib.hid hp
                have HLy := Lib.hid (HLo.out hp)
                have HFn := Lib.hid (show 0 + f.cs.toArray.size ≤ m0cs.size by rw [hsz2]; simp [HFL.out])
                have HFi : Hid ((Try.prog.info? 55).map (·.size) = some f.cs.toArray.size) := Lib.hid (by rw [show f.cs.toArray.size = 71 by simp [HFL.out]]; kernel_rfl)
                have HFo := Lib.hid (all_oneCell_toArray (Mf.one f))
                have HFw := Lib.hid (show setAt m0cs 0 f.cs.toArray.toList = f.cs.toArray from setAt_whole (by rw [hsz2]; exact HFL.out))
                clear hp
                by_cases heq : mBytes f = l
                · have HYes := Lib.hid (show mofOk l = true by
                    unfold mofOk
                    rw [← (mputOk_lie (mAt l) A1 k c1 A2 j c2).1, ← (mputOk_lie (mAt l) A1 k c1 A2 j c2).2, HFl.out, HPy.out, HLy.out, heq, HQ.out, HGs.out, HL.out, decide_eq_true (show 104 ≤ n ∧ 108 + 44 * k ≤ n from ⟨HLn.out.1, HLn.out.2.1⟩), decide_eq_true HLn.out.2.2]; simp)
                  have HE := Lib.hid heq
                  clear heq
                  go_upto_region 36 with (first
                    | (refine wpList_load_mid rfl 55 (.tmp 6) rfl (w.heap.size + 1) 0 (by rfl) f.cs _ HFr.out Try.underlying55 rfl (by rw [HFL.out]; kernel_rfl) ?_)
                    | (go_at_call 16; refine HPf.out.mono ?_; rintro e w12 ⟨A5, x5, rfl, hown5, hb12⟩; have s1 := conv_str (Rd.of_own hown5) rfl x5; have s2 := conv_str (HR.out.below (HbW.out.trans (hb12.mono HbW.out.size))) HL.out c; rw [show strOfNums (mBytes f) = strOfNums l from congrArg _ HE.out] at s1; have hr12 := range_below HFr.out (by have := HWs.out; omega) hb12))
                  go_wp2_with (first
                    | (refine wpList_load_mid rfl 55 (.tmp 6) rfl (w.heap.size + 1) 0 (by rfl) f.cs _ hr12 Try.underlying55 rfl (by rw [HFL.out]; kernel_rfl) ?_)
                    | (refine wpList_store_blk rfl 55 (.tmp 2) (.tmp 199) rfl w.heap.size 0 f.cs.toArray (by rfl) (by rfl) (HGr.out.kept hb12) HFn.out HFi.out HFo.out HFw.out ?_; intro w13 hB13 hbl13 hz13 hh13))
                  refine bodyPost_ret (mf_result2 (g := w.heap.size) (cs := f.cs) ?_ ?_ ?_) ?_ ?_
                  · exact hB13
                  · exact HFL.out
                  · rfl
                  · rfl
                  · have h1 : w13.ownsRow (w.heap.size + 2) 69 35 (.slice f.A f.n f.c) f.n (f.log.flatMap Rc.cs) := own_same (own_kept HLg.out hb12) fun k hk => hh13 k (by have := (own_lt HLg.out hk).1; omega)
                    have h2 : w13.ownsRow (w.heap.size + 2) 72 6 (.slice f.A2 f.n2 f.c2) f.n2 (f.gs.flatMap encSt) := own_same (own_kept HRw.out hb12) fun k hk => hh13 k (by have := (own_lt HRw.out hk).1; omega)
                    refine ⟨.inl ⟨HYes.out, A1, k, c1, A2, j, c2, by rw [HFl.out]; rfl, ?_, by omega, by omega⟩, (HbW.out.trans (hb12.mono HbW.out.size)).trans (hbl13 _ (Nat.le_refl _))⟩
                    rw [HFl.out]
                    exact ⟨HF.out.ver, HF.out.vt, HF.out.irq, HF.out.str, HF.out.rl, HF.out.rb, HF.out.ll, HF.out.lo, Rd.of_own h1, HF.out.gl, HF.out.go, Rd.of_own h2⟩
                · have HNo := Lib.hid (show mofOk l = false by
                    unfold mofOk
                    rw [← (mputOk_lie (mAt l) A1 k c1 A2 j c2).2, HFl.out, decide_eq_false heq]; simp)
                  have HS : Hid (((strOfNums (mBytes f)).toList == (strOfNums l).toList) = false) := Lib.hid (by
                    rw [beq_eq_false_iff_ne]; exact fun h => heq (strOfNums_inj HBo.out HOK.out h))
                  clear heq
                  go_upto_region 36 with (first
                    | (refine wpList_load_mid rfl 55 (.tmp 6) rfl (w.heap.size + 1) 0 (by rfl) f.cs _ HFr.out Try.underlying55 rfl (by rw [HFL.out]; kernel_rfl) ?_)
                    | (go_at_call 16; refine HPf.out.mono ?_; rintro e w12 ⟨A5, x5, rfl, hown5, hb12⟩; have s1 := conv_str (Rd.of_own hown5) rfl x5; have s2 := conv_str (HR.out.below (HbW.out.trans (hb12.mono HbW.out.size))) HL.out c; have hne := HS.out; have hr12 := range_below HFr.out (by have := HWs.out; omega) hb12))
                  go_wp2_with (first
                    | (refine wpList_built rfl 55 #[] rfl (vals := #[]) (by go_simp) (HBu.out _) ?_)
                    | (refine wpList_store_blk rfl 55 (.tmp 2) (.tmp 198) rfl w.heap.size 0 m0cs (by rfl) (by rfl) (HGr.out.kept hb12) (by simp) (by rw [hsz2]; kernel_rfl) HF1.out HFz.out ?_; intro w13 hB13 hbl13 hz13 hh13))
                  refine bodyPost_ret (mf_result2 (g := w.heap.size) (cs := m0cs.toList) ?_ ?_ ?_) ?_ ?_
                  · simpa using hB13
                  · simpa using hsz2
                  · rfl
                  · rfl
                  · exact ⟨.inr ⟨HNo.out, rfl⟩, (HbW.out.trans (hb12.mono HbW.out.size)).trans (hbl13 _ (Nat.le_refl _))⟩
        · have HNo := Lib.hid (show mofOk l = false by
            unfold mofOk
            rw [HL.out, HQ.out, HGs.out, decide_eq_false (show ¬ n = 108 + 44 * k + 36 * g by have := HA.out; omega)]; simp)
          have e1 : (((n : Int) - ((a : Int) + 4)) != 36 * (g : Int)) = true := by rw [bne_iff_ne]; omega
          clear hlen
          go_wp2_with (first
            | (go_at_call 33; refine (HNe.out _ HIb.out).mono ?_; rintro e w1 ⟨rfl, rfl⟩)
            | (refine wpList_built rfl 55 #[] rfl (vals := #[]) (by go_simp) (HBu.out _) ?_)
            | (refine wpList_store_blk rfl 55 (.tmp 2) (.tmp 118) rfl w.heap.size 0 m0cs (by rfl) (by rfl) HIg.out (by simp) (by rw [hsz2]; kernel_rfl) HF1.out HFz.out ?_; intro w13 hB13 hbl13 hz13 hh13))
          refine bodyPost_ret (mf_result2 (g := w.heap.size) (cs := m0cs.toList) ?_ ?_ ?_) ?_ ?_
          · simpa using hB13
          · simpa using hsz2
          · rfl
          · rfl
          · exact ⟨.inr ⟨HNo.out, rfl⟩, HIb.out.trans (hbl13 _ (Nat.le_refl _))⟩
end Go.Proofs.Ytjjbpiejplfbpaa
