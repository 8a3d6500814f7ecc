/- Chapter 3, the law ShaTables: the constants are the fractions of the primes' roots. -/
import Derived.Test.YtjcklmhkdpbbdaaDoorShaZ
namespace Go.Proofs.YtjcklmhkdpbbdaaDoor
set_option linter.unusedVariables false
set_option linter.unusedSimpArgs false
open Go.RowKit Go.Sort Go.ChangeShapes

def initN (k : Nat) : Array Value := ((List.range 8).map fun j => Value.int .u32 (if j < k then firstZ.getD j 0 else 0)).toArray
theorem initN_size (n : Nat) : (initN n).size = 8 := by simp [initN]
theorem initN_set {n : Nat} (h : n < 8) : (initN n).setIfInBounds n (.int .u32 (firstZ.getD n 0)) = initN (n + 1) := by
  apply Array.ext_getElem?
  intro j
  unfold initN
  rw [Array.getElem?_setIfInBounds]
  by_cases hj : j < 8
  · by_cases e : n = j
    · subst e; simp [h]
    · rw [if_neg e]
      simp [hj, show (j < n + 1) = (j < n) by simp; omega]
  · by_cases e : n = j
    · omega
    · rw [if_neg e]; simp [hj]
theorem initN_zero : initN 0 = Array.replicate 8 (.int .u32 0) := by kernel_rfl
theorem initN_at {j : Nat} (h : j < 8) : (initN 8)[j]? = some (.int .u32 (firstZ.getD j 0)) := by
  simp [initN, h]
theorem initN_one (n : Nat) : ∀ u ∈ (initN n).toList, u.oneCell' = true := by
  intro u hu; simp [initN] at hu; obtain ⟨j, _, rfl⟩ := hu; rfl
set_option maxRecDepth 100000 in
set_option maxHeartbeats 2000000 in
theorem shaInit_any (w : World) (hT : Tabs w) : Calls Tryd.prog 40 #[] w fun e w' => e = .returned (.agg (initN 8)) ∧ Below w.heap.size w w' := by
  have hz := (zero_of_info info_w8).1
  have HT := Lib.hid hT
  have hb0 := bal (Below.refl w.heap.size w) (.cells (Array.replicate 8 (.int .u32 0)) 35)
  have hb1 := bal' hb0 (.cells (Array.replicate 8 (.int .u32 0)) 35) hb0.size
  have HI0 : Hid (Blk ((w.alloc (.cells (Array.replicate 8 (.int .u32 0)) 35)).alloc (.cells (Array.replicate 8 (.int .u32 0)) 35)) (w.heap.size + 1) 35 (initN 0) ∧ Blk ((w.alloc (.cells (Array.replicate 8 (.int .u32 0)) 35)).alloc (.cells (Array.replicate 8 (.int .u32 0)) 35)) w.heap.size 35 (Array.replicate 8 (.int .u32 0)) ∧ RowKit.Below w.heap.size w ((w.alloc (.cells (Array.replicate 8 (.int .u32 0)) 35)).alloc (.cells (Array.replicate 8 (.int .u32 0)) 35))) :=
    Lib.hid ⟨by rw [initN_zero]; exact Blk.fresh _ _ _, (Blk.new w _ _).alloc _, hb1⟩
  clear hT hb0 hb1
  go_enter Tryd.func40, Tryd.ntmps40
  go_wp2
  go_loopw [3] (fun i wr => ∃ k : Nat, k ≤ 8 ∧ i = .int .i64 k ∧ Hid (Blk wr (w.heap.size + 1) 35 (initN k) ∧ Blk wr w.heap.size 35 (Array.replicate 8 (.int .u32 0)) ∧ RowKit.Below w.heap.size w wr)) (fun i _ => 8 - (intOf i).toNat)
  case atStart => exact ⟨0, by omega, rfl, HI0⟩
  case round =>
    obtain ⟨k, hk, rfl, HI⟩ := hrel
    clear HI0 hz
    by_cases hlt : k < 8
    · have c0 := (HT.out.kept HI.out.2.2).first k hlt
      have HS := Lib.hid (initN_set hlt)
      generalize firstZ.getD k 0 = v at *
      have hcn : ∃ u, wr.cell? ⟨w.heap.size + 1, k, none⟩ = some u := by
        rw [HI.out.1.cell]; exact ⟨_, Array.getElem?_eq_getElem (by rw [initN_size]; exact hlt)⟩
      obtain ⟨u0, cn⟩ := hcn
      have fn := HI.out.1.frozen k
      have k8 : (k : Int) < 8 := by omega
      have HN : Hid (Blk (wr.setCell ⟨w.heap.size + 1, k, none⟩ (.int .u32 v)) (w.heap.size + 1) 35 (initN (k + 1)) ∧ Blk (wr.setCell ⟨w.heap.size + 1, k, none⟩ (.int .u32 v)) w.heap.size 35 (Array.replicate 8 (.int .u32 0)) ∧ RowKit.Below w.heap.size w (wr.setCell ⟨w.heap.size + 1, k, none⟩ (.int .u32 v))) := Lib.hid ⟨by
        have := HI.out.1.set_ k (.int .u32 v)
        rw [HS.out] at this; exact this, HI.out.2.1.far (by simp) _, HI.out.2.2.setCell (p := ⟨w.heap.size + 1, k, none⟩) (by simp) _⟩
      clear HI HS
      go_wp2
      go_roundw
      case rel => exact ⟨k + 1, by omega, by go_num, HN⟩
      case measure => simp [intOf]; omega
    · have e : k = 8 := by omega
      rw [e] at HI
      clear e
      have HO := Lib.hid (initN_one 8)
      have hsz := initN_size 8
      obtain ⟨P0, hP0⟩ : ∃ x, initN 8 = x := ⟨_, rfl⟩
      have HP := Lib.hid hP0
      rw [hP0] at HI HO hsz
      clear hP0
      go_wp2_with (first
        | (refine wpList_load_mid rfl 35 (.tmp 1) rfl (w.heap.size + 1) 0 (by rfl) P0.toList _ HI.out.1.rangeA Tryd.underlying35 rfl (by rw [Array.length_toList, hsz]; kernel_rfl) ?_)
        | (refine wpList_store_blk rfl 35 (.tmp 0) (.tmp 12) rfl w.heap.size 0 P0 (by rfl) (by rfl) HI.out.2.1 (by rw [hsz]; simp) (by rw [hsz]; kernel_rfl) (by have := all_oneCell_toArray HO.out; simpa using this) (by have := setAt_whole (cs := Array.replicate 8 (Value.int .u32 0)) (new := P0.toList) (by simp [hsz]); simpa using this) ?_; intro w6 hB6 hbl6 hz6 hh6))
      exact bodyPost_ret (res_cell1 rfl (b := w.heap.size) (o := 0) (cs := P0.toList) rfl hB6.rangeA Tryd.underlying35 rfl (by rw [Array.length_toList, hsz]; kernel_rfl)) rfl ⟨by rw [HP.out, Array.toArray_toList], HI.out.2.2.trans (hbl6 _ (Nat.le_refl _))⟩
theorem rt3_tab {i : Nat} (h : i < 64) : rt3 (pr i) = roundsZ.getD i 0 := by
  have := all_range tab_ck3 h
  simpa using this
theorem rt2_tab {i : Nat} (h : i < 8) : rt2 (pr i) = firstZ.getD i 0 := by
  have := all_range tab_ck2 h
  simpa using this
theorem pm_nat {i : Nat} (h : i < 64) : pm (i : Int) = (pr i : Int) := by unfold pm; rw [if_pos (by omega)]; simp
set_option maxRecDepth 100000 in
set_option maxHeartbeats 4000000 in
theorem shaTables_any (i p : Int) (w : World) (hT : Tabs w) :
    Calls Tryd.prog 11 #[.int .i64 i, .int .i64 p] w fun e w' => e = .returned (.bool true) ∧ Below w.heap.size w w' := by
  have HA := Lib.hid (awake03_any w hT)
  have HT := Lib.hid hT
  have H1 := Lib.hid (fun W h => shaTable_any W h)
  have H2 := Lib.hid (fun W h => shaInit_any W h)
  have P1 := Lib.hid (fun W => shaPrime_any i W)
  have P2 := Lib.hid (fun W => refPrime_any i W)
  have R21 := Lib.hid (fun W => shaRoot2_any p W)
  have R22 := Lib.hid (fun W => refRoot2_any p W)
  have R31 := Lib.hid (fun W => shaRoot3_any p W)
  have R32 := Lib.hid (fun W => refRoot3_any p W)
  generalize rt2 p = r2 at *
  generalize rt3 p = r3 at *
  have hz64 := (zero_of_info info_w64).1
  have hz8 := (zero_of_info info_w8).1
  have HO8 := Lib.hid (initN_one 8)
  have hs8 := initN_size 8
  have HO64 := Lib.hid (padW_one tabW)
  have hs64 := padW_size tabW
  have HX8 := Lib.hid (fun j (h : j < 8) => initN_at h)
  have HX64 := Lib.hid (fun j (h : j < 64) => (padW_at tabW h).trans (by rw [tabW_at h, roundB_iw j h]))
  generalize initN 8 = I8 at *
  generalize padW tabW = T64 at *
  clear hT
  go_enter Tryd.func11, Tryd.ntmps11
  go_upto_region 3 with (go_at_call 14; refine HA.out.mono ?_; rintro e w1 ⟨rfl, hb1⟩)
  go_upto_region 4 with (first
    | (go_at_call 39; refine (H1.out _ (HT.out.kept hb1)).mono ?_; rintro e w2 ⟨rfl, hb2⟩; have hb2 := hb1.trans (hb2.mono hb1.size))
    | (go_at_call 40; refine (H2.out _ (HT.out.kept hb2)).mono ?_; rintro e w3 ⟨rfl, hb3⟩; have hb3 := hb2.trans (hb3.mono hb2.size); have hb3a := bal' hb3 (.cells (Array.replicate 64 (.int .u32 0)) 71) hb3.size; have hb3b := bal' hb3a (.cells (Array.replicate 8 (.int .u32 0)) 35) hb3a.size; have hB5 := (Blk.new w3 71 (Array.replicate 64 (.int .u32 0))).alloc (.cells (Array.replicate 8 (.int .u32 0)) 35); have hB6 := Blk.fresh (g := w3.heap.size + 1) (w3.alloc (.cells (Array.replicate 64 (.int .u32 0)) 71)) 35 (Array.replicate 8 (.int .u32 0)))
    | (refine wpList_store_blk rfl 71 (.tmp 5) (.tmp 9) rfl w3.heap.size 0 T64 (by rfl) (by rfl) hB5 (by rw [hs64]; simp) (by rw [hs64]; kernel_rfl) (by have := all_oneCell_toArray HO64.out; simpa using this) (by have := setAt_whole (cs := Array.replicate 64 (Value.int .u32 0)) (new := T64.toList) (by simp [hs64]); simpa using this) ?_; intro w4 hB5' hbl4 hz4 hh4; have hB6' := hB6.same (hh4 _ (by omega)); have hb4 := hb3b.trans (hbl4 w.heap.size hb3.size))
    | (refine wpList_store_blk rfl 35 (.tmp 6) (.tmp 10) rfl (w3.heap.size + 1) 0 I8 (by rfl) (by rfl) hB6' (by rw [hs8]; simp) (by rw [hs8]; kernel_rfl) (by have := all_oneCell_toArray HO8.out; simpa using this) (by have := setAt_whole (cs := Array.replicate 8 (Value.int .u32 0)) (new := I8.toList) (by simp [hs8]); simpa using this) ?_; intro w5 hB6'' hbl5 hz5 hh5; have hB5'' := hB5'.same (hh5 _ (by omega)); have hb5 := hb4.trans (hbl5 w.heap.size (Nat.le_trans hb3.size (Nat.le_succ _)))))
  have HB5 := Lib.hid hB5''
  have HB6 := Lib.hid hB6''
  have HBw := Lib.hid hb5
  clear hb1 hb2 hb3 hb3a hb3b hB5 hB6 hB5' hB6' hbl4 hz4 hh4 hb4 hbl5 hz5 hh5 hB5'' hB6'' hb5 hz64 hz8
  generalize w3.heap.size = g at *
  go_upto_region 6 with (first
    | (go_at_call 41; refine (P1.out _).mono ?_; rintro e wa ⟨rfl, hba⟩)
    | (go_at_call 42; refine (P2.out _).mono ?_; rintro e wb ⟨rfl, rfl⟩)
    | (go_at_call 43; refine (R21.out _).mono ?_; rintro e wc ⟨rfl, hbc⟩; have hbc := hba.trans (hbc.mono hba.size))
    | (go_at_call 44; refine (R22.out _).mono ?_; rintro e wd ⟨rfl, hbd⟩; have hbd := hbc.trans (hbd.mono hbc.size))
    | (go_at_call 45; refine (R31.out _).mono ?_; rintro e we ⟨rfl, hbe⟩; have hbe := hbd.trans (hbe.mono hbd.size))
    | (go_at_call 46; refine (R32.out _).mono ?_; rintro e wf ⟨rfl, hbf⟩; have hbf := hbe.trans (hbf.mono hbe.size)))
  have HBf := Lib.hid (HBw.out.trans (hbf.mono HBw.out.size))
  have hF5 := HB5.out.kept hbf
  have hF6 := HB6.out.kept hbf
  clear hba hbc hbd hbe hbf HBw HB5 HB6
  by_cases hin : 0 ≤ i ∧ i ≤ 63
  · obtain ⟨n, rfl⟩ := Int.eq_ofNat_of_zero_le hin.1
    have n64 : n < 64 := by omega
    have i1 : ¬ (n : Int) < 0 := by omega
    have i2 : ¬ (63 : Int) < (n : Int) := by omega
    obtain ⟨m, hm⟩ : ∃ m, m = n % 8 := ⟨_, rfl⟩
    have m8 : m < 8 := by omega
    have e1 : (n : Int) % 8 = (m : Int) := by omega
    have e2 : (n : Int).tmod 8 = (m : Int) := by rw [Int.tmod_eq_emod_of_nonneg (by omega)]; exact e1
    have Q1 := Lib.hid (fun W => refPrime_any n W)
    have Q2 := Lib.hid (fun W => refPrime_any m W)
    have Q3 := Lib.hid (fun W => refRoot3_any (pr n) W)
    have Q4 := Lib.hid (fun W => refRoot2_any (pr m) W)
    rw [pm_nat n64] at Q1
    rw [pm_nat (by omega)] at Q2
    rw [rt3_tab n64] at Q3
    rw [rt2_tab m8] at Q4
    have c5 := (hF5.drew.cell n).trans (HX64.out n n64)
    have c6 := (hF6.drew.cell m).trans (HX8.out m m8)
    generalize roundsZ.getD n 0 = x5 at *
    generalize firstZ.getD m 0 = x6 at *
    have hm8I : (m : Int) < 8 := by omega
    have hn64I : (n : Int) < 64 := by omega
    clear hm hin P1 P2 HX64 HX8
    go_upto_region 8 with (fail)
    have hS1 : (fun W : World => W.cell? ⟨g, n, none⟩ = some (.int .u32 x5) ∧ W.cell? ⟨g + 1, m, none⟩ = some (.int .u32 x6)) wf.drew := ⟨c5, c6⟩
    refine wp_region_held_drew (S := fun W : World => W.cell? ⟨g, n, none⟩ = some (.int .u32 x5) ∧ W.cell? ⟨g + 1, m, none⟩ = some (.int .u32 x6)) (by kernel_rfl) hS1 (fun hHeld => ?_)
    clear hHeld c5 c6
    refine wpAnyH_take (i := 0) (v := ?va0) rfl (by kernel_rfl) (by kernel_rfl) (by kernel_rfl) (fun _ _ _ h => h) (Or.inl ⟨by kernel_rfl, ?hya0⟩) hS1 ?resta0
    case hya0 =>
      intro w hSw
      clear hSw
      go_simp
      first | done | with_reducible rfl
    (try simp only [List.getElem_toArray, List.getElem_cons_succ, List.getElem_cons_zero, Act.put, List.setIfInBounds_toArray, List.set_cons_zero, List.set_cons_succ])
    refine wpAnyH_take (i := 1) (v := ?va1) rfl (by kernel_rfl) (by kernel_rfl) (by kernel_rfl) (fun _ _ _ h => h) (Or.inl ⟨by kernel_rfl, ?hya1⟩) hS1 ?resta1
    case hya1 =>
      intro w hSw
      clear hSw
      go_simp
      first | done | with_reducible rfl
    (try simp only [List.getElem_toArray, List.getElem_cons_succ, List.getElem_cons_zero, Act.put, List.setIfInBounds_toArray, List.set_cons_zero, List.set_cons_succ])
    refine wpAnyH_take (i := 2) (v := ?va2) rfl (by kernel_rfl) (by kernel_rfl) (by kernel_rfl) (fun _ _ _ h => h) (Or.inl ⟨by kernel_rfl, ?hya2⟩) hS1 ?resta2
    case hya2 =>
      intro w hSw
      obtain ⟨hSw1, hSw2⟩ := hSw
      go_simp
      first | done | with_reducible rfl
    (try simp only [List.getElem_toArray, List.getElem_cons_succ, List.getElem_cons_zero, Act.put, List.setIfInBounds_toArray, List.set_cons_zero, List.set_cons_succ])
    refine wpAnyH_take (i := 3) (v := ?va3) rfl (by kernel_rfl) (by kernel_rfl) (by kernel_rfl) (fun _ _ _ h => h) (Or.inl ⟨by kernel_rfl, ?hya3⟩) hS1 ?resta3
    case hya3 =>
      intro w hSw
      clear hSw
      go_simp
      first | done | with_reducible rfl
    (try simp only [List.getElem_toArray, List.getElem_cons_succ, List.getElem_cons_zero, Act.put, List.setIfInBounds_toArray, List.set_cons_zero, List.set_cons_succ])
    refine wpAnyH_call (i := 4) (by kernel_rfl) rfl (by kernel_rfl) fun K hK => ?_
    simp only [List.getElem_toArray, List.getElem_cons_succ, List.getElem_cons_zero]
    go_simp
    go_at_call 42
    refine (Q1.out _).mono ?_
    rintro e wx ⟨rfl, rfl⟩
    refine hK.out _ _ hS1 ?_
    clear hK K
    (try simp only [List.getElem_toArray, List.getElem_cons_succ, List.getElem_cons_zero, Act.put, List.setIfInBounds_toArray, List.set_cons_zero, List.set_cons_succ])
    refine wpAnyH_call (i := 5) (by kernel_rfl) rfl (by kernel_rfl) fun K hK => ?_
    simp only [List.getElem_toArray, List.getElem_cons_succ, List.getElem_cons_zero]
    go_simp
    go_at_call 46
    refine (Q3.out _).mono ?_
    rintro e wy ⟨rfl, hby⟩
    have hby0 : RowKit.Below wf.heap.size wf wy := ((Below.refl wf.heap.size wf).drew).trans hby
    have hS2 : (fun W : World => W.cell? ⟨g, n, none⟩ = some (.int .u32 x5) ∧ W.cell? ⟨g + 1, m, none⟩ = some (.int .u32 x6)) wy := ⟨(hby0.cell (p := ⟨g, n, none⟩) hF5.lt).trans hS1.1, (hby0.cell (p := ⟨g + 1, m, none⟩) hF6.lt).trans hS1.2⟩
    refine hK.out _ _ hS2 ?_
    clear hK K
    (try simp only [List.getElem_toArray, List.getElem_cons_succ, List.getElem_cons_zero, Act.put, List.setIfInBounds_toArray, List.set_cons_zero, List.set_cons_succ])
    refine wpAnyH_take (i := 6) (v := ?va6) rfl (by kernel_rfl) (by kernel_rfl) (by kernel_rfl) (fun _ _ _ h => h) (Or.inl ⟨by kernel_rfl, ?hya6⟩) hS2 ?resta6
    case hya6 =>
      intro w hSw
      clear hSw
      go_simp
      first | done | with_reducible rfl
    (try simp only [List.getElem_toArray, List.getElem_cons_succ, List.getElem_cons_zero, Act.put, List.setIfInBounds_toArray, List.set_cons_zero, List.set_cons_succ])
    refine wpAnyH_take (i := 7) (v := ?va7) rfl (by kernel_rfl) (by kernel_rfl) (by kernel_rfl) (fun _ _ _ h => h) (Or.inl ⟨by kernel_rfl, ?hya7⟩) hS2 ?resta7
    case hya7 =>
      intro w hSw
      clear hSw
      go_simp
      first | done | with_reducible rfl
    (try simp only [List.getElem_toArray, List.getElem_cons_succ, List.getElem_cons_zero, Act.put, List.setIfInBounds_toArray, List.set_cons_zero, List.set_cons_succ])
    refine wpAnyH_take (i := 8) (v := ?va8) rfl (by kernel_rfl) (by kernel_rfl) (by kernel_rfl) (fun _ _ _ h => h) (Or.inl ⟨by kernel_rfl, ?hya8⟩) hS2 ?resta8
    case hya8 =>
      intro w hSw
      clear hSw
      go_simp
      first | done | with_reducible rfl
    (try simp only [List.getElem_toArray, List.getElem_cons_succ, List.getElem_cons_zero, Act.put, List.setIfInBounds_toArray, List.set_cons_zero, List.set_cons_succ])
    refine wpAnyH_take (i := 9) (v := ?va9) rfl (by kernel_rfl) (by kernel_rfl) (by kernel_rfl) (fun _ _ _ h => h) (Or.inl ⟨by kernel_rfl, ?hya9⟩) hS2 ?resta9
    case hya9 =>
      intro w hSw
      clear hSw
      go_simp
      first | done | with_reducible rfl
    (try simp only [List.getElem_toArray, List.getElem_cons_succ, List.getElem_cons_zero, Act.put, List.setIfInBounds_toArray, List.set_cons_zero, List.set_cons_succ])
    refine wpAnyH_take (i := 10) (v := ?va10) rfl (by kernel_rfl) (by kernel_rfl) (by kernel_rfl) (fun _ _ _ h => h) (Or.inl ⟨by kernel_rfl, ?hya10⟩) hS2 ?resta10
    case hya10 =>
      intro w hSw
      clear hSw
      go_simp
      first | done | with_reducible rfl
    (try simp only [List.getElem_toArray, List.getElem_cons_succ, List.getElem_cons_zero, Act.put, List.setIfInBounds_toArray, List.set_cons_zero, List.set_cons_succ])
    refine wpAnyH_take (i := 11) (v := ?va11) rfl (by kernel_rfl) (by kernel_rfl) (by kernel_rfl) (fun _ _ _ h => h) (Or.inl ⟨by kernel_rfl, ?hya11⟩) hS2 ?resta11
    case hya11 =>
      intro w hSw
      obtain ⟨hSw1, hSw2⟩ := hSw
      go_simp
      first | done | with_reducible rfl
    (try simp only [List.getElem_toArray, List.getElem_cons_succ, List.getElem_cons_zero, Act.put, List.setIfInBounds_toArray, List.set_cons_zero, List.set_cons_succ])
    refine wpAnyH_take (i := 12) (v := ?va12) rfl (by kernel_rfl) (by kernel_rfl) (by kernel_rfl) (fun _ _ _ h => h) (Or.inl ⟨by kernel_rfl, ?hya12⟩) hS2 ?resta12
    case hya12 =>
      intro w hSw
      clear hSw
      go_simp
      first | done | with_reducible rfl
    (try simp only [List.getElem_toArray, List.getElem_cons_succ, List.getElem_cons_zero, Act.put, List.setIfInBounds_toArray, List.set_cons_zero, List.set_cons_succ])
    refine wpAnyH_take (i := 13) (v := ?va13) rfl (by kernel_rfl) (by kernel_rfl) (by kernel_rfl) (fun _ _ _ h => h) (Or.inl ⟨by kernel_rfl, ?hya13⟩) hS2 ?resta13
    case hya13 =>
      intro w hSw
      clear hSw
      go_simp
      first | done | with_reducible rfl
    (try simp only [List.getElem_toArray, List.getElem_cons_succ, List.getElem_cons_zero, Act.put, List.setIfInBounds_toArray, List.set_cons_zero, List.set_cons_succ])
    refine wpAnyH_call (i := 14) (by kernel_rfl) rfl (by kernel_rfl) fun K hK => ?_
    simp only [List.getElem_toArray, List.getElem_cons_succ, List.getElem_cons_zero]
    go_simp
    go_at_call 42
    refine (Q2.out _).mono ?_
    rintro e wz ⟨rfl, rfl⟩
    refine hK.out _ _ hS2 ?_
    clear hK K
    (try simp only [List.getElem_toArray, List.getElem_cons_succ, List.getElem_cons_zero, Act.put, List.setIfInBounds_toArray, List.set_cons_zero, List.set_cons_succ])
    refine wpAnyH_call (i := 15) (by kernel_rfl) rfl (by kernel_rfl) fun K hK => ?_
    simp only [List.getElem_toArray, List.getElem_cons_succ, List.getElem_cons_zero]
    go_simp
    go_at_call 44
    refine (Q4.out _).mono ?_
    rintro e wv ⟨rfl, hbv⟩
    have hbv0 := hby0.trans (hbv.mono hby0.size)
    have hS3 : (fun W : World => W.cell? ⟨g, n, none⟩ = some (.int .u32 x5) ∧ W.cell? ⟨g + 1, m, none⟩ = some (.int .u32 x6)) wv := ⟨(hbv0.cell (p := ⟨g, n, none⟩) hF5.lt).trans hS1.1, (hbv0.cell (p := ⟨g + 1, m, none⟩) hF6.lt).trans hS1.2⟩
    refine hK.out _ _ hS3 ?_
    clear hK K
    (try simp only [List.getElem_toArray, List.getElem_cons_succ, List.getElem_cons_zero, Act.put, List.setIfInBounds_toArray, List.set_cons_zero, List.set_cons_succ])
    refine wpAnyH_take (i := 16) (v := ?va16) rfl (by kernel_rfl) (by kernel_rfl) (by kernel_rfl) (fun _ _ _ h => h) (Or.inl ⟨by kernel_rfl, ?hya16⟩) hS3 ?resta16
    case hya16 =>
      intro w hSw
      clear hSw
      go_simp
      first | done | with_reducible rfl
    (try simp only [List.getElem_toArray, List.getElem_cons_succ, List.getElem_cons_zero, Act.put, List.setIfInBounds_toArray, List.set_cons_zero, List.set_cons_succ])
    refine wpAnyH_take (i := 17) (v := ?va17) rfl (by kernel_rfl) (by kernel_rfl) (by kernel_rfl) (fun _ _ _ h => h) (Or.inl ⟨by kernel_rfl, ?hya17⟩) hS3 ?resta17
    case hya17 =>
      intro w hSw
      clear hSw
      go_simp
      first | done | with_reducible rfl
    (try simp only [List.getElem_toArray, List.getElem_cons_succ, List.getElem_cons_zero, Act.put, List.setIfInBounds_toArray, List.set_cons_zero, List.set_cons_succ])
    refine wpAnyH_take (i := 18) (v := ?va18) rfl (by kernel_rfl) (by kernel_rfl) (by kernel_rfl) (fun _ _ _ h => h) (Or.inl ⟨by kernel_rfl, ?hya18⟩) hS3 ?resta18
    case hya18 =>
      intro w hSw
      clear hSw
      go_simp
      first | done | with_reducible rfl
    (try simp only [List.getElem_toArray, List.getElem_cons_succ, List.getElem_cons_zero, Act.put, List.setIfInBounds_toArray, List.set_cons_zero, List.set_cons_succ])
    refine wpAnyH_done (by kernel_rfl) ?_ _
    go_wp2
    go_ret
    exact ⟨rfl, HBf.out.trans (hbv0.mono HBf.out.size)⟩
  · have hz0 : pm i = 0 := by unfold pm; rw [if_neg hin]
    rw [hz0] at P1
    have hc : i < 0 ∨ (¬ i < 0 ∧ 63 < i) := by omega
    clear hin hz0
    rcases hc with h | ⟨h, h'⟩
    all_goals
      go_wp2_with (go_at_call 41; refine (P1.out _).mono ?_; rintro e wz ⟨rfl, hbz⟩)
      go_ret
      exact ⟨rfl, HBf.out.trans (hbz.mono HBf.out.size)⟩
set_option maxRecDepth 100000 in
theorem shaTables_law : LawWalkL Tryd.prog 11 Tryd.f11 := by
  intro H enc W base args ds p hval hA hlt hfz hsz hT
  rw [Tryd.params11] at hA hval
  obtain ⟨v0, v1, d0, d1, p0, p1, rfl, rfl, rfl, h0, h1⟩ := trodAll_two hA
  obtain ⟨x, rfl, _, rfl, wn⟩ := open_int Tryd.underlying3 (hval 0 3 v0 rfl rfl) h0
  obtain ⟨y, rfl, _, rfl, wn2⟩ := open_int Tryd.underlying3 (hval 1 3 v1 rfl rfl) h1
  exact shaTables_any x y W hT
end Go.Proofs.YtjcklmhkdpbbdaaDoor
