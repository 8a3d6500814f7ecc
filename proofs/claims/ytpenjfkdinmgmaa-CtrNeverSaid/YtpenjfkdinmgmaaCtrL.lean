/- Chapter 13: Bump: the document's, walked. -/
import Derived.Test.YtpenjfkdinmgmaaCtrK
namespace Go.Proofs.Ytpenjfkdinmgmaa
set_option linter.unusedVariables false
set_option linter.unusedSimpArgs false
open Go.RowKit Go.Sort


set_option maxRecDepth 100000 in
set_option maxHeartbeats 4000000 in
theorem rbump_go (g b0 : Nat) (base : Nat → Prop) (s : Stt) (k at_ o : Nat) (q x v : Int) (w : World) (h : RSto w b0 base g s) (hu : U32s s.ws) (hl : s.ws.length ≤ 100000) (hbd : ∀ i, base i → i < w.heap.size) (hk0 : 0 ≤ s.k) (hk1 : s.k < 900000)
    (hk : k < s.ws.length / 8) (hR : recN s.ws k = ⟨0, at_, q, x⟩) (ho : at_ + o = 1) (hq0 : 0 ≤ q) (hq1 : q < 4294967295) (hv0 : 0 ≤ v) (hv1 : v < 4294967296) (hxv : ¬ v ≤ x) (hvm : ¬ v = 4294967295) :
    Calls Try.prog 23 #[.pointer (some ⟨g, 0, none⟩), .int .i64 k, .int .u32 v] w fun e w' =>
      e = .returned (.int .i64 (bumpK (8 * k + 4 * o : Nat) (stepsN k (s.ws.getD (8 * k + 4 * o) 0) (q + 1) v) s).1) ∧ RSto w' b0 base g (bumpK (8 * k + 4 * o : Nat) (stepsN k (s.ws.getD (8 * k + 4 * o) 0) (q + 1) v) s).2 ∧ Near base w w' := by
  have HN := Lib.hid (rrec_any g b0 base s k w h hu hl)
  rw [hR] at HN
  unfold Rr.cs at HN
  simp only at HN
  have HSt := Lib.hid (fun W (hW : Below w.heap.size w W) => h.kept hW)
  have HSl := Lib.hid (fun W (hW : Below w.heap.size w W) => rslots_any g b0 base s k W (h.kept hW) (by omega) (by omega))
  obtain ⟨y, hy⟩ : ∃ y, slW s.ws (8 * k) = y := ⟨_, rfl⟩
  obtain ⟨z, hz⟩ : ∃ z, slW s.ws (8 * k + 4) = z := ⟨_, rfl⟩
  have hya : s.ws.getD (8 * k) 0 = y.a := by rw [← hy]; rfl
  have hza : s.ws.getD (8 * k + 4) 0 = z.a := by rw [← hz]; rfl
  rw [hy, hz] at HSl
  obtain ⟨a0, a1, a2, a3⟩ := y
  obtain ⟨b0', b1, b2, b3⟩ := z
  unfold W4.arr at HSl
  simp only [List.append_toArray, List.cons_append, List.nil_append] at HSl hya hza
  have hq2 : IntKind.u32.wrap (q + 1) = q + 1 := by rw [IntWalk.u32_in _ (by omega)]
  have hk6 : k ≤ 100000 := by omega
  have HBd := Lib.hid hbd
  clear h hu hy hz hR hbd hl hk
  rcases (show o = 0 ∨ o = 1 by omega) with rfl | rfl
  · obtain rfl : at_ = 1 := by omega
    simp only [Nat.mul_zero, Nat.add_zero]
    rw [hya]
    have HStp := Lib.hid (fun W => refSteps_any k a0 a1 a2 a3 (q + 1) v (by omega) (by omega) hv0 hv1 W)
    have HAt := Lib.hid (stepsN_at k a0 (q + 1) v)
    have HLn := Lib.hid (stepsN_len k a0 (q + 1) v)
    generalize stepsN k a0 (q + 1) v = l at *
    obtain ⟨B, hB⟩ : ∃ B, 8 * k = B := ⟨_, rfl⟩
    rw [hB]
    clear hya hza ho
    have hw0 : IntKind.i64.wrap 0 = 0 := rfl
    have hw1 : IntKind.i64.wrap 1 = 1 := rfl
    go_enter Try.func23, Try.ntmps23
    go_upto_region 9 with (first
      | (go_at_call 17; refine HN.out.mono ?_; rintro e w1 ⟨rfl, hb1⟩)
      | (go_at_call 35; refine (HSl.out _ (hb1.alloc hb1.size _)).mono ?_; rintro e w2 ⟨rfl, hb2⟩))
    have hz1 := hb1.size
    have hz2 := hb2.size
    refine wp_name ?_
    intro w3 hw3
    have hb3 : RowKit.Below w.heap.size w w3 := by rw [hw3]; exact bal' ((hb1.alloc hb1.size _).trans (hb2.mono (by simp; omega))) _ (by simp at hz2; omega)
    have hC : Blk w3 w1.heap.size 43 #[.int .u32 q, .int .u32 x] := by rw [hw3]; exact ((Blk.new _ _ _).kept hb2).alloc _
    have hA : Blk w3 w2.heap.size 80 #[.int .u32 a0, .int .u32 a1, .int .u32 a2, .int .u32 a3, .int .u32 b0', .int .u32 b1, .int .u32 b2, .int .u32 b3] := by rw [hw3]; exact Blk.new _ _ _
    clear hw3 hb1 hz1 hb2 hz2 HN HSl
    generalize w1.heap.size = c at *
    generalize w2.heap.size = d at *
    have hS1 : (fun W' : World => (∀ i, W'.cell? ⟨d, i, none⟩ = (#[.int .u32 a0, .int .u32 a1, .int .u32 a2, .int .u32 a3, .int .u32 b0', .int .u32 b1, .int .u32 b2, .int .u32 b3] : Array Value)[i]?) ∧ (∀ i, W'.cell? ⟨c, i, none⟩ = (#[.int .u32 q, .int .u32 x] : Array Value)[i]?)) w3.drew := ⟨hA.drew.cell, hC.drew.cell⟩
    refine wp_region_held_drew (S := fun W' : World => (∀ i, W'.cell? ⟨d, i, none⟩ = (#[.int .u32 a0, .int .u32 a1, .int .u32 a2, .int .u32 a3, .int .u32 b0', .int .u32 b1, .int .u32 b2, .int .u32 b3] : Array Value)[i]?) ∧ (∀ i, W'.cell? ⟨c, i, none⟩ = (#[.int .u32 q, .int .u32 x] : Array Value)[i]?)) (by kernel_rfl) hS1 (fun hHeld => ?_)
    clear hHeld
    refine wpAnyH_take (i := 0) (v := ?va0) rfl (by kernel_rfl) (by kernel_rfl) (by kernel_rfl) (fun _ _ _ h => h) (Or.inl ⟨by kernel_rfl, ?hya0⟩) hS1 ?resta0
    case hya0 =>
      intro w hSw
      clear hSw
      go_simp
      first | done | with_reducible rfl
    (try simp only [List.getElem_toArray, List.getElem_cons_succ, List.getElem_cons_zero, Act.put, List.setIfInBounds_toArray, List.set_cons_zero, List.set_cons_succ])
    refine wpAnyH_take (i := 1) (v := ?va1) rfl (by kernel_rfl) (by kernel_rfl) (by kernel_rfl) (fun _ _ _ h => h) (Or.inl ⟨by kernel_rfl, ?hya1⟩) hS1 ?resta1
    case hya1 =>
      intro w hSw
      clear hSw
      go_simp
      first | done | with_reducible rfl
    (try simp only [List.getElem_toArray, List.getElem_cons_succ, List.getElem_cons_zero, Act.put, List.setIfInBounds_toArray, List.set_cons_zero, List.set_cons_succ])
    refine wpAnyH_take (i := 2) (v := ?va2) rfl (by kernel_rfl) (by kernel_rfl) (by kernel_rfl) (fun _ _ _ h => h) (Or.inl ⟨by kernel_rfl, ?hya2⟩) hS1 ?resta2
    case hya2 =>
      intro w hSw
      clear hSw
      go_simp
      first | done | with_reducible rfl
    (try simp only [List.getElem_toArray, List.getElem_cons_succ, List.getElem_cons_zero, Act.put, List.setIfInBounds_toArray, List.set_cons_zero, List.set_cons_succ])
    refine wpAnyH_take (i := 3) (v := ?va3) rfl (by kernel_rfl) (by kernel_rfl) (by kernel_rfl) (fun _ _ _ h => h) (Or.inl ⟨by kernel_rfl, ?hya3⟩) hS1 ?resta3
    case hya3 =>
      intro w hSw
      clear hSw
      go_simp
      first | done | with_reducible rfl
    (try simp only [List.getElem_toArray, List.getElem_cons_succ, List.getElem_cons_zero, Act.put, List.setIfInBounds_toArray, List.set_cons_zero, List.set_cons_succ])
    refine wpAnyH_take (i := 4) (v := ?va4) rfl (by kernel_rfl) (by kernel_rfl) (by kernel_rfl) (fun _ _ _ h => h) (Or.inl ⟨by kernel_rfl, ?hya4⟩) hS1 ?resta4
    case hya4 =>
      intro w hSw
      obtain ⟨hSa, hSb⟩ := hSw
      go_simp
      first | done | with_reducible rfl
    (try simp only [List.getElem_toArray, List.getElem_cons_succ, List.getElem_cons_zero, Act.put, List.setIfInBounds_toArray, List.set_cons_zero, List.set_cons_succ])
    refine wpAnyH_take (i := 5) (v := ?va5) rfl (by kernel_rfl) (by kernel_rfl) (by kernel_rfl) (fun _ _ _ h => h) (Or.inl ⟨by kernel_rfl, ?hya5⟩) hS1 ?resta5
    case hya5 =>
      intro w hSw
      clear hSw
      go_simp
      first | done | with_reducible rfl
    (try simp only [List.getElem_toArray, List.getElem_cons_succ, List.getElem_cons_zero, Act.put, List.setIfInBounds_toArray, List.set_cons_zero, List.set_cons_succ])
    refine wpAnyH_take (i := 6) (v := ?va6) rfl (by kernel_rfl) (by kernel_rfl) (by kernel_rfl) (fun _ _ _ h => h) (Or.inl ⟨by kernel_rfl, ?hya6⟩) hS1 ?resta6
    case hya6 =>
      intro w hSw
      obtain ⟨hSa, hSb⟩ := hSw
      go_simp
      first | done | with_reducible rfl
    (try simp only [List.getElem_toArray, List.getElem_cons_succ, List.getElem_cons_zero, Act.put, List.setIfInBounds_toArray, List.set_cons_zero, List.set_cons_succ])
    refine wpAnyH_take (i := 7) (v := ?va7) rfl (by kernel_rfl) (by kernel_rfl) (by kernel_rfl) (fun _ _ _ h => h) (Or.inl ⟨by kernel_rfl, ?hya7⟩) hS1 ?resta7
    case hya7 =>
      intro w hSw
      clear hSw
      go_simp
      first | done | with_reducible rfl
    (try simp only [List.getElem_toArray, List.getElem_cons_succ, List.getElem_cons_zero, Act.put, List.setIfInBounds_toArray, List.set_cons_zero, List.set_cons_succ])
    refine wpAnyH_take (i := 8) (v := ?va8) rfl (by kernel_rfl) (by kernel_rfl) (by kernel_rfl) (fun _ _ _ h => h) (Or.inl ⟨by kernel_rfl, ?hya8⟩) hS1 ?resta8
    case hya8 =>
      intro w hSw
      clear hSw
      go_simp
      first | done | with_reducible rfl
    (try simp only [List.getElem_toArray, List.getElem_cons_succ, List.getElem_cons_zero, Act.put, List.setIfInBounds_toArray, List.set_cons_zero, List.set_cons_succ])
    refine wpAnyH_take (i := 9) (v := ?va9) rfl (by kernel_rfl) (by kernel_rfl) (by kernel_rfl) (fun _ _ _ h => h) (Or.inl ⟨by kernel_rfl, ?hya9⟩) hS1 ?resta9
    case hya9 =>
      intro w hSw
      clear hSw
      go_simp
      first | done | with_reducible rfl
    (try simp only [List.getElem_toArray, List.getElem_cons_succ, List.getElem_cons_zero, Act.put, List.setIfInBounds_toArray, List.set_cons_zero, List.set_cons_succ])
    refine wpAnyH_take (i := 12) (v := ?va12) rfl (by kernel_rfl) (by kernel_rfl) (by kernel_rfl) (fun _ _ _ h => h) (Or.inl ⟨by kernel_rfl, ?hya12⟩) hS1 ?resta12
    case hya12 =>
      intro w hSw
      clear hSw
      go_simp
      first | done | with_reducible rfl
    (try simp only [List.getElem_toArray, List.getElem_cons_succ, List.getElem_cons_zero, Act.put, List.setIfInBounds_toArray, List.set_cons_zero, List.set_cons_succ])
    refine wpAnyH_call (i := 10) (by kernel_rfl) rfl (by kernel_rfl) fun K hK => ?_
    simp only [List.getElem_toArray, List.getElem_cons_succ, List.getElem_cons_zero]
    go_simp
    go_at_call 38
    refine (HStp.out _).mono ?_
    rintro e w5 ⟨Ar, cr, rfl, hrow, hb6⟩
    have hA5 := hA.drew.kept hb6
    have hC5 := hC.drew.kept hb6
    have hb7 := hb3.drew.trans (hb6.mono hb3.size)
    have hz4 := hb3.size
    have hS3 : (fun W' : World => (∀ i, W'.cell? ⟨d, i, none⟩ = (#[.int .u32 a0, .int .u32 a1, .int .u32 a2, .int .u32 a3, .int .u32 b0', .int .u32 b1, .int .u32 b2, .int .u32 b3] : Array Value)[i]?) ∧ (∀ i, W'.cell? ⟨c, i, none⟩ = (#[.int .u32 q, .int .u32 x] : Array Value)[i]?)) w5 := ⟨hA5.cell, hC5.cell⟩
    refine hK.out _ _ hS3 ?_
    clear hK K
    (try simp only [List.getElem_toArray, List.getElem_cons_succ, List.getElem_cons_zero, Act.put, List.setIfInBounds_toArray, List.set_cons_zero, List.set_cons_succ])
    refine wpAnyH_call (i := 11) (by kernel_rfl) rfl (by kernel_rfl) fun K hK => ?_
    simp only [List.getElem_toArray, List.getElem_cons_succ, List.getElem_cons_zero]
    go_simp
    refine hK.out _ _ hS3 ?_
    clear hK K
    (try simp only [List.getElem_toArray, List.getElem_cons_succ, List.getElem_cons_zero, Act.put, List.setIfInBounds_toArray, List.set_cons_zero, List.set_cons_succ])
    refine wpAnyH_done (by kernel_rfl) ?_ _
    have hS := HSt.out w5 hb7
    have hz7 := hb7.size
    have HRow := Lib.hid (fun W (hW : Near base w5 W) => own_same hrow fun i hi => hW.block i (own_lt hrow hi).2 (fun hb => by have h1 := HBd.out i hb; have h2 : w3.heap.size ≤ i := (own_lt hrow hi).1; omega))
    clear hS1 hS3 hA5 hC5 hA hC hb3 hb6 HStp hrow
    have hn5 := Near.of_below base hb7
    have hln := HLn.out
    go_wp2
    go_loopw [13, 14, 49] (fun _ _ i wr => ∃ j : Nat, j ≤ l.length ∧ i = .int .i64 j ∧ ∃ s' : Stt, Hid (bumpK B l s = bumpK B (l.drop j) s') ∧ 0 ≤ s'.k ∧ s'.k ≤ s.k + j ∧ RSto wr b0 base g s' ∧ Near base w5 wr) (fun _ _ i _ => l.length - (intOf i).toNat)
    case atStart => exact ⟨0, by omega, rfl, s, rfl, hk0, by simp, hS, Near.refl _ _⟩
    case round =>
      obtain ⟨j, hj, rfl, s', hK, hk0', hk1', hs', hn⟩ := hrel
      clear hS
      by_cases hlt : j < l.length
      · obtain ⟨g1, o1, rfl, hb1, hc1⟩ := (Rd.of_own (HRow.out wr hn)).row (fun _ => rfl) hlt rfl
        have d0 := hc1 0 (by omega)
        have d1 := hc1 1 (by omega)
        have hdr : l.drop j = l[j] :: l.drop (j + 1) := List.drop_eq_getElem_cons hlt
        have hpa := HAt.out _ (List.getElem_mem hlt)
        simp only [encP, Nat.add_zero, List.getElem?_cons_zero, List.getElem?_cons_succ] at d0 d1
        rw [hdr] at hK
        generalize l[j] = p at *
        obtain ⟨pa, pw⟩ := p
        simp only at d0 d1 hpa
        obtain ⟨I, hI⟩ : ∃ I, (B : Int) + pa = I := ⟨_, rfl⟩
        have HW := Lib.hid (fun W (hW : Below wr.heap.size wr W) => rwrite_any g b0 base s' I pw W (hs'.kept hW) hk0' (by omega))
        have HOk := Lib.hid (fun h => hK.trans (bumpK_cons_ok (p := (pa, pw)) h))
        have HBad := Lib.hid (fun h => hK.trans (bumpK_cons_bad (p := (pa, pw)) h))
        have HKk := Lib.hid (writeN_k s' I pw)
        obtain ⟨r, hr⟩ : ∃ r, writeN s' I pw = r := ⟨_, rfl⟩
        rw [hr] at HW HKk
        simp only [hI, hr] at HOk HBad
        obtain ⟨er, s2⟩ := r
        simp only at HW HOk HBad HKk
        have hzw := hn.size
        have HX1 := Lib.hid (bal (Below.refl wr.heap.size wr) (.cells #[.int .i64 pa, .int .u32 pw] 76))
        obtain rfl : I = 8 * (k:Int) + pa := by omega
        have hp1 : IntKind.i64.wrap (8 * (k:Int) + pa) = 8 * (k:Int) + pa := by rw [IntWalk.i64_in _ (by omega)]
        clear hI hc1 hdr hr hK hs'
        by_cases he : er = 0
        · subst he
          have HK2 := Lib.hid (HOk.out rfl)
          clear HOk HBad
          go_wp2_with (go_at_call 39; refine (HW.out _ HX1.out).mono ?_; rintro e w8 ⟨rfl, hs8, hn8⟩)
          have hn9 := hn.trans ((Near.of_below base HX1.out).trans hn8)
          go_roundw
          case rel => exact ⟨j + 1, by omega, by go_num, s2, HK2.out, by have := HKk.out; omega, by have := HKk.out; omega, hs8, hn9⟩
          case measure => simp [intOf]; omega
        · have HK2 := Lib.hid (HBad.out he)
          have he' : (er != 0) = true := by rw [bne_iff_ne]; exact he
          clear HOk HBad
          go_wp2_with (go_at_call 39; refine (HW.out _ HX1.out).mono ?_; rintro e w8 ⟨rfl, hs8, hn8⟩)
          have hn9 := hn.trans ((Near.of_below base HX1.out).trans hn8)
          go_ret
          rw [HK2.out]
          exact ⟨rfl, hs8, hn5.trans hn9⟩
      · obtain rfl : j = l.length := by omega
        have HK2 := Lib.hid (hK.out.trans (show bumpK B (l.drop l.length) s' = (0, s') by rw [List.drop_length]; rfl))
        clear hK
        go_wp2
        go_ret
        rw [HK2.out]
        exact ⟨rfl, hs', hn5.trans hn⟩
  · obtain rfl : at_ = 0 := by omega
    simp only [Nat.mul_one]
    rw [hza]
    have HStp := Lib.hid (fun W => refSteps_any k b0' b1 b2 b3 (q + 1) v (by omega) (by omega) hv0 hv1 W)
    have HAt := Lib.hid (stepsN_at k b0' (q + 1) v)
    have HLn := Lib.hid (stepsN_len k b0' (q + 1) v)
    generalize stepsN k b0' (q + 1) v = l at *
    obtain ⟨B, hB⟩ : ∃ B, 8 * k + 4 = B := ⟨_, rfl⟩
    rw [hB]
    clear hya hza ho
    have hw0 : IntKind.i64.wrap 0 = 0 := rfl
    have hw1 : IntKind.i64.wrap 1 = 1 := rfl
    go_enter Try.func23, Try.ntmps23
    go_upto_region 9 with (first
      | (go_at_call 17; refine HN.out.mono ?_; rintro e w1 ⟨rfl, hb1⟩)
      | (go_at_call 35; refine (HSl.out _ (hb1.alloc hb1.size _)).mono ?_; rintro e w2 ⟨rfl, hb2⟩))
    have hz1 := hb1.size
    have hz2 := hb2.size
    refine wp_name ?_
    intro w3 hw3
    have hb3 : RowKit.Below w.heap.size w w3 := by rw [hw3]; exact bal' ((hb1.alloc hb1.size _).trans (hb2.mono (by simp; omega))) _ (by simp at hz2; omega)
    have hC : Blk w3 w1.heap.size 43 #[.int .u32 q, .int .u32 x] := by rw [hw3]; exact ((Blk.new _ _ _).kept hb2).alloc _
    have hA : Blk w3 w2.heap.size 80 #[.int .u32 a0, .int .u32 a1, .int .u32 a2, .int .u32 a3, .int .u32 b0', .int .u32 b1, .int .u32 b2, .int .u32 b3] := by rw [hw3]; exact Blk.new _ _ _
    clear hw3 hb1 hz1 hb2 hz2 HN HSl
    generalize w1.heap.size = c at *
    generalize w2.heap.size = d at *
    have hS1 : (fun W' : World => (∀ i, W'.cell? ⟨d, i, none⟩ = (#[.int .u32 a0, .int .u32 a1, .int .u32 a2, .int .u32 a3, .int .u32 b0', .int .u32 b1, .int .u32 b2, .int .u32 b3] : Array Value)[i]?) ∧ (∀ i, W'.cell? ⟨c, i, none⟩ = (#[.int .u32 q, .int .u32 x] : Array Value)[i]?)) w3.drew := ⟨hA.drew.cell, hC.drew.cell⟩
    refine wp_region_held_drew (S := fun W' : World => (∀ i, W'.cell? ⟨d, i, none⟩ = (#[.int .u32 a0, .int .u32 a1, .int .u32 a2, .int .u32 a3, .int .u32 b0', .int .u32 b1, .int .u32 b2, .int .u32 b3] : Array Value)[i]?) ∧ (∀ i, W'.cell? ⟨c, i, none⟩ = (#[.int .u32 q, .int .u32 x] : Array Value)[i]?)) (by kernel_rfl) hS1 (fun hHeld => ?_)
    clear hHeld
    refine wpAnyH_take (i := 0) (v := ?vb0) rfl (by kernel_rfl) (by kernel_rfl) (by kernel_rfl) (fun _ _ _ h => h) (Or.inl ⟨by kernel_rfl, ?hyb0⟩) hS1 ?restb0
    case hyb0 =>
      intro w hSw
      clear hSw
      go_simp
      first | done | with_reducible rfl
    (try simp only [List.getElem_toArray, List.getElem_cons_succ, List.getElem_cons_zero, Act.put, List.setIfInBounds_toArray, List.set_cons_zero, List.set_cons_succ])
    refine wpAnyH_take (i := 1) (v := ?vb1) rfl (by kernel_rfl) (by kernel_rfl) (by kernel_rfl) (fun _ _ _ h => h) (Or.inl ⟨by kernel_rfl, ?hyb1⟩) hS1 ?restb1
    case hyb1 =>
      intro w hSw
      clear hSw
      go_simp
      first | done | with_reducible rfl
    (try simp only [List.getElem_toArray, List.getElem_cons_succ, List.getElem_cons_zero, Act.put, List.setIfInBounds_toArray, List.set_cons_zero, List.set_cons_succ])
    refine wpAnyH_take (i := 2) (v := ?vb2) rfl (by kernel_rfl) (by kernel_rfl) (by kernel_rfl) (fun _ _ _ h => h) (Or.inl ⟨by kernel_rfl, ?hyb2⟩) hS1 ?restb2
    case hyb2 =>
      intro w hSw
      clear hSw
      go_simp
      first | done | with_reducible rfl
    (try simp only [List.getElem_toArray, List.getElem_cons_succ, List.getElem_cons_zero, Act.put, List.setIfInBounds_toArray, List.set_cons_zero, List.set_cons_succ])
    refine wpAnyH_take (i := 3) (v := ?vb3) rfl (by kernel_rfl) (by kernel_rfl) (by kernel_rfl) (fun _ _ _ h => h) (Or.inl ⟨by kernel_rfl, ?hyb3⟩) hS1 ?restb3
    case hyb3 =>
      intro w hSw
      clear hSw
      go_simp
      first | done | with_reducible rfl
    (try simp only [List.getElem_toArray, List.getElem_cons_succ, List.getElem_cons_zero, Act.put, List.setIfInBounds_toArray, List.set_cons_zero, List.set_cons_succ])
    refine wpAnyH_take (i := 4) (v := ?vb4) rfl (by kernel_rfl) (by kernel_rfl) (by kernel_rfl) (fun _ _ _ h => h) (Or.inl ⟨by kernel_rfl, ?hyb4⟩) hS1 ?restb4
    case hyb4 =>
      intro w hSw
      obtain ⟨hSa, hSb⟩ := hSw
      go_simp
      first | done | with_reducible rfl
    (try simp only [List.getElem_toArray, List.getElem_cons_succ, List.getElem_cons_zero, Act.put, List.setIfInBounds_toArray, List.set_cons_zero, List.set_cons_succ])
    refine wpAnyH_take (i := 5) (v := ?vb5) rfl (by kernel_rfl) (by kernel_rfl) (by kernel_rfl) (fun _ _ _ h => h) (Or.inl ⟨by kernel_rfl, ?hyb5⟩) hS1 ?restb5
    case hyb5 =>
      intro w hSw
      clear hSw
      go_simp
      first | done | with_reducible rfl
    (try simp only [List.getElem_toArray, List.getElem_cons_succ, List.getElem_cons_zero, Act.put, List.setIfInBounds_toArray, List.set_cons_zero, List.set_cons_succ])
    refine wpAnyH_take (i := 6) (v := ?vb6) rfl (by kernel_rfl) (by kernel_rfl) (by kernel_rfl) (fun _ _ _ h => h) (Or.inl ⟨by kernel_rfl, ?hyb6⟩) hS1 ?restb6
    case hyb6 =>
      intro w hSw
      obtain ⟨hSa, hSb⟩ := hSw
      go_simp
      first | done | with_reducible rfl
    (try simp only [List.getElem_toArray, List.getElem_cons_succ, List.getElem_cons_zero, Act.put, List.setIfInBounds_toArray, List.set_cons_zero, List.set_cons_succ])
    refine wpAnyH_take (i := 7) (v := ?vb7) rfl (by kernel_rfl) (by kernel_rfl) (by kernel_rfl) (fun _ _ _ h => h) (Or.inl ⟨by kernel_rfl, ?hyb7⟩) hS1 ?restb7
    case hyb7 =>
      intro w hSw
      clear hSw
      go_simp
      first | done | with_reducible rfl
    (try simp only [List.getElem_toArray, List.getElem_cons_succ, List.getElem_cons_zero, Act.put, List.setIfInBounds_toArray, List.set_cons_zero, List.set_cons_succ])
    refine wpAnyH_take (i := 8) (v := ?vb8) rfl (by kernel_rfl) (by kernel_rfl) (by kernel_rfl) (fun _ _ _ h => h) (Or.inl ⟨by kernel_rfl, ?hyb8⟩) hS1 ?restb8
    case hyb8 =>
      intro w hSw
      clear hSw
      go_simp
      first | done | with_reducible rfl
    (try simp only [List.getElem_toArray, List.getElem_cons_succ, List.getElem_cons_zero, Act.put, List.setIfInBounds_toArray, List.set_cons_zero, List.set_cons_succ])
    refine wpAnyH_take (i := 9) (v := ?vb9) rfl (by kernel_rfl) (by kernel_rfl) (by kernel_rfl) (fun _ _ _ h => h) (Or.inl ⟨by kernel_rfl, ?hyb9⟩) hS1 ?restb9
    case hyb9 =>
      intro w hSw
      clear hSw
      go_simp
      first | done | with_reducible rfl
    (try simp only [List.getElem_toArray, List.getElem_cons_succ, List.getElem_cons_zero, Act.put, List.setIfInBounds_toArray, List.set_cons_zero, List.set_cons_succ])
    refine wpAnyH_take (i := 12) (v := ?vb12) rfl (by kernel_rfl) (by kernel_rfl) (by kernel_rfl) (fun _ _ _ h => h) (Or.inl ⟨by kernel_rfl, ?hyb12⟩) hS1 ?restb12
    case hyb12 =>
      intro w hSw
      clear hSw
      go_simp
      first | done | with_reducible rfl
    (try simp only [List.getElem_toArray, List.getElem_cons_succ, List.getElem_cons_zero, Act.put, List.setIfInBounds_toArray, List.set_cons_zero, List.set_cons_succ])
    refine wpAnyH_call (i := 10) (by kernel_rfl) rfl (by kernel_rfl) fun K hK => ?_
    simp only [List.getElem_toArray, List.getElem_cons_succ, List.getElem_cons_zero]
    go_simp
    go_at_call 38
    refine (HStp.out _).mono ?_
    rintro e w5 ⟨Ar, cr, rfl, hrow, hb6⟩
    have hA5 := hA.drew.kept hb6
    have hC5 := hC.drew.kept hb6
    have hb7 := hb3.drew.trans (hb6.mono hb3.size)
    have hz4 := hb3.size
    have hS3 : (fun W' : World => (∀ i, W'.cell? ⟨d, i, none⟩ = (#[.int .u32 a0, .int .u32 a1, .int .u32 a2, .int .u32 a3, .int .u32 b0', .int .u32 b1, .int .u32 b2, .int .u32 b3] : Array Value)[i]?) ∧ (∀ i, W'.cell? ⟨c, i, none⟩ = (#[.int .u32 q, .int .u32 x] : Array Value)[i]?)) w5 := ⟨hA5.cell, hC5.cell⟩
    refine hK.out _ _ hS3 ?_
    clear hK K
    (try simp only [List.getElem_toArray, List.getElem_cons_succ, List.getElem_cons_zero, Act.put, List.setIfInBounds_toArray, List.set_cons_zero, List.set_cons_succ])
    refine wpAnyH_call (i := 11) (by kernel_rfl) rfl (by kernel_rfl) fun K hK => ?_
    simp only [List.getElem_toArray, List.getElem_cons_succ, List.getElem_cons_zero]
    go_simp
    refine hK.out _ _ hS3 ?_
    clear hK K
    (try simp only [List.getElem_toArray, List.getElem_cons_succ, List.getElem_cons_zero, Act.put, List.setIfInBounds_toArray, List.set_cons_zero, List.set_cons_succ])
    refine wpAnyH_done (by kernel_rfl) ?_ _
    have hS := HSt.out w5 hb7
    have hz7 := hb7.size
    have HRow := Lib.hid (fun W (hW : Near base w5 W) => own_same hrow fun i hi => hW.block i (own_lt hrow hi).2 (fun hb => by have h1 := HBd.out i hb; have h2 : w3.heap.size ≤ i := (own_lt hrow hi).1; omega))
    clear hS1 hS3 hA5 hC5 hA hC hb3 hb6 HStp hrow
    have hn5 := Near.of_below base hb7
    have hln := HLn.out
    go_wp2
    go_loopw [13, 14, 49] (fun _ _ i wr => ∃ j : Nat, j ≤ l.length ∧ i = .int .i64 j ∧ ∃ s' : Stt, Hid (bumpK B l s = bumpK B (l.drop j) s') ∧ 0 ≤ s'.k ∧ s'.k ≤ s.k + j ∧ RSto wr b0 base g s' ∧ Near base w5 wr) (fun _ _ i _ => l.length - (intOf i).toNat)
    case atStart => exact ⟨0, by omega, rfl, s, rfl, hk0, by simp, hS, Near.refl _ _⟩
    case round =>
      obtain ⟨j, hj, rfl, s', hK, hk0', hk1', hs', hn⟩ := hrel
      clear hS
      by_cases hlt : j < l.length
      · obtain ⟨g1, o1, rfl, hb1, hc1⟩ := (Rd.of_own (HRow.out wr hn)).row (fun _ => rfl) hlt rfl
        have d0 := hc1 0 (by omega)
        have d1 := hc1 1 (by omega)
        have hdr : l.drop j = l[j] :: l.drop (j + 1) := List.drop_eq_getElem_cons hlt
        have hpa := HAt.out _ (List.getElem_mem hlt)
        simp only [encP, Nat.add_zero, List.getElem?_cons_zero, List.getElem?_cons_succ] at d0 d1
        rw [hdr] at hK
        generalize l[j] = p at *
        obtain ⟨pa, pw⟩ := p
        simp only at d0 d1 hpa
        obtain ⟨I, hI⟩ : ∃ I, (B : Int) + pa = I := ⟨_, rfl⟩
        have HW := Lib.hid (fun W (hW : Below wr.heap.size wr W) => rwrite_any g b0 base s' I pw W (hs'.kept hW) hk0' (by omega))
        have HOk := Lib.hid (fun h => hK.trans (bumpK_cons_ok (p := (pa, pw)) h))
        have HBad := Lib.hid (fun h => hK.trans (bumpK_cons_bad (p := (pa, pw)) h))
        have HKk := Lib.hid (writeN_k s' I pw)
        obtain ⟨r, hr⟩ : ∃ r, writeN s' I pw = r := ⟨_, rfl⟩
        rw [hr] at HW HKk
        simp only [hI, hr] at HOk HBad
        obtain ⟨er, s2⟩ := r
        simp only at HW HOk HBad HKk
        have hzw := hn.size
        have HX1 := Lib.hid (bal (Below.refl wr.heap.size wr) (.cells #[.int .i64 pa, .int .u32 pw] 76))
        obtain rfl : I = 8 * (k:Int) + 4 + pa := by omega
        have hp1 : IntKind.i64.wrap (8 * (k:Int) + 4 + pa) = 8 * (k:Int) + 4 + pa := by rw [IntWalk.i64_in _ (by omega)]
        clear hI hc1 hdr hr hK hs'
        by_cases he : er = 0
        · subst he
          have HK2 := Lib.hid (HOk.out rfl)
          clear HOk HBad
          go_wp2_with (go_at_call 39; refine (HW.out _ HX1.out).mono ?_; rintro e w8 ⟨rfl, hs8, hn8⟩)
          have hn9 := hn.trans ((Near.of_below base HX1.out).trans hn8)
          go_roundw
          case rel => exact ⟨j + 1, by omega, by go_num, s2, HK2.out, by have := HKk.out; omega, by have := HKk.out; omega, hs8, hn9⟩
          case measure => simp [intOf]; omega
        · have HK2 := Lib.hid (HBad.out he)
          have he' : (er != 0) = true := by rw [bne_iff_ne]; exact he
          clear HOk HBad
          go_wp2_with (go_at_call 39; refine (HW.out _ HX1.out).mono ?_; rintro e w8 ⟨rfl, hs8, hn8⟩)
          have hn9 := hn.trans ((Near.of_below base HX1.out).trans hn8)
          go_ret
          rw [HK2.out]
          exact ⟨rfl, hs8, hn5.trans hn9⟩
      · obtain rfl : j = l.length := by omega
        have HK2 := Lib.hid (hK.out.trans (show bumpK B (l.drop l.length) s' = (0, s') by rw [List.drop_length]; rfl))
        clear hK
        go_wp2
        go_ret
        rw [HK2.out]
        exact ⟨rfl, hs', hn5.trans hn⟩
end Go.Proofs.Ytpenjfkdinmgmaa
