/- Chapter 25, the law MeasFolds: any record as bytes; any records folded: the walk. -/
import Derived.Test.YtjcklmhkdpbbdaaDoorMeasO
namespace Go.Proofs.YtjcklmhkdpbbdaaDoor
set_option linter.unusedVariables false
set_option linter.unusedSimpArgs false
open Go.RowKit Go.Sort Go.ChangeShapes

set_option maxRecDepth 100000 in
set_option maxHeartbeats 4000000 in
theorem measFolds_any (r : Rc) (A : Option Addr) (n c : Nat) (l : List Rc) (w : World) (hro : RcOk r) (hl : l.length = n) (hn : n ≤ 9223372036854775807) (h0 : RcsOk l) (hr : Rd w w.heap.size 35 A n (l.flatMap Rc.cs)) (hT : Tabs w) :
    Calls Tryd.prog 9 #[.agg r.cs.toArray, .slice A n c] w fun e w' => e = .returned (.bool true) ∧ Below w.heap.size w w' := by
  have hsz : r.cs.toArray.size = 35 := by simp [Rc.len hro]
  have hb0 := bal (Below.refl w.heap.size w) (.cells r.cs.toArray 61)
  have HA := Lib.hid (awake25_any (w.alloc (.cells r.cs.toArray 61)) (hT.kept hb0))
  have HB0 := Lib.hid (Blk.new w 61 r.cs.toArray)
  have HB := Lib.hid hb0
  have HLn := Lib.hid (Rc.len hro)
  by_cases h80 : n ≤ 80
  · have h80I : ¬ (80 : Int) < (n : Int) := by omega
    have HR := Lib.hid hr
    have M1 := Lib.hid (fun W => measPut_any r hro W)
    have M2 := Lib.hid (fun W => refRec_any r hro W)
    have F1 := Lib.hid (fun W (hb : Below w.heap.size w W) => fold_any A n c l W hl (by omega) h0 ((hr.below hb).more hb.size) (hT.kept hb))
    have F2 := Lib.hid (fun W (hb : Below w.heap.size w W) => refFold_any A n c l W hl (by omega) h0 ((hr.below hb).more hb.size))
    have heq := fun W => eq_2n (reg0_ok.on l).len W
    generalize onR reg0 l = ob at *
    have HBl := Lib.hid (Rc.bytes_len hro)
    clear hr hT hl h0 hb0 hn hro
    go_enter Tryd.func9, Tryd.ntmps9
    go_upto_region 3 with (go_at_call 28; refine HA.out.mono ?_; rintro e w1 ⟨rfl, hb1⟩)
    have hb1x := HB.out.trans (hb1.mono HB.out.size)
    have hB1 := HB0.out.kept hb1
    have hS1 : (fun w' : World => w'.rangeAt w.heap.size 0 r.cs) w1.drew := hB1.range
    have hbd := hb1x.drew
    have hBd := hB1.drew
    refine wp_region_held_drew (S := fun w' : World => w'.rangeAt w.heap.size 0 r.cs) (by kernel_rfl) hS1 (fun hHeld => ?_)
    clear hHeld
    have h80B : decide ((80 : Int) < (n : Int)) = false := decide_eq_false (by omega)
    refine wpAnyH_take (i := 0) (v := ?va0) rfl (by kernel_rfl) (by kernel_rfl) (by kernel_rfl) (fun _ _ _ h => h) (Or.inl ⟨by kernel_rfl, ?hya0⟩) hS1 ?resta0
    case hya0 =>
      intro w hSw
      clear hSw
      go_simp
      first | done | with_reducible rfl
    (try simp only [List.getElem_toArray, List.getElem_cons_succ, List.getElem_cons_zero, Act.put, List.setIfInBounds_toArray, List.set_cons_zero, List.set_cons_succ])
    refine wpAnyH_take (i := 1) (v := ?va1) rfl (by kernel_rfl) (by kernel_rfl) (by kernel_rfl) (fun _ _ _ h => h) (Or.inl ⟨by kernel_rfl, ?hya1⟩) hS1 ?resta1
    case hya1 =>
      intro w hSw
      clear hSw
      go_simp
      first | done | with_reducible rfl
    (try simp only [List.getElem_toArray, List.getElem_cons_succ, List.getElem_cons_zero, Act.put, List.setIfInBounds_toArray, List.set_cons_zero, List.set_cons_succ])
    refine wpAnyH_take (i := 2) (v := ?va2) rfl (by kernel_rfl) (by kernel_rfl) (by kernel_rfl) (fun _ _ _ h => h) (Or.inl ⟨by kernel_rfl, ?hya2⟩) hS1 ?resta2
    case hya2 =>
      intro w hSw
      clear hSw
      go_simp
      first | done | with_reducible rfl
    (try simp only [List.getElem_toArray, List.getElem_cons_succ, List.getElem_cons_zero, Act.put, List.setIfInBounds_toArray, List.set_cons_zero, List.set_cons_succ])
    refine wpAnyH_take (i := 3) (v := ?va3) rfl (by kernel_rfl) (by kernel_rfl) (by kernel_rfl) (fun _ _ _ h => h) (Or.inl ⟨by kernel_rfl, ?hya3⟩) hS1 ?resta3
    case hya3 =>
      intro w hSw
      clear hSw
      go_simp
      first | done | with_reducible rfl
    (try simp only [List.getElem_toArray, List.getElem_cons_succ, List.getElem_cons_zero, Act.put, List.setIfInBounds_toArray, List.set_cons_zero, List.set_cons_succ])
    refine wpAnyH_take (i := 4) (v := .agg r.cs.toArray) rfl (by kernel_rfl) (by kernel_rfl) (by kernel_rfl) (fun _ _ _ h => h) ?hla4 hS1 ?_
    case hla4 =>
      refine Or.inl ⟨by kernel_rfl, fun w1 hSw => ?_⟩
      refine exec_load_mid 61 (.tmp 2) rfl w.heap.size 0 ?hxa4 r.cs _ hSw Tryd.underlying61 rfl (by rw [HLn.out]; kernel_rfl)
      case hxa4 => go_simp
    (try simp only [List.getElem_toArray, List.getElem_cons_succ, List.getElem_cons_zero, Act.put, List.setIfInBounds_toArray, List.set_cons_zero, List.set_cons_succ])
    refine wpAnyH_take (i := 7) (v := .agg r.cs.toArray) rfl (by kernel_rfl) (by kernel_rfl) (by kernel_rfl) (fun _ _ _ h => h) ?hla7 hS1 ?_
    case hla7 =>
      refine Or.inl ⟨by kernel_rfl, fun w1 hSw => ?_⟩
      refine exec_load_mid 61 (.tmp 2) rfl w.heap.size 0 ?hxa7 r.cs _ hSw Tryd.underlying61 rfl (by rw [HLn.out]; kernel_rfl)
      case hxa7 => go_simp
    (try simp only [List.getElem_toArray, List.getElem_cons_succ, List.getElem_cons_zero, Act.put, List.setIfInBounds_toArray, List.set_cons_zero, List.set_cons_succ])
    refine wpAnyH_call (i := 5) (by kernel_rfl) rfl (by kernel_rfl) fun K hK => ?_
    simp only [List.getElem_toArray, List.getElem_cons_succ, List.getElem_cons_zero]
    go_simp
    go_at_call 35
    refine (M1.out _).mono ?_
    rintro e w2 ⟨A2, c2, rfl, hown2, hb2⟩
    have hB2 := hBd.kept hb2
    have hb2x := hbd.trans (hb2.mono hbd.size)
    have hS2 : (fun w' : World => w'.rangeAt w.heap.size 0 r.cs) w2 := hB2.range
    refine hK.out _ _ hS2 ?_
    clear hK K
    (try simp only [List.getElem_toArray, List.getElem_cons_succ, List.getElem_cons_zero, Act.put, List.setIfInBounds_toArray, List.set_cons_zero, List.set_cons_succ])
    have hr2 := Rd.of_own hown2
    have hS3 : (fun w' : World => w'.rangeAt w.heap.size 0 r.cs ∧ Rd w' w2.heap.size 1 A2 44 (r.bytes.flatMap encB)) w2 := ⟨hS2, hr2⟩
    refine wpAnyH_mono (S2 := fun w' : World => w'.rangeAt w.heap.size 0 r.cs ∧ Rd w' w2.heap.size 1 A2 44 (r.bytes.flatMap encB)) (fun w h => h.1) _ _ _ _ ?_
    refine wpAnyH_take (i := 6) (v := .string (strOfNums r.bytes)) rfl (by kernel_rfl) (by kernel_rfl) (by kernel_rfl) (fun _ _ _ h => h) ?hcv hS3 ?_
    case hcv =>
      refine Or.inl ⟨by kernel_rfl, fun w9 hSw => ?_⟩
      have s1 := conv_str hSw.2 HBl.out c2
      clear hSw
      go_simp
    (try simp only [List.getElem_toArray, List.getElem_cons_succ, List.getElem_cons_zero, Act.put, List.setIfInBounds_toArray, List.set_cons_zero, List.set_cons_succ])
    refine wpAnyH_call (i := 8) (by kernel_rfl) rfl (by kernel_rfl) fun K hK => ?_
    simp only [List.getElem_toArray, List.getElem_cons_succ, List.getElem_cons_zero]
    go_simp
    go_at_call 36
    refine (M2.out _).mono ?_
    rintro e w3 ⟨A3, c3, rfl, hown3, hb3⟩
    have hB3 := hB2.kept hb3
    have hb3x := hb2x.trans (hb3.mono hb2x.size)
    have hS4 : (fun w' : World => w'.rangeAt w.heap.size 0 r.cs ∧ Rd w' w2.heap.size 1 A2 44 (r.bytes.flatMap encB)) w3 := ⟨hB3.range, hr2.below hb3⟩
    refine hK.out _ _ hS4 ?_
    clear hK K
    (try simp only [List.getElem_toArray, List.getElem_cons_succ, List.getElem_cons_zero, Act.put, List.setIfInBounds_toArray, List.set_cons_zero, List.set_cons_succ])
    have s3 := conv_str (Rd.of_own hown3) HBl.out c3
    refine wpAnyH_call (i := 9) (by kernel_rfl) rfl (by kernel_rfl) fun K hK => ?_
    simp only [List.getElem_toArray, List.getElem_cons_succ, List.getElem_cons_zero]
    go_simp
    refine hK.out _ _ hS4 ?_
    clear hK K
    (try simp only [List.getElem_toArray, List.getElem_cons_succ, List.getElem_cons_zero, Act.put, List.setIfInBounds_toArray, List.set_cons_zero, List.set_cons_succ])
    refine wpAnyH_take (i := 10) (v := ?va10) rfl (by kernel_rfl) (by kernel_rfl) (by kernel_rfl) (fun _ _ _ h => h) (Or.inl ⟨by kernel_rfl, ?hya10⟩) hS4 ?resta10
    case hya10 =>
      intro w hSw
      clear hSw
      go_simp
      first | done | with_reducible rfl
    (try simp only [List.getElem_toArray, List.getElem_cons_succ, List.getElem_cons_zero, Act.put, List.setIfInBounds_toArray, List.set_cons_zero, List.set_cons_succ])
    refine wpAnyH_take (i := 11) (v := ?va11) rfl (by kernel_rfl) (by kernel_rfl) (by kernel_rfl) (fun _ _ _ h => h) (Or.inl ⟨by kernel_rfl, ?hya11⟩) hS4 ?resta11
    case hya11 =>
      intro w hSw
      clear hSw
      go_simp
      first | done | with_reducible rfl
    (try simp only [List.getElem_toArray, List.getElem_cons_succ, List.getElem_cons_zero, Act.put, List.setIfInBounds_toArray, List.set_cons_zero, List.set_cons_succ])
    refine wpAnyH_take (i := 12) (v := ?va12) rfl (by kernel_rfl) (by kernel_rfl) (by kernel_rfl) (fun _ _ _ h => h) (Or.inl ⟨by kernel_rfl, ?hya12⟩) hS4 ?resta12
    case hya12 =>
      intro w hSw
      clear hSw
      go_simp
      first | done | with_reducible rfl
    (try simp only [List.getElem_toArray, List.getElem_cons_succ, List.getElem_cons_zero, Act.put, List.setIfInBounds_toArray, List.set_cons_zero, List.set_cons_succ])
    refine wpAnyH_take (i := 14) (v := ?va14) rfl (by kernel_rfl) (by kernel_rfl) (by kernel_rfl) (fun _ _ _ h => h) (Or.inl ⟨by kernel_rfl, ?hya14⟩) hS4 ?resta14
    case hya14 =>
      intro w hSw
      clear hSw
      go_simp
      first | done | with_reducible rfl
    (try simp only [List.getElem_toArray, List.getElem_cons_succ, List.getElem_cons_zero, Act.put, List.setIfInBounds_toArray, List.set_cons_zero, List.set_cons_succ])
    refine wpAnyH_call (i := 13) (by kernel_rfl) rfl (by kernel_rfl) fun K hK => ?_
    simp only [List.getElem_toArray, List.getElem_cons_succ, List.getElem_cons_zero]
    go_simp
    go_at_call 37
    refine (F1.out _ hb3x).mono ?_
    rintro e w4 ⟨rfl, hb4⟩
    have hb4x := hb3x.trans (hb4.mono hb3x.size)
    have hB4 := hB3.kept hb4
    have hS5 : (fun w' : World => w'.rangeAt w.heap.size 0 r.cs ∧ Rd w' w2.heap.size 1 A2 44 (r.bytes.flatMap encB)) w4 := ⟨hB4.range, (hr2.below hb3).below (hb4.mono hb3.size)⟩
    refine hK.out _ _ hS5 ?_
    clear hK K
    (try simp only [List.getElem_toArray, List.getElem_cons_succ, List.getElem_cons_zero, Act.put, List.setIfInBounds_toArray, List.set_cons_zero, List.set_cons_succ])
    refine wpAnyH_call (i := 15) (by kernel_rfl) rfl (by kernel_rfl) fun K hK => ?_
    simp only [List.getElem_toArray, List.getElem_cons_succ, List.getElem_cons_zero]
    go_simp
    go_at_call 32
    refine (F2.out _ hb4x).mono ?_
    rintro e w5 ⟨rfl, hb5⟩
    have hb5x := hb4x.trans (hb5.mono hb4x.size)
    have hS6 : (fun w' : World => w'.rangeAt w.heap.size 0 r.cs ∧ Rd w' w2.heap.size 1 A2 44 (r.bytes.flatMap encB)) w5 := ⟨(hB4.kept hb5).range, ((hr2.below hb3).below (hb4.mono hb3.size)).below (hb5.mono (Nat.le_trans hb3.size hb4.size))⟩
    refine hK.out _ _ hS6 ?_
    clear hK K
    (try simp only [List.getElem_toArray, List.getElem_cons_succ, List.getElem_cons_zero, Act.put, List.setIfInBounds_toArray, List.set_cons_zero, List.set_cons_succ])
    refine wpAnyH_take (i := 16) (v := ?va16) rfl (by kernel_rfl) (by kernel_rfl) (by kernel_rfl) (fun _ _ _ h => h) (Or.inl ⟨by kernel_rfl, ?hya16⟩) hS6 ?resta16
    case hya16 =>
      intro w hSw
      clear hSw
      go_simp
      first | done | with_reducible rfl
    (try simp only [List.getElem_toArray, List.getElem_cons_succ, List.getElem_cons_zero, Act.put, List.setIfInBounds_toArray, List.set_cons_zero, List.set_cons_succ])
    refine wpAnyH_take (i := 17) (v := ?va17) rfl (by kernel_rfl) (by kernel_rfl) (by kernel_rfl) (fun _ _ _ h => h) (Or.inl ⟨by kernel_rfl, ?hya17⟩) hS6 ?resta17
    case hya17 =>
      intro w hSw
      clear hSw
      go_simp
      first | done | with_reducible rfl
    (try simp only [List.getElem_toArray, List.getElem_cons_succ, List.getElem_cons_zero, Act.put, List.setIfInBounds_toArray, List.set_cons_zero, List.set_cons_succ])
    refine wpAnyH_take (i := 18) (v := ?va18) rfl (by kernel_rfl) (by kernel_rfl) (by kernel_rfl) (fun _ _ _ h => h) (Or.inl ⟨by kernel_rfl, ?hya18⟩) hS6 ?resta18
    case hya18 =>
      intro w hSw
      clear hSw
      go_simp
      first | done | with_reducible rfl
    (try simp only [List.getElem_toArray, List.getElem_cons_succ, List.getElem_cons_zero, Act.put, List.setIfInBounds_toArray, List.set_cons_zero, List.set_cons_succ])
    refine wpAnyH_take (i := 19) (v := ?va19) rfl (by kernel_rfl) (by kernel_rfl) (by kernel_rfl) (fun _ _ _ h => h) (Or.inl ⟨by kernel_rfl, ?hya19⟩) hS6 ?resta19
    case hya19 =>
      intro w hSw
      clear hSw
      go_simp
      first | done | with_reducible rfl
    (try simp only [List.getElem_toArray, List.getElem_cons_succ, List.getElem_cons_zero, Act.put, List.setIfInBounds_toArray, List.set_cons_zero, List.set_cons_succ])
    refine wpAnyH_done (by kernel_rfl) ?_ _
    go_wp2
    go_ret
    exact ⟨rfl, hb5x⟩
  · have h80I : (80 : Int) < (n : Int) := by omega
    clear hr hT hl h0 hb0
    go_enter Tryd.func9, Tryd.ntmps9
    go_upto_region 3 with (go_at_call 28; refine HA.out.mono ?_; rintro e w1 ⟨rfl, hb1⟩)
    go_quiet ((fail))
    go_wp2
    go_ret
    exact ⟨rfl, below_drewN (HB.out.trans (hb1.mono HB.out.size)) _⟩
set_option maxRecDepth 100000 in
theorem measFolds_law : LawWalkL Tryd.prog 9 Tryd.f9 := by
  intro H enc W base args ds p hval hA hlt hfz hsz hT
  rw [Tryd.params9] at hA hval
  obtain ⟨v0, v1, d0, d1, p0, p1, rfl, rfl, rfl, h0, h1⟩ := trodAll_two hA
  obtain ⟨r, rfl, hro⟩ := open_rec (hval 0 61 v0 rfl rfl) h0 (fun x hx => hlt x (by simp [hx]))
  obtain ⟨A, n, c, l, rfl, hnc, hn, hc, hl, ho, hr⟩ := open_recs (hval 1 51 v1 rfl rfl) h1 (fun x hx => hlt x (by simp [hx]))
  exact measFolds_any r A n c l W hro hl hn ho hr hT
end Go.Proofs.YtjcklmhkdpbbdaaDoor
