/- Which trees may be, and any tree as bytes: the statement walked. -/
import Derived.Test.YtnkpaockginooaaPutI
import Derived.Test.YtnkpaockginooaaTreeJ
namespace Go.Proofs.Ytnkpaockginooaa
set_option linter.unusedVariables false
set_option linter.unusedSimpArgs false
open Go.RowKit Go.Sort Go.Maps Go.WideShapes Go.ChangeShapes
theorem neg_bool (b : Bool) : (b == b) = true := by simp
set_option maxRecDepth 100000 in
set_option maxHeartbeats 4000000 in
theorem fdtPuts_any (k : Nat) (t : Tr) (cs : List Value) (w : World) (hT : TrOk w w.heap.size k t cs) (hL : LensF k t) : Calls Try.prog 3 #[.agg cs.toArray] w fun e w' => e = .returned (.bool true) ∧ Below w.heap.size w w' := by
  obtain ⟨sn, K1, n1, cc1, K2, n2, cc2, hv⟩ : ∃ (sn : ByteArray) (K1 : Option Addr) (n1 cc1 : Nat) (K2 : Option Addr) (n2 cc2 : Nat), cs = [.string sn, .slice K1 n1 cc1, .slice K2 n2 cc2] := by
    cases k with
    | zero => exact hT.elim
    | succ k =>
      obtain ⟨_, _, _, _, _, _, _, e, _⟩ := hT
      exact ⟨_, _, _, _, _, _, _, e⟩
  subst hv
  have hbt := bal (Below.refl w.heap.size w) (.cells #[.string sn, .slice K1 n1 cc1, .slice K2 n2 cc2] 25)
  have hTt := Blk.new w 25 #[.string sn, .slice K1 n1 cc1, .slice K2 n2 cc2]
  have HTk := Lib.hid (fun W (h : Below w.heap.size w W) => (hT.below h).more h.size)
  have HBt := Lib.hid hbt
  have HFew := Lib.hid (fun W (h : Below w.heap.size w W) => few_any k t _ W (HTk.out W h))
  have HPut := Lib.hid (fun W (h : Below w.heap.size w W) => put_any k t _ W (HTk.out W h) hL)
  have HRput := Lib.hid (fun W (h : Below w.heap.size w W) => rput_any k t _ W (HTk.out W h) hL)
  have HChk := Lib.hid (fun W (h : Below w.heap.size w W) => check_any k t _ W (HTk.out W h) hL)
  have HRchk := Lib.hid (fun W (h : Below w.heap.size w W) => rCheck_any k t _ W (HTk.out W h) hL)
  obtain ⟨r, hr⟩ : ∃ r, mayT t = r := ⟨_, rfl⟩
  rw [hr] at HChk HRchk
  obtain ⟨l, hl⟩ : ∃ l, (putT t).1 = l := ⟨_, rfl⟩
  obtain ⟨y, hy⟩ : ∃ y, (putT t).2 = y := ⟨_, rfl⟩
  obtain ⟨n, hn⟩ : ∃ n, l.length = n := ⟨_, rfl⟩
  unfold PutP at HPut HRput
  rw [hl, hy, hn] at HPut HRput
  have HN := Lib.hid hn
  clear hT hL hbt hr hl hy hn
  go_enter Try.func3, Try.ntmps3
  go_upto_region 3 with (go_at_call 13; refine (awake24_any _).mono ?_; rintro e w1 ⟨rfl, hb1⟩)
  have hb1' : RowKit.Below w.heap.size w w1 := HBt.out.trans (hb1.mono HBt.out.size)
  have hT1 := hTt.kept hb1
  have cT := hT1.cell
  clear hb1
  go_upto_region 6 with (first
    | (go_at_call 14; refine (HFew.out _ hb1').mono ?_; rintro e w2 ⟨⟨few, rfl⟩, hb2⟩; have hb2' := hb1'.trans (hb2.mono hb1'.size); have hT2 := hT1.kept hb2; have cT2 := hT2.cell; cases few)
    | (go_at_call 15; refine (HPut.out _ hb2').mono ?_; rintro e w3 ⟨A3, c3, rfl, hown3, hb3⟩))
  · go_wp2_with fail
    go_ret
    exact ⟨rfl, hb2'⟩
  · have hb3' := hb2'.trans (hb3.mono hb2'.size)
    have hT3 := hT2.kept hb3
    have hr3 := Rd.of_own hown3
    clear cT2 hown3 hT1 hb1' hb2 hTt cT
    have cT := hT3.cell
    clear hT2 hb3 hb2'
    go_upto_region 7 with (go_at_call 16; refine (HRput.out _ hb3').mono ?_; rintro e w4 ⟨A4, c4, rfl, hown4, hb4⟩)
    have HB4 := Lib.hid (hb3'.trans (hb4.mono hb3'.size))
    have hT4 := hT3.kept hb4
    have hr3' : Rd w4 w4.heap.size 1 A3 n (l.flatMap encB) := (hr3.below hb4).more hb4.size
    have hr4 := Rd.of_own hown4
    clear cT hown4 hT3 hb4 hb3' hr3
    have HS := Lib.hid (fun W (h : Below w4.heap.size w4 W) => (show (∀ i, W.cell? ⟨w.heap.size, i, none⟩ = (#[.string sn, .slice K1 n1 cc1, .slice K2 n2 cc2] : Array Value)[i]?) ∧ (convert 28 9 (.slice A3 n c3)).run Try.prog W = .ok (.string (strOfNums l)) W ∧ (convert 28 9 (.slice A4 n c4)).run Try.prog W = .ok (.string (strOfNums l)) W from
      ⟨(hT4.kept h).cell, conv_str ((hr3'.below h).more h.size) HN.out c3, conv_str ((hr4.below h).more h.size) HN.out c4⟩))
    have hS1 : (fun W : World => (∀ i, W.cell? ⟨w.heap.size, i, none⟩ = (#[.string sn, .slice K1 n1 cc1, .slice K2 n2 cc2] : Array Value)[i]?) ∧ (convert 28 9 (.slice A3 n c3)).run Try.prog W = .ok (.string (strOfNums l)) W ∧ (convert 28 9 (.slice A4 n c4)).run Try.prog W = .ok (.string (strOfNums l)) W) w4.drew := HS.out _ (Below.refl _ _).drew
    clear hT4 hr3' hr4
    refine wp_region_held_drew (S := fun W : World => (∀ i, W.cell? ⟨w.heap.size, i, none⟩ = (#[.string sn, .slice K1 n1 cc1, .slice K2 n2 cc2] : Array Value)[i]?) ∧ (convert 28 9 (.slice A3 n c3)).run Try.prog W = .ok (.string (strOfNums l)) W ∧ (convert 28 9 (.slice A4 n c4)).run Try.prog W = .ok (.string (strOfNums l)) W) (by kernel_rfl) hS1 (fun hHeld => ?_)
    clear hHeld
    refine wpAnyH_take (i := 0) (v := ?va0) rfl (by kernel_rfl) (by kernel_rfl) (by kernel_rfl) (fun _ _ _ h => h) (Or.inl ⟨by kernel_rfl, ?hya0⟩) hS1 ?resta0
    case hya0 =>
      intro w hSw
      obtain ⟨hSa, hSb, hSc⟩ := hSw
      go_simp
      first | done | with_reducible rfl
    (try simp only [List.getElem_toArray, List.getElem_cons_succ, List.getElem_cons_zero, Act.put, List.setIfInBounds_toArray, List.set_cons_zero, List.set_cons_succ])
    refine wpAnyH_take (i := 2) (v := ?va2) rfl (by kernel_rfl) (by kernel_rfl) (by kernel_rfl) (fun _ _ _ h => h) (Or.inl ⟨by kernel_rfl, ?hya2⟩) hS1 ?resta2
    case hya2 =>
      intro w hSw
      obtain ⟨hSa, hSb, hSc⟩ := hSw
      go_simp
      first | done | with_reducible rfl
    (try simp only [List.getElem_toArray, List.getElem_cons_succ, List.getElem_cons_zero, Act.put, List.setIfInBounds_toArray, List.set_cons_zero, List.set_cons_succ])
    have hb0 : Below w4.heap.size w4 w4.drew := (Below.refl _ _).drew
    refine wpAnyH_call (i := 1) (by kernel_rfl) rfl (by kernel_rfl) fun K hK => ?_
    simp only [List.getElem_toArray, List.getElem_cons_succ, List.getElem_cons_zero]
    go_simp
    go_at_call 17
    refine (HChk.out _ (HB4.out.trans (hb0.mono HB4.out.size))).mono ?_
    rintro e w5 ⟨rfl, hb5⟩
    have hb5' := hb0.trans (hb5.mono hb0.size)
    have hS2 := HS.out _ hb5'
    refine hK.out _ _ hS2 ?_
    clear hK K
    (try simp only [List.getElem_toArray, List.getElem_cons_succ, List.getElem_cons_zero, Act.put, List.setIfInBounds_toArray, List.set_cons_zero, List.set_cons_succ])
    refine wpAnyH_call (i := 3) (by kernel_rfl) rfl (by kernel_rfl) fun K hK => ?_
    simp only [List.getElem_toArray, List.getElem_cons_succ, List.getElem_cons_zero]
    go_simp
    go_at_call 18
    refine (HRchk.out _ (HB4.out.trans (hb5'.mono HB4.out.size))).mono ?_
    rintro e w6 ⟨rfl, hb6⟩
    have hb6' := hb5'.trans (hb6.mono hb5'.size)
    have hS3 := HS.out _ hb6'
    refine hK.out _ _ hS3 ?_
    clear hK K
    (try simp only [List.getElem_toArray, List.getElem_cons_succ, List.getElem_cons_zero, Act.put, List.setIfInBounds_toArray, List.set_cons_zero, List.set_cons_succ])
    clear hS2
    refine wpAnyH_take (i := 4) (v := ?vb4) rfl (by kernel_rfl) (by kernel_rfl) (by kernel_rfl) (fun _ _ _ h => h) (Or.inl ⟨by kernel_rfl, ?hyb4⟩) hS3 ?restb4
    case hyb4 =>
      intro w hSw
      obtain ⟨hSa, hSb, hSc⟩ := hSw
      go_simp
      first | done | with_reducible rfl
    (try simp only [List.getElem_toArray, List.getElem_cons_succ, List.getElem_cons_zero, Act.put, List.setIfInBounds_toArray, List.set_cons_zero, List.set_cons_succ])
    refine wpAnyH_take (i := 5) (v := ?vb5) rfl (by kernel_rfl) (by kernel_rfl) (by kernel_rfl) (fun _ _ _ h => h) (Or.inl ⟨by kernel_rfl, ?hyb5⟩) hS3 ?restb5
    case hyb5 =>
      intro w hSw
      obtain ⟨hSa, hSb, hSc⟩ := hSw
      go_simp
      first | done | with_reducible rfl
    (try simp only [List.getElem_toArray, List.getElem_cons_succ, List.getElem_cons_zero, Act.put, List.setIfInBounds_toArray, List.set_cons_zero, List.set_cons_succ])
    refine wpAnyH_take (i := 6) (v := ?vb6) rfl (by kernel_rfl) (by kernel_rfl) (by kernel_rfl) (fun _ _ _ h => h) (Or.inl ⟨by kernel_rfl, ?hyb6⟩) hS3 ?restb6
    case hyb6 =>
      intro w hSw
      obtain ⟨hSa, hSb, hSc⟩ := hSw
      go_simp
      first | done | with_reducible rfl
    (try simp only [List.getElem_toArray, List.getElem_cons_succ, List.getElem_cons_zero, Act.put, List.setIfInBounds_toArray, List.set_cons_zero, List.set_cons_succ])
    refine wpAnyH_take (i := 7) (v := ?vb7) rfl (by kernel_rfl) (by kernel_rfl) (by kernel_rfl) (fun _ _ _ h => h) (Or.inl ⟨by kernel_rfl, ?hyb7⟩) hS3 ?restb7
    case hyb7 =>
      intro w hSw
      obtain ⟨hSa, hSb, hSc⟩ := hSw
      go_simp
      first | done | with_reducible rfl
    (try simp only [List.getElem_toArray, List.getElem_cons_succ, List.getElem_cons_zero, Act.put, List.setIfInBounds_toArray, List.set_cons_zero, List.set_cons_succ])
    refine wpAnyH_take (i := 8) (v := ?vb8) rfl (by kernel_rfl) (by kernel_rfl) (by kernel_rfl) (fun _ _ _ h => h) (Or.inl ⟨by kernel_rfl, ?hyb8⟩) hS3 ?restb8
    case hyb8 =>
      intro w hSw
      obtain ⟨hSa, hSb, hSc⟩ := hSw
      go_simp
      first | done | with_reducible rfl
    (try simp only [List.getElem_toArray, List.getElem_cons_succ, List.getElem_cons_zero, Act.put, List.setIfInBounds_toArray, List.set_cons_zero, List.set_cons_succ])
    refine wpAnyH_take (i := 9) (v := ?vb9) rfl (by kernel_rfl) (by kernel_rfl) (by kernel_rfl) (fun _ _ _ h => h) (Or.inl ⟨by kernel_rfl, ?hyb9⟩) hS3 ?restb9
    case hyb9 =>
      intro w hSw
      obtain ⟨hSa, hSb, hSc⟩ := hSw
      go_simp
      first | done | with_reducible rfl
    (try simp only [List.getElem_toArray, List.getElem_cons_succ, List.getElem_cons_zero, Act.put, List.setIfInBounds_toArray, List.set_cons_zero, List.set_cons_succ])
    refine wpAnyH_take (i := 10) (v := ?vb10) rfl (by kernel_rfl) (by kernel_rfl) (by kernel_rfl) (fun _ _ _ h => h) (Or.inl ⟨by kernel_rfl, ?hyb10⟩) hS3 ?restb10
    case hyb10 =>
      intro w hSw
      obtain ⟨hSa, hSb, hSc⟩ := hSw
      go_simp
      first | done | with_reducible rfl
    (try simp only [List.getElem_toArray, List.getElem_cons_succ, List.getElem_cons_zero, Act.put, List.setIfInBounds_toArray, List.set_cons_zero, List.set_cons_succ])
    refine wpAnyH_take (i := 11) (v := ?vb11) rfl (by kernel_rfl) (by kernel_rfl) (by kernel_rfl) (fun _ _ _ h => h) (Or.inl ⟨by kernel_rfl, ?hyb11⟩) hS3 ?restb11
    case hyb11 =>
      intro w hSw
      obtain ⟨hSa, hSb, hSc⟩ := hSw
      go_simp
      first | done | with_reducible rfl
    (try simp only [List.getElem_toArray, List.getElem_cons_succ, List.getElem_cons_zero, Act.put, List.setIfInBounds_toArray, List.set_cons_zero, List.set_cons_succ])
    refine wpAnyH_take (i := 12) (v := ?vb12) rfl (by kernel_rfl) (by kernel_rfl) (by kernel_rfl) (fun _ _ _ h => h) (Or.inl ⟨by kernel_rfl, ?hyb12⟩) hS3 ?restb12
    case hyb12 =>
      intro w hSw
      obtain ⟨hSa, hSb, hSc⟩ := hSw
      go_simp
      first | done | with_reducible rfl
    (try simp only [List.getElem_toArray, List.getElem_cons_succ, List.getElem_cons_zero, Act.put, List.setIfInBounds_toArray, List.set_cons_zero, List.set_cons_succ])
    refine wpAnyH_take (i := 13) (v := ?vb13) rfl (by kernel_rfl) (by kernel_rfl) (by kernel_rfl) (fun _ _ _ h => h) (Or.inl ⟨by kernel_rfl, ?hyb13⟩) hS3 ?restb13
    case hyb13 =>
      intro w hSw
      obtain ⟨hSa, hSb, hSc⟩ := hSw
      go_simp
      first | done | with_reducible rfl
    (try simp only [List.getElem_toArray, List.getElem_cons_succ, List.getElem_cons_zero, Act.put, List.setIfInBounds_toArray, List.set_cons_zero, List.set_cons_succ])
    refine wpAnyH_take (i := 14) (v := ?vb14) rfl (by kernel_rfl) (by kernel_rfl) (by kernel_rfl) (fun _ _ _ h => h) (Or.inl ⟨by kernel_rfl, ?hyb14⟩) hS3 ?restb14
    case hyb14 =>
      intro w hSw
      obtain ⟨hSa, hSb, hSc⟩ := hSw
      go_simp
      first | done | with_reducible rfl
    (try simp only [List.getElem_toArray, List.getElem_cons_succ, List.getElem_cons_zero, Act.put, List.setIfInBounds_toArray, List.set_cons_zero, List.set_cons_succ])
    refine wpAnyH_take (i := 15) (v := ?vb15) rfl (by kernel_rfl) (by kernel_rfl) (by kernel_rfl) (fun _ _ _ h => h) (Or.inl ⟨by kernel_rfl, ?hyb15⟩) hS3 ?restb15
    case hyb15 =>
      intro w hSw
      obtain ⟨hSa, hSb, hSc⟩ := hSw
      go_simp
      first | done | with_reducible rfl
    (try simp only [List.getElem_toArray, List.getElem_cons_succ, List.getElem_cons_zero, Act.put, List.setIfInBounds_toArray, List.set_cons_zero, List.set_cons_succ])
    refine wpAnyH_take (i := 16) (v := ?vb16) rfl (by kernel_rfl) (by kernel_rfl) (by kernel_rfl) (fun _ _ _ h => h) (Or.inl ⟨by kernel_rfl, ?hyb16⟩) hS3 ?restb16
    case hyb16 =>
      intro w hSw
      obtain ⟨hSa, hSb, hSc⟩ := hSw
      go_simp
      first | done | with_reducible rfl
    (try simp only [List.getElem_toArray, List.getElem_cons_succ, List.getElem_cons_zero, Act.put, List.setIfInBounds_toArray, List.set_cons_zero, List.set_cons_succ])
    refine wpAnyH_take (i := 17) (v := ?vb17) rfl (by kernel_rfl) (by kernel_rfl) (by kernel_rfl) (fun _ _ _ h => h) (Or.inl ⟨by kernel_rfl, ?hyb17⟩) hS3 ?restb17
    case hyb17 =>
      intro w hSw
      obtain ⟨hSa, hSb, hSc⟩ := hSw
      go_simp
      first | done | with_reducible rfl
    (try simp only [List.getElem_toArray, List.getElem_cons_succ, List.getElem_cons_zero, Act.put, List.setIfInBounds_toArray, List.set_cons_zero, List.set_cons_succ])
    refine wpAnyH_done (by kernel_rfl) ?_ _
    clear hS1 hS3
    go_wp2_with fail
    go_ret
    exact ⟨rfl, HB4.out.trans (hb6'.mono HB4.out.size)⟩
end Go.Proofs.Ytnkpaockginooaa
