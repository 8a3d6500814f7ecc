/- Chapter 25: the document's bytes of a record, of a log. -/
import Derived.Test.YtjcklmhkdpbbdaaDoorMeasC
import Derived.Test.YtjcklmhkdpbbdaaDoorRefW
import Derived.Test.YtjcklmhkdpbbdaaDoorAppR
import Derived.Test.YtjcklmhkdpbbdaaDoorUntil
namespace Go.Proofs.YtjcklmhkdpbbdaaDoor
set_option linter.unusedVariables false
open Go.RowKit Go.Sort

theorem snoc_flat {α β : Type} (a : List β) (l : List α) (f : α → List β) (r : α) : a ++ (l ++ [r]).flatMap f = (a ++ l.flatMap f) ++ f r := by simp
theorem u64_bd (x : Int) : 0 ≤ IntKind.u64.wrap x ∧ IntKind.u64.wrap x < 18446744073709551616 := by
  rw [IntKind.wrap_u64]
  omega
theorem bytes4_wrap (x : Int) : bytesN 4 false (IntKind.u64.wrap x) = bytesN 4 false (cut32 x) := by
  rw [IntKind.wrap_u64]
  unfold bytesN
  refine List.map_congr_left fun i hi => ?_
  have hi := List.mem_range.1 hi
  simp only [Bool.false_eq_true, if_false]
  unfold byteN cut32
  rcases (by omega : i = 0 ∨ i = 1 ∨ i = 2 ∨ i = 3) with rfl | rfl | rfl | rfl
  all_goals
    simp only [Nat.reduceSub, Nat.reduceMul, Int.reducePow, Nat.mul_zero, Int.pow_zero]
    omega
set_option maxRecDepth 100000 in
set_option maxHeartbeats 4000000 in
theorem refRec_any (r : Rc) (h : RcOk r) (w : World) :
    Calls Tryd.prog 36 #[.agg r.cs.toArray] w fun e w' => ∃ A' c', e = .returned (.slice A' 44 c') ∧ w'.ownsRow w.heap.size 5 1 (.slice A' 44 c') 44 (r.bytes.flatMap encB) ∧ Below w.heap.size w w' := by
  have hsz : r.cs.toArray.size = 35 := by simp [Rc.len h]
  have HB0 := Lib.hid (Blk.new w 61 r.cs.toArray)
  have HbX := Lib.hid (bal (Below.refl w.heap.size w) (.cells r.cs.toArray 61))
  obtain ⟨c0, c1, c2⟩ := three HB0.out
  have k0 := u64_bd r.kind
  have k1 := u64_bd r.idx
  have k2 := u64_bd r.err
  have HE := Lib.hid (show ((([] ++ bytesN 4 false (IntKind.u64.wrap r.kind)) ++ bytesN 4 false (IntKind.u64.wrap r.idx)) ++ bytesN 4 false (IntKind.u64.wrap r.err)) ++ r.dig = r.bytes by
    rw [bytes4_wrap, bytes4_wrap, bytes4_wrap]; simp [Rc.bytes, Rc.head])
  have HO := Lib.hid h
  clear h
  go_enter Tryd.func36, Tryd.ntmps36
  go_upto_region 2 with (go_at_call 55; refine (refPut_any none 0 0 4 [] (IntKind.u64.wrap r.kind) false _ rfl (by decide) (by decide) k0.1 k0.2 Rd.nil).mono ?_; rintro e w1 ⟨A1, x1, rfl, hown1, hb1⟩)
  have HB1 := Lib.hid (HB0.out.kept hb1)
  have hbx1 := HbX.out.trans (hb1.mono HbX.out.size)
  obtain ⟨d0, d1, d2⟩ := three HB1.out
  go_upto_region 3 with (go_at_call 55; refine (refPut_any A1 _ x1 4 _ (IntKind.u64.wrap r.idx) false _ (by simp [bytesN_len]) (by decide) (by decide) k1.1 k1.2 (Rd.of_own hown1)).mono ?_; rintro e w2 ⟨A2, x2, rfl, hown2, hb2⟩)
  have HB2 := HB1.out.kept hb2
  have hbx2 := hbx1.trans (hb2.mono hbx1.size)
  obtain ⟨e0, e1, e2⟩ := three HB2.drew
  have hD := HB2.drew
  have hbx2' := hbx2.drew
  have hown2' := Rd.drew (Rd.of_own hown2)
  clear hown1 c0 c1 c2 d0 d1 d2
  go_region_law (first
    | (refine step_app u8_elem (by rfl) (.tmp 17) (.tmp 19) (by rfl) _ hown3 (by rfl) (by rfl) (digRd HO.out HB3) (one_b _) (by decide) (by decide) hb3.size ?_; intro A4 c4 w4 hown4 hb4 hgr)
    | (go_simp; go_at_call 55; refine (refPut_any A2 _ x2 4 _ (IntKind.u64.wrap r.err) false _ (by simp [bytesN_len]) (by decide) (by decide) k2.1 k2.2 hown2').mono ?_; rintro e w3 ⟨A3, x3, rfl, hown3, hb3⟩; have HB3 := hD.kept hb3))
  all_goals
    go_wp2
    go_ret
    refine ⟨A4, c4, rfl, ?_, (hbx2'.trans (hb3.mono hbx2'.size)).trans (hb4.mono (by have := hbx2'.size; simpa using this))⟩
    rw [← List.flatMap_append, HE.out] at hown4
    exact own_le_base hown4 hbx2'.size

set_option maxRecDepth 100000 in
set_option maxHeartbeats 4000000 in
theorem refPutLog_any (A : Option Addr) (n c : Nat) (l : List Rc) (w : World) (hl : l.length = n) (hn : n ≤ 100000) (h0 : RcsOk l) (hr : Rd w w.heap.size 35 A n (l.flatMap Rc.cs)) :
    Calls Tryd.prog 48 #[.slice A n c] w (LputRes l n w) := by
  have HL := Lib.hid hl
  have HR := Lib.hid hr
  have H0 := Lib.hid h0
  clear hl hr h0
  by_cases h64 : n ≤ 64
  · have u0 : IntKind.u64.wrap (n : Int) = (n : Int) := by rw [IntKind.wrap_u64]; omega
    have HLb : ∀ k, k ≤ n → Hid ((bytesN 4 false (n : Int) ++ (l.take k).flatMap Rc.bytes).length = 4 + 44 * k) := fun k hk => Lib.hid (by
      have h2 : RcsOk (l.take k) := fun r hr => H0.out r (List.mem_of_mem_take hr)
      have := logBytes_len h2
      unfold logBytes at this
      rw [List.length_append, bytesN_len, List.length_take, HL.out, Nat.min_eq_left hk] at this
      rw [List.length_append, bytesN_len]
      omega)
    go_enter Tryd.func48, Tryd.ntmps48
    go_wp2_with (go_at_call 55; refine (refPut_any none 0 0 4 [] (n : Int) false _ rfl (by decide) (by decide) (by omega) (by omega) Rd.nil).mono ?_; rintro e w1 ⟨A1, x1, rfl, hown1, hb1⟩)
    go_loopw [4, 16] (fun v i wr => ∃ k : Nat, k ≤ n ∧ i = .int .i64 k ∧ Hid ((l.take k).all Rc.may = true) ∧ ∃ (A' : Option Addr) (c' : Nat), v = .slice A' (4 + 44 * k) c' ∧ wr.ownsRow w.heap.size 5 1 (.slice A' (4 + 44 * k) c') (4 + 44 * k) ((bytesN 4 false (n : Int) ++ (l.take k).flatMap Rc.bytes).flatMap encB) ∧ Below w.heap.size w wr) (fun _ i _ => n - (intOf i).toNat)
    case atStart => exact ⟨0, by omega, rfl, Lib.hid rfl, A1, x1, rfl, by simpa using hown1, hb1⟩
    case round =>
      obtain ⟨k, hk, rfl, hall, A', c', rfl, hown, hb⟩ := hrel
      clear hown1 hb1
      by_cases hlt : k < n
      · have hlt' : k < l.length := by rw [HL.out]; exact hlt
        obtain ⟨b, o, rfl, hbb, hc⟩ := (HR.out.below hb).range (fun r hr => Rc.len (H0.out r hr)) hlt' HL.out
        have HRg := Lib.hid hc
        have HT := Lib.hid (List.take_succ_eq_append_getElem hlt')
        have HE := Lib.hid (List.getElem_mem hlt')
        have hok := H0.out _ (List.getElem_mem hlt')
        have hB := hb.size
        clear hc
        generalize l[k] = r at *
        have HLn := Lib.hid (Rc.len hok)
        have hsz : r.cs.toArray.size = 35 := by simp [Rc.len hok]
        have hfl : r.cs.length = 35 := Rc.len hok
        obtain ⟨Z, hZ, hz0, hZi⟩ := zero_rec
        have hst := store_rec hZ hZi HLn.out (Rc.one r)
        clear hZi
        have HBr := Lib.hid (Blk.new wr 61 r.cs.toArray)
        have HRb : Hid ((wr.alloc (.cells r.cs.toArray 61)).rangeAt wr.heap.size 0 r.cs) := Lib.hid fun j v hv => by
          rw [Nat.zero_add, HBr.out.cell j]; simpa using hv
        obtain ⟨c0, c1, c2⟩ := three HBr.out
        have HbA := Lib.hid (bal' hb (.cells r.cs.toArray 61) hB)
        have HoA := Lib.hid (hown.alloc (.cells r.cs.toArray 61))
        have hmy : r.may = decide (1 ≤ r.kind ∧ r.kind ≤ 3 ∧ 0 ≤ r.idx ∧ r.idx < 16 ∧ 0 ≤ r.err ∧ r.err ≤ 1000) := rfl
        have hcs : r.kind < 1 ∨ (¬ r.kind < 1 ∧ 3 < r.kind) ∨ (¬ r.kind < 1 ∧ ¬ 3 < r.kind ∧ r.idx < 0) ∨ (¬ r.kind < 1 ∧ ¬ 3 < r.kind ∧ ¬ r.idx < 0 ∧ 15 < r.idx) ∨ (¬ r.kind < 1 ∧ ¬ 3 < r.kind ∧ ¬ r.idx < 0 ∧ ¬ 15 < r.idx ∧ r.err < 0) ∨ (¬ r.kind < 1 ∧ ¬ 3 < r.kind ∧ ¬ r.idx < 0 ∧ ¬ 15 < r.idx ∧ ¬ r.err < 0 ∧ 1000 < r.err) ∨ (¬ r.kind < 1 ∧ ¬ 3 < r.kind ∧ ¬ r.idx < 0 ∧ ¬ 15 < r.idx ∧ ¬ r.err < 0 ∧ ¬ 1000 < r.err) := by omega
        rcases hcs with q1 | ⟨q1, q2⟩ | ⟨q1, q2, q3⟩ | ⟨q1, q2, q3, q4⟩ | ⟨q1, q2, q3, q4, q5⟩ | ⟨q1, q2, q3, q4, q5, q6⟩ | ⟨q1, q2, q3, q4, q5, q6⟩
        case inr.inr.inr.inr.inr.inr =>
          have HMy := Lib.hid (show r.may = true by rw [hmy, decide_eq_true (by omega)])
          clear hmy
          have HM := Lib.hid (fun W => refRec_any r hok W)
          have HMx := Lib.hid (show 4 + 44 * k + 44 ≤ maxLen by unfold maxLen; omega)
          have HMz := Lib.hid (show (4 + 44 * k + 44) * 1 ≤ 140737488355328 by omega)
          have e4 : 4 + 44 * k + 44 = 4 + 44 * (k + 1) := by omega
          go_wp2_with (first
            | (refine wpList_load_mid rfl 61 (.tmp 18) rfl b (o + k * 35) (by rfl) r.cs _ HRg.out Tryd.underlying61 rfl (by rw [HLn.out]; kernel_rfl) ?_)
            | (refine wpList_load_mid rfl 61 (.tmp 6) rfl wr.heap.size 0 (by rfl) r.cs _ HRb.out Tryd.underlying61 rfl (by rw [HLn.out]; kernel_rfl) ?_)
            | (go_at_call 36; refine (HM.out _).mono ?_; rintro e w3 ⟨A3, x3, rfl, hown3, hb3⟩)
            | (at_builtin; refine wpList_app u8_elem rfl (.tmp 48) (.tmp 50) rfl w.heap.size (own_kept HoA.out hb3) rfl rfl (Rd.of_own hown3) (one_b _) HMx.out HMz.out (Nat.le_trans HbA.out.size hb3.size) ?_; intro v5 w5 hown5 hb5 hgr; obtain ⟨A5, c5, rfl, _, _⟩ := own_slice hown5))
          go_roundw
          case rel =>
            rw [e4] at hown5
            refine ⟨k + 1, by omega, by go_num, Lib.hid (by rw [HT.out, List.all_append, hall.out]; simp [HMy.out]), A5, c5, rfl, ?_, (HbA.out.trans (hb3.mono HbA.out.size)).trans hb5⟩
            rw [HT.out, snoc_flat, List.flatMap_append]
            exact hown5
          case measure => simp [intOf]; omega
        all_goals
          have HNo : Hid (lputOk l = false) := Lib.hid (by
            have : l.all Rc.may = false := by rw [List.all_eq_false]; exact ⟨r, HE.out, by rw [hmy, decide_eq_false (by omega)]; decide⟩
            simp [lputOk, this])
          clear hmy
          go_wp2_with (refine wpList_load_mid rfl 61 (.tmp 18) rfl b (o + k * 35) (by rfl) r.cs _ HRg.out Tryd.underlying61 rfl (by rw [HLn.out]; kernel_rfl) ?_)
          go_ret2
          exact ⟨.inr ⟨HNo.out, rfl⟩, HbA.out⟩
      · obtain rfl : k = n := by omega
        rw [List.take_of_length_le (by rw [HL.out]; exact Nat.le_refl _)] at hown
        have HYes : Hid (lputOk l = true) := Lib.hid (by
          have h1 := hall.out
          rw [List.take_of_length_le (by rw [HL.out]; exact Nat.le_refl _)] at h1
          unfold lputOk; rw [h1, HL.out, decide_eq_true h64]; rfl)
        go_wp2
        go_ret2
        refine ⟨.inl ⟨HYes.out, A', c', rfl, ?_⟩, hb⟩
        unfold logBytes
        rw [HL.out]
        exact hown
  · have HNo := Lib.hid (show lputOk l = false by unfold lputOk; rw [HL.out, decide_eq_false h64]; rfl)
    go_enter Tryd.func48, Tryd.ntmps48
    go_wp2
    go_ret2
    exact ⟨.inr ⟨HNo.out, rfl⟩, Below.refl _ _⟩
end Go.Proofs.YtjcklmhkdpbbdaaDoor
