/- Chapter 3, the law ShaSums: the sum of any parts. -/
import Derived.Test.YtjcklmhkdpbbdaaDoorShaN
import Derived.Test.YtjcklmhkdpbbdaaDoorNest3
namespace Go.Proofs.YtjcklmhkdpbbdaaDoor
set_option linter.unusedVariables false
set_option linter.unusedSimpArgs false
open Go.RowKit Go.Sort Go.ChangeShapes

set_option maxRecDepth 100000 in
set_option maxHeartbeats 2000000 in
theorem refCat_any (A : Option Addr) (n c : Nat) (ps : List Pt) (w : World) (hl : ps.length = n) (hn : n ≤ 1000000) (hr : Rd w w.heap.size 1 A n (ps.flatMap encPt)) (hp : ∀ p ∈ ps, PtOk w w.heap.size p) {N : Nat} (hN : (catN ps).length = N) (hs : N ≤ 100000000) :
    Calls Tryd.prog 18 #[.slice A n c] w fun e w' => ∃ A' c', e = .returned (.slice A' N c') ∧ w'.ownsRow w.heap.size 5 1 (.slice A' N c') N ((catN ps).flatMap encB) ∧ Below w.heap.size w w' := by
  have HL := Lib.hid hl
  have HR := Lib.hid hr
  have HP := Lib.hid hp
  have HLe := Lib.hid (fun k => hN ▸ catN_le ps k)
  have HF := Lib.hid (show catN (ps.take n) = catN ps by rw [List.take_of_length_le (by rw [hl]; exact Nat.le_refl _)])
  have HNN := Lib.hid hN
  clear hl hr hp hN
  go_enter Tryd.func18, Tryd.ntmps18
  go_wp2
  go_loopw [3, 8] (fun v i wr => ∃ j : Nat, j ≤ n ∧ i = .int .i64 j ∧ ∃ A' c' m, v = .slice A' m c' ∧ m = (catN (ps.take j)).length ∧ wr.ownsRow w.heap.size 5 1 (.slice A' m c') m ((catN (ps.take j)).flatMap encB) ∧ Below w.heap.size w wr) (fun _ i _ => n - (intOf i).toNat)
  case atStart => exact ⟨0, by omega, rfl, none, 0, 0, rfl, rfl, World.ownsRow_nil _ _ _ _, Below.refl _ _⟩
  case round =>
    obtain ⟨j, hj, rfl, A', c', m, rfl, hm, ho, hb⟩ := hrel
    by_cases hlt : j < n
    · have hlt' : j < ps.length := by rw [HL.out]; exact hlt
      obtain ⟨b, o, rfl, hbb, hc⟩ := (HR.out.below hb).row (fun _ => rfl) hlt' HL.out
      have d := hc 0 (by omega)
      simp only [encPt, Nat.add_zero, Nat.mul_one, List.getElem?_cons_zero] at d
      have hk1 := HLe.out (j + 1)
      obtain ⟨hp, hpr⟩ := HP.out _ (List.getElem_mem hlt')
      have hT := catN_take ps j hlt'
      rw [hT, List.length_append, hp, ← hm] at hk1
      have HT := Lib.hid hT
      have HTl := Lib.hid (show (catN (ps.take (j + 1))).length = m + (ps[j]).n by rw [hT, List.length_append, hp, hm])
      have HPr := Lib.hid (hpr.below hb)
      have hz := hb.size
      clear hc hp hT hpr hm
      generalize ps[j] = p at *
      obtain ⟨pA, pn, pc, pb⟩ := p
      simp only at *
      have HMx := Lib.hid (show m + pn ≤ maxLen by unfold maxLen; omega)
      have HMy := Lib.hid (show (m + pn) * 1 ≤ 140737488355328 by omega)
      go_wp2_with (at_builtin; refine wpList_app u8_elem rfl (.tmp 12) (.tmp 13) rfl w.heap.size ho rfl rfl HPr.out (one_b pb) HMx.out HMy.out hz ?_; intro v5 w5 hown5 hb5 _; obtain ⟨A5, c5, rfl, _, _⟩ := own_slice hown5)
      go_roundw
      case rel => exact ⟨j + 1, by omega, by go_num, A5, c5, m + pn, rfl, HTl.out.symm, by rw [HT.out, List.flatMap_append]; exact hown5, hb.trans hb5⟩
      case measure => simp [intOf]; omega
    · obtain rfl : j = n := by omega
      rw [HF.out, HNN.out] at hm
      subst hm
      rw [HF.out] at ho
      go_wp2
      go_ret
      exact ⟨A', c', rfl, ho, hb⟩
/-- A []byte among the parts. -/
theorem sh_part {w : World} {B : Nat} (m : Nat) (cs : List Value) (h : Sh Tryd.prog w B m 29 cs) : ∃ p : Pt, cs = encPt p ∧ (PtOk w B p ∧ PtGood p ∧ p.n ≤ 9223372036854775807) := by
  obtain ⟨A, n, c, l, rfl, hnc, hcm, hl, ho, hr⟩ := sh_list (enc := encB) (ok := fun x => 0 ≤ x ∧ x < 256) (k := 1) Tryd.underlying29 (by kernel_rfl) (by decide) (fun m cs h => by
    cases m with
    | zero => exact h.elim
    | succ m =>
      unfold Sh at h
      rw [Tryd.underlying5] at h
      obtain ⟨x, rfl, hw⟩ := h
      exact ⟨x, rfl, wf_u8 hw⟩) h
  exact ⟨⟨A, n, c, l⟩, rfl, ⟨hl, hr⟩, ⟨ho, hnc⟩, Nat.le_trans hnc (Nat.le_trans hcm (by decide))⟩
def shortB (ps : List Pt) : Bool := decide (ps.length ≤ 20) && ps.all fun p => decide (p.n ≤ 300)
set_option maxHeartbeats 1000000 in
theorem short_any (A : Option Addr) (n c : Nat) (ps : List Pt) (w : World) (hl : ps.length = n) (hn : n ≤ 9223372036854775807) (hr : Rd w w.heap.size 1 A n (ps.flatMap encPt)) (hb : ∀ p ∈ ps, p.n ≤ 9223372036854775807) :
    Calls Tryd.prog 15 #[.slice A n c] w fun e w' => e = .returned (.bool (shortB ps)) ∧ w = w' := by
  have HL := Lib.hid hl
  have HR := Lib.hid hr
  have HB := Lib.hid hb
  clear hl hr hb
  by_cases h20 : n ≤ 20
  · go_enter Tryd.func15, Tryd.ntmps15
    go_wp2
    go_loop [10] (fun i => ∃ k : Nat, k ≤ n ∧ i = .int .i64 k ∧ Hid ((ps.take k).all (fun p => decide (p.n ≤ 300)) = true)) (fun i => n - (intOf i).toNat)
    case atStart => exact ⟨0, by omega, rfl, Lib.hid rfl⟩
    case round =>
      obtain ⟨k, hk, rfl, HA⟩ := hrel
      by_cases hlt : k < n
      · have hlt' : k < ps.length := by rw [HL.out]; exact hlt
        obtain ⟨b, o, rfl, hbb, hc⟩ := HR.out.row (fun _ => rfl) hlt' HL.out
        have d := hc 0 (by omega)
        simp only [encPt, Nat.add_zero, Nat.mul_one, List.getElem?_cons_zero] at d
        have HT := Lib.hid (List.take_succ_eq_append_getElem hlt')
        have HM := Lib.hid (List.getElem_mem hlt')
        have hpb := HB.out _ (List.getElem_mem hlt')
        clear hc
        generalize ps[k] = p at *
        by_cases h3 : p.n ≤ 300
        · have h3I : ¬ (300 : Int) < (p.n : Int) := by omega
          go_wp2
          go_round
          case rel => exact ⟨k + 1, by omega, by go_num, Lib.hid (by rw [HT.out, List.all_append, HA.out]; simp [h3])⟩
          case measure => simp [intOf]; omega
        · have h3I : (300 : Int) < (p.n : Int) := by omega
          have HNo := Lib.hid (show shortB ps = false by
            have : ps.all (fun p => decide (p.n ≤ 300)) = false := by rw [List.all_eq_false]; exact ⟨p, HM.out, by simp [h3]⟩
            unfold shortB; rw [this, Bool.and_false])
          go_wp2
          go_ret
          exact ⟨by rw [HNo.out]; rfl, rfl⟩
      · obtain rfl : k = n := by omega
        have HYes := Lib.hid (show shortB ps = true by
          have := HA.out
          rw [List.take_of_length_le (by rw [HL.out]; exact Nat.le_refl _)] at this
          unfold shortB; rw [this, HL.out, decide_eq_true h20]; rfl)
        go_wp2
        go_ret
        exact ⟨by rw [HYes.out]; rfl, rfl⟩
  · have HNo := Lib.hid (show shortB ps = false by unfold shortB; rw [HL.out, decide_eq_false h20]; rfl)
    have h20I : (20 : Int) < (n : Int) := by omega
    go_enter Tryd.func15, Tryd.ntmps15
    go_wp2
    go_ret
    exact ⟨by rw [HNo.out]; rfl, rfl⟩
theorem flat_node : flatOf Tryd.prog 5 26 = some (List.replicate 32 (.int .u8)) := by kernel_rfl
theorem flatk_b : ∀ (n : Nat) (l : List Int), l.length = n → FlatK (List.replicate n (.int .u8)) (l.flatMap encB)
  | 0, [], _ => trivial
  | n + 1, x :: l, h => ⟨rfl, flatk_b n l (by simpa using h)⟩
theorem eq_node {l : List Int} (hl : l.length = 32) (w : World) : (binOp .eql 26 (.agg (l.flatMap encB).toArray) (.agg (l.flatMap encB).toArray)).run Tryd.prog w = .ok (.bool true) w := by
  have := eql_flat w flat_node (by kernel_rfl) (by decide) (by kernel_rfl) (flatk_b 32 l hl) (flatk_b 32 l hl)
  rw [eqLeaves_self (flatk_b 32 l hl)] at this
  exact this
theorem short_len {ps : List Pt} {w : World} {B : Nat} (h : shortB ps = true) (hp : ∀ p ∈ ps, PtOk w B p) : ps.length ≤ 20 ∧ (catN ps).length ≤ 6000 := by
  unfold shortB at h
  simp only [Bool.and_eq_true, decide_eq_true_eq] at h
  refine ⟨h.1, ?_⟩
  have key : ∀ l : List Pt, (∀ p ∈ l, p.bs.length ≤ 300) → (catN l).length ≤ 300 * l.length := by
    intro l
    induction l with
    | nil => intro _; simp [catN]
    | cons a l ih =>
      intro hh
      have h1 := hh a (List.mem_cons_self ..)
      have h2 := ih (fun p hp => hh p (List.mem_cons_of_mem _ hp))
      simp only [catN, List.flatMap_cons, List.length_append, List.length_cons] at h2 ⊢
      omega
  have := key ps (fun p hq => by
    have := List.all_eq_true.1 h.2 p hq
    rw [(hp p hq).1]; exact of_decide_eq_true this)
  have := h.1
  omega
set_option maxRecDepth 100000 in
set_option maxHeartbeats 2000000 in
theorem shaSums_any (A : Option Addr) (n c : Nat) (ps : List Pt) (w : World) (hl : ps.length = n) (hn : n ≤ 9223372036854775807) (hr : Rd w w.heap.size 1 A n (ps.flatMap encPt)) (hp : ∀ p ∈ ps, PtOk w w.heap.size p) (hq : ∀ p ∈ ps, PtGood p) (hb : ∀ p ∈ ps, p.n ≤ 9223372036854775807) (hT : Tabs w) :
    Calls Tryd.prog 3 #[.slice A n c] w fun e w' => e = .returned (.bool true) ∧ Below w.heap.size w w' := by
  have HA := Lib.hid (awake03_any w hT)
  have HS := Lib.hid (fun W (h : Below w.heap.size w W) => short_any A n c ps W hl hn ((hr.below h).more h.size) hb)
  have HT := Lib.hid hT
  cases hs : shortB ps with
  | false =>
    rw [hs] at HS
    clear hl hr hp hq hb hT hs
    go_enter Tryd.func3, Tryd.ntmps3
    go_upto_region 3 with (go_at_call 14; refine HA.out.mono ?_; rintro e w1 ⟨rfl, hb1⟩)
    go_wp2_with (go_at_call 15; refine (HS.out _ hb1).mono ?_; rintro e w2 ⟨rfl, rfl⟩)
    go_ret
    exact ⟨rfl, hb1⟩
  | true =>
    rw [hs] at HS
    obtain ⟨h20, h6⟩ := short_len hs hp
    have H1 := Lib.hid (fun W (h : Below w.heap.size w W) => shaSum_any A n c ps W hl (by omega) ((hr.below h).more h.size) (fun p hx => ⟨(hp p hx).1, ((hp p hx).2.below h).more h.size⟩) hq (by omega) (hT.kept h))
    have H2 := Lib.hid (fun W (h : Below w.heap.size w W) => refCat_any A n c ps W hl (by omega) ((hr.below h).more h.size) (fun p hx => ⟨(hp p hx).1, ((hp p hx).2.below h).more h.size⟩) rfl (by omega))
    have hco : BytesOk (catN ps) := fun x hx => by
      obtain ⟨p, hp1, hp2⟩ := List.mem_flatMap.1 hx
      exact (hq p hp1).ok x hp2
    have H3 := Lib.hid (fun W A c hr => refSum_any A (catN ps).length c (catN ps) W rfl hco (by omega) hr)
    have heq := fun W => eq_node (outB_len (sumV vI (catN ps))) W
    rw [show outB (sumV vI (catN ps)) = sumB (catN ps) from rfl] at heq
    generalize sumB (catN ps) = ob at *
    clear hl hr hp hq hb hT hs h20 h6 hco
    go_enter Tryd.func3, Tryd.ntmps3
    go_upto_region 3 with (go_at_call 14; refine HA.out.mono ?_; rintro e w1 ⟨rfl, hb1⟩)
    go_wp2_with (first
      | (go_at_call 15; refine (HS.out _ hb1).mono ?_; rintro e w2 ⟨rfl, rfl⟩)
      | (go_at_call 16; refine (H1.out _ hb1).mono ?_; rintro e w3 ⟨rfl, hb3⟩; have hbx3 := hb1.trans (hb3.mono hb1.size))
      | (go_at_call 18; refine (H2.out _ hbx3).mono ?_; rintro e w4 ⟨A4, c4, rfl, hown4, hb4⟩; have hbx4 := hbx3.trans (hb4.mono hbx3.size))
      | (go_at_call 17; refine (H3.out _ A4 c4 (Rd.of_own hown4)).mono ?_; rintro e w5 ⟨rfl, hb5⟩; have hbx5 := hbx4.trans (hb5.mono hbx4.size)))
    go_ret
    exact ⟨rfl, hbx5⟩
set_option maxRecDepth 100000 in
theorem shaSums_law : LawWalkL Tryd.prog 3 Tryd.f3 := by
  intro H enc W base args ds p hval hA hlt hfz hsz hT
  rw [Tryd.params3] at hA hval
  obtain ⟨v0, d0, rfl, rfl, h0⟩ := trodAll_one hA
  obtain ⟨A, n, c, m, rfl, hs⟩ := open_sh_slice Tryd.underlying22 (hval 0 22 v0 rfl rfl) h0 hlt
  obtain ⟨A', n', c', ps, he, hnc, hcm, hl, ho, hr⟩ := sh_list (enc := encPt) (k := 1) Tryd.underlying22 (by kernel_rfl) (by decide) sh_part hs
  simp only [List.cons.injEq, Value.slice.injEq, and_true] at he
  obtain ⟨rfl, rfl, rfl⟩ := he
  have hmx : maxLen ≤ 9223372036854775807 := by decide
  exact shaSums_any A n c ps W hl (by omega) hr (fun p hp => (ho p hp).1) (fun p hp => (ho p hp).2.1) (fun p hp => (ho p hp).2.2) hT
theorem shaSums_said : Rows.ShaSumsSaid :=
  OpenClaim.holds_of_wide 3 Tryd.f3 rfl rfl rfl rfl rfl rfl rfl ⟨rfl, rfl, rfl, rfl, rfl⟩ rfl rfl rfl rfl rfl (by kernel_rfl) Tryd.func3 (by kernel_rfl)
    (of_decide_eq_true (by kernel_rfl)) (by unfold Func.isWrapper; first | (rw [if_pos (by decide +kernel)]; kernel_rfl) | (rw [if_neg (by decide +kernel)]; exact ⟨rfl, rfl⟩))
    (fun os started H enc _ => law_liftedL (s := Rows.shaSumsSpec) started own laidOut (by kernel_rfl) Tryd.func3 rfl (n := 1) (by kernel_rfl) (fun ds h => by match ds, h with | [_], _ => rfl) (tb := 4) (by kernel_rfl) Tryd.underlying4 (by kernel_rfl)
      (laid_witness #[.slice none 0 0] (by kernel_rfl) (by kernel_rfl) (by kernel_rfl) (laidMetH_of_parts3 (fuel := 8) (laidMet_of_run' 8 (by kernel_rfl) (by kernel_rfl)) (by kernel_rfl) (by kernel_rfl)) (World.shaped_of_RefB (by kernel_rfl) (by kernel_rfl))) shaSums_law)
theorem shaSums_proved : Rows.ShaSumsCardSaid :=
  Claim7.holds_tied_plain_at .later [] _ _ _ _ shaSums_said (fun _ h => by cases h) (by kernel_rfl) (fun _ h => by cases h) shaSums_row_tie rfl ⟨rfl, rfl⟩ (by kernel_rfl) rfl
    (fun f fn hf hfn => by
      obtain rfl : f = 3 := Option.some.inj ((show Tryd.prog.funcNamed "portreeve/portreevelaw03.ShaSums" = some 3 by kernel_rfl).symm.trans hf) |>.symm
      obtain rfl : fn = Tryd.f3 := (Option.some.inj (Tryd.func3.symm.trans hfn)).symm
      refine ⟨by kernel_rfl, fun j t ht => ?_⟩
      have hall : (Tryd.f3.params.toList.all fun u => !Tryd.prog.wantsStandIn u) = true := by kernel_rfl
      have hm : t ∈ Tryd.f3.params.toList := by simpa using Array.mem_of_getElem? ht
      exact (show Tryd.prog.wantsStandIn t = false by simpa using List.all_eq_true.1 hall t hm))
    (by kernel_rfl)
end Go.Proofs.YtjcklmhkdpbbdaaDoor
