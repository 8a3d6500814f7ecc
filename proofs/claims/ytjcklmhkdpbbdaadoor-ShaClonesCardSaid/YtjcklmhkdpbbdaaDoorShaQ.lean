/- Chapter 3, the law ShaWrites: a hash that is written to in pieces. -/
import Derived.Test.YtjcklmhkdpbbdaaDoorShaP
namespace Go.Proofs.YtjcklmhkdpbbdaaDoor
set_option linter.unusedVariables false
set_option linter.unusedSimpArgs false
open Go.RowKit Go.Sort Go.ChangeShapes

theorem neq_node {l : List Int} (hl : l.length = 32) (w : World) : (binOp .neq 26 (.agg (l.flatMap encB).toArray) (.agg (l.flatMap encB).toArray)).run Tryd.prog w = .ok (.bool false) w := by
  have := neq_flat w flat_node (by kernel_rfl) (by decide) (by kernel_rfl) (flatk_b 32 l hl) (flatk_b 32 l hl)
  rw [eqLeaves_self (flatk_b 32 l hl)] at this
  exact this
theorem HashAt.under {w w' : World} {g B : Nat} {l : List Int} (h : HashAt w g l) (hb : Below B w w') (hB : g < B) : HashAt w' g l := h.same (hb.block g hB)
theorem HashAt.apart {w w' : World} {g k : Nat} {l : List Int} (h : HashAt w g l) (hb : Near (fun i => i = k) w w') (hk : g ≠ k) : HashAt w' g l := h.same (hb.block g h.lt hk)
theorem catN_ok {ps : List Pt} (hq : ∀ p ∈ ps, PtGood p) : BytesOk (catN ps) := fun x hx => by
  obtain ⟨p, hp1, hp2⟩ := List.mem_flatMap.1 hx
  exact (hq p hp1).ok x hp2
theorem own_near {w w' : World} {g : Nat} {e : TypeId} {size n : Nat} {v : Value} {xs : List Value} (h : w.ownsRow (g + 1) e size v n xs) (hb : Near (fun i => i = g) w w') : w'.ownsRow (g + 1) e size v n xs :=
  own_same h fun k hk => hb.block k (own_lt h hk).2 (by have := (own_lt h hk).1; omega)
set_option maxRecDepth 100000 in
set_option maxHeartbeats 4000000 in
theorem shaWrites_any (A : Option Addr) (n c : Nat) (at_ : Int) (ps : List Pt) (w : World) (hl : ps.length = n) (hn : n ≤ 9223372036854775807) (hr : Rd w w.heap.size 1 A n (ps.flatMap encPt)) (hp : ∀ p ∈ ps, PtOk w w.heap.size p) (hq : ∀ p ∈ ps, PtGood p) (hb : ∀ p ∈ ps, p.n ≤ 9223372036854775807) (hT : Tabs w) :
    Calls Tryd.prog 6 #[.slice A n c, .int .i64 at_] w fun e w' => e = .returned (.bool true) ∧ Below w.heap.size w w' := by
  have HA := Lib.hid (awake03_any w hT)
  have HS := Lib.hid (fun W (h : Below w.heap.size w W) => short_any A n c ps W hl hn ((hr.below h).more h.size) hb)
  have HT := Lib.hid hT
  cases hs : shortB ps with
  | false =>
    rw [hs] at HS
    clear hl hr hp hq hb hT hs
    go_enter Tryd.func6, Tryd.ntmps6
    go_upto_region 3 with (go_at_call 14; refine HA.out.mono ?_; rintro e w1 ⟨rfl, hb1⟩)
    go_wp2_with (go_at_call 15; refine (HS.out _ hb1).mono ?_; rintro e w2 ⟨rfl, rfl⟩)
    go_ret
    exact ⟨rfl, hb1⟩
  | true =>
    rw [hs] at HS
    obtain ⟨h20, h6⟩ := short_len hs hp
    have HL := Lib.hid hl
    have HR := Lib.hid hr
    have HP := Lib.hid hp
    have HQ := Lib.hid hq
    have HSz := Lib.hid h6
    have hn20 : n ≤ 20 := by omega
    clear hl hr hp hq hb hT hs h20 h6 hn
    go_enter Tryd.func6, Tryd.ntmps6
    go_upto_region 6 with (first
      | (go_at_call 14; refine HA.out.mono ?_; rintro e w1 ⟨rfl, hb1⟩)
      | (go_at_call 15; refine (HS.out _ hb1).mono ?_; rintro e w2 ⟨rfl, rfl⟩)
      | (go_at_call 23; refine (hnew_any _ (HT.out.kept hb1)).mono ?_; rintro e w3 ⟨rfl, hH3, hb3⟩))
    have HI0 : Hid (HashAt w3 w1.heap.size (catN (ps.take 0)) ∧ RowKit.Below w.heap.size w w3) := Lib.hid ⟨hH3, hb1.trans (hb3.mono hb1.size)⟩
    have HG := Lib.hid hb1.size
    clear hH3 hb3 hb1 HA HS
    generalize w1.heap.size = g at *
    go_wp2
    go_loopw [6, 19] (fun v i wr => ∃ k : Nat, k ≤ n ∧ i = .int .i64 k ∧ ∃ A' c' m, v = .slice A' m c' ∧ Hid (m = (catN (ps.take k)).length) ∧ Hid (wr.ownsRow (g + 1) 5 1 (.slice A' m c') m ((catN (ps.take k)).flatMap encB)) ∧ Hid (HashAt wr g (catN (ps.take k)) ∧ RowKit.Below w.heap.size w wr)) (fun _ i _ => n - (intOf i).toNat)
    case atStart => exact ⟨0, by omega, rfl, none, 0, 0, rfl, Lib.hid rfl, Lib.hid (World.ownsRow_nil _ _ _ _), HI0⟩
    case round =>
      obtain ⟨k, hk, rfl, A', c', m, rfl, HM, HO, HI⟩ := hrel
      clear HI0
      by_cases hlt : k < n
      · have hlt' : k < ps.length := by rw [HL.out]; exact hlt
        obtain ⟨b, o, rfl, hbb, hc⟩ := (HR.out.below HI.out.2).row (s := 1) (fun _ => rfl) hlt' HL.out
        have d := hc 0 (by omega)
        simp only [encPt, Nat.add_zero, Nat.mul_one, List.getElem?_cons_zero] at d
        have HT1 := Lib.hid (catN_take ps k hlt')
        have hle := catN_le ps (k + 1)
        have hpo := HP.out _ (List.getElem_mem hlt')
        have hqo := HQ.out _ (List.getElem_mem hlt')
        have HOk := Lib.hid (catN_ok (ps := ps.take (k + 1)) (fun p hp => HQ.out p (List.mem_of_mem_take hp)))
        clear hc
        generalize ps[k] = p at *
        have hlen : m + p.n ≤ 6000 := by
          rw [HT1.out, List.length_append, hpo.1] at hle
          have := HSz.out
          have := HM.out
          omega
        have HM2 := Lib.hid (show m + p.n = (catN (ps.take (k + 1))).length by rw [HT1.out, List.length_append, hpo.1, HM.out])
        have hgl := HI.out.1.lt
        have hgw := HG.out
        have HW := Lib.hid (hwrite_yes g (catN (ps.take k)) p.bs p.A p.n p.c wr HI.out.1 (by rw [← HM.out]; omega) (HT.out.kept HI.out.2) hpo.1 hqo.ok (hpo.rd HI.out.2 HI.out.2.size)
          (fun hp0 ad had => by
            obtain ⟨b', o', e, hlt3, _⟩ := hpo.2.2 hp0
            rw [e] at had
            obtain rfl := Option.some.inj had
            show b' ≠ g
            omega) hqo.le)
        rw [← HT1.out] at HW
        have hpr := hpo.rd HI.out.2 HI.out.2.size
        have hpne : 0 < p.n → ∀ ad, p.A = some ad → ad.block ≠ g := fun hp0 ad had => by
            obtain ⟨b', o', e, hlt3, _⟩ := hpo.2.2 hp0
            rw [e] at had
            obtain rfl := Option.some.inj had
            show b' ≠ g
            omega
        have HPr : Hid (∀ w2, Near (fun i => i = g) wr w2 → Rd w2 w2.heap.size 1 p.A p.n (p.bs.flatMap encB)) := Lib.hid fun w2 h2 => hpr.apart_near hpne h2
        have HMx := Lib.hid (show m + p.n ≤ maxLen by unfold maxLen; omega)
        have HMy := Lib.hid (show (m + p.n) * 1 ≤ 140737488355328 by omega)
        have HO1 := HO
        have HBw := Lib.hid HI.out.2
        clear hle hpo hqo HI HO hpr hpne
        go_upto_region 13 with (go_at_call 24; refine HW.out.mono ?_; rintro e w2 ⟨rfl, hH2, hn2⟩)
        have hown2 := own_near HO1.out hn2
        have hz2 : g + 1 ≤ w2.heap.size := by have := hH2.lt; omega
        have HPr2 := Lib.hid (HPr.out _ hn2)
        have HH2 := Lib.hid hH2
        have HB2 : Hid (RowKit.Below w.heap.size w w2) := Lib.hid ((Near.of_below (fun i => i = g) HBw.out).trans hn2 |>.below (fun i hi => by omega) (Nat.le_refl _))
        clear HW HO1 hH2 hn2 HPr
        go_upto_region 14 with (at_builtin; refine wpList_app u8_elem rfl (.tmp 27) (.tmp 28) rfl (g + 1) hown2 rfl rfl HPr2.out (one_b p.bs) HMx.out HMy.out hz2 ?_; intro v5 w5 hown5 hb5 _; obtain ⟨A5, c5, rfl, _, _⟩ := own_slice hown5)
        rw [← List.flatMap_append, ← HT1.out] at hown5
        have HH5 := Lib.hid (HH2.out.under hb5 (by omega))
        have HB5 : Hid (RowKit.Below w.heap.size w w5) := Lib.hid (HB2.out.trans (hb5.mono (by omega)))
        have HO5 := Lib.hid hown5
        clear hb5 hown5 hown2 HPr2 HB2 HH2
        by_cases hat : (k : Int) = at_
        · subst hat
          have H1 := Lib.hid (hsum_yes g (catN (ps.take (k + 1))) w5 HH5.out (by rw [← HM2.out]; omega) (HT.out.kept HB5.out))
          have H3 := Lib.hid (fun W (hb : Below w5.heap.size w5 W) => refSum_any A5 (m + p.n) c5 (catN (ps.take (k + 1))) W HM2.out.symm HOk.out (by omega) (Rd.of_own (own_kept HO5.out hb)))
          have heq := fun W => neq_node (outB_len (sumV vI (catN (ps.take (k + 1))))) W
          rw [show outB (sumV vI (catN (ps.take (k + 1)))) = sumB (catN (ps.take (k + 1))) from rfl] at heq
          generalize sumB (catN (ps.take (k + 1))) = ob at *
          go_wp2_with (first
            | (go_at_call 25; refine H1.out.mono ?_; rintro e w6 ⟨rfl, hb6⟩)
            | (go_at_call 17; refine (H3.out _ hb6).mono ?_; rintro e w7 ⟨rfl, hb7⟩))
          have hb57 := hb6.trans (hb7.mono hb6.size)
          have HN : Hid (HashAt w7 g (catN (ps.take (k + 1))) ∧ RowKit.Below w.heap.size w w7) := Lib.hid ⟨HH5.out.kept hb57, HB5.out.trans (hb57.mono HB5.out.size)⟩
          have HO7 := Lib.hid (own_kept HO5.out hb57)
          go_roundw
          case rel => exact ⟨k + 1, by omega, by go_num, A5, c5, m + p.n, rfl, HM2, HO7, HN⟩
          case measure => simp [intOf]; omega
        · have hat' : ((k : Int) == at_) = false := by simpa using hat
          have HN : Hid (HashAt w5 g (catN (ps.take (k + 1))) ∧ RowKit.Below w.heap.size w w5) := Lib.hid ⟨HH5.out, HB5.out⟩
          go_wp2
          go_roundw
          case rel => exact ⟨k + 1, by omega, by go_num, A5, c5, m + p.n, rfl, HM2, HO5, HN⟩
          case measure => simp [intOf]; omega
      · obtain rfl : k = n := by omega
        rw [List.take_of_length_le (by rw [HL.out]; exact Nat.le_refl _)] at HM HO HI
        have hm6 : m ≤ 6000 := by have := HM.out; have := HSz.out; omega
        have HLe := Lib.hid (hlen_yes g (catN ps) wr HI.out.1)
        rw [← HM.out] at HLe
        have H1 := Lib.hid (hsum_yes g (catN ps) wr HI.out.1 (by rw [← HM.out]; omega) (HT.out.kept HI.out.2))
        have H3 := Lib.hid (fun W (hb : Below wr.heap.size wr W) => refSum_any A' m c' (catN ps) W HM.out.symm (catN_ok HQ.out) (by omega) (Rd.of_own (own_kept HO.out hb)))
        have heq := fun W => eq_node (outB_len (sumV vI (catN ps))) W
        rw [show outB (sumV vI (catN ps)) = sumB (catN ps) from rfl] at heq
        generalize sumB (catN ps) = ob at *
        have HBw := Lib.hid HI.out.2
        go_wp2_with (first
          | (go_at_call 26; refine HLe.out.mono ?_; rintro e w5 ⟨rfl, rfl⟩)
          | (go_at_call 25; refine H1.out.mono ?_; rintro e w6 ⟨rfl, hb6⟩)
          | (go_at_call 17; refine (H3.out _ hb6).mono ?_; rintro e w7 ⟨rfl, hb7⟩))
        go_ret
        exact ⟨rfl, HBw.out.trans ((hb6.trans (hb7.mono hb6.size)).mono HBw.out.size)⟩
set_option maxRecDepth 100000 in
theorem shaWrites_law : LawWalkL Tryd.prog 6 Tryd.f6 := by
  intro H enc W base args ds p hval hA hlt hfz hsz hT
  rw [Tryd.params6] at hA hval
  obtain ⟨v0, v1, d0, d1, p0, p1, rfl, rfl, rfl, h0, h1⟩ := trodAll_two hA
  obtain ⟨A, n, c, m, rfl, hs⟩ := open_sh_slice Tryd.underlying22 (hval 0 22 v0 rfl rfl) h0 (fun x hx => hlt x (by simp [hx]))
  obtain ⟨A', n', c', ps, he, hnc, hcm, hl, ho, hr⟩ := sh_list (enc := encPt) (k := 1) Tryd.underlying22 (by kernel_rfl) (by decide) sh_part hs
  simp only [List.cons.injEq, Value.slice.injEq, and_true] at he
  obtain ⟨rfl, rfl, rfl⟩ := he
  obtain ⟨x, rfl, _, rfl, wn⟩ := open_int Tryd.underlying3 (hval 1 3 v1 rfl rfl) h1
  have hmx : maxLen ≤ 9223372036854775807 := by decide
  exact shaWrites_any A n c x ps W hl (by omega) hr (fun p hp => (ho p hp).1) (fun p hp => (ho p hp).2.1) (fun p hp => (ho p hp).2.2) hT
theorem shaWrites_said : Rows.ShaWritesSaid :=
  OpenClaim.holds_of_wide 6 Tryd.f6 rfl rfl rfl rfl rfl rfl rfl ⟨rfl, rfl, rfl, rfl, rfl⟩ rfl rfl rfl rfl rfl (by kernel_rfl) Tryd.func6 (by kernel_rfl)
    (of_decide_eq_true (by kernel_rfl)) (by unfold Func.isWrapper; first | (rw [if_pos (by decide +kernel)]; kernel_rfl) | (rw [if_neg (by decide +kernel)]; exact ⟨rfl, rfl⟩))
    (fun os started H enc _ => law_liftedL (s := Rows.shaWritesSpec) started own laidOut (by kernel_rfl) Tryd.func6 rfl (n := 2) (by kernel_rfl) (fun ds h => by match ds, h with | [_, _], _ => rfl) (tb := 4) (by kernel_rfl) Tryd.underlying4 (by kernel_rfl)
      (laid_witness #[.slice none 0 0, .int .i64 0] (by kernel_rfl) (by kernel_rfl) (by kernel_rfl) (laidMetH_of_parts3 (fuel := 8) (laidMet_of_run' 8 (by kernel_rfl) (by kernel_rfl)) (by kernel_rfl) (by kernel_rfl)) (World.shaped_of_RefB (by kernel_rfl) (by kernel_rfl))) shaWrites_law)
theorem shaWrites_proved : Rows.ShaWritesCardSaid :=
  Claim7.holds_tied_plain_at .later [] _ _ _ _ shaWrites_said (fun _ h => by cases h) (by kernel_rfl) (fun _ h => by cases h) shaWrites_row_tie rfl ⟨rfl, rfl⟩ (by kernel_rfl) rfl
    (fun f fn hf hfn => by
      obtain rfl : f = 6 := Option.some.inj ((show Tryd.prog.funcNamed "portreeve/portreevelaw03.ShaWrites" = some 6 by kernel_rfl).symm.trans hf) |>.symm
      obtain rfl : fn = Tryd.f6 := (Option.some.inj (Tryd.func6.symm.trans hfn)).symm
      refine ⟨by kernel_rfl, fun j t ht => ?_⟩
      have hall : (Tryd.f6.params.toList.all fun u => !Tryd.prog.wantsStandIn u) = true := by kernel_rfl
      have hm : t ∈ Tryd.f6.params.toList := by simpa using Array.mem_of_getElem? ht
      exact (show Tryd.prog.wantsStandIn t = false by simpa using List.all_eq_true.1 hall t hm))
    (by kernel_rfl)
end Go.Proofs.YtjcklmhkdpbbdaaDoor
