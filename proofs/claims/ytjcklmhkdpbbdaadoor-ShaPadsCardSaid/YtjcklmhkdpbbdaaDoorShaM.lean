/- Chapter 3, the law ShaPads: what stands behind so many bytes. -/
import Derived.Test.YtjcklmhkdpbbdaaDoorShaL
namespace Go.Proofs.YtjcklmhkdpbbdaaDoor
set_option linter.unusedVariables false
set_option linter.unusedSimpArgs false
open Go.RowKit Go.Sort Go.ChangeShapes

set_option maxRecDepth 100000 in
set_option maxHeartbeats 2000000 in
theorem shaPads_any (n : Int) (h0 : 0 ≤ n) (h1 : n < 18446744073709551616) (w : World) (hT : Tabs w) :
    Calls Tryd.prog 4 #[.int .u64 n] w fun e w' => e = .returned (.bool true) ∧ Below w.heap.size w w' := by
  have HA := Lib.hid (awake03_any w hT)
  have H1 := Lib.hid (fun W => shaPad_any n h0 h1 W)
  have H2 := Lib.hid (fun W => refPad_any n h0 h1 W)
  have HL := Lib.hid (padB_len n)
  generalize padB n = pb at *
  generalize padK n + 9 = pk at *
  clear hT
  go_enter Tryd.func4, Tryd.ntmps4
  go_upto_region 3 with (go_at_call 14; refine HA.out.mono ?_; rintro e w1 ⟨rfl, hb1⟩)
  go_region_with (first
    | (go_at_call 19; refine (H1.out _).mono ?_; rintro e w2 ⟨A2, c2, rfl, hown2, hb2⟩; have r2 := Rd.of_own hown2; have s1 := conv_str r2 HL.out c2)
    | (go_at_call 20; refine (H2.out _).mono ?_; rintro e w3 ⟨A3, c3, rfl, hown3, hb3⟩; have s2 := conv_str (r2.below hb3) HL.out c2; have s3 := conv_str (Rd.of_own hown3) HL.out c3))
  all_goals
    go_wp2
    go_ret
    have b2 := of_drew hb2
    exact ⟨rfl, (hb1.trans (Below.mono b2 hb1.size)).trans (Below.mono hb3 (Nat.le_trans hb1.size b2.size))⟩

set_option maxRecDepth 100000 in
theorem shaPads_law : LawWalkL Tryd.prog 4 Tryd.f4 := by
  intro H enc W base args ds p hval hA hlt hfz hsz hT
  rw [Tryd.params4] at hA hval
  obtain ⟨v0, d0, rfl, rfl, h0⟩ := trodAll_one hA
  obtain ⟨n, rfl, rfl, rfl, wn⟩ := open_int Tryd.underlying31 (hval 0 31 v0 rfl rfl) h0
  exact shaPads_any n (wf_u64 wn).1 (wf_u64 wn).2 W hT
theorem shaPads_said : Rows.ShaPadsSaid :=
  OpenClaim.holds_of_wide 4 Tryd.f4 rfl rfl rfl rfl rfl rfl rfl ⟨rfl, rfl, rfl, rfl, rfl⟩ rfl rfl rfl rfl rfl (by kernel_rfl) Tryd.func4 (by kernel_rfl)
    (of_decide_eq_true (by kernel_rfl)) (by unfold Func.isWrapper; first | (rw [if_pos (by decide +kernel)]; kernel_rfl) | (rw [if_neg (by decide +kernel)]; exact ⟨rfl, rfl⟩))
    (fun os started H enc _ => law_liftedL (s := Rows.shaPadsSpec) started own laidOut (by kernel_rfl) Tryd.func4 rfl (n := 1) (by kernel_rfl) (fun ds h => by match ds, h with | [_], _ => rfl) (tb := 4) (by kernel_rfl) Tryd.underlying4 (by kernel_rfl)
      (laid_witness #[.int .u64 0] (by kernel_rfl) (by kernel_rfl) (by kernel_rfl) (laidMetH_of_parts3 (fuel := 8) (laidMet_of_run' 8 (by kernel_rfl) (by kernel_rfl)) (by kernel_rfl) (by kernel_rfl)) (World.shaped_of_RefB (by kernel_rfl) (by kernel_rfl))) shaPads_law)
theorem shaPads_proved : Rows.ShaPadsCardSaid :=
  Claim7.holds_tied_plain_at .later [] _ _ _ _ shaPads_said (fun _ h => by cases h) (by kernel_rfl) (fun _ h => by cases h) shaPads_row_tie rfl ⟨rfl, rfl⟩ (by kernel_rfl) rfl
    (fun f fn hf hfn => by
      obtain rfl : f = 4 := Option.some.inj ((show Tryd.prog.funcNamed "portreeve/portreevelaw03.ShaPads" = some 4 by kernel_rfl).symm.trans hf) |>.symm
      obtain rfl : fn = Tryd.f4 := (Option.some.inj (Tryd.func4.symm.trans hfn)).symm
      refine ⟨by kernel_rfl, fun j t ht => ?_⟩
      have hall : (Tryd.f4.params.toList.all fun u => !Tryd.prog.wantsStandIn u) = true := by kernel_rfl
      have hm : t ∈ Tryd.f4.params.toList := by simpa using Array.mem_of_getElem? ht
      exact (show Tryd.prog.wantsStandIn t = false by simpa using List.all_eq_true.1 hall t hm))
    (by kernel_rfl)
end Go.Proofs.YtjcklmhkdpbbdaaDoor
