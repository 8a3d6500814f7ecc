/- Chapter 25, the law MeasAdds: it returns true whatever the input, and leaves what was there. -/
import Derived.Test.YtjcklmhkdpbbdaaDoorMeasD
namespace Go.Proofs.YtjcklmhkdpbbdaaDoor
set_option linter.unusedVariables false
open Go.RowKit Go.Sort Go.ChangeShapes

theorem measAdds_said : Rows.MeasAddsSaid :=
  OpenClaim.holds_of_wide 8 Tryd.f8 rfl rfl rfl rfl rfl rfl rfl ⟨rfl, rfl, rfl, rfl, rfl⟩ rfl rfl rfl rfl rfl (by kernel_rfl) Tryd.func8 (by kernel_rfl)
    (of_decide_eq_true (by kernel_rfl)) (by unfold Func.isWrapper; first | (rw [if_pos (by decide +kernel)]; kernel_rfl) | (rw [if_neg (by decide +kernel)]; exact ⟨rfl, rfl⟩))
    (fun os started H enc _ => law_liftedL (s := Rows.measAddsSpec) started own laidOut (by kernel_rfl) Tryd.func8 rfl (n := 2) (by kernel_rfl) (fun ds h => by match ds, h with | [_, _], _ => rfl) (tb := 4) (by kernel_rfl) Tryd.underlying4 (by kernel_rfl)
      (laid_witness #[.slice none 0 0, .int .i64 0] (by kernel_rfl) (by kernel_rfl) (by kernel_rfl) (laidMetH_of_parts3 (fuel := 8) (laidMet_of_run' 8 (by kernel_rfl) (by kernel_rfl)) (by kernel_rfl) (by kernel_rfl)) (World.shaped_of_RefB (by kernel_rfl) (by kernel_rfl))) measAdds_law)
theorem measAdds_proved : Rows.MeasAddsCardSaid :=
  Claim7.holds_tied_plain_at .later [] _ _ _ _ measAdds_said (fun _ h => by cases h) (by kernel_rfl) (fun _ h => by cases h) measAdds_row_tie rfl ⟨rfl, rfl⟩ (by kernel_rfl) rfl
    (fun f fn hf hfn => by
      obtain rfl : f = 8 := Option.some.inj ((show Tryd.prog.funcNamed "portreeve/portreevelaw25.MeasAdds" = some 8 by kernel_rfl).symm.trans hf) |>.symm
      obtain rfl : fn = Tryd.f8 := (Option.some.inj (Tryd.func8.symm.trans hfn)).symm
      refine ⟨by kernel_rfl, fun j t ht => ?_⟩
      have hall : (Tryd.f8.params.toList.all fun u => !Tryd.prog.wantsStandIn u) = true := by kernel_rfl
      have hm : t ∈ Tryd.f8.params.toList := by simpa using Array.mem_of_getElem? ht
      exact (show Tryd.prog.wantsStandIn t = false by simpa using List.all_eq_true.1 hall t hm))
    (by kernel_rfl)
end Go.Proofs.YtjcklmhkdpbbdaaDoor
