/- Chapter 3, the law ShaTables: it returns true whatever the input, and leaves what was there. -/
import Derived.Test.YtjcklmhkdpbbdaaDoorShaZa
namespace Go.Proofs.YtjcklmhkdpbbdaaDoor
set_option linter.unusedVariables false
open Go.RowKit Go.Sort Go.ChangeShapes

theorem shaTables_said : Rows.ShaTablesSaid :=
  OpenClaim.holds_of_wide 11 Tryd.f11 rfl rfl rfl rfl rfl rfl rfl ⟨rfl, rfl, rfl, rfl, rfl⟩ rfl rfl rfl rfl rfl (by kernel_rfl) Tryd.func11 (by kernel_rfl)
    (of_decide_eq_true (by kernel_rfl)) (by unfold Func.isWrapper; first | (rw [if_pos (by decide +kernel)]; kernel_rfl) | (rw [if_neg (by decide +kernel)]; exact ⟨rfl, rfl⟩))
    (fun os started H enc _ => law_liftedL (s := Rows.shaTablesSpec) started own laidOut (by kernel_rfl) Tryd.func11 rfl (n := 2) (by kernel_rfl) (fun ds h => by match ds, h with | [_, _], _ => rfl) (tb := 4) (by kernel_rfl) Tryd.underlying4 (by kernel_rfl)
      (laid_witness #[.int .i64 0, .int .i64 0] (by kernel_rfl) (by kernel_rfl) (by kernel_rfl) (laidMetH_of_parts3 (fuel := 8) (laidMet_of_run' 8 (by kernel_rfl) (by kernel_rfl)) (by kernel_rfl) (by kernel_rfl)) (World.shaped_of_RefB (by kernel_rfl) (by kernel_rfl))) shaTables_law)
theorem shaTables_proved : Rows.ShaTablesCardSaid :=
  Claim7.holds_tied_plain_at .later [] _ _ _ _ shaTables_said (fun _ h => by cases h) (by kernel_rfl) (fun _ h => by cases h) shaTables_row_tie rfl ⟨rfl, rfl⟩ (by kernel_rfl) rfl
    (fun f fn hf hfn => by
      obtain rfl : f = 11 := Option.some.inj ((show Tryd.prog.funcNamed "portreeve/portreevelaw03.ShaTables" = some 11 by kernel_rfl).symm.trans hf) |>.symm
      obtain rfl : fn = Tryd.f11 := (Option.some.inj (Tryd.func11.symm.trans hfn)).symm
      refine ⟨by kernel_rfl, fun j t ht => ?_⟩
      have hall : (Tryd.f11.params.toList.all fun u => !Tryd.prog.wantsStandIn u) = true := by kernel_rfl
      have hm : t ∈ Tryd.f11.params.toList := by simpa using Array.mem_of_getElem? ht
      exact (show Tryd.prog.wantsStandIn t = false by simpa using List.all_eq_true.1 hall t hm))
    (by kernel_rfl)
end Go.Proofs.YtjcklmhkdpbbdaaDoor
