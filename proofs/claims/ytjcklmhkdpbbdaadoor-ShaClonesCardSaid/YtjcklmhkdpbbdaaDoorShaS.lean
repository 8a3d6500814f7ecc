/- Chapter 3, the law ShaClones: a clone goes on by itself; a hash that nobody made has nothing. -/
import Derived.Test.YtjcklmhkdpbbdaaDoorShaR
namespace Go.Proofs.YtjcklmhkdpbbdaaDoor
set_option linter.unusedVariables false
set_option linter.unusedSimpArgs false
open Go.RowKit Go.Sort Go.ChangeShapes
set_option maxRecDepth 100000 in
theorem shaClones_law : LawWalkL Tryd.prog 7 Tryd.f7 := by
  intro H enc W base args ds p hval hA hlt hfz hsz hT
  rw [Tryd.params7] at hA hval
  obtain ⟨v0, v1, v2, d0, d1, d2, p0, p1, p2, rfl, rfl, rfl, h0, h1, h2⟩ := trodAll_three hA
  obtain ⟨A0, n0, c0, l0, rfl, hc0, hm0, hl0, ok0, hr0⟩ := open_bytes (hval 0 29 v0 rfl rfl) h0 (fun x hx => hlt x (by simp [hx]))
  obtain ⟨A1, n1, c1, l1, rfl, hc1, hm1, hl1, ok1, hr1⟩ := open_bytes (hval 1 29 v1 rfl rfl) h1 (fun x hx => hlt x (by simp [hx]))
  obtain ⟨A2, n2, c2, l2, rfl, hc2, hm2, hl2, ok2, hr2⟩ := open_bytes (hval 2 29 v2 rfl rfl) h2 (fun x hx => hlt x (by simp [hx]))
  have hmx : maxLen ≤ 9223372036854775807 := by decide
  exact shaClones_any ⟨A0, n0, c0, l0⟩ ⟨A1, n1, c1, l1⟩ ⟨A2, n2, c2, l2⟩ W ⟨hl0, hr0⟩ ⟨hl1, hr1⟩ ⟨hl2, hr2⟩ ⟨ok0, hc0⟩ ⟨ok1, hc1⟩ ⟨ok2, hc2⟩ (Nat.le_trans hm0 hmx) (Nat.le_trans hm1 hmx) (Nat.le_trans hm2 hmx) hT
theorem shaClones_said : Rows.ShaClonesSaid :=
  OpenClaim.holds_of_wide 7 Tryd.f7 rfl rfl rfl rfl rfl rfl rfl ⟨rfl, rfl, rfl, rfl, rfl⟩ rfl rfl rfl rfl rfl (by kernel_rfl) Tryd.func7 (by kernel_rfl)
    (of_decide_eq_true (by kernel_rfl)) (by unfold Func.isWrapper; first | (rw [if_pos (by decide +kernel)]; kernel_rfl) | (rw [if_neg (by decide +kernel)]; exact ⟨rfl, rfl⟩))
    (fun os started H enc _ => law_liftedL (s := Rows.shaClonesSpec) started own laidOut (by kernel_rfl) Tryd.func7 rfl (n := 3) (by kernel_rfl) (fun ds h => by match ds, h with | [_, _, _], _ => rfl) (tb := 4) (by kernel_rfl) Tryd.underlying4 (by kernel_rfl)
      (laid_witness #[.slice none 0 0, .slice none 0 0, .slice none 0 0] (by kernel_rfl) (by kernel_rfl) (by kernel_rfl) (laidMetH_of_parts3 (fuel := 8) (laidMet_of_run' 8 (by kernel_rfl) (by kernel_rfl)) (by kernel_rfl) (by kernel_rfl)) (World.shaped_of_RefB (by kernel_rfl) (by kernel_rfl))) shaClones_law)
theorem shaClones_proved : Rows.ShaClonesCardSaid :=
  Claim7.holds_tied_plain_at .later [] _ _ _ _ shaClones_said (fun _ h => by cases h) (by kernel_rfl) (fun _ h => by cases h) shaClones_row_tie rfl ⟨rfl, rfl⟩ (by kernel_rfl) rfl
    (fun f fn hf hfn => by
      obtain rfl : f = 7 := Option.some.inj ((show Tryd.prog.funcNamed "portreeve/portreevelaw03.ShaClones" = some 7 by kernel_rfl).symm.trans hf) |>.symm
      obtain rfl : fn = Tryd.f7 := (Option.some.inj (Tryd.func7.symm.trans hfn)).symm
      refine ⟨by kernel_rfl, fun j t ht => ?_⟩
      have hall : (Tryd.f7.params.toList.all fun u => !Tryd.prog.wantsStandIn u) = true := by kernel_rfl
      have hm : t ∈ Tryd.f7.params.toList := by simpa using Array.mem_of_getElem? ht
      exact (show Tryd.prog.wantsStandIn t = false by simpa using List.all_eq_true.1 hall t hm))
    (by kernel_rfl)
end Go.Proofs.YtjcklmhkdpbbdaaDoor
