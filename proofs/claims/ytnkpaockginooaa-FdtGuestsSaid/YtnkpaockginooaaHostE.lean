/- The document's tree of a board (portreeveref29.Host); walked. -/
import Derived.Test.YtnkpaockginooaaHostD
import Derived.Test.YtnkpaockginooaaRefW
namespace Go.Proofs.Ytnkpaockginooaa
set_option linter.unusedVariables false
set_option linter.unusedSimpArgs false
open Go.RowKit Go.Sort

set_option maxHeartbeats 1000000 in
theorem rfour_any (n : Int) (hn : U64 n) (w : World) : Calls Try.prog 75 #[.int .u64 n] w fun e w' => ∃ v, e = .returned v ∧ RowP 5 encB 1 (bytesN 4 false n) w' v ∧ Below w.heap.size w w' := by
  have HP := Lib.hid (refPut_any none 0 0 4 [] n false w rfl (by decide) (by decide) hn.1 hn.2 Rd.nil)
  go_enter Try.func75, Try.ntmps75
  go_wp2_with (go_at_call 85; refine HP.out.mono ?_; rintro e w1 ⟨A1, c1, rfl, hown, hb1⟩)
  go_ret
  exact ⟨_, rfl, RowP.own hown (by rw [bytesN_len]) (by simp), hb1⟩
set_option maxRecDepth 100000 in
set_option maxHeartbeats 1000000 in
theorem rreg_any (b s : Int) (w : World) (hb' : U64 b) (hs : U64 s) {X : Nat → Prop} (hX : ∀ b, X b → b < w.heap.size) : Calls Try.prog 76 #[.agg #[.int .u64 b, .int .u64 s]] w fun e w' => ∃ v, e = .returned v ∧ PsP X [regP b s] w' v ∧ Below w.heap.size w w' := by
  have HS := Lib.hid (Blk.new w 37 #[.int .u64 b, .int .u64 s])
  have HB := Lib.hid (bal (Below.refl w.heap.size w) (.cells #[.int .u64 b, .int .u64 s] 37))
  go_enter Try.func76, Try.ntmps76
  go_upto_region 1 with (fail)
  have hS := HS.out
  have hb1 := HB.out
  clear HS HB
  generalize w.alloc (.cells #[.int .u64 b, .int .u64 s] 37) = w1 at *
  have hX1 : ∀ (w' : World), Below w1.heap.size w1 w' → ∀ b, X b → b < w'.heap.size := fun w' hb b h => by
    have := hX b h
    have := hb.size
    have := hb1.size
    omega
  refine wp_region_spec 8 [3, 4, 5, 6, 7, 8, 9, 10] [.eq (.pointer (some ⟨w.heap.size, 0, none⟩)), .eq (.int .u64 b), RowV 5 encB 1 (bytesN 8 false b), .eq (.pointer (some ⟨w.heap.size, 1, none⟩)), .eq (.int .u64 s),
    RowV 5 encB 1 ([b, s].flatMap (bytesN 8 false)), PrV (regP b s), PsV X [regP b s]] (by kernel_rfl) (by kernel_rfl) ?_ ?_
  · unfold StepS
    simp only [List.take_succ_cons, List.take_zero, fillA, fillL, List.setIfInBounds_toArray, List.set_cons_succ, List.set_cons_zero, Nat.zero_add, Nat.reduceAdd]
    refine StepsOk.cons (fun vals w' hb hd K hK => ?_) ?_
    · go_simp
      exact hK.out _ _ _ (Below.refl _ _) rfl (by kernel_rfl)
    refine StepsOk.cons (fun vals w' hb hd K hK => ?_) ?_
    · have d0 := hd 0 (by decide)
      simp only [List.getD_cons_zero, List.getD_cons_succ, SP.eq] at d0
      have hS' := (hS.kept hb).cell
      go_simp
      exact hK.out _ _ _ (Below.refl _ _) rfl (by simp only [d0, Act.put, List.setIfInBounds_toArray, List.set_cons_succ, List.set_cons_zero])
    refine StepsOk.cons (fun vals w' hb hd K hK => ?_) ?_
    · have d1 := hd 1 (by decide)
      simp only [List.getD_cons_zero, List.getD_cons_succ, SP.eq] at d1
      go_simp
      go_at_call 85
      refine (refPut_any none 0 0 8 [] b false _ rfl (by decide) (by decide) hb'.1 hb'.2 Rd.nil).mono ?_
      rintro e w2 ⟨A1, c1, rfl, hown, hb2⟩
      exact hK.out _ _ _ hb2 (RowP.own (l := bytesN 8 false b) hown (by rw [bytesN_len]) (by simp)) (by simp only [d1, Act.put, List.setIfInBounds_toArray, List.set_cons_succ, List.set_cons_zero])
    refine StepsOk.cons (fun vals w' hb hd K hK => ?_) ?_
    · go_simp
      exact hK.out _ _ _ (Below.refl _ _) rfl (by kernel_rfl)
    refine StepsOk.cons (fun vals w' hb hd K hK => ?_) ?_
    · have d3 := hd 3 (by decide)
      simp only [List.getD_cons_zero, List.getD_cons_succ, SP.eq] at d3
      have hS' := (hS.kept hb).cell
      go_simp
      exact hK.out _ _ _ (Below.refl _ _) rfl (by simp only [d3, Act.put, List.setIfInBounds_toArray, List.set_cons_succ, List.set_cons_zero])
    refine StepsOk.cons (fun vals w' hb hd K hK => ?_) ?_
    · have d2 := hd 2 (by decide)
      simp only [List.getD_cons_zero, List.getD_cons_succ, SP.eq] at d2
      have d4 := hd 4 (by decide)
      simp only [List.getD_cons_zero, List.getD_cons_succ, SP.eq] at d4
      obtain ⟨A, c, hv, h1, h2, h3, _⟩ := d2
      rw [bytesN_len] at hv h3
      go_simp
      go_at_call 85
      refine (refPut_any A 8 c 8 (bytesN 8 false b) s false _ (by rw [bytesN_len]) (by decide) (by decide) hs.1 hs.2 h3).mono ?_
      rintro e w2 ⟨A1, c1, rfl, hown, hb2⟩
      exact hK.out _ _ _ hb2 (RowP.own (l := [b, s].flatMap (bytesN 8 false)) hown (by simp [bytesN_len]) (by simp)) (by simp only [hv, d4, Act.put, List.setIfInBounds_toArray, List.set_cons_succ, List.set_cons_zero])
    refine StepsOk.cons (fun vals w' hb hd K hK => ?_) ?_
    · have d5 := hd 5 (by decide)
      simp only [List.getD_cons_zero, List.getD_cons_succ, SP.eq] at d5
      obtain ⟨A, c, hv, hp⟩ := id d5
      generalize ([b, s].flatMap (bytesN 8 false)).length = m at hv
      rw [hv] at d5
      go_simp
      exact hK.out _ _ _ (Below.refl _ _) (PrP.mk (nm := ⟨#[114, 101, 103]⟩) (by decide) (bytesNs_ok 8 false [b, s]) d5) (by simp only [hv, Act.put, List.setIfInBounds_toArray, List.set_cons_succ, List.set_cons_zero])
    refine StepsOk.cons (fun vals w' hb hd K hK => ?_) ?_
    · have d6 := hd 6 (by decide)
      simp only [List.getD_cons_zero, List.getD_cons_succ, SP.eq] at d6
      obtain ⟨A, c, hv, hp⟩ := d6.cells
      generalize (regP b s).2.length = m at hv hp
      go_simp
      exact hK.out _ _ _ (bal (Below.refl _ _) _) (PsP.fresh _ [regP b s] [_] _ _ 1 ⟨hp, trivial⟩ rfl rfl rfl (by decide) (hX1 _ hb)) (by simp only [hv, Act.put, List.setIfInBounds_toArray, List.set_cons_succ, List.set_cons_zero])
    exact StepsOk.nil
  · intro vals w8 hb8 hd
    have d7 := hd 7 (by decide)
    simp only [List.getD_cons_zero, List.getD_cons_succ] at d7
    simp only [List.drop_succ_cons, List.drop_zero, fillA, fillL, List.setIfInBounds_toArray, List.set_cons_succ, List.set_cons_zero, Nat.zero_add, Nat.reduceAdd]
    clear hd
    generalize vals 7 = v7 at *
    go_wp2
    go_ret
    exact ⟨_, rfl, d7, hb1.trans (hb8.mono hb1.size)⟩
end Go.Proofs.Ytnkpaockginooaa
