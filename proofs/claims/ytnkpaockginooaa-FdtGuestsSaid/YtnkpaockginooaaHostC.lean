/- The tree of a board (host.Tree); walked. -/
import Derived.Test.YtnkpaockginooaaHostA
import Derived.Test.YtnkpaockginooaaHostB
import Derived.Test.YtnkpaockginooaaVal
import Derived.Deep.CutRange
namespace Go.Proofs.Ytnkpaockginooaa
set_option linter.unusedVariables false
set_option linter.unusedSimpArgs false
open Go.RowKit Go.Sort

def regP (b s : Int) : Pr := (⟨#[114, 101, 103]⟩, [b, s].flatMap (bytesN 8 false))
def stretchT (l : List Int) (b s : Int) : Tr := .mk (strOfNums (atN l b.toNat)) [regP b s] []
set_option maxRecDepth 100000 in
set_option maxHeartbeats 1000000 in
theorem hstretch_any (l : List Int) (b s : Int) (w : World) (hl : l.length ≤ 1000) (hb' : U64 b) (hs : U64 s) {X : Nat → Prop} (hX : ∀ b, X b → b < w.heap.size) : Calls Try.prog 74 #[.string (strOfNums l), .agg #[.int .u64 b, .int .u64 s]] w fun e w' => ∃ x, e = .returned x ∧ TrP X (stretchT l b s) w' x ∧ Below w.heap.size w w' := by
  obtain ⟨n, rfl⟩ := Int.eq_ofNat_of_zero_le hb'.1
  go_enter Try.func74, Try.ntmps74
  go_upto_region 1 with (fail)
  have hS : Blk ((w.alloc (.cells #[.int .u64 n, .int .u64 s] 37)).alloc (.cells #[.string ⟨#[]⟩, .slice none 0 0, .slice none 0 0] 25)) w.heap.size 37 #[.int .u64 n, .int .u64 s] := (Blk.new w _ _).alloc _
  have hT := Blk.fresh (w.alloc (.cells #[.int .u64 n, .int .u64 s] 37)) 25 #[.string ⟨#[]⟩, .slice none 0 0, .slice none 0 0] (g := w.heap.size + 1)
  have hn' : n < 18446744073709551616 := by have := hb'.2; omega
  have hb1 := bal (bal (Below.refl w.heap.size w) (.cells #[.int .u64 n, .int .u64 s] 37)) (.cells #[.string ⟨#[]⟩, .slice none 0 0, .slice none 0 0] 25)
  generalize (w.alloc (.cells #[.int .u64 n, .int .u64 s] 37)).alloc (.cells #[.string ⟨#[]⟩, .slice none 0 0, .slice none 0 0] 25) = w1 at *
  have hg2 : w.heap.size + 1 < w1.heap.size := hT.lt
  have hX2 : ∀ b, X b ∨ b = w.heap.size + 1 → b < w1.heap.size := fun b hb => by
    rcases hb with h | rfl
    · have := hX b h
      omega
    · exact hg2
  refine wp_region_spec 12 [5, 6, 7, 8, 9, 10, 11, 12, 13, 14, 15, 16] [.eq (.string (strOfNums l)), .eq (.pointer (some ⟨w.heap.size, 0, none⟩)), .eq (.int .u64 n), .eq (.string (strOfNums (atN l n))), .eq (.pointer (some ⟨w.heap.size, 0, none⟩)), .eq (.int .u64 n),
    .eq (.pointer (some ⟨w.heap.size, 1, none⟩)), .eq (.int .u64 s), RowV 35 encQ 1 [(n : Int), s], PrV (regP n s), PsV (fun b => X b ∨ b = w.heap.size + 1) [regP n s], TrV (fun b => X b ∨ b = w.heap.size + 1) (stretchT l n s)] (by kernel_rfl) (by kernel_rfl) ?_ ?_
  · unfold StepS
    simp only [List.take_succ_cons, List.take_zero, fillA, fillL, List.setIfInBounds_toArray, List.set_cons_succ, List.set_cons_zero, Nat.zero_add, Nat.reduceAdd]
    refine StepsOk.cons (fun vals w' hb hd K hK => ?_) ?_
    · go_simp
      exact hK.out _ _ _ (Below.refl _ _) rfl (by kernel_rfl)
    refine StepsOk.cons (fun vals w' hb hd K hK => ?_) ?_
    · go_simp
      exact hK.out _ _ _ (Below.refl _ _) rfl (by kernel_rfl)
    refine StepsOk.cons (fun vals w' hb hd K hK => ?_) ?_
    · have d1 := hd 1 (by decide)
      simp only [List.getD_cons_zero, List.getD_cons_succ, SP.eq] at d1
      have hS' := (hS.kept hb).cell
      go_simp
      exact hK.out _ _ _ (Below.refl _ _) rfl (by simp only [d1, Act.put, List.setIfInBounds_toArray, List.set_cons_succ, List.set_cons_zero])
    refine StepsOk.cons (fun vals w' hb hd K hK => ?_) ?_
    · have d0 := hd 0 (by decide)
      simp only [List.getD_cons_zero, List.getD_cons_succ, SP.eq] at d0
      have d2 := hd 2 (by decide)
      simp only [List.getD_cons_zero, List.getD_cons_succ, SP.eq] at d2
      go_simp
      go_at_call 73
      refine (hat_any l n _ hl hn').mono ?_
      rintro e w2 ⟨rfl, hb2⟩
      exact hK.out _ _ _ hb2 rfl (by simp only [d0, d2, Act.put, List.setIfInBounds_toArray, List.set_cons_succ, List.set_cons_zero])
    refine StepsOk.cons (fun vals w' hb hd K hK => ?_) ?_
    · go_simp
      exact hK.out _ _ _ (Below.refl _ _) rfl (by kernel_rfl)
    refine StepsOk.cons (fun vals w' hb hd K hK => ?_) ?_
    · have d4 := hd 4 (by decide)
      simp only [List.getD_cons_zero, List.getD_cons_succ, SP.eq] at d4
      have hS' := (hS.kept hb).cell
      go_simp
      exact hK.out _ _ _ (Below.refl _ _) rfl (by simp only [d4, Act.put, List.setIfInBounds_toArray, List.set_cons_succ, List.set_cons_zero])
    refine StepsOk.cons (fun vals w' hb hd K hK => ?_) ?_
    · go_simp
      exact hK.out _ _ _ (Below.refl _ _) rfl (by kernel_rfl)
    refine StepsOk.cons (fun vals w' hb hd K hK => ?_) ?_
    · have d6 := hd 6 (by decide)
      simp only [List.getD_cons_zero, List.getD_cons_succ, SP.eq] at d6
      have hS' := (hS.kept hb).cell
      go_simp
      exact hK.out _ _ _ (Below.refl _ _) rfl (by simp only [d6, Act.put, List.setIfInBounds_toArray, List.set_cons_succ, List.set_cons_zero])
    refine StepsOk.cons (fun vals w' hb hd K hK => ?_) ?_
    · have d5 := hd 5 (by decide)
      simp only [List.getD_cons_zero, List.getD_cons_succ, SP.eq] at d5
      have d7 := hd 7 (by decide)
      simp only [List.getD_cons_zero, List.getD_cons_succ, SP.eq] at d7
      go_simp
      exact hK.out _ _ _ (bal (Below.refl _ _) _) (RowP.fresh _ [(n : Int), s] _ 2 _ rfl rfl rfl rfl (by decide)) (by simp only [d5, d7, Act.put, List.setIfInBounds_toArray, List.set_cons_succ, List.set_cons_zero])
    refine StepsOk.cons (fun vals w' hb hd K hK => ?_) ?_
    · have d8 := hd 8 (by decide)
      simp only [List.getD_cons_zero, List.getD_cons_succ, SP.eq] at d8
      obtain ⟨A, c, hv, h1, h2, h3, _⟩ := d8
      simp only [List.length_cons, List.length_nil, Nat.zero_add, Nat.reduceAdd] at hv h3
      go_simp
      go_at_call 102
      refine (height_any _ A 2 c [(n : Int), s] _ (by decide) rfl (by decide) ?_ h3).mono ?_
      · intro x hx
        simp at hx
        rcases hx with rfl | rfl
        · exact hb'
        · exact hs
      rintro e w2 ⟨v, rfl, hp, hb2⟩
      exact hK.out _ _ _ hb2 hp (by simp only [hv, Act.put, List.setIfInBounds_toArray, List.set_cons_succ, List.set_cons_zero])
    refine StepsOk.cons (fun vals w' hb hd K hK => ?_) ?_
    · have d9 := hd 9 (by decide)
      simp only [List.getD_cons_zero, List.getD_cons_succ, SP.eq] at d9
      obtain ⟨A, c, hv, hp⟩ := d9.cells
      obtain ⟨m, hm⟩ : ∃ m, (regP n s).2.length = m := ⟨_, rfl⟩
      rw [hm] at hv hp
      go_simp
      exact hK.out _ _ _ (bal (Below.refl _ _) _) (PsP.fresh _ [regP n s] [_] _ _ 1 ⟨hp, trivial⟩ rfl rfl rfl (by decide) (fun b h => Nat.lt_of_lt_of_le (hX2 b h) hb.size)) (by simp only [hv, Act.put, List.setIfInBounds_toArray, List.set_cons_succ, List.set_cons_zero])
    refine StepsOk.cons (fun vals w' hb hd K hK => ?_) ?_
    · have d3 := hd 3 (by decide)
      simp only [List.getD_cons_zero, List.getD_cons_succ, SP.eq] at d3
      have d10 := hd 10 (by decide)
      simp only [List.getD_cons_zero, List.getD_cons_succ, SP.eq] at d10
      obtain ⟨A, c, f, hv, hp⟩ := id d10
      simp only [List.length_cons, List.length_nil, Nat.zero_add, Nat.reduceAdd] at hv
      rw [hv] at d10
      go_simp
      go_at_call 70
      refine (hnode_any _ _ _ _ (by rw [strOfNums_size]; have := atN_len l n; unfold maxLen; omega) d10).mono ?_
      rintro e w2 ⟨v, rfl, _, hp, hb2⟩
      exact hK.out _ _ _ hb2 hp (by simp only [d3, hv, Act.put, List.setIfInBounds_toArray, List.set_cons_succ, List.set_cons_zero])
    exact StepsOk.nil
  · intro vals w' hb hd
    have d11 := hd 11 (by decide)
    simp only [List.getD_cons_zero, List.getD_cons_succ] at d11
    obtain ⟨A, c, B, d, hv, k, hp⟩ := TrP.cells d11
    generalize hnm : (stretchT l n s).nm = nm at hv hp
    generalize hn1 : (stretchT l n s).ps.length = n1 at hv hp
    generalize hn2 : (stretchT l n s).ks.length = n2 at hv hp
    have hT' := hT.kept hb
    have hc' := hT'.cell
    have hf' := hT'.frozen
    obtain ⟨z1, z2, z3⟩ := named_tree (B := w.heap.size) (by omega) hT' (.inr rfl) hp (hb1.trans (hb.mono hb1.size))
    have cZ := Lib.hid z1.cell
    simp only [List.drop_succ_cons, List.drop_zero, fillA, fillL, List.setIfInBounds_toArray, List.set_cons_succ, List.set_cons_zero, Nat.zero_add, Nat.reduceAdd]
    clear hT hS hd d11 hp z1
    go_wp2
    have cZ := cZ.out
    exact bodyPost_ret (v := .agg #[.string nm, .slice A n1 c, .slice B n2 d]) (by simp [results, Try.results74, go_sem, cZ]) rfl ⟨_, rfl, ⟨_, k, rfl, z2.less fun b h => .inl h⟩, z3⟩
end Go.Proofs.Ytnkpaockginooaa
