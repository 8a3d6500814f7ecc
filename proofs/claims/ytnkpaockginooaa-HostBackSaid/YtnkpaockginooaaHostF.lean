/- The document's tree of a board (portreeveref29.Host); walked. -/
import Derived.Test.YtnkpaockginooaaHostE
import Derived.Test.YtnkpaockginooaaMark
namespace Go.Proofs.Ytnkpaockginooaa
set_option linter.unusedVariables false
set_option linter.unusedSimpArgs false
open Go.RowKit Go.Sort
theorem catName (p : ByteArray) (l : List Int) (n : Nat) (h : p = strOfNums (l ++ [64])) : p ++ strOfNums (hexN n) = strOfNums (atN l n) := by
  rw [h, strOfNums_app]
  rfl
theorem catSize (k : Nat) (n : Nat) (h : k ≤ 1000) : ¬ 9223372036854775807 < k + (strOfNums (hexN n)).size := by
  have := hexF_len 16 n
  rw [strOfNums_size]
  unfold hexN
  omega
theorem four1 (n : Int) : [n].flatMap (bytesN 4 false) = bytesN 4 false n := by simp
theorem hcomp_cells : (hcompP.2.flatMap encB).toArray = #[.int .u8 112, .int .u8 111, .int .u8 114, .int .u8 116, .int .u8 114, .int .u8 101, .int .u8 101, .int .u8 118, .int .u8 101, .int .u8 44, .int .u8 104, .int .u8 111, .int .u8 115, .int .u8 116, .int .u8 0] := by kernel_rfl
theorem hcomp_ok : BytesOk hcompP.2 := strB0_ok _
theorem hcomp_eta : ((⟨#[99, 111, 109, 112, 97, 116, 105, 98, 108, 101]⟩ : ByteArray), hcompP.2) = hcompP := rfl
theorem hcomp_len : hcompP.2.length = 15 := by kernel_rfl
set_option maxRecDepth 100000 in
set_option maxHeartbeats 2000000 in
theorem rhost_yes (x : Bd) (hx : BdOk x) (hfit : fitB x = true) (w : World) : Calls Try.prog 30 #[.agg (encBd x).toArray] w fun e w' => ∃ v, e = .returned (.tuple #[v, .int .i64 0]) ∧ TrP (fun _ => False) (hostT x) w' v ∧ Below w.heap.size w w' := by
  have HF := Lib.hid (fun w => refFit_any x hx w)
  rw [hfit] at HF
  obtain ⟨rb, rs, lb, ls, n0, n1, n2⟩ := x
  obtain ⟨h1, h2, h3, h4, h5, h6, h7⟩ := hx
  simp only at h1 h2 h3 h4 h5 h6 h7
  unfold fitB at hfit
  simp only [Bool.and_eq_true] at hfit
  have hi0 := inB_yes hfit.1.1.2
  have hi1 := inB_yes hfit.1.2
  have hi2 := inB_yes hfit.2
  have hq0 : U64 n0 := by unfold U64; omega
  have hq1 : U64 n1 := by unfold U64; omega
  obtain ⟨n, rfl⟩ := Int.eq_ofNat_of_zero_le (show 0 ≤ n2 by omega)
  have hn32 : n ≤ 32 := by omega
  have hu0 : IntKind.u64.wrap n0 = n0 := by show n0 % 18446744073709551616 = n0; omega
  have hu1 : IntKind.u64.wrap n1 = n1 := by show n1 % 18446744073709551616 = n1; omega
  have hu2 : IntKind.u64.wrap n = n := by show (n : Int) % 18446744073709551616 = n; omega
  obtain ⟨nb, rfl⟩ := Int.eq_ofNat_of_zero_le h1.1
  obtain ⟨nl, rfl⟩ := Int.eq_ofNat_of_zero_le h3.1
  have hnb : nb < 18446744073709551616 := by have := h1.2; omega
  have hnl : nl < 18446744073709551616 := by have := h3.2; omega
  clear hfit h5 h6 h7
  have HB := Lib.hid (bal (bal (Below.refl w.heap.size w) (.cells #[.int .u64 nb, .int .u64 rs, .int .u64 nl, .int .u64 ls, .int .i64 n0, .int .i64 n1, .int .i64 n] 39)) (.cells #[.string ⟨#[]⟩, .slice none 0 0, .slice none 0 0] 25))
  have HS := Lib.hid ((Blk.new w 39 #[.int .u64 nb, .int .u64 rs, .int .u64 nl, .int .u64 ls, .int .i64 n0, .int .i64 n1, .int .i64 n]).alloc (.cells #[.string ⟨#[]⟩, .slice none 0 0, .slice none 0 0] 25))
  have HR := Lib.hid (Blk.fresh (w.alloc (.cells #[.int .u64 nb, .int .u64 rs, .int .u64 nl, .int .u64 ls, .int .i64 n0, .int .i64 n1, .int .i64 n] 39)) 25 #[.string ⟨#[]⟩, .slice none 0 0, .slice none 0 0] (g := w.heap.size + 1))
  rw [show (encBd ⟨nb, rs, nl, ls, n0, n1, n⟩).toArray = #[.int .u64 nb, .int .u64 rs, .int .u64 nl, .int .u64 ls, .int .i64 n0, .int .i64 n1, .int .i64 n] from rfl] at HF ⊢
  go_enter Try.func30, Try.ntmps30
  go_upto_region 4 with (go_at_call 32; refine (HF.out _).mono ?_; rintro e w1 ⟨rfl, hb1⟩; have hS := HS.out.kept hb1; have hR := HR.out.kept hb1; have hc1 := hS.cell; have hbw := HB.out.trans (hb1.mono HB.out.size); clear hb1)
  clear hc1 HF HS HR HB
  have hz1 : w.heap.size + 1 < w1.heap.size := hR.lt
  refine wp_region_specU 16 [14, 15, 16, 17, 18, 19, 20, 21, 22, 23, 24, 25, 26, 27, 28, 5] [BytV w1.heap.size hcompP.2, RowV 5 encB 1 hcompP.2, PrV hcompP, .eq (.pointer (some ⟨w.heap.size, 4, none⟩)), .eq (.int .i64 n0), .eq (.int .u64 n0), RowV 5 encB 1 (bytesN 4 false n0), PrV (⟨#[105, 114, 113, 115]⟩, bytesN 4 false n0),
    .eq (.pointer (some ⟨w.heap.size, 5, none⟩)), .eq (.int .i64 n1), .eq (.int .u64 n1), RowV 5 encB 1 (bytesN 4 false n1), PrV (⟨#[115, 116, 114, 101, 97, 109, 115]⟩, bytesN 4 false n1), PsV (fun b => b = w.heap.size + 1) [hcompP, irqsP n0, strsP n1], TrV (fun b => b = w.heap.size + 1) (hrootT ⟨nb, rs, nl, ls, n0, n1, n⟩),
    BoxV w1.heap.size 25 #[.string ⟨#[]⟩, .slice none 0 0, .slice none 0 0]] (by kernel_rfl) (by kernel_rfl) ?_ ?_
  · simp only [List.take_succ_cons, List.take_zero]
    refine StepsOk.cons (StepU.of ?_) ?_
    · intro vals w' hb hd K hK
      simp only [fillA, fillL, List.setIfInBounds_toArray, List.set_cons_succ, List.set_cons_zero, Nat.zero_add, Nat.reduceAdd] at hK ⊢
      go_simp
      refine hK.out (.slice (some ⟨w'.heap.size, 0, none⟩) 15 15) _ _ (bal (Below.refl _ _) _) ?_ (by kernel_rfl)
      refine ⟨w'.heap.size, (0, 0), by rw [hcomp_len], hb.size, ?_⟩
      rw [hcomp_cells]
      exact Blk.new _ _ _
    refine StepsOk.cons ?_ ?_
    · intro vals w' hb hd K hK
      simp only [fillA, fillL, List.setIfInBounds_toArray, List.set_cons_succ, List.set_cons_zero, Nat.zero_add, Nat.reduceAdd] at hK ⊢
      have d0 := hd 0 (by decide)
      simp only [List.getD_cons_zero, List.getD_cons_succ, SP.eq] at d0
      obtain ⟨g0, fz, hv, hg0, h0⟩ := d0
      have hm := hcomp_len
      rw [hm] at hv
      have hrm := run_mark (n := 15) (c := 15) h0
      have hft := freeze_turn (n := ((hcompP.2.flatMap encB).toArray).size) h0
      obtain ⟨fz', hf'⟩ := freeze_heap (n := ((hcompP.2.flatMap encB).toArray).size) h0
      have hbf : RowKit.Below w1.heap.size w' (w'.freeze ⟨g0, ((hcompP.2.flatMap encB).toArray).size, none⟩ 1) := Lib.below_freeze (Below.refl _ _) hg0 _
      have hrow := byt_row hf' (by rw [hcomp_len]; decide)
      rw [hm] at hrow
      generalize w'.freeze ⟨g0, ((hcompP.2.flatMap encB).toArray).size, none⟩ 1 = wf at *
      go_simp
      exact hK.out _ _ _ hbf hft hrow (by simp only [hv, Act.put, List.setIfInBounds_toArray, List.set_cons_succ, List.set_cons_zero])
    refine StepsOk.cons (StepU.of ?_) ?_
    · intro vals w' hb hd K hK
      simp only [fillA, fillL, List.setIfInBounds_toArray, List.set_cons_succ, List.set_cons_zero, Nat.zero_add, Nat.reduceAdd] at hK ⊢
      have d1 := hd 1 (by decide)
      simp only [List.getD_cons_zero, List.getD_cons_succ, SP.eq] at d1
      obtain ⟨A, c, hv, hp⟩ := id d1
      have hm := hcomp_len
      rw [hm] at hv
      rw [hv] at d1
      go_simp
      have hpr := PrP.mk (nm := ⟨#[99, 111, 109, 112, 97, 116, 105, 98, 108, 101]⟩) (by decide) hcomp_ok d1
      rw [hcomp_eta] at hpr
      exact hK.out _ _ _ (Below.refl _ _) hpr (by simp only [hv, Act.put, List.setIfInBounds_toArray, List.set_cons_succ, List.set_cons_zero])
    refine StepsOk.cons (StepU.of ?_) ?_
    · intro vals w' hb hd K hK
      simp only [fillA, fillL, List.setIfInBounds_toArray, List.set_cons_succ, List.set_cons_zero, Nat.zero_add, Nat.reduceAdd] at hK ⊢
      go_simp
      exact hK.out _ _ _ (Below.refl _ _) rfl (by kernel_rfl)
    refine StepsOk.cons (StepU.of ?_) ?_
    · intro vals w' hb hd K hK
      simp only [fillA, fillL, List.setIfInBounds_toArray, List.set_cons_succ, List.set_cons_zero, Nat.zero_add, Nat.reduceAdd] at hK ⊢
      have d3 := hd 3 (by decide)
      simp only [List.getD_cons_zero, List.getD_cons_succ, SP.eq] at d3
      have hS' := (hS.kept hb).cell
      go_simp
      exact hK.out _ _ _ (Below.refl _ _) rfl (by simp only [d3, Act.put, List.setIfInBounds_toArray, List.set_cons_succ, List.set_cons_zero])
    refine StepsOk.cons (StepU.of ?_) ?_
    · intro vals w' hb hd K hK
      simp only [fillA, fillL, List.setIfInBounds_toArray, List.set_cons_succ, List.set_cons_zero, Nat.zero_add, Nat.reduceAdd] at hK ⊢
      have d4 := hd 4 (by decide)
      simp only [List.getD_cons_zero, List.getD_cons_succ, SP.eq] at d4
      go_simp
      exact hK.out _ _ _ (Below.refl _ _) rfl (by simp only [d4, Act.put, List.setIfInBounds_toArray, List.set_cons_succ, List.set_cons_zero])
    refine StepsOk.cons (StepU.of ?_) ?_
    · intro vals w' hb hd K hK
      simp only [fillA, fillL, List.setIfInBounds_toArray, List.set_cons_succ, List.set_cons_zero, Nat.zero_add, Nat.reduceAdd] at hK ⊢
      have d5 := hd 5 (by decide)
      simp only [List.getD_cons_zero, List.getD_cons_succ, SP.eq] at d5
      go_simp
      go_at_call 75
      refine (rfour_any n0 hq0 _).mono ?_
      rintro e w2 ⟨v, rfl, hp, hb2⟩
      exact hK.out _ _ _ hb2 hp (by simp only [d5, Act.put, List.setIfInBounds_toArray, List.set_cons_succ, List.set_cons_zero])
    refine StepsOk.cons (StepU.of ?_) ?_
    · intro vals w' hb hd K hK
      simp only [fillA, fillL, List.setIfInBounds_toArray, List.set_cons_succ, List.set_cons_zero, Nat.zero_add, Nat.reduceAdd] at hK ⊢
      have d6 := hd 6 (by decide)
      simp only [List.getD_cons_zero, List.getD_cons_succ, SP.eq] at d6
      obtain ⟨A, c, hv, hp⟩ := id d6
      rw [bytesN_len] at hv
      rw [hv] at d6
      go_simp
      exact hK.out _ _ _ (Below.refl _ _) (PrP.mk (l := bytesN 4 false n0) (by decide) (bytesN_ok 4 false n0) d6) (by simp only [hv, Act.put, List.setIfInBounds_toArray, List.set_cons_succ, List.set_cons_zero])
    refine StepsOk.cons (StepU.of ?_) ?_
    · intro vals w' hb hd K hK
      simp only [fillA, fillL, List.setIfInBounds_toArray, List.set_cons_succ, List.set_cons_zero, Nat.zero_add, Nat.reduceAdd] at hK ⊢
      go_simp
      exact hK.out _ _ _ (Below.refl _ _) rfl (by kernel_rfl)
    refine StepsOk.cons (StepU.of ?_) ?_
    · intro vals w' hb hd K hK
      simp only [fillA, fillL, List.setIfInBounds_toArray, List.set_cons_succ, List.set_cons_zero, Nat.zero_add, Nat.reduceAdd] at hK ⊢
      have d8 := hd 8 (by decide)
      simp only [List.getD_cons_zero, List.getD_cons_succ, SP.eq] at d8
      have hS' := (hS.kept hb).cell
      go_simp
      exact hK.out _ _ _ (Below.refl _ _) rfl (by simp only [d8, Act.put, List.setIfInBounds_toArray, List.set_cons_succ, List.set_cons_zero])
    refine StepsOk.cons (StepU.of ?_) ?_
    · intro vals w' hb hd K hK
      simp only [fillA, fillL, List.setIfInBounds_toArray, List.set_cons_succ, List.set_cons_zero, Nat.zero_add, Nat.reduceAdd] at hK ⊢
      have d9 := hd 9 (by decide)
      simp only [List.getD_cons_zero, List.getD_cons_succ, SP.eq] at d9
      go_simp
      exact hK.out _ _ _ (Below.refl _ _) rfl (by simp only [d9, Act.put, List.setIfInBounds_toArray, List.set_cons_succ, List.set_cons_zero])
    refine StepsOk.cons (StepU.of ?_) ?_
    · intro vals w' hb hd K hK
      simp only [fillA, fillL, List.setIfInBounds_toArray, List.set_cons_succ, List.set_cons_zero, Nat.zero_add, Nat.reduceAdd] at hK ⊢
      have d10 := hd 10 (by decide)
      simp only [List.getD_cons_zero, List.getD_cons_succ, SP.eq] at d10
      go_simp
      go_at_call 75
      refine (rfour_any n1 hq1 _).mono ?_
      rintro e w2 ⟨v, rfl, hp, hb2⟩
      exact hK.out _ _ _ hb2 hp (by simp only [d10, Act.put, List.setIfInBounds_toArray, List.set_cons_succ, List.set_cons_zero])
    refine StepsOk.cons (StepU.of ?_) ?_
    · intro vals w' hb hd K hK
      simp only [fillA, fillL, List.setIfInBounds_toArray, List.set_cons_succ, List.set_cons_zero, Nat.zero_add, Nat.reduceAdd] at hK ⊢
      have d11 := hd 11 (by decide)
      simp only [List.getD_cons_zero, List.getD_cons_succ, SP.eq] at d11
      obtain ⟨A, c, hv, hp⟩ := id d11
      rw [bytesN_len] at hv
      rw [hv] at d11
      go_simp
      exact hK.out _ _ _ (Below.refl _ _) (PrP.mk (l := bytesN 4 false n1) (by decide) (bytesN_ok 4 false n1) d11) (by simp only [hv, Act.put, List.setIfInBounds_toArray, List.set_cons_succ, List.set_cons_zero])
    refine StepsOk.cons (StepU.of ?_) ?_
    · intro vals w' hb hd K hK
      simp only [fillA, fillL, List.setIfInBounds_toArray, List.set_cons_succ, List.set_cons_zero, Nat.zero_add, Nat.reduceAdd] at hK ⊢
      have d2 := hd 2 (by decide)
      simp only [List.getD_cons_zero, List.getD_cons_succ, SP.eq] at d2
      have d7 := hd 7 (by decide)
      simp only [List.getD_cons_zero, List.getD_cons_succ, SP.eq] at d7
      have d12 := hd 12 (by decide)
      simp only [List.getD_cons_zero, List.getD_cons_succ, SP.eq] at d12
      rw [← four1 n0] at d7
      rw [← four1 n1] at d12
      obtain ⟨A, c, hv, hp⟩ := d2.cells
      obtain ⟨A1, c1, hv1, hp1⟩ := d7.cells
      obtain ⟨A2, c2, hv2, hp2⟩ := d12.cells
      generalize hcompP.2.length = m0 at hv hp
      generalize ([n0].flatMap (bytesN 4 false)).length = m1 at hv1 hp1
      generalize ([n1].flatMap (bytesN 4 false)).length = m2 at hv2 hp2
      go_simp
      exact hK.out _ _ _ (bal (Below.refl _ _) _) (PsP.fresh _ [hcompP, irqsP n0, strsP n1] [_, _, _] _ _ 3 ⟨hp, hp1, hp2, trivial⟩ rfl rfl rfl (by decide) (fun b h => by have := hb.size; omega)) (by simp only [hv, hv1, hv2, Act.put, List.setIfInBounds_toArray, List.set_cons_succ, List.set_cons_zero])
    refine StepsOk.cons (StepU.of ?_) ?_
    · intro vals w' hb hd K hK
      simp only [fillA, fillL, List.setIfInBounds_toArray, List.set_cons_succ, List.set_cons_zero, Nat.zero_add, Nat.reduceAdd] at hK ⊢
      have d13 := hd 13 (by decide)
      simp only [List.getD_cons_zero, List.getD_cons_succ, SP.eq] at d13
      obtain ⟨A, c, f, hv, hp⟩ := id d13
      simp only [List.length_cons, List.length_nil, Nat.zero_add, Nat.reduceAdd] at hv
      rw [hv] at d13
      go_simp
      exact hK.out _ _ _ (Below.refl _ _) (TrP.mk (nm := ⟨#[]⟩) (by decide) d13 (TsP.nil 0 none (by simp [maxLen]))) (by simp only [hv, Act.put, List.setIfInBounds_toArray, List.set_cons_succ, List.set_cons_zero])
    refine StepsOk.cons (StepU.of ?_) ?_
    · intro vals w' hb hd K hK
      simp only [fillA, fillL, List.setIfInBounds_toArray, List.set_cons_succ, List.set_cons_zero, Nat.zero_add, Nat.reduceAdd] at hK ⊢
      go_simp
      exact hK.out _ _ _ (bal (Below.refl _ _) _) ⟨_, rfl, hb.size, Blk.new _ _ _⟩ (by kernel_rfl)
    exact StepsOk.nil
  · intro vals w4 hb4 hd
    have d12 := hd 14 (by decide)
    have d13 := hd 15 (by decide)
    simp only [List.getD_cons_zero, List.getD_cons_succ] at d12 d13
    obtain ⟨A, c, B, d, hv, k, hp⟩ := TrP.cells d12
    obtain ⟨g5, hv5, hg5, hG⟩ := d13
    have hnm : (hrootT ⟨nb, rs, nl, ls, n0, n1, n⟩).nm = ⟨#[]⟩ := rfl
    have hn1' : (hrootT ⟨nb, rs, nl, ls, n0, n1, n⟩).ps.length = 3 := rfl
    have hn2' : (hrootT ⟨nb, rs, nl, ls, n0, n1, n⟩).ks.length = 0 := rfl
    rw [hnm, hn1', hn2'] at hv hp
    have hc5 := hG.cell
    have hf5 := hG.frozen
    have hp5 := TrX.leaf hG hp rfl
    obtain ⟨z1, z2, z3⟩ := named_tree (B := w.heap.size) (by omega) hG (.inr rfl) hp5 (hbw.trans (hb4.mono hbw.size))
    have hS5 := (((hS.kept hb4).far (p := ⟨g5, 0, none⟩) (by simp; omega) (.string ⟨#[]⟩)).far (p := ⟨g5, 1, none⟩) (by simp; omega) (.slice A 3 c)).far (p := ⟨g5, 2, none⟩) (by simp; omega) (.slice B 0 d)
    have hR5 := (((hR.kept hb4).far (p := ⟨g5, 0, none⟩) (by simp; omega) (.string ⟨#[]⟩)).far (p := ⟨g5, 1, none⟩) (by simp; omega) (.slice A 3 c)).far (p := ⟨g5, 2, none⟩) (by simp; omega) (.slice B 0 d)
    simp only [List.drop_succ_cons, List.drop_zero, fillA, fillL, List.setIfInBounds_toArray, List.set_cons_succ, List.set_cons_zero, Nat.zero_add, Nat.reduceAdd]
    simp only [hv5, hv]
    generalize vals 0 = u0 at *
    generalize vals 1 = u1 at *
    generalize vals 2 = u2 at *
    generalize vals 3 = u3 at *
    generalize vals 4 = u4 at *
    generalize vals 5 = u5 at *
    generalize vals 6 = u6 at *
    generalize vals 7 = u7 at *
    generalize vals 8 = u8 at *
    generalize vals 9 = u9 at *
    generalize vals 10 = u10 at *
    generalize vals 11 = u11 at *
    generalize vals 12 = u12 at *
    generalize vals 13 = u13 at *
    clear hd d12 hp hp5 hS hR hv5 hu0 hu1 hv
    generalize hw5 : ((w4.setCell ⟨g5, 0, none⟩ (.string ⟨#[]⟩)).setCell ⟨g5, 1, none⟩ (.slice A 3 c)).setCell ⟨g5, 2, none⟩ (.slice B 0 d) = w5 at z1 z2 z3 hS5 hR5
    have hz5 : w1.heap.size ≤ w5.heap.size := by rw [← hw5]; simpa using hb4.size
    go_upto_region 5 with (fail)
    clear hw5 hc5 hf5 hG hb4
    go_upto_region 7 with (fail)
    have hA := Blk.new w5 25 #[.string ⟨#[99, 112, 117, 115]⟩, .slice none 0 0, .slice none 0 0]
    have hg5l := z1.lt
    obtain ⟨wl, hwl⟩ : ∃ wl, w5.alloc (.cells #[.string ⟨#[99, 112, 117, 115]⟩, .slice none 0 0, .slice none 0 0] 25) = wl := ⟨_, rfl⟩
    have hwz : wl.heap.size = w5.heap.size + 1 := by rw [← hwl]; simp
    have hb5l : RowKit.Below w5.heap.size w5 wl := by rw [← hwl]; exact (Below.refl _ _).alloc (Nat.le_refl _) _
    rw [hwl] at hA ⊢
    clear hwl
    generalize hg6 : w5.heap.size = g6 at *
    have hO0 : OwnTs wl (fun b => (b = w.heap.size + 1 ∨ b = g5) ∨ b = g6) (g6 + 1) [] (.slice none 0 0) := OwnTs.nil _ _ _
    go_loopw [7] (fun kv wr => ∃ j : Nat, j ≤ n ∧ kv = .int .u64 j ∧ ∃ A c, Blk wr g6 25 #[.string ⟨#[99, 112, 117, 115]⟩, .slice none 0 0, .slice A j c] ∧ OwnTs wr (fun b => (b = w.heap.size + 1 ∨ b = g5) ∨ b = g6) (g6 + 1) ((List.range j).map cpuT) (.slice A j c) ∧ Below g6 w5 wr) (fun kv _ => n - (intOf kv).toNat)
    case atStart => exact ⟨0, by omega, rfl, none, 0, hA, hO0, hb5l⟩
    case round =>
      obtain ⟨j, hj, rfl, A', c', hA', hO, hbr⟩ := hrel
      clear hA hO0 hb5l
      have hX6 : ∀ b, ((b = w.heap.size + 1 ∨ b = g5) ∨ b = g6) → b < g6 + 1 := fun b h => by omega
      have hS := hS5.below hbr (by omega)
      have cS := hS.cell
      by_cases hlt : j < n
      · go_wp2_with fail
        have hz9 : g6 + 1 ≤ wr.heap.size := by have := hA'.lt; omega
        have hcn := Lib.hid (catName ⟨#[99, 112, 117, 64]⟩ [99, 112, 117] j (by decide +kernel))
        have hcz := catSize 4 j (by decide)
        refine wp_region_spec 11 [37, 38, 39, 40, 41, 42, 43, 44, 45, 46, 47]
          [.eq (.pointer (some ⟨g6, 2, none⟩)), .eq (.slice A' j c'), .eq (.int .u64 j), .eq (.string (strOfNums (hexN j))), .eq (.string (⟨#[99, 112, 117, 64]⟩ ++ strOfNums (hexN j))), .eq (.int .u64 j), RowV 5 encB 1 (bytesN 4 false j), PrV (⟨#[114, 101, 103]⟩, bytesN 4 false j),
            PsV (fun b => ((b = w.heap.size + 1 ∨ b = g5) ∨ b = g6) ∨ (Value.slice A' j c').ownBlock = some b) [(⟨#[114, 101, 103]⟩, bytesN 4 false j)], TrV (fun b => ((b = w.heap.size + 1 ∨ b = g5) ∨ b = g6) ∨ (Value.slice A' j c').ownBlock = some b) (cpuT j),
            TsV (fun b => ((b = w.heap.size + 1 ∨ b = g5) ∨ b = g6) ∨ (Value.slice A' j c').ownBlock = some b) [cpuT j]] (by kernel_rfl) (by kernel_rfl) ?_ ?_
        · unfold StepS
          simp only [List.take_succ_cons, List.take_zero, fillA, fillL, List.setIfInBounds_toArray, List.set_cons_succ, List.set_cons_zero, Nat.zero_add, Nat.reduceAdd]
          refine StepsOk.cons (fun vals w' hb hd K hK => ?_) ?_
          · go_simp
            exact hK.out _ _ _ (Below.refl _ _) rfl (by kernel_rfl)
          refine StepsOk.cons (fun vals w' hb hd K hK => ?_) ?_
          · have d0 := hd 0 (by decide)
            simp only [List.getD_cons_zero, List.getD_cons_succ, SP.eq] at d0
            have cA := (hA'.kept hb).cell
            go_simp
            exact hK.out _ _ _ (Below.refl _ _) rfl (by simp only [d0, Act.put, List.setIfInBounds_toArray, List.set_cons_succ, List.set_cons_zero])
          refine StepsOk.cons (fun vals w' hb hd K hK => ?_) ?_
          · go_simp
            exact hK.out _ _ _ (Below.refl _ _) rfl (by kernel_rfl)
          refine StepsOk.cons (fun vals w' hb hd K hK => ?_) ?_
          · have d2 := hd 2 (by decide)
            simp only [List.getD_cons_zero, List.getD_cons_succ, SP.eq] at d2
            go_simp
            go_at_call 59
            refine (refHex_any j (by omega) _).mono ?_
            rintro e w2 ⟨rfl, rfl⟩
            exact hK.out _ _ _ (Below.refl _ _) rfl (by simp only [d2, Act.put, List.setIfInBounds_toArray, List.set_cons_succ, List.set_cons_zero])
          refine StepsOk.cons (fun vals w' hb hd K hK => ?_) ?_
          · have d3 := hd 3 (by decide)
            simp only [List.getD_cons_zero, List.getD_cons_succ, SP.eq] at d3
            go_simp
            exact hK.out _ _ _ (Below.refl _ _) rfl (by simp only [d3, Act.put, List.setIfInBounds_toArray, List.set_cons_succ, List.set_cons_zero])
          refine StepsOk.cons (fun vals w' hb hd K hK => ?_) ?_
          · go_simp
            exact hK.out _ _ _ (Below.refl _ _) rfl (by kernel_rfl)
          refine StepsOk.cons (fun vals w' hb hd K hK => ?_) ?_
          · have d5 := hd 5 (by decide)
            simp only [List.getD_cons_zero, List.getD_cons_succ, SP.eq] at d5
            go_simp
            go_at_call 75
            refine (rfour_any j (by unfold U64; omega) _).mono ?_
            rintro e w2 ⟨v, rfl, hp, hb2⟩
            exact hK.out _ _ _ hb2 hp (by simp only [d5, Act.put, List.setIfInBounds_toArray, List.set_cons_succ, List.set_cons_zero])
          refine StepsOk.cons (fun vals w' hb hd K hK => ?_) ?_
          · have d6 := hd 6 (by decide)
            simp only [List.getD_cons_zero, List.getD_cons_succ, SP.eq] at d6
            obtain ⟨A, c, hv, hp⟩ := id d6
            rw [bytesN_len] at hv
            rw [hv] at d6
            go_simp
            exact hK.out _ _ _ (Below.refl _ _) (PrP.mk (nm := ⟨#[114, 101, 103]⟩) (by decide) (bytesN_ok 4 false j) d6) (by simp only [hv, Act.put, List.setIfInBounds_toArray, List.set_cons_succ, List.set_cons_zero])
          refine StepsOk.cons (fun vals w' hb hd K hK => ?_) ?_
          · have d7 := hd 7 (by decide)
            simp only [List.getD_cons_zero, List.getD_cons_succ, SP.eq] at d7
            obtain ⟨A, c, hv, hp⟩ := d7.cells
            rw [bytesN_len] at hv hp
            go_simp
            exact hK.out _ _ _ (bal (Below.refl _ _) _) (PsP.fresh _ [(⟨#[114, 101, 103]⟩, bytesN 4 false j)] [_] _ _ 1 ⟨hp, trivial⟩ rfl rfl rfl (by decide) (fun b h => by
              have := hb.size
              rcases h with h | h
              · have := hX6 b h
                omega
              · have := (hO.lt h).2
                omega)) (by simp only [hv, Act.put, List.setIfInBounds_toArray, List.set_cons_succ, List.set_cons_zero])
          refine StepsOk.cons (fun vals w' hb hd K hK => ?_) ?_
          · have d4 := hd 4 (by decide)
            simp only [List.getD_cons_zero, List.getD_cons_succ, SP.eq] at d4
            have d8 := hd 8 (by decide)
            simp only [List.getD_cons_zero, List.getD_cons_succ, SP.eq] at d8
            obtain ⟨A, c, f, hv, hp⟩ := id d8
            simp only [List.length_cons, List.length_nil, Nat.zero_add, Nat.reduceAdd] at hv
            rw [hv] at d8
            go_simp
            have hpr := TrP.mk (nm := strOfNums (atN [99, 112, 117] j)) (by rw [strOfNums_size]; have := atN_len [99, 112, 117] j; unfold maxLen; simp at this; omega) d8 (TsP.nil 0 none (by simp [maxLen]))
            rw [← hcn.out, ← four1 (j : Int)] at hpr
            have e9 : cpuT j = .mk (⟨#[99, 112, 117, 64]⟩ ++ strOfNums (hexN j)) [(⟨#[114, 101, 103]⟩, [(j : Int)].flatMap (bytesN 4 false))] [] := by
              rw [hcn.out]
              rfl
            rw [← e9] at hpr
            exact hK.out _ _ _ (Below.refl _ _) hpr (by simp only [d4, hv, Act.put, List.setIfInBounds_toArray, List.set_cons_succ, List.set_cons_zero])
          refine StepsOk.cons (fun vals w' hb hd K hK => ?_) ?_
          · have d9 := hd 9 (by decide)
            simp only [List.getD_cons_zero, List.getD_cons_succ, SP.eq] at d9
            obtain ⟨A, c, B, d, hv, k, hp⟩ := d9.cells
            generalize (cpuT j).nm = nm at hv hp
            generalize (cpuT j).ps.length = m1 at hv hp
            generalize (cpuT j).ks.length = m2 at hv hp
            go_simp
            exact hK.out _ _ _ (bal (Below.refl _ _) _) (TsP.fresh _ [cpuT j] [_] _ _ 1 ⟨⟨k, hp⟩, trivial⟩ rfl rfl rfl (by decide) (fun b h => by
              have := hb.size
              rcases h with h | h
              · have := hX6 b h
                omega
              · have := (hO.lt h).2
                omega)) (by simp only [hv, Act.put, List.setIfInBounds_toArray, List.set_cons_succ, List.set_cons_zero])
          exact StepsOk.nil
        · intro vals w8 hb8 hd
          have d1 := hd 1 (by decide)
          have d10 := hd 10 (by decide)
          simp only [List.getD_cons_zero, List.getD_cons_succ, SP.eq] at d1 d10
          have hA8 := hA'.kept hb8
          obtain ⟨v', w9, A9, c9, hrun, hO9, hb9, hg9, rfl⟩ := OwnTs.app 23 (hO.kept hb8) (Nat.le_trans hz9 hb8.size) hX6 d10 (by simp; omega)
          obtain ⟨A1, c1, f1, k1, hv10, _⟩ := id d10
          simp only [List.length_cons, List.length_nil, Nat.zero_add, Nat.reduceAdd] at hv10
          rw [hv10] at hrun
          have hA9 := hA8.grown hg9 (fun e => by
            have := (hO.lt e.symm).1
            omega)
          have cA9 := hA9.cell
          have fA9 := hA9.frozen
          have HR := Lib.hid hrun
          simp only [List.length_append, List.length_map, List.length_range, List.length_cons, List.length_nil, Nat.zero_add] at HR
          simp only [List.drop_succ_cons, List.drop_zero, fillA, fillL, List.setIfInBounds_toArray, List.set_cons_succ, List.set_cons_zero, Nat.zero_add, Nat.reduceAdd, d1, hv10]
          clear hrun hd d10 hcn hcz
          go_wp2_with (at_builtin; refine wpList_appr rfl (.tmp 38) (.tmp 47) rfl rfl rfl HR.out ?_)
          have e1 : (List.map cpuT (List.range j) ++ [cpuT j]).length = j + 1 := by simp
          rw [e1] at hO9
          refine ⟨⟨j + 1, by omega, by go_num, A9, c9, hA9.set_ 2 _, ?_, ?_⟩, by simp [intOf]; omega⟩
          · rw [List.range_succ, List.map_append]
            exact OwnTs.turn hO9 (Same.set_in hA9 (by decide) (.inr rfl) 2 _) (fun g hg => Below.heap_setCell _ _ _ _ (by
              have := (hO9.lt hg).1
              simp
              omega))
          · exact ((hbr.trans (hb8.mono (by omega))).trans (hb9.mono (Nat.le_succ _))).setCell (p := ⟨g6, 2, none⟩) (Nat.le_refl _) _
      · obtain rfl : j = n := by omega
        have hG := z1.below hbr (by omega)
        have hR := hR5.below hbr (by omega)
        have hrt := TrX.kept z2 (by rw [hg6]; exact hbr)
        have hbw := z3.trans (hbr.mono (by omega))
        go_wp2_with fail
        clear hS5 z1 hR5 z2 z3 cS
        have hcnb := Lib.hid (catName ⟨#[109, 101, 109, 111, 114, 121, 64]⟩ [109, 101, 109, 111, 114, 121] nb (by decide +kernel))
        have hcnl := Lib.hid (catName ⟨#[108, 111, 97, 100, 101, 114, 64]⟩ [108, 111, 97, 100, 101, 114] nl (by decide +kernel))
        have hcz1 := catSize 7 nb (by decide)
        have hcz2 := catSize 7 nl (by decide)
        have enb : Hid (stretchT [109, 101, 109, 111, 114, 121] nb rs = .mk (⟨#[109, 101, 109, 111, 114, 121, 64]⟩ ++ strOfNums (hexN nb)) [regP nb rs] []) := by
          refine Lib.hid ?_
          rw [hcnb.out]
          rfl
        have enl : Hid (stretchT [108, 111, 97, 100, 101, 114] nl ls = .mk (⟨#[108, 111, 97, 100, 101, 114, 64]⟩ ++ strOfNums (hexN nl)) [regP nl ls] []) := by
          refine Lib.hid ?_
          rw [hcnl.out]
          rfl
        have hX11 : ∀ (w' : World), Below wr.heap.size wr w' → ∀ b, (b = w.heap.size + 1 ∨ b = g5) → b < w'.heap.size := fun w' hb b h => by
          have := hb.size
          have := hA'.lt
          omega
        refine wp_region_spec 20 [50, 51, 52, 53, 54, 55, 56, 57, 58, 59, 60, 61, 62, 63, 64, 65, 66, 67, 68, 69]
          [TrV (fun b => b = w.heap.size + 1 ∨ b = g5) (cpusT j),
            .eq (.pointer (some ⟨w.heap.size, 0, none⟩)), .eq (.pointer (some ⟨w.heap.size, 0, none⟩)), .eq (.int .u64 nb), .eq (.string (strOfNums (hexN nb))), .eq (.string (⟨#[109, 101, 109, 111, 114, 121, 64]⟩ ++ strOfNums (hexN nb))), .eq (.pointer (some ⟨w.heap.size, 0, none⟩)), .eq (.agg #[.int .u64 nb, .int .u64 rs]), PsV (fun b => b = w.heap.size + 1 ∨ b = g5) [regP nb rs], TrV (fun b => b = w.heap.size + 1 ∨ b = g5) (stretchT [109, 101, 109, 111, 114, 121] nb rs),
            .eq (.pointer (some ⟨w.heap.size, 2, none⟩)), .eq (.pointer (some ⟨w.heap.size, 2, none⟩)), .eq (.int .u64 nl), .eq (.string (strOfNums (hexN nl))), .eq (.string (⟨#[108, 111, 97, 100, 101, 114, 64]⟩ ++ strOfNums (hexN nl))), .eq (.pointer (some ⟨w.heap.size, 2, none⟩)), .eq (.agg #[.int .u64 nl, .int .u64 ls]), PsV (fun b => b = w.heap.size + 1 ∨ b = g5) [regP nl ls], TrV (fun b => b = w.heap.size + 1 ∨ b = g5) (stretchT [108, 111, 97, 100, 101, 114] nl ls),
            TsV (fun b => b = w.heap.size + 1 ∨ b = g5) [cpusT j, stretchT [109, 101, 109, 111, 114, 121] nb rs, stretchT [108, 111, 97, 100, 101, 114] nl ls]] (by kernel_rfl) (by kernel_rfl) ?_ ?_
        · unfold StepS
          simp only [List.take_succ_cons, List.take_zero, fillA, fillL, List.setIfInBounds_toArray, List.set_cons_succ, List.set_cons_zero, Nat.zero_add, Nat.reduceAdd]
          refine StepsOk.cons (fun vals w' hb hd K hK => ?_) ?_
          · have cA := (hA'.kept hb).cell
            go_simp
            have hts := TsP.less ((hO.kept hb).ts hX6) (Y := (fun b => b = w.heap.size + 1 ∨ b = g5)) (fun b h => .inl h)
            exact hK.out _ _ _ (Below.refl _ _) (TrP.mk (by decide) (PsP.nil 0 none (by simp [maxLen])) hts) (by kernel_rfl)
          refine StepsOk.cons (fun vals w' hb hd K hK => ?_) ?_
          · go_simp
            exact hK.out _ _ _ (Below.refl _ _) rfl (by kernel_rfl)
          refine StepsOk.cons (fun vals w' hb hd K hK => ?_) ?_
          · have d1 := hd 1 (by decide)
            simp only [List.getD_cons_zero, List.getD_cons_succ, SP.eq] at d1
            go_simp
            exact hK.out _ _ _ (Below.refl _ _) rfl (by simp only [d1, Act.put, List.setIfInBounds_toArray, List.set_cons_succ, List.set_cons_zero])
          refine StepsOk.cons (fun vals w' hb hd K hK => ?_) ?_
          · have d2 := hd 2 (by decide)
            simp only [List.getD_cons_zero, List.getD_cons_succ, SP.eq] at d2
            have cS := (hS.kept hb).cell
            go_simp
            exact hK.out _ _ _ (Below.refl _ _) rfl (by simp only [d2, Act.put, List.setIfInBounds_toArray, List.set_cons_succ, List.set_cons_zero])
          refine StepsOk.cons (fun vals w' hb hd K hK => ?_) ?_
          · have d3 := hd 3 (by decide)
            simp only [List.getD_cons_zero, List.getD_cons_succ, SP.eq] at d3
            go_simp
            go_at_call 59
            refine (refHex_any nb hnb _).mono ?_
            rintro e w2 ⟨rfl, rfl⟩
            exact hK.out _ _ _ (Below.refl _ _) rfl (by simp only [d3, Act.put, List.setIfInBounds_toArray, List.set_cons_succ, List.set_cons_zero])
          refine StepsOk.cons (fun vals w' hb hd K hK => ?_) ?_
          · have d4 := hd 4 (by decide)
            simp only [List.getD_cons_zero, List.getD_cons_succ, SP.eq] at d4
            go_simp
            exact hK.out _ _ _ (Below.refl _ _) rfl (by simp only [d4, Act.put, List.setIfInBounds_toArray, List.set_cons_succ, List.set_cons_zero])
          refine StepsOk.cons (fun vals w' hb hd K hK => ?_) ?_
          · go_simp
            exact hK.out _ _ _ (Below.refl _ _) rfl (by kernel_rfl)
          refine StepsOk.cons (fun vals w' hb hd K hK => ?_) ?_
          · have d6 := hd 6 (by decide)
            simp only [List.getD_cons_zero, List.getD_cons_succ, SP.eq] at d6
            have cS := (hS.kept hb).cell
            go_simp
            exact hK.out _ _ _ (Below.refl _ _) rfl (by simp only [d6, Act.put, List.setIfInBounds_toArray, List.set_cons_succ, List.set_cons_zero])
          refine StepsOk.cons (fun vals w' hb hd K hK => ?_) ?_
          · have d7 := hd 7 (by decide)
            simp only [List.getD_cons_zero, List.getD_cons_succ, SP.eq] at d7
            go_simp
            go_at_call 76
            refine (rreg_any nb rs _ h1 h2 (hX11 _ hb)).mono ?_
            rintro e w2 ⟨v, rfl, hp, hb2⟩
            exact hK.out _ _ _ hb2 hp (by simp only [d7, Act.put, List.setIfInBounds_toArray, List.set_cons_succ, List.set_cons_zero])
          refine StepsOk.cons (fun vals w' hb hd K hK => ?_) ?_
          · have d5 := hd 5 (by decide)
            simp only [List.getD_cons_zero, List.getD_cons_succ, SP.eq] at d5
            have d8 := hd 8 (by decide)
            simp only [List.getD_cons_zero, List.getD_cons_succ, SP.eq] at d8
            obtain ⟨A, c, f, hv, hp⟩ := id d8
            simp only [List.length_cons, List.length_nil, Nat.zero_add, Nat.reduceAdd] at hv
            rw [hv] at d8
            go_simp
            have hpr := TrP.mk (nm := strOfNums (atN [109, 101, 109, 111, 114, 121] nb)) (by rw [strOfNums_size]; have := atN_len [109, 101, 109, 111, 114, 121] nb; unfold maxLen; simp at this; omega) d8 (TsP.nil 0 none (by simp [maxLen]))
            rw [← hcnb.out] at hpr
            rw [← enb.out] at hpr
            exact hK.out _ _ _ (Below.refl _ _) hpr (by simp only [d5, hv, Act.put, List.setIfInBounds_toArray, List.set_cons_succ, List.set_cons_zero])
          refine StepsOk.cons (fun vals w' hb hd K hK => ?_) ?_
          · go_simp
            exact hK.out _ _ _ (Below.refl _ _) rfl (by kernel_rfl)
          refine StepsOk.cons (fun vals w' hb hd K hK => ?_) ?_
          · have d10 := hd 10 (by decide)
            simp only [List.getD_cons_zero, List.getD_cons_succ, SP.eq] at d10
            go_simp
            exact hK.out _ _ _ (Below.refl _ _) rfl (by simp only [d10, Act.put, List.setIfInBounds_toArray, List.set_cons_succ, List.set_cons_zero])
          refine StepsOk.cons (fun vals w' hb hd K hK => ?_) ?_
          · have d11 := hd 11 (by decide)
            simp only [List.getD_cons_zero, List.getD_cons_succ, SP.eq] at d11
            have cS := (hS.kept hb).cell
            go_simp
            exact hK.out _ _ _ (Below.refl _ _) rfl (by simp only [d11, Act.put, List.setIfInBounds_toArray, List.set_cons_succ, List.set_cons_zero])
          refine StepsOk.cons (fun vals w' hb hd K hK => ?_) ?_
          · have d12 := hd 12 (by decide)
            simp only [List.getD_cons_zero, List.getD_cons_succ, SP.eq] at d12
            go_simp
            go_at_call 59
            refine (refHex_any nl hnl _).mono ?_
            rintro e w2 ⟨rfl, rfl⟩
            exact hK.out _ _ _ (Below.refl _ _) rfl (by simp only [d12, Act.put, List.setIfInBounds_toArray, List.set_cons_succ, List.set_cons_zero])
          refine StepsOk.cons (fun vals w' hb hd K hK => ?_) ?_
          · have d13 := hd 13 (by decide)
            simp only [List.getD_cons_zero, List.getD_cons_succ, SP.eq] at d13
            go_simp
            exact hK.out _ _ _ (Below.refl _ _) rfl (by simp only [d13, Act.put, List.setIfInBounds_toArray, List.set_cons_succ, List.set_cons_zero])
          refine StepsOk.cons (fun vals w' hb hd K hK => ?_) ?_
          · go_simp
            exact hK.out _ _ _ (Below.refl _ _) rfl (by kernel_rfl)
          refine StepsOk.cons (fun vals w' hb hd K hK => ?_) ?_
          · have d15 := hd 15 (by decide)
            simp only [List.getD_cons_zero, List.getD_cons_succ, SP.eq] at d15
            have cS := (hS.kept hb).cell
            go_simp
            exact hK.out _ _ _ (Below.refl _ _) rfl (by simp only [d15, Act.put, List.setIfInBounds_toArray, List.set_cons_succ, List.set_cons_zero])
          refine StepsOk.cons (fun vals w' hb hd K hK => ?_) ?_
          · have d16 := hd 16 (by decide)
            simp only [List.getD_cons_zero, List.getD_cons_succ, SP.eq] at d16
            go_simp
            go_at_call 76
            refine (rreg_any nl ls _ h3 h4 (hX11 _ hb)).mono ?_
            rintro e w2 ⟨v, rfl, hp, hb2⟩
            exact hK.out _ _ _ hb2 hp (by simp only [d16, Act.put, List.setIfInBounds_toArray, List.set_cons_succ, List.set_cons_zero])
          refine StepsOk.cons (fun vals w' hb hd K hK => ?_) ?_
          · have d14 := hd 14 (by decide)
            simp only [List.getD_cons_zero, List.getD_cons_succ, SP.eq] at d14
            have d17 := hd 17 (by decide)
            simp only [List.getD_cons_zero, List.getD_cons_succ, SP.eq] at d17
            obtain ⟨A, c, f, hv, hp⟩ := id d17
            simp only [List.length_cons, List.length_nil, Nat.zero_add, Nat.reduceAdd] at hv
            rw [hv] at d17
            go_simp
            have hpr := TrP.mk (nm := strOfNums (atN [108, 111, 97, 100, 101, 114] nl)) (by rw [strOfNums_size]; have := atN_len [108, 111, 97, 100, 101, 114] nl; unfold maxLen; simp at this; omega) d17 (TsP.nil 0 none (by simp [maxLen]))
            rw [← hcnl.out] at hpr
            rw [← enl.out] at hpr
            exact hK.out _ _ _ (Below.refl _ _) hpr (by simp only [d14, hv, Act.put, List.setIfInBounds_toArray, List.set_cons_succ, List.set_cons_zero])
          refine StepsOk.cons (fun vals w' hb hd K hK => ?_) ?_
          · have d0 := hd 0 (by decide)
            simp only [List.getD_cons_zero, List.getD_cons_succ, SP.eq] at d0
            have d9 := hd 9 (by decide)
            simp only [List.getD_cons_zero, List.getD_cons_succ, SP.eq] at d9
            have d18 := hd 18 (by decide)
            simp only [List.getD_cons_zero, List.getD_cons_succ, SP.eq] at d18
            obtain ⟨A0, p0, B0, q0, hv0, k0, hp0⟩ := d0.cells
            obtain ⟨A1, p1, B1, q1, hv1, k1, hp1⟩ := d9.cells
            obtain ⟨A2, p2, B2, q2, hv2, k2, hp2⟩ := d18.cells
            generalize (cpusT j).nm = m0 at hv0 hp0
            generalize (cpusT j).ps.length = m1 at hv0 hp0
            generalize (cpusT j).ks.length = m2 at hv0 hp0
            generalize (stretchT [109, 101, 109, 111, 114, 121] nb rs).nm = m3 at hv1 hp1
            generalize (stretchT [109, 101, 109, 111, 114, 121] nb rs).ps.length = m4 at hv1 hp1
            generalize (stretchT [109, 101, 109, 111, 114, 121] nb rs).ks.length = m5 at hv1 hp1
            generalize (stretchT [108, 111, 97, 100, 101, 114] nl ls).nm = m6 at hv2 hp2
            generalize (stretchT [108, 111, 97, 100, 101, 114] nl ls).ps.length = m7 at hv2 hp2
            generalize (stretchT [108, 111, 97, 100, 101, 114] nl ls).ks.length = m8 at hv2 hp2
            go_simp
            exact hK.out _ _ _ (bal (Below.refl _ _) _) (TsP.fresh _ [cpusT j, stretchT [109, 101, 109, 111, 114, 121] nb rs, stretchT [108, 111, 97, 100, 101, 114] nl ls] [_, _, _] _ _ 3 ⟨⟨k0, hp0⟩, ⟨k1, hp1⟩, ⟨k2, hp2⟩, trivial⟩ rfl rfl rfl (by decide) (hX11 _ hb)) (by simp only [hv0, hv1, hv2, Act.put, List.setIfInBounds_toArray, List.set_cons_succ, List.set_cons_zero])
          exact StepsOk.nil
        · intro vals w8 hb8 hd
          have d7 := hd 19 (by decide)
          simp only [List.getD_cons_zero, List.getD_cons_succ, SP.eq] at d7
          obtain ⟨A7, c7, f7, k7, hv7, _⟩ := id d7
          simp only [List.length_cons, List.length_nil, Nat.zero_add, Nat.reduceAdd] at hv7
          rw [hv7] at d7
          have hG8 := hG.kept hb8
          have hR8 := hR.kept hb8
          have cG8 := hG8.cell
          have fG8 := hG8.frozen
          simp only [List.drop_succ_cons, List.drop_zero, fillA, fillL, List.setIfInBounds_toArray, List.set_cons_succ, List.set_cons_zero, Nat.zero_add, Nat.reduceAdd, hv7]
          clear hd
          have hsm := Same.set_in (X := fun b => b = w.heap.size + 1 ∨ b = g5) hG8 (by decide) (.inr rfl) 2 (.slice A7 3 c7)
          have hps := (TrX.kept hrt hb8).parts.2.2.1
          have ht9 := TrP.mk (nm := ⟨#[]⟩) (by decide) (hps.turn hsm) (d7.turn hsm)
          have hG9 := hG8.set_ 2 (.slice A7 3 c7)
          have hR9 := hR8.far (p := ⟨g5, 2, none⟩) (by simp; omega) (.slice A7 3 c7)
          have hbz := (hbw.trans (hb8.mono (by have := hbw.size; omega))).setCell (p := ⟨g5, 2, none⟩) (by simp; omega) (.slice A7 3 c7)
          obtain ⟨cs9, k9, hcs9, ht9⟩ := ht9
          have hcs9 : cs9 = [.string ⟨#[]⟩, .slice A 3 c, .slice A7 3 c7] := by
            have := congrArg (fun v => match v with | Value.agg a => a.toList | _ => []) hcs9
            simpa using this.symm
          rw [hcs9] at ht9
          obtain ⟨z1, z2, z3⟩ := named_tree (B := w.heap.size) (by omega) hR9 (.inl rfl) ht9 hbz
          have cG9 := hG9.cell
          have cR9 := hR9.cell
          have fR9 := hR9.frozen
          have HZ := Lib.hid z1.cell
          clear z1 hcs9
          go_wp2_with fail
          have cZ := HZ.out
          exact bodyPost_ret (v := .tuple #[.agg #[.string ⟨#[]⟩, .slice A 3 c, .slice A7 3 c7], .int .i64 0]) (by simp [results, Try.results30, go_sem, cZ]) rfl ⟨_, rfl, ⟨_, k9, rfl, z2.less (fun _ h => h.elim)⟩, z3⟩
set_option maxRecDepth 100000 in
set_option maxHeartbeats 1000000 in
theorem rhost_no (x : Bd) (hx : BdOk x) (hfit : fitB x = false) (w : World) : Calls Try.prog 30 #[.agg (encBd x).toArray] w fun e w' => e = .returned (.tuple #[.agg #[.string ⟨#[]⟩, .slice none 0 0, .slice none 0 0], .int .i64 282]) ∧ Below w.heap.size w w' := by
  have HF := Lib.hid (fun w => refFit_any x hx w)
  rw [hfit] at HF
  obtain ⟨rb, rs, lb, ls, n0, n1, n2⟩ := x
  clear hfit
  have HB := Lib.hid (bal (bal (Below.refl w.heap.size w) (.cells #[.int .u64 rb, .int .u64 rs, .int .u64 lb, .int .u64 ls, .int .i64 n0, .int .i64 n1, .int .i64 n2] 39)) (.cells #[.string ⟨#[]⟩, .slice none 0 0, .slice none 0 0] 25))
  have HR := Lib.hid (Blk.fresh (w.alloc (.cells #[.int .u64 rb, .int .u64 rs, .int .u64 lb, .int .u64 ls, .int .i64 n0, .int .i64 n1, .int .i64 n2] 39)) 25 #[.string ⟨#[]⟩, .slice none 0 0, .slice none 0 0] (g := w.heap.size + 1))
  rw [show (encBd ⟨rb, rs, lb, ls, n0, n1, n2⟩).toArray = #[.int .u64 rb, .int .u64 rs, .int .u64 lb, .int .u64 ls, .int .i64 n0, .int .i64 n1, .int .i64 n2] from rfl] at HF ⊢
  go_enter Try.func30, Try.ntmps30
  go_wp2_with (go_at_call 32; refine (HF.out _).mono ?_; rintro e w1 ⟨rfl, hb1⟩; have hR := HR.out.kept hb1; have hc1 := hR.cell; have hf1 := hR.frozen; have hbw := HB.out.trans (hb1.mono HB.out.size); clear hb1)
  have cZ := (((hR.set_ 0 (.string ⟨#[]⟩)).set_ 1 (.slice none 0 0)).set_ 2 (.slice none 0 0)).cell
  exact bodyPost_ret (v := .tuple #[.agg #[.string ⟨#[]⟩, .slice none 0 0, .slice none 0 0], .int .i64 282]) (by simp [results, Try.results30, go_sem, cZ]) rfl ⟨rfl, ((hbw.setCell (p := ⟨w.heap.size + 1, 0, none⟩) (by simp) _).setCell (p := ⟨w.heap.size + 1, 1, none⟩) (by simp) _).setCell (p := ⟨w.heap.size + 1, 2, none⟩) (by simp) _⟩
end Go.Proofs.Ytnkpaockginooaa
