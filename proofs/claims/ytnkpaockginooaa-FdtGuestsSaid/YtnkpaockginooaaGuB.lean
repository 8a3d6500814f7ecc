/- The node of a guest's processors; walked. -/
import Derived.Test.YtnkpaockginooaaGuA
import Derived.Test.YtnkpaockginooaaHostB
namespace Go.Proofs.Ytnkpaockginooaa
set_option linter.unusedVariables false
set_option linter.unusedSimpArgs false
open Go.RowKit Go.Sort
theorem bit_shr (c : Int) (j : Nat) (hc : 0 ≤ c ∧ c < 4294967296) : True := trivial
set_option maxRecDepth 100000 in
set_option maxHeartbeats 2000000 in
theorem procs_any (cpus : Int) (hc : inU32 cpus) (X : Nat → Prop) (w : World) (hX : ∀ b, X b → b < w.heap.size) :
    Calls Try.prog 52 #[.int .u32 cpus] w fun e w' => ∃ v, e = .returned v ∧ TrP X (cpusG cpus) w' v ∧ Below w.heap.size w w' := by
  go_enter Try.func52, Try.ntmps52
  go_upto_region 1 with (fail)
  have hR1 := Blk.new w 25 #[.string ⟨#[]⟩, .slice none 0 0, .slice none 0 0]
  have hb1 := bal (Below.refl w.heap.size w) (.cells #[.string ⟨#[]⟩, .slice none 0 0, .slice none 0 0] 25)
  have hz1 : (w.alloc (.cells #[.string ⟨#[]⟩, .slice none 0 0, .slice none 0 0] 25)).heap.size = w.heap.size + 1 := by simp
  generalize w.alloc (.cells #[.string ⟨#[]⟩, .slice none 0 0, .slice none 0 0] 25) = w1 at *
  have HZ1 := Lib.hid hz1
  clear hz1
  have HF1 := Lib.hid (gfour_any nAddr (some ⟨w1.heap.size, 0, none⟩) 1 1 [1] (w1.alloc (.cells #[.int .u32 1] 44)) (by decide) rfl (by decide) (by decide) (Rd.fresh w1 #[.int .u32 1] 44 1 1 _ rfl rfl))
  have HXl := Lib.hid (show ∀ b, (X b ∨ b = w.heap.size) → b < w1.heap.size from fun b hb => by
    rw [HZ1.out]
    rcases hb with hb | hb
    · have := hX b hb; omega
    · omega)
  go_upto_region 2 with (first
    | (go_at_call 50; first
      | ((with_reducible refine HF1.out.mono ?_); rintro e w2 ⟨v1, rfl, hp1, hb2⟩; obtain ⟨A1, c1, hv1, hx1⟩ := hp1.cells; generalize ((nAddr, [(1 : Int)].flatMap (bytesN 4 false)) : Pr).2.length = m1 at hv1 hx1; subst hv1; clear HF1; have HF2 := Lib.hid (gfour_any nSize (some ⟨w2.heap.size, 0, none⟩) 1 1 [0] (w2.alloc (.cells #[.int .u32 0] 44)) (by decide) rfl (by decide) (by decide) (Rd.fresh w2 #[.int .u32 0] 44 1 1 _ rfl rfl)))
      | ((with_reducible refine HF2.out.mono ?_); rintro e w3 ⟨v2, rfl, hp2, hb3⟩; obtain ⟨A2, c2, hv2, hx2⟩ := hp2.cells; generalize ((nSize, [(0 : Int)].flatMap (bytesN 4 false)) : Pr).2.length = m2 at hv2 hx2; subst hv2; clear HF2; have hb3' := below_alloc hb3; have hb2' := below_alloc hb2; have hbl3 := hb2'.trans (hb3'.mono hb2'.size); have hP3 := PsP.fresh (X := fun b => X b ∨ b = w.heap.size) w3 cpuPs [_, _] (#[.string nAddr, .slice A1 m1 c1, .string nSize, .slice A2 m2 c2]) w3.heap.size 2 ⟨hx1.kept hb3', hx2, trivial⟩ rfl rfl rfl (by decide) (fun b hb => Nat.lt_of_lt_of_le (HXl.out b hb) hbl3.size); have HN := Lib.hid (gnode_any ⟨#[99, 112, 117, 115]⟩ cpuPs _ _ (by decide) hP3)))
    | (go_at_call 49; go_loud ((with_reducible refine HN.out.mono ?_); rintro e w4 ⟨v3, rfl, rfl, hp4, hb4⟩)))
  have hb3' := below_alloc hb3
  have hb2' := below_alloc hb2
  have hb4' := below_alloc hb4
  have hbl4 := ((hb1.trans (hb2'.mono hb1.size)).trans (hb3'.mono (hb1.trans (hb2'.mono hb1.size)).size)).trans (hb4'.mono ((hb1.trans (hb2'.mono hb1.size)).trans (hb3'.mono (hb1.trans (hb2'.mono hb1.size)).size)).size)
  have hR4 := ((hR1.kept hb2').kept hb3').kept hb4'
  have hPB := (hP3.kept hb4).kept (bal (Below.refl _ _) (.cells #[.string ⟨#[99, 112, 117, 115]⟩, .slice (some ⟨w3.heap.size, 0, none⟩) 2 2, .slice none 0 0] 25))
  have hTB := Blk.new w4 25 #[.string ⟨#[99, 112, 117, 115]⟩, .slice (some ⟨w3.heap.size, 0, none⟩) 2 2, .slice none 0 0]
  have hRB := hR4.kept (bal (Below.refl _ _) (.cells #[.string ⟨#[99, 112, 117, 115]⟩, .slice (some ⟨w3.heap.size, 0, none⟩) 2 2, .slice none 0 0] 25))
  have hbB := bal' hbl4 (.cells #[.string ⟨#[99, 112, 117, 115]⟩, .slice (some ⟨w3.heap.size, 0, none⟩) 2 2, .slice none 0 0] 25) hbl4.size
  have hzB : (w4.alloc (.cells #[.string ⟨#[99, 112, 117, 115]⟩, .slice (some ⟨w3.heap.size, 0, none⟩) 2 2, .slice none 0 0] 25)).heap.size = w4.heap.size + 1 := by simp
  have hrz : w.heap.size < w4.heap.size := hR4.lt
  clear hp1 hp2 hx1 hx2 hP3 HN hp4 hb2 hb3 hb4 hb2' hb3' hb4' hbl4 hR1 hR4 hb1 HZ1 HXl
  generalize w4.alloc (.cells #[.string ⟨#[99, 112, 117, 115]⟩, .slice (some ⟨w3.heap.size, 0, none⟩) 2 2, .slice none 0 0] 25) = wB at *
  generalize hvp : (Value.slice (some ⟨w3.heap.size, 0, none⟩) 2 2) = vps at *
  generalize hbz : w4.heap.size = bz at *
  clear hvp hbz
  obtain ⟨X', hX'⟩ : ∃ X' : Nat → Prop, X' = fun b => (X b ∨ b = w.heap.size) ∨ b = bz := ⟨_, rfl⟩
  have hPB := hPB.moreB hTB
  rw [← hX'] at hPB
  have hXb : ∀ b, X' b → b < bz + 1 := fun b hb => by
    rw [hX'] at hb
    rcases hb with (hb | hb) | hb
    · have := hX b hb; omega
    · omega
    · omega
  have hXz : X' bz := by rw [hX']; exact .inr rfl
  have hXr : X' w.heap.size := by rw [hX']; exact .inl (.inr rfl)
  have hXX : ∀ b, X b → X' b := fun b hb => by rw [hX']; exact .inl (.inl hb)
  have hM0 : TB wB X' bz (bz + 1) ⟨#[99, 112, 117, 115]⟩ cpuPs [] vps (.slice none 0 0) := ⟨hTB, hPB, OwnTs.nil _ _ _, by omega⟩
  clear hX' hPB hTB
  have HM0 := Lib.hid hM0
  have HR0 := Lib.hid hRB
  have HB0 := Lib.hid hbB
  clear hM0 hRB hbB hzB
  go_wp2_with fail
  go_loopw [11] (fun kv wr => ∃ (j : Nat) (vks : Value), j ≤ 32 ∧ kv = .int .u32 j ∧ TB wr X' bz (bz + 1) ⟨#[99, 112, 117, 115]⟩ cpuPs (((List.range j).filter (bitG cpus)).map cpuG) vps vks ∧ Blk wr w.heap.size 25 #[.string ⟨#[]⟩, .slice none 0 0, .slice none 0 0] ∧ Below w.heap.size w wr) (fun kv _ => 32 - (intOf kv).toNat)
  case atStart => exact ⟨0, _, by omega, rfl, HM0.out, HR0.out, HB0.out⟩
  case round =>
    clear HM0 HR0 HB0
    obtain ⟨j, vks, hj, rfl, hM, hR, hbw⟩ := hrel
    by_cases hlt : j < 32
    · have hfl : (List.range (j + 1)).filter (bitG cpus) = (List.range j).filter (bitG cpus) ++ (if bitG cpus j then [j] else []) := by
        rw [List.range_succ, List.filter_append]
        congr 1
        cases h : bitG cpus j <;> simp [h]
      have e32 : decide ((j : Int) < 32) = true := decide_eq_true (by omega)
      have HFl := Lib.hid hfl
      clear hfl
      by_cases hbit : bitG cpus j = true
      · have hbt : (bits .and .u32 (cpus / 2 ^ j) 1 == 1) = true := hbit
        have HBit := Lib.hid hbit
        clear hbit
        go_upto_region 6 with (fail)
        clear hbt
        have hXl : ∀ (w' : World), Below wr.heap.size wr w' → ∀ b, (X' b ∨ vks.ownBlock = some b) → b < w'.heap.size := fun w' hb b h => by
          have := hb.size
          have := hM.size
          rcases h with h | h
          · have := hXb b h; omega
          · have := (hM.ks.lt h).2; omega
        have huj : IntKind.u64.wrap j = j := by show (j : Int) % 18446744073709551616 = j; omega
        refine wp_region_spec 12 [19, 20, 21, 22, 23, 24, 25, 26, 27, 28, 29, 30] [.eq (.pointer (some ⟨bz, 2, none⟩)), .eq (vks), .eq (.int .u32 ((j : Int))), .eq (.int .u64 ((j : Int))), .eq (.string (strOfNums (atN [99, 112, 117] j))), PrV (⟨#[100, 101, 118, 105, 99, 101, 95, 116, 121, 112, 101]⟩, strB ⟨#[99, 112, 117]⟩ ++ [0]), .eq (.int .u32 ((j : Int))), RowV 44 encU32 1 [(j : Int)], PrV (⟨#[114, 101, 103]⟩, [(j : Int)].flatMap (bytesN 4 false)), PsV (fun b => X' b ∨ vks.ownBlock = some b) [(⟨#[100, 101, 118, 105, 99, 101, 95, 116, 121, 112, 101]⟩, strB ⟨#[99, 112, 117]⟩ ++ [0]), (⟨#[114, 101, 103]⟩, [(j : Int)].flatMap (bytesN 4 false))], TrV (fun b => X' b ∨ vks.ownBlock = some b) (cpuG j), TsV (fun b => X' b ∨ vks.ownBlock = some b) [(cpuG j)]] (by kernel_rfl) (by kernel_rfl) ?_ ?_
        · unfold StepS
          simp only [List.take_succ_cons, List.take_zero, fillA, fillL, List.setIfInBounds_toArray, List.set_cons_succ, List.set_cons_zero, Nat.zero_add, Nat.reduceAdd]
          refine StepsOk.cons (fun vals w' hb hd K hK => ?_) ?_
          · go_simp
            exact hK.out _ _ _ (Below.refl _ _) rfl (by kernel_rfl)
          refine StepsOk.cons (fun vals w' hb hd K hK => ?_) ?_
          · have d0 := hd 0 (by decide)
            simp only [List.getD_cons_zero, List.getD_cons_succ, SP.eq] at d0
            have hS' := (hM.box.kept hb).cell
            go_simp
            exact hK.out _ _ _ (Below.refl _ _) rfl (by simp only [d0, Act.put, List.setIfInBounds_toArray, List.set_cons_succ, List.set_cons_zero])
          refine StepsOk.cons (fun vals w' hb hd K hK => ?_) ?_
          · go_simp
            exact hK.out _ _ _ (Below.refl _ _) rfl (by kernel_rfl)
          refine StepsOk.cons (fun vals w' hb hd K hK => ?_) ?_
          · have d2 := hd 2 (by decide)
            simp only [List.getD_cons_zero, List.getD_cons_succ, SP.eq] at d2
            go_simp
            exact hK.out _ _ _ (Below.refl _ _) rfl (by simp only [d2, Act.put, List.setIfInBounds_toArray, List.set_cons_succ, List.set_cons_zero])
          refine StepsOk.cons (fun vals w' hb hd K hK => ?_) ?_
          · have d3 := hd 3 (by decide)
            simp only [List.getD_cons_zero, List.getD_cons_succ, SP.eq] at d3
            have e0 : (⟨#[99, 112, 117]⟩ : ByteArray) = strOfNums [99, 112, 117] := by decide +kernel
            go_simp
            go_at_call 53
            refine (gat_any [99, 112, 117] j _ (by decide) (by omega)).mono ?_
            rintro e w2 ⟨rfl, hb2⟩
            exact hK.out _ _ _ hb2 rfl (by simp only [d3, Act.put, List.setIfInBounds_toArray, List.set_cons_succ, List.set_cons_zero])
          refine StepsOk.cons (fun vals w' hb hd K hK => ?_) ?_
          · go_simp
            go_at_call 51
            refine (gsaid_any _ _ _ (by decide) (by decide)).mono ?_
            rintro e w2 ⟨v, rfl, hp, hb2⟩
            exact hK.out _ _ _ hb2 hp (by kernel_rfl)
          refine StepsOk.cons (fun vals w' hb hd K hK => ?_) ?_
          · go_simp
            exact hK.out _ _ _ (Below.refl _ _) rfl (by kernel_rfl)
          refine StepsOk.cons (fun vals w' hb hd K hK => ?_) ?_
          · have d6 := hd 6 (by decide)
            simp only [List.getD_cons_zero, List.getD_cons_succ, SP.eq] at d6
            go_simp
            exact hK.out _ _ _ (bal (Below.refl _ _) _) (RowP.fresh _ [(j : Int)] _ 1 _ rfl rfl rfl rfl (by decide)) (by simp only [d6, Act.put, List.setIfInBounds_toArray, List.set_cons_succ, List.set_cons_zero])
          refine StepsOk.cons (fun vals w' hb hd K hK => ?_) ?_
          · have d7 := hd 7 (by decide)
            simp only [List.getD_cons_zero, List.getD_cons_succ, SP.eq] at d7
            obtain ⟨A, c, hv, h1, h2, h3, _⟩ := d7
            simp only [List.length_cons, List.length_nil, Nat.zero_add, Nat.reduceAdd] at hv h3
            go_simp
            go_at_call 50
            refine (gfour_any _ A 1 c [(j : Int)] _ (by decide) rfl (by decide) (by intro x hx; simp at hx; subst hx; omega) h3).mono ?_
            rintro e w2 ⟨v, rfl, hp, hb2⟩
            exact hK.out _ _ _ hb2 hp (by simp only [hv, Act.put, List.setIfInBounds_toArray, List.set_cons_succ, List.set_cons_zero])
          refine StepsOk.cons (fun vals w' hb hd K hK => ?_) ?_
          · have d5 := hd 5 (by decide)
            simp only [List.getD_cons_zero, List.getD_cons_succ, SP.eq] at d5
            have d8 := hd 8 (by decide)
            simp only [List.getD_cons_zero, List.getD_cons_succ, SP.eq] at d8
            obtain ⟨A5, c5, hv5, hp5⟩ := d5.cells
            generalize ((⟨#[100, 101, 118, 105, 99, 101, 95, 116, 121, 112, 101]⟩, strB ⟨#[99, 112, 117]⟩ ++ [0]) : Pr).2.length = m5 at hv5 hp5
            obtain ⟨A8, c8, hv8, hp8⟩ := d8.cells
            generalize ((⟨#[114, 101, 103]⟩, [(j : Int)].flatMap (bytesN 4 false)) : Pr).2.length = m8 at hv8 hp8
            go_simp
            exact hK.out _ _ _ (bal (Below.refl _ _) _) (PsP.fresh _ [(⟨#[100, 101, 118, 105, 99, 101, 95, 116, 121, 112, 101]⟩, strB ⟨#[99, 112, 117]⟩ ++ [0]), (⟨#[114, 101, 103]⟩, [(j : Int)].flatMap (bytesN 4 false))] [_, _] _ _ 2 ⟨hp5, hp8, trivial⟩ rfl rfl rfl (by decide) (hXl _ hb)) (by simp only [hv5, hv8, Act.put, List.setIfInBounds_toArray, List.set_cons_succ, List.set_cons_zero])
          refine StepsOk.cons (fun vals w' hb hd K hK => ?_) ?_
          · have d4 := hd 4 (by decide)
            simp only [List.getD_cons_zero, List.getD_cons_succ, SP.eq] at d4
            have d9 := hd 9 (by decide)
            simp only [List.getD_cons_zero, List.getD_cons_succ, SP.eq] at d9
            obtain ⟨A, c, f, hv, hp⟩ := id d9
            simp only [List.length_cons, List.length_nil, Nat.zero_add, Nat.reduceAdd] at hv
            rw [hv] at d9
            go_simp
            go_at_call 49
            refine (gnode_any _ _ _ _ (by rw [strOfNums_size]; have := atN_len [99, 112, 117] j; unfold maxLen; simp at this; omega) d9).mono ?_
            rintro e w2 ⟨v, rfl, _, hp, hb2⟩
            exact hK.out _ _ _ hb2 hp (by simp only [d4, hv, Act.put, List.setIfInBounds_toArray, List.set_cons_succ, List.set_cons_zero])
          refine StepsOk.cons (fun vals w' hb hd K hK => ?_) ?_
          · have d10 := hd 10 (by decide)
            simp only [List.getD_cons_zero, List.getD_cons_succ, SP.eq] at d10
            obtain ⟨A, c, B, e, hv, k, hp⟩ := d10.cells
            generalize ((cpuG j) : Tr).nm = q0 at hv hp
            generalize ((cpuG j) : Tr).ps.length = q1 at hv hp
            generalize ((cpuG j) : Tr).ks.length = q2 at hv hp
            go_simp
            exact hK.out _ _ _ (bal (Below.refl _ _) _) (TsP.fresh _ [(cpuG j)] [_] _ _ 1 ⟨⟨k, hp⟩, trivial⟩ rfl rfl rfl (by decide) (hXl _ hb)) (by simp only [hv, Act.put, List.setIfInBounds_toArray, List.set_cons_succ, List.set_cons_zero])
          exact StepsOk.nil
        · intro vals w8 hb8 hd
          have d1 := hd 1 (by decide)
          have d11 := hd 11 (by decide)
          simp only [List.getD_cons_zero, List.getD_cons_succ, SP.eq] at d1 d11
          obtain ⟨A9, c9, f9, k9, hv9, _⟩ := id d11
          simp only [List.length_cons, List.length_nil, Nat.zero_add, Nat.reduceAdd] at hv9
          have hks : (((List.range j).filter (bitG cpus)).map cpuG).length ≤ 1000000 := by
            rw [List.length_map]
            have := List.length_filter_le (bitG cpus) (List.range j)
            simp at this
            omega
          obtain ⟨w9, A, c, hr, hT9, hM9, hb9, hB9, _⟩ := (hM.kept hb8).add d11 hXz hXb hks
          rw [hv9] at hr
          have hR9 := hB9 _ _ _ (by omega) (by omega) (hR.kept hb8)
          simp only [List.drop_succ_cons, List.drop_zero, fillA, fillL, List.setIfInBounds_toArray, List.set_cons_succ, List.set_cons_zero, Nat.zero_add, Nat.reduceAdd, d1, hv9]
          clear hd
          refine wpList_appr rfl (.tmp 20) (.tmp 30) rfl rfl rfl hr ?_
          have cT9 := hT9.cell
          have fT9 := hT9.frozen
          have hbw9 := (hbw.trans (hb8.mono hbw.size)).trans (hb9.mono (by omega))
          have HM9 := Lib.hid hM9
          have HR9 := Lib.hid hR9
          have HB9 := Lib.hid hbw9
          clear hM9 hR9 hB9 hbw9 hr
          generalize (((List.range j).filter (bitG cpus)).map cpuG).length + 1 = nk at *
          go_wp2_with fail
          go_roundw
          case rel =>
            refine ⟨j + 1, .slice A nk c, by omega, by go_num, ?_, HR9.out, HB9.out⟩
            rw [HFl.out, if_pos HBit.out, List.map_append]
            exact HM9.out
          case measure => simp [intOf]; omega
      · have hbt : (bits .and .u32 (cpus / 2 ^ j) 1 == 1) = false := by simpa [bitG] using hbit
        have HBit := Lib.hid hbit
        clear hbit
        go_wp2_with fail
        go_roundw
        case rel =>
          refine ⟨j + 1, vks, by omega, by go_num, ?_, hR, hbw⟩
          rw [HFl.out, if_neg HBit.out, List.append_nil]
          exact hM
        case measure => simp [intOf]; omega
    · obtain rfl : j = 32 := by omega
      have cM := hM.box.cell
      have cR := hR.cell
      have fR := hR.frozen
      have hT := TrP.mk (nm := ⟨#[99, 112, 117, 115]⟩) (by decide) hM.ps (hM.ks.ts hXb)
      obtain ⟨Av, cv, Bv, ev, hvv, kv, hpv⟩ := hT.cells
      generalize (Tr.mk ⟨#[99, 112, 117, 115]⟩ cpuPs (((List.range 32).filter (bitG cpus)).map cpuG)).ps.length = q1 at hvv hpv
      generalize (Tr.mk ⟨#[99, 112, 117, 115]⟩ cpuPs (((List.range 32).filter (bitG cpus)).map cpuG)).ks.length = q2 at hvv hpv
      simp only [Value.agg.injEq, Array.mk.injEq, List.cons.injEq, and_true] at hvv
      obtain ⟨_, rfl, rfl⟩ := hvv
      have hpv : TrX wr X' kv (Tr.mk ⟨#[99, 112, 117, 115]⟩ cpuPs (((List.range 32).filter (bitG cpus)).map cpuG)) [.string ⟨#[99, 112, 117, 115]⟩, .slice Av q1 cv, .slice Bv q2 ev] := hpv
      obtain ⟨z1, z2, z3⟩ := named_tree (B := w.heap.size) (w := w) (Nat.le_refl _) hR hXr hpv hbw
      have cZ := z1.cell
      have HZ := Lib.hid (And.intro z2 z3)
      clear z1 z2 z3 hpv hT
      go_wp2_with fail
      exact bodyPost_ret (v := .agg #[.string ⟨#[99, 112, 117, 115]⟩, .slice Av q1 cv, .slice Bv q2 ev]) (by simp [results, Try.results52, go_sem, cZ]) rfl ⟨_, rfl, ⟨_, kv, rfl, HZ.out.1.less hXX⟩, HZ.out.2⟩
