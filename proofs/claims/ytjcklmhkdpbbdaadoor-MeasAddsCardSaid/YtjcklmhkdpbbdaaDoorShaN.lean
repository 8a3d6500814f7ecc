/- Chapter 3: the document's sum, walked. -/
import Derived.Test.YtjcklmhkdpbbdaaDoorShaE
namespace Go.Proofs.YtjcklmhkdpbbdaaDoor
set_option linter.unusedVariables false
set_option linter.unusedSimpArgs false
open Go.RowKit Go.Sort

theorem padB_mod (l : List Int) : (l ++ padB l.length).length % 64 = 0 := by
  rw [List.length_append, padB_len]; unfold padK; omega
/-- Of the i-th word's bytes the first j laid. -/
def setsN (V : V8) (i : Nat) : Nat → List Value
  | 0 => (outN V i).flatMap encB
  | j + 1 => (setsN V i j).set (4 * i + j) (.int .u8 (bw (V.get i) (24 - 8 * j)))
theorem setsN_all (V : V8) {i : Nat} (hi : i < 8) : setsN V i 4 = (outN V (i + 1)).flatMap encB := outN_set V hi
theorem setsN_len (V : V8) (i : Nat) : ∀ j, (setsN V i j).length = 32
  | 0 => by rw [setsN, flatB_len, outN_len]
  | j + 1 => by rw [setsN, List.length_set, setsN_len V i j]
theorem near_of_store {g : Nat} {w w' : World} (h : ∀ B, B ≤ g → Below B w w') (hz : w'.heap.size = w.heap.size) (hh : ∀ i, i ≠ g → w'.heap[i]? = w.heap[i]?) : Near (fun i => i = g) w w' :=
  ⟨(h g (Nat.le_refl _)).os, (h g (Nat.le_refl _)).tape, (h g (Nat.le_refl _)).output, by omega, fun i _ hn => hh i hn⟩
/-- While the blocks are taken in: k of them are. -/
def RsI (w : World) (g4 : Nat) (M : List Int) (k R C : Nat) (A : Option Addr) (wr : World) : Prop :=
  64 * k + R = M.length ∧ R ≤ C ∧ Rd wr wr.heap.size 1 A R ((M.drop (64 * k)).flatMap encB) ∧ Blk wr g4 35 (hashN vI M k).cs.toArray ∧ Blk wr w.heap.size 26 (Array.replicate 32 (.int .u8 0)) ∧ Below w.heap.size w wr ∧ w.heap.size < g4 ∧ (0 < R → ∀ ad, A = some ad → ad.block ≠ g4)

set_option maxRecDepth 100000 in
set_option maxHeartbeats 4000000 in
theorem refSum_any (A : Option Addr) (n c : Nat) (l : List Int) (w : World) (hl : l.length = n) (hok : BytesOk l) (hm : n ≤ 10000000000) (hr : Rd w w.heap.size 1 A n (l.flatMap encB)) :
    Calls Tryd.prog 17 #[.slice A n c] w fun e w' => e = .returned (.agg ((sumB l).flatMap encB).toArray) ∧ Below w.heap.size w w' := by
  have HL := Lib.hid hl
  have HOK := Lib.hid hok
  have HR := Lib.hid hr
  have hzn := (zero_of_info info_node).1
  have hz8 := (zero_of_info info_w8).1
  have hst8 := fun W => store_w8 vI W
  have hsz8 : vI.cs.toArray.size = 8 := rfl
  have q1 : IntKind.u64.wrap (n : Int) = (n : Int) := by rw [IntKind.wrap_u64]; omega
  have HP := Lib.hid (fun W => refPad_any (n : Int) (by omega) (by omega) W)
  have HIn := Lib.hid (fun W => refInit_any W)
  have Hb0 := Lib.hid (bal (Below.refl w.heap.size w) (.cells (Array.replicate 32 (.int .u8 0)) 26))
  have HZ0 := Lib.hid (Blk.new w 26 (Array.replicate 32 (.int .u8 0)))
  have HMd := Lib.hid (padB_mod l)
  have hpl := padB_len (n : Int)
  have hpo := padB_ok (n : Int)
  have hpk := padK_lt (n : Int)
  rw [hl] at HMd
  have HS : Hid (sumV vI l = hashN vI (l ++ padB (n : Int)) ((l ++ padB (n : Int)).length / 64)) := Lib.hid (by unfold sumV; rw [hl])
  generalize padB (n : Int) = pb at *
  generalize padK (n : Int) = pk at *
  have HPl := Lib.hid hpl
  have HPo := Lib.hid hpo
  have m1 := Lib.hid (show 0 + n ≤ maxLen by unfold maxLen; omega)
  have m2 := Lib.hid (show (0 + n) * 1 ≤ 140737488355328 by omega)
  have m3 := Lib.hid (show n + (pk + 9) ≤ maxLen by unfold maxLen; omega)
  have m4 := Lib.hid (show (n + (pk + 9)) * 1 ≤ 140737488355328 by omega)
  obtain ⟨C0, hC0⟩ : ∃ x, vI.cs = x := ⟨_, rfl⟩
  rw [hC0] at hst8 hsz8 HIn
  have HC0 := Lib.hid hC0
  clear hl hok hr hpl hpo hC0
  go_enter Tryd.func17, Tryd.ntmps17
  go_upto_region 2 with (first
    | (at_builtin; refine wpList_app u8_elem rfl (.const (.slice none 0 0)) (.tmp 8) rfl (w.alloc (.cells (Array.replicate 32 (.int .u8 0)) 26)).heap.size (World.ownsRow_nil _ _ _ _) rfl rfl (HR.out.alloc (Nat.le_refl _) _) (one_b l) m1.out m2.out (Nat.le_refl _) ?_
       intro v1 w1 hown1 hb1 hgr1
       obtain ⟨A1, c1, rfl, _, _⟩ := own_slice hown1)
    | (go_at_call 20; refine (HP.out _).mono ?_; rintro e w2 ⟨A2, c2, rfl, hown2, hb2⟩; have hown1' := own_kept hown1 hb2; rw [Nat.zero_add, List.nil_append] at hown1')
    | (at_builtin; refine wpList_app u8_elem rfl (.tmp 9) (.tmp 13) rfl (w.alloc (.cells (Array.replicate 32 (.int .u8 0)) 26)).heap.size hown1' rfl rfl (Rd.of_own hown2) (one_b pb) m3.out m4.out (Nat.le_trans hb1.size hb2.size) ?_
       intro v3 w3 hown3 hb3 hgr3
       obtain ⟨A3, c3, rfl, hc3, hr3⟩ := own_slice hown3))
  obtain ⟨N, hN⟩ : ∃ N, n + (pk + 9) = N := ⟨_, rfl⟩
  rw [hN] at hown3 hc3 hr3
  have HMl : Hid ((l ++ pb).length = N) := Lib.hid (by rw [List.length_append, HL.out, HPl.out, hN])
  rw [← List.flatMap_append] at hr3 hown3
  have hb12 := hb1.trans (hb2.mono hb1.size)
  have hbA := hb12.trans hb3
  have hZ3 := HZ0.out.below hbA (by simp)
  have hbw3 := Hb0.out.trans (hbA.mono Hb0.out.size)
  obtain ⟨M, hMe⟩ : ∃ M, l ++ pb = M := ⟨_, rfl⟩
  rw [hMe] at hr3 HMl HMd HS
  have HMo : Hid (BytesOk M) := Lib.hid (by rw [← hMe]; exact fun x hx => (List.mem_append.1 hx).elim (HOK.out x) (HPo.out x))
  have HNb := Lib.hid (show N ≤ 20000000000 by omega)
  clear hown1 hown1' hown2 hb1 hb2 hb3 hgr1 hgr3 hown3 hb12 hbA HP HR HOK HPo m1 m2 m3 m4 hMe HPl HZ0 Hb0
  rw [hN]
  clear hN
  go_upto_region 3 with (go_at_call 53; refine (HIn.out _).mono ?_; rintro e w4 ⟨rfl, hb4⟩)
  refine wp_name ?_
  intro w5 hw5
  have hb5 : RowKit.Below w3.heap.size w3 w5 := by rw [hw5]; exact bal' hb4 _ hb4.size
  have HI0 : Hid (RsI w w4.heap.size M 0 N c3 A3 w5) := Lib.hid (by
    have hz := hZ3.lt
    refine ⟨by rw [HMl.out]; omega, hc3, by rw [Nat.mul_zero, List.drop_zero]; exact (hr3.below hb5).more hb5.size, ?_, hZ3.kept hb5, hbw3.trans (hb5.mono hbw3.size), by have := hb4.size; omega, ?_⟩
    · rw [hw5]
      show Blk _ _ _ vI.cs.toArray
      rw [HC0.out]; exact Blk.new _ _ _
    · rintro hp ad rfl
      obtain ⟨b, o, e, hlt, _⟩ := hr3.2 hp
      obtain rfl := Option.some.inj e
      have := hb4.size
      show b ≠ _
      omega)
  obtain ⟨g4, hg4⟩ : ∃ g, w4.heap.size = g := ⟨_, rfl⟩
  rw [hg4] at HI0 ⊢
  clear hw5 hb5 hb4 hZ3 hbw3 hr3 hc3 hg4 hst8 HIn
  go_loopw [3] (fun x wr => ∃ (k R C' : Nat) (A' : Option Addr), x = .slice A' R C' ∧ Hid (RsI w g4 M k R C' A' wr)) (fun x _ => slen x)
  case atStart => exact ⟨_, _, _, _, rfl, HI0⟩
  case round =>
    obtain ⟨k, R, C', A', rfl, HI⟩ := hrel
    clear HI0
    by_cases hlt : 0 < R
    · have hR64 : 64 ≤ R := by
        obtain ⟨h1, _⟩ := HI.out
        have := HMd.out
        omega
      obtain ⟨h1, h2, hr, hB, hZ, hbw, hg, hne⟩ := HI.out
      have hNb := HNb.out
      have hNl := HMl.out
      obtain ⟨ba, o, rfl, hlt2, hcs⟩ := hr.2 (by omega)
      have hbs : ((M.drop (64 * k)).take 64).length = 64 := by simp; omega
      have hbo : BytesOk ((M.drop (64 * k)).take 64) := fun x hx => HMo.out x (List.mem_of_mem_drop (List.mem_of_mem_take hx))
      have hfr := hr.front (k := 64) hR64
      rw [show ((M.drop (64 * k)).flatMap encB).take (64 * 1) = ((M.drop (64 * k)).take 64).flatMap encB by
        have := congrArg (List.take 64) (congrArg (List.flatMap encB) (List.take_append_drop 64 (M.drop (64 * k)))).symm
        rw [List.flatMap_append, List.take_left' (by rw [flatB_len]; exact hbs)] at this
        exact this] at hfr
      have HF := Lib.hid (fun (d : Nat) (os : Array Obj) => refBlock_any (hashN vI M k) (some ⟨ba, o, none⟩) C' ((M.drop (64 * k)).take 64) (grow (redrawn wr d) os) hbs hbo ((hfr.below (below_regrown wr d os)).more (below_regrown wr d os).size))
      have hk1 : blkV (hashN vI M k) ((M.drop (64 * k)).take 64) = hashN vI M (k + 1) := rfl
      rw [hk1] at HF
      have HNx : Hid (∀ w2, Blk w2 g4 35 (hashN vI M (k + 1)).cs.toArray → Near (fun i => i = g4) wr w2 → RsI w g4 M (k + 1) (R - 64) (C' - 64) (some (if C' = 64 then ⟨ba, o, none⟩ else ⟨ba, o + 64, none⟩)) w2) := Lib.hid fun w2 hB2 hn2 => by
        refine ⟨by omega, by omega, ⟨by rw [flatB_len]; simp; omega, fun hp => ⟨ba, o + 64, by rw [if_neg (by omega)], Nat.lt_of_lt_of_le hlt2 hn2.size, fun j u hu => ?_⟩⟩, hB2, hZ.same (hn2.block _ hZ.lt (by omega)), hbw.trans (hn2.below (fun i hi => by omega) hbw.size), hg, fun hp ad had => ?_⟩
        · have hs2 := hn2.block ba hlt2 (hne (by omega) _ rfl)
          have := hcs (64 + j) u (by
            rw [← hu, show 64 * (k + 1) = 64 * k + 64 by omega, ← List.drop_drop]
            have e2 : ((M.drop (64 * k)).drop 64).flatMap encB = ((M.drop (64 * k)).flatMap encB).drop 64 := by
              have := congrArg (List.drop 64) (congrArg (List.flatMap encB) (List.take_append_drop 64 (M.drop (64 * k)))).symm
              rw [List.flatMap_append, List.drop_left' (by rw [flatB_len]; exact hbs)] at this
              exact this.symm
            rw [e2, List.getElem?_drop])
          rw [← this, Nat.add_assoc]
          simp only [World.cell?, hs2]
        · obtain rfl := Option.some.inj had
          have := hne (by omega) _ rfl
          split <;> exact this
      have r1 := range_regrown hB
      have HB := Lib.hid hB
      have k1 : (64 : Int) ≤ (R : Int) := by omega
      have k2 : (64 : Int) ≤ (C' : Int) := by omega
      have k3 : (R : Int) ≤ (C' : Int) := by omega
      have k4 : R ≤ C' := by omega
      have k5 : 64 ≤ C' := by omega
      have HCl := Lib.hid (hashN vI M k).len
      clear h1 h2 hr hB hZ hbw hg hne hNb hNl hlt2 hcs hbs hbo hfr hk1 HI
      obtain ⟨X1, hX1⟩ : ∃ x, hashN vI M (k + 1) = x := ⟨_, rfl⟩
      rw [hX1] at HF HNx
      clear hX1
      generalize (hashN vI M k).cs = X0 at *
      go_upto_region 4 with (fail)
      refine wp_region_tail_below 4 (by kernel_rfl) (by kernel_rfl) ?_
      simp only [List.take_succ_cons, List.take_zero, List.drop_succ_cons, List.drop_zero]
      refine wpQuiet_load 35 (.tmp 4) rfl g4 0 (by rfl) X0 _ r1 Tryd.underlying35 rfl (by rw [HCl.out]; kernel_rfl) (by kernel_rfl) ?_
      repeat (quiet_step ((go_at_call 22; with_reducible exact regrown (HF.out _ _))))
      refine wpQuiet_nil ?_
      rintro w6 ⟨p, rfl⟩
      have hb6 := below_regrown wr p.d p.os
      generalize grow (redrawn wr p.d) p.os = w6 at *
      have hB6 := HB.out.kept hb6
      have hX8 : X0.toArray.size = 8 := by rw [List.size_toArray, HCl.out]
      clear r1 HF HB
      refine wpList_store_v8 rfl (.tmp 4) (.tmp 22) rfl g4 X1 (by rfl) (by rfl) hB6 hX8 ?_
      intro w7 hB7 hbl7 hz7 hh7
      have HI7 := Lib.hid (HNx.out w7 hB7 ((Near.of_below _ hb6).trans (near_of_store hbl7 hz7 hh7)))
      clear HNx hB6 hb6 hB7 hbl7 hz7 hh7
      by_cases hcap : C' = 64
      · rw [if_pos hcap, show C' - 64 = 0 by omega] at HI7
        have hcapI : (C' : Int) = 64 := by omega
        go_wp2
        go_roundw
        case rel => exact ⟨_, _, _, _, rfl, HI7⟩
        case measure => simp [slen]; omega
      · rw [if_neg hcap] at HI7
        have hcapI : ¬ (C' : Int) = 64 := by omega
        go_wp2
        go_roundw
        case rel => exact ⟨_, _, _, _, rfl, HI7⟩
        case measure => simp [slen]; omega
    · obtain rfl : R = 0 := by omega
      obtain ⟨h1, h2, hr, hB, hZ, hbw, hg, hne⟩ := HI.out
      have hk : (M.length) / 64 = k := by omega
      rw [hk] at HS
      have hBs : Blk wr g4 35 (sumV vI l).cs.toArray := by rw [HS.out]; exact hB
      have hb8 := bal (Below.refl wr.heap.size wr) (.cells (Array.replicate 32 (.int .u8 0)) 26)
      have HI1 : Hid (Blk (wr.alloc (.cells (Array.replicate 32 (.int .u8 0)) 26)) wr.heap.size 26 ((outN (sumV vI l) 0).flatMap encB).toArray ∧ Blk (wr.alloc (.cells (Array.replicate 32 (.int .u8 0)) 26)) g4 35 (sumV vI l).cs.toArray ∧ Blk (wr.alloc (.cells (Array.replicate 32 (.int .u8 0)) 26)) w.heap.size 26 (Array.replicate 32 (.int .u8 0)) ∧ RowKit.Below w.heap.size w (wr.alloc (.cells (Array.replicate 32 (.int .u8 0)) 26))) := Lib.hid ⟨by
        rw [outN_zero, List.toArray_replicate]; exact Blk.new _ _ _, hBs.alloc _, hZ.alloc _, hbw.trans (hb8.mono hbw.size)⟩
      have HGl := Lib.hid (show g4 < wr.heap.size ∧ w.heap.size < g4 from ⟨hB.lt, hg⟩)
      have hR0 : (((0 : Nat) : Int)) = 0 := rfl
      clear h1 h2 hr hB hZ hbw hne hk hBs hb8 hlt HI HS HMo HMl HMd HNb
      go_upto_region 7 with (fail)
      refine wp_name ?_
      intro w7 hw7
      rw [← hw7] at HI1
      clear hw7
      obtain ⟨G, hG⟩ : ∃ G, wr.heap.size = G := ⟨_, rfl⟩
      obtain ⟨V, hV⟩ : ∃ V, sumV vI l = V := ⟨_, rfl⟩
      have HVe := Lib.hid hV
      rw [hG, hV] at HI1
      rw [hG] at HGl ⊢
      clear hG hV
      go_wp2
      go_loopw [6] (fun x wr => ∃ i : Nat, i ≤ 8 ∧ x = .int .i64 i ∧ Hid (Blk wr G 26 ((outN V i).flatMap encB).toArray ∧ Blk wr g4 35 V.cs.toArray ∧ Blk wr w.heap.size 26 (Array.replicate 32 (.int .u8 0)) ∧ RowKit.Below w.heap.size w wr)) (fun x _ => 8 - (intOf x).toNat)
      case atStart => exact ⟨0, by omega, rfl, HI1⟩
      case round =>
        obtain ⟨i, hi, rfl, HJ⟩ := hrel
        clear HI1
        by_cases hi8 : i < 8
        · have hi8I : (i : Int) < 8 := by omega
          have HJ0 : Hid (Blk wr G 26 (setsN V i 0).toArray ∧ Blk wr g4 35 V.cs.toArray ∧ Blk wr w.heap.size 26 (Array.replicate 32 (.int .u8 0)) ∧ RowKit.Below w.heap.size w wr) := HJ
          clear HJ
          go_wp2
          go_loopw [7] (fun x wr => ∃ j : Nat, j ≤ 4 ∧ x = .int .i64 j ∧ Hid (Blk wr G 26 (setsN V i j).toArray ∧ Blk wr g4 35 V.cs.toArray ∧ Blk wr w.heap.size 26 (Array.replicate 32 (.int .u8 0)) ∧ RowKit.Below w.heap.size w wr)) (fun x _ => 4 - (intOf x).toNat)
          case atStart => exact ⟨0, by omega, rfl, HJ0⟩
          case round =>
            obtain ⟨j, hj, rfl, HK⟩ := hrel
            clear HJ0
            by_cases hj4 : j < 4
            · obtain ⟨i4, hi4⟩ : ∃ x, 4 * i = x := ⟨_, rfl⟩
              obtain ⟨q, hq⟩ : ∃ x, 4 * i + j = x := ⟨_, rfl⟩
              have p0 : IntKind.i64.wrap (4 * (i : Int)) = (i4 : Int) := by rw [IntWalk.i64_in _ (by omega)]; omega
              have p1 : IntKind.i64.wrap ((i4 : Int) + (j : Int)) = (q : Int) := by rw [IntWalk.i64_in _ (by omega)]; omega
              have p0' : 4 * (i : Int) = (i4 : Int) := by omega
              have p1' : (i4 : Int) + (j : Int) = (q : Int) := by omega
              have hq32 : (q : Int) < 32 := by omega
              have c0 : wr.cell? ⟨g4, i, none⟩ = some (.int .u32 (iw (V.get i))) := (HK.out.2.1.cell i).trans (by rw [List.getElem?_toArray]; exact V8.cs_at V hi8)
              have hz := HK.out.1.frozen
              obtain ⟨u, cq⟩ : ∃ u, wr.cell? ⟨G, q, none⟩ = some u := by
                rw [HK.out.1.cell q, List.getElem?_toArray]
                exact ⟨_, List.getElem?_eq_getElem (by rw [setsN_len]; omega)⟩
              have hyb := iw_bd (V.get i)
              have HSt : Hid (setsN V i (j + 1) = (setsN V i j).set q (.int .u8 (bw (V.get i) (24 - 8 * j)))) := Lib.hid (by rw [← hq]; rfl)
              obtain ⟨z, hzv⟩ : ∃ z, bw (V.get i) (24 - 8 * j) = z := ⟨_, rfl⟩
              rw [hzv] at HSt
              obtain ⟨j8, hj8⟩ : ∃ x, 8 * j = x := ⟨_, rfl⟩
              obtain ⟨s, hs⟩ : ∃ x, 24 - 8 * j = x := ⟨_, rfl⟩
              rw [hs] at hzv
              unfold bw at hzv
              generalize iw (V.get i) = y at *
              have w1 : IntKind.i64.wrap (8 * (j : Int)) = (j8 : Int) := by rw [IntWalk.i64_in _ (by omega)]; omega
              have w2 : IntKind.i64.wrap (24 - (j8 : Int)) = (s : Int) := by rw [IntWalk.i64_in _ (by omega)]; omega
              have w1' : 8 * (j : Int) = (j8 : Int) := by omega
              have w2' : 24 - (j8 : Int) = (s : Int) := by omega
              have w3 : min s 32 = s := by omega
              have hzw : IntKind.u8.wrap (y / 2 ^ s) = z := by rw [IntKind.wrap_u8']; exact hzv
              have hj4I : (j : Int) < 4 := by omega
              clear hi4 hq hj8 hs
              go_upto_region 12 with (fail)
              have HN : Hid (Blk (wr.setCell ⟨G, q, none⟩ (.int .u8 z)) G 26 (setsN V i (j + 1)).toArray ∧ Blk (wr.setCell ⟨G, q, none⟩ (.int .u8 z)) g4 35 V.cs.toArray ∧ Blk (wr.setCell ⟨G, q, none⟩ (.int .u8 z)) w.heap.size 26 (Array.replicate 32 (.int .u8 0)) ∧ RowKit.Below w.heap.size w (wr.setCell ⟨G, q, none⟩ (.int .u8 z))) := Lib.hid (by
                have hgl := HGl.out
                refine ⟨?_, HK.out.2.1.far (by simp; omega) _, HK.out.2.2.1.far (by simp; omega) _, HK.out.2.2.2.setCell (by simp; omega) _⟩
                have := HK.out.1.set_ q (.int .u8 z)
                rw [List.setIfInBounds_toArray, ← HSt.out] at this
                exact this)
              clear HK HSt c0 hz cq hzv hzw w1 w2 w3 w1' w2'
              go_wp2
              go_roundw
              case rel => exact ⟨j + 1, by omega, by go_num, HN⟩
              case measure => simp [intOf]; omega
            · have HJ2 : Hid (Blk wr G 26 ((outN V (i + 1)).flatMap encB).toArray ∧ Blk wr g4 35 V.cs.toArray ∧ Blk wr w.heap.size 26 (Array.replicate 32 (.int .u8 0)) ∧ RowKit.Below w.heap.size w wr) := Lib.hid (by
                have := HK.out
                obtain rfl : j = 4 := by omega
                rw [setsN_all V hi8] at this
                exact this)
              clear HK
              go_wp2
              go_roundw
              case rel => exact ⟨i + 1, by omega, by go_num, HJ2⟩
              case measure => simp [intOf]; omega
        · have HE : Hid (Blk wr G 26 ((outB V).flatMap encB).toArray ∧ Blk wr w.heap.size 26 (Array.replicate 32 (.int .u8 0)) ∧ RowKit.Below w.heap.size w wr) := Lib.hid (by
            have := HJ.out
            obtain rfl : i = 8 := by omega
            exact ⟨this.1, this.2.2⟩)
          clear HJ
          have HOl := Lib.hid (outB_len V)
          obtain ⟨ob, hob⟩ : ∃ x, outB V = x := ⟨_, rfl⟩
          rw [hob] at HE HOl
          have HOb := Lib.hid (show sumB l = ob by rw [← hob, ← HVe.out]; rfl)
          have HLn := Lib.hid (show (ob.flatMap encB).length = 32 by rw [flatB_len, HOl.out])
          clear hob
          go_wp2_with (first
            | (refine wpList_load_mid rfl 26 (.tmp 5) rfl G 0 (by rfl) (ob.flatMap encB) _ HE.out.1.range Tryd.underlying26 rfl (by rw [HLn.out]; kernel_rfl) ?_)
            | (refine wpList_store_node rfl (.tmp 2) (.tmp 46) rfl w.heap.size ob HOl.out (by rfl) (by rfl) HE.out.2.1 (by simp) ?_; intro w6 hB6 hbl6 hz6 hh6))
          exact bodyPost_ret (res_cell1 rfl (b := w.heap.size) (o := 0) (cs := ob.flatMap encB) rfl hB6.range Tryd.underlying26 rfl (by rw [HLn.out]; kernel_rfl)) rfl ⟨by rw [HOb.out], HE.out.2.2.trans (hbl6 _ (Nat.le_refl _))⟩
end Go.Proofs.YtjcklmhkdpbbdaaDoor
