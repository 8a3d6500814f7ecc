/- The document's tree of a guest (portreeveref22.Guest); walked. -/
import Derived.Test.YtnkpaockginooaaGuE
import Derived.Test.YtnkpaockginooaaGuC
import Derived.WalkMore
import Derived.Deep.CutRange
namespace Go.Proofs.Ytnkpaockginooaa
set_option linter.unusedVariables false
set_option linter.unusedSimpArgs false
open Go.RowKit Go.Sort
set_option maxRecDepth 100000 in
set_option maxHeartbeats 4000000 in
theorem rguest_any (x : Cf) (A A2 : Option Addr) (c c2 : Nat) (gi : Int) (hgi : inI64 gi) (w : World) (hR : CfR w w.heap.size x A c A2 c2) (hf : fewN x.gs.length x.cs.length (x.gs.map toGd) = true) :
    Calls Try.prog 26 #[.agg #[.int .u32 x.ver, .slice A x.gs.length c, .slice A2 x.cs.length c2], .int .i64 gi] w (GuestP x gi w) := by
  obtain ⟨fn1, fn2, ffew⟩ := few_yes hf
  obtain ⟨cfg, hcfg⟩ : ∃ cfg : Array Value, cfg = #[.int .u32 x.ver, .slice A x.gs.length c, .slice A2 x.cs.length c2] := ⟨_, rfl⟩
  have HR := Lib.hid hR
  have HF := Lib.hid hf
  generalize hn : x.gs.length = n at *
  generalize hn2 : x.cs.length = n2 at *
  have HN := Lib.hid hn
  have HPl := Lib.hid (peer_len (w := w) (A := A) (A2 := A2) (c := c) (c2 := c2) (by rw [hn, hn2]; exact hf))
  have HN2 := Lib.hid hn2
  have hC0 := (Blk.new w 48 #[.int .u32 x.ver, .slice A n c, .slice A2 n2 c2]).alloc (.cells #[.string ⟨#[]⟩, .slice none 0 0, .slice none 0 0] 25)
  have hR0 := Blk.fresh (g := w.heap.size + 1) (w.alloc (.cells #[.int .u32 x.ver, .slice A n c, .slice A2 n2 c2] 48)) 25 #[.string ⟨#[]⟩, .slice none 0 0, .slice none 0 0]
  have hb0 := bal' (bal (Below.refl w.heap.size w) (.cells #[.int .u32 x.ver, .slice A n c, .slice A2 n2 c2] 48)) (.cells #[.string ⟨#[]⟩, .slice none 0 0, .slice none 0 0] 25) (by simp)
  have hz0 : ((w.alloc (.cells #[.int .u32 x.ver, .slice A n c, .slice A2 n2 c2] 48)).alloc (.cells #[.string ⟨#[]⟩, .slice none 0 0, .slice none 0 0] 25)).heap.size = w.heap.size + 2 := by simp
  clear hR hf hn hn2
  go_enter Try.func26, Try.ntmps26
  go_upto_region 1 with (fail)
  generalize (w.alloc (.cells #[.int .u32 x.ver, .slice A n c, .slice A2 n2 c2] 48)).alloc (.cells #[.string ⟨#[]⟩, .slice none 0 0, .slice none 0 0] 25) = w1 at *
  have cC := hC0.cell
  have cR := hR0.cell
  have fR := hR0.frozen
  by_cases hin : 0 ≤ gi ∧ gi < (n : Int)
  · obtain ⟨k, rfl⟩ := Int.eq_ofNat_of_zero_le hin.1
    have hk : k < x.gs.length := by rw [HN.out]; omega
    obtain ⟨g, hg⟩ : ∃ g, x.gs[k]? = some g := ⟨_, List.getElem?_eq_getElem hk⟩
    obtain ⟨b, o, rfl, hbb, hrow⟩ := conf_row HR.out hg
    have hgm := List.mem_of_getElem? hg
    have HG := Lib.hid (HR.out.og g hgm)
    have HFw := Lib.hid (ffew g hgm)
    have hrow1 : w1.rangeAt b (o + k * 79) (gcells g) := fun j v hv => (hb0.cell (p := ⟨b, o + k * 79 + j, none⟩) hbb).trans (hrow j v hv)
    have HRg := Lib.hid hrow1
    have hlen := gcells_len HG.out.kl
    have hkn : k < n := by omega
    have e1 : decide ((k : Int) < 0) = false := decide_eq_false (by omega)
    have e2 : decide ((n : Int) ≤ (k : Int)) = false := decide_eq_false (by omega)
    obtain ⟨Z, hZ, hz0', hZi⟩ := zero_guest
    have hst := store_guest hZ hZi hlen (toGd_ok HG.out).one w1
    rw [hz0] at hst
    have HZi := Lib.hid hZi
    have hsz : (gcells g).toArray.size = 79 := by simp [hlen]
    have HGk := Lib.hid hg
    clear hin hrow hrow1 hg hZi
    go_upto_region 4 with (refine wpList_load_mid rfl 104 (.tmp 39) rfl b (o + k * 79) (by rfl) (gcells g) _ HRg.out Try.underlying104 rfl (by rw [hlen]; kernel_rfl) ?_)
    have hC3 := hC0.alloc (.cells (gcells g).toArray 104)
    have hR3 := hR0.alloc (.cells (gcells g).toArray 104)
    have hG3 := Blk.fresh (g := w.heap.size + 2) w1 104 (gcells g).toArray hz0.symm
    have hb3 := bal' hb0 (.cells (gcells g).toArray 104) hb0.size
    have hz3 : (w1.alloc (.cells (gcells g).toArray 104)).heap.size = w.heap.size + 3 := by simp [hz0]
    clear hst hz0' hZ cC cR fR hC0 hR0 hb0 e1 e2
    generalize w1.alloc (.cells (gcells g).toArray 104) = w3 at *
    have HC3 := Lib.hid hC3
    have HR3 := Lib.hid hR3
    have HG3 := Lib.hid hG3
    have HB3 := Lib.hid hb3
    have HZ3 := Lib.hid hz3
    have HGt := Lib.hid (fun j => gcells_tail HG.out.kl j)
    have hqn := HFw.out.2.2.1
    generalize hq : g.1.qs.length = nq at *
    have HQ := Lib.hid hq
    have cG77 : w3.cell? ⟨w.heap.size + 2, 77, none⟩ = some (.slice g.2.AI nq g.2.cI) := (hG3.cell 77).trans (by simpa [hq] using gcells_tail HG.out.kl 2)
    clear hC3 hR3 hG3 hb3 hz3 hz0 hq
    go_wp2_with fail
    clear cG77
    go_loopw [44, 7] (fun jv lv wr => ∃ j : Nat, j ≤ nq ∧ jv = .int .i64 j ∧ wr.ownsRow w3.heap.size 5 1 lv (4 * j) ((((g.1.qs.take j).map fun q => IntKind.u32.wrap q.num).flatMap (bytesN 4 false)).flatMap encB) ∧ Below w3.heap.size w3 wr) (fun jv _ _ => nq - (intOf jv).toNat)
    case atStart => exact ⟨0, by omega, rfl, World.ownsRow_nil _ _ _ _, Below.refl _ _⟩
    case round =>
      obtain ⟨j, hj, rfl, hown, hbr⟩ := hrel
      by_cases hlt : j < nq
      · obtain ⟨⟨qn, qc, qe⟩, hqj⟩ : ∃ q, g.1.qs[j]? = some q := ⟨_, List.getElem?_eq_getElem (by rw [HQ.out]; exact hlt)⟩
        obtain ⟨b1, o1, hA1, hc1⟩ := row_cells (enc := encIq) HG.out.rI (fun _ => rfl) hqj
        have hbw := HB3.out.trans (hbr.mono HB3.out.size)
        have d0 := hc1 0 (by decide) _ hbw
        have d1 := hc1 1 (by decide) _ hbw
        have d2 := hc1 2 (by decide) _ hbw
        simp only [encIq, List.getElem?_cons_zero, List.getElem?_cons_succ, Nat.add_zero] at d0 d1 d2
        have HQj := Lib.hid hqj
        have e3 : decide ((j : Int) < (nq : Int)) = true := decide_eq_true (by omega)
        clear hc1 hqj
        rw [hA1]
        have cB := (Blk.new wr 106 #[.int .i64 qn, .int .i64 qc, .bool qe]).cell
        have hrz : w3.heap.size ≤ wr.heap.size := hbr.size
        have hbI := bal' (bal (Below.refl wr.heap.size wr) (.cells #[.int .i64 qn, .int .i64 qc, .bool qe] 106)) (.cells #[.int .u64 (IntKind.u64.wrap qn)] 35) (by simp)
        have hf4 := fourR_any (some ⟨wr.heap.size + 1, 0, none⟩) 1 1 [IntKind.u64.wrap qn] ((wr.alloc (.cells #[.int .i64 qn, .int .i64 qc, .bool qe] 106)).alloc (.cells #[.int .u64 (IntKind.u64.wrap qn)] 35)) rfl (by decide) (by intro y hy; simp at hy; subst hy; exact wrap64_in _) (Rd.fresh _ #[.int .u64 (IntKind.u64.wrap qn)] 35 1 1 _ rfl (by simp))
        rw [wrap_flat] at hf4
        have HF4 := Lib.hid hf4
        clear hf4
        go_wp2_with (first
          | (go_at_call 56; (with_reducible refine HF4.out.mono ?_); rintro e w5 ⟨v5, rfl, hp5, hb5⟩; obtain ⟨A5, c5, hv5, hl5, hm5, hr5, _⟩ := id hp5; rw [bytesNs_len] at hv5 hr5; simp only [List.length_cons, List.length_nil, Nat.zero_add, Nat.mul_one] at hv5 hr5; subst hv5; have hb6 := hbI.trans (hb5.mono hbI.size); have hown5 := own_kept hown hb6)
          | (at_builtin; refine wpList_app u8_elem rfl (.tmp 48) (.tmp 53) rfl w3.heap.size hown5 rfl rfl hr5 (one_b _) (by simp [maxLen]; omega) (by omega) (Nat.le_trans hrz hb6.size) ?_; intro v' w' hown' hb' _))
        go_roundw
        case rel =>
          refine ⟨j + 1, by omega, by go_num, ?_, ?_⟩
          · have ht : g.1.qs.take (j + 1) = g.1.qs.take j ++ [⟨qn, qc, qe⟩] := by rw [List.take_add_one, HQj.out]; rfl
            rw [ht, List.map_append, List.flatMap_append, List.flatMap_append, show 4 * (j + 1) = 4 * j + 4 by omega]
            exact hown'
          · exact (hbr.trans (hb6.mono hrz)).trans hb'
        case measure => simp [intOf]; omega
      · obtain rfl : nq = j := by omega
        obtain ⟨Al, cl, rfl, _, hLr⟩ := own_slice hown
        rw [List.take_of_length_le (by rw [HQ.out]; omega)] at hown
        have hIp : RowP 5 encB 1 ((g.1.qs.map fun q : Iq => IntKind.u32.wrap q.num).flatMap (bytesN 4 false)) wr (.slice Al (4 * nq) cl) := RowP.own hown (by rw [bytesNs_len, List.length_map, HQ.out]) rfl
        have hIlen : (((g.1.qs.map fun q : Iq => IntKind.u32.wrap q.num).flatMap (bytesN 4 false)) : List Int).length = 4 * nq := by rw [bytesNs_len, List.length_map, HQ.out]
        have hbw := HB3.out.trans (hbr.mono HB3.out.size)
        have hC4 := HC3.out.kept hbr
        have hR4 := HR3.out.kept hbr
        have hG4 := HG3.out.kept hbr
        have e3 : decide ((nq : Int) < (nq : Int)) = false := decide_eq_false (by omega)
        have hsn := HFw.out.2.2.2.1
        have hzr : w.heap.size + 3 ≤ wr.heap.size := by have := HZ3.out; have := hbr.size; omega
        obtain ⟨m7, hm7⟩ : ∃ m, 4 * nq = m := ⟨_, rfl⟩
        rw [hm7] at hIp hIlen ⊢
        generalize hs : g.1.ss.length = ns at *
        have HSn := Lib.hid hs
        have cG78 : wr.cell? ⟨w.heap.size + 2, 78, none⟩ = some (.slice g.2.AS ns g.2.cS) := (hG4.cell 78).trans (by simpa [hs] using HGt.out 3)
        generalize wr = wI at *
        have HIp := Lib.hid hIp
        have HIl := Lib.hid hIlen
        have HBw := Lib.hid hbw
        have HC4 := Lib.hid hC4
        have HR4 := Lib.hid hR4
        have HG4 := Lib.hid hG4
        clear hown hLr hIp hIlen hbw hC4 hR4 hG4 hs hbr hlt hj
        go_wp2_with fail
        clear cG78 e3
        go_loopw [59, 8] (fun jv lv wr => ∃ j : Nat, j ≤ ns ∧ jv = .int .i64 j ∧ wr.ownsRow wI.heap.size 5 1 lv (4 * j) (((g.1.ss.take j).flatMap (bytesN 4 false)).flatMap encB) ∧ Below wI.heap.size wI wr) (fun jv _ _ => ns - (intOf jv).toNat)
        case atStart => exact ⟨0, by omega, rfl, World.ownsRow_nil _ _ _ _, Below.refl _ _⟩
        case round =>
          obtain ⟨j, hj, rfl, hown, hbr⟩ := hrel
          by_cases hlt : j < ns
          · obtain ⟨y, hy⟩ : ∃ y, g.1.ss[j]? = some y := ⟨_, List.getElem?_eq_getElem (by rw [HSn.out]; exact hlt)⟩
            obtain ⟨b1, o1, hA1, hc1⟩ := row_cells (enc := encU32) HG.out.rS (fun _ => rfl) hy
            have hoy : 0 ≤ y ∧ y < 4294967296 := HG.out.oS y (List.mem_of_getElem? hy)
            have hbw := HBw.out.trans (hbr.mono HBw.out.size)
            have d0 := hc1 0 (by decide) _ hbw
            simp only [encU32, List.getElem?_cons_zero, Nat.add_zero, Nat.mul_one] at d0
            have HY := Lib.hid hy
            have e3 : decide ((j : Int) < (ns : Int)) = true := decide_eq_true (by omega)
            have huy : IntKind.u64.wrap y = y := by show y % 18446744073709551616 = y; omega
            clear hc1 hy
            rw [hA1]
            have hrz : wI.heap.size ≤ wr.heap.size := hbr.size
            have hbI := bal (Below.refl wr.heap.size wr) (.cells #[.int .u64 y] 35)
            have HF4 := Lib.hid (fourR_any (some ⟨wr.heap.size, 0, none⟩) 1 1 [y] (wr.alloc (.cells #[.int .u64 y] 35)) rfl (by decide) (by intro z hz; simp at hz; subst hz; omega) (Rd.fresh _ #[.int .u64 y] 35 1 1 _ rfl rfl))
            go_wp2_with (first
              | (go_at_call 56; (with_reducible refine HF4.out.mono ?_); rintro e w5 ⟨v5, rfl, hp5, hb5⟩; obtain ⟨A5, c5, hv5, hl5, hm5, hr5, _⟩ := id hp5; rw [bytesNs_len] at hv5 hr5; simp only [List.length_cons, List.length_nil, Nat.zero_add, Nat.mul_one] at hv5 hr5; subst hv5; have hb6 := hbI.trans (hb5.mono hbI.size); have hown5 := own_kept hown hb6)
              | (at_builtin; refine wpList_app u8_elem rfl (.tmp 63) (.tmp 67) rfl wI.heap.size hown5 rfl rfl hr5 (one_b _) (by simp [maxLen]; omega) (by omega) (Nat.le_trans hrz hb6.size) ?_; intro v' w' hown' hb' _))
            go_roundw
            case rel =>
              refine ⟨j + 1, by omega, by go_num, ?_, ?_⟩
              · have ht : g.1.ss.take (j + 1) = g.1.ss.take j ++ [y] := by rw [List.take_add_one, HY.out]; rfl
                rw [ht, List.flatMap_append, List.flatMap_append, show 4 * (j + 1) = 4 * j + 4 by omega]
                exact hown'
              · exact (hbr.trans (hb6.mono hrz)).trans hb'
            case measure => simp [intOf]; omega
          · obtain rfl : ns = j := by omega
            obtain ⟨As, cs8, rfl, _, _⟩ := own_slice hown
            rw [List.take_of_length_le (by rw [HSn.out]; omega)] at hown
            have hSp : RowP 5 encB 1 (g.1.ss.flatMap (bytesN 4 false)) wr (.slice As (4 * ns) cs8) := RowP.own hown (by rw [bytesNs_len, HSn.out]) rfl
            obtain ⟨m8, hm8⟩ : ∃ m, 4 * ns = m := ⟨_, rfl⟩
            rw [hm8] at hSp ⊢
            have HSp5 := Lib.hid hSp
            have HIp5 := Lib.hid (HIp.out.kept hbr)
            have hbw := HBw.out.trans (hbr.mono HBw.out.size)
            have hC5 := HC4.out.kept hbr
            have hR5 := HR4.out.kept hbr
            have hGw := HG4.out.kept hbr
            have hnm100 := HFw.out.2.2.2.2
            have e3 : decide ((ns : Int) < (ns : Int)) = false := decide_eq_false (by omega)
            have hzr' : w.heap.size + 3 ≤ wr.heap.size := by have := hbr.size; omega
            clear hown hSp hm8
            go_upto_region 15 with (fail)
            clear e3
            refine wp_region_spec 19 [70, 71, 72, 73, 74, 75, 76, 77, 78, 79, 80, 81, 82, 83, 84, 85, 86, 87, 13] [RowV 35 encQ 1 [2], RowV 5 encB 1 ([2].flatMap (bytesN 4 false)), PrV (⟨#[35, 97, 100, 100, 114, 101, 115, 115, 45, 99, 101, 108, 108, 115]⟩, ([2].flatMap (bytesN 4 false))), RowV 35 encQ 1 [2], RowV 5 encB 1 ([2].flatMap (bytesN 4 false)), PrV (⟨#[35, 115, 105, 122, 101, 45, 99, 101, 108, 108, 115]⟩, ([2].flatMap (bytesN 4 false))), RowV 5 encB 1 (strB ⟨#[112, 111, 114, 116, 114, 101, 101, 118, 101, 44, 103, 117, 101, 115, 116]⟩ ++ [0]), PrV (⟨#[99, 111, 109, 112, 97, 116, 105, 98, 108, 101]⟩, (strB ⟨#[112, 111, 114, 116, 114, 101, 101, 118, 101, 44, 103, 117, 101, 115, 116]⟩ ++ [0])), .eq (.pointer (some ⟨w.heap.size + 2, 0, none⟩)), .eq (.string (g.1.nm)), RowV 5 encB 1 (strB (g.1.nm) ++ [0]), PrV (⟨#[109, 111, 100, 101, 108]⟩, (strB (g.1.nm) ++ [0])), .eq ((.slice Al m7 cl)), PrV (⟨#[105, 110, 116, 101, 114, 114, 117, 112, 116, 115]⟩, (g.1.qs.map fun q : Iq => IntKind.u32.wrap q.num).flatMap (bytesN 4 false)), .eq ((.slice As m8 cs8)), PrV (⟨#[115, 116, 114, 101, 97, 109, 115]⟩, g.1.ss.flatMap (bytesN 4 false)), PsV (fun b => b = w.heap.size + 1) [(⟨#[35, 97, 100, 100, 114, 101, 115, 115, 45, 99, 101, 108, 108, 115]⟩, ([2].flatMap (bytesN 4 false))), (⟨#[35, 115, 105, 122, 101, 45, 99, 101, 108, 108, 115]⟩, ([2].flatMap (bytesN 4 false))), (⟨#[99, 111, 109, 112, 97, 116, 105, 98, 108, 101]⟩, (strB ⟨#[112, 111, 114, 116, 114, 101, 101, 118, 101, 44, 103, 117, 101, 115, 116]⟩ ++ [0])), (⟨#[109, 111, 100, 101, 108]⟩, (strB (g.1.nm) ++ [0])), (⟨#[105, 110, 116, 101, 114, 114, 117, 112, 116, 115]⟩, (g.1.qs.map fun q : Iq => IntKind.u32.wrap q.num).flatMap (bytesN 4 false)), (⟨#[115, 116, 114, 101, 97, 109, 115]⟩, g.1.ss.flatMap (bytesN 4 false))], NodeV (fun b => b = w.heap.size + 1) ⟨#[]⟩ (rootPs g.1), BoxV wr.heap.size 25 #[.string ⟨#[]⟩, .slice none 0 0, .slice none 0 0]] (by kernel_rfl) (by kernel_rfl) ?_ ?_
            · unfold StepS
              simp only [List.take_succ_cons, List.take_zero, fillA, fillL, List.setIfInBounds_toArray, List.set_cons_succ, List.set_cons_zero, Nat.zero_add, Nat.reduceAdd]
              refine StepsOk.cons (fun vals w' hb hd K hK => ?_) ?_
              · go_simp
                exact hK.out _ _ _ (bal (Below.refl _ _) _) (RowP.fresh _ [2] _ 1 _ rfl rfl rfl rfl (by decide)) (by kernel_rfl)
              refine StepsOk.cons (fun vals w' hb hd K hK => ?_) ?_
              · have d0 := hd 0 (by decide)
                simp only [List.getD_cons_zero, List.getD_cons_succ, SP.eq] at d0
                obtain ⟨A, c, hv, h1, h2, h3, _⟩ := d0
                simp only [List.length_cons, List.length_nil, Nat.zero_add, Nat.reduceAdd] at hv h3
                go_simp
                go_at_call 56
                refine (fourR_any A 1 c [2] _ rfl (by decide) (by decide) h3).mono ?_
                rintro e w2 ⟨v, rfl, hp, hb2⟩
                exact hK.out _ _ _ hb2 hp (by simp only [hv, Act.put, List.setIfInBounds_toArray, List.set_cons_succ, List.set_cons_zero])
              refine StepsOk.cons (fun vals w' hb hd K hK => ?_) ?_
              · have d1 := hd 1 (by decide)
                simp only [List.getD_cons_zero, List.getD_cons_succ, SP.eq] at d1
                obtain ⟨A, c, hv, _⟩ := id d1
                generalize (([2].flatMap (bytesN 4 false))).length = m at hv
                rw [hv] at d1
                go_simp
                go_at_call 57
                refine (propR_any _ _ _ _ (by decide) (bytesNs_ok _ _ _) d1).mono ?_
                rintro e w2 ⟨v, rfl, hp, hb2⟩
                exact hK.out _ _ _ hb2 hp (by simp only [hv, Act.put, List.setIfInBounds_toArray, List.set_cons_succ, List.set_cons_zero])
              refine StepsOk.cons (fun vals w' hb hd K hK => ?_) ?_
              · go_simp
                exact hK.out _ _ _ (bal (Below.refl _ _) _) (RowP.fresh _ [2] _ 1 _ rfl rfl rfl rfl (by decide)) (by kernel_rfl)
              refine StepsOk.cons (fun vals w' hb hd K hK => ?_) ?_
              · have d3 := hd 3 (by decide)
                simp only [List.getD_cons_zero, List.getD_cons_succ, SP.eq] at d3
                obtain ⟨A, c, hv, h1, h2, h3, _⟩ := d3
                simp only [List.length_cons, List.length_nil, Nat.zero_add, Nat.reduceAdd] at hv h3
                go_simp
                go_at_call 56
                refine (fourR_any A 1 c [2] _ rfl (by decide) (by decide) h3).mono ?_
                rintro e w2 ⟨v, rfl, hp, hb2⟩
                exact hK.out _ _ _ hb2 hp (by simp only [hv, Act.put, List.setIfInBounds_toArray, List.set_cons_succ, List.set_cons_zero])
              refine StepsOk.cons (fun vals w' hb hd K hK => ?_) ?_
              · have d4 := hd 4 (by decide)
                simp only [List.getD_cons_zero, List.getD_cons_succ, SP.eq] at d4
                obtain ⟨A, c, hv, _⟩ := id d4
                generalize (([2].flatMap (bytesN 4 false))).length = m at hv
                rw [hv] at d4
                go_simp
                go_at_call 57
                refine (propR_any _ _ _ _ (by decide) (bytesNs_ok _ _ _) d4).mono ?_
                rintro e w2 ⟨v, rfl, hp, hb2⟩
                exact hK.out _ _ _ hb2 hp (by simp only [hv, Act.put, List.setIfInBounds_toArray, List.set_cons_succ, List.set_cons_zero])
              refine StepsOk.cons (fun vals w' hb hd K hK => ?_) ?_
              · go_simp
                go_at_call 58
                refine (zeroR_any _ _ (by decide)).mono ?_
                rintro e w2 ⟨v, rfl, hp, hb2⟩
                exact hK.out _ _ _ hb2 hp (by kernel_rfl)
              refine StepsOk.cons (fun vals w' hb hd K hK => ?_) ?_
              · have d6 := hd 6 (by decide)
                simp only [List.getD_cons_zero, List.getD_cons_succ, SP.eq] at d6
                obtain ⟨A, c, hv, _⟩ := id d6
                generalize ((strB ⟨#[112, 111, 114, 116, 114, 101, 101, 118, 101, 44, 103, 117, 101, 115, 116]⟩ ++ [0])).length = m at hv
                rw [hv] at d6
                go_simp
                go_at_call 57
                refine (propR_any _ _ _ _ (by decide) (strB0_ok _) d6).mono ?_
                rintro e w2 ⟨v, rfl, hp, hb2⟩
                exact hK.out _ _ _ hb2 hp (by simp only [hv, Act.put, List.setIfInBounds_toArray, List.set_cons_succ, List.set_cons_zero])
              refine StepsOk.cons (fun vals w' hb hd K hK => ?_) ?_
              · go_simp
                exact hK.out _ _ _ (Below.refl _ _) rfl (by kernel_rfl)
              refine StepsOk.cons (fun vals w' hb hd K hK => ?_) ?_
              · have d8 := hd 8 (by decide)
                simp only [List.getD_cons_zero, List.getD_cons_succ, SP.eq] at d8
                have hS1 : w'.cell? ⟨w.heap.size + 2, 0, none⟩ = some (.string g.1.nm) := (hGw.kept hb).cell 0
                go_simp
                exact hK.out _ _ _ (Below.refl _ _) rfl (by simp only [d8, Act.put, List.setIfInBounds_toArray, List.set_cons_succ, List.set_cons_zero])
              refine StepsOk.cons (fun vals w' hb hd K hK => ?_) ?_
              · have d9 := hd 9 (by decide)
                simp only [List.getD_cons_zero, List.getD_cons_succ, SP.eq] at d9
                go_simp
                go_at_call 58
                refine (zeroR_any _ _ (by omega)).mono ?_
                rintro e w2 ⟨v, rfl, hp, hb2⟩
                exact hK.out _ _ _ hb2 hp (by simp only [d9, Act.put, List.setIfInBounds_toArray, List.set_cons_succ, List.set_cons_zero])
              refine StepsOk.cons (fun vals w' hb hd K hK => ?_) ?_
              · have d10 := hd 10 (by decide)
                simp only [List.getD_cons_zero, List.getD_cons_succ, SP.eq] at d10
                obtain ⟨A, c, hv, _⟩ := id d10
                generalize ((strB (g.1.nm) ++ [0])).length = m at hv
                rw [hv] at d10
                go_simp
                go_at_call 57
                refine (propR_any _ _ _ _ (by decide) (strB0_ok _) d10).mono ?_
                rintro e w2 ⟨v, rfl, hp, hb2⟩
                exact hK.out _ _ _ hb2 hp (by simp only [hv, Act.put, List.setIfInBounds_toArray, List.set_cons_succ, List.set_cons_zero])
              refine StepsOk.cons (fun vals w' hb hd K hK => ?_) ?_
              · go_simp
                exact hK.out _ _ _ (Below.refl _ _) rfl (by kernel_rfl)
              refine StepsOk.cons (fun vals w' hb hd K hK => ?_) ?_
              · have d12 := hd 12 (by decide)
                simp only [List.getD_cons_zero, List.getD_cons_succ, SP.eq] at d12
                go_simp
                go_at_call 57
                refine (propR_any _ _ ((g.1.qs.map fun q : Iq => IntKind.u32.wrap q.num).flatMap (bytesN 4 false)) _ (by decide) (bytesNs_ok _ _ _) (HIp5.out.kept hb)).mono ?_
                rintro e w2 ⟨v, rfl, hp, hb2⟩
                exact hK.out _ _ _ hb2 hp (by simp only [d12, Act.put, List.setIfInBounds_toArray, List.set_cons_succ, List.set_cons_zero])
              refine StepsOk.cons (fun vals w' hb hd K hK => ?_) ?_
              · go_simp
                exact hK.out _ _ _ (Below.refl _ _) rfl (by kernel_rfl)
              refine StepsOk.cons (fun vals w' hb hd K hK => ?_) ?_
              · have d14 := hd 14 (by decide)
                simp only [List.getD_cons_zero, List.getD_cons_succ, SP.eq] at d14
                go_simp
                go_at_call 57
                refine (propR_any _ _ (g.1.ss.flatMap (bytesN 4 false)) _ (by decide) (bytesNs_ok _ _ _) (HSp5.out.kept hb)).mono ?_
                rintro e w2 ⟨v, rfl, hp, hb2⟩
                exact hK.out _ _ _ hb2 hp (by simp only [d14, Act.put, List.setIfInBounds_toArray, List.set_cons_succ, List.set_cons_zero])
              refine StepsOk.cons (fun vals w' hb hd K hK => ?_) ?_
              · have d2 := hd 2 (by decide)
                simp only [List.getD_cons_zero, List.getD_cons_succ, SP.eq] at d2
                have d5 := hd 5 (by decide)
                simp only [List.getD_cons_zero, List.getD_cons_succ, SP.eq] at d5
                have d7 := hd 7 (by decide)
                simp only [List.getD_cons_zero, List.getD_cons_succ, SP.eq] at d7
                have d11 := hd 11 (by decide)
                simp only [List.getD_cons_zero, List.getD_cons_succ, SP.eq] at d11
                have d13 := hd 13 (by decide)
                simp only [List.getD_cons_zero, List.getD_cons_succ, SP.eq] at d13
                have d15 := hd 15 (by decide)
                simp only [List.getD_cons_zero, List.getD_cons_succ, SP.eq] at d15
                obtain ⟨A2, c2, hv2, hp2⟩ := d2.cells
                generalize ((⟨#[35, 97, 100, 100, 114, 101, 115, 115, 45, 99, 101, 108, 108, 115]⟩, ([2].flatMap (bytesN 4 false))) : Pr).2.length = m2 at hv2 hp2
                obtain ⟨A5, c5, hv5, hp5⟩ := d5.cells
                generalize ((⟨#[35, 115, 105, 122, 101, 45, 99, 101, 108, 108, 115]⟩, ([2].flatMap (bytesN 4 false))) : Pr).2.length = m5 at hv5 hp5
                obtain ⟨A7, c7, hv7, hp7⟩ := d7.cells
                generalize ((⟨#[99, 111, 109, 112, 97, 116, 105, 98, 108, 101]⟩, (strB ⟨#[112, 111, 114, 116, 114, 101, 101, 118, 101, 44, 103, 117, 101, 115, 116]⟩ ++ [0])) : Pr).2.length = m7 at hv7 hp7
                obtain ⟨A11, c11, hv11, hp11⟩ := d11.cells
                generalize ((⟨#[109, 111, 100, 101, 108]⟩, (strB (g.1.nm) ++ [0])) : Pr).2.length = m11 at hv11 hp11
                obtain ⟨A13, c13, hv13, hp13⟩ := d13.cells
                generalize ((⟨#[105, 110, 116, 101, 114, 114, 117, 112, 116, 115]⟩, (g.1.qs.map fun q : Iq => IntKind.u32.wrap q.num).flatMap (bytesN 4 false)) : Pr).2.length = m13 at hv13 hp13
                obtain ⟨A15, c15, hv15, hp15⟩ := d15.cells
                generalize ((⟨#[115, 116, 114, 101, 97, 109, 115]⟩, g.1.ss.flatMap (bytesN 4 false)) : Pr).2.length = m15 at hv15 hp15
                go_simp
                exact hK.out _ _ _ (bal (Below.refl _ _) _) (PsP.fresh _ [(⟨#[35, 97, 100, 100, 114, 101, 115, 115, 45, 99, 101, 108, 108, 115]⟩, ([2].flatMap (bytesN 4 false))), (⟨#[35, 115, 105, 122, 101, 45, 99, 101, 108, 108, 115]⟩, ([2].flatMap (bytesN 4 false))), (⟨#[99, 111, 109, 112, 97, 116, 105, 98, 108, 101]⟩, (strB ⟨#[112, 111, 114, 116, 114, 101, 101, 118, 101, 44, 103, 117, 101, 115, 116]⟩ ++ [0])), (⟨#[109, 111, 100, 101, 108]⟩, (strB (g.1.nm) ++ [0])), (⟨#[105, 110, 116, 101, 114, 114, 117, 112, 116, 115]⟩, (g.1.qs.map fun q : Iq => IntKind.u32.wrap q.num).flatMap (bytesN 4 false)), (⟨#[115, 116, 114, 101, 97, 109, 115]⟩, g.1.ss.flatMap (bytesN 4 false))] [_, _, _, _, _, _] _ _ 6 ⟨hp2, hp5, hp7, hp11, hp13, hp15, trivial⟩ rfl rfl rfl (by decide) (fun b h => by have := hb.size; omega)) (by simp only [hv2, hv5, hv7, hv11, hv13, hv15, Act.put, List.setIfInBounds_toArray, List.set_cons_succ, List.set_cons_zero])
              refine StepsOk.cons (fun vals w' hb hd K hK => ?_) ?_
              · have d16 := hd 16 (by decide)
                simp only [List.getD_cons_zero, List.getD_cons_succ, SP.eq] at d16
                obtain ⟨A, c, f, hv, hp⟩ := id d16
                simp only [List.length_cons, List.length_nil, Nat.zero_add, Nat.reduceAdd] at hv
                rw [hv] at d16
                go_simp
                exact hK.out (.agg #[.string ⟨#[]⟩, .slice A 6 c, .slice none 0 0]) _ _ (Below.refl _ _) ⟨A, c, rfl, d16⟩ (by simp only [hv, Act.put, List.setIfInBounds_toArray, List.set_cons_succ, List.set_cons_zero])
              refine StepsOk.cons (fun vals w' hb hd K hK => ?_) ?_
              · go_simp
                exact hK.out _ _ _ (bal (Below.refl _ _) _) ⟨_, rfl, hb.size, Blk.new _ _ _⟩ (by kernel_rfl)
              exact StepsOk.nil
            · intro vals w4 hb4 hd
              have d14 := hd 17 (by decide)
              have d15 := hd 18 (by decide)
              simp only [List.getD_cons_zero, List.getD_cons_succ] at d14 d15
              obtain ⟨Ap, cp, hv14, hp14⟩ := d14
              obtain ⟨bz, hv15, hgz, hZ⟩ := d15
              have hbw4 := hbw.trans (hb4.mono hbw.size)
              have hC4 := hC5.kept hb4
              have hR4 := hR5.kept hb4
              have hG4 := hGw.kept hb4
              have hbzl := hZ.lt
              have cZ := hZ.cell
              have fZ := hZ.frozen
              have hp4 := hp14.moreB hZ
              have hz1 := hZ.set_ 0 (.string ⟨#[]⟩)
              have hz2 := hz1.set_ 1 (.slice Ap (rootPs g.1).length cp)
              have hz3 := hz2.set_ 2 (.slice none 0 0)
              have hp7 := ((hp4.turn (Same.set_in (X := fun b => b = w.heap.size + 1 ∨ b = bz) hZ (by decide) (.inr rfl) 0 (.string ⟨#[]⟩))).turn (Same.set_in (X := fun b => b = w.heap.size + 1 ∨ b = bz) hz1 (by decide) (.inr rfl) 1 (.slice Ap (rootPs g.1).length cp))).turn (Same.set_in (X := fun b => b = w.heap.size + 1 ∨ b = bz) hz2 (by decide) (.inr rfl) 2 (.slice none 0 0))
              have far : ∀ g' T cs, g' ≠ bz → Blk w4 g' T cs → Blk (((w4.setCell ⟨bz, 0, none⟩ (.string ⟨#[]⟩)).setCell ⟨bz, 1, none⟩ (.slice Ap (rootPs g.1).length cp)).setCell ⟨bz, 2, none⟩ (.slice none 0 0)) g' T cs := fun g' T cs hne h => ((h.far (p := ⟨bz, 0, none⟩) hne _).far (p := ⟨bz, 1, none⟩) hne _).far (p := ⟨bz, 2, none⟩) hne _
              have hC6 := far _ _ _ (by omega) hC4
              have hR6 := far _ _ _ (by omega) hR4
              have hG6 := far _ _ _ (by omega) hG4
              have hb6 := ((hbw4.setCell (p := ⟨bz, 0, none⟩) (by show w.heap.size ≤ bz; omega) (.string ⟨#[]⟩)).setCell (p := ⟨bz, 1, none⟩) (by show w.heap.size ≤ bz; omega) (.slice Ap (rootPs g.1).length cp)).setCell (p := ⟨bz, 2, none⟩) (by show w.heap.size ≤ bz; omega) (.slice none 0 0)
              have hz6 : (((w4.setCell ⟨bz, 0, none⟩ (.string ⟨#[]⟩)).setCell ⟨bz, 1, none⟩ (.slice Ap (rootPs g.1).length cp)).setCell ⟨bz, 2, none⟩ (.slice none 0 0)).heap.size = w4.heap.size := by simp
              have hbz3 : w.heap.size + 2 < bz := by omega
              obtain ⟨w5, hw5⟩ : ∃ w5, ((w4.setCell ⟨bz, 0, none⟩ (.string ⟨#[]⟩)).setCell ⟨bz, 1, none⟩ (.slice Ap (rootPs g.1).length cp)).setCell ⟨bz, 2, none⟩ (.slice none 0 0) = w5 := ⟨_, rfl⟩
              have hz3 : Blk (((w4.setCell ⟨bz, 0, none⟩ (.string ⟨#[]⟩)).setCell ⟨bz, 1, none⟩ (.slice Ap (rootPs g.1).length cp)).setCell ⟨bz, 2, none⟩ (.slice none 0 0)) bz 25 #[.string ⟨#[]⟩, .slice Ap (rootPs g.1).length cp, .slice none 0 0] := hz3
              rw [hw5] at hC6 hR6 hG6 hb6 hz3 hp7 hz6
              have hbz5 : bz < w5.heap.size := by omega
              generalize hvp : (rootPs g.1).length = np at *
              simp only [List.drop_succ_cons, List.drop_zero, fillA, fillL, List.setIfInBounds_toArray, List.set_cons_succ, List.set_cons_zero, Nat.zero_add, Nat.reduceAdd, hv14, hv15]
              clear hd hv14 hv15 hz1 hz2 far hp4 hp14 hC4 hR4 hG4 hbw4 hC5 hR5 hGw hbw
              have HC6 := Lib.hid hC6
              have HR6 := Lib.hid hR6
              have HG6 := Lib.hid hG6
              have HB6 := Lib.hid hb6
              have HZ6 := Lib.hid hz3
              have HP6 := Lib.hid hp7
              clear hC6 hR6 hG6 hb6 hz3 hp7 hz6
              go_upto_region 16 with (fail)
              clear hw5 cZ fZ
              have HF1 := Lib.hid (fourR_any (some ⟨w5.heap.size, 0, none⟩) 1 1 [1] (w5.alloc (.cells #[.int .u64 1] 35)) rfl (by decide) (by decide) (Rd.fresh w5 #[.int .u64 1] 35 1 1 _ rfl rfl))
              go_upto_region 17 with (first
                | (go_at_call 56; first
                  | ((with_reducible refine HF1.out.mono ?_); rintro e wA ⟨v1, rfl, hpA, hbA⟩; obtain ⟨A1, c1, hv1, _⟩ := id hpA; rw [bytesNs_len] at hv1; simp only [List.length_cons, List.length_nil, Nat.zero_add, Nat.mul_one] at hv1; subst hv1; clear HF1; have HP1 := Lib.hid (propR_any nAddr (.slice A1 4 c1) ([1].flatMap (bytesN 4 false)) wA (by decide) (bytesNs_ok _ _ _) hpA))
                  | ((with_reducible refine HF2.out.mono ?_); rintro e wC ⟨v3, rfl, hpC, hbC⟩; obtain ⟨A3, c3, hv3, _⟩ := id hpC; rw [bytesNs_len] at hv3; simp only [List.length_cons, List.length_nil, Nat.zero_add, Nat.mul_one] at hv3; subst hv3; clear HF2; have HP2 := Lib.hid (propR_any nSize (.slice A3 4 c3) ([0].flatMap (bytesN 4 false)) wC (by decide) (bytesNs_ok _ _ _) hpC)))
                | (go_at_call 57; first
                  | ((with_reducible refine HP1.out.mono ?_); rintro e wB ⟨v2, rfl, hqB, hbB⟩; obtain ⟨A2', c2', hv2, hxB⟩ := hqB.cells; generalize ((nAddr, [(1 : Int)].flatMap (bytesN 4 false)) : Pr).2.length = m1 at hv2 hxB; subst hv2; clear HP1; have HF2 := Lib.hid (fourR_any (some ⟨wB.heap.size, 0, none⟩) 1 1 [0] (wB.alloc (.cells #[.int .u64 0] 35)) rfl (by decide) (by decide) (Rd.fresh wB #[.int .u64 0] 35 1 1 _ rfl rfl)))
                  | ((with_reducible refine HP2.out.mono ?_); rintro e wD ⟨v4, rfl, hqD, hbD⟩; obtain ⟨A4, c4, hv4, hxD⟩ := hqD.cells; generalize ((nSize, [(0 : Int)].flatMap (bytesN 4 false)) : Pr).2.length = m2 at hv4 hxD; subst hv4; clear HP2)))
              have hbA' := below_alloc hbA
              have hbC' := below_alloc hbC
              have hbBD : RowKit.Below wB.heap.size wB wD := hbC'.trans (hbD.mono hbC'.size)
              have hb5B := hbA'.trans (hbB.mono hbA'.size)
              have hb5D := hb5B.trans (hbBD.mono hb5B.size)
              have hzD : w5.heap.size ≤ wD.heap.size := hb5D.size
              have hrl := HR6.out.lt
              have hP2 := PsP.fresh (X := fun b => b = w.heap.size + 1 ∨ b = bz) wD cpuPs [_, _] (#[.string nAddr, .slice A2' m1 c2', .string nSize, .slice A4 m2 c4]) wD.heap.size 2 ⟨hxB.kept hbBD, hxD, trivial⟩ rfl rfl rfl (by decide) (fun b h => by rcases h with h | h <;> omega)
              have hb5E := bal' hb5D (.cells #[.string nAddr, .slice A2' m1 c2', .string nSize, .slice A4 m2 c4] 88) hzD
              have hzE : (wD.alloc (.cells #[.string nAddr, .slice A2' m1 c2', .string nSize, .slice A4 m2 c4] 88)).heap.size = wD.heap.size + 1 := by simp
              clear hbA hbB hbC hbD hbA' hbC' hbBD hb5B hb5D hxB hxD hpA hpC hqB hqD
              generalize wD.alloc (.cells #[.string nAddr, .slice A2' m1 c2', .string nSize, .slice A4 m2 c4] 88) = wE at *
              generalize hcv : (Value.slice (some ⟨wD.heap.size, 0, none⟩) 2 2) = vps at *
              have hcz : wE.heap.size = wD.heap.size + 1 := hzE
              obtain ⟨cz, hcz'⟩ : ∃ cz, wD.heap.size + 1 = cz := ⟨_, rfl⟩
              rw [hcz'] at hcz hzE ⊢
              have hT16 := Blk.fresh (g := cz) wE 25 #[.string ⟨#[99, 112, 117, 115]⟩, vps, .slice none 0 0] hzE.symm
              have hbF := bal (Below.refl wE.heap.size wE) (.cells #[.string ⟨#[99, 112, 117, 115]⟩, vps, .slice none 0 0] 25)
              have hb5F := hb5E.trans (hbF.mono hb5E.size)
              have hzF : (wE.alloc (.cells #[.string ⟨#[99, 112, 117, 115]⟩, vps, .slice none 0 0] 25)).heap.size = cz + 1 := by simp [hzE]
              have hP3 := (hP2.kept hbF).moreB hT16
              have hp16 := (HP6.out.kept hb5F).moreB hT16
              obtain ⟨X, hXe⟩ : ∃ X : Nat → Prop, X = fun b => (b = w.heap.size + 1 ∨ b = bz) ∨ b = cz := ⟨_, rfl⟩
              have hP3 : PsP X cpuPs (wE.alloc (.cells #[.string ⟨#[99, 112, 117, 115]⟩, vps, .slice none 0 0] 25)) vps := by rw [hXe]; exact hP3
              have hp16 : PsP X (rootPs g.1) (wE.alloc (.cells #[.string ⟨#[99, 112, 117, 115]⟩, vps, .slice none 0 0] 25)) (.slice Ap np cp) := by rw [hXe]; exact hp16
              have hXz : X cz := by rw [hXe]; exact .inr rfl
              have hXzb : X bz := by rw [hXe]; exact .inl (.inr rfl)
              have hXr : X (w.heap.size + 1) := by rw [hXe]; exact .inl (.inl rfl)
              have hXb : ∀ b, X b → b < cz + 1 := fun b hb => by
                rw [hXe] at hb
                rcases hb with (hb | hb) | hb <;> omega
              have hbc : bz < cz := by omega
              have hJ0 : GJ w (wE.alloc (.cells #[.string ⟨#[99, 112, 117, 115]⟩, vps, .slice none 0 0] 25)) #[.int .u32 x.ver, .slice (some ⟨b, o, none⟩) n c, .slice A2 n2 c2] g X bz cz (cz + 1) [] (.slice Ap np cp) vps (.slice none 0 0) :=
                ⟨HC6.out.kept hb5F, HR6.out.kept hb5F, HG6.out.kept hb5F, HZ6.out.kept hb5F, hp16, ⟨hT16, hP3, OwnTs.nil _ _ _, by omega⟩, HB6.out.trans (hb5F.mono HB6.out.size)⟩
              have HJ0 := Lib.hid hJ0
              clear hJ0 hP2 hb5E hbF hb5F hzF hP3 hp16 hXe hcv hcz hcz' hzE hT16 HC6 HR6 HG6 HZ6 HP6
              generalize wE.alloc (.cells #[.string ⟨#[99, 112, 117, 115]⟩, vps, .slice none 0 0] 25) = wF at *
              go_wp2_with fail
              go_loopw [15] (fun kv wr => ∃ (j : Nat) (vks : Value), j ≤ 32 ∧ kv = .int .u64 j ∧ GJ w wr #[.int .u32 x.ver, .slice (some ⟨b, o, none⟩) n c, .slice A2 n2 c2] g X bz cz (cz + 1) (((List.range j).filter (bitG g.1.cpus)).map cpuG) (.slice Ap np cp) vps vks) (fun kv _ => 32 - (intOf kv).toNat)
              case atStart => exact ⟨0, _, by omega, rfl, HJ0.out⟩
              case round =>
                clear HJ0
                obtain ⟨j, vks, hj, rfl, hJ⟩ := hrel
                have hcp := HG.out.cpus
                have cG4 : wr.cell? ⟨w.heap.size + 2, 4, none⟩ = some (.int .u32 g.1.cpus) := hJ.gst.cell 4
                by_cases hlt : j < 32
                · have hfl : (List.range (j + 1)).filter (bitG g.1.cpus) = (List.range j).filter (bitG g.1.cpus) ++ (if bitG g.1.cpus j then [j] else []) := by
                    rw [List.range_succ, List.filter_append]
                    congr 1
                    cases h : bitG g.1.cpus j <;> simp [h]
                  have e32 : decide ((j : Int) < 32) = true := decide_eq_true (by omega)
                  have HFl := Lib.hid hfl
                  clear hfl
                  by_cases hbit : bitG g.1.cpus j = true
                  · have hbt : (bits .and .u32 (g.1.cpus / 2 ^ j) 1 == 1) = true := hbit
                    have HBit := Lib.hid hbit
                    clear hbit
                    go_upto_region 21 with (fail)
                    clear hbt cG4
                    have hXl := hJ.xl hXb
                    refine wp_region_spec 14 [106, 107, 108, 109, 110, 111, 112, 113, 114, 115, 116, 117, 118, 119] [.eq (.pointer (some ⟨cz, 2, none⟩)), .eq (vks), .eq (.int .u64 ((j : Int))), .eq (.string (strOfNums (hexN j))), .eq (.string (strOfNums (atN [99, 112, 117] j))), RowV 5 encB 1 (strB ⟨#[99, 112, 117]⟩ ++ [0]), PrV (⟨#[100, 101, 118, 105, 99, 101, 95, 116, 121, 112, 101]⟩, (strB ⟨#[99, 112, 117]⟩ ++ [0])), .eq (.int .u64 ((j : Int))), RowV 35 encQ 1 [(j : Int)], RowV 5 encB 1 ([(j : Int)].flatMap (bytesN 4 false)), PrV (⟨#[114, 101, 103]⟩, ([(j : Int)].flatMap (bytesN 4 false))), PsV (fun b => X b ∨ vks.ownBlock = some b) [(⟨#[100, 101, 118, 105, 99, 101, 95, 116, 121, 112, 101]⟩, (strB ⟨#[99, 112, 117]⟩ ++ [0])), (⟨#[114, 101, 103]⟩, ([(j : Int)].flatMap (bytesN 4 false)))], TrV (fun b => X b ∨ vks.ownBlock = some b) (cpuG j), TsV (fun b => X b ∨ vks.ownBlock = some b) [(cpuG j)]] (by kernel_rfl) (by kernel_rfl) ?_ ?_
                    · unfold StepS
                      simp only [List.take_succ_cons, List.take_zero, fillA, fillL, List.setIfInBounds_toArray, List.set_cons_succ, List.set_cons_zero, Nat.zero_add, Nat.reduceAdd]
                      refine StepsOk.cons (fun vals w' hb hd K hK => ?_) ?_
                      · go_simp
                        exact hK.out _ _ _ (Below.refl _ _) rfl (by kernel_rfl)
                      refine StepsOk.cons (fun vals w' hb hd K hK => ?_) ?_
                      · have d0 := hd 0 (by decide)
                        simp only [List.getD_cons_zero, List.getD_cons_succ, SP.eq] at d0
                        have hS' := (hJ.tb.box.kept hb).cell
                        go_simp
                        exact hK.out _ _ _ (Below.refl _ _) rfl (by simp only [d0, Act.put, List.setIfInBounds_toArray, List.set_cons_succ, List.set_cons_zero])
                      refine StepsOk.cons (fun vals w' hb hd K hK => ?_) ?_
                      · go_simp
                        exact hK.out _ _ _ (Below.refl _ _) rfl (by kernel_rfl)
                      refine StepsOk.cons (fun vals w' hb hd K hK => ?_) ?_
                      · have d2 := hd 2 (by decide)
                        simp only [List.getD_cons_zero, List.getD_cons_succ, SP.eq] at d2
                        go_simp
                        go_at_call 59
                        refine (refHex_any j (by omega) _).mono ?_
                        rintro e w2 ⟨rfl, rfl⟩
                        exact hK.out _ _ _ (Below.refl _ _) rfl (by simp only [d2, Act.put, List.setIfInBounds_toArray, List.set_cons_succ, List.set_cons_zero])
                      refine StepsOk.cons (fun vals w' hb hd K hK => ?_) ?_
                      · have d3 := hd 3 (by decide)
                        simp only [List.getD_cons_zero, List.getD_cons_succ, SP.eq] at d3
                        have q1 := catSizeG 4 j (by decide)
                        have q2 := catNameG ⟨#[99, 112, 117, 64]⟩ [99, 112, 117] j (by decide +kernel)
                        go_simp
                        exact hK.out _ _ _ (Below.refl _ _) rfl (by simp only [d3, Act.put, List.setIfInBounds_toArray, List.set_cons_succ, List.set_cons_zero])
                      refine StepsOk.cons (fun vals w' hb hd K hK => ?_) ?_
                      · go_simp
                        go_at_call 58
                        refine (zeroR_any _ _ (by decide)).mono ?_
                        rintro e w2 ⟨v, rfl, hp, hb2⟩
                        exact hK.out _ _ _ hb2 hp (by kernel_rfl)
                      refine StepsOk.cons (fun vals w' hb hd K hK => ?_) ?_
                      · have d5 := hd 5 (by decide)
                        simp only [List.getD_cons_zero, List.getD_cons_succ, SP.eq] at d5
                        obtain ⟨A, c, hv, _⟩ := id d5
                        generalize ((strB ⟨#[99, 112, 117]⟩ ++ [0])).length = m at hv
                        rw [hv] at d5
                        go_simp
                        go_at_call 57
                        refine (propR_any _ _ _ _ (by decide) (strB0_ok _) d5).mono ?_
                        rintro e w2 ⟨v, rfl, hp, hb2⟩
                        exact hK.out _ _ _ hb2 hp (by simp only [hv, Act.put, List.setIfInBounds_toArray, List.set_cons_succ, List.set_cons_zero])
                      refine StepsOk.cons (fun vals w' hb hd K hK => ?_) ?_
                      · go_simp
                        exact hK.out _ _ _ (Below.refl _ _) rfl (by kernel_rfl)
                      refine StepsOk.cons (fun vals w' hb hd K hK => ?_) ?_
                      · have d7 := hd 7 (by decide)
                        simp only [List.getD_cons_zero, List.getD_cons_succ, SP.eq] at d7
                        go_simp
                        exact hK.out _ _ _ (bal (Below.refl _ _) _) (RowP.fresh _ [(j : Int)] _ 1 _ rfl rfl rfl rfl (by decide)) (by simp only [d7, Act.put, List.setIfInBounds_toArray, List.set_cons_succ, List.set_cons_zero])
                      refine StepsOk.cons (fun vals w' hb hd K hK => ?_) ?_
                      · have d8 := hd 8 (by decide)
                        simp only [List.getD_cons_zero, List.getD_cons_succ, SP.eq] at d8
                        obtain ⟨A, c, hv, h1, h2, h3, _⟩ := d8
                        simp only [List.length_cons, List.length_nil, Nat.zero_add, Nat.reduceAdd] at hv h3
                        go_simp
                        go_at_call 56
                        refine (fourR_any A 1 c [(j : Int)] _ rfl (by decide) (by intro y hy; simp at hy; subst hy; omega) h3).mono ?_
                        rintro e w2 ⟨v, rfl, hp, hb2⟩
                        exact hK.out _ _ _ hb2 hp (by simp only [hv, Act.put, List.setIfInBounds_toArray, List.set_cons_succ, List.set_cons_zero])
                      refine StepsOk.cons (fun vals w' hb hd K hK => ?_) ?_
                      · have d9 := hd 9 (by decide)
                        simp only [List.getD_cons_zero, List.getD_cons_succ, SP.eq] at d9
                        obtain ⟨A, c, hv, _⟩ := id d9
                        generalize (([(j : Int)].flatMap (bytesN 4 false))).length = m at hv
                        rw [hv] at d9
                        go_simp
                        go_at_call 57
                        refine (propR_any _ _ _ _ (by decide) (bytesNs_ok _ _ _) d9).mono ?_
                        rintro e w2 ⟨v, rfl, hp, hb2⟩
                        exact hK.out _ _ _ hb2 hp (by simp only [hv, Act.put, List.setIfInBounds_toArray, List.set_cons_succ, List.set_cons_zero])
                      refine StepsOk.cons (fun vals w' hb hd K hK => ?_) ?_
                      · have d6 := hd 6 (by decide)
                        simp only [List.getD_cons_zero, List.getD_cons_succ, SP.eq] at d6
                        have d10 := hd 10 (by decide)
                        simp only [List.getD_cons_zero, List.getD_cons_succ, SP.eq] at d10
                        obtain ⟨A6, c6, hv6, hp6⟩ := d6.cells
                        generalize ((⟨#[100, 101, 118, 105, 99, 101, 95, 116, 121, 112, 101]⟩, (strB ⟨#[99, 112, 117]⟩ ++ [0])) : Pr).2.length = m6 at hv6 hp6
                        obtain ⟨A10, c10, hv10, hp10⟩ := d10.cells
                        generalize ((⟨#[114, 101, 103]⟩, ([(j : Int)].flatMap (bytesN 4 false))) : Pr).2.length = m10 at hv10 hp10
                        go_simp
                        exact hK.out _ _ _ (bal (Below.refl _ _) _) (PsP.fresh _ [(⟨#[100, 101, 118, 105, 99, 101, 95, 116, 121, 112, 101]⟩, (strB ⟨#[99, 112, 117]⟩ ++ [0])), (⟨#[114, 101, 103]⟩, ([(j : Int)].flatMap (bytesN 4 false)))] [_, _] _ _ 2 ⟨hp6, hp10, trivial⟩ rfl rfl rfl (by decide) (hXl _ hb)) (by simp only [hv6, hv10, Act.put, List.setIfInBounds_toArray, List.set_cons_succ, List.set_cons_zero])
                      refine StepsOk.cons (fun vals w' hb hd K hK => ?_) ?_
                      · have d4 := hd 4 (by decide)
                        simp only [List.getD_cons_zero, List.getD_cons_succ, SP.eq] at d4
                        have d11 := hd 11 (by decide)
                        simp only [List.getD_cons_zero, List.getD_cons_succ, SP.eq] at d11
                        obtain ⟨A, c, f, hv, hp⟩ := id d11
                        simp only [List.length_cons, List.length_nil, Nat.zero_add, Nat.reduceAdd] at hv
                        rw [hv] at d11
                        go_simp
                        exact hK.out (.agg #[.string (strOfNums (atN [99, 112, 117] j)), .slice A 2 c, .slice none 0 0]) _ _ (Below.refl _ _) (TrP.mk (nm_atM (by decide)) d11 (TsP.nil 0 none (by simp [maxLen]))) (by simp only [d4, hv, Act.put, List.setIfInBounds_toArray, List.set_cons_succ, List.set_cons_zero])
                      refine StepsOk.cons (fun vals w' hb hd K hK => ?_) ?_
                      · have d12 := hd 12 (by decide)
                        simp only [List.getD_cons_zero, List.getD_cons_succ, SP.eq] at d12
                        obtain ⟨A, c, B, e, hv, k, hp⟩ := d12.cells
                        generalize ((cpuG j) : Tr).nm = q0 at hv hp
                        generalize ((cpuG j) : Tr).ps.length = q1 at hv hp
                        generalize ((cpuG j) : Tr).ks.length = q2 at hv hp
                        go_simp
                        exact hK.out _ _ _ (bal (Below.refl _ _) _) (TsP.fresh _ [(cpuG j)] [_] _ _ 1 ⟨⟨k, hp⟩, trivial⟩ rfl rfl rfl (by decide) (hXl _ hb)) (by simp only [hv, Act.put, List.setIfInBounds_toArray, List.set_cons_succ, List.set_cons_zero])
                      exact StepsOk.nil
                    · intro vals w8 hb8 hd
                      have d1 := hd 1 (by decide)
                      have dS := hd 13 (by decide)
                      simp only [List.getD_cons_zero, List.getD_cons_succ, SP.eq] at d1 dS
                      obtain ⟨A9, c9, f9, k9, hv9, _⟩ := id dS
                      simp only [List.length_cons, List.length_nil, Nat.zero_add, Nat.reduceAdd] at hv9
                      have hks : (((List.range j).filter (bitG g.1.cpus)).map cpuG).length ≤ 1000000 := by
                        rw [List.length_map]
                        have := List.length_filter_le (bitG g.1.cpus) (List.range j)
                        simp at this
                        omega
                      obtain ⟨w9, A0, c0, hr, hT9, hJ9⟩ := (hJ.kept hb8).add dS hXz hXb hbz3 (by omega) (by omega) (by omega) hks
                      rw [hv9] at hr
                      simp only [List.drop_succ_cons, List.drop_zero, fillA, fillL, List.setIfInBounds_toArray, List.set_cons_succ, List.set_cons_zero, Nat.zero_add, Nat.reduceAdd, d1, hv9]
                      clear hd
                      refine wpList_appr rfl (.tmp 107) (.tmp 119) rfl rfl rfl hr ?_
                      have cT9 := hT9.cell
                      have fT9 := hT9.frozen
                      generalize (((List.range j).filter (bitG g.1.cpus)).map cpuG).length + 1 = nk at *
                      have HJ9 := Lib.hid hJ9
                      clear hJ9 hr
                      go_wp2_with fail
                      go_roundw
                      case rel =>
                        refine ⟨j + 1, .slice A0 nk c0, by omega, by go_num, ?_⟩
                        rw [HFl.out, if_pos HBit.out, List.map_append]
                        exact HJ9.out
                      case measure => simp [intOf]; omega
                  · have hbt : (bits .and .u32 (g.1.cpus / 2 ^ j) 1 == 1) = false := by simpa [bitG] using hbit
                    have HBit := Lib.hid hbit
                    clear hbit
                    go_wp2_with fail
                    go_roundw
                    case rel =>
                      refine ⟨j + 1, vks, by omega, by go_num, ?_⟩
                      rw [HFl.out, if_neg HBit.out, List.append_nil]
                      exact hJ
                    case measure => simp [intOf]; omega
                · obtain rfl : j = 32 := by omega
                  have cK := hJ.tb.box.cell
                  have cB := hJ.root.cell
                  have fB := hJ.root.frozen
                  have hT := hJ.tb.tree hXb (by decide)
                  obtain ⟨Av, cv, Bv, ev, hvv, kv, hpv⟩ := hT.cells
                  have hpv : TrX wr X kv (cpusG g.1.cpus) [.string ⟨#[99, 112, 117, 115]⟩, .slice Av (Tr.mk ⟨#[99, 112, 117, 115]⟩ cpuPs (((List.range 32).filter (bitG g.1.cpus)).map cpuG)).ps.length cv, .slice Bv (Tr.mk ⟨#[99, 112, 117, 115]⟩ cpuPs (((List.range 32).filter (bitG g.1.cpus)).map cpuG)).ks.length ev] := hpv
                  generalize (Tr.mk ⟨#[99, 112, 117, 115]⟩ cpuPs (((List.range 32).filter (bitG g.1.cpus)).map cpuG)).ps.length = q1 at hvv hpv
                  generalize (Tr.mk ⟨#[99, 112, 117, 115]⟩ cpuPs (((List.range 32).filter (bitG g.1.cpus)).map cpuG)).ks.length = q2 at hvv hpv
                  simp only [Value.agg.injEq, Array.mk.injEq, List.cons.injEq, and_true] at hvv
                  obtain ⟨_, rfl, rfl⟩ := hvv
                  obtain ⟨base, hbase⟩ : ∃ base, wr.heap.size = base := ⟨_, rfl⟩
                  have hbl := hJ.tb.size
                  have hXb2 : ∀ b, X b → b < base := fun b hb => by have := hXb b hb; omega
                  have hI0 : GI w wr #[.int .u32 x.ver, .slice (some ⟨b, o, none⟩) n c, .slice A2 n2 c2] g X bz base [] (.slice Ap np cp) (.slice none 0 0) := ⟨hJ.cfg, hJ.res, hJ.gst, ⟨hJ.root, hJ.rps, OwnTs.nil _ _ _, by omega⟩, hJ.bel⟩
                  have hbG := bal (Below.refl wr.heap.size wr) (.cells #[.string ⟨#[99, 112, 117, 115]⟩, .slice Av q1 cv, .slice Bv q2 ev] 25)
                  have hx22 := TsP.fresh (X := fun b => X b ∨ (Value.slice none 0 0).ownBlock = some b) wr [cpusG g.1.cpus] [_] #[.string ⟨#[99, 112, 117, 115]⟩, .slice Av q1 cv, .slice Bv q2 ev] wr.heap.size 1 ⟨⟨kv, hpv.less (fun b hb => by
                    rcases hb with hb | hb
                    · exact hb
                    · simp [Value.ownBlock] at hb)⟩, trivial⟩ rfl rfl rfl (by decide) (fun b hb => by
                    rcases hb with hb | hb
                    · have := hXb b hb; omega
                    · simp [Value.ownBlock] at hb)
                  obtain ⟨w9, A0, c0, hr, hT9, hI9, _⟩ := (hI0.kept hbG).add hx22 hXzb hXb2 hbz3 (by simp)
                  have cT9 := hT9.cell
                  have fT9 := hT9.frozen
                  generalize ([] : List Tr).length + 1 = nk at *
                  have HI9 := Lib.hid hI9
                  have HX2 := Lib.hid hXb2
                  clear hI9 hI0 hbG hx22 hpv hT hJ cG4 hbl hbase hXb2
                  go_upto_region 23 with (at_builtin; refine wpList_appr rfl (.tmp 123) (.tmp 125) rfl rfl rfl hr ?_)
                  have hI := HI9.out
                  have e1 : ([] : List Tr) ++ [cpusG g.1.cpus] = [cpusG g.1.cpus] ++ (g.1.ws.take 0).map winG := rfl
                  rw [e1] at hI
                  have hXz : X bz := hXzb
                  have hXb := HX2.out
                  have hs5 : g.1.ss.length ≤ 40 := by rw [HSn.out]; exact hsn
                  have hs6 := hnm100
                  clear cT9 fT9 HI9 hr e1 hT9
                  generalize w9.setCell ⟨bz, 2, none⟩ (.slice A0 nk c0) = w10 at *
                  generalize Value.slice A0 nk c0 = vk0 at *
                  have hnw := HFw.out.1
                  generalize hws : g.1.ws.length = nw at *
                  have HWs := Lib.hid hws
                  have cG75 : w10.cell? ⟨w.heap.size + 2, 75, none⟩ = some (.slice g.2.AW nw g.2.cW) := (hI.gst.cell 75).trans (by simpa [hws] using HGt.out 0)
                  clear hws
                  have HI0 := Lib.hid hI
                  clear hI
                  go_wp2_with fail
                  clear cG75
                  go_loopw [131] (fun jv wr => ∃ (j : Nat) (vks : Value), j ≤ nw ∧ jv = .int .i64 j ∧ GI w wr #[.int .u32 x.ver, .slice (some ⟨b, o, none⟩) n c, .slice A2 n2 c2] g X bz base ([cpusG g.1.cpus] ++ (g.1.ws.take j).map winG) (.slice Ap np cp) vks) (fun jv _ => nw - (intOf jv).toNat)
                  case atStart => exact ⟨0, _, by omega, rfl, HI0.out⟩
                  case round =>
                    clear HI0
                    obtain ⟨j, vks, hj, rfl, hI⟩ := hrel
                    by_cases hlt : j < nw
                    · obtain ⟨y, hy⟩ : ∃ y, g.1.ws[j]? = some y := ⟨_, List.getElem?_eq_getElem (by rw [HWs.out]; exact hlt)⟩
                      obtain ⟨b1, o1, hA1, hc1⟩ := row_cells (enc := encWn) HG.out.rW (fun _ => rfl) hy
                      have hoy := HG.out.oW y (List.mem_of_getElem? hy)
                      obtain ⟨ia', pa, sz, pm⟩ := y
                      obtain ⟨ia, rfl⟩ := Int.eq_ofNat_of_zero_le hoy.1.1
                      have hU1 : (0 : Int) ≤ (ia : Int) ∧ (ia : Int) < 18446744073709551616 := hoy.1
                      have hU2 : (0 : Int) ≤ sz ∧ sz < 18446744073709551616 := hoy.2.2.1
                      have d0 := hc1 0 (by decide) _ hI.bel
                      have d1 := hc1 1 (by decide) _ hI.bel
                      have d2 := hc1 2 (by decide) _ hI.bel
                      have d3 := hc1 3 (by decide) _ hI.bel
                      simp only [encWn, List.getElem?_cons_zero, List.getElem?_cons_succ, Nat.add_zero] at d0 d1 d2 d3
                      have HY := Lib.hid hy
                      have e3 : decide ((j : Int) < (nw : Int)) = true := decide_eq_true (by omega)
                      rw [hA1]
                      clear hy hc1 hoy
                      go_upto_region 26 with (fail)
                      have hbx := bal (Below.refl wr.heap.size wr) (.cells #[.int .u64 (ia : Int), .int .u64 pa, .int .u64 sz, .int .i64 pm] 112)
                      have hI := hI.kept hbx
                      have hWb := Blk.new wr 112 #[.int .u64 (ia : Int), .int .u64 pa, .int .u64 sz, .int .i64 pm]
                      generalize wr.alloc (.cells #[.int .u64 (ia : Int), .int .u64 pa, .int .u64 sz, .int .i64 pm] 112) = w5 at *
                      obtain ⟨wb, hwb⟩ : ∃ wb, wr.heap.size = wb := ⟨_, rfl⟩
                      rw [hwb] at hWb ⊢
                      clear hbx hwb
                      have hXl := hI.xl hXb
                      refine wp_region_spec 24 [135, 136, 137, 138, 139, 140, 141, 142, 143, 144, 145, 146, 147, 148, 149, 150, 151, 152, 153, 154, 155, 156, 157, 158] [.eq (.pointer (some ⟨bz, 2, none⟩)), .eq (vks), .eq (.pointer (some ⟨wb, 0, none⟩)), .eq (.int .u64 ((ia : Int))), .eq (.string (strOfNums (hexN ia))), .eq (.string (strOfNums (atN [109, 101, 109, 111, 114, 121] ia))), RowV 5 encB 1 (strB ⟨#[109, 101, 109, 111, 114, 121]⟩ ++ [0]), PrV (⟨#[100, 101, 118, 105, 99, 101, 95, 116, 121, 112, 101]⟩, (strB ⟨#[109, 101, 109, 111, 114, 121]⟩ ++ [0])), .eq (.pointer (some ⟨wb, 0, none⟩)), .eq (.int .u64 ((ia : Int))), .eq (.pointer (some ⟨wb, 2, none⟩)), .eq (.int .u64 sz), RowV 35 encQ 1 [(ia : Int), sz], RowV 5 encB 1 ([(ia : Int), sz].flatMap (bytesN 8 false)), PrV (⟨#[114, 101, 103]⟩, ([(ia : Int), sz].flatMap (bytesN 8 false))), .eq (.pointer (some ⟨wb, 3, none⟩)), .eq (.int .i64 pm), .eq (.int .u64 (IntKind.u64.wrap (pm))), RowV 35 encQ 1 [IntKind.u64.wrap (pm)], RowV 5 encB 1 ([IntKind.u32.wrap (pm)].flatMap (bytesN 4 false)), PrV (⟨#[112, 101, 114, 109]⟩, ([IntKind.u32.wrap (pm)].flatMap (bytesN 4 false))), PsV (fun b => X b ∨ vks.ownBlock = some b) [(⟨#[100, 101, 118, 105, 99, 101, 95, 116, 121, 112, 101]⟩, (strB ⟨#[109, 101, 109, 111, 114, 121]⟩ ++ [0])), (⟨#[114, 101, 103]⟩, ([(ia : Int), sz].flatMap (bytesN 8 false))), (⟨#[112, 101, 114, 109]⟩, ([IntKind.u32.wrap (pm)].flatMap (bytesN 4 false)))], TrV (fun b => X b ∨ vks.ownBlock = some b) (winG ⟨ia, pa, sz, pm⟩), TsV (fun b => X b ∨ vks.ownBlock = some b) [(winG ⟨ia, pa, sz, pm⟩)]] (by kernel_rfl) (by kernel_rfl) ?_ ?_
                      · unfold StepS
                        simp only [List.take_succ_cons, List.take_zero, fillA, fillL, List.setIfInBounds_toArray, List.set_cons_succ, List.set_cons_zero, Nat.zero_add, Nat.reduceAdd]
                        refine StepsOk.cons (fun vals w' hb hd K hK => ?_) ?_
                        · go_simp
                          exact hK.out _ _ _ (Below.refl _ _) rfl (by kernel_rfl)
                        refine StepsOk.cons (fun vals w' hb hd K hK => ?_) ?_
                        · have d0 := hd 0 (by decide)
                          simp only [List.getD_cons_zero, List.getD_cons_succ, SP.eq] at d0
                          have hS' := (hI.tb.box.kept hb).cell
                          go_simp
                          exact hK.out _ _ _ (Below.refl _ _) rfl (by simp only [d0, Act.put, List.setIfInBounds_toArray, List.set_cons_succ, List.set_cons_zero])
                        refine StepsOk.cons (fun vals w' hb hd K hK => ?_) ?_
                        · go_simp
                          exact hK.out _ _ _ (Below.refl _ _) rfl (by kernel_rfl)
                        refine StepsOk.cons (fun vals w' hb hd K hK => ?_) ?_
                        · have d2 := hd 2 (by decide)
                          simp only [List.getD_cons_zero, List.getD_cons_succ, SP.eq] at d2
                          have hS' := (hWb.kept hb).cell
                          go_simp
                          exact hK.out _ _ _ (Below.refl _ _) rfl (by simp only [d2, Act.put, List.setIfInBounds_toArray, List.set_cons_succ, List.set_cons_zero])
                        refine StepsOk.cons (fun vals w' hb hd K hK => ?_) ?_
                        · have d3 := hd 3 (by decide)
                          simp only [List.getD_cons_zero, List.getD_cons_succ, SP.eq] at d3
                          go_simp
                          go_at_call 59
                          refine (refHex_any ia (by omega) _).mono ?_
                          rintro e w2 ⟨rfl, rfl⟩
                          exact hK.out _ _ _ (Below.refl _ _) rfl (by simp only [d3, Act.put, List.setIfInBounds_toArray, List.set_cons_succ, List.set_cons_zero])
                        refine StepsOk.cons (fun vals w' hb hd K hK => ?_) ?_
                        · have d4 := hd 4 (by decide)
                          simp only [List.getD_cons_zero, List.getD_cons_succ, SP.eq] at d4
                          have q1 := catSizeG 7 ia (by decide)
                          have q2 := catNameG ⟨#[109, 101, 109, 111, 114, 121, 64]⟩ [109, 101, 109, 111, 114, 121] ia (by decide +kernel)
                          go_simp
                          exact hK.out _ _ _ (Below.refl _ _) rfl (by simp only [d4, Act.put, List.setIfInBounds_toArray, List.set_cons_succ, List.set_cons_zero])
                        refine StepsOk.cons (fun vals w' hb hd K hK => ?_) ?_
                        · go_simp
                          go_at_call 58
                          refine (zeroR_any _ _ (by decide)).mono ?_
                          rintro e w2 ⟨v, rfl, hp, hb2⟩
                          exact hK.out _ _ _ hb2 hp (by kernel_rfl)
                        refine StepsOk.cons (fun vals w' hb hd K hK => ?_) ?_
                        · have d6 := hd 6 (by decide)
                          simp only [List.getD_cons_zero, List.getD_cons_succ, SP.eq] at d6
                          obtain ⟨A, c, hv, _⟩ := id d6
                          generalize ((strB ⟨#[109, 101, 109, 111, 114, 121]⟩ ++ [0])).length = m at hv
                          rw [hv] at d6
                          go_simp
                          go_at_call 57
                          refine (propR_any _ _ _ _ (by decide) (strB0_ok _) d6).mono ?_
                          rintro e w2 ⟨v, rfl, hp, hb2⟩
                          exact hK.out _ _ _ hb2 hp (by simp only [hv, Act.put, List.setIfInBounds_toArray, List.set_cons_succ, List.set_cons_zero])
                        refine StepsOk.cons (fun vals w' hb hd K hK => ?_) ?_
                        · go_simp
                          exact hK.out _ _ _ (Below.refl _ _) rfl (by kernel_rfl)
                        refine StepsOk.cons (fun vals w' hb hd K hK => ?_) ?_
                        · have d8 := hd 8 (by decide)
                          simp only [List.getD_cons_zero, List.getD_cons_succ, SP.eq] at d8
                          have hS' := (hWb.kept hb).cell
                          go_simp
                          exact hK.out _ _ _ (Below.refl _ _) rfl (by simp only [d8, Act.put, List.setIfInBounds_toArray, List.set_cons_succ, List.set_cons_zero])
                        refine StepsOk.cons (fun vals w' hb hd K hK => ?_) ?_
                        · go_simp
                          exact hK.out _ _ _ (Below.refl _ _) rfl (by kernel_rfl)
                        refine StepsOk.cons (fun vals w' hb hd K hK => ?_) ?_
                        · have d10 := hd 10 (by decide)
                          simp only [List.getD_cons_zero, List.getD_cons_succ, SP.eq] at d10
                          have hS' := (hWb.kept hb).cell
                          go_simp
                          exact hK.out _ _ _ (Below.refl _ _) rfl (by simp only [d10, Act.put, List.setIfInBounds_toArray, List.set_cons_succ, List.set_cons_zero])
                        refine StepsOk.cons (fun vals w' hb hd K hK => ?_) ?_
                        · have d9 := hd 9 (by decide)
                          simp only [List.getD_cons_zero, List.getD_cons_succ, SP.eq] at d9
                          have d11 := hd 11 (by decide)
                          simp only [List.getD_cons_zero, List.getD_cons_succ, SP.eq] at d11
                          go_simp
                          exact hK.out _ _ _ (bal (Below.refl _ _) _) (RowP.fresh _ [(ia : Int), sz] _ 2 _ rfl rfl rfl rfl (by decide)) (by simp only [d9, d11, Act.put, List.setIfInBounds_toArray, List.set_cons_succ, List.set_cons_zero])
                        refine StepsOk.cons (fun vals w' hb hd K hK => ?_) ?_
                        · have d12 := hd 12 (by decide)
                          simp only [List.getD_cons_zero, List.getD_cons_succ, SP.eq] at d12
                          obtain ⟨A, c, hv, h1, h2, h3, _⟩ := d12
                          simp only [List.length_cons, List.length_nil, Nat.zero_add, Nat.reduceAdd] at hv h3
                          go_simp
                          go_at_call 60
                          refine (eightR_any A 2 c [(ia : Int), sz] _ rfl (by decide) (by intro y hy; simp at hy; rcases hy with rfl | rfl; exact hU1; exact hU2) h3).mono ?_
                          rintro e w2 ⟨v, rfl, hp, hb2⟩
                          exact hK.out _ _ _ hb2 hp (by simp only [hv, Act.put, List.setIfInBounds_toArray, List.set_cons_succ, List.set_cons_zero])
                        refine StepsOk.cons (fun vals w' hb hd K hK => ?_) ?_
                        · have d13 := hd 13 (by decide)
                          simp only [List.getD_cons_zero, List.getD_cons_succ, SP.eq] at d13
                          obtain ⟨A, c, hv, _⟩ := id d13
                          generalize (([(ia : Int), sz].flatMap (bytesN 8 false))).length = m at hv
                          rw [hv] at d13
                          go_simp
                          go_at_call 57
                          refine (propR_any _ _ _ _ (by decide) (bytesNs_ok _ _ _) d13).mono ?_
                          rintro e w2 ⟨v, rfl, hp, hb2⟩
                          exact hK.out _ _ _ hb2 hp (by simp only [hv, Act.put, List.setIfInBounds_toArray, List.set_cons_succ, List.set_cons_zero])
                        refine StepsOk.cons (fun vals w' hb hd K hK => ?_) ?_
                        · go_simp
                          exact hK.out _ _ _ (Below.refl _ _) rfl (by kernel_rfl)
                        refine StepsOk.cons (fun vals w' hb hd K hK => ?_) ?_
                        · have d15 := hd 15 (by decide)
                          simp only [List.getD_cons_zero, List.getD_cons_succ, SP.eq] at d15
                          have hS' := (hWb.kept hb).cell
                          go_simp
                          exact hK.out _ _ _ (Below.refl _ _) rfl (by simp only [d15, Act.put, List.setIfInBounds_toArray, List.set_cons_succ, List.set_cons_zero])
                        refine StepsOk.cons (fun vals w' hb hd K hK => ?_) ?_
                        · have d16 := hd 16 (by decide)
                          simp only [List.getD_cons_zero, List.getD_cons_succ, SP.eq] at d16
                          go_simp
                          exact hK.out _ _ _ (Below.refl _ _) rfl (by simp only [d16, Act.put, List.setIfInBounds_toArray, List.set_cons_succ, List.set_cons_zero])
                        refine StepsOk.cons (fun vals w' hb hd K hK => ?_) ?_
                        · have d17 := hd 17 (by decide)
                          simp only [List.getD_cons_zero, List.getD_cons_succ, SP.eq] at d17
                          go_simp
                          exact hK.out _ _ _ (bal (Below.refl _ _) _) (RowP.fresh _ [IntKind.u64.wrap (pm)] _ 1 _ rfl rfl rfl rfl (by decide)) (by simp only [d17, Act.put, List.setIfInBounds_toArray, List.set_cons_succ, List.set_cons_zero])
                        refine StepsOk.cons (fun vals w' hb hd K hK => ?_) ?_
                        · have d18 := hd 18 (by decide)
                          simp only [List.getD_cons_zero, List.getD_cons_succ, SP.eq] at d18
                          obtain ⟨A, c, hv, h1, h2, h3, _⟩ := d18
                          simp only [List.length_cons, List.length_nil, Nat.zero_add, Nat.reduceAdd] at hv h3
                          go_simp
                          go_at_call 56
                          refine (fourR_any A 1 c [IntKind.u64.wrap (pm)] _ rfl (by decide) (by intro y hy; simp at hy; subst hy; exact wrap64_in _) h3).mono ?_
                          rintro e w2 ⟨v, rfl, hp, hb2⟩
                          exact hK.out _ _ _ hb2 (wrap_flat pm ▸ hp) (by simp only [hv, Act.put, List.setIfInBounds_toArray, List.set_cons_succ, List.set_cons_zero])
                        refine StepsOk.cons (fun vals w' hb hd K hK => ?_) ?_
                        · have d19 := hd 19 (by decide)
                          simp only [List.getD_cons_zero, List.getD_cons_succ, SP.eq] at d19
                          obtain ⟨A, c, hv, _⟩ := id d19
                          generalize (([IntKind.u32.wrap (pm)].flatMap (bytesN 4 false))).length = m at hv
                          rw [hv] at d19
                          go_simp
                          go_at_call 57
                          refine (propR_any _ _ _ _ (by decide) (bytesNs_ok _ _ _) d19).mono ?_
                          rintro e w2 ⟨v, rfl, hp, hb2⟩
                          exact hK.out _ _ _ hb2 hp (by simp only [hv, Act.put, List.setIfInBounds_toArray, List.set_cons_succ, List.set_cons_zero])
                        refine StepsOk.cons (fun vals w' hb hd K hK => ?_) ?_
                        · have d7 := hd 7 (by decide)
                          simp only [List.getD_cons_zero, List.getD_cons_succ, SP.eq] at d7
                          have d14 := hd 14 (by decide)
                          simp only [List.getD_cons_zero, List.getD_cons_succ, SP.eq] at d14
                          have d20 := hd 20 (by decide)
                          simp only [List.getD_cons_zero, List.getD_cons_succ, SP.eq] at d20
                          obtain ⟨A7, c7, hv7, hp7⟩ := d7.cells
                          generalize ((⟨#[100, 101, 118, 105, 99, 101, 95, 116, 121, 112, 101]⟩, (strB ⟨#[109, 101, 109, 111, 114, 121]⟩ ++ [0])) : Pr).2.length = m7 at hv7 hp7
                          obtain ⟨A14, c14, hv14, hp14⟩ := d14.cells
                          generalize ((⟨#[114, 101, 103]⟩, ([(ia : Int), sz].flatMap (bytesN 8 false))) : Pr).2.length = m14 at hv14 hp14
                          obtain ⟨A20, c20, hv20, hp20⟩ := d20.cells
                          generalize ((⟨#[112, 101, 114, 109]⟩, ([IntKind.u32.wrap (pm)].flatMap (bytesN 4 false))) : Pr).2.length = m20 at hv20 hp20
                          go_simp
                          exact hK.out _ _ _ (bal (Below.refl _ _) _) (PsP.fresh _ [(⟨#[100, 101, 118, 105, 99, 101, 95, 116, 121, 112, 101]⟩, (strB ⟨#[109, 101, 109, 111, 114, 121]⟩ ++ [0])), (⟨#[114, 101, 103]⟩, ([(ia : Int), sz].flatMap (bytesN 8 false))), (⟨#[112, 101, 114, 109]⟩, ([IntKind.u32.wrap (pm)].flatMap (bytesN 4 false)))] [_, _, _] _ _ 3 ⟨hp7, hp14, hp20, trivial⟩ rfl rfl rfl (by decide) (hXl _ hb)) (by simp only [hv7, hv14, hv20, Act.put, List.setIfInBounds_toArray, List.set_cons_succ, List.set_cons_zero])
                        refine StepsOk.cons (fun vals w' hb hd K hK => ?_) ?_
                        · have d5 := hd 5 (by decide)
                          simp only [List.getD_cons_zero, List.getD_cons_succ, SP.eq] at d5
                          have d21 := hd 21 (by decide)
                          simp only [List.getD_cons_zero, List.getD_cons_succ, SP.eq] at d21
                          obtain ⟨A, c, f, hv, hp⟩ := id d21
                          simp only [List.length_cons, List.length_nil, Nat.zero_add, Nat.reduceAdd] at hv
                          rw [hv] at d21
                          go_simp
                          exact hK.out (.agg #[.string (strOfNums (atN [109, 101, 109, 111, 114, 121] ia)), .slice A 3 c, .slice none 0 0]) _ _ (Below.refl _ _) (TrP.mk (nm_atM (by decide)) d21 (TsP.nil 0 none (by simp [maxLen]))) (by simp only [d5, hv, Act.put, List.setIfInBounds_toArray, List.set_cons_succ, List.set_cons_zero])
                        refine StepsOk.cons (fun vals w' hb hd K hK => ?_) ?_
                        · have d22 := hd 22 (by decide)
                          simp only [List.getD_cons_zero, List.getD_cons_succ, SP.eq] at d22
                          obtain ⟨A, c, B, e, hv, k, hp⟩ := d22.cells
                          generalize ((winG ⟨ia, pa, sz, pm⟩) : Tr).nm = q0 at hv hp
                          generalize ((winG ⟨ia, pa, sz, pm⟩) : Tr).ps.length = q1 at hv hp
                          generalize ((winG ⟨ia, pa, sz, pm⟩) : Tr).ks.length = q2 at hv hp
                          go_simp
                          exact hK.out _ _ _ (bal (Below.refl _ _) _) (TsP.fresh _ [(winG ⟨ia, pa, sz, pm⟩)] [_] _ _ 1 ⟨⟨k, hp⟩, trivial⟩ rfl rfl rfl (by decide) (hXl _ hb)) (by simp only [hv, Act.put, List.setIfInBounds_toArray, List.set_cons_succ, List.set_cons_zero])
                        exact StepsOk.nil
                      · intro vals w8 hb8 hd
                        have dS := hd 23 (by decide)
                        have d1 := hd 1 (by decide)
                        simp only [List.getD_cons_zero, List.getD_cons_succ, SP.eq] at d1 dS
                        obtain ⟨A9, c9, f9, k9, hv9, _⟩ := id dS
                        simp only [List.length_cons, List.length_nil, Nat.zero_add, Nat.reduceAdd] at hv9
                        obtain ⟨w9, A0, c0, hr, hT9, hI9, hB9⟩ := (hI.kept hb8).add dS hXz hXb hbz3 (by first | omega | (simp; done) | (simp; omega))
                        rw [hv9] at hr
                        simp only [List.drop_succ_cons, List.drop_zero, fillA, fillL, List.setIfInBounds_toArray, List.set_cons_succ, List.set_cons_zero, Nat.zero_add, Nat.reduceAdd, d1, hv9]
                        clear hd
                        refine wpList_appr rfl (.tmp 136) (.tmp 158) rfl rfl rfl hr ?_
                        have cT9 := hT9.cell
                        have fT9 := hT9.frozen
                        generalize (([cpusG g.1.cpus] ++ (g.1.ws.take j).map winG)).length + 1 = nk at *
                        have HI9 := Lib.hid hI9
                        have HB9 := Lib.hid hB9
                        clear hB9 hI9
                        go_wp2_with fail
                        go_roundw
                        case rel =>
                          refine ⟨j + 1, .slice A0 nk c0, by omega, by go_num, ?_⟩
                          have e1 : (g.1.ws.take (j + 1)).map winG = (g.1.ws.take j).map winG ++ [winG ⟨ia, pa, sz, pm⟩] := by rw [List.take_add_one, HY.out, List.map_append]; rfl
                          rw [e1, ← List.append_assoc]
                          exact HI9.out
                        case measure => simp [intOf]; omega
                    · obtain rfl : nw = j := by omega
                      have hI : GI w wr #[.int .u32 x.ver, .slice (some ⟨b, o, none⟩) n c, .slice A2 n2 c2] g X bz base ([cpusG g.1.cpus] ++ g.1.ws.map winG ++ (g.1.ds.take 0).map devG) (.slice Ap np cp) vks := by
                        rw [List.take_of_length_le (by rw [HWs.out]; omega)] at hI
                        simpa using hI
                      have e3 : decide ((nw : Int) < (nw : Int)) = false := decide_eq_false (by omega)
                      have hnd := HFw.out.2.1
                      generalize hds : g.1.ds.length = nd at *
                      have HDs := Lib.hid hds
                      have cG76 : wr.cell? ⟨w.heap.size + 2, 76, none⟩ = some (.slice g.2.AD nd g.2.cD) := (hI.gst.cell 76).trans (by simpa [hds] using HGt.out 1)
                      clear hds
                      have HI0 := Lib.hid hI
                      clear hI
                      go_wp2_with fail
                      clear cG76 e3
                      go_loopw [165] (fun jv wr => ∃ (j : Nat) (vks : Value), j ≤ nd ∧ jv = .int .i64 j ∧ GI w wr #[.int .u32 x.ver, .slice (some ⟨b, o, none⟩) n c, .slice A2 n2 c2] g X bz base ([cpusG g.1.cpus] ++ g.1.ws.map winG ++ (g.1.ds.take j).map devG) (.slice Ap np cp) vks) (fun jv _ => nd - (intOf jv).toNat)
                      case atStart => exact ⟨0, _, by omega, rfl, HI0.out⟩
                      case round =>
                        clear HI0 hj hlt
                        obtain ⟨j, vks, hj, rfl, hI⟩ := hrel
                        have hwl : g.1.ws.length ≤ 20 := by rw [HWs.out]; exact hnw
                        by_cases hlt : j < nd
                        · obtain ⟨y, hy⟩ : ∃ y, g.1.ds[j]? = some y := ⟨_, List.getElem?_eq_getElem (by rw [HDs.out]; exact hlt)⟩
                          obtain ⟨b1, o1, hA1, hc1⟩ := row_cells (enc := encDv) HG.out.rD (fun _ => rfl) hy
                          have hoy := HG.out.oD y (List.mem_of_getElem? hy)
                          obtain ⟨ia', pa, sz⟩ := y
                          obtain ⟨ia, rfl⟩ := Int.eq_ofNat_of_zero_le hoy.1.1
                          have hU1 : (0 : Int) ≤ (ia : Int) ∧ (ia : Int) < 18446744073709551616 := hoy.1
                          have hU2 : (0 : Int) ≤ sz ∧ sz < 18446744073709551616 := hoy.2.2
                          have d0 := hc1 0 (by decide) _ hI.bel
                          have d1 := hc1 1 (by decide) _ hI.bel
                          have d2 := hc1 2 (by decide) _ hI.bel
                          simp only [encDv, List.getElem?_cons_zero, List.getElem?_cons_succ, Nat.add_zero] at d0 d1 d2
                          have HY := Lib.hid hy
                          have e3 : decide ((j : Int) < (nd : Int)) = true := decide_eq_true (by omega)
                          rw [hA1]
                          clear hy hc1 hoy
                          go_upto_region 31 with (fail)
                          have hbx := bal (Below.refl wr.heap.size wr) (.cells #[.int .u64 (ia : Int), .int .u64 pa, .int .u64 sz] 116)
                          have hI := hI.kept hbx
                          have hWb := Blk.new wr 116 #[.int .u64 (ia : Int), .int .u64 pa, .int .u64 sz]
                          generalize wr.alloc (.cells #[.int .u64 (ia : Int), .int .u64 pa, .int .u64 sz] 116) = w5 at *
                          obtain ⟨wb, hwb⟩ : ∃ wb, wr.heap.size = wb := ⟨_, rfl⟩
                          rw [hwb] at hWb ⊢
                          clear hbx hwb
                          have hXl := hI.xl hXb
                          refine wp_region_spec 16 [169, 170, 171, 172, 173, 174, 175, 176, 177, 178, 179, 180, 181, 182, 183, 184] [.eq (.pointer (some ⟨bz, 2, none⟩)), .eq (vks), .eq (.pointer (some ⟨wb, 0, none⟩)), .eq (.int .u64 ((ia : Int))), .eq (.string (strOfNums (hexN ia))), .eq (.string (strOfNums (atN [100, 101, 118, 105, 99, 101] ia))), .eq (.pointer (some ⟨wb, 0, none⟩)), .eq (.int .u64 ((ia : Int))), .eq (.pointer (some ⟨wb, 2, none⟩)), .eq (.int .u64 sz), RowV 35 encQ 1 [(ia : Int), sz], RowV 5 encB 1 ([(ia : Int), sz].flatMap (bytesN 8 false)), PrV (⟨#[114, 101, 103]⟩, ([(ia : Int), sz].flatMap (bytesN 8 false))), PsV (fun b => X b ∨ vks.ownBlock = some b) [(⟨#[114, 101, 103]⟩, ([(ia : Int), sz].flatMap (bytesN 8 false)))], TrV (fun b => X b ∨ vks.ownBlock = some b) (devG ⟨ia, pa, sz⟩), TsV (fun b => X b ∨ vks.ownBlock = some b) [(devG ⟨ia, pa, sz⟩)]] (by kernel_rfl) (by kernel_rfl) ?_ ?_
                          · unfold StepS
                            simp only [List.take_succ_cons, List.take_zero, fillA, fillL, List.setIfInBounds_toArray, List.set_cons_succ, List.set_cons_zero, Nat.zero_add, Nat.reduceAdd]
                            refine StepsOk.cons (fun vals w' hb hd K hK => ?_) ?_
                            · go_simp
                              exact hK.out _ _ _ (Below.refl _ _) rfl (by kernel_rfl)
                            refine StepsOk.cons (fun vals w' hb hd K hK => ?_) ?_
                            · have d0 := hd 0 (by decide)
                              simp only [List.getD_cons_zero, List.getD_cons_succ, SP.eq] at d0
                              have hS' := (hI.tb.box.kept hb).cell
                              go_simp
                              exact hK.out _ _ _ (Below.refl _ _) rfl (by simp only [d0, Act.put, List.setIfInBounds_toArray, List.set_cons_succ, List.set_cons_zero])
                            refine StepsOk.cons (fun vals w' hb hd K hK => ?_) ?_
                            · go_simp
                              exact hK.out _ _ _ (Below.refl _ _) rfl (by kernel_rfl)
                            refine StepsOk.cons (fun vals w' hb hd K hK => ?_) ?_
                            · have d2 := hd 2 (by decide)
                              simp only [List.getD_cons_zero, List.getD_cons_succ, SP.eq] at d2
                              have hS' := (hWb.kept hb).cell
                              go_simp
                              exact hK.out _ _ _ (Below.refl _ _) rfl (by simp only [d2, Act.put, List.setIfInBounds_toArray, List.set_cons_succ, List.set_cons_zero])
                            refine StepsOk.cons (fun vals w' hb hd K hK => ?_) ?_
                            · have d3 := hd 3 (by decide)
                              simp only [List.getD_cons_zero, List.getD_cons_succ, SP.eq] at d3
                              go_simp
                              go_at_call 59
                              refine (refHex_any ia (by omega) _).mono ?_
                              rintro e w2 ⟨rfl, rfl⟩
                              exact hK.out _ _ _ (Below.refl _ _) rfl (by simp only [d3, Act.put, List.setIfInBounds_toArray, List.set_cons_succ, List.set_cons_zero])
                            refine StepsOk.cons (fun vals w' hb hd K hK => ?_) ?_
                            · have d4 := hd 4 (by decide)
                              simp only [List.getD_cons_zero, List.getD_cons_succ, SP.eq] at d4
                              have q1 := catSizeG 7 ia (by decide)
                              have q2 := catNameG ⟨#[100, 101, 118, 105, 99, 101, 64]⟩ [100, 101, 118, 105, 99, 101] ia (by decide +kernel)
                              go_simp
                              exact hK.out _ _ _ (Below.refl _ _) rfl (by simp only [d4, Act.put, List.setIfInBounds_toArray, List.set_cons_succ, List.set_cons_zero])
                            refine StepsOk.cons (fun vals w' hb hd K hK => ?_) ?_
                            · go_simp
                              exact hK.out _ _ _ (Below.refl _ _) rfl (by kernel_rfl)
                            refine StepsOk.cons (fun vals w' hb hd K hK => ?_) ?_
                            · have d6 := hd 6 (by decide)
                              simp only [List.getD_cons_zero, List.getD_cons_succ, SP.eq] at d6
                              have hS' := (hWb.kept hb).cell
                              go_simp
                              exact hK.out _ _ _ (Below.refl _ _) rfl (by simp only [d6, Act.put, List.setIfInBounds_toArray, List.set_cons_succ, List.set_cons_zero])
                            refine StepsOk.cons (fun vals w' hb hd K hK => ?_) ?_
                            · go_simp
                              exact hK.out _ _ _ (Below.refl _ _) rfl (by kernel_rfl)
                            refine StepsOk.cons (fun vals w' hb hd K hK => ?_) ?_
                            · have d8 := hd 8 (by decide)
                              simp only [List.getD_cons_zero, List.getD_cons_succ, SP.eq] at d8
                              have hS' := (hWb.kept hb).cell
                              go_simp
                              exact hK.out _ _ _ (Below.refl _ _) rfl (by simp only [d8, Act.put, List.setIfInBounds_toArray, List.set_cons_succ, List.set_cons_zero])
                            refine StepsOk.cons (fun vals w' hb hd K hK => ?_) ?_
                            · have d7 := hd 7 (by decide)
                              simp only [List.getD_cons_zero, List.getD_cons_succ, SP.eq] at d7
                              have d9 := hd 9 (by decide)
                              simp only [List.getD_cons_zero, List.getD_cons_succ, SP.eq] at d9
                              go_simp
                              exact hK.out _ _ _ (bal (Below.refl _ _) _) (RowP.fresh _ [(ia : Int), sz] _ 2 _ rfl rfl rfl rfl (by decide)) (by simp only [d7, d9, Act.put, List.setIfInBounds_toArray, List.set_cons_succ, List.set_cons_zero])
                            refine StepsOk.cons (fun vals w' hb hd K hK => ?_) ?_
                            · have d10 := hd 10 (by decide)
                              simp only [List.getD_cons_zero, List.getD_cons_succ, SP.eq] at d10
                              obtain ⟨A, c, hv, h1, h2, h3, _⟩ := d10
                              simp only [List.length_cons, List.length_nil, Nat.zero_add, Nat.reduceAdd] at hv h3
                              go_simp
                              go_at_call 60
                              refine (eightR_any A 2 c [(ia : Int), sz] _ rfl (by decide) (by intro y hy; simp at hy; rcases hy with rfl | rfl; exact hU1; exact hU2) h3).mono ?_
                              rintro e w2 ⟨v, rfl, hp, hb2⟩
                              exact hK.out _ _ _ hb2 hp (by simp only [hv, Act.put, List.setIfInBounds_toArray, List.set_cons_succ, List.set_cons_zero])
                            refine StepsOk.cons (fun vals w' hb hd K hK => ?_) ?_
                            · have d11 := hd 11 (by decide)
                              simp only [List.getD_cons_zero, List.getD_cons_succ, SP.eq] at d11
                              obtain ⟨A, c, hv, _⟩ := id d11
                              generalize (([(ia : Int), sz].flatMap (bytesN 8 false))).length = m at hv
                              rw [hv] at d11
                              go_simp
                              go_at_call 57
                              refine (propR_any _ _ _ _ (by decide) (bytesNs_ok _ _ _) d11).mono ?_
                              rintro e w2 ⟨v, rfl, hp, hb2⟩
                              exact hK.out _ _ _ hb2 hp (by simp only [hv, Act.put, List.setIfInBounds_toArray, List.set_cons_succ, List.set_cons_zero])
                            refine StepsOk.cons (fun vals w' hb hd K hK => ?_) ?_
                            · have d12 := hd 12 (by decide)
                              simp only [List.getD_cons_zero, List.getD_cons_succ, SP.eq] at d12
                              obtain ⟨A12, c12, hv12, hp12⟩ := d12.cells
                              generalize ((⟨#[114, 101, 103]⟩, ([(ia : Int), sz].flatMap (bytesN 8 false))) : Pr).2.length = m12 at hv12 hp12
                              go_simp
                              exact hK.out _ _ _ (bal (Below.refl _ _) _) (PsP.fresh _ [(⟨#[114, 101, 103]⟩, ([(ia : Int), sz].flatMap (bytesN 8 false)))] [_] _ _ 1 ⟨hp12, trivial⟩ rfl rfl rfl (by decide) (hXl _ hb)) (by simp only [hv12, Act.put, List.setIfInBounds_toArray, List.set_cons_succ, List.set_cons_zero])
                            refine StepsOk.cons (fun vals w' hb hd K hK => ?_) ?_
                            · have d5 := hd 5 (by decide)
                              simp only [List.getD_cons_zero, List.getD_cons_succ, SP.eq] at d5
                              have d13 := hd 13 (by decide)
                              simp only [List.getD_cons_zero, List.getD_cons_succ, SP.eq] at d13
                              obtain ⟨A, c, f, hv, hp⟩ := id d13
                              simp only [List.length_cons, List.length_nil, Nat.zero_add, Nat.reduceAdd] at hv
                              rw [hv] at d13
                              go_simp
                              exact hK.out (.agg #[.string (strOfNums (atN [100, 101, 118, 105, 99, 101] ia)), .slice A 1 c, .slice none 0 0]) _ _ (Below.refl _ _) (TrP.mk (nm_atM (by decide)) d13 (TsP.nil 0 none (by simp [maxLen]))) (by simp only [d5, hv, Act.put, List.setIfInBounds_toArray, List.set_cons_succ, List.set_cons_zero])
                            refine StepsOk.cons (fun vals w' hb hd K hK => ?_) ?_
                            · have d14 := hd 14 (by decide)
                              simp only [List.getD_cons_zero, List.getD_cons_succ, SP.eq] at d14
                              obtain ⟨A, c, B, e, hv, k, hp⟩ := d14.cells
                              generalize ((devG ⟨ia, pa, sz⟩) : Tr).nm = q0 at hv hp
                              generalize ((devG ⟨ia, pa, sz⟩) : Tr).ps.length = q1 at hv hp
                              generalize ((devG ⟨ia, pa, sz⟩) : Tr).ks.length = q2 at hv hp
                              go_simp
                              exact hK.out _ _ _ (bal (Below.refl _ _) _) (TsP.fresh _ [(devG ⟨ia, pa, sz⟩)] [_] _ _ 1 ⟨⟨k, hp⟩, trivial⟩ rfl rfl rfl (by decide) (hXl _ hb)) (by simp only [hv, Act.put, List.setIfInBounds_toArray, List.set_cons_succ, List.set_cons_zero])
                            exact StepsOk.nil
                          · intro vals w8 hb8 hd
                            have dS := hd 15 (by decide)
                            have d1 := hd 1 (by decide)
                            simp only [List.getD_cons_zero, List.getD_cons_succ, SP.eq] at d1 dS
                            obtain ⟨A9, c9, f9, k9, hv9, _⟩ := id dS
                            simp only [List.length_cons, List.length_nil, Nat.zero_add, Nat.reduceAdd] at hv9
                            obtain ⟨w9, A0, c0, hr, hT9, hI9, hB9⟩ := (hI.kept hb8).add dS hXz hXb hbz3 (by first | omega | (simp; done) | (simp; omega))
                            rw [hv9] at hr
                            simp only [List.drop_succ_cons, List.drop_zero, fillA, fillL, List.setIfInBounds_toArray, List.set_cons_succ, List.set_cons_zero, Nat.zero_add, Nat.reduceAdd, d1, hv9]
                            clear hd
                            refine wpList_appr rfl (.tmp 170) (.tmp 184) rfl rfl rfl hr ?_
                            have cT9 := hT9.cell
                            have fT9 := hT9.frozen
                            generalize (([cpusG g.1.cpus] ++ g.1.ws.map winG ++ (g.1.ds.take j).map devG)).length + 1 = nk at *
                            have HI9 := Lib.hid hI9
                            have HB9 := Lib.hid hB9
                            clear hB9 hI9
                            go_wp2_with fail
                            go_roundw
                            case rel =>
                              refine ⟨j + 1, .slice A0 nk c0, by omega, by go_num, ?_⟩
                              have e1 : (g.1.ds.take (j + 1)).map devG = (g.1.ds.take j).map devG ++ [devG ⟨ia, pa, sz⟩] := by rw [List.take_add_one, HY.out, List.map_append]; rfl
                              rw [e1, ← List.append_assoc]
                              exact HI9.out
                            case measure => simp [intOf]; omega
                        · obtain rfl : nd = j := by omega
                          have hI : GI w wr #[.int .u32 x.ver, .slice (some ⟨b, o, none⟩) n c, .slice A2 n2 c2] g X bz base ([cpusG g.1.cpus] ++ g.1.ws.map winG ++ g.1.ds.map devG ++ (x.cs.take 0).flatMap (chansG x.gs k)) (.slice Ap np cp) vks := by
                            rw [List.take_of_length_le (by rw [HDs.out]; omega)] at hI
                            simpa using hI
                          have e3 : decide ((nd : Int) < (nd : Int)) = false := decide_eq_false (by omega)
                          have cC := hI.cfg.cell
                          have HI0 := Lib.hid hI
                          clear hI
                          go_wp2_with fail
                          clear cC e3
                          go_loopw [191] (fun jv wr => ∃ (j : Nat) (vks : Value), j ≤ n2 ∧ jv = .int .i64 j ∧ GI w wr #[.int .u32 x.ver, .slice (some ⟨b, o, none⟩) n c, .slice A2 n2 c2] g X bz base ([cpusG g.1.cpus] ++ g.1.ws.map winG ++ g.1.ds.map devG ++ (x.cs.take j).flatMap (chansG x.gs k)) (.slice Ap np cp) vks) (fun jv _ => n2 - (intOf jv).toNat)
                          case atStart => exact ⟨0, _, by omega, rfl, HI0.out⟩
                          case round =>
                            clear HI0 hj hlt
                            obtain ⟨j, vks, hj, rfl, hI⟩ := hrel
                            by_cases hlt : j < n2
                            · obtain ⟨y, hy⟩ : ∃ y, x.cs[j]? = some y := ⟨_, List.getElem?_eq_getElem (by rw [HN2.out]; exact hlt)⟩
                              obtain ⟨b1, o1, hA1, hc1⟩ := row_cells (enc := encCh) HR.out.rc (fun _ => rfl) hy
                              subst hA1
                              have hoy := HR.out.oc y (List.mem_of_getElem? hy)
                              obtain ⟨pa, sz, ⟨gu0, p0, ia0'⟩, ⟨gu1, p1, ia1'⟩⟩ := y
                              obtain ⟨ia0, rfl⟩ := Int.eq_ofNat_of_zero_le hoy.2.2.1.2.2.1
                              obtain ⟨ia1, rfl⟩ := Int.eq_ofNat_of_zero_le hoy.2.2.2.2.2.1
                              have hU0 : (0 : Int) ≤ (ia0 : Int) ∧ (ia0 : Int) < 18446744073709551616 := hoy.2.2.1.2.2
                              have hU3 : (0 : Int) ≤ (ia1 : Int) ∧ (ia1 : Int) < 18446744073709551616 := hoy.2.2.2.2.2
                              have hU2 : (0 : Int) ≤ sz ∧ sz < 18446744073709551616 := hoy.2.1
                              have d0 := hc1 0 (by decide) _ hI.bel
                              have d1 := hc1 1 (by decide) _ hI.bel
                              have d2 := hc1 2 (by decide) _ hI.bel
                              have d3 := hc1 3 (by decide) _ hI.bel
                              have d4 := hc1 4 (by decide) _ hI.bel
                              have d5 := hc1 5 (by decide) _ hI.bel
                              have d6 := hc1 6 (by decide) _ hI.bel
                              have d7 := hc1 7 (by decide) _ hI.bel
                              simp only [encCh, List.getElem?_cons_zero, List.getElem?_cons_succ, Nat.add_zero] at d0 d1 d2 d3 d4 d5 d6 d7
                              have HY := Lib.hid hy
                              have e3 : decide ((j : Int) < (n2 : Int)) = true := decide_eq_true (by omega)
                              clear hy hc1 hoy
                              obtain ⟨pre, hpre⟩ : ∃ pre, [cpusG g.1.cpus] ++ g.1.ws.map winG ++ g.1.ds.map devG ++ (x.cs.take j).flatMap (chansG x.gs k) = pre := ⟨_, rfl⟩
                              have hprl : pre.length ≤ 200 := by
                                have h1 := chans_len x.gs k (x.cs.take j)
                                have h2 : g.1.ws.length ≤ 20 := by rw [HWs.out]; exact hnw
                                have h3 : g.1.ds.length ≤ 20 := by rw [HDs.out]; exact hnd
                                rw [← hpre]
                                simp only [List.length_append, List.length_map, List.length_cons, List.length_nil]
                                rw [List.length_take] at h1
                                omega
                              rw [hpre] at hI
                              have HPre := Lib.hid hpre
                              clear hpre
                              go_upto_region 36 with (fail)
                              have hbx := bal (Below.refl wr.heap.size wr) (.cells #[.int .u64 pa, .int .u64 sz, .int .i64 gu0, .int .i64 p0, .int .u64 (ia0 : Int), .int .i64 gu1, .int .i64 p1, .int .u64 (ia1 : Int)] 121)
                              have hI := hI.kept hbx
                              have hUb := Blk.new wr 121 #[.int .u64 pa, .int .u64 sz, .int .i64 gu0, .int .i64 p0, .int .u64 (ia0 : Int), .int .i64 gu1, .int .i64 p1, .int .u64 (ia1 : Int)]
                              generalize wr.alloc (.cells #[.int .u64 pa, .int .u64 sz, .int .i64 gu0, .int .i64 p0, .int .u64 (ia0 : Int), .int .i64 gu1, .int .i64 p1, .int .u64 (ia1 : Int)] 121) = w5 at *
                              obtain ⟨ub, hub⟩ : ∃ ub, wr.heap.size = ub := ⟨_, rfl⟩
                              rw [hub] at hUb ⊢
                              clear hbx hub
                              have cU := hUb.cell
                              have HI0 := Lib.hid hI
                              have HU0 := Lib.hid hUb
                              clear hI hUb d0 d1 d2 d3 d4 d5 d6 d7
                              go_wp2_with fail
                              clear cU
                              go_loopw [197] (fun iv wr => ∃ (i : Nat) (vks : Value), i ≤ 2 ∧ iv = .int .i64 i ∧ GI w wr #[.int .u32 x.ver, .slice (some ⟨b, o, none⟩) n c, .slice (some ⟨b1, o1, none⟩) n2 c2] g X bz base (pre ++ endsG x.gs k ⟨pa, sz, ⟨gu0, p0, ia0⟩, ⟨gu1, p1, ia1⟩⟩ i) (.slice Ap np cp) vks ∧ Blk wr ub 121 #[.int .u64 pa, .int .u64 sz, .int .i64 gu0, .int .i64 p0, .int .u64 (ia0 : Int), .int .i64 gu1, .int .i64 p1, .int .u64 (ia1 : Int)]) (fun iv _ => 2 - (intOf iv).toNat)
                              case atStart => exact ⟨0, _, by omega, rfl, by rw [endsG_0, List.append_nil]; exact HI0.out, HU0.out⟩
                              case round =>
                                clear HI0 HU0
                                obtain ⟨i, vks, hi, rfl, hI, hUb⟩ := hrel
                                rcases (by omega : i = 0 ∨ i = 1 ∨ i = 2) with rfl | rfl | rfl
                                · rw [endsG_0, List.append_nil] at hI
                                  rw [show ((0 : Nat) : Int) = 0 from rfl]
                                  have hU1 := hU0
                                  have hix : ∀ W : World, (Instr.index 119 (.agg #[.int .i64 gu0, .int .i64 p0, .int .u64 (ia0 : Int), .int .i64 gu1, .int .i64 p1, .int .u64 (ia1 : Int)]) (.int .i64 0)).run Try.prog W = .ok (.agg #[.int .i64 gu0, .int .i64 p0, .int .u64 (ia0 : Int)]) W := fun W => by kernel_rfl
                                  by_cases he : gu0 = (k : Int)
                                  · have e4 : (gu0 == (k : Int)) = true := by simp [he]
                                    have e5 : (gu0 != (k : Int)) = false := by simp [he]
                                    have HE := Lib.hid he
                                    clear he
                                    go_upto_region 40 with (fail)
                                    clear e4 e5 hix
                                    have hbU := bal (Below.refl wr.heap.size wr) (.cells #[.int .i64 gu0, .int .i64 p0, .int .u64 (ia0 : Int)] 118)
                                    have hUb := hUb.kept hbU
                                    clear hbU
                                    have hbx := bal (Below.refl wr.heap.size wr) (.cells #[.int .i64 gu0, .int .i64 p0, .int .u64 (ia0 : Int)] 118)
                                    have hI := hI.kept hbx
                                    have hWb := Blk.new wr 118 #[.int .i64 gu0, .int .i64 p0, .int .u64 (ia0 : Int)]
                                    generalize wr.alloc (.cells #[.int .i64 gu0, .int .i64 p0, .int .u64 (ia0 : Int)] 118) = w5 at *
                                    obtain ⟨wb, hwb⟩ : ∃ wb, wr.heap.size = wb := ⟨_, rfl⟩
                                    rw [hwb] at hWb ⊢
                                    clear hbx hwb
                                    have hXl := hI.xl hXb
                                    have HI5 := Lib.hid hI
                                    have HU5 := Lib.hid hUb
                                    have cU := hUb.cell
                                    have cCf := hI.cfg.cell
                                    go_upto_region 41 with (fail)
                                    (repeat ((fail_if_success (with_reducible show Code.wp _ (Code.seq _ _) _ _ _)); go_step))
                                    go_cut [24] from 211 to 225 (fun s24 wx => s24 = .string (peerG x.gs gu1) ∧ w5 = wx)
                                    case first =>
                                      by_cases hin2 : 0 ≤ gu1 ∧ gu1 < (n : Int)
                                      · obtain ⟨ko, rfl⟩ := Int.eq_ofNat_of_zero_le hin2.1
                                        have hko : ko < x.gs.length := by rw [HN.out]; omega
                                        obtain ⟨go, hgo⟩ : ∃ go, x.gs[ko]? = some go := ⟨_, List.getElem?_eq_getElem hko⟩
                                        obtain ⟨b', o', hbo, hbb', hrow'⟩ := conf_row HR.out hgo
                                        simp only [Option.some.injEq, Addr.mk.injEq, and_true] at hbo
                                        obtain ⟨rfl, rfl⟩ := hbo
                                        have d0' := hrow' 0 (.string go.1.nm) rfl
                                        rw [Nat.add_zero] at d0'
                                        have d1' := (HI5.out.bel.cell (p := ⟨b, o + ko * 79, none⟩) hbb').trans d0'
                                        have hkon : ko < n := by omega
                                        have e6 : decide ((0 : Int) ≤ (ko : Int)) = true := decide_eq_true (by omega)
                                        have e7 : decide ((ko : Int) < (n : Int)) = true := decide_eq_true (by omega)
                                        have HP := Lib.hid (peer_in hgo)
                                        clear hin2 hrow' d0' hgo
                                        go_wp2_with fail
                                        go_meet
                                        exact ⟨by rw [HP.out], rfl⟩
                                      · have HP := Lib.hid (peer_out (gs := x.gs) (o := gu1) (by rw [HN.out]; exact hin2))
                                        by_cases h0 : 0 ≤ gu1
                                        · have e6 : decide ((0 : Int) ≤ gu1) = true := decide_eq_true h0
                                          have e7 : decide (gu1 < (n : Int)) = false := decide_eq_false (by omega)
                                          clear hin2 h0
                                          go_wp2_with fail
                                          go_meet
                                          exact ⟨by rw [HP.out], rfl⟩
                                        · have e6 : decide ((0 : Int) ≤ gu1) = false := decide_eq_false h0
                                          clear hin2 h0
                                          go_wp2_with fail
                                          go_meet
                                          exact ⟨by rw [HP.out], rfl⟩
                                    case rest =>
                                      obtain ⟨h24, hwx⟩ := hcut
                                      subst hwx
                                      subst h24
                                      clear cU cCf
                                      go_upto_region 44 with (fail)
                                      refine wp_region_spec 27 [226, 227, 228, 229, 230, 231, 232, 233, 234, 235, 236, 237, 238, 239, 240, 241, 242, 243, 244, 245, 246, 247, 248, 249, 250, 251, 252] [.eq (.pointer (some ⟨bz, 2, none⟩)), .eq (vks), .eq (.pointer (some ⟨wb, 2, none⟩)), .eq (.int .u64 ((ia0 : Int))), .eq (.string (strOfNums (hexN ia0))), .eq (.string (strOfNums (atN [99, 104, 97, 110, 110, 101, 108] ia0))), RowV 5 encB 1 (strB ⟨#[112, 111, 114, 116, 114, 101, 101, 118, 101, 44, 99, 104, 97, 110, 110, 101, 108]⟩ ++ [0]), PrV (⟨#[99, 111, 109, 112, 97, 116, 105, 98, 108, 101]⟩, (strB ⟨#[112, 111, 114, 116, 114, 101, 101, 118, 101, 44, 99, 104, 97, 110, 110, 101, 108]⟩ ++ [0])), .eq (.pointer (some ⟨wb, 2, none⟩)), .eq (.int .u64 ((ia0 : Int))), .eq (.pointer (some ⟨ub, 1, none⟩)), .eq (.int .u64 sz), RowV 35 encQ 1 [(ia0 : Int), sz], RowV 5 encB 1 ([(ia0 : Int), sz].flatMap (bytesN 8 false)), PrV (⟨#[114, 101, 103]⟩, ([(ia0 : Int), sz].flatMap (bytesN 8 false))), .eq (.string ((peerG x.gs gu1))), RowV 5 encB 1 (strB ((peerG x.gs gu1)) ++ [0]), PrV (⟨#[112, 101, 101, 114]⟩, (strB ((peerG x.gs gu1)) ++ [0])), .eq (.pointer (some ⟨wb, 1, none⟩)), .eq (.int .i64 p0), .eq (.int .u64 (IntKind.u64.wrap (p0))), RowV 35 encQ 1 [IntKind.u64.wrap (p0)], RowV 5 encB 1 ([IntKind.u32.wrap (p0)].flatMap (bytesN 4 false)), PrV (⟨#[112, 101, 114, 109]⟩, ([IntKind.u32.wrap (p0)].flatMap (bytesN 4 false))), PsV (fun b => X b ∨ vks.ownBlock = some b) [(⟨#[99, 111, 109, 112, 97, 116, 105, 98, 108, 101]⟩, (strB ⟨#[112, 111, 114, 116, 114, 101, 101, 118, 101, 44, 99, 104, 97, 110, 110, 101, 108]⟩ ++ [0])), (⟨#[114, 101, 103]⟩, ([(ia0 : Int), sz].flatMap (bytesN 8 false))), (⟨#[112, 101, 101, 114]⟩, (strB ((peerG x.gs gu1)) ++ [0])), (⟨#[112, 101, 114, 109]⟩, ([IntKind.u32.wrap (p0)].flatMap (bytesN 4 false)))], TrV (fun b => X b ∨ vks.ownBlock = some b) (chanG sz (peerG x.gs gu1) ⟨gu0, p0, (ia0 : Int)⟩), TsV (fun b => X b ∨ vks.ownBlock = some b) [(chanG sz (peerG x.gs gu1) ⟨gu0, p0, (ia0 : Int)⟩)]] (by kernel_rfl) (by kernel_rfl) ?_ ?_
                                      · unfold StepS
                                        simp only [List.take_succ_cons, List.take_zero, fillA, fillL, List.setIfInBounds_toArray, List.set_cons_succ, List.set_cons_zero, Nat.zero_add, Nat.reduceAdd]
                                        refine StepsOk.cons (fun vals w' hb hd K hK => ?_) ?_
                                        · go_simp
                                          exact hK.out _ _ _ (Below.refl _ _) rfl (by kernel_rfl)
                                        refine StepsOk.cons (fun vals w' hb hd K hK => ?_) ?_
                                        · have d0 := hd 0 (by decide)
                                          simp only [List.getD_cons_zero, List.getD_cons_succ, SP.eq] at d0
                                          have hS' := (hI.tb.box.kept hb).cell
                                          go_simp
                                          exact hK.out _ _ _ (Below.refl _ _) rfl (by simp only [d0, Act.put, List.setIfInBounds_toArray, List.set_cons_succ, List.set_cons_zero])
                                        refine StepsOk.cons (fun vals w' hb hd K hK => ?_) ?_
                                        · go_simp
                                          exact hK.out _ _ _ (Below.refl _ _) rfl (by kernel_rfl)
                                        refine StepsOk.cons (fun vals w' hb hd K hK => ?_) ?_
                                        · have d2 := hd 2 (by decide)
                                          simp only [List.getD_cons_zero, List.getD_cons_succ, SP.eq] at d2
                                          have hS' := (hWb.kept hb).cell
                                          go_simp
                                          exact hK.out _ _ _ (Below.refl _ _) rfl (by simp only [d2, Act.put, List.setIfInBounds_toArray, List.set_cons_succ, List.set_cons_zero])
                                        refine StepsOk.cons (fun vals w' hb hd K hK => ?_) ?_
                                        · have d3 := hd 3 (by decide)
                                          simp only [List.getD_cons_zero, List.getD_cons_succ, SP.eq] at d3
                                          go_simp
                                          go_at_call 59
                                          refine (refHex_any ia0 (by omega) _).mono ?_
                                          rintro e w2 ⟨rfl, rfl⟩
                                          exact hK.out _ _ _ (Below.refl _ _) rfl (by simp only [d3, Act.put, List.setIfInBounds_toArray, List.set_cons_succ, List.set_cons_zero])
                                        refine StepsOk.cons (fun vals w' hb hd K hK => ?_) ?_
                                        · have d4 := hd 4 (by decide)
                                          simp only [List.getD_cons_zero, List.getD_cons_succ, SP.eq] at d4
                                          have q1 := catSizeG 8 ia0 (by decide)
                                          have q2 := catNameG ⟨#[99, 104, 97, 110, 110, 101, 108, 64]⟩ [99, 104, 97, 110, 110, 101, 108] ia0 (by decide +kernel)
                                          go_simp
                                          exact hK.out _ _ _ (Below.refl _ _) rfl (by simp only [d4, Act.put, List.setIfInBounds_toArray, List.set_cons_succ, List.set_cons_zero])
                                        refine StepsOk.cons (fun vals w' hb hd K hK => ?_) ?_
                                        · go_simp
                                          go_at_call 58
                                          refine (zeroR_any _ _ (by decide)).mono ?_
                                          rintro e w2 ⟨v, rfl, hp, hb2⟩
                                          exact hK.out _ _ _ hb2 hp (by kernel_rfl)
                                        refine StepsOk.cons (fun vals w' hb hd K hK => ?_) ?_
                                        · have d6 := hd 6 (by decide)
                                          simp only [List.getD_cons_zero, List.getD_cons_succ, SP.eq] at d6
                                          obtain ⟨A, c, hv, _⟩ := id d6
                                          generalize ((strB ⟨#[112, 111, 114, 116, 114, 101, 101, 118, 101, 44, 99, 104, 97, 110, 110, 101, 108]⟩ ++ [0])).length = m at hv
                                          rw [hv] at d6
                                          go_simp
                                          go_at_call 57
                                          refine (propR_any _ _ _ _ (by decide) (strB0_ok _) d6).mono ?_
                                          rintro e w2 ⟨v, rfl, hp, hb2⟩
                                          exact hK.out _ _ _ hb2 hp (by simp only [hv, Act.put, List.setIfInBounds_toArray, List.set_cons_succ, List.set_cons_zero])
                                        refine StepsOk.cons (fun vals w' hb hd K hK => ?_) ?_
                                        · go_simp
                                          exact hK.out _ _ _ (Below.refl _ _) rfl (by kernel_rfl)
                                        refine StepsOk.cons (fun vals w' hb hd K hK => ?_) ?_
                                        · have d8 := hd 8 (by decide)
                                          simp only [List.getD_cons_zero, List.getD_cons_succ, SP.eq] at d8
                                          have hS' := (hWb.kept hb).cell
                                          go_simp
                                          exact hK.out _ _ _ (Below.refl _ _) rfl (by simp only [d8, Act.put, List.setIfInBounds_toArray, List.set_cons_succ, List.set_cons_zero])
                                        refine StepsOk.cons (fun vals w' hb hd K hK => ?_) ?_
                                        · go_simp
                                          exact hK.out _ _ _ (Below.refl _ _) rfl (by kernel_rfl)
                                        refine StepsOk.cons (fun vals w' hb hd K hK => ?_) ?_
                                        · have d10 := hd 10 (by decide)
                                          simp only [List.getD_cons_zero, List.getD_cons_succ, SP.eq] at d10
                                          have hS' := (hUb.kept hb).cell
                                          go_simp
                                          exact hK.out _ _ _ (Below.refl _ _) rfl (by simp only [d10, Act.put, List.setIfInBounds_toArray, List.set_cons_succ, List.set_cons_zero])
                                        refine StepsOk.cons (fun vals w' hb hd K hK => ?_) ?_
                                        · have d9 := hd 9 (by decide)
                                          simp only [List.getD_cons_zero, List.getD_cons_succ, SP.eq] at d9
                                          have d11 := hd 11 (by decide)
                                          simp only [List.getD_cons_zero, List.getD_cons_succ, SP.eq] at d11
                                          go_simp
                                          exact hK.out _ _ _ (bal (Below.refl _ _) _) (RowP.fresh _ [(ia0 : Int), sz] _ 2 _ rfl rfl rfl rfl (by decide)) (by simp only [d9, d11, Act.put, List.setIfInBounds_toArray, List.set_cons_succ, List.set_cons_zero])
                                        refine StepsOk.cons (fun vals w' hb hd K hK => ?_) ?_
                                        · have d12 := hd 12 (by decide)
                                          simp only [List.getD_cons_zero, List.getD_cons_succ, SP.eq] at d12
                                          obtain ⟨A, c, hv, h1, h2, h3, _⟩ := d12
                                          simp only [List.length_cons, List.length_nil, Nat.zero_add, Nat.reduceAdd] at hv h3
                                          go_simp
                                          go_at_call 60
                                          refine (eightR_any A 2 c [(ia0 : Int), sz] _ rfl (by decide) (by intro y hy; simp at hy; rcases hy with rfl | rfl; exact hU1; exact hU2) h3).mono ?_
                                          rintro e w2 ⟨v, rfl, hp, hb2⟩
                                          exact hK.out _ _ _ hb2 hp (by simp only [hv, Act.put, List.setIfInBounds_toArray, List.set_cons_succ, List.set_cons_zero])
                                        refine StepsOk.cons (fun vals w' hb hd K hK => ?_) ?_
                                        · have d13 := hd 13 (by decide)
                                          simp only [List.getD_cons_zero, List.getD_cons_succ, SP.eq] at d13
                                          obtain ⟨A, c, hv, _⟩ := id d13
                                          generalize (([(ia0 : Int), sz].flatMap (bytesN 8 false))).length = m at hv
                                          rw [hv] at d13
                                          go_simp
                                          go_at_call 57
                                          refine (propR_any _ _ _ _ (by decide) (bytesNs_ok _ _ _) d13).mono ?_
                                          rintro e w2 ⟨v, rfl, hp, hb2⟩
                                          exact hK.out _ _ _ hb2 hp (by simp only [hv, Act.put, List.setIfInBounds_toArray, List.set_cons_succ, List.set_cons_zero])
                                        refine StepsOk.cons (fun vals w' hb hd K hK => ?_) ?_
                                        · go_simp
                                          exact hK.out _ _ _ (Below.refl _ _) rfl (by kernel_rfl)
                                        refine StepsOk.cons (fun vals w' hb hd K hK => ?_) ?_
                                        · have d15 := hd 15 (by decide)
                                          simp only [List.getD_cons_zero, List.getD_cons_succ, SP.eq] at d15
                                          go_simp
                                          go_at_call 58
                                          refine (zeroR_any _ _ (Nat.le_trans (HPl.out _) (by decide))).mono ?_
                                          rintro e w2 ⟨v, rfl, hp, hb2⟩
                                          exact hK.out _ _ _ hb2 hp (by simp only [d15, Act.put, List.setIfInBounds_toArray, List.set_cons_succ, List.set_cons_zero])
                                        refine StepsOk.cons (fun vals w' hb hd K hK => ?_) ?_
                                        · have d16 := hd 16 (by decide)
                                          simp only [List.getD_cons_zero, List.getD_cons_succ, SP.eq] at d16
                                          obtain ⟨A, c, hv, _⟩ := id d16
                                          generalize ((strB ((peerG x.gs gu1)) ++ [0])).length = m at hv
                                          rw [hv] at d16
                                          go_simp
                                          go_at_call 57
                                          refine (propR_any _ _ _ _ (by decide) (strB0_ok _) d16).mono ?_
                                          rintro e w2 ⟨v, rfl, hp, hb2⟩
                                          exact hK.out _ _ _ hb2 hp (by simp only [hv, Act.put, List.setIfInBounds_toArray, List.set_cons_succ, List.set_cons_zero])
                                        refine StepsOk.cons (fun vals w' hb hd K hK => ?_) ?_
                                        · go_simp
                                          exact hK.out _ _ _ (Below.refl _ _) rfl (by kernel_rfl)
                                        refine StepsOk.cons (fun vals w' hb hd K hK => ?_) ?_
                                        · have d18 := hd 18 (by decide)
                                          simp only [List.getD_cons_zero, List.getD_cons_succ, SP.eq] at d18
                                          have hS' := (hWb.kept hb).cell
                                          go_simp
                                          exact hK.out _ _ _ (Below.refl _ _) rfl (by simp only [d18, Act.put, List.setIfInBounds_toArray, List.set_cons_succ, List.set_cons_zero])
                                        refine StepsOk.cons (fun vals w' hb hd K hK => ?_) ?_
                                        · have d19 := hd 19 (by decide)
                                          simp only [List.getD_cons_zero, List.getD_cons_succ, SP.eq] at d19
                                          go_simp
                                          exact hK.out _ _ _ (Below.refl _ _) rfl (by simp only [d19, Act.put, List.setIfInBounds_toArray, List.set_cons_succ, List.set_cons_zero])
                                        refine StepsOk.cons (fun vals w' hb hd K hK => ?_) ?_
                                        · have d20 := hd 20 (by decide)
                                          simp only [List.getD_cons_zero, List.getD_cons_succ, SP.eq] at d20
                                          go_simp
                                          exact hK.out _ _ _ (bal (Below.refl _ _) _) (RowP.fresh _ [IntKind.u64.wrap (p0)] _ 1 _ rfl rfl rfl rfl (by decide)) (by simp only [d20, Act.put, List.setIfInBounds_toArray, List.set_cons_succ, List.set_cons_zero])
                                        refine StepsOk.cons (fun vals w' hb hd K hK => ?_) ?_
                                        · have d21 := hd 21 (by decide)
                                          simp only [List.getD_cons_zero, List.getD_cons_succ, SP.eq] at d21
                                          obtain ⟨A, c, hv, h1, h2, h3, _⟩ := d21
                                          simp only [List.length_cons, List.length_nil, Nat.zero_add, Nat.reduceAdd] at hv h3
                                          go_simp
                                          go_at_call 56
                                          refine (fourR_any A 1 c [IntKind.u64.wrap (p0)] _ rfl (by decide) (by intro y hy; simp at hy; subst hy; exact wrap64_in _) h3).mono ?_
                                          rintro e w2 ⟨v, rfl, hp, hb2⟩
                                          exact hK.out _ _ _ hb2 (wrap_flat p0 ▸ hp) (by simp only [hv, Act.put, List.setIfInBounds_toArray, List.set_cons_succ, List.set_cons_zero])
                                        refine StepsOk.cons (fun vals w' hb hd K hK => ?_) ?_
                                        · have d22 := hd 22 (by decide)
                                          simp only [List.getD_cons_zero, List.getD_cons_succ, SP.eq] at d22
                                          obtain ⟨A, c, hv, _⟩ := id d22
                                          generalize (([IntKind.u32.wrap (p0)].flatMap (bytesN 4 false))).length = m at hv
                                          rw [hv] at d22
                                          go_simp
                                          go_at_call 57
                                          refine (propR_any _ _ _ _ (by decide) (bytesNs_ok _ _ _) d22).mono ?_
                                          rintro e w2 ⟨v, rfl, hp, hb2⟩
                                          exact hK.out _ _ _ hb2 hp (by simp only [hv, Act.put, List.setIfInBounds_toArray, List.set_cons_succ, List.set_cons_zero])
                                        refine StepsOk.cons (fun vals w' hb hd K hK => ?_) ?_
                                        · have d7 := hd 7 (by decide)
                                          simp only [List.getD_cons_zero, List.getD_cons_succ, SP.eq] at d7
                                          have d14 := hd 14 (by decide)
                                          simp only [List.getD_cons_zero, List.getD_cons_succ, SP.eq] at d14
                                          have d17 := hd 17 (by decide)
                                          simp only [List.getD_cons_zero, List.getD_cons_succ, SP.eq] at d17
                                          have d23 := hd 23 (by decide)
                                          simp only [List.getD_cons_zero, List.getD_cons_succ, SP.eq] at d23
                                          obtain ⟨A7, c7, hv7, hp7⟩ := d7.cells
                                          generalize ((⟨#[99, 111, 109, 112, 97, 116, 105, 98, 108, 101]⟩, (strB ⟨#[112, 111, 114, 116, 114, 101, 101, 118, 101, 44, 99, 104, 97, 110, 110, 101, 108]⟩ ++ [0])) : Pr).2.length = m7 at hv7 hp7
                                          obtain ⟨A14, c14, hv14, hp14⟩ := d14.cells
                                          generalize ((⟨#[114, 101, 103]⟩, ([(ia0 : Int), sz].flatMap (bytesN 8 false))) : Pr).2.length = m14 at hv14 hp14
                                          obtain ⟨A17, c17, hv17, hp17⟩ := d17.cells
                                          generalize ((⟨#[112, 101, 101, 114]⟩, (strB ((peerG x.gs gu1)) ++ [0])) : Pr).2.length = m17 at hv17 hp17
                                          obtain ⟨A23, c23, hv23, hp23⟩ := d23.cells
                                          generalize ((⟨#[112, 101, 114, 109]⟩, ([IntKind.u32.wrap (p0)].flatMap (bytesN 4 false))) : Pr).2.length = m23 at hv23 hp23
                                          go_simp
                                          exact hK.out _ _ _ (bal (Below.refl _ _) _) (PsP.fresh _ [(⟨#[99, 111, 109, 112, 97, 116, 105, 98, 108, 101]⟩, (strB ⟨#[112, 111, 114, 116, 114, 101, 101, 118, 101, 44, 99, 104, 97, 110, 110, 101, 108]⟩ ++ [0])), (⟨#[114, 101, 103]⟩, ([(ia0 : Int), sz].flatMap (bytesN 8 false))), (⟨#[112, 101, 101, 114]⟩, (strB ((peerG x.gs gu1)) ++ [0])), (⟨#[112, 101, 114, 109]⟩, ([IntKind.u32.wrap (p0)].flatMap (bytesN 4 false)))] [_, _, _, _] _ _ 4 ⟨hp7, hp14, hp17, hp23, trivial⟩ rfl rfl rfl (by decide) (hXl _ hb)) (by simp only [hv7, hv14, hv17, hv23, Act.put, List.setIfInBounds_toArray, List.set_cons_succ, List.set_cons_zero])
                                        refine StepsOk.cons (fun vals w' hb hd K hK => ?_) ?_
                                        · have d5 := hd 5 (by decide)
                                          simp only [List.getD_cons_zero, List.getD_cons_succ, SP.eq] at d5
                                          have d24 := hd 24 (by decide)
                                          simp only [List.getD_cons_zero, List.getD_cons_succ, SP.eq] at d24
                                          obtain ⟨A, c, f, hv, hp⟩ := id d24
                                          simp only [List.length_cons, List.length_nil, Nat.zero_add, Nat.reduceAdd] at hv
                                          rw [hv] at d24
                                          go_simp
                                          exact hK.out (.agg #[.string (strOfNums (atN [99, 104, 97, 110, 110, 101, 108] ia0)), .slice A 4 c, .slice none 0 0]) _ _ (Below.refl _ _) (TrP.mk (nm_atM (by decide)) d24 (TsP.nil 0 none (by simp [maxLen]))) (by simp only [d5, hv, Act.put, List.setIfInBounds_toArray, List.set_cons_succ, List.set_cons_zero])
                                        refine StepsOk.cons (fun vals w' hb hd K hK => ?_) ?_
                                        · have d25 := hd 25 (by decide)
                                          simp only [List.getD_cons_zero, List.getD_cons_succ, SP.eq] at d25
                                          obtain ⟨A, c, B, e, hv, k, hp⟩ := d25.cells
                                          generalize ((chanG sz (peerG x.gs gu1) ⟨gu0, p0, (ia0 : Int)⟩) : Tr).nm = q0 at hv hp
                                          generalize ((chanG sz (peerG x.gs gu1) ⟨gu0, p0, (ia0 : Int)⟩) : Tr).ps.length = q1 at hv hp
                                          generalize ((chanG sz (peerG x.gs gu1) ⟨gu0, p0, (ia0 : Int)⟩) : Tr).ks.length = q2 at hv hp
                                          go_simp
                                          exact hK.out _ _ _ (bal (Below.refl _ _) _) (TsP.fresh _ [(chanG sz (peerG x.gs gu1) ⟨gu0, p0, (ia0 : Int)⟩)] [_] _ _ 1 ⟨⟨k, hp⟩, trivial⟩ rfl rfl rfl (by decide) (hXl _ hb)) (by simp only [hv, Act.put, List.setIfInBounds_toArray, List.set_cons_succ, List.set_cons_zero])
                                        exact StepsOk.nil
                                      · intro vals w8 hb8 hd
                                        have dS := hd 26 (by decide)
                                        have d1 := hd 1 (by decide)
                                        simp only [List.getD_cons_zero, List.getD_cons_succ, SP.eq] at d1 dS
                                        obtain ⟨A9, c9, f9, k9, hv9, _⟩ := id dS
                                        simp only [List.length_cons, List.length_nil, Nat.zero_add, Nat.reduceAdd] at hv9
                                        obtain ⟨w9, A0, c0, hr, hT9, hI9, hB9⟩ := (hI.kept hb8).add dS hXz hXb hbz3 (by first | omega | (simp; done) | (simp; omega))
                                        rw [hv9] at hr
                                        simp only [List.drop_succ_cons, List.drop_zero, fillA, fillL, List.setIfInBounds_toArray, List.set_cons_succ, List.set_cons_zero, Nat.zero_add, Nat.reduceAdd, d1, hv9]
                                        clear hd
                                        refine wpList_appr rfl (.tmp 227) (.tmp 252) rfl rfl rfl hr ?_
                                        have cT9 := hT9.cell
                                        have fT9 := hT9.frozen
                                        generalize (pre).length + 1 = nk at *
                                        have HI9 := Lib.hid hI9
                                        have HB9 := Lib.hid hB9
                                        clear hB9 hI9
                                        have hUb9 := HB9.out _ _ _ (by decide) (hUb.kept hb8)
                                        have HUb9 := Lib.hid hUb9
                                        clear hUb9 HB9
                                        go_wp2_with fail
                                        go_roundw
                                        case rel =>
                                          refine ⟨1, .slice A0 nk c0, by decide, by first | rfl | go_num, ?_, HUb9.out⟩
                                          have e1 : pre ++ endsG x.gs k ⟨pa, sz, ⟨gu0, p0, ia0⟩, ⟨gu1, p1, ia1⟩⟩ 1 = pre ++ [chanG sz (peerG x.gs gu1) ⟨gu0, p0, ia0⟩] := by
                                            simp only [endsG, chansG, end0G, end1G]
                                            rw [if_pos HE.out]
                                          rw [e1]
                                          exact HI9.out
                                        case measure => simp [intOf]
                                  · have e4 : (gu0 == (k : Int)) = false := by simp [he]
                                    have e5 : (gu0 != (k : Int)) = true := by simp [he]
                                    have HE := Lib.hid he
                                    have hbU := bal (Below.refl wr.heap.size wr) (.cells #[.int .i64 gu0, .int .i64 p0, .int .u64 (ia0 : Int)] 118)
                                    have HU := Lib.hid (hUb.kept hbU)
                                    have HIk := Lib.hid (hI.kept hbU)
                                    clear he hI hbU hUb
                                    go_wp2_with fail
                                    go_roundw
                                    case rel =>
                                      refine ⟨1, vks, by decide, by first | rfl | go_num, ?_, HU.out⟩
                                      have e1 : pre ++ endsG x.gs k ⟨pa, sz, ⟨gu0, p0, ia0⟩, ⟨gu1, p1, ia1⟩⟩ 1 = pre := by
                                        simp only [endsG, chansG, end0G, end1G]
                                        rw [if_neg HE.out, List.append_nil]
                                      rw [e1]
                                      exact HIk.out
                                    case measure => simp [intOf]
                                · obtain ⟨pr1, hpr1⟩ : ∃ pr1, pre ++ endsG x.gs k ⟨pa, sz, ⟨gu0, p0, ia0⟩, ⟨gu1, p1, ia1⟩⟩ 1 = pr1 := ⟨_, rfl⟩
                                  rw [hpr1] at hI
                                  have hpl1 : pr1.length ≤ 300 := by
                                    have := endsG_1 x.gs k ⟨pa, sz, ⟨gu0, p0, ia0⟩, ⟨gu1, p1, ia1⟩⟩
                                    rw [← hpr1, List.length_append]
                                    omega
                                  have HPr1 := Lib.hid hpr1
                                  clear hpr1
                                  rw [show ((1 : Nat) : Int) = 1 from rfl]
                                  have hU1 := hU3
                                  have hix : ∀ W : World, (Instr.index 119 (.agg #[.int .i64 gu0, .int .i64 p0, .int .u64 (ia0 : Int), .int .i64 gu1, .int .i64 p1, .int .u64 (ia1 : Int)]) (.int .i64 1)).run Try.prog W = .ok (.agg #[.int .i64 gu1, .int .i64 p1, .int .u64 (ia1 : Int)]) W := fun W => by kernel_rfl
                                  by_cases he : gu1 = (k : Int)
                                  · have e4 : (gu1 == (k : Int)) = true := by simp [he]
                                    have e5 : (gu1 != (k : Int)) = false := by simp [he]
                                    have HE := Lib.hid he
                                    clear he
                                    go_upto_region 40 with (fail)
                                    clear e4 e5 hix
                                    have hbU := bal (Below.refl wr.heap.size wr) (.cells #[.int .i64 gu1, .int .i64 p1, .int .u64 (ia1 : Int)] 118)
                                    have hUb := hUb.kept hbU
                                    clear hbU
                                    have hbx := bal (Below.refl wr.heap.size wr) (.cells #[.int .i64 gu1, .int .i64 p1, .int .u64 (ia1 : Int)] 118)
                                    have hI := hI.kept hbx
                                    have hWb := Blk.new wr 118 #[.int .i64 gu1, .int .i64 p1, .int .u64 (ia1 : Int)]
                                    generalize wr.alloc (.cells #[.int .i64 gu1, .int .i64 p1, .int .u64 (ia1 : Int)] 118) = w5 at *
                                    obtain ⟨wb, hwb⟩ : ∃ wb, wr.heap.size = wb := ⟨_, rfl⟩
                                    rw [hwb] at hWb ⊢
                                    clear hbx hwb
                                    have hXl := hI.xl hXb
                                    have HI5 := Lib.hid hI
                                    have HU5 := Lib.hid hUb
                                    have cU := hUb.cell
                                    have cCf := hI.cfg.cell
                                    go_upto_region 41 with (fail)
                                    (repeat ((fail_if_success (with_reducible show Code.wp _ (Code.seq _ _) _ _ _)); go_step))
                                    go_cut [24] from 211 to 225 (fun s24 wx => s24 = .string (peerG x.gs gu0) ∧ w5 = wx)
                                    case first =>
                                      by_cases hin2 : 0 ≤ gu0 ∧ gu0 < (n : Int)
                                      · obtain ⟨ko, rfl⟩ := Int.eq_ofNat_of_zero_le hin2.1
                                        have hko : ko < x.gs.length := by rw [HN.out]; omega
                                        obtain ⟨go, hgo⟩ : ∃ go, x.gs[ko]? = some go := ⟨_, List.getElem?_eq_getElem hko⟩
                                        obtain ⟨b', o', hbo, hbb', hrow'⟩ := conf_row HR.out hgo
                                        simp only [Option.some.injEq, Addr.mk.injEq, and_true] at hbo
                                        obtain ⟨rfl, rfl⟩ := hbo
                                        have d0' := hrow' 0 (.string go.1.nm) rfl
                                        rw [Nat.add_zero] at d0'
                                        have d1' := (HI5.out.bel.cell (p := ⟨b, o + ko * 79, none⟩) hbb').trans d0'
                                        have hkon : ko < n := by omega
                                        have e6 : decide ((0 : Int) ≤ (ko : Int)) = true := decide_eq_true (by omega)
                                        have e7 : decide ((ko : Int) < (n : Int)) = true := decide_eq_true (by omega)
                                        have HP := Lib.hid (peer_in hgo)
                                        clear hin2 hrow' d0' hgo
                                        go_wp2_with fail
                                        go_meet
                                        exact ⟨by rw [HP.out], rfl⟩
                                      · have HP := Lib.hid (peer_out (gs := x.gs) (o := gu0) (by rw [HN.out]; exact hin2))
                                        by_cases h0 : 0 ≤ gu0
                                        · have e6 : decide ((0 : Int) ≤ gu0) = true := decide_eq_true h0
                                          have e7 : decide (gu0 < (n : Int)) = false := decide_eq_false (by omega)
                                          clear hin2 h0
                                          go_wp2_with fail
                                          go_meet
                                          exact ⟨by rw [HP.out], rfl⟩
                                        · have e6 : decide ((0 : Int) ≤ gu0) = false := decide_eq_false h0
                                          clear hin2 h0
                                          go_wp2_with fail
                                          go_meet
                                          exact ⟨by rw [HP.out], rfl⟩
                                    case rest =>
                                      obtain ⟨h24, hwx⟩ := hcut
                                      subst hwx
                                      subst h24
                                      clear cU cCf
                                      go_upto_region 44 with (fail)
                                      refine wp_region_spec 27 [226, 227, 228, 229, 230, 231, 232, 233, 234, 235, 236, 237, 238, 239, 240, 241, 242, 243, 244, 245, 246, 247, 248, 249, 250, 251, 252] [.eq (.pointer (some ⟨bz, 2, none⟩)), .eq (vks), .eq (.pointer (some ⟨wb, 2, none⟩)), .eq (.int .u64 ((ia1 : Int))), .eq (.string (strOfNums (hexN ia1))), .eq (.string (strOfNums (atN [99, 104, 97, 110, 110, 101, 108] ia1))), RowV 5 encB 1 (strB ⟨#[112, 111, 114, 116, 114, 101, 101, 118, 101, 44, 99, 104, 97, 110, 110, 101, 108]⟩ ++ [0]), PrV (⟨#[99, 111, 109, 112, 97, 116, 105, 98, 108, 101]⟩, (strB ⟨#[112, 111, 114, 116, 114, 101, 101, 118, 101, 44, 99, 104, 97, 110, 110, 101, 108]⟩ ++ [0])), .eq (.pointer (some ⟨wb, 2, none⟩)), .eq (.int .u64 ((ia1 : Int))), .eq (.pointer (some ⟨ub, 1, none⟩)), .eq (.int .u64 sz), RowV 35 encQ 1 [(ia1 : Int), sz], RowV 5 encB 1 ([(ia1 : Int), sz].flatMap (bytesN 8 false)), PrV (⟨#[114, 101, 103]⟩, ([(ia1 : Int), sz].flatMap (bytesN 8 false))), .eq (.string ((peerG x.gs gu0))), RowV 5 encB 1 (strB ((peerG x.gs gu0)) ++ [0]), PrV (⟨#[112, 101, 101, 114]⟩, (strB ((peerG x.gs gu0)) ++ [0])), .eq (.pointer (some ⟨wb, 1, none⟩)), .eq (.int .i64 p1), .eq (.int .u64 (IntKind.u64.wrap (p1))), RowV 35 encQ 1 [IntKind.u64.wrap (p1)], RowV 5 encB 1 ([IntKind.u32.wrap (p1)].flatMap (bytesN 4 false)), PrV (⟨#[112, 101, 114, 109]⟩, ([IntKind.u32.wrap (p1)].flatMap (bytesN 4 false))), PsV (fun b => X b ∨ vks.ownBlock = some b) [(⟨#[99, 111, 109, 112, 97, 116, 105, 98, 108, 101]⟩, (strB ⟨#[112, 111, 114, 116, 114, 101, 101, 118, 101, 44, 99, 104, 97, 110, 110, 101, 108]⟩ ++ [0])), (⟨#[114, 101, 103]⟩, ([(ia1 : Int), sz].flatMap (bytesN 8 false))), (⟨#[112, 101, 101, 114]⟩, (strB ((peerG x.gs gu0)) ++ [0])), (⟨#[112, 101, 114, 109]⟩, ([IntKind.u32.wrap (p1)].flatMap (bytesN 4 false)))], TrV (fun b => X b ∨ vks.ownBlock = some b) (chanG sz (peerG x.gs gu0) ⟨gu1, p1, (ia1 : Int)⟩), TsV (fun b => X b ∨ vks.ownBlock = some b) [(chanG sz (peerG x.gs gu0) ⟨gu1, p1, (ia1 : Int)⟩)]] (by kernel_rfl) (by kernel_rfl) ?_ ?_
                                      · unfold StepS
                                        simp only [List.take_succ_cons, List.take_zero, fillA, fillL, List.setIfInBounds_toArray, List.set_cons_succ, List.set_cons_zero, Nat.zero_add, Nat.reduceAdd]
                                        refine StepsOk.cons (fun vals w' hb hd K hK => ?_) ?_
                                        · go_simp
                                          exact hK.out _ _ _ (Below.refl _ _) rfl (by kernel_rfl)
                                        refine StepsOk.cons (fun vals w' hb hd K hK => ?_) ?_
                                        · have d0 := hd 0 (by decide)
                                          simp only [List.getD_cons_zero, List.getD_cons_succ, SP.eq] at d0
                                          have hS' := (hI.tb.box.kept hb).cell
                                          go_simp
                                          exact hK.out _ _ _ (Below.refl _ _) rfl (by simp only [d0, Act.put, List.setIfInBounds_toArray, List.set_cons_succ, List.set_cons_zero])
                                        refine StepsOk.cons (fun vals w' hb hd K hK => ?_) ?_
                                        · go_simp
                                          exact hK.out _ _ _ (Below.refl _ _) rfl (by kernel_rfl)
                                        refine StepsOk.cons (fun vals w' hb hd K hK => ?_) ?_
                                        · have d2 := hd 2 (by decide)
                                          simp only [List.getD_cons_zero, List.getD_cons_succ, SP.eq] at d2
                                          have hS' := (hWb.kept hb).cell
                                          go_simp
                                          exact hK.out _ _ _ (Below.refl _ _) rfl (by simp only [d2, Act.put, List.setIfInBounds_toArray, List.set_cons_succ, List.set_cons_zero])
                                        refine StepsOk.cons (fun vals w' hb hd K hK => ?_) ?_
                                        · have d3 := hd 3 (by decide)
                                          simp only [List.getD_cons_zero, List.getD_cons_succ, SP.eq] at d3
                                          go_simp
                                          go_at_call 59
                                          refine (refHex_any ia1 (by omega) _).mono ?_
                                          rintro e w2 ⟨rfl, rfl⟩
                                          exact hK.out _ _ _ (Below.refl _ _) rfl (by simp only [d3, Act.put, List.setIfInBounds_toArray, List.set_cons_succ, List.set_cons_zero])
                                        refine StepsOk.cons (fun vals w' hb hd K hK => ?_) ?_
                                        · have d4 := hd 4 (by decide)
                                          simp only [List.getD_cons_zero, List.getD_cons_succ, SP.eq] at d4
                                          have q1 := catSizeG 8 ia1 (by decide)
                                          have q2 := catNameG ⟨#[99, 104, 97, 110, 110, 101, 108, 64]⟩ [99, 104, 97, 110, 110, 101, 108] ia1 (by decide +kernel)
                                          go_simp
                                          exact hK.out _ _ _ (Below.refl _ _) rfl (by simp only [d4, Act.put, List.setIfInBounds_toArray, List.set_cons_succ, List.set_cons_zero])
                                        refine StepsOk.cons (fun vals w' hb hd K hK => ?_) ?_
                                        · go_simp
                                          go_at_call 58
                                          refine (zeroR_any _ _ (by decide)).mono ?_
                                          rintro e w2 ⟨v, rfl, hp, hb2⟩
                                          exact hK.out _ _ _ hb2 hp (by kernel_rfl)
                                        refine StepsOk.cons (fun vals w' hb hd K hK => ?_) ?_
                                        · have d6 := hd 6 (by decide)
                                          simp only [List.getD_cons_zero, List.getD_cons_succ, SP.eq] at d6
                                          obtain ⟨A, c, hv, _⟩ := id d6
                                          generalize ((strB ⟨#[112, 111, 114, 116, 114, 101, 101, 118, 101, 44, 99, 104, 97, 110, 110, 101, 108]⟩ ++ [0])).length = m at hv
                                          rw [hv] at d6
                                          go_simp
                                          go_at_call 57
                                          refine (propR_any _ _ _ _ (by decide) (strB0_ok _) d6).mono ?_
                                          rintro e w2 ⟨v, rfl, hp, hb2⟩
                                          exact hK.out _ _ _ hb2 hp (by simp only [hv, Act.put, List.setIfInBounds_toArray, List.set_cons_succ, List.set_cons_zero])
                                        refine StepsOk.cons (fun vals w' hb hd K hK => ?_) ?_
                                        · go_simp
                                          exact hK.out _ _ _ (Below.refl _ _) rfl (by kernel_rfl)
                                        refine StepsOk.cons (fun vals w' hb hd K hK => ?_) ?_
                                        · have d8 := hd 8 (by decide)
                                          simp only [List.getD_cons_zero, List.getD_cons_succ, SP.eq] at d8
                                          have hS' := (hWb.kept hb).cell
                                          go_simp
                                          exact hK.out _ _ _ (Below.refl _ _) rfl (by simp only [d8, Act.put, List.setIfInBounds_toArray, List.set_cons_succ, List.set_cons_zero])
                                        refine StepsOk.cons (fun vals w' hb hd K hK => ?_) ?_
                                        · go_simp
                                          exact hK.out _ _ _ (Below.refl _ _) rfl (by kernel_rfl)
                                        refine StepsOk.cons (fun vals w' hb hd K hK => ?_) ?_
                                        · have d10 := hd 10 (by decide)
                                          simp only [List.getD_cons_zero, List.getD_cons_succ, SP.eq] at d10
                                          have hS' := (hUb.kept hb).cell
                                          go_simp
                                          exact hK.out _ _ _ (Below.refl _ _) rfl (by simp only [d10, Act.put, List.setIfInBounds_toArray, List.set_cons_succ, List.set_cons_zero])
                                        refine StepsOk.cons (fun vals w' hb hd K hK => ?_) ?_
                                        · have d9 := hd 9 (by decide)
                                          simp only [List.getD_cons_zero, List.getD_cons_succ, SP.eq] at d9
                                          have d11 := hd 11 (by decide)
                                          simp only [List.getD_cons_zero, List.getD_cons_succ, SP.eq] at d11
                                          go_simp
                                          exact hK.out _ _ _ (bal (Below.refl _ _) _) (RowP.fresh _ [(ia1 : Int), sz] _ 2 _ rfl rfl rfl rfl (by decide)) (by simp only [d9, d11, Act.put, List.setIfInBounds_toArray, List.set_cons_succ, List.set_cons_zero])
                                        refine StepsOk.cons (fun vals w' hb hd K hK => ?_) ?_
                                        · have d12 := hd 12 (by decide)
                                          simp only [List.getD_cons_zero, List.getD_cons_succ, SP.eq] at d12
                                          obtain ⟨A, c, hv, h1, h2, h3, _⟩ := d12
                                          simp only [List.length_cons, List.length_nil, Nat.zero_add, Nat.reduceAdd] at hv h3
                                          go_simp
                                          go_at_call 60
                                          refine (eightR_any A 2 c [(ia1 : Int), sz] _ rfl (by decide) (by intro y hy; simp at hy; rcases hy with rfl | rfl; exact hU1; exact hU2) h3).mono ?_
                                          rintro e w2 ⟨v, rfl, hp, hb2⟩
                                          exact hK.out _ _ _ hb2 hp (by simp only [hv, Act.put, List.setIfInBounds_toArray, List.set_cons_succ, List.set_cons_zero])
                                        refine StepsOk.cons (fun vals w' hb hd K hK => ?_) ?_
                                        · have d13 := hd 13 (by decide)
                                          simp only [List.getD_cons_zero, List.getD_cons_succ, SP.eq] at d13
                                          obtain ⟨A, c, hv, _⟩ := id d13
                                          generalize (([(ia1 : Int), sz].flatMap (bytesN 8 false))).length = m at hv
                                          rw [hv] at d13
                                          go_simp
                                          go_at_call 57
                                          refine (propR_any _ _ _ _ (by decide) (bytesNs_ok _ _ _) d13).mono ?_
                                          rintro e w2 ⟨v, rfl, hp, hb2⟩
                                          exact hK.out _ _ _ hb2 hp (by simp only [hv, Act.put, List.setIfInBounds_toArray, List.set_cons_succ, List.set_cons_zero])
                                        refine StepsOk.cons (fun vals w' hb hd K hK => ?_) ?_
                                        · go_simp
                                          exact hK.out _ _ _ (Below.refl _ _) rfl (by kernel_rfl)
                                        refine StepsOk.cons (fun vals w' hb hd K hK => ?_) ?_
                                        · have d15 := hd 15 (by decide)
                                          simp only [List.getD_cons_zero, List.getD_cons_succ, SP.eq] at d15
                                          go_simp
                                          go_at_call 58
                                          refine (zeroR_any _ _ (Nat.le_trans (HPl.out _) (by decide))).mono ?_
                                          rintro e w2 ⟨v, rfl, hp, hb2⟩
                                          exact hK.out _ _ _ hb2 hp (by simp only [d15, Act.put, List.setIfInBounds_toArray, List.set_cons_succ, List.set_cons_zero])
                                        refine StepsOk.cons (fun vals w' hb hd K hK => ?_) ?_
                                        · have d16 := hd 16 (by decide)
                                          simp only [List.getD_cons_zero, List.getD_cons_succ, SP.eq] at d16
                                          obtain ⟨A, c, hv, _⟩ := id d16
                                          generalize ((strB ((peerG x.gs gu0)) ++ [0])).length = m at hv
                                          rw [hv] at d16
                                          go_simp
                                          go_at_call 57
                                          refine (propR_any _ _ _ _ (by decide) (strB0_ok _) d16).mono ?_
                                          rintro e w2 ⟨v, rfl, hp, hb2⟩
                                          exact hK.out _ _ _ hb2 hp (by simp only [hv, Act.put, List.setIfInBounds_toArray, List.set_cons_succ, List.set_cons_zero])
                                        refine StepsOk.cons (fun vals w' hb hd K hK => ?_) ?_
                                        · go_simp
                                          exact hK.out _ _ _ (Below.refl _ _) rfl (by kernel_rfl)
                                        refine StepsOk.cons (fun vals w' hb hd K hK => ?_) ?_
                                        · have d18 := hd 18 (by decide)
                                          simp only [List.getD_cons_zero, List.getD_cons_succ, SP.eq] at d18
                                          have hS' := (hWb.kept hb).cell
                                          go_simp
                                          exact hK.out _ _ _ (Below.refl _ _) rfl (by simp only [d18, Act.put, List.setIfInBounds_toArray, List.set_cons_succ, List.set_cons_zero])
                                        refine StepsOk.cons (fun vals w' hb hd K hK => ?_) ?_
                                        · have d19 := hd 19 (by decide)
                                          simp only [List.getD_cons_zero, List.getD_cons_succ, SP.eq] at d19
                                          go_simp
                                          exact hK.out _ _ _ (Below.refl _ _) rfl (by simp only [d19, Act.put, List.setIfInBounds_toArray, List.set_cons_succ, List.set_cons_zero])
                                        refine StepsOk.cons (fun vals w' hb hd K hK => ?_) ?_
                                        · have d20 := hd 20 (by decide)
                                          simp only [List.getD_cons_zero, List.getD_cons_succ, SP.eq] at d20
                                          go_simp
                                          exact hK.out _ _ _ (bal (Below.refl _ _) _) (RowP.fresh _ [IntKind.u64.wrap (p1)] _ 1 _ rfl rfl rfl rfl (by decide)) (by simp only [d20, Act.put, List.setIfInBounds_toArray, List.set_cons_succ, List.set_cons_zero])
                                        refine StepsOk.cons (fun vals w' hb hd K hK => ?_) ?_
                                        · have d21 := hd 21 (by decide)
                                          simp only [List.getD_cons_zero, List.getD_cons_succ, SP.eq] at d21
                                          obtain ⟨A, c, hv, h1, h2, h3, _⟩ := d21
                                          simp only [List.length_cons, List.length_nil, Nat.zero_add, Nat.reduceAdd] at hv h3
                                          go_simp
                                          go_at_call 56
                                          refine (fourR_any A 1 c [IntKind.u64.wrap (p1)] _ rfl (by decide) (by intro y hy; simp at hy; subst hy; exact wrap64_in _) h3).mono ?_
                                          rintro e w2 ⟨v, rfl, hp, hb2⟩
                                          exact hK.out _ _ _ hb2 (wrap_flat p1 ▸ hp) (by simp only [hv, Act.put, List.setIfInBounds_toArray, List.set_cons_succ, List.set_cons_zero])
                                        refine StepsOk.cons (fun vals w' hb hd K hK => ?_) ?_
                                        · have d22 := hd 22 (by decide)
                                          simp only [List.getD_cons_zero, List.getD_cons_succ, SP.eq] at d22
                                          obtain ⟨A, c, hv, _⟩ := id d22
                                          generalize (([IntKind.u32.wrap (p1)].flatMap (bytesN 4 false))).length = m at hv
                                          rw [hv] at d22
                                          go_simp
                                          go_at_call 57
                                          refine (propR_any _ _ _ _ (by decide) (bytesNs_ok _ _ _) d22).mono ?_
                                          rintro e w2 ⟨v, rfl, hp, hb2⟩
                                          exact hK.out _ _ _ hb2 hp (by simp only [hv, Act.put, List.setIfInBounds_toArray, List.set_cons_succ, List.set_cons_zero])
                                        refine StepsOk.cons (fun vals w' hb hd K hK => ?_) ?_
                                        · have d7 := hd 7 (by decide)
                                          simp only [List.getD_cons_zero, List.getD_cons_succ, SP.eq] at d7
                                          have d14 := hd 14 (by decide)
                                          simp only [List.getD_cons_zero, List.getD_cons_succ, SP.eq] at d14
                                          have d17 := hd 17 (by decide)
                                          simp only [List.getD_cons_zero, List.getD_cons_succ, SP.eq] at d17
                                          have d23 := hd 23 (by decide)
                                          simp only [List.getD_cons_zero, List.getD_cons_succ, SP.eq] at d23
                                          obtain ⟨A7, c7, hv7, hp7⟩ := d7.cells
                                          generalize ((⟨#[99, 111, 109, 112, 97, 116, 105, 98, 108, 101]⟩, (strB ⟨#[112, 111, 114, 116, 114, 101, 101, 118, 101, 44, 99, 104, 97, 110, 110, 101, 108]⟩ ++ [0])) : Pr).2.length = m7 at hv7 hp7
                                          obtain ⟨A14, c14, hv14, hp14⟩ := d14.cells
                                          generalize ((⟨#[114, 101, 103]⟩, ([(ia1 : Int), sz].flatMap (bytesN 8 false))) : Pr).2.length = m14 at hv14 hp14
                                          obtain ⟨A17, c17, hv17, hp17⟩ := d17.cells
                                          generalize ((⟨#[112, 101, 101, 114]⟩, (strB ((peerG x.gs gu0)) ++ [0])) : Pr).2.length = m17 at hv17 hp17
                                          obtain ⟨A23, c23, hv23, hp23⟩ := d23.cells
                                          generalize ((⟨#[112, 101, 114, 109]⟩, ([IntKind.u32.wrap (p1)].flatMap (bytesN 4 false))) : Pr).2.length = m23 at hv23 hp23
                                          go_simp
                                          exact hK.out _ _ _ (bal (Below.refl _ _) _) (PsP.fresh _ [(⟨#[99, 111, 109, 112, 97, 116, 105, 98, 108, 101]⟩, (strB ⟨#[112, 111, 114, 116, 114, 101, 101, 118, 101, 44, 99, 104, 97, 110, 110, 101, 108]⟩ ++ [0])), (⟨#[114, 101, 103]⟩, ([(ia1 : Int), sz].flatMap (bytesN 8 false))), (⟨#[112, 101, 101, 114]⟩, (strB ((peerG x.gs gu0)) ++ [0])), (⟨#[112, 101, 114, 109]⟩, ([IntKind.u32.wrap (p1)].flatMap (bytesN 4 false)))] [_, _, _, _] _ _ 4 ⟨hp7, hp14, hp17, hp23, trivial⟩ rfl rfl rfl (by decide) (hXl _ hb)) (by simp only [hv7, hv14, hv17, hv23, Act.put, List.setIfInBounds_toArray, List.set_cons_succ, List.set_cons_zero])
                                        refine StepsOk.cons (fun vals w' hb hd K hK => ?_) ?_
                                        · have d5 := hd 5 (by decide)
                                          simp only [List.getD_cons_zero, List.getD_cons_succ, SP.eq] at d5
                                          have d24 := hd 24 (by decide)
                                          simp only [List.getD_cons_zero, List.getD_cons_succ, SP.eq] at d24
                                          obtain ⟨A, c, f, hv, hp⟩ := id d24
                                          simp only [List.length_cons, List.length_nil, Nat.zero_add, Nat.reduceAdd] at hv
                                          rw [hv] at d24
                                          go_simp
                                          exact hK.out (.agg #[.string (strOfNums (atN [99, 104, 97, 110, 110, 101, 108] ia1)), .slice A 4 c, .slice none 0 0]) _ _ (Below.refl _ _) (TrP.mk (nm_atM (by decide)) d24 (TsP.nil 0 none (by simp [maxLen]))) (by simp only [d5, hv, Act.put, List.setIfInBounds_toArray, List.set_cons_succ, List.set_cons_zero])
                                        refine StepsOk.cons (fun vals w' hb hd K hK => ?_) ?_
                                        · have d25 := hd 25 (by decide)
                                          simp only [List.getD_cons_zero, List.getD_cons_succ, SP.eq] at d25
                                          obtain ⟨A, c, B, e, hv, k, hp⟩ := d25.cells
                                          generalize ((chanG sz (peerG x.gs gu0) ⟨gu1, p1, (ia1 : Int)⟩) : Tr).nm = q0 at hv hp
                                          generalize ((chanG sz (peerG x.gs gu0) ⟨gu1, p1, (ia1 : Int)⟩) : Tr).ps.length = q1 at hv hp
                                          generalize ((chanG sz (peerG x.gs gu0) ⟨gu1, p1, (ia1 : Int)⟩) : Tr).ks.length = q2 at hv hp
                                          go_simp
                                          exact hK.out _ _ _ (bal (Below.refl _ _) _) (TsP.fresh _ [(chanG sz (peerG x.gs gu0) ⟨gu1, p1, (ia1 : Int)⟩)] [_] _ _ 1 ⟨⟨k, hp⟩, trivial⟩ rfl rfl rfl (by decide) (hXl _ hb)) (by simp only [hv, Act.put, List.setIfInBounds_toArray, List.set_cons_succ, List.set_cons_zero])
                                        exact StepsOk.nil
                                      · intro vals w8 hb8 hd
                                        have dS := hd 26 (by decide)
                                        have d1 := hd 1 (by decide)
                                        simp only [List.getD_cons_zero, List.getD_cons_succ, SP.eq] at d1 dS
                                        obtain ⟨A9, c9, f9, k9, hv9, _⟩ := id dS
                                        simp only [List.length_cons, List.length_nil, Nat.zero_add, Nat.reduceAdd] at hv9
                                        obtain ⟨w9, A0, c0, hr, hT9, hI9, hB9⟩ := (hI.kept hb8).add dS hXz hXb hbz3 (by first | omega | (simp; done) | (simp; omega))
                                        rw [hv9] at hr
                                        simp only [List.drop_succ_cons, List.drop_zero, fillA, fillL, List.setIfInBounds_toArray, List.set_cons_succ, List.set_cons_zero, Nat.zero_add, Nat.reduceAdd, d1, hv9]
                                        clear hd
                                        refine wpList_appr rfl (.tmp 227) (.tmp 252) rfl rfl rfl hr ?_
                                        have cT9 := hT9.cell
                                        have fT9 := hT9.frozen
                                        generalize (pr1).length + 1 = nk at *
                                        have HI9 := Lib.hid hI9
                                        have HB9 := Lib.hid hB9
                                        clear hB9 hI9
                                        have hUb9 := HB9.out _ _ _ (by decide) (hUb.kept hb8)
                                        have HUb9 := Lib.hid hUb9
                                        clear hUb9 HB9
                                        go_wp2_with fail
                                        go_roundw
                                        case rel =>
                                          refine ⟨2, .slice A0 nk c0, by decide, by first | rfl | go_num, ?_, HUb9.out⟩
                                          have e1 : pre ++ endsG x.gs k ⟨pa, sz, ⟨gu0, p0, ia0⟩, ⟨gu1, p1, ia1⟩⟩ 2 = pr1 ++ [chanG sz (peerG x.gs gu0) ⟨gu1, p1, ia1⟩] := by
                                            simp only [endsG, chansG, end0G, end1G]
                                            rw [← HPr1.out]; simp only [endsG, end0G]; rw [if_pos (show gu1 = (k : Int) from HE.out), List.append_assoc]
                                          rw [e1]
                                          exact HI9.out
                                        case measure => simp [intOf]
                                  · have e4 : (gu1 == (k : Int)) = false := by simp [he]
                                    have e5 : (gu1 != (k : Int)) = true := by simp [he]
                                    have HE := Lib.hid he
                                    have hbU := bal (Below.refl wr.heap.size wr) (.cells #[.int .i64 gu1, .int .i64 p1, .int .u64 (ia1 : Int)] 118)
                                    have HU := Lib.hid (hUb.kept hbU)
                                    have HIk := Lib.hid (hI.kept hbU)
                                    clear he hI hbU hUb
                                    go_wp2_with fail
                                    go_roundw
                                    case rel =>
                                      refine ⟨2, vks, by decide, by first | rfl | go_num, ?_, HU.out⟩
                                      have e1 : pre ++ endsG x.gs k ⟨pa, sz, ⟨gu0, p0, ia0⟩, ⟨gu1, p1, ia1⟩⟩ 2 = pr1 := by
                                        simp only [endsG, chansG, end0G, end1G]
                                        rw [← HPr1.out]; simp only [endsG, end0G]; rw [if_neg (show ¬ gu1 = (k : Int) from HE.out), List.append_nil]
                                      rw [e1]
                                      exact HIk.out
                                    case measure => simp [intOf]
                                · have hI : GI w wr #[.int .u32 x.ver, .slice (some ⟨b, o, none⟩) n c, .slice (some ⟨b1, o1, none⟩) n2 c2] g X bz base (pre ++ chansG x.gs k ⟨pa, sz, ⟨gu0, p0, ia0⟩, ⟨gu1, p1, ia1⟩⟩) (.slice Ap np cp) vks := hI
                                  have HI := Lib.hid hI
                                  clear hI hUb
                                  rw [show ((2 : Nat) : Int) = 2 from rfl]
                                  go_wp2_with fail
                                  go_roundw
                                  case rel =>
                                    refine ⟨j + 1, vks, by omega, by go_num, ?_⟩
                                    have e1 : (x.cs.take (j + 1)).flatMap (chansG x.gs k) = (x.cs.take j).flatMap (chansG x.gs k) ++ chansG x.gs k ⟨pa, sz, ⟨gu0, p0, ia0⟩, ⟨gu1, p1, ia1⟩⟩ := by rw [List.take_add_one, HY.out, List.flatMap_append]; simp
                                    rw [e1, ← List.append_assoc, HPre.out]
                                    exact HI.out
                                  case measure => simp [intOf]; omega
                            · obtain rfl : n2 = j := by omega
                              have hI : GI w wr #[.int .u32 x.ver, .slice (some ⟨b, o, none⟩) n c, .slice A2 n2 c2] g X bz base ([cpusG g.1.cpus] ++ g.1.ws.map winG ++ g.1.ds.map devG ++ x.cs.flatMap (chansG x.gs k)) (.slice Ap np cp) vks := by
                                rw [List.take_of_length_le (by rw [HN2.out]; omega)] at hI
                                exact hI
                              have e3 : decide ((n2 : Int) < (n2 : Int)) = false := decide_eq_false (by omega)
                              have hT : TrP X (guestG x k g.1) wr (.agg #[.string ⟨#[]⟩, .slice Ap np cp, vks]) := hI.tb.tree hXb (by decide)
                              have hLs : LensF 3 (guestG x k g.1) := lens_guest HPl.out (by rw [HN2.out]; exact fn2) (by rw [HWs.out]; exact hnw) (by rw [HDs.out]; exact hnd) (by rw [HQ.out]; exact hqn) hs5 hs6
                              obtain ⟨Av, cv, Bv, ev, hvv, kv, hpv⟩ := hT.cells
                              have hga : guestA x (k : Int) = if mayT (guestG x k g.1) then (guestG x k g.1, 0) else (zT, 240) := by
                                unfold guestA
                                rw [if_pos ⟨by omega, by rw [HN.out]; omega⟩, Int.toNat_natCast, HGk.out]
                              generalize guestG x k g.1 = T at *
                              have hnm : T.nm = ⟨#[]⟩ := by
                                simp only [Value.agg.injEq, Array.mk.injEq, List.cons.injEq, Value.string.injEq, and_true] at hvv
                                exact hvv.1.symm
                              rw [hnm] at hvv hpv
                              generalize T.ps.length = q1 at hvv hpv
                              generalize T.ks.length = q2 at hvv hpv
                              simp only [Value.agg.injEq, Array.mk.injEq, List.cons.injEq, true_and, and_true] at hvv
                              obtain ⟨hq1, rfl⟩ := hvv
                              rw [hq1] at hI
                              clear hnm hT hq1
                              have cT := hI.tb.box.cell
                              have hCk := (rCheck_any (max kv 3) T [.string ⟨#[]⟩, .slice Av q1 cv, .slice Bv q2 ev] wr (hpv.ok.mono (Nat.le_max_left _ _)) (hLs.mono (Nat.le_max_right _ _)))
                              have HIe := Lib.hid hI
                              have HPv := Lib.hid hpv
                              have HGa := Lib.hid hga
                              clear hI hpv hLs hga
                              rcases hmay : mayT T with _ | _
                              · rw [hmay] at hCk
                                have HCk := Lib.hid hCk
                                have hga2 : guestA x (k : Int) = (zT, 240) := by rw [HGa.out, hmay]; rfl
                                clear hCk hmay
                                go_upto_region 48 with (go_at_call 18; refine HCk.out.mono ?_; rintro e w6 ⟨rfl, hb6⟩)
                                have hI6 := HIe.out.kept hb6
                                have cR := hI6.res.cell
                                have fR := hI6.res.frozen
                                have hbO : RowKit.Below w.heap.size w (((w6.setCell ⟨w.heap.size + 1, 0, none⟩ (.string ⟨#[]⟩)).setCell ⟨w.heap.size + 1, 1, none⟩ (.slice none 0 0)).setCell ⟨w.heap.size + 1, 2, none⟩ (.slice none 0 0)) := ((hI6.bel.setCell (p := ⟨w.heap.size + 1, 0, none⟩) (Nat.le_succ _) _).setCell (p := ⟨w.heap.size + 1, 1, none⟩) (Nat.le_succ _) _).setCell (p := ⟨w.heap.size + 1, 2, none⟩) (Nat.le_succ _) _
                                have hRO := ((hI6.res.set_ 0 (.string ⟨#[]⟩)).set_ 1 (.slice none 0 0)).set_ 2 (.slice none 0 0)
                                have HRes := Lib.hid (guestP_no hga2 hbO)
                                have cRO := hRO.cell
                                clear hbO
                                go_wp2_with fail
                                exact bodyPost_ret (v := .tuple #[.agg #[.string ⟨#[]⟩, .slice none 0 0, .slice none 0 0], .int .i64 240]) (by simp [results, Try.results26, go_sem, cRO]) rfl HRes.out
                              · rw [hmay] at hCk
                                have HCk := Lib.hid hCk
                                have hga2 : guestA x (k : Int) = (T, 0) := by rw [HGa.out, hmay]; rfl
                                clear hCk hmay
                                go_upto_region 49 with (go_at_call 18; refine HCk.out.mono ?_; rintro e w6 ⟨rfl, hb6⟩)
                                have hI6 := HIe.out.kept hb6
                                have cT := hI6.tb.box.cell
                                have cR := hI6.res.cell
                                have fR := hI6.res.frozen
                                obtain ⟨z1, z2, z3⟩ := named_tree (B := w.heap.size) (w := w) (Nat.le_succ _) hI6.res hXr (HPv.out.kept hb6) hI6.bel
                                have HRes := Lib.hid (guestP_yes hga2 z2 z3)
                                have cZ := z1.cell
                                clear z1 z2 z3
                                go_wp2_with fail
                                exact bodyPost_ret (v := .tuple #[.agg #[.string ⟨#[]⟩, .slice Av q1 cv, .slice Bv q2 ev], .int .i64 0]) (by simp [results, Try.results26, go_sem, cZ]) rfl HRes.out
  · have hga2 : guestA x gi = (zT, 1) := by unfold guestA; rw [if_neg (by rw [HN.out]; exact hin)]
    have cR := hR0.cell
    have fR := hR0.frozen
    have hbO : RowKit.Below w.heap.size w (((w1.setCell ⟨w.heap.size + 1, 0, none⟩ (.string ⟨#[]⟩)).setCell ⟨w.heap.size + 1, 1, none⟩ (.slice none 0 0)).setCell ⟨w.heap.size + 1, 2, none⟩ (.slice none 0 0)) := ((hb0.setCell (p := ⟨w.heap.size + 1, 0, none⟩) (Nat.le_succ _) _).setCell (p := ⟨w.heap.size + 1, 1, none⟩) (Nat.le_succ _) _).setCell (p := ⟨w.heap.size + 1, 2, none⟩) (Nat.le_succ _) _
    have hRO := ((hR0.set_ 0 (.string ⟨#[]⟩)).set_ 1 (.slice none 0 0)).set_ 2 (.slice none 0 0)
    have HRes := Lib.hid (guestP_no hga2 hbO)
    have cRO := hRO.cell
    clear hbO
    by_cases h0 : gi < 0
    · have e1 : decide (gi < 0) = true := decide_eq_true h0
      go_wp2_with fail
      exact bodyPost_ret (v := .tuple #[.agg #[.string ⟨#[]⟩, .slice none 0 0, .slice none 0 0], .int .i64 1]) (by simp [results, Try.results26, go_sem, cRO]) rfl HRes.out
    · have e1 : decide (gi < 0) = false := decide_eq_false h0
      have e2 : decide ((n : Int) ≤ gi) = true := decide_eq_true (by omega)
      clear h0 hin
      go_wp2_with fail
      exact bodyPost_ret (v := .tuple #[.agg #[.string ⟨#[]⟩, .slice none 0 0, .slice none 0 0], .int .i64 1]) (by simp [results, Try.results26, go_sem, cRO]) rfl HRes.out
