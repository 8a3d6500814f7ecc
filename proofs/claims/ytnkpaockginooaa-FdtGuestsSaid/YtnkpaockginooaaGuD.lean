/- The tree of a guest (fdt.Guest); walked. -/
import Derived.Test.YtnkpaockginooaaGuB
import Derived.Test.YtnkpaockginooaaGuC
import Derived.Test.YtnkpaockginooaaGuL
import Derived.Test.YtnkpaockginooaaHostB
import Derived.Test.YtnkpaockginooaaMayD
namespace Go.Proofs.Ytnkpaockginooaa
set_option linter.unusedVariables false
set_option linter.unusedSimpArgs false
open Go.RowKit Go.Sort
theorem hm_u32 : True := trivial
set_option maxRecDepth 100000 in
set_option maxHeartbeats 4000000 in
theorem guest_any (x : Cf) (A A2 : Option Addr) (c c2 : Nat) (gi : Int) (hgi : inI64 gi) (w : World) (hR : CfR w w.heap.size x A c A2 c2) (hf : fewN x.gs.length x.cs.length (x.gs.map toGd) = true) :
    Calls Try.prog 25 #[.agg #[.int .u32 x.ver, .slice A x.gs.length c, .slice A2 x.cs.length c2], .int .i64 gi] w (GuestP x gi w) := by
  obtain ⟨fn1, fn2, ffew⟩ := few_yes hf
  obtain ⟨cfg, hcfg⟩ : ∃ cfg : Array Value, cfg = #[.int .u32 x.ver, .slice A x.gs.length c, .slice A2 x.cs.length c2] := ⟨_, rfl⟩
  have HR := Lib.hid hR
  have HF := Lib.hid hf
  generalize hn : x.gs.length = n at *
  generalize hn2 : x.cs.length = n2 at *
  have HN := Lib.hid hn
  have HPl := Lib.hid (peer_len (w := w) (A := A) (A2 := A2) (c := c) (c2 := c2) (by rw [hn, hn2]; exact hf))
  have HN2 := Lib.hid hn2
  have hC0 := (Blk.new w 48 #[.int .u32 x.ver, .slice A n c, .slice A2 n2 c2]).alloc (.cells #[.string ⟨#[]⟩, .slice none 0 0, .slice none 0 0] 25)
  have hR0 := Blk.fresh (g := w.heap.size + 1) (w.alloc (.cells #[.int .u32 x.ver, .slice A n c, .slice A2 n2 c2] 48)) 25 #[.string ⟨#[]⟩, .slice none 0 0, .slice none 0 0]
  have hb0 := bal' (bal (Below.refl w.heap.size w) (.cells #[.int .u32 x.ver, .slice A n c, .slice A2 n2 c2] 48)) (.cells #[.string ⟨#[]⟩, .slice none 0 0, .slice none 0 0] 25) (by simp)
  have hz0 : ((w.alloc (.cells #[.int .u32 x.ver, .slice A n c, .slice A2 n2 c2] 48)).alloc (.cells #[.string ⟨#[]⟩, .slice none 0 0, .slice none 0 0] 25)).heap.size = w.heap.size + 2 := by simp
  clear hR hf hn hn2
  go_enter Try.func25, Try.ntmps25
  go_upto_region 1 with (fail)
  generalize (w.alloc (.cells #[.int .u32 x.ver, .slice A n c, .slice A2 n2 c2] 48)).alloc (.cells #[.string ⟨#[]⟩, .slice none 0 0, .slice none 0 0] 25) = w1 at *
  have cC := hC0.cell
  have cR := hR0.cell
  have fR := hR0.frozen
  by_cases hin : 0 ≤ gi ∧ gi < (n : Int)
  · obtain ⟨k, rfl⟩ := Int.eq_ofNat_of_zero_le hin.1
    have hk : k < x.gs.length := by rw [HN.out]; omega
    obtain ⟨g, hg⟩ : ∃ g, x.gs[k]? = some g := ⟨_, List.getElem?_eq_getElem hk⟩
    obtain ⟨b, o, rfl, hbb, hrow⟩ := conf_row HR.out hg
    have hgm := List.mem_of_getElem? hg
    have HG := Lib.hid (HR.out.og g hgm)
    have HFw := Lib.hid (ffew g hgm)
    have hrow1 : w1.rangeAt b (o + k * 79) (gcells g) := fun j v hv => (hb0.cell (p := ⟨b, o + k * 79 + j, none⟩) hbb).trans (hrow j v hv)
    have HRg := Lib.hid hrow1
    have hlen := gcells_len HG.out.kl
    have hkn : k < n := by omega
    have e1 : decide ((k : Int) < 0) = false := decide_eq_false (by omega)
    have e2 : decide ((n : Int) ≤ (k : Int)) = false := decide_eq_false (by omega)
    obtain ⟨Z, hZ, hz0', hZi⟩ := zero_guest
    have hst := store_guest hZ hZi hlen (toGd_ok HG.out).one w1
    rw [hz0] at hst
    have HZi := Lib.hid hZi
    have hsz : (gcells g).toArray.size = 79 := by simp [hlen]
    have HGk := Lib.hid hg
    clear hin hrow hrow1 hg hZi
    go_upto_region 4 with (refine wpList_load_mid rfl 104 (.tmp 32) rfl b (o + k * 79) (by rfl) (gcells g) _ HRg.out Try.underlying104 rfl (by rw [hlen]; kernel_rfl) ?_)
    have hC3 := hC0.alloc (.cells (gcells g).toArray 104)
    have hR3 := hR0.alloc (.cells (gcells g).toArray 104)
    have hG3 := Blk.fresh (g := w.heap.size + 2) w1 104 (gcells g).toArray hz0.symm
    have hb3 := bal' hb0 (.cells (gcells g).toArray 104) hb0.size
    have hz3 : (w1.alloc (.cells (gcells g).toArray 104)).heap.size = w.heap.size + 3 := by simp [hz0]
    clear hst hz0' hZ cC cR fR hC0 hR0 hb0 e1 e2
    generalize w1.alloc (.cells (gcells g).toArray 104) = w3 at *
    have HC3 := Lib.hid hC3
    have HR3 := Lib.hid hR3
    have HG3 := Lib.hid hG3
    have HB3 := Lib.hid hb3
    have HZ3 := Lib.hid hz3
    have HGt := Lib.hid (fun j => gcells_tail HG.out.kl j)
    have cG77 : w3.cell? ⟨w.heap.size + 2, 77, none⟩ = some (.slice g.2.AI g.1.qs.length g.2.cI) := (hG3.cell 77).trans (by simpa using gcells_tail HG.out.kl 2)
    have hqn := HFw.out.2.2.1
    generalize hq : g.1.qs.length = nq at *
    have HQ := Lib.hid hq
    clear hC3 hR3 hG3 hb3 hz3 hz0 hq
    go_wp2_with fail
    go_loopw [37, 7] (fun jv lv wr => ∃ j : Nat, j ≤ nq ∧ jv = .int .i64 j ∧ wr.ownsRow w3.heap.size 44 1 lv j (((g.1.qs.take j).map fun q => IntKind.u32.wrap q.num).flatMap encU32) ∧ Below w3.heap.size w3 wr) (fun jv _ _ => nq - (intOf jv).toNat)
    case atStart => exact ⟨0, by omega, rfl, World.ownsRow_nil _ _ _ _, Below.refl _ _⟩
    case round =>
      obtain ⟨j, hj, rfl, hown, hbr⟩ := hrel
      by_cases hlt : j < nq
      · obtain ⟨b1, o1, hA1, hb1, hd1⟩ := HG.out.rI.row (enc := encIq) (fun _ => rfl) (k := j) (by rw [HQ.out]; exact hlt) rfl
        obtain ⟨q, hqj⟩ : ∃ q, g.1.qs[j]? = some q := ⟨_, List.getElem?_eq_getElem (by rw [HQ.out]; exact hlt)⟩
        have hqe : g.1.qs[j]'(by rw [HQ.out]; exact hlt) = q := (List.getElem?_eq_some_iff.1 hqj).2
        rw [hqe] at hd1
        have hbw := HB3.out.trans (hbr.mono HB3.out.size)
        have d0 := (hbw.cell (p := ⟨b1, o1 + j * 3, none⟩) hb1).trans (hd1 0 (by decide))
        have d1 := (hbw.cell (p := ⟨b1, o1 + j * 3 + 1, none⟩) hb1).trans (hd1 1 (by decide))
        have d2 := (hbw.cell (p := ⟨b1, o1 + j * 3 + 2, none⟩) hb1).trans (hd1 2 (by decide))
        obtain ⟨qn, qc, qe⟩ := q
        simp only [encIq, List.getElem?_cons_zero, List.getElem?_cons_succ] at d0 d1 d2
        have HQj := Lib.hid hqj
        have e3 : decide ((j : Int) < (nq : Int)) = true := decide_eq_true (by omega)
        clear hd1 hqe hqj
        rw [hA1] at cG77 ⊢
        have cB := (Blk.new wr 106 #[.int .i64 qn, .int .i64 qc, .bool qe]).cell
        have hrz : w3.heap.size ≤ wr.heap.size := hbr.size
        go_wp2_with (at_builtin; refine wpList_app u32_elemG rfl (.tmp 41) (.tmp 45) rfl w3.heap.size ((hown.alloc _).alloc _) rfl rfl (Rd.fresh _ _ _ 1 1 _ rfl) (by simp [Value.oneCell']) (by simp [maxLen]; omega) (by omega) (by simp; omega) ?_; intro v' w' hown' hb' _)
        go_roundw
        case rel =>
          refine ⟨j + 1, by omega, by go_num, ?_, ?_⟩
          · have ht : g.1.qs.take (j + 1) = g.1.qs.take j ++ [⟨qn, qc, qe⟩] := by rw [List.take_add_one, HQj.out]; rfl
            rw [ht, List.map_append, List.flatMap_append]
            exact hown'
          · exact ((hbr.alloc hrz _).alloc (by simp; omega) _).trans hb'
        case measure => simp [intOf]; omega
      · obtain rfl : nq = j := by omega
        have hbw := HB3.out.trans (hbr.mono HB3.out.size)
        have hGw := HG3.out.kept hbr
        obtain ⟨Al, cl, rfl, _, hLr⟩ := own_slice hown
        rw [List.take_of_length_le (by rw [HQ.out]; omega)] at hLr
        have HLr := Lib.hid hLr
        have HSr := Lib.hid (HG.out.rS.kept hbw)
        have HLx := Lib.hid (show ∀ y ∈ g.1.qs.map fun q => IntKind.u32.wrap q.num, 0 ≤ y ∧ y < 4294967296 from fun y hy => by
          obtain ⟨q, _, rfl⟩ := List.mem_map.1 hy
          exact wrap32_in _)
        have hzr : w.heap.size + 3 ≤ wr.heap.size := by have := HZ3.out; have := hbr.size; omega
        have hs5 := HFw.out.2.2.2.1
        have hs6 := HFw.out.2.2.2.2
        clear hown hLr cG77
        go_upto_region 10 with (fail)
        refine wp_region_spec 16 [48, 49, 50, 51, 52, 53, 54, 55, 56, 57, 58, 59, 60, 61, 62, 10] [RowV 44 encU32 1 [2], PrV (⟨#[35, 97, 100, 100, 114, 101, 115, 115, 45, 99, 101, 108, 108, 115]⟩, [2].flatMap (bytesN 4 false)), RowV 44 encU32 1 [2], PrV (⟨#[35, 115, 105, 122, 101, 45, 99, 101, 108, 108, 115]⟩, [2].flatMap (bytesN 4 false)), PrV (⟨#[99, 111, 109, 112, 97, 116, 105, 98, 108, 101]⟩, strB ⟨#[112, 111, 114, 116, 114, 101, 101, 118, 101, 44, 103, 117, 101, 115, 116]⟩ ++ [0]), .eq (.pointer (some ⟨w.heap.size + 2, 0, none⟩)), .eq (.string (g.1.nm)), PrV (⟨#[109, 111, 100, 101, 108]⟩, strB (g.1.nm) ++ [0]), .eq ((.slice Al nq cl)), PrV (⟨#[105, 110, 116, 101, 114, 114, 117, 112, 116, 115]⟩, (g.1.qs.map fun q : Iq => IntKind.u32.wrap q.num).flatMap (bytesN 4 false)), .eq (.pointer (some ⟨w.heap.size + 2, 78, none⟩)), .eq ((.slice g.2.AS g.1.ss.length g.2.cS)), PrV (⟨#[115, 116, 114, 101, 97, 109, 115]⟩, g.1.ss.flatMap (bytesN 4 false)), PsV (fun b => b = w.heap.size + 1) [(⟨#[35, 97, 100, 100, 114, 101, 115, 115, 45, 99, 101, 108, 108, 115]⟩, [2].flatMap (bytesN 4 false)), (⟨#[35, 115, 105, 122, 101, 45, 99, 101, 108, 108, 115]⟩, [2].flatMap (bytesN 4 false)), (⟨#[99, 111, 109, 112, 97, 116, 105, 98, 108, 101]⟩, strB ⟨#[112, 111, 114, 116, 114, 101, 101, 118, 101, 44, 103, 117, 101, 115, 116]⟩ ++ [0]), (⟨#[109, 111, 100, 101, 108]⟩, strB (g.1.nm) ++ [0]), (⟨#[105, 110, 116, 101, 114, 114, 117, 112, 116, 115]⟩, (g.1.qs.map fun q : Iq => IntKind.u32.wrap q.num).flatMap (bytesN 4 false)), (⟨#[115, 116, 114, 101, 97, 109, 115]⟩, g.1.ss.flatMap (bytesN 4 false))], NodeV (fun b => b = w.heap.size + 1) ⟨#[]⟩ (rootPs g.1), BoxV wr.heap.size 25 #[.string ⟨#[]⟩, .slice none 0 0, .slice none 0 0]] (by kernel_rfl) (by kernel_rfl) ?_ ?_
        · unfold StepS
          simp only [List.take_succ_cons, List.take_zero, fillA, fillL, List.setIfInBounds_toArray, List.set_cons_succ, List.set_cons_zero, Nat.zero_add, Nat.reduceAdd]
          refine StepsOk.cons (fun vals w' hb hd K hK => ?_) ?_
          · go_simp
            exact hK.out _ _ _ (bal (Below.refl _ _) _) (RowP.fresh _ [2] _ 1 _ rfl rfl rfl rfl (by decide)) (by kernel_rfl)
          refine StepsOk.cons (fun vals w' hb hd K hK => ?_) ?_
          · have d0 := hd 0 (by decide)
            simp only [List.getD_cons_zero, List.getD_cons_succ, SP.eq] at d0
            obtain ⟨A, c, hv, h1, h2, h3, _⟩ := d0
            simp only [List.length_cons, List.length_nil, Nat.zero_add, Nat.reduceAdd] at hv h3
            go_simp
            go_at_call 50
            refine (gfour_any _ A 1 c [2] _ (by decide) rfl (by decide) (by decide) h3).mono ?_
            rintro e w2 ⟨v, rfl, hp, hb2⟩
            exact hK.out _ _ _ hb2 hp (by simp only [hv, Act.put, List.setIfInBounds_toArray, List.set_cons_succ, List.set_cons_zero])
          refine StepsOk.cons (fun vals w' hb hd K hK => ?_) ?_
          · go_simp
            exact hK.out _ _ _ (bal (Below.refl _ _) _) (RowP.fresh _ [2] _ 1 _ rfl rfl rfl rfl (by decide)) (by kernel_rfl)
          refine StepsOk.cons (fun vals w' hb hd K hK => ?_) ?_
          · have d2 := hd 2 (by decide)
            simp only [List.getD_cons_zero, List.getD_cons_succ, SP.eq] at d2
            obtain ⟨A, c, hv, h1, h2, h3, _⟩ := d2
            simp only [List.length_cons, List.length_nil, Nat.zero_add, Nat.reduceAdd] at hv h3
            go_simp
            go_at_call 50
            refine (gfour_any _ A 1 c [2] _ (by decide) rfl (by decide) (by decide) h3).mono ?_
            rintro e w2 ⟨v, rfl, hp, hb2⟩
            exact hK.out _ _ _ hb2 hp (by simp only [hv, Act.put, List.setIfInBounds_toArray, List.set_cons_succ, List.set_cons_zero])
          refine StepsOk.cons (fun vals w' hb hd K hK => ?_) ?_
          · go_simp
            go_at_call 51
            refine (gsaid_any _ _ _ (by decide) (by decide)).mono ?_
            rintro e w2 ⟨v, rfl, hp, hb2⟩
            exact hK.out _ _ _ hb2 hp (by kernel_rfl)
          refine StepsOk.cons (fun vals w' hb hd K hK => ?_) ?_
          · go_simp
            exact hK.out _ _ _ (Below.refl _ _) rfl (by kernel_rfl)
          refine StepsOk.cons (fun vals w' hb hd K hK => ?_) ?_
          · have d5 := hd 5 (by decide)
            simp only [List.getD_cons_zero, List.getD_cons_succ, SP.eq] at d5
            have hS1 : w'.cell? ⟨w.heap.size + 2, 0, none⟩ = some (.string g.1.nm) := (hGw.kept hb).cell 0
            go_simp
            exact hK.out _ _ _ (Below.refl _ _) rfl (by simp only [d5, Act.put, List.setIfInBounds_toArray, List.set_cons_succ, List.set_cons_zero])
          refine StepsOk.cons (fun vals w' hb hd K hK => ?_) ?_
          · have d6 := hd 6 (by decide)
            simp only [List.getD_cons_zero, List.getD_cons_succ, SP.eq] at d6
            go_simp
            go_at_call 51
            refine (gsaid_any _ _ _ (by decide) (by omega)).mono ?_
            rintro e w2 ⟨v, rfl, hp, hb2⟩
            exact hK.out _ _ _ hb2 hp (by simp only [d6, Act.put, List.setIfInBounds_toArray, List.set_cons_succ, List.set_cons_zero])
          refine StepsOk.cons (fun vals w' hb hd K hK => ?_) ?_
          · go_simp
            exact hK.out _ _ _ (Below.refl _ _) rfl (by kernel_rfl)
          refine StepsOk.cons (fun vals w' hb hd K hK => ?_) ?_
          · have d8 := hd 8 (by decide)
            simp only [List.getD_cons_zero, List.getD_cons_succ, SP.eq] at d8
            go_simp
            go_at_call 50
            refine (gfour_any _ Al nq cl (g.1.qs.map fun q : Iq => IntKind.u32.wrap q.num) _ (by decide) (by rw [List.length_map]; exact HQ.out) (by omega) HLx.out (HLr.out.kept hb)).mono ?_
            rintro e w2 ⟨v, rfl, hp, hb2⟩
            exact hK.out _ _ _ hb2 hp (by simp only [d8, Act.put, List.setIfInBounds_toArray, List.set_cons_succ, List.set_cons_zero])
          refine StepsOk.cons (fun vals w' hb hd K hK => ?_) ?_
          · go_simp
            exact hK.out _ _ _ (Below.refl _ _) rfl (by kernel_rfl)
          refine StepsOk.cons (fun vals w' hb hd K hK => ?_) ?_
          · have d10 := hd 10 (by decide)
            simp only [List.getD_cons_zero, List.getD_cons_succ, SP.eq] at d10
            have hS1 : w'.cell? ⟨w.heap.size + 2, 78, none⟩ = some (.slice g.2.AS g.1.ss.length g.2.cS) := ((hGw.kept hb).cell 78).trans (by simpa using HGt.out 3)
            go_simp
            exact hK.out _ _ _ (Below.refl _ _) rfl (by simp only [d10, Act.put, List.setIfInBounds_toArray, List.set_cons_succ, List.set_cons_zero])
          refine StepsOk.cons (fun vals w' hb hd K hK => ?_) ?_
          · have d11 := hd 11 (by decide)
            simp only [List.getD_cons_zero, List.getD_cons_succ, SP.eq] at d11
            go_simp
            go_at_call 50
            refine (gfour_any _ g.2.AS g.1.ss.length g.2.cS g.1.ss _ (by decide) rfl (by omega) (fun y hy => HG.out.oS y hy) (HSr.out.kept hb)).mono ?_
            rintro e w2 ⟨v, rfl, hp, hb2⟩
            exact hK.out _ _ _ hb2 hp (by simp only [d11, Act.put, List.setIfInBounds_toArray, List.set_cons_succ, List.set_cons_zero])
          refine StepsOk.cons (fun vals w' hb hd K hK => ?_) ?_
          · have d1 := hd 1 (by decide)
            simp only [List.getD_cons_zero, List.getD_cons_succ, SP.eq] at d1
            have d3 := hd 3 (by decide)
            simp only [List.getD_cons_zero, List.getD_cons_succ, SP.eq] at d3
            have d4 := hd 4 (by decide)
            simp only [List.getD_cons_zero, List.getD_cons_succ, SP.eq] at d4
            have d7 := hd 7 (by decide)
            simp only [List.getD_cons_zero, List.getD_cons_succ, SP.eq] at d7
            have d9 := hd 9 (by decide)
            simp only [List.getD_cons_zero, List.getD_cons_succ, SP.eq] at d9
            have d12 := hd 12 (by decide)
            simp only [List.getD_cons_zero, List.getD_cons_succ, SP.eq] at d12
            obtain ⟨A1, c1, hv1, hp1⟩ := d1.cells
            generalize ((⟨#[35, 97, 100, 100, 114, 101, 115, 115, 45, 99, 101, 108, 108, 115]⟩, [2].flatMap (bytesN 4 false)) : Pr).2.length = m1 at hv1 hp1
            obtain ⟨A3, c3, hv3, hp3⟩ := d3.cells
            generalize ((⟨#[35, 115, 105, 122, 101, 45, 99, 101, 108, 108, 115]⟩, [2].flatMap (bytesN 4 false)) : Pr).2.length = m3 at hv3 hp3
            obtain ⟨A4, c4, hv4, hp4⟩ := d4.cells
            generalize ((⟨#[99, 111, 109, 112, 97, 116, 105, 98, 108, 101]⟩, strB ⟨#[112, 111, 114, 116, 114, 101, 101, 118, 101, 44, 103, 117, 101, 115, 116]⟩ ++ [0]) : Pr).2.length = m4 at hv4 hp4
            obtain ⟨A7, c7, hv7, hp7⟩ := d7.cells
            generalize ((⟨#[109, 111, 100, 101, 108]⟩, strB (g.1.nm) ++ [0]) : Pr).2.length = m7 at hv7 hp7
            obtain ⟨A9, c9, hv9, hp9⟩ := d9.cells
            generalize ((⟨#[105, 110, 116, 101, 114, 114, 117, 112, 116, 115]⟩, (g.1.qs.map fun q : Iq => IntKind.u32.wrap q.num).flatMap (bytesN 4 false)) : Pr).2.length = m9 at hv9 hp9
            obtain ⟨A12, c12, hv12, hp12⟩ := d12.cells
            generalize ((⟨#[115, 116, 114, 101, 97, 109, 115]⟩, g.1.ss.flatMap (bytesN 4 false)) : Pr).2.length = m12 at hv12 hp12
            go_simp
            exact hK.out _ _ _ (bal (Below.refl _ _) _) (PsP.fresh _ [(⟨#[35, 97, 100, 100, 114, 101, 115, 115, 45, 99, 101, 108, 108, 115]⟩, [2].flatMap (bytesN 4 false)), (⟨#[35, 115, 105, 122, 101, 45, 99, 101, 108, 108, 115]⟩, [2].flatMap (bytesN 4 false)), (⟨#[99, 111, 109, 112, 97, 116, 105, 98, 108, 101]⟩, strB ⟨#[112, 111, 114, 116, 114, 101, 101, 118, 101, 44, 103, 117, 101, 115, 116]⟩ ++ [0]), (⟨#[109, 111, 100, 101, 108]⟩, strB (g.1.nm) ++ [0]), (⟨#[105, 110, 116, 101, 114, 114, 117, 112, 116, 115]⟩, (g.1.qs.map fun q : Iq => IntKind.u32.wrap q.num).flatMap (bytesN 4 false)), (⟨#[115, 116, 114, 101, 97, 109, 115]⟩, g.1.ss.flatMap (bytesN 4 false))] [_, _, _, _, _, _] _ _ 6 ⟨hp1, hp3, hp4, hp7, hp9, hp12, trivial⟩ rfl rfl rfl (by decide) (fun b h => by have := hb.size; omega)) (by simp only [hv1, hv3, hv4, hv7, hv9, hv12, Act.put, List.setIfInBounds_toArray, List.set_cons_succ, List.set_cons_zero])
          refine StepsOk.cons (fun vals w' hb hd K hK => ?_) ?_
          · have d13 := hd 13 (by decide)
            simp only [List.getD_cons_zero, List.getD_cons_succ, SP.eq] at d13
            obtain ⟨A, c, f, hv, hp⟩ := id d13
            simp only [List.length_cons, List.length_nil, Nat.zero_add, Nat.reduceAdd] at hv
            rw [hv] at d13
            go_simp
            go_at_call 49
            refine (gnode_any _ _ _ _ (by decide) d13).mono ?_
            rintro e w2 ⟨v, rfl, rfl, hp, hb2⟩
            exact hK.out (.agg #[.string ⟨#[]⟩, .slice A 6 c, .slice none 0 0]) _ _ hb2 ⟨A, c, rfl, d13.kept hb2⟩ (by simp only [hv, Act.put, List.setIfInBounds_toArray, List.set_cons_succ, List.set_cons_zero])
          refine StepsOk.cons (fun vals w' hb hd K hK => ?_) ?_
          · go_simp
            exact hK.out _ _ _ (bal (Below.refl _ _) _) ⟨_, rfl, hb.size, Blk.new _ _ _⟩ (by kernel_rfl)
          exact StepsOk.nil
        · intro vals w4 hb4 hd
          have d14 := hd 14 (by decide)
          have d15 := hd 15 (by decide)
          simp only [List.getD_cons_zero, List.getD_cons_succ] at d14 d15
          obtain ⟨Ap, cp, hv14, hp14⟩ := d14
          obtain ⟨bz, hv15, hgz, hZ⟩ := d15
          have hbw4 := hbw.trans (hb4.mono hbw.size)
          have hC4 := (HC3.out.kept hbr).kept hb4
          have hR4 := (HR3.out.kept hbr).kept hb4
          have hG4 := hGw.kept hb4
          have hbzl := hZ.lt
          have cZ := hZ.cell
          have fZ := hZ.frozen
          obtain ⟨X, hXe⟩ : ∃ X : Nat → Prop, X = fun b => b = w.heap.size + 1 ∨ b = bz := ⟨_, rfl⟩
          have hp4 : PsP X (rootPs g.1) w4 (.slice Ap (rootPs g.1).length cp) := by rw [hXe]; exact hp14.moreB hZ
          have hXz : X bz := by rw [hXe]; exact .inr rfl
          have hXr : X (w.heap.size + 1) := by rw [hXe]; exact .inl rfl
          obtain ⟨base, hbase⟩ : ∃ base, w4.heap.size = base := ⟨_, rfl⟩
          have hXb : ∀ b, X b → b < base := fun b hb => by
            rw [hXe] at hb
            have := hR4.lt
            rcases hb with hb | hb <;> omega
          have hz1 := hZ.set_ 0 (.string ⟨#[]⟩)
          have hz2 := hz1.set_ 1 (.slice Ap (rootPs g.1).length cp)
          have hz3 := hz2.set_ 2 (.slice none 0 0)
          have hp7 := ((hp4.turn (Same.set_in (X := X) hZ (by decide) hXz 0 (.string ⟨#[]⟩))).turn (Same.set_in (X := X) hz1 (by decide) hXz 1 (.slice Ap (rootPs g.1).length cp))).turn (Same.set_in (X := X) hz2 (by decide) hXz 2 (.slice none 0 0))
          have far : ∀ g' T cs, g' ≠ bz → Blk w4 g' T cs → Blk (((w4.setCell ⟨bz, 0, none⟩ (.string ⟨#[]⟩)).setCell ⟨bz, 1, none⟩ (.slice Ap (rootPs g.1).length cp)).setCell ⟨bz, 2, none⟩ (.slice none 0 0)) g' T cs := fun g' T cs hne h => ((h.far (p := ⟨bz, 0, none⟩) hne _).far (p := ⟨bz, 1, none⟩) hne _).far (p := ⟨bz, 2, none⟩) hne _
          have hI0 : GI w (((w4.setCell ⟨bz, 0, none⟩ (.string ⟨#[]⟩)).setCell ⟨bz, 1, none⟩ (.slice Ap (rootPs g.1).length cp)).setCell ⟨bz, 2, none⟩ (.slice none 0 0)) #[.int .u32 x.ver, .slice (some ⟨b, o, none⟩) n c, .slice A2 n2 c2] g X bz base [] (.slice Ap (rootPs g.1).length cp) (.slice none 0 0) :=
            ⟨far _ _ _ (by omega) hC4, far _ _ _ (by omega) hR4, far _ _ _ (by omega) hG4, ⟨hz3, hp7, OwnTs.nil _ _ _, by simp; omega⟩,
              ((hbw4.setCell (p := ⟨bz, 0, none⟩) (by show w.heap.size ≤ bz; omega) _).setCell (p := ⟨bz, 1, none⟩) (by show w.heap.size ≤ bz; omega) _).setCell (p := ⟨bz, 2, none⟩) (by show w.heap.size ≤ bz; omega) _⟩
          have hbz3 : w.heap.size + 2 < bz := by omega
          obtain ⟨w5, hw5⟩ : ∃ w5, ((w4.setCell ⟨bz, 0, none⟩ (.string ⟨#[]⟩)).setCell ⟨bz, 1, none⟩ (.slice Ap (rootPs g.1).length cp)).setCell ⟨bz, 2, none⟩ (.slice none 0 0) = w5 := ⟨_, rfl⟩
          rw [hw5] at hI0
          generalize hvp : (rootPs g.1).length = np at *
          clear hz1 hz2 hz3 hp7 far hp4 hp14 hC4 hR4 hG4 hbw4 hbase hXe
          simp only [List.drop_succ_cons, List.drop_zero, fillA, fillL, List.setIfInBounds_toArray, List.set_cons_succ, List.set_cons_zero, Nat.zero_add, Nat.reduceAdd, hv14, hv15]
          clear hd hv14 hv15
          have HI0 := Lib.hid hI0
          clear hI0
          go_upto_region 11 with (fail)
          have hI := HI0.out
          obtain ⟨vks, hvks⟩ : ∃ vks : Value, vks = .slice none 0 0 := ⟨_, rfl⟩
          rw [← hvks] at hI
          clear hvks
          have hXl := hI.xl hXb
          have hcp := HG.out.cpus
          refine wp_region_spec 6 [63, 64, 65, 66, 67, 68] [.eq (.pointer (some ⟨bz, 2, none⟩)), .eq (vks), .eq (.pointer (some ⟨w.heap.size + 2, 4, none⟩)), .eq (.int .u32 g.1.cpus), TrV (fun b => X b ∨ vks.ownBlock = some b) (cpusG g.1.cpus), TsV (fun b => X b ∨ vks.ownBlock = some b) [(cpusG g.1.cpus)]] (by kernel_rfl) (by kernel_rfl) ?_ ?_
          · unfold StepS
            simp only [List.take_succ_cons, List.take_zero, fillA, fillL, List.setIfInBounds_toArray, List.set_cons_succ, List.set_cons_zero, Nat.zero_add, Nat.reduceAdd]
            refine StepsOk.cons (fun vals w' hb hd K hK => ?_) ?_
            · go_simp
              exact hK.out _ _ _ (Below.refl _ _) rfl (by kernel_rfl)
            refine StepsOk.cons (fun vals w' hb hd K hK => ?_) ?_
            · have d0 := hd 0 (by decide)
              simp only [List.getD_cons_zero, List.getD_cons_succ, SP.eq] at d0
              have hS' := (hI.tb.box.kept hb).cell
              go_simp
              exact hK.out _ _ _ (Below.refl _ _) rfl (by simp only [d0, Act.put, List.setIfInBounds_toArray, List.set_cons_succ, List.set_cons_zero])
            refine StepsOk.cons (fun vals w' hb hd K hK => ?_) ?_
            · go_simp
              exact hK.out _ _ _ (Below.refl _ _) rfl (by kernel_rfl)
            refine StepsOk.cons (fun vals w' hb hd K hK => ?_) ?_
            · have d2 := hd 2 (by decide)
              simp only [List.getD_cons_zero, List.getD_cons_succ, SP.eq] at d2
              have hS1 : w'.cell? ⟨w.heap.size + 2, 4, none⟩ = some (.int .u32 g.1.cpus) := (hI.gst.kept hb).cell 4
              go_simp
              exact hK.out _ _ _ (Below.refl _ _) rfl (by simp only [d2, Act.put, List.setIfInBounds_toArray, List.set_cons_succ, List.set_cons_zero])
            refine StepsOk.cons (fun vals w' hb hd K hK => ?_) ?_
            · have d3 := hd 3 (by decide)
              simp only [List.getD_cons_zero, List.getD_cons_succ, SP.eq] at d3
              go_simp
              go_at_call 52
              refine (procs_any g.1.cpus HG.out.cpus (fun b => X b ∨ vks.ownBlock = some b) _ (hXl _ hb)).mono ?_
              rintro e w2 ⟨v, rfl, hp, hb2⟩
              exact hK.out _ _ _ hb2 hp (by simp only [d3, Act.put, List.setIfInBounds_toArray, List.set_cons_succ, List.set_cons_zero])
            refine StepsOk.cons (fun vals w' hb hd K hK => ?_) ?_
            · have d4 := hd 4 (by decide)
              simp only [List.getD_cons_zero, List.getD_cons_succ, SP.eq] at d4
              obtain ⟨A, c, B, e, hv, k, hp⟩ := d4.cells
              generalize ((cpusG g.1.cpus) : Tr).nm = q0 at hv hp
              generalize ((cpusG g.1.cpus) : Tr).ps.length = q1 at hv hp
              generalize ((cpusG g.1.cpus) : Tr).ks.length = q2 at hv hp
              go_simp
              exact hK.out _ _ _ (bal (Below.refl _ _) _) (TsP.fresh _ [(cpusG g.1.cpus)] [_] _ _ 1 ⟨⟨k, hp⟩, trivial⟩ rfl rfl rfl (by decide) (hXl _ hb)) (by simp only [hv, Act.put, List.setIfInBounds_toArray, List.set_cons_succ, List.set_cons_zero])
            exact StepsOk.nil
          · intro vals w8 hb8 hd
            have dS := hd 5 (by decide)
            have d1 := hd 1 (by decide)
            simp only [List.getD_cons_zero, List.getD_cons_succ, SP.eq] at d1 dS
            obtain ⟨A9, c9, f9, k9, hv9, _⟩ := id dS
            simp only [List.length_cons, List.length_nil, Nat.zero_add, Nat.reduceAdd] at hv9
            obtain ⟨w9, A0, c0, hr, hT9, hI9, hB9⟩ := (hI.kept hb8).add dS hXz hXb hbz3 (by first | omega | (simp; done) | (simp; omega))
            rw [hv9] at hr
            simp only [List.drop_succ_cons, List.drop_zero, fillA, fillL, List.setIfInBounds_toArray, List.set_cons_succ, List.set_cons_zero, Nat.zero_add, Nat.reduceAdd, d1, hv9]
            clear hd
            refine wpList_appr rfl (.tmp 64) (.tmp 68) rfl rfl rfl hr ?_
            have cT9 := hT9.cell
            have fT9 := hT9.frozen
            generalize (([] : List Tr)).length + 1 = nk at *
            have HI9 := Lib.hid hI9
            have HB9 := Lib.hid hB9
            clear hB9 hI9
            clear hr
            go_upto_region 12 with (fail)
            have hI := HI9.out
            have e1 : ([] : List Tr) ++ [cpusG g.1.cpus] = [cpusG g.1.cpus] ++ (g.1.ws.take 0).map winG := rfl
            rw [e1] at hI
            clear cT9 fT9 HI9 HI0
            generalize w9.setCell ⟨bz, 2, none⟩ (.slice A0 nk c0) = w10 at *
            generalize Value.slice A0 nk c0 = vk0 at *
            have hnw := HFw.out.1
            generalize hws : g.1.ws.length = nw at *
            have HWs := Lib.hid hws
            have cG75 : w10.cell? ⟨w.heap.size + 2, 75, none⟩ = some (.slice g.2.AW nw g.2.cW) := (hI.gst.cell 75).trans (by simpa [hws] using HGt.out 0)
            clear hws
            have HI0 := Lib.hid hI
            clear hI
            go_wp2_with fail
            clear cG75
            go_loopw [74] (fun jv wr => ∃ (j : Nat) (vks : Value), j ≤ nw ∧ jv = .int .i64 j ∧ GI w wr #[.int .u32 x.ver, .slice (some ⟨b, o, none⟩) n c, .slice A2 n2 c2] g X bz base ([cpusG g.1.cpus] ++ (g.1.ws.take j).map winG) (.slice Ap np cp) vks) (fun jv _ => nw - (intOf jv).toNat)
            case atStart => exact ⟨0, _, by omega, rfl, HI0.out⟩
            case round =>
              clear HI0
              obtain ⟨j, vks, hj, rfl, hI⟩ := hrel
              by_cases hlt : j < nw
              · obtain ⟨y, hy⟩ : ∃ y, g.1.ws[j]? = some y := ⟨_, List.getElem?_eq_getElem (by rw [HWs.out]; exact hlt)⟩
                obtain ⟨b1, o1, hA1, hc1⟩ := row_cells (enc := encWn) HG.out.rW (fun _ => rfl) hy
                have hoy := HG.out.oW y (List.mem_of_getElem? hy)
                obtain ⟨ia', pa, sz, pm⟩ := y
                obtain ⟨ia, rfl⟩ := Int.eq_ofNat_of_zero_le hoy.1.1
                have hU1 : (0 : Int) ≤ (ia : Int) ∧ (ia : Int) < 18446744073709551616 := hoy.1
                have hU2 : (0 : Int) ≤ sz ∧ sz < 18446744073709551616 := hoy.2.2.1
                have d0 := hc1 0 (by decide) _ hI.bel
                have d1 := hc1 1 (by decide) _ hI.bel
                have d2 := hc1 2 (by decide) _ hI.bel
                have d3 := hc1 3 (by decide) _ hI.bel
                simp only [encWn, List.getElem?_cons_zero, List.getElem?_cons_succ, Nat.add_zero] at d0 d1 d2 d3
                have HY := Lib.hid hy
                have e3 : decide ((j : Int) < (nw : Int)) = true := decide_eq_true (by omega)
                rw [hA1]
                clear hy hc1 hoy
                go_upto_region 15 with (fail)
                have hbx := bal (Below.refl wr.heap.size wr) (.cells #[.int .u64 (ia : Int), .int .u64 pa, .int .u64 sz, .int .i64 pm] 112)
                have hI := hI.kept hbx
                have hWb := Blk.new wr 112 #[.int .u64 (ia : Int), .int .u64 pa, .int .u64 sz, .int .i64 pm]
                generalize wr.alloc (.cells #[.int .u64 (ia : Int), .int .u64 pa, .int .u64 sz, .int .i64 pm] 112) = w5 at *
                obtain ⟨wb, hwb⟩ : ∃ wb, wr.heap.size = wb := ⟨_, rfl⟩
                rw [hwb] at hWb ⊢
                clear hbx hwb
                have hXl := hI.xl hXb
                refine wp_region_spec 20 [78, 79, 80, 81, 82, 83, 84, 85, 86, 87, 88, 89, 90, 91, 92, 93, 94, 95, 96, 97] [.eq (.pointer (some ⟨bz, 2, none⟩)), .eq (vks), .eq (.pointer (some ⟨wb, 0, none⟩)), .eq (.int .u64 ((ia : Int))), .eq (.string (strOfNums (atN [109, 101, 109, 111, 114, 121] ia))), PrV (⟨#[100, 101, 118, 105, 99, 101, 95, 116, 121, 112, 101]⟩, strB ⟨#[109, 101, 109, 111, 114, 121]⟩ ++ [0]), .eq (.pointer (some ⟨wb, 0, none⟩)), .eq (.int .u64 ((ia : Int))), .eq (.pointer (some ⟨wb, 2, none⟩)), .eq (.int .u64 sz), RowV 35 encQ 1 [(ia : Int), sz], PrV (⟨#[114, 101, 103]⟩, [(ia : Int), sz].flatMap (bytesN 8 false)), .eq (.pointer (some ⟨wb, 3, none⟩)), .eq (.int .i64 pm), .eq (.int .u32 (IntKind.u32.wrap (pm))), RowV 44 encU32 1 [IntKind.u32.wrap (pm)], PrV (⟨#[112, 101, 114, 109]⟩, [IntKind.u32.wrap (pm)].flatMap (bytesN 4 false)), PsV (fun b => X b ∨ vks.ownBlock = some b) [(⟨#[100, 101, 118, 105, 99, 101, 95, 116, 121, 112, 101]⟩, strB ⟨#[109, 101, 109, 111, 114, 121]⟩ ++ [0]), (⟨#[114, 101, 103]⟩, [(ia : Int), sz].flatMap (bytesN 8 false)), (⟨#[112, 101, 114, 109]⟩, [IntKind.u32.wrap (pm)].flatMap (bytesN 4 false))], TrV (fun b => X b ∨ vks.ownBlock = some b) (winG ⟨ia, pa, sz, pm⟩), TsV (fun b => X b ∨ vks.ownBlock = some b) [(winG ⟨ia, pa, sz, pm⟩)]] (by kernel_rfl) (by kernel_rfl) ?_ ?_
                · unfold StepS
                  simp only [List.take_succ_cons, List.take_zero, fillA, fillL, List.setIfInBounds_toArray, List.set_cons_succ, List.set_cons_zero, Nat.zero_add, Nat.reduceAdd]
                  refine StepsOk.cons (fun vals w' hb hd K hK => ?_) ?_
                  · go_simp
                    exact hK.out _ _ _ (Below.refl _ _) rfl (by kernel_rfl)
                  refine StepsOk.cons (fun vals w' hb hd K hK => ?_) ?_
                  · have d0 := hd 0 (by decide)
                    simp only [List.getD_cons_zero, List.getD_cons_succ, SP.eq] at d0
                    have hS' := (hI.tb.box.kept hb).cell
                    go_simp
                    exact hK.out _ _ _ (Below.refl _ _) rfl (by simp only [d0, Act.put, List.setIfInBounds_toArray, List.set_cons_succ, List.set_cons_zero])
                  refine StepsOk.cons (fun vals w' hb hd K hK => ?_) ?_
                  · go_simp
                    exact hK.out _ _ _ (Below.refl _ _) rfl (by kernel_rfl)
                  refine StepsOk.cons (fun vals w' hb hd K hK => ?_) ?_
                  · have d2 := hd 2 (by decide)
                    simp only [List.getD_cons_zero, List.getD_cons_succ, SP.eq] at d2
                    have hS' := (hWb.kept hb).cell
                    go_simp
                    exact hK.out _ _ _ (Below.refl _ _) rfl (by simp only [d2, Act.put, List.setIfInBounds_toArray, List.set_cons_succ, List.set_cons_zero])
                  refine StepsOk.cons (fun vals w' hb hd K hK => ?_) ?_
                  · have d3 := hd 3 (by decide)
                    simp only [List.getD_cons_zero, List.getD_cons_succ, SP.eq] at d3
                    have e0 : (⟨#[109, 101, 109, 111, 114, 121]⟩ : ByteArray) = strOfNums [109, 101, 109, 111, 114, 121] := by decide +kernel
                    go_simp
                    go_at_call 53
                    refine (gat_any [109, 101, 109, 111, 114, 121] ia _ (by decide) (by omega)).mono ?_
                    rintro e w2 ⟨rfl, hb2⟩
                    exact hK.out _ _ _ hb2 rfl (by simp only [d3, Act.put, List.setIfInBounds_toArray, List.set_cons_succ, List.set_cons_zero])
                  refine StepsOk.cons (fun vals w' hb hd K hK => ?_) ?_
                  · go_simp
                    go_at_call 51
                    refine (gsaid_any _ _ _ (by decide) (by decide)).mono ?_
                    rintro e w2 ⟨v, rfl, hp, hb2⟩
                    exact hK.out _ _ _ hb2 hp (by kernel_rfl)
                  refine StepsOk.cons (fun vals w' hb hd K hK => ?_) ?_
                  · go_simp
                    exact hK.out _ _ _ (Below.refl _ _) rfl (by kernel_rfl)
                  refine StepsOk.cons (fun vals w' hb hd K hK => ?_) ?_
                  · have d6 := hd 6 (by decide)
                    simp only [List.getD_cons_zero, List.getD_cons_succ, SP.eq] at d6
                    have hS' := (hWb.kept hb).cell
                    go_simp
                    exact hK.out _ _ _ (Below.refl _ _) rfl (by simp only [d6, Act.put, List.setIfInBounds_toArray, List.set_cons_succ, List.set_cons_zero])
                  refine StepsOk.cons (fun vals w' hb hd K hK => ?_) ?_
                  · go_simp
                    exact hK.out _ _ _ (Below.refl _ _) rfl (by kernel_rfl)
                  refine StepsOk.cons (fun vals w' hb hd K hK => ?_) ?_
                  · have d8 := hd 8 (by decide)
                    simp only [List.getD_cons_zero, List.getD_cons_succ, SP.eq] at d8
                    have hS' := (hWb.kept hb).cell
                    go_simp
                    exact hK.out _ _ _ (Below.refl _ _) rfl (by simp only [d8, Act.put, List.setIfInBounds_toArray, List.set_cons_succ, List.set_cons_zero])
                  refine StepsOk.cons (fun vals w' hb hd K hK => ?_) ?_
                  · have d7 := hd 7 (by decide)
                    simp only [List.getD_cons_zero, List.getD_cons_succ, SP.eq] at d7
                    have d9 := hd 9 (by decide)
                    simp only [List.getD_cons_zero, List.getD_cons_succ, SP.eq] at d9
                    go_simp
                    exact hK.out _ _ _ (bal (Below.refl _ _) _) (RowP.fresh _ [(ia : Int), sz] _ 2 _ rfl rfl rfl rfl (by decide)) (by simp only [d7, d9, Act.put, List.setIfInBounds_toArray, List.set_cons_succ, List.set_cons_zero])
                  refine StepsOk.cons (fun vals w' hb hd K hK => ?_) ?_
                  · have d10 := hd 10 (by decide)
                    simp only [List.getD_cons_zero, List.getD_cons_succ, SP.eq] at d10
                    obtain ⟨A, c, hv, h1, h2, h3, _⟩ := d10
                    simp only [List.length_cons, List.length_nil, Nat.zero_add, Nat.reduceAdd] at hv h3
                    go_simp
                    go_at_call 54
                    refine (geight_any _ A 2 c [(ia : Int), sz] _ (by decide) rfl (by decide) (by intro y hy; simp at hy; rcases hy with rfl | rfl; exact hU1; exact hU2) h3).mono ?_
                    rintro e w2 ⟨v, rfl, hp, hb2⟩
                    exact hK.out _ _ _ hb2 hp (by simp only [hv, Act.put, List.setIfInBounds_toArray, List.set_cons_succ, List.set_cons_zero])
                  refine StepsOk.cons (fun vals w' hb hd K hK => ?_) ?_
                  · go_simp
                    exact hK.out _ _ _ (Below.refl _ _) rfl (by kernel_rfl)
                  refine StepsOk.cons (fun vals w' hb hd K hK => ?_) ?_
                  · have d12 := hd 12 (by decide)
                    simp only [List.getD_cons_zero, List.getD_cons_succ, SP.eq] at d12
                    have hS' := (hWb.kept hb).cell
                    go_simp
                    exact hK.out _ _ _ (Below.refl _ _) rfl (by simp only [d12, Act.put, List.setIfInBounds_toArray, List.set_cons_succ, List.set_cons_zero])
                  refine StepsOk.cons (fun vals w' hb hd K hK => ?_) ?_
                  · have d13 := hd 13 (by decide)
                    simp only [List.getD_cons_zero, List.getD_cons_succ, SP.eq] at d13
                    go_simp
                    exact hK.out _ _ _ (Below.refl _ _) rfl (by simp only [d13, Act.put, List.setIfInBounds_toArray, List.set_cons_succ, List.set_cons_zero])
                  refine StepsOk.cons (fun vals w' hb hd K hK => ?_) ?_
                  · have d14 := hd 14 (by decide)
                    simp only [List.getD_cons_zero, List.getD_cons_succ, SP.eq] at d14
                    go_simp
                    exact hK.out _ _ _ (bal (Below.refl _ _) _) (RowP.fresh _ [IntKind.u32.wrap (pm)] _ 1 _ rfl rfl rfl rfl (by decide)) (by simp only [d14, Act.put, List.setIfInBounds_toArray, List.set_cons_succ, List.set_cons_zero])
                  refine StepsOk.cons (fun vals w' hb hd K hK => ?_) ?_
                  · have d15 := hd 15 (by decide)
                    simp only [List.getD_cons_zero, List.getD_cons_succ, SP.eq] at d15
                    obtain ⟨A, c, hv, h1, h2, h3, _⟩ := d15
                    simp only [List.length_cons, List.length_nil, Nat.zero_add, Nat.reduceAdd] at hv h3
                    go_simp
                    go_at_call 50
                    refine (gfour_any _ A 1 c [IntKind.u32.wrap (pm)] _ (by decide) rfl (by decide) (by intro y hy; simp at hy; subst hy; exact wrap32_in _) h3).mono ?_
                    rintro e w2 ⟨v, rfl, hp, hb2⟩
                    exact hK.out _ _ _ hb2 hp (by simp only [hv, Act.put, List.setIfInBounds_toArray, List.set_cons_succ, List.set_cons_zero])
                  refine StepsOk.cons (fun vals w' hb hd K hK => ?_) ?_
                  · have d5 := hd 5 (by decide)
                    simp only [List.getD_cons_zero, List.getD_cons_succ, SP.eq] at d5
                    have d11 := hd 11 (by decide)
                    simp only [List.getD_cons_zero, List.getD_cons_succ, SP.eq] at d11
                    have d16 := hd 16 (by decide)
                    simp only [List.getD_cons_zero, List.getD_cons_succ, SP.eq] at d16
                    obtain ⟨A5, c5, hv5, hp5⟩ := d5.cells
                    generalize ((⟨#[100, 101, 118, 105, 99, 101, 95, 116, 121, 112, 101]⟩, strB ⟨#[109, 101, 109, 111, 114, 121]⟩ ++ [0]) : Pr).2.length = m5 at hv5 hp5
                    obtain ⟨A11, c11, hv11, hp11⟩ := d11.cells
                    generalize ((⟨#[114, 101, 103]⟩, [(ia : Int), sz].flatMap (bytesN 8 false)) : Pr).2.length = m11 at hv11 hp11
                    obtain ⟨A16, c16, hv16, hp16⟩ := d16.cells
                    generalize ((⟨#[112, 101, 114, 109]⟩, [IntKind.u32.wrap (pm)].flatMap (bytesN 4 false)) : Pr).2.length = m16 at hv16 hp16
                    go_simp
                    exact hK.out _ _ _ (bal (Below.refl _ _) _) (PsP.fresh _ [(⟨#[100, 101, 118, 105, 99, 101, 95, 116, 121, 112, 101]⟩, strB ⟨#[109, 101, 109, 111, 114, 121]⟩ ++ [0]), (⟨#[114, 101, 103]⟩, [(ia : Int), sz].flatMap (bytesN 8 false)), (⟨#[112, 101, 114, 109]⟩, [IntKind.u32.wrap (pm)].flatMap (bytesN 4 false))] [_, _, _] _ _ 3 ⟨hp5, hp11, hp16, trivial⟩ rfl rfl rfl (by decide) (hXl _ hb)) (by simp only [hv5, hv11, hv16, Act.put, List.setIfInBounds_toArray, List.set_cons_succ, List.set_cons_zero])
                  refine StepsOk.cons (fun vals w' hb hd K hK => ?_) ?_
                  · have d4 := hd 4 (by decide)
                    simp only [List.getD_cons_zero, List.getD_cons_succ, SP.eq] at d4
                    have d17 := hd 17 (by decide)
                    simp only [List.getD_cons_zero, List.getD_cons_succ, SP.eq] at d17
                    obtain ⟨A, c, f, hv, hp⟩ := id d17
                    simp only [List.length_cons, List.length_nil, Nat.zero_add, Nat.reduceAdd] at hv
                    rw [hv] at d17
                    go_simp
                    go_at_call 49
                    refine (gnode_any _ _ _ _ (by rw [strOfNums_size]; have := atN_len [109, 101, 109, 111, 114, 121] ia; unfold maxLen; simp at this; omega) d17).mono ?_
                    rintro e w2 ⟨v, rfl, _, hp, hb2⟩
                    exact hK.out _ _ _ hb2 hp (by simp only [d4, hv, Act.put, List.setIfInBounds_toArray, List.set_cons_succ, List.set_cons_zero])
                  refine StepsOk.cons (fun vals w' hb hd K hK => ?_) ?_
                  · have d18 := hd 18 (by decide)
                    simp only [List.getD_cons_zero, List.getD_cons_succ, SP.eq] at d18
                    obtain ⟨A, c, B, e, hv, k, hp⟩ := d18.cells
                    generalize ((winG ⟨ia, pa, sz, pm⟩) : Tr).nm = q0 at hv hp
                    generalize ((winG ⟨ia, pa, sz, pm⟩) : Tr).ps.length = q1 at hv hp
                    generalize ((winG ⟨ia, pa, sz, pm⟩) : Tr).ks.length = q2 at hv hp
                    go_simp
                    exact hK.out _ _ _ (bal (Below.refl _ _) _) (TsP.fresh _ [(winG ⟨ia, pa, sz, pm⟩)] [_] _ _ 1 ⟨⟨k, hp⟩, trivial⟩ rfl rfl rfl (by decide) (hXl _ hb)) (by simp only [hv, Act.put, List.setIfInBounds_toArray, List.set_cons_succ, List.set_cons_zero])
                  exact StepsOk.nil
                · intro vals w8 hb8 hd
                  have dS := hd 19 (by decide)
                  have d1 := hd 1 (by decide)
                  simp only [List.getD_cons_zero, List.getD_cons_succ, SP.eq] at d1 dS
                  obtain ⟨A9, c9, f9, k9, hv9, _⟩ := id dS
                  simp only [List.length_cons, List.length_nil, Nat.zero_add, Nat.reduceAdd] at hv9
                  obtain ⟨w9, A0, c0, hr, hT9, hI9, hB9⟩ := (hI.kept hb8).add dS hXz hXb hbz3 (by first | omega | (simp; done) | (simp; omega))
                  rw [hv9] at hr
                  simp only [List.drop_succ_cons, List.drop_zero, fillA, fillL, List.setIfInBounds_toArray, List.set_cons_succ, List.set_cons_zero, Nat.zero_add, Nat.reduceAdd, d1, hv9]
                  clear hd
                  refine wpList_appr rfl (.tmp 79) (.tmp 97) rfl rfl rfl hr ?_
                  have cT9 := hT9.cell
                  have fT9 := hT9.frozen
                  generalize (([cpusG g.1.cpus] ++ (g.1.ws.take j).map winG)).length + 1 = nk at *
                  have HI9 := Lib.hid hI9
                  have HB9 := Lib.hid hB9
                  clear hB9 hI9
                  go_wp2_with fail
                  go_roundw
                  case rel =>
                    refine ⟨j + 1, .slice A0 nk c0, by omega, by go_num, ?_⟩
                    have e1 : (g.1.ws.take (j + 1)).map winG = (g.1.ws.take j).map winG ++ [winG ⟨ia, pa, sz, pm⟩] := by rw [List.take_add_one, HY.out, List.map_append]; rfl
                    rw [e1, ← List.append_assoc]
                    exact HI9.out
                  case measure => simp [intOf]; omega
              · obtain rfl : nw = j := by omega
                have hI : GI w wr #[.int .u32 x.ver, .slice (some ⟨b, o, none⟩) n c, .slice A2 n2 c2] g X bz base ([cpusG g.1.cpus] ++ g.1.ws.map winG ++ (g.1.ds.take 0).map devG) (.slice Ap np cp) vks := by
                  rw [List.take_of_length_le (by rw [HWs.out]; omega)] at hI
                  simpa using hI
                have e3 : decide ((nw : Int) < (nw : Int)) = false := decide_eq_false (by omega)
                have hnd := HFw.out.2.1
                generalize hds : g.1.ds.length = nd at *
                have HDs := Lib.hid hds
                have cG76 : wr.cell? ⟨w.heap.size + 2, 76, none⟩ = some (.slice g.2.AD nd g.2.cD) := (hI.gst.cell 76).trans (by simpa [hds] using HGt.out 1)
                clear hds
                have HI0 := Lib.hid hI
                clear hI
                go_wp2_with fail
                clear cG76 e3
                go_loopw [104] (fun jv wr => ∃ (j : Nat) (vks : Value), j ≤ nd ∧ jv = .int .i64 j ∧ GI w wr #[.int .u32 x.ver, .slice (some ⟨b, o, none⟩) n c, .slice A2 n2 c2] g X bz base ([cpusG g.1.cpus] ++ g.1.ws.map winG ++ (g.1.ds.take j).map devG) (.slice Ap np cp) vks) (fun jv _ => nd - (intOf jv).toNat)
                case atStart => exact ⟨0, _, by omega, rfl, HI0.out⟩
                case round =>
                  clear HI0 hj hlt
                  obtain ⟨j, vks, hj, rfl, hI⟩ := hrel
                  have hwl : g.1.ws.length ≤ 20 := by rw [HWs.out]; exact hnw
                  by_cases hlt : j < nd
                  · obtain ⟨y, hy⟩ : ∃ y, g.1.ds[j]? = some y := ⟨_, List.getElem?_eq_getElem (by rw [HDs.out]; exact hlt)⟩
                    obtain ⟨b1, o1, hA1, hc1⟩ := row_cells (enc := encDv) HG.out.rD (fun _ => rfl) hy
                    have hoy := HG.out.oD y (List.mem_of_getElem? hy)
                    obtain ⟨ia', pa, sz⟩ := y
                    obtain ⟨ia, rfl⟩ := Int.eq_ofNat_of_zero_le hoy.1.1
                    have hU1 : (0 : Int) ≤ (ia : Int) ∧ (ia : Int) < 18446744073709551616 := hoy.1
                    have hU2 : (0 : Int) ≤ sz ∧ sz < 18446744073709551616 := hoy.2.2
                    have d0 := hc1 0 (by decide) _ hI.bel
                    have d1 := hc1 1 (by decide) _ hI.bel
                    have d2 := hc1 2 (by decide) _ hI.bel
                    simp only [encDv, List.getElem?_cons_zero, List.getElem?_cons_succ, Nat.add_zero] at d0 d1 d2
                    have HY := Lib.hid hy
                    have e3 : decide ((j : Int) < (nd : Int)) = true := decide_eq_true (by omega)
                    rw [hA1]
                    clear hy hc1 hoy
                    go_upto_region 20 with (fail)
                    have hbx := bal (Below.refl wr.heap.size wr) (.cells #[.int .u64 (ia : Int), .int .u64 pa, .int .u64 sz] 116)
                    have hI := hI.kept hbx
                    have hWb := Blk.new wr 116 #[.int .u64 (ia : Int), .int .u64 pa, .int .u64 sz]
                    generalize wr.alloc (.cells #[.int .u64 (ia : Int), .int .u64 pa, .int .u64 sz] 116) = w5 at *
                    obtain ⟨wb, hwb⟩ : ∃ wb, wr.heap.size = wb := ⟨_, rfl⟩
                    rw [hwb] at hWb ⊢
                    clear hbx hwb
                    have hXl := hI.xl hXb
                    refine wp_region_spec 14 [108, 109, 110, 111, 112, 113, 114, 115, 116, 117, 118, 119, 120, 121] [.eq (.pointer (some ⟨bz, 2, none⟩)), .eq (vks), .eq (.pointer (some ⟨wb, 0, none⟩)), .eq (.int .u64 ((ia : Int))), .eq (.string (strOfNums (atN [100, 101, 118, 105, 99, 101] ia))), .eq (.pointer (some ⟨wb, 0, none⟩)), .eq (.int .u64 ((ia : Int))), .eq (.pointer (some ⟨wb, 2, none⟩)), .eq (.int .u64 sz), RowV 35 encQ 1 [(ia : Int), sz], PrV (⟨#[114, 101, 103]⟩, [(ia : Int), sz].flatMap (bytesN 8 false)), PsV (fun b => X b ∨ vks.ownBlock = some b) [(⟨#[114, 101, 103]⟩, [(ia : Int), sz].flatMap (bytesN 8 false))], TrV (fun b => X b ∨ vks.ownBlock = some b) (devG ⟨ia, pa, sz⟩), TsV (fun b => X b ∨ vks.ownBlock = some b) [(devG ⟨ia, pa, sz⟩)]] (by kernel_rfl) (by kernel_rfl) ?_ ?_
                    · unfold StepS
                      simp only [List.take_succ_cons, List.take_zero, fillA, fillL, List.setIfInBounds_toArray, List.set_cons_succ, List.set_cons_zero, Nat.zero_add, Nat.reduceAdd]
                      refine StepsOk.cons (fun vals w' hb hd K hK => ?_) ?_
                      · go_simp
                        exact hK.out _ _ _ (Below.refl _ _) rfl (by kernel_rfl)
                      refine StepsOk.cons (fun vals w' hb hd K hK => ?_) ?_
                      · have d0 := hd 0 (by decide)
                        simp only [List.getD_cons_zero, List.getD_cons_succ, SP.eq] at d0
                        have hS' := (hI.tb.box.kept hb).cell
                        go_simp
                        exact hK.out _ _ _ (Below.refl _ _) rfl (by simp only [d0, Act.put, List.setIfInBounds_toArray, List.set_cons_succ, List.set_cons_zero])
                      refine StepsOk.cons (fun vals w' hb hd K hK => ?_) ?_
                      · go_simp
                        exact hK.out _ _ _ (Below.refl _ _) rfl (by kernel_rfl)
                      refine StepsOk.cons (fun vals w' hb hd K hK => ?_) ?_
                      · have d2 := hd 2 (by decide)
                        simp only [List.getD_cons_zero, List.getD_cons_succ, SP.eq] at d2
                        have hS' := (hWb.kept hb).cell
                        go_simp
                        exact hK.out _ _ _ (Below.refl _ _) rfl (by simp only [d2, Act.put, List.setIfInBounds_toArray, List.set_cons_succ, List.set_cons_zero])
                      refine StepsOk.cons (fun vals w' hb hd K hK => ?_) ?_
                      · have d3 := hd 3 (by decide)
                        simp only [List.getD_cons_zero, List.getD_cons_succ, SP.eq] at d3
                        have e0 : (⟨#[100, 101, 118, 105, 99, 101]⟩ : ByteArray) = strOfNums [100, 101, 118, 105, 99, 101] := by decide +kernel
                        go_simp
                        go_at_call 53
                        refine (gat_any [100, 101, 118, 105, 99, 101] ia _ (by decide) (by omega)).mono ?_
                        rintro e w2 ⟨rfl, hb2⟩
                        exact hK.out _ _ _ hb2 rfl (by simp only [d3, Act.put, List.setIfInBounds_toArray, List.set_cons_succ, List.set_cons_zero])
                      refine StepsOk.cons (fun vals w' hb hd K hK => ?_) ?_
                      · go_simp
                        exact hK.out _ _ _ (Below.refl _ _) rfl (by kernel_rfl)
                      refine StepsOk.cons (fun vals w' hb hd K hK => ?_) ?_
                      · have d5 := hd 5 (by decide)
                        simp only [List.getD_cons_zero, List.getD_cons_succ, SP.eq] at d5
                        have hS' := (hWb.kept hb).cell
                        go_simp
                        exact hK.out _ _ _ (Below.refl _ _) rfl (by simp only [d5, Act.put, List.setIfInBounds_toArray, List.set_cons_succ, List.set_cons_zero])
                      refine StepsOk.cons (fun vals w' hb hd K hK => ?_) ?_
                      · go_simp
                        exact hK.out _ _ _ (Below.refl _ _) rfl (by kernel_rfl)
                      refine StepsOk.cons (fun vals w' hb hd K hK => ?_) ?_
                      · have d7 := hd 7 (by decide)
                        simp only [List.getD_cons_zero, List.getD_cons_succ, SP.eq] at d7
                        have hS' := (hWb.kept hb).cell
                        go_simp
                        exact hK.out _ _ _ (Below.refl _ _) rfl (by simp only [d7, Act.put, List.setIfInBounds_toArray, List.set_cons_succ, List.set_cons_zero])
                      refine StepsOk.cons (fun vals w' hb hd K hK => ?_) ?_
                      · have d6 := hd 6 (by decide)
                        simp only [List.getD_cons_zero, List.getD_cons_succ, SP.eq] at d6
                        have d8 := hd 8 (by decide)
                        simp only [List.getD_cons_zero, List.getD_cons_succ, SP.eq] at d8
                        go_simp
                        exact hK.out _ _ _ (bal (Below.refl _ _) _) (RowP.fresh _ [(ia : Int), sz] _ 2 _ rfl rfl rfl rfl (by decide)) (by simp only [d6, d8, Act.put, List.setIfInBounds_toArray, List.set_cons_succ, List.set_cons_zero])
                      refine StepsOk.cons (fun vals w' hb hd K hK => ?_) ?_
                      · have d9 := hd 9 (by decide)
                        simp only [List.getD_cons_zero, List.getD_cons_succ, SP.eq] at d9
                        obtain ⟨A, c, hv, h1, h2, h3, _⟩ := d9
                        simp only [List.length_cons, List.length_nil, Nat.zero_add, Nat.reduceAdd] at hv h3
                        go_simp
                        go_at_call 54
                        refine (geight_any _ A 2 c [(ia : Int), sz] _ (by decide) rfl (by decide) (by intro y hy; simp at hy; rcases hy with rfl | rfl; exact hU1; exact hU2) h3).mono ?_
                        rintro e w2 ⟨v, rfl, hp, hb2⟩
                        exact hK.out _ _ _ hb2 hp (by simp only [hv, Act.put, List.setIfInBounds_toArray, List.set_cons_succ, List.set_cons_zero])
                      refine StepsOk.cons (fun vals w' hb hd K hK => ?_) ?_
                      · have d10 := hd 10 (by decide)
                        simp only [List.getD_cons_zero, List.getD_cons_succ, SP.eq] at d10
                        obtain ⟨A10, c10, hv10, hp10⟩ := d10.cells
                        generalize ((⟨#[114, 101, 103]⟩, [(ia : Int), sz].flatMap (bytesN 8 false)) : Pr).2.length = m10 at hv10 hp10
                        go_simp
                        exact hK.out _ _ _ (bal (Below.refl _ _) _) (PsP.fresh _ [(⟨#[114, 101, 103]⟩, [(ia : Int), sz].flatMap (bytesN 8 false))] [_] _ _ 1 ⟨hp10, trivial⟩ rfl rfl rfl (by decide) (hXl _ hb)) (by simp only [hv10, Act.put, List.setIfInBounds_toArray, List.set_cons_succ, List.set_cons_zero])
                      refine StepsOk.cons (fun vals w' hb hd K hK => ?_) ?_
                      · have d4 := hd 4 (by decide)
                        simp only [List.getD_cons_zero, List.getD_cons_succ, SP.eq] at d4
                        have d11 := hd 11 (by decide)
                        simp only [List.getD_cons_zero, List.getD_cons_succ, SP.eq] at d11
                        obtain ⟨A, c, f, hv, hp⟩ := id d11
                        simp only [List.length_cons, List.length_nil, Nat.zero_add, Nat.reduceAdd] at hv
                        rw [hv] at d11
                        go_simp
                        go_at_call 49
                        refine (gnode_any _ _ _ _ (by rw [strOfNums_size]; have := atN_len [100, 101, 118, 105, 99, 101] ia; unfold maxLen; simp at this; omega) d11).mono ?_
                        rintro e w2 ⟨v, rfl, _, hp, hb2⟩
                        exact hK.out _ _ _ hb2 hp (by simp only [d4, hv, Act.put, List.setIfInBounds_toArray, List.set_cons_succ, List.set_cons_zero])
                      refine StepsOk.cons (fun vals w' hb hd K hK => ?_) ?_
                      · have d12 := hd 12 (by decide)
                        simp only [List.getD_cons_zero, List.getD_cons_succ, SP.eq] at d12
                        obtain ⟨A, c, B, e, hv, k, hp⟩ := d12.cells
                        generalize ((devG ⟨ia, pa, sz⟩) : Tr).nm = q0 at hv hp
                        generalize ((devG ⟨ia, pa, sz⟩) : Tr).ps.length = q1 at hv hp
                        generalize ((devG ⟨ia, pa, sz⟩) : Tr).ks.length = q2 at hv hp
                        go_simp
                        exact hK.out _ _ _ (bal (Below.refl _ _) _) (TsP.fresh _ [(devG ⟨ia, pa, sz⟩)] [_] _ _ 1 ⟨⟨k, hp⟩, trivial⟩ rfl rfl rfl (by decide) (hXl _ hb)) (by simp only [hv, Act.put, List.setIfInBounds_toArray, List.set_cons_succ, List.set_cons_zero])
                      exact StepsOk.nil
                    · intro vals w8 hb8 hd
                      have dS := hd 13 (by decide)
                      have d1 := hd 1 (by decide)
                      simp only [List.getD_cons_zero, List.getD_cons_succ, SP.eq] at d1 dS
                      obtain ⟨A9, c9, f9, k9, hv9, _⟩ := id dS
                      simp only [List.length_cons, List.length_nil, Nat.zero_add, Nat.reduceAdd] at hv9
                      obtain ⟨w9, A0, c0, hr, hT9, hI9, hB9⟩ := (hI.kept hb8).add dS hXz hXb hbz3 (by first | omega | (simp; done) | (simp; omega))
                      rw [hv9] at hr
                      simp only [List.drop_succ_cons, List.drop_zero, fillA, fillL, List.setIfInBounds_toArray, List.set_cons_succ, List.set_cons_zero, Nat.zero_add, Nat.reduceAdd, d1, hv9]
                      clear hd
                      refine wpList_appr rfl (.tmp 109) (.tmp 121) rfl rfl rfl hr ?_
                      have cT9 := hT9.cell
                      have fT9 := hT9.frozen
                      generalize (([cpusG g.1.cpus] ++ g.1.ws.map winG ++ (g.1.ds.take j).map devG)).length + 1 = nk at *
                      have HI9 := Lib.hid hI9
                      have HB9 := Lib.hid hB9
                      clear hB9 hI9
                      go_wp2_with fail
                      go_roundw
                      case rel =>
                        refine ⟨j + 1, .slice A0 nk c0, by omega, by go_num, ?_⟩
                        have e1 : (g.1.ds.take (j + 1)).map devG = (g.1.ds.take j).map devG ++ [devG ⟨ia, pa, sz⟩] := by rw [List.take_add_one, HY.out, List.map_append]; rfl
                        rw [e1, ← List.append_assoc]
                        exact HI9.out
                      case measure => simp [intOf]; omega
                  · obtain rfl : nd = j := by omega
                    have hI : GI w wr #[.int .u32 x.ver, .slice (some ⟨b, o, none⟩) n c, .slice A2 n2 c2] g X bz base ([cpusG g.1.cpus] ++ g.1.ws.map winG ++ g.1.ds.map devG ++ (x.cs.take 0).flatMap (chansG x.gs k)) (.slice Ap np cp) vks := by
                      rw [List.take_of_length_le (by rw [HDs.out]; omega)] at hI
                      simpa using hI
                    have e3 : decide ((nd : Int) < (nd : Int)) = false := decide_eq_false (by omega)
                    have cC := hI.cfg.cell
                    have HI0 := Lib.hid hI
                    clear hI
                    go_wp2_with fail
                    clear cC e3
                    go_loopw [128] (fun jv wr => ∃ (j : Nat) (vks : Value), j ≤ n2 ∧ jv = .int .i64 j ∧ GI w wr #[.int .u32 x.ver, .slice (some ⟨b, o, none⟩) n c, .slice A2 n2 c2] g X bz base ([cpusG g.1.cpus] ++ g.1.ws.map winG ++ g.1.ds.map devG ++ (x.cs.take j).flatMap (chansG x.gs k)) (.slice Ap np cp) vks) (fun jv _ => n2 - (intOf jv).toNat)
                    case atStart => exact ⟨0, _, by omega, rfl, HI0.out⟩
                    case round =>
                      clear HI0 hj hlt
                      obtain ⟨j, vks, hj, rfl, hI⟩ := hrel
                      by_cases hlt : j < n2
                      · obtain ⟨y, hy⟩ : ∃ y, x.cs[j]? = some y := ⟨_, List.getElem?_eq_getElem (by rw [HN2.out]; exact hlt)⟩
                        obtain ⟨b1, o1, hA1, hc1⟩ := row_cells (enc := encCh) HR.out.rc (fun _ => rfl) hy
                        subst hA1
                        have hoy := HR.out.oc y (List.mem_of_getElem? hy)
                        obtain ⟨pa, sz, ⟨gu0, p0, ia0'⟩, ⟨gu1, p1, ia1'⟩⟩ := y
                        obtain ⟨ia0, rfl⟩ := Int.eq_ofNat_of_zero_le hoy.2.2.1.2.2.1
                        obtain ⟨ia1, rfl⟩ := Int.eq_ofNat_of_zero_le hoy.2.2.2.2.2.1
                        have hU0 : (0 : Int) ≤ (ia0 : Int) ∧ (ia0 : Int) < 18446744073709551616 := hoy.2.2.1.2.2
                        have hU3 : (0 : Int) ≤ (ia1 : Int) ∧ (ia1 : Int) < 18446744073709551616 := hoy.2.2.2.2.2
                        have hU2 : (0 : Int) ≤ sz ∧ sz < 18446744073709551616 := hoy.2.1
                        have d0 := hc1 0 (by decide) _ hI.bel
                        have d1 := hc1 1 (by decide) _ hI.bel
                        have d2 := hc1 2 (by decide) _ hI.bel
                        have d3 := hc1 3 (by decide) _ hI.bel
                        have d4 := hc1 4 (by decide) _ hI.bel
                        have d5 := hc1 5 (by decide) _ hI.bel
                        have d6 := hc1 6 (by decide) _ hI.bel
                        have d7 := hc1 7 (by decide) _ hI.bel
                        simp only [encCh, List.getElem?_cons_zero, List.getElem?_cons_succ, Nat.add_zero] at d0 d1 d2 d3 d4 d5 d6 d7
                        have HY := Lib.hid hy
                        have e3 : decide ((j : Int) < (n2 : Int)) = true := decide_eq_true (by omega)
                        clear hy hc1 hoy
                        obtain ⟨pre, hpre⟩ : ∃ pre, [cpusG g.1.cpus] ++ g.1.ws.map winG ++ g.1.ds.map devG ++ (x.cs.take j).flatMap (chansG x.gs k) = pre := ⟨_, rfl⟩
                        have hprl : pre.length ≤ 200 := by
                          have h1 := chans_len x.gs k (x.cs.take j)
                          have h2 : g.1.ws.length ≤ 20 := by rw [HWs.out]; exact hnw
                          have h3 : g.1.ds.length ≤ 20 := by rw [HDs.out]; exact hnd
                          rw [← hpre]
                          simp only [List.length_append, List.length_map, List.length_cons, List.length_nil]
                          rw [List.length_take] at h1
                          omega
                        rw [hpre] at hI
                        have HPre := Lib.hid hpre
                        clear hpre
                        go_upto_region 25 with (fail)
                        have hbx := bal (Below.refl wr.heap.size wr) (.cells #[.int .u64 pa, .int .u64 sz, .int .i64 gu0, .int .i64 p0, .int .u64 (ia0 : Int), .int .i64 gu1, .int .i64 p1, .int .u64 (ia1 : Int)] 121)
                        have hI := hI.kept hbx
                        have hUb := Blk.new wr 121 #[.int .u64 pa, .int .u64 sz, .int .i64 gu0, .int .i64 p0, .int .u64 (ia0 : Int), .int .i64 gu1, .int .i64 p1, .int .u64 (ia1 : Int)]
                        generalize wr.alloc (.cells #[.int .u64 pa, .int .u64 sz, .int .i64 gu0, .int .i64 p0, .int .u64 (ia0 : Int), .int .i64 gu1, .int .i64 p1, .int .u64 (ia1 : Int)] 121) = w5 at *
                        obtain ⟨ub, hub⟩ : ∃ ub, wr.heap.size = ub := ⟨_, rfl⟩
                        rw [hub] at hUb ⊢
                        clear hbx hub
                        have cU := hUb.cell
                        have HI0 := Lib.hid hI
                        have HU0 := Lib.hid hUb
                        clear hI hUb d0 d1 d2 d3 d4 d5 d6 d7
                        go_wp2_with fail
                        clear cU
                        go_loopw [134] (fun iv wr => ∃ (i : Nat) (vks : Value), i ≤ 2 ∧ iv = .int .i64 i ∧ GI w wr #[.int .u32 x.ver, .slice (some ⟨b, o, none⟩) n c, .slice (some ⟨b1, o1, none⟩) n2 c2] g X bz base (pre ++ endsG x.gs k ⟨pa, sz, ⟨gu0, p0, ia0⟩, ⟨gu1, p1, ia1⟩⟩ i) (.slice Ap np cp) vks ∧ Blk wr ub 121 #[.int .u64 pa, .int .u64 sz, .int .i64 gu0, .int .i64 p0, .int .u64 (ia0 : Int), .int .i64 gu1, .int .i64 p1, .int .u64 (ia1 : Int)]) (fun iv _ => 2 - (intOf iv).toNat)
                        case atStart => exact ⟨0, _, by omega, rfl, by rw [endsG_0, List.append_nil]; exact HI0.out, HU0.out⟩
                        case round =>
                          clear HI0 HU0
                          obtain ⟨i, vks, hi, rfl, hI, hUb⟩ := hrel
                          rcases (by omega : i = 0 ∨ i = 1 ∨ i = 2) with rfl | rfl | rfl
                          · rw [endsG_0, List.append_nil] at hI
                            rw [show ((0 : Nat) : Int) = 0 from rfl]
                            have hU1 := hU0
                            have hix : ∀ W : World, (Instr.index 119 (.agg #[.int .i64 gu0, .int .i64 p0, .int .u64 (ia0 : Int), .int .i64 gu1, .int .i64 p1, .int .u64 (ia1 : Int)]) (.int .i64 0)).run Try.prog W = .ok (.agg #[.int .i64 gu0, .int .i64 p0, .int .u64 (ia0 : Int)]) W := fun W => by kernel_rfl
                            by_cases he : gu0 = (k : Int)
                            · have e4 : (gu0 == (k : Int)) = true := by simp [he]
                              have HE := Lib.hid he
                              clear he
                              go_upto_region 29 with (fail)
                              clear e4 hix
                              have hbU := bal (Below.refl wr.heap.size wr) (.cells #[.int .i64 gu0, .int .i64 p0, .int .u64 (ia0 : Int)] 118)
                              have hUb := hUb.kept hbU
                              clear hbU
                              have hbx := bal (Below.refl wr.heap.size wr) (.cells #[.int .i64 gu0, .int .i64 p0, .int .u64 (ia0 : Int)] 118)
                              have hI := hI.kept hbx
                              have hWb := Blk.new wr 118 #[.int .i64 gu0, .int .i64 p0, .int .u64 (ia0 : Int)]
                              generalize wr.alloc (.cells #[.int .i64 gu0, .int .i64 p0, .int .u64 (ia0 : Int)] 118) = w5 at *
                              obtain ⟨wb, hwb⟩ : ∃ wb, wr.heap.size = wb := ⟨_, rfl⟩
                              rw [hwb] at hWb ⊢
                              clear hbx hwb
                              have hXl := hI.xl hXb
                              have HPe0 := fun W (hW : RowKit.Below w5.heap.size w5 W) => peer0_any x (some ⟨b, o, none⟩) (some ⟨b1, o1, none⟩) c c2 ⟨pa, sz, ⟨gu0, p0, ia0⟩, ⟨gu1, p1, ia1⟩⟩ W ((HR.out.below (hI.bel.trans (hW.mono hI.bel.size))).more (hI.bel.trans (hW.mono hI.bel.size)).size)
                              simp only [HN.out, HN2.out, encCh] at HPe0
                              have HPe0 := Lib.hid HPe0
                              refine wp_region_spec 25 [142, 143, 144, 145, 146, 147, 148, 149, 150, 151, 152, 153, 154, 155, 156, 157, 158, 159, 160, 161, 162, 163, 164, 165, 166] [.eq (.pointer (some ⟨bz, 2, none⟩)), .eq (vks), .eq (.pointer (some ⟨wb, 2, none⟩)), .eq (.int .u64 ((ia0 : Int))), .eq (.string (strOfNums (atN [99, 104, 97, 110, 110, 101, 108] ia0))), PrV (⟨#[99, 111, 109, 112, 97, 116, 105, 98, 108, 101]⟩, strB ⟨#[112, 111, 114, 116, 114, 101, 101, 118, 101, 44, 99, 104, 97, 110, 110, 101, 108]⟩ ++ [0]), .eq (.pointer (some ⟨wb, 2, none⟩)), .eq (.int .u64 ((ia0 : Int))), .eq (.pointer (some ⟨ub, 1, none⟩)), .eq (.int .u64 sz), RowV 35 encQ 1 [(ia0 : Int), sz], PrV (⟨#[114, 101, 103]⟩, [(ia0 : Int), sz].flatMap (bytesN 8 false)), .eq ((.agg #[.int .u32 x.ver, .slice (some ⟨b, o, none⟩) n c, .slice (some ⟨b1, o1, none⟩) n2 c2])), .eq ((.agg #[.int .u64 pa, .int .u64 sz, .int .i64 gu0, .int .i64 p0, .int .u64 (ia0 : Int), .int .i64 gu1, .int .i64 p1, .int .u64 (ia1 : Int)])), .eq (.int .i64 0), .eq (.string ((peerG x.gs gu1))), PrV (⟨#[112, 101, 101, 114]⟩, strB ((peerG x.gs gu1)) ++ [0]), .eq (.pointer (some ⟨wb, 1, none⟩)), .eq (.int .i64 p0), .eq (.int .u32 (IntKind.u32.wrap (p0))), RowV 44 encU32 1 [IntKind.u32.wrap (p0)], PrV (⟨#[112, 101, 114, 109]⟩, [IntKind.u32.wrap (p0)].flatMap (bytesN 4 false)), PsV (fun b => X b ∨ vks.ownBlock = some b) [(⟨#[99, 111, 109, 112, 97, 116, 105, 98, 108, 101]⟩, strB ⟨#[112, 111, 114, 116, 114, 101, 101, 118, 101, 44, 99, 104, 97, 110, 110, 101, 108]⟩ ++ [0]), (⟨#[114, 101, 103]⟩, [(ia0 : Int), sz].flatMap (bytesN 8 false)), (⟨#[112, 101, 101, 114]⟩, strB ((peerG x.gs gu1)) ++ [0]), (⟨#[112, 101, 114, 109]⟩, [IntKind.u32.wrap (p0)].flatMap (bytesN 4 false))], TrV (fun b => X b ∨ vks.ownBlock = some b) (chanG sz (peerG x.gs gu1) ⟨gu0, p0, (ia0 : Int)⟩), TsV (fun b => X b ∨ vks.ownBlock = some b) [(chanG sz (peerG x.gs gu1) ⟨gu0, p0, (ia0 : Int)⟩)]] (by kernel_rfl) (by kernel_rfl) ?_ ?_
                              · unfold StepS
                                simp only [List.take_succ_cons, List.take_zero, fillA, fillL, List.setIfInBounds_toArray, List.set_cons_succ, List.set_cons_zero, Nat.zero_add, Nat.reduceAdd]
                                refine StepsOk.cons (fun vals w' hb hd K hK => ?_) ?_
                                · go_simp
                                  exact hK.out _ _ _ (Below.refl _ _) rfl (by kernel_rfl)
                                refine StepsOk.cons (fun vals w' hb hd K hK => ?_) ?_
                                · have d0 := hd 0 (by decide)
                                  simp only [List.getD_cons_zero, List.getD_cons_succ, SP.eq] at d0
                                  have hS' := (hI.tb.box.kept hb).cell
                                  go_simp
                                  exact hK.out _ _ _ (Below.refl _ _) rfl (by simp only [d0, Act.put, List.setIfInBounds_toArray, List.set_cons_succ, List.set_cons_zero])
                                refine StepsOk.cons (fun vals w' hb hd K hK => ?_) ?_
                                · go_simp
                                  exact hK.out _ _ _ (Below.refl _ _) rfl (by kernel_rfl)
                                refine StepsOk.cons (fun vals w' hb hd K hK => ?_) ?_
                                · have d2 := hd 2 (by decide)
                                  simp only [List.getD_cons_zero, List.getD_cons_succ, SP.eq] at d2
                                  have hS' := (hWb.kept hb).cell
                                  go_simp
                                  exact hK.out _ _ _ (Below.refl _ _) rfl (by simp only [d2, Act.put, List.setIfInBounds_toArray, List.set_cons_succ, List.set_cons_zero])
                                refine StepsOk.cons (fun vals w' hb hd K hK => ?_) ?_
                                · have d3 := hd 3 (by decide)
                                  simp only [List.getD_cons_zero, List.getD_cons_succ, SP.eq] at d3
                                  have e0 : (⟨#[99, 104, 97, 110, 110, 101, 108]⟩ : ByteArray) = strOfNums [99, 104, 97, 110, 110, 101, 108] := by decide +kernel
                                  go_simp
                                  go_at_call 53
                                  refine (gat_any [99, 104, 97, 110, 110, 101, 108] ia0 _ (by decide) (by omega)).mono ?_
                                  rintro e w2 ⟨rfl, hb2⟩
                                  exact hK.out _ _ _ hb2 rfl (by simp only [d3, Act.put, List.setIfInBounds_toArray, List.set_cons_succ, List.set_cons_zero])
                                refine StepsOk.cons (fun vals w' hb hd K hK => ?_) ?_
                                · go_simp
                                  go_at_call 51
                                  refine (gsaid_any _ _ _ (by decide) (by decide)).mono ?_
                                  rintro e w2 ⟨v, rfl, hp, hb2⟩
                                  exact hK.out _ _ _ hb2 hp (by kernel_rfl)
                                refine StepsOk.cons (fun vals w' hb hd K hK => ?_) ?_
                                · go_simp
                                  exact hK.out _ _ _ (Below.refl _ _) rfl (by kernel_rfl)
                                refine StepsOk.cons (fun vals w' hb hd K hK => ?_) ?_
                                · have d6 := hd 6 (by decide)
                                  simp only [List.getD_cons_zero, List.getD_cons_succ, SP.eq] at d6
                                  have hS' := (hWb.kept hb).cell
                                  go_simp
                                  exact hK.out _ _ _ (Below.refl _ _) rfl (by simp only [d6, Act.put, List.setIfInBounds_toArray, List.set_cons_succ, List.set_cons_zero])
                                refine StepsOk.cons (fun vals w' hb hd K hK => ?_) ?_
                                · go_simp
                                  exact hK.out _ _ _ (Below.refl _ _) rfl (by kernel_rfl)
                                refine StepsOk.cons (fun vals w' hb hd K hK => ?_) ?_
                                · have d8 := hd 8 (by decide)
                                  simp only [List.getD_cons_zero, List.getD_cons_succ, SP.eq] at d8
                                  have hS' := (hUb.kept hb).cell
                                  go_simp
                                  exact hK.out _ _ _ (Below.refl _ _) rfl (by simp only [d8, Act.put, List.setIfInBounds_toArray, List.set_cons_succ, List.set_cons_zero])
                                refine StepsOk.cons (fun vals w' hb hd K hK => ?_) ?_
                                · have d7 := hd 7 (by decide)
                                  simp only [List.getD_cons_zero, List.getD_cons_succ, SP.eq] at d7
                                  have d9 := hd 9 (by decide)
                                  simp only [List.getD_cons_zero, List.getD_cons_succ, SP.eq] at d9
                                  go_simp
                                  exact hK.out _ _ _ (bal (Below.refl _ _) _) (RowP.fresh _ [(ia0 : Int), sz] _ 2 _ rfl rfl rfl rfl (by decide)) (by simp only [d7, d9, Act.put, List.setIfInBounds_toArray, List.set_cons_succ, List.set_cons_zero])
                                refine StepsOk.cons (fun vals w' hb hd K hK => ?_) ?_
                                · have d10 := hd 10 (by decide)
                                  simp only [List.getD_cons_zero, List.getD_cons_succ, SP.eq] at d10
                                  obtain ⟨A, c, hv, h1, h2, h3, _⟩ := d10
                                  simp only [List.length_cons, List.length_nil, Nat.zero_add, Nat.reduceAdd] at hv h3
                                  go_simp
                                  go_at_call 54
                                  refine (geight_any _ A 2 c [(ia0 : Int), sz] _ (by decide) rfl (by decide) (by intro y hy; simp at hy; rcases hy with rfl | rfl; exact hU1; exact hU2) h3).mono ?_
                                  rintro e w2 ⟨v, rfl, hp, hb2⟩
                                  exact hK.out _ _ _ hb2 hp (by simp only [hv, Act.put, List.setIfInBounds_toArray, List.set_cons_succ, List.set_cons_zero])
                                refine StepsOk.cons (fun vals w' hb hd K hK => ?_) ?_
                                · have hS' := (hI.cfg.kept hb).cell
                                  go_simp
                                  exact hK.out _ _ _ (Below.refl _ _) rfl (by kernel_rfl)
                                refine StepsOk.cons (fun vals w' hb hd K hK => ?_) ?_
                                · have hS' := (hUb.kept hb).cell
                                  go_simp
                                  exact hK.out _ _ _ (Below.refl _ _) rfl (by kernel_rfl)
                                refine StepsOk.cons (fun vals w' hb hd K hK => ?_) ?_
                                · go_simp
                                  exact hK.out _ _ _ (Below.refl _ _) rfl (by kernel_rfl)
                                refine StepsOk.cons (fun vals w' hb hd K hK => ?_) ?_
                                · have d12 := hd 12 (by decide)
                                  simp only [List.getD_cons_zero, List.getD_cons_succ, SP.eq] at d12
                                  have d13 := hd 13 (by decide)
                                  simp only [List.getD_cons_zero, List.getD_cons_succ, SP.eq] at d13
                                  have d14 := hd 14 (by decide)
                                  simp only [List.getD_cons_zero, List.getD_cons_succ, SP.eq] at d14
                                  go_simp
                                  go_at_call 55
                                  refine (HPe0.out _ hb).mono ?_
                                  rintro e w2 ⟨rfl, hb2⟩
                                  exact hK.out _ _ _ hb2 rfl (by simp only [d12, d13, d14, Act.put, List.setIfInBounds_toArray, List.set_cons_succ, List.set_cons_zero])
                                refine StepsOk.cons (fun vals w' hb hd K hK => ?_) ?_
                                · have d15 := hd 15 (by decide)
                                  simp only [List.getD_cons_zero, List.getD_cons_succ, SP.eq] at d15
                                  go_simp
                                  go_at_call 51
                                  refine (gsaid_any _ _ _ (by decide) (Nat.le_trans (HPl.out _) (by decide))).mono ?_
                                  rintro e w2 ⟨v, rfl, hp, hb2⟩
                                  exact hK.out _ _ _ hb2 hp (by simp only [d15, Act.put, List.setIfInBounds_toArray, List.set_cons_succ, List.set_cons_zero])
                                refine StepsOk.cons (fun vals w' hb hd K hK => ?_) ?_
                                · go_simp
                                  exact hK.out _ _ _ (Below.refl _ _) rfl (by kernel_rfl)
                                refine StepsOk.cons (fun vals w' hb hd K hK => ?_) ?_
                                · have d17 := hd 17 (by decide)
                                  simp only [List.getD_cons_zero, List.getD_cons_succ, SP.eq] at d17
                                  have hS' := (hWb.kept hb).cell
                                  go_simp
                                  exact hK.out _ _ _ (Below.refl _ _) rfl (by simp only [d17, Act.put, List.setIfInBounds_toArray, List.set_cons_succ, List.set_cons_zero])
                                refine StepsOk.cons (fun vals w' hb hd K hK => ?_) ?_
                                · have d18 := hd 18 (by decide)
                                  simp only [List.getD_cons_zero, List.getD_cons_succ, SP.eq] at d18
                                  go_simp
                                  exact hK.out _ _ _ (Below.refl _ _) rfl (by simp only [d18, Act.put, List.setIfInBounds_toArray, List.set_cons_succ, List.set_cons_zero])
                                refine StepsOk.cons (fun vals w' hb hd K hK => ?_) ?_
                                · have d19 := hd 19 (by decide)
                                  simp only [List.getD_cons_zero, List.getD_cons_succ, SP.eq] at d19
                                  go_simp
                                  exact hK.out _ _ _ (bal (Below.refl _ _) _) (RowP.fresh _ [IntKind.u32.wrap (p0)] _ 1 _ rfl rfl rfl rfl (by decide)) (by simp only [d19, Act.put, List.setIfInBounds_toArray, List.set_cons_succ, List.set_cons_zero])
                                refine StepsOk.cons (fun vals w' hb hd K hK => ?_) ?_
                                · have d20 := hd 20 (by decide)
                                  simp only [List.getD_cons_zero, List.getD_cons_succ, SP.eq] at d20
                                  obtain ⟨A, c, hv, h1, h2, h3, _⟩ := d20
                                  simp only [List.length_cons, List.length_nil, Nat.zero_add, Nat.reduceAdd] at hv h3
                                  go_simp
                                  go_at_call 50
                                  refine (gfour_any _ A 1 c [IntKind.u32.wrap (p0)] _ (by decide) rfl (by decide) (by intro y hy; simp at hy; subst hy; exact wrap32_in _) h3).mono ?_
                                  rintro e w2 ⟨v, rfl, hp, hb2⟩
                                  exact hK.out _ _ _ hb2 hp (by simp only [hv, Act.put, List.setIfInBounds_toArray, List.set_cons_succ, List.set_cons_zero])
                                refine StepsOk.cons (fun vals w' hb hd K hK => ?_) ?_
                                · have d5 := hd 5 (by decide)
                                  simp only [List.getD_cons_zero, List.getD_cons_succ, SP.eq] at d5
                                  have d11 := hd 11 (by decide)
                                  simp only [List.getD_cons_zero, List.getD_cons_succ, SP.eq] at d11
                                  have d16 := hd 16 (by decide)
                                  simp only [List.getD_cons_zero, List.getD_cons_succ, SP.eq] at d16
                                  have d21 := hd 21 (by decide)
                                  simp only [List.getD_cons_zero, List.getD_cons_succ, SP.eq] at d21
                                  obtain ⟨A5, c5, hv5, hp5⟩ := d5.cells
                                  generalize ((⟨#[99, 111, 109, 112, 97, 116, 105, 98, 108, 101]⟩, strB ⟨#[112, 111, 114, 116, 114, 101, 101, 118, 101, 44, 99, 104, 97, 110, 110, 101, 108]⟩ ++ [0]) : Pr).2.length = m5 at hv5 hp5
                                  obtain ⟨A11, c11, hv11, hp11⟩ := d11.cells
                                  generalize ((⟨#[114, 101, 103]⟩, [(ia0 : Int), sz].flatMap (bytesN 8 false)) : Pr).2.length = m11 at hv11 hp11
                                  obtain ⟨A16, c16, hv16, hp16⟩ := d16.cells
                                  generalize ((⟨#[112, 101, 101, 114]⟩, strB ((peerG x.gs gu1)) ++ [0]) : Pr).2.length = m16 at hv16 hp16
                                  obtain ⟨A21, c21, hv21, hp21⟩ := d21.cells
                                  generalize ((⟨#[112, 101, 114, 109]⟩, [IntKind.u32.wrap (p0)].flatMap (bytesN 4 false)) : Pr).2.length = m21 at hv21 hp21
                                  go_simp
                                  exact hK.out _ _ _ (bal (Below.refl _ _) _) (PsP.fresh _ [(⟨#[99, 111, 109, 112, 97, 116, 105, 98, 108, 101]⟩, strB ⟨#[112, 111, 114, 116, 114, 101, 101, 118, 101, 44, 99, 104, 97, 110, 110, 101, 108]⟩ ++ [0]), (⟨#[114, 101, 103]⟩, [(ia0 : Int), sz].flatMap (bytesN 8 false)), (⟨#[112, 101, 101, 114]⟩, strB ((peerG x.gs gu1)) ++ [0]), (⟨#[112, 101, 114, 109]⟩, [IntKind.u32.wrap (p0)].flatMap (bytesN 4 false))] [_, _, _, _] _ _ 4 ⟨hp5, hp11, hp16, hp21, trivial⟩ rfl rfl rfl (by decide) (hXl _ hb)) (by simp only [hv5, hv11, hv16, hv21, Act.put, List.setIfInBounds_toArray, List.set_cons_succ, List.set_cons_zero])
                                refine StepsOk.cons (fun vals w' hb hd K hK => ?_) ?_
                                · have d4 := hd 4 (by decide)
                                  simp only [List.getD_cons_zero, List.getD_cons_succ, SP.eq] at d4
                                  have d22 := hd 22 (by decide)
                                  simp only [List.getD_cons_zero, List.getD_cons_succ, SP.eq] at d22
                                  obtain ⟨A, c, f, hv, hp⟩ := id d22
                                  simp only [List.length_cons, List.length_nil, Nat.zero_add, Nat.reduceAdd] at hv
                                  rw [hv] at d22
                                  go_simp
                                  go_at_call 49
                                  refine (gnode_any _ _ _ _ (by rw [strOfNums_size]; have := atN_len [99, 104, 97, 110, 110, 101, 108] ia0; unfold maxLen; simp at this; omega) d22).mono ?_
                                  rintro e w2 ⟨v, rfl, _, hp, hb2⟩
                                  exact hK.out _ _ _ hb2 hp (by simp only [d4, hv, Act.put, List.setIfInBounds_toArray, List.set_cons_succ, List.set_cons_zero])
                                refine StepsOk.cons (fun vals w' hb hd K hK => ?_) ?_
                                · have d23 := hd 23 (by decide)
                                  simp only [List.getD_cons_zero, List.getD_cons_succ, SP.eq] at d23
                                  obtain ⟨A, c, B, e, hv, k, hp⟩ := d23.cells
                                  generalize ((chanG sz (peerG x.gs gu1) ⟨gu0, p0, (ia0 : Int)⟩) : Tr).nm = q0 at hv hp
                                  generalize ((chanG sz (peerG x.gs gu1) ⟨gu0, p0, (ia0 : Int)⟩) : Tr).ps.length = q1 at hv hp
                                  generalize ((chanG sz (peerG x.gs gu1) ⟨gu0, p0, (ia0 : Int)⟩) : Tr).ks.length = q2 at hv hp
                                  go_simp
                                  exact hK.out _ _ _ (bal (Below.refl _ _) _) (TsP.fresh _ [(chanG sz (peerG x.gs gu1) ⟨gu0, p0, (ia0 : Int)⟩)] [_] _ _ 1 ⟨⟨k, hp⟩, trivial⟩ rfl rfl rfl (by decide) (hXl _ hb)) (by simp only [hv, Act.put, List.setIfInBounds_toArray, List.set_cons_succ, List.set_cons_zero])
                                exact StepsOk.nil
                              · intro vals w8 hb8 hd
                                have dS := hd 24 (by decide)
                                have d1 := hd 1 (by decide)
                                simp only [List.getD_cons_zero, List.getD_cons_succ, SP.eq] at d1 dS
                                obtain ⟨A9, c9, f9, k9, hv9, _⟩ := id dS
                                simp only [List.length_cons, List.length_nil, Nat.zero_add, Nat.reduceAdd] at hv9
                                obtain ⟨w9, A0, c0, hr, hT9, hI9, hB9⟩ := (hI.kept hb8).add dS hXz hXb hbz3 (by first | omega | (simp; done) | (simp; omega))
                                rw [hv9] at hr
                                simp only [List.drop_succ_cons, List.drop_zero, fillA, fillL, List.setIfInBounds_toArray, List.set_cons_succ, List.set_cons_zero, Nat.zero_add, Nat.reduceAdd, d1, hv9]
                                clear hd
                                refine wpList_appr rfl (.tmp 143) (.tmp 166) rfl rfl rfl hr ?_
                                have cT9 := hT9.cell
                                have fT9 := hT9.frozen
                                generalize (pre).length + 1 = nk at *
                                have HI9 := Lib.hid hI9
                                have HB9 := Lib.hid hB9
                                clear hB9 hI9
                                have hUb9 := HB9.out _ _ _ (by decide) (hUb.kept hb8)
                                have HUb9 := Lib.hid hUb9
                                clear hUb9 HB9
                                go_wp2_with fail
                                go_roundw
                                case rel =>
                                  refine ⟨1, .slice A0 nk c0, by decide, by first | rfl | go_num, ?_, HUb9.out⟩
                                  have e1 : pre ++ endsG x.gs k ⟨pa, sz, ⟨gu0, p0, ia0⟩, ⟨gu1, p1, ia1⟩⟩ 1 = pre ++ [chanG sz (peerG x.gs gu1) ⟨gu0, p0, ia0⟩] := by
                                    simp only [endsG, chansG, end0G, end1G]
                                    rw [if_pos HE.out]
                                  rw [e1]
                                  exact HI9.out
                                case measure => simp [intOf]
                            · have e4 : (gu0 == (k : Int)) = false := by simp [he]
                              have HE := Lib.hid he
                              have HI := Lib.hid hI
                              have hbU := bal (Below.refl wr.heap.size wr) (.cells #[.int .i64 gu0, .int .i64 p0, .int .u64 (ia0 : Int)] 118)
                              have HU := Lib.hid (hUb.kept hbU)
                              have HIk := Lib.hid (hI.kept hbU)
                              clear he hI hbU hUb
                              go_wp2_with fail
                              go_roundw
                              case rel =>
                                refine ⟨1, vks, by decide, by first | rfl | go_num, ?_, HU.out⟩
                                have e1 : pre ++ endsG x.gs k ⟨pa, sz, ⟨gu0, p0, ia0⟩, ⟨gu1, p1, ia1⟩⟩ 1 = pre := by
                                  simp only [endsG, chansG, end0G, end1G]
                                  rw [if_neg HE.out, List.append_nil]
                                rw [e1]
                                exact HIk.out
                              case measure => simp [intOf]
                          · obtain ⟨pr1, hpr1⟩ : ∃ pr1, pre ++ endsG x.gs k ⟨pa, sz, ⟨gu0, p0, ia0⟩, ⟨gu1, p1, ia1⟩⟩ 1 = pr1 := ⟨_, rfl⟩
                            rw [hpr1] at hI
                            have hpl1 : pr1.length ≤ 300 := by
                              have := endsG_1 x.gs k ⟨pa, sz, ⟨gu0, p0, ia0⟩, ⟨gu1, p1, ia1⟩⟩
                              rw [← hpr1, List.length_append]
                              omega
                            have HPr1 := Lib.hid hpr1
                            clear hpr1
                            rw [show ((1 : Nat) : Int) = 1 from rfl]
                            have hU1 := hU3
                            have hix : ∀ W : World, (Instr.index 119 (.agg #[.int .i64 gu0, .int .i64 p0, .int .u64 (ia0 : Int), .int .i64 gu1, .int .i64 p1, .int .u64 (ia1 : Int)]) (.int .i64 1)).run Try.prog W = .ok (.agg #[.int .i64 gu1, .int .i64 p1, .int .u64 (ia1 : Int)]) W := fun W => by kernel_rfl
                            by_cases he : gu1 = (k : Int)
                            · have e4 : (gu1 == (k : Int)) = true := by simp [he]
                              have HE := Lib.hid he
                              clear he
                              go_upto_region 29 with (fail)
                              clear e4 hix
                              have hbU := bal (Below.refl wr.heap.size wr) (.cells #[.int .i64 gu1, .int .i64 p1, .int .u64 (ia1 : Int)] 118)
                              have hUb := hUb.kept hbU
                              clear hbU
                              have hbx := bal (Below.refl wr.heap.size wr) (.cells #[.int .i64 gu1, .int .i64 p1, .int .u64 (ia1 : Int)] 118)
                              have hI := hI.kept hbx
                              have hWb := Blk.new wr 118 #[.int .i64 gu1, .int .i64 p1, .int .u64 (ia1 : Int)]
                              generalize wr.alloc (.cells #[.int .i64 gu1, .int .i64 p1, .int .u64 (ia1 : Int)] 118) = w5 at *
                              obtain ⟨wb, hwb⟩ : ∃ wb, wr.heap.size = wb := ⟨_, rfl⟩
                              rw [hwb] at hWb ⊢
                              clear hbx hwb
                              have hXl := hI.xl hXb
                              have HPe1 := fun W (hW : RowKit.Below w5.heap.size w5 W) => peer1_any x (some ⟨b, o, none⟩) (some ⟨b1, o1, none⟩) c c2 ⟨pa, sz, ⟨gu0, p0, ia0⟩, ⟨gu1, p1, ia1⟩⟩ W ((HR.out.below (hI.bel.trans (hW.mono hI.bel.size))).more (hI.bel.trans (hW.mono hI.bel.size)).size)
                              simp only [HN.out, HN2.out, encCh] at HPe1
                              have HPe1 := Lib.hid HPe1
                              refine wp_region_spec 25 [142, 143, 144, 145, 146, 147, 148, 149, 150, 151, 152, 153, 154, 155, 156, 157, 158, 159, 160, 161, 162, 163, 164, 165, 166] [.eq (.pointer (some ⟨bz, 2, none⟩)), .eq (vks), .eq (.pointer (some ⟨wb, 2, none⟩)), .eq (.int .u64 ((ia1 : Int))), .eq (.string (strOfNums (atN [99, 104, 97, 110, 110, 101, 108] ia1))), PrV (⟨#[99, 111, 109, 112, 97, 116, 105, 98, 108, 101]⟩, strB ⟨#[112, 111, 114, 116, 114, 101, 101, 118, 101, 44, 99, 104, 97, 110, 110, 101, 108]⟩ ++ [0]), .eq (.pointer (some ⟨wb, 2, none⟩)), .eq (.int .u64 ((ia1 : Int))), .eq (.pointer (some ⟨ub, 1, none⟩)), .eq (.int .u64 sz), RowV 35 encQ 1 [(ia1 : Int), sz], PrV (⟨#[114, 101, 103]⟩, [(ia1 : Int), sz].flatMap (bytesN 8 false)), .eq ((.agg #[.int .u32 x.ver, .slice (some ⟨b, o, none⟩) n c, .slice (some ⟨b1, o1, none⟩) n2 c2])), .eq ((.agg #[.int .u64 pa, .int .u64 sz, .int .i64 gu0, .int .i64 p0, .int .u64 (ia0 : Int), .int .i64 gu1, .int .i64 p1, .int .u64 (ia1 : Int)])), .eq (.int .i64 1), .eq (.string ((peerG x.gs gu0))), PrV (⟨#[112, 101, 101, 114]⟩, strB ((peerG x.gs gu0)) ++ [0]), .eq (.pointer (some ⟨wb, 1, none⟩)), .eq (.int .i64 p1), .eq (.int .u32 (IntKind.u32.wrap (p1))), RowV 44 encU32 1 [IntKind.u32.wrap (p1)], PrV (⟨#[112, 101, 114, 109]⟩, [IntKind.u32.wrap (p1)].flatMap (bytesN 4 false)), PsV (fun b => X b ∨ vks.ownBlock = some b) [(⟨#[99, 111, 109, 112, 97, 116, 105, 98, 108, 101]⟩, strB ⟨#[112, 111, 114, 116, 114, 101, 101, 118, 101, 44, 99, 104, 97, 110, 110, 101, 108]⟩ ++ [0]), (⟨#[114, 101, 103]⟩, [(ia1 : Int), sz].flatMap (bytesN 8 false)), (⟨#[112, 101, 101, 114]⟩, strB ((peerG x.gs gu0)) ++ [0]), (⟨#[112, 101, 114, 109]⟩, [IntKind.u32.wrap (p1)].flatMap (bytesN 4 false))], TrV (fun b => X b ∨ vks.ownBlock = some b) (chanG sz (peerG x.gs gu0) ⟨gu1, p1, (ia1 : Int)⟩), TsV (fun b => X b ∨ vks.ownBlock = some b) [(chanG sz (peerG x.gs gu0) ⟨gu1, p1, (ia1 : Int)⟩)]] (by kernel_rfl) (by kernel_rfl) ?_ ?_
                              · unfold StepS
                                simp only [List.take_succ_cons, List.take_zero, fillA, fillL, List.setIfInBounds_toArray, List.set_cons_succ, List.set_cons_zero, Nat.zero_add, Nat.reduceAdd]
                                refine StepsOk.cons (fun vals w' hb hd K hK => ?_) ?_
                                · go_simp
                                  exact hK.out _ _ _ (Below.refl _ _) rfl (by kernel_rfl)
                                refine StepsOk.cons (fun vals w' hb hd K hK => ?_) ?_
                                · have d0 := hd 0 (by decide)
                                  simp only [List.getD_cons_zero, List.getD_cons_succ, SP.eq] at d0
                                  have hS' := (hI.tb.box.kept hb).cell
                                  go_simp
                                  exact hK.out _ _ _ (Below.refl _ _) rfl (by simp only [d0, Act.put, List.setIfInBounds_toArray, List.set_cons_succ, List.set_cons_zero])
                                refine StepsOk.cons (fun vals w' hb hd K hK => ?_) ?_
                                · go_simp
                                  exact hK.out _ _ _ (Below.refl _ _) rfl (by kernel_rfl)
                                refine StepsOk.cons (fun vals w' hb hd K hK => ?_) ?_
                                · have d2 := hd 2 (by decide)
                                  simp only [List.getD_cons_zero, List.getD_cons_succ, SP.eq] at d2
                                  have hS' := (hWb.kept hb).cell
                                  go_simp
                                  exact hK.out _ _ _ (Below.refl _ _) rfl (by simp only [d2, Act.put, List.setIfInBounds_toArray, List.set_cons_succ, List.set_cons_zero])
                                refine StepsOk.cons (fun vals w' hb hd K hK => ?_) ?_
                                · have d3 := hd 3 (by decide)
                                  simp only [List.getD_cons_zero, List.getD_cons_succ, SP.eq] at d3
                                  have e0 : (⟨#[99, 104, 97, 110, 110, 101, 108]⟩ : ByteArray) = strOfNums [99, 104, 97, 110, 110, 101, 108] := by decide +kernel
                                  go_simp
                                  go_at_call 53
                                  refine (gat_any [99, 104, 97, 110, 110, 101, 108] ia1 _ (by decide) (by omega)).mono ?_
                                  rintro e w2 ⟨rfl, hb2⟩
                                  exact hK.out _ _ _ hb2 rfl (by simp only [d3, Act.put, List.setIfInBounds_toArray, List.set_cons_succ, List.set_cons_zero])
                                refine StepsOk.cons (fun vals w' hb hd K hK => ?_) ?_
                                · go_simp
                                  go_at_call 51
                                  refine (gsaid_any _ _ _ (by decide) (by decide)).mono ?_
                                  rintro e w2 ⟨v, rfl, hp, hb2⟩
                                  exact hK.out _ _ _ hb2 hp (by kernel_rfl)
                                refine StepsOk.cons (fun vals w' hb hd K hK => ?_) ?_
                                · go_simp
                                  exact hK.out _ _ _ (Below.refl _ _) rfl (by kernel_rfl)
                                refine StepsOk.cons (fun vals w' hb hd K hK => ?_) ?_
                                · have d6 := hd 6 (by decide)
                                  simp only [List.getD_cons_zero, List.getD_cons_succ, SP.eq] at d6
                                  have hS' := (hWb.kept hb).cell
                                  go_simp
                                  exact hK.out _ _ _ (Below.refl _ _) rfl (by simp only [d6, Act.put, List.setIfInBounds_toArray, List.set_cons_succ, List.set_cons_zero])
                                refine StepsOk.cons (fun vals w' hb hd K hK => ?_) ?_
                                · go_simp
                                  exact hK.out _ _ _ (Below.refl _ _) rfl (by kernel_rfl)
                                refine StepsOk.cons (fun vals w' hb hd K hK => ?_) ?_
                                · have d8 := hd 8 (by decide)
                                  simp only [List.getD_cons_zero, List.getD_cons_succ, SP.eq] at d8
                                  have hS' := (hUb.kept hb).cell
                                  go_simp
                                  exact hK.out _ _ _ (Below.refl _ _) rfl (by simp only [d8, Act.put, List.setIfInBounds_toArray, List.set_cons_succ, List.set_cons_zero])
                                refine StepsOk.cons (fun vals w' hb hd K hK => ?_) ?_
                                · have d7 := hd 7 (by decide)
                                  simp only [List.getD_cons_zero, List.getD_cons_succ, SP.eq] at d7
                                  have d9 := hd 9 (by decide)
                                  simp only [List.getD_cons_zero, List.getD_cons_succ, SP.eq] at d9
                                  go_simp
                                  exact hK.out _ _ _ (bal (Below.refl _ _) _) (RowP.fresh _ [(ia1 : Int), sz] _ 2 _ rfl rfl rfl rfl (by decide)) (by simp only [d7, d9, Act.put, List.setIfInBounds_toArray, List.set_cons_succ, List.set_cons_zero])
                                refine StepsOk.cons (fun vals w' hb hd K hK => ?_) ?_
                                · have d10 := hd 10 (by decide)
                                  simp only [List.getD_cons_zero, List.getD_cons_succ, SP.eq] at d10
                                  obtain ⟨A, c, hv, h1, h2, h3, _⟩ := d10
                                  simp only [List.length_cons, List.length_nil, Nat.zero_add, Nat.reduceAdd] at hv h3
                                  go_simp
                                  go_at_call 54
                                  refine (geight_any _ A 2 c [(ia1 : Int), sz] _ (by decide) rfl (by decide) (by intro y hy; simp at hy; rcases hy with rfl | rfl; exact hU1; exact hU2) h3).mono ?_
                                  rintro e w2 ⟨v, rfl, hp, hb2⟩
                                  exact hK.out _ _ _ hb2 hp (by simp only [hv, Act.put, List.setIfInBounds_toArray, List.set_cons_succ, List.set_cons_zero])
                                refine StepsOk.cons (fun vals w' hb hd K hK => ?_) ?_
                                · have hS' := (hI.cfg.kept hb).cell
                                  go_simp
                                  exact hK.out _ _ _ (Below.refl _ _) rfl (by kernel_rfl)
                                refine StepsOk.cons (fun vals w' hb hd K hK => ?_) ?_
                                · have hS' := (hUb.kept hb).cell
                                  go_simp
                                  exact hK.out _ _ _ (Below.refl _ _) rfl (by kernel_rfl)
                                refine StepsOk.cons (fun vals w' hb hd K hK => ?_) ?_
                                · go_simp
                                  exact hK.out _ _ _ (Below.refl _ _) rfl (by kernel_rfl)
                                refine StepsOk.cons (fun vals w' hb hd K hK => ?_) ?_
                                · have d12 := hd 12 (by decide)
                                  simp only [List.getD_cons_zero, List.getD_cons_succ, SP.eq] at d12
                                  have d13 := hd 13 (by decide)
                                  simp only [List.getD_cons_zero, List.getD_cons_succ, SP.eq] at d13
                                  have d14 := hd 14 (by decide)
                                  simp only [List.getD_cons_zero, List.getD_cons_succ, SP.eq] at d14
                                  go_simp
                                  go_at_call 55
                                  refine (HPe1.out _ hb).mono ?_
                                  rintro e w2 ⟨rfl, hb2⟩
                                  exact hK.out _ _ _ hb2 rfl (by simp only [d12, d13, d14, Act.put, List.setIfInBounds_toArray, List.set_cons_succ, List.set_cons_zero])
                                refine StepsOk.cons (fun vals w' hb hd K hK => ?_) ?_
                                · have d15 := hd 15 (by decide)
                                  simp only [List.getD_cons_zero, List.getD_cons_succ, SP.eq] at d15
                                  go_simp
                                  go_at_call 51
                                  refine (gsaid_any _ _ _ (by decide) (Nat.le_trans (HPl.out _) (by decide))).mono ?_
                                  rintro e w2 ⟨v, rfl, hp, hb2⟩
                                  exact hK.out _ _ _ hb2 hp (by simp only [d15, Act.put, List.setIfInBounds_toArray, List.set_cons_succ, List.set_cons_zero])
                                refine StepsOk.cons (fun vals w' hb hd K hK => ?_) ?_
                                · go_simp
                                  exact hK.out _ _ _ (Below.refl _ _) rfl (by kernel_rfl)
                                refine StepsOk.cons (fun vals w' hb hd K hK => ?_) ?_
                                · have d17 := hd 17 (by decide)
                                  simp only [List.getD_cons_zero, List.getD_cons_succ, SP.eq] at d17
                                  have hS' := (hWb.kept hb).cell
                                  go_simp
                                  exact hK.out _ _ _ (Below.refl _ _) rfl (by simp only [d17, Act.put, List.setIfInBounds_toArray, List.set_cons_succ, List.set_cons_zero])
                                refine StepsOk.cons (fun vals w' hb hd K hK => ?_) ?_
                                · have d18 := hd 18 (by decide)
                                  simp only [List.getD_cons_zero, List.getD_cons_succ, SP.eq] at d18
                                  go_simp
                                  exact hK.out _ _ _ (Below.refl _ _) rfl (by simp only [d18, Act.put, List.setIfInBounds_toArray, List.set_cons_succ, List.set_cons_zero])
                                refine StepsOk.cons (fun vals w' hb hd K hK => ?_) ?_
                                · have d19 := hd 19 (by decide)
                                  simp only [List.getD_cons_zero, List.getD_cons_succ, SP.eq] at d19
                                  go_simp
                                  exact hK.out _ _ _ (bal (Below.refl _ _) _) (RowP.fresh _ [IntKind.u32.wrap (p1)] _ 1 _ rfl rfl rfl rfl (by decide)) (by simp only [d19, Act.put, List.setIfInBounds_toArray, List.set_cons_succ, List.set_cons_zero])
                                refine StepsOk.cons (fun vals w' hb hd K hK => ?_) ?_
                                · have d20 := hd 20 (by decide)
                                  simp only [List.getD_cons_zero, List.getD_cons_succ, SP.eq] at d20
                                  obtain ⟨A, c, hv, h1, h2, h3, _⟩ := d20
                                  simp only [List.length_cons, List.length_nil, Nat.zero_add, Nat.reduceAdd] at hv h3
                                  go_simp
                                  go_at_call 50
                                  refine (gfour_any _ A 1 c [IntKind.u32.wrap (p1)] _ (by decide) rfl (by decide) (by intro y hy; simp at hy; subst hy; exact wrap32_in _) h3).mono ?_
                                  rintro e w2 ⟨v, rfl, hp, hb2⟩
                                  exact hK.out _ _ _ hb2 hp (by simp only [hv, Act.put, List.setIfInBounds_toArray, List.set_cons_succ, List.set_cons_zero])
                                refine StepsOk.cons (fun vals w' hb hd K hK => ?_) ?_
                                · have d5 := hd 5 (by decide)
                                  simp only [List.getD_cons_zero, List.getD_cons_succ, SP.eq] at d5
                                  have d11 := hd 11 (by decide)
                                  simp only [List.getD_cons_zero, List.getD_cons_succ, SP.eq] at d11
                                  have d16 := hd 16 (by decide)
                                  simp only [List.getD_cons_zero, List.getD_cons_succ, SP.eq] at d16
                                  have d21 := hd 21 (by decide)
                                  simp only [List.getD_cons_zero, List.getD_cons_succ, SP.eq] at d21
                                  obtain ⟨A5, c5, hv5, hp5⟩ := d5.cells
                                  generalize ((⟨#[99, 111, 109, 112, 97, 116, 105, 98, 108, 101]⟩, strB ⟨#[112, 111, 114, 116, 114, 101, 101, 118, 101, 44, 99, 104, 97, 110, 110, 101, 108]⟩ ++ [0]) : Pr).2.length = m5 at hv5 hp5
                                  obtain ⟨A11, c11, hv11, hp11⟩ := d11.cells
                                  generalize ((⟨#[114, 101, 103]⟩, [(ia1 : Int), sz].flatMap (bytesN 8 false)) : Pr).2.length = m11 at hv11 hp11
                                  obtain ⟨A16, c16, hv16, hp16⟩ := d16.cells
                                  generalize ((⟨#[112, 101, 101, 114]⟩, strB ((peerG x.gs gu0)) ++ [0]) : Pr).2.length = m16 at hv16 hp16
                                  obtain ⟨A21, c21, hv21, hp21⟩ := d21.cells
                                  generalize ((⟨#[112, 101, 114, 109]⟩, [IntKind.u32.wrap (p1)].flatMap (bytesN 4 false)) : Pr).2.length = m21 at hv21 hp21
                                  go_simp
                                  exact hK.out _ _ _ (bal (Below.refl _ _) _) (PsP.fresh _ [(⟨#[99, 111, 109, 112, 97, 116, 105, 98, 108, 101]⟩, strB ⟨#[112, 111, 114, 116, 114, 101, 101, 118, 101, 44, 99, 104, 97, 110, 110, 101, 108]⟩ ++ [0]), (⟨#[114, 101, 103]⟩, [(ia1 : Int), sz].flatMap (bytesN 8 false)), (⟨#[112, 101, 101, 114]⟩, strB ((peerG x.gs gu0)) ++ [0]), (⟨#[112, 101, 114, 109]⟩, [IntKind.u32.wrap (p1)].flatMap (bytesN 4 false))] [_, _, _, _] _ _ 4 ⟨hp5, hp11, hp16, hp21, trivial⟩ rfl rfl rfl (by decide) (hXl _ hb)) (by simp only [hv5, hv11, hv16, hv21, Act.put, List.setIfInBounds_toArray, List.set_cons_succ, List.set_cons_zero])
                                refine StepsOk.cons (fun vals w' hb hd K hK => ?_) ?_
                                · have d4 := hd 4 (by decide)
                                  simp only [List.getD_cons_zero, List.getD_cons_succ, SP.eq] at d4
                                  have d22 := hd 22 (by decide)
                                  simp only [List.getD_cons_zero, List.getD_cons_succ, SP.eq] at d22
                                  obtain ⟨A, c, f, hv, hp⟩ := id d22
                                  simp only [List.length_cons, List.length_nil, Nat.zero_add, Nat.reduceAdd] at hv
                                  rw [hv] at d22
                                  go_simp
                                  go_at_call 49
                                  refine (gnode_any _ _ _ _ (by rw [strOfNums_size]; have := atN_len [99, 104, 97, 110, 110, 101, 108] ia1; unfold maxLen; simp at this; omega) d22).mono ?_
                                  rintro e w2 ⟨v, rfl, _, hp, hb2⟩
                                  exact hK.out _ _ _ hb2 hp (by simp only [d4, hv, Act.put, List.setIfInBounds_toArray, List.set_cons_succ, List.set_cons_zero])
                                refine StepsOk.cons (fun vals w' hb hd K hK => ?_) ?_
                                · have d23 := hd 23 (by decide)
                                  simp only [List.getD_cons_zero, List.getD_cons_succ, SP.eq] at d23
                                  obtain ⟨A, c, B, e, hv, k, hp⟩ := d23.cells
                                  generalize ((chanG sz (peerG x.gs gu0) ⟨gu1, p1, (ia1 : Int)⟩) : Tr).nm = q0 at hv hp
                                  generalize ((chanG sz (peerG x.gs gu0) ⟨gu1, p1, (ia1 : Int)⟩) : Tr).ps.length = q1 at hv hp
                                  generalize ((chanG sz (peerG x.gs gu0) ⟨gu1, p1, (ia1 : Int)⟩) : Tr).ks.length = q2 at hv hp
                                  go_simp
                                  exact hK.out _ _ _ (bal (Below.refl _ _) _) (TsP.fresh _ [(chanG sz (peerG x.gs gu0) ⟨gu1, p1, (ia1 : Int)⟩)] [_] _ _ 1 ⟨⟨k, hp⟩, trivial⟩ rfl rfl rfl (by decide) (hXl _ hb)) (by simp only [hv, Act.put, List.setIfInBounds_toArray, List.set_cons_succ, List.set_cons_zero])
                                exact StepsOk.nil
                              · intro vals w8 hb8 hd
                                have dS := hd 24 (by decide)
                                have d1 := hd 1 (by decide)
                                simp only [List.getD_cons_zero, List.getD_cons_succ, SP.eq] at d1 dS
                                obtain ⟨A9, c9, f9, k9, hv9, _⟩ := id dS
                                simp only [List.length_cons, List.length_nil, Nat.zero_add, Nat.reduceAdd] at hv9
                                obtain ⟨w9, A0, c0, hr, hT9, hI9, hB9⟩ := (hI.kept hb8).add dS hXz hXb hbz3 (by first | omega | (simp; done) | (simp; omega))
                                rw [hv9] at hr
                                simp only [List.drop_succ_cons, List.drop_zero, fillA, fillL, List.setIfInBounds_toArray, List.set_cons_succ, List.set_cons_zero, Nat.zero_add, Nat.reduceAdd, d1, hv9]
                                clear hd
                                refine wpList_appr rfl (.tmp 143) (.tmp 166) rfl rfl rfl hr ?_
                                have cT9 := hT9.cell
                                have fT9 := hT9.frozen
                                generalize (pr1).length + 1 = nk at *
                                have HI9 := Lib.hid hI9
                                have HB9 := Lib.hid hB9
                                clear hB9 hI9
                                have hUb9 := HB9.out _ _ _ (by decide) (hUb.kept hb8)
                                have HUb9 := Lib.hid hUb9
                                clear hUb9 HB9
                                go_wp2_with fail
                                go_roundw
                                case rel =>
                                  refine ⟨2, .slice A0 nk c0, by decide, by first | rfl | go_num, ?_, HUb9.out⟩
                                  have e1 : pre ++ endsG x.gs k ⟨pa, sz, ⟨gu0, p0, ia0⟩, ⟨gu1, p1, ia1⟩⟩ 2 = pr1 ++ [chanG sz (peerG x.gs gu0) ⟨gu1, p1, ia1⟩] := by
                                    simp only [endsG, chansG, end0G, end1G]
                                    rw [← HPr1.out]; simp only [endsG, end0G]; rw [if_pos (show gu1 = (k : Int) from HE.out), List.append_assoc]
                                  rw [e1]
                                  exact HI9.out
                                case measure => simp [intOf]
                            · have e4 : (gu1 == (k : Int)) = false := by simp [he]
                              have HE := Lib.hid he
                              have HI := Lib.hid hI
                              have hbU := bal (Below.refl wr.heap.size wr) (.cells #[.int .i64 gu1, .int .i64 p1, .int .u64 (ia1 : Int)] 118)
                              have HU := Lib.hid (hUb.kept hbU)
                              have HIk := Lib.hid (hI.kept hbU)
                              clear he hI hbU hUb
                              go_wp2_with fail
                              go_roundw
                              case rel =>
                                refine ⟨2, vks, by decide, by first | rfl | go_num, ?_, HU.out⟩
                                have e1 : pre ++ endsG x.gs k ⟨pa, sz, ⟨gu0, p0, ia0⟩, ⟨gu1, p1, ia1⟩⟩ 2 = pr1 := by
                                  simp only [endsG, chansG, end0G, end1G]
                                  rw [← HPr1.out]; simp only [endsG, end0G]; rw [if_neg (show ¬ gu1 = (k : Int) from HE.out), List.append_nil]
                                rw [e1]
                                exact HIk.out
                              case measure => simp [intOf]
                          · have hI : GI w wr #[.int .u32 x.ver, .slice (some ⟨b, o, none⟩) n c, .slice (some ⟨b1, o1, none⟩) n2 c2] g X bz base (pre ++ chansG x.gs k ⟨pa, sz, ⟨gu0, p0, ia0⟩, ⟨gu1, p1, ia1⟩⟩) (.slice Ap np cp) vks := hI
                            have HI := Lib.hid hI
                            clear hI hUb
                            rw [show ((2 : Nat) : Int) = 2 from rfl]
                            go_wp2_with fail
                            go_roundw
                            case rel =>
                              refine ⟨j + 1, vks, by omega, by go_num, ?_⟩
                              have e1 : (x.cs.take (j + 1)).flatMap (chansG x.gs k) = (x.cs.take j).flatMap (chansG x.gs k) ++ chansG x.gs k ⟨pa, sz, ⟨gu0, p0, ia0⟩, ⟨gu1, p1, ia1⟩⟩ := by rw [List.take_add_one, HY.out, List.flatMap_append]; simp
                              rw [e1, ← List.append_assoc, HPre.out]
                              exact HI.out
                            case measure => simp [intOf]; omega
                      · obtain rfl : n2 = j := by omega
                        have hI : GI w wr #[.int .u32 x.ver, .slice (some ⟨b, o, none⟩) n c, .slice A2 n2 c2] g X bz base ([cpusG g.1.cpus] ++ g.1.ws.map winG ++ g.1.ds.map devG ++ x.cs.flatMap (chansG x.gs k)) (.slice Ap np cp) vks := by
                          rw [List.take_of_length_le (by rw [HN2.out]; omega)] at hI
                          exact hI
                        have e3 : decide ((n2 : Int) < (n2 : Int)) = false := decide_eq_false (by omega)
                        have hT : TrP X (guestG x k g.1) wr (.agg #[.string ⟨#[]⟩, .slice Ap np cp, vks]) := hI.tb.tree hXb (by decide)
                        have hLs : LensF 3 (guestG x k g.1) := lens_guest HPl.out (by rw [HN2.out]; exact fn2) (by rw [HWs.out]; exact hnw) (by rw [HDs.out]; exact hnd) (by rw [HQ.out]; exact hqn) hs5 hs6
                        obtain ⟨Av, cv, Bv, ev, hvv, kv, hpv⟩ := hT.cells
                        have hga : guestA x (k : Int) = if mayT (guestG x k g.1) then (guestG x k g.1, 0) else (zT, 240) := by
                          unfold guestA
                          rw [if_pos ⟨by omega, by rw [HN.out]; omega⟩, Int.toNat_natCast, HGk.out]
                        generalize guestG x k g.1 = T at *
                        have hnm : T.nm = ⟨#[]⟩ := by
                          simp only [Value.agg.injEq, Array.mk.injEq, List.cons.injEq, Value.string.injEq, and_true] at hvv
                          exact hvv.1.symm
                        rw [hnm] at hvv hpv
                        generalize T.ps.length = q1 at hvv hpv
                        generalize T.ks.length = q2 at hvv hpv
                        simp only [Value.agg.injEq, Array.mk.injEq, List.cons.injEq, true_and, and_true] at hvv
                        obtain ⟨hq1, rfl⟩ := hvv
                        rw [hq1] at hI
                        clear hnm hT hq1
                        have cT := hI.tb.box.cell
                        have hCk := (check_any (max kv 3) T [.string ⟨#[]⟩, .slice Av q1 cv, .slice Bv q2 ev] wr (hpv.ok.mono (Nat.le_max_left _ _)) (hLs.mono (Nat.le_max_right _ _)))
                        have HIe := Lib.hid hI
                        have HPv := Lib.hid hpv
                        have HGa := Lib.hid hga
                        clear hI hpv hLs hga
                        rcases hmay : mayT T with _ | _
                        · rw [hmay] at hCk
                          have HCk := Lib.hid hCk
                          have hga2 : guestA x (k : Int) = (zT, 240) := by rw [HGa.out, hmay]; rfl
                          clear hCk hmay
                          go_upto_region 33 with (go_at_call 17; refine HCk.out.mono ?_; rintro e w6 ⟨rfl, hb6⟩)
                          have hI6 := HIe.out.kept hb6
                          have cR := hI6.res.cell
                          have fR := hI6.res.frozen
                          have hbO : RowKit.Below w.heap.size w (((w6.setCell ⟨w.heap.size + 1, 0, none⟩ (.string ⟨#[]⟩)).setCell ⟨w.heap.size + 1, 1, none⟩ (.slice none 0 0)).setCell ⟨w.heap.size + 1, 2, none⟩ (.slice none 0 0)) := ((hI6.bel.setCell (p := ⟨w.heap.size + 1, 0, none⟩) (Nat.le_succ _) _).setCell (p := ⟨w.heap.size + 1, 1, none⟩) (Nat.le_succ _) _).setCell (p := ⟨w.heap.size + 1, 2, none⟩) (Nat.le_succ _) _
                          have hRO := ((hI6.res.set_ 0 (.string ⟨#[]⟩)).set_ 1 (.slice none 0 0)).set_ 2 (.slice none 0 0)
                          have HRes := Lib.hid (guestP_no hga2 hbO)
                          have cRO := hRO.cell
                          clear hbO
                          go_wp2_with fail
                          exact bodyPost_ret (v := .tuple #[.agg #[.string ⟨#[]⟩, .slice none 0 0, .slice none 0 0], .int .i64 240]) (by simp [results, Try.results25, go_sem, cRO]) rfl HRes.out
                        · rw [hmay] at hCk
                          have HCk := Lib.hid hCk
                          have hga2 : guestA x (k : Int) = (T, 0) := by rw [HGa.out, hmay]; rfl
                          clear hCk hmay
                          go_upto_region 34 with (go_at_call 17; refine HCk.out.mono ?_; rintro e w6 ⟨rfl, hb6⟩)
                          have hI6 := HIe.out.kept hb6
                          have cT := hI6.tb.box.cell
                          have cR := hI6.res.cell
                          have fR := hI6.res.frozen
                          obtain ⟨z1, z2, z3⟩ := named_tree (B := w.heap.size) (w := w) (Nat.le_succ _) hI6.res hXr (HPv.out.kept hb6) hI6.bel
                          have HRes := Lib.hid (guestP_yes hga2 z2 z3)
                          have cZ := z1.cell
                          clear z1 z2 z3
                          go_wp2_with fail
                          exact bodyPost_ret (v := .tuple #[.agg #[.string ⟨#[]⟩, .slice Av q1 cv, .slice Bv q2 ev], .int .i64 0]) (by simp [results, Try.results25, go_sem, cZ]) rfl HRes.out
  · have hga2 : guestA x gi = (zT, 1) := by unfold guestA; rw [if_neg (by rw [HN.out]; exact hin)]
    have cR := hR0.cell
    have fR := hR0.frozen
    have hbO : RowKit.Below w.heap.size w (((w1.setCell ⟨w.heap.size + 1, 0, none⟩ (.string ⟨#[]⟩)).setCell ⟨w.heap.size + 1, 1, none⟩ (.slice none 0 0)).setCell ⟨w.heap.size + 1, 2, none⟩ (.slice none 0 0)) := ((hb0.setCell (p := ⟨w.heap.size + 1, 0, none⟩) (Nat.le_succ _) _).setCell (p := ⟨w.heap.size + 1, 1, none⟩) (Nat.le_succ _) _).setCell (p := ⟨w.heap.size + 1, 2, none⟩) (Nat.le_succ _) _
    have hRO := ((hR0.set_ 0 (.string ⟨#[]⟩)).set_ 1 (.slice none 0 0)).set_ 2 (.slice none 0 0)
    have HRes := Lib.hid (guestP_no hga2 hbO)
    have cRO := hRO.cell
    clear hbO
    by_cases h0 : gi < 0
    · have e1 : decide (gi < 0) = true := decide_eq_true h0
      go_wp2_with fail
      exact bodyPost_ret (v := .tuple #[.agg #[.string ⟨#[]⟩, .slice none 0 0, .slice none 0 0], .int .i64 1]) (by simp [results, Try.results25, go_sem, cRO]) rfl HRes.out
    · have e1 : decide (gi < 0) = false := decide_eq_false h0
      have e2 : decide ((n : Int) ≤ gi) = true := decide_eq_true (by omega)
      clear h0 hin
      go_wp2_with fail
      exact bodyPost_ret (v := .tuple #[.agg #[.string ⟨#[]⟩, .slice none 0 0, .slice none 0 0], .int .i64 1]) (by simp [results, Try.results25, go_sem, cRO]) rfl HRes.out
