/- Chapter 3: the sum of any parts, walked. -/
import Derived.Test.YtjcklmhkdpbbdaaDoorShaJ
namespace Go.Proofs.YtjcklmhkdpbbdaaDoor
set_option linter.unusedVariables false
set_option linter.unusedSimpArgs false
open Go.RowKit Go.Sort

def st0 : List Value := stCs vI (List.replicate 64 0) 0
theorem st0_len : st0.length = 73 := by decide +kernel
theorem info_st0 : (Tryd.prog.info? 47).map (fun i => (i.zero, i.size)) = some (some (.agg (Array.replicate 8 (.int .u32 0) ++ Array.replicate 64 (.int .u8 0) ++ #[.int .u64 0])), 73) := by kernel_rfl
theorem build_st0 (w : World) : (Instr.build 47 #[(0, .agg vI.cs.toArray)]).run Tryd.prog w = .ok (.agg st0.toArray) w := run_build w _ _ _ (by kernel_rfl)
theorem st0_one : ∀ u ∈ st0, u.oneCell' = true := by
  have : st0.all (·.oneCell') = true := by decide +kernel
  intro u hu
  exact List.all_eq_true.1 this u hu
/-- A part that is whole: its bytes in their range, its slice a slice. -/
structure PtGood (p : Pt) : Prop where
  ok : BytesOk p.bs
  le : p.n ≤ p.c
theorem PtOk.rd {w W : World} {B : Nat} {p : Pt} (h : PtOk w B p) (hb : Below B w W) (hB : B ≤ W.heap.size) : Rd W W.heap.size 1 p.A p.n (p.bs.flatMap encB) := (h.2.below hb).more hB

set_option maxRecDepth 100000 in
set_option maxHeartbeats 4000000 in
theorem shaSum_any (A : Option Addr) (n c : Nat) (ps : List Pt) (w : World) (hl : ps.length = n) (hn : n ≤ 1000000) (hr : Rd w w.heap.size 1 A n (ps.flatMap encPt)) (hp : ∀ p ∈ ps, PtOk w w.heap.size p) (hq : ∀ p ∈ ps, PtGood p) (hs : (catN ps).length ≤ 10000000000) (hT : Tabs w) :
    Calls Tryd.prog 16 #[.slice A n c] w fun e w' => e = .returned (.agg ((sumB (catN ps)).flatMap encB).toArray) ∧ Below w.heap.size w w' := by
  have HL := Lib.hid hl
  have HR := Lib.hid hr
  have HP := Lib.hid hp
  have HQ := Lib.hid hq
  have HS := Lib.hid hs
  have HT := Lib.hid hT
  have hzn := (zero_of_info info_node).1
  obtain ⟨Z0, hZs, hz0⟩ : ∃ Z0 : Array Value, Z0.size = 73 ∧ ∀ w, (zeroValue 47).run Tryd.prog w = .ok (.agg Z0) w := ⟨_, by simp, (zero_of_info info_st0).1⟩
  have HBu := Lib.hid (fun W => build_st0 W)
  have hst := store_new (P := Tryd.prog) (T := 47) (s := 73) (Z := Z0) hZs (by kernel_rfl) st0_len st0_one (w.alloc (.cells (Array.replicate 32 (.int .u8 0)) 26))
  rw [World.size_alloc] at hst
  have hs2 := hT.size
  have hb0 := bal (Below.refl w.heap.size w) (.cells (Array.replicate 32 (.int .u8 0)) 26)
  have HF := Lib.hid (hT.kept hb0).rangeF
  have HB0 : Hid (Blk ((w.alloc (.cells (Array.replicate 32 (.int .u8 0)) 26)).alloc (.cells st0.toArray 47)) (w.heap.size + 1) 47 (stCs vI (List.replicate 64 0) ((List.length ([] : List Int) : Nat) : Int) ++ []).toArray ∧
      Blk ((w.alloc (.cells (Array.replicate 32 (.int .u8 0)) 26)).alloc (.cells st0.toArray 47)) w.heap.size 26 (Array.replicate 32 (.int .u8 0)) ∧
      RowKit.Below w.heap.size w ((w.alloc (.cells (Array.replicate 32 (.int .u8 0)) 26)).alloc (.cells st0.toArray 47))) := Lib.hid ⟨by
    rw [List.append_nil]; exact Blk.fresh _ _ _, (Blk.new w _ _).alloc _, bal' hb0 _ hb0.size⟩
  have hCl : vI.cs.length = 8 := rfl
  have hsz0 : st0.toArray.size = 73 := by simp [st0_len]
  obtain ⟨S0, hS0⟩ : ∃ x, st0 = x := ⟨_, rfl⟩
  obtain ⟨C0, hC0⟩ : ∃ x, vI.cs = x := ⟨_, rfl⟩
  rw [hS0] at HBu hst HB0 hsz0
  rw [hC0] at HBu HF hCl
  have HCl := Lib.hid hCl
  clear hl hr hp hq hs hT hb0 hS0 hC0 hCl
  go_enter Tryd.func16, Tryd.ntmps16
  go_upto_region 1 with (fail)
  refine wp_region_lit ?_
  refine wpList_load_mid rfl 35 (.global 0) rfl 0 0 (by rfl) C0 _ HF.out Tryd.underlying35 rfl (by rw [HCl.out]; kernel_rfl) ?_
  refine wpList_built rfl 47 #[(0, .tmp 6)] rfl (vals := #[(0, .agg C0.toArray)]) (by go_simp) (HBu.out _) ?_
  go_wp2
  go_loopw [10] (fun i wr => ∃ k : Nat, k ≤ n ∧ i = .int .i64 k ∧ ∃ h sm, Hid (Rep vI (catN (ps.take k)) h sm) ∧ Hid (Blk wr (w.heap.size + 1) 47 (stCs h sm (((catN (ps.take k)).length : Nat) : Int) ++ []).toArray ∧ Blk wr w.heap.size 26 (Array.replicate 32 (.int .u8 0)) ∧ RowKit.Below w.heap.size w wr)) (fun i _ => n - (intOf i).toNat)
  case atStart => exact ⟨0, by omega, rfl, vI, _, Lib.hid (Rep.nil vI (by simp) (fun x hx => by rw [List.eq_of_mem_replicate hx]; decide)), HB0⟩
  case round =>
    obtain ⟨k, hk, rfl, h, sm, HRp, HI⟩ := hrel
    clear HB0 hst hz0 hzn HBu HF
    by_cases hlt : k < n
    · have hlt' : k < ps.length := by rw [HL.out]; exact hlt
      obtain ⟨b, o, rfl, hbb, hc⟩ := (HR.out.below HI.out.2.2).row (s := 1) (fun _ => rfl) hlt' HL.out
      have c0 := hc 0 (by omega)
      simp only [encPt, Nat.add_zero, Nat.mul_one, List.getElem?_cons_zero] at c0
      have HT1 := Lib.hid (catN_take ps k hlt')
      have hle := Lib.hid (catN_le ps (k + 1))
      have hpo := HP.out _ (List.getElem_mem hlt')
      have hqo := HQ.out _ (List.getElem_mem hlt')
      clear hc
      generalize ps[k] = p at *
      have hlen : (catN (ps.take k)).length + p.n ≤ 10000000000 := by
        have h1 := hle.out
        rw [HT1.out, List.length_append, hpo.1] at h1
        have := HS.out
        omega
      have HW := Lib.hid (write_any vI (w.heap.size + 1) 47 [] h sm (catN (ps.take k)) p.bs p.A p.n p.c wr HRp.out (by omega) (HT.out.kept HI.out.2.2) (by omega) HI.out.1 hpo.1 hqo.ok (hpo.rd HI.out.2.2 HI.out.2.2.size)
        (fun hp0 ad had => by
          obtain ⟨b', o', e, hlt3, _⟩ := hpo.2.2 hp0
          rw [e] at had
          obtain rfl := Option.some.inj had
          show b' ≠ w.heap.size + 1
          omega) hqo.le)
      have HI1 := HI
      have HPn := Lib.hid hpo.1
      clear hle hlen hpo hqo HRp HI
      go_wp2_with (go_at_call 51; refine HW.out.mono ?_; rintro e w2 ⟨rfl, h', sm', hR', hB', hn'⟩)
      have hbw : RowKit.Below w.heap.size w w2 := (Near.of_below (fun i => i = w.heap.size + 1) HI1.out.2.2).trans hn' |>.below (fun i hi => by omega) (Nat.le_refl _)
      have hZ2 : Blk w2 w.heap.size 26 (Array.replicate 32 (.int .u8 0)) := HI1.out.2.1.same (hn'.block _ HI1.out.2.1.lt (by omega))
      have HN : Hid (Blk w2 (w.heap.size + 1) 47 (stCs h' sm' (((catN (ps.take (k + 1))).length : Nat) : Int) ++ []).toArray ∧ Blk w2 w.heap.size 26 (Array.replicate 32 (.int .u8 0)) ∧ RowKit.Below w.heap.size w w2) := Lib.hid ⟨by
        have e : (catN (ps.take (k + 1))).length = (catN (ps.take k)).length + p.n := by rw [HT1.out, List.length_append, HPn.out]
        rw [e]; exact hB', hZ2, hbw⟩
      rw [← HT1.out] at hR'
      have HR' := Lib.hid hR'
      clear hR' hB' hn' hbw hZ2 HW HI1
      go_roundw
      case rel => exact ⟨k + 1, by omega, by go_num, h', sm', HR', HN⟩
      case measure => simp [intOf]; omega
    · have HRf : Hid (Rep vI (catN ps) h sm ∧ Blk wr (w.heap.size + 1) 47 (stCs h sm (((catN ps).length : Nat) : Int) ++ []).toArray) := Lib.hid (by
        have h1 := HRp.out
        have h2 := HI.out.1
        rw [List.take_of_length_le (by rw [HL.out]; omega)] at h1 h2
        exact ⟨h1, h2⟩)
      have HE := Lib.hid (end_any vI (w.heap.size + 1) 47 [] h sm (catN ps) wr HRf.out.1 (by have := HS.out; omega) (HT.out.kept HI.out.2.2) (by omega) HRf.out.2)
      have HZ := Lib.hid HI.out.2.1
      have HBw := Lib.hid HI.out.2.2
      obtain ⟨ob, hob⟩ : ∃ x, outB (sumV vI (catN ps)) = x := ⟨_, rfl⟩
      have HOl := Lib.hid (show ob.length = 32 by rw [← hob]; exact outB_len _)
      have HLn := Lib.hid (show (ob.flatMap encB).length = 32 by rw [flatB_len, HOl.out])
      have HOb := Lib.hid (show sumB (catN ps) = ob from hob)
      rw [hob] at HE
      clear HRp HI HRf hob
      go_wp2_with (first
        | (go_at_call 52; refine HE.out.mono ?_; rintro e w2 ⟨rfl, hn2⟩; have hZ2 := HZ.out.same (hn2.block _ HZ.out.lt (by omega)))
        | (refine wpList_store_node rfl (.tmp 2) (.tmp 17) rfl w.heap.size ob HOl.out (by rfl) (by rfl) hZ2 (by simp) ?_; intro w6 hB6 hbl6 hz6 hh6))
      have hbw : RowKit.Below w.heap.size w w2 := (Near.of_below (fun i => i = w.heap.size + 1) HBw.out).trans hn2 |>.below (fun i hi => by omega) (Nat.le_refl _)
      exact bodyPost_ret (res_cell1 rfl (b := w.heap.size) (o := 0) (cs := ob.flatMap encB) rfl hB6.range Tryd.underlying26 rfl (by rw [HLn.out]; kernel_rfl)) rfl ⟨by rw [HOb.out], hbw.trans (hbl6 _ (Nat.le_refl _))⟩
end Go.Proofs.YtjcklmhkdpbbdaaDoor
