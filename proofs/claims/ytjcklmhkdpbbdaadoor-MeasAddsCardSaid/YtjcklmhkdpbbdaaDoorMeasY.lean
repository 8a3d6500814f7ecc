/- Chapter 25: lists of records folded: walked. -/
import Derived.Test.YtjcklmhkdpbbdaaDoorMeasX
namespace Go.Proofs.YtjcklmhkdpbbdaaDoor
set_option linter.unusedVariables false
set_option linter.unusedSimpArgs false
open Go.RowKit Go.Sort

def reg0 : List Int := List.replicate 64 0
theorem reg0_ok : RegOk reg0 := ⟨by simp [reg0], fun x hx => by rw [List.eq_of_mem_replicate hx]; decide⟩
theorem reg0_cs : (reg0.flatMap encB).toArray = Array.replicate 64 (.int .u8 0) := by kernel_rfl
theorem info_2n : (Tryd.prog.info? 54).map (fun i => (i.zero, i.size)) = some (some (.agg (Array.replicate 64 (.int .u8 0))), 64) := by kernel_rfl
theorem info_rg : (Tryd.prog.info? 56).map (fun i => (i.zero, i.size)) = some (some (.agg (Array.replicate 64 (.int .u8 0))), 64) := by kernel_rfl
theorem wpList_store_regs {ops : Array Oper} {rest : List Oper} {op : Oper} {a : Act} {w : World} {Q : Exit → Act → World → Prop} (hgd : op.guard = none) (x y : Operand) (ho : op.op = .store 54 x y)
    (g : Nat) (l : List Int) (hl : l.length = 64) (hx : a.eval x = .pointer (some ⟨g, 0, none⟩)) (hy : a.eval y = .agg (l.flatMap encB).toArray) {cs : Array Value} (hB : Blk w g 54 cs) (hs : cs.size = 64)
    (h : ∀ w', Blk w' g 54 (l.flatMap encB).toArray → (∀ B, B ≤ g → Below B w w') → w'.heap.size = w.heap.size → (∀ i, i ≠ g → w'.heap[i]? = w.heap[i]?) → wpList Tryd.prog ops Q rest (a.put op.dst undef) w') : wpList Tryd.prog ops Q (op :: rest) a w :=
  wpList_store_blk hgd 54 x y ho g 0 (l.flatMap encB).toArray hx hy hB (by rw [hs, List.size_toArray, flatB_len, hl]; exact Nat.le_refl _) (by rw [List.size_toArray, flatB_len, hl]; kernel_rfl) (all_oneCell_toArray (one_b l)) (setAt_whole (by rw [flatB_len, hs, hl])) h

set_option maxRecDepth 100000 in
set_option maxHeartbeats 2000000 in
theorem fold_any (A : Option Addr) (n c : Nat) (l : List Rc) (w : World) (hl : l.length = n) (hn : n ≤ 1000000) (h0 : RcsOk l) (hr : Rd w w.heap.size 35 A n (l.flatMap Rc.cs)) (hT : Tabs w) :
    Calls Tryd.prog 37 #[.slice A n c] w fun e w' => e = .returned (.agg ((onR reg0 l).flatMap encB).toArray) ∧ Below w.heap.size w w' := by
  have HL := Lib.hid hl
  have HR := Lib.hid hr
  have H0 := Lib.hid h0
  have HT := Lib.hid hT
  have hz2 := (zero_of_info info_2n).1
  have hzr := (zero_of_info info_rg).1
  have hb0 := bal (Below.refl w.heap.size w) (.cells (Array.replicate 64 (.int .u8 0)) 54)
  have hb1 := bal' hb0 (.cells (Array.replicate 64 (.int .u8 0)) 56) hb0.size
  have HI0 : Hid (Blk ((w.alloc (.cells (Array.replicate 64 (.int .u8 0)) 54)).alloc (.cells (Array.replicate 64 (.int .u8 0)) 56)) (w.heap.size + 1) 56 ((onR reg0 (l.take 0)).flatMap encB ++ []).toArray ∧
      Blk ((w.alloc (.cells (Array.replicate 64 (.int .u8 0)) 54)).alloc (.cells (Array.replicate 64 (.int .u8 0)) 56)) w.heap.size 54 (Array.replicate 64 (.int .u8 0)) ∧
      RowKit.Below w.heap.size w ((w.alloc (.cells (Array.replicate 64 (.int .u8 0)) 54)).alloc (.cells (Array.replicate 64 (.int .u8 0)) 56))) := Lib.hid ⟨by
    rw [List.append_nil, show onR reg0 (l.take 0) = reg0 from rfl, reg0_cs]; exact Blk.fresh _ _ _, (Blk.new w _ _).alloc _, hb1⟩
  clear hl hr h0 hT hb0 hb1
  go_enter Tryd.func37, Tryd.ntmps37
  go_wp2
  go_loopw [8] (fun i wr => ∃ k : Nat, k ≤ n ∧ i = .int .i64 k ∧ Hid (Blk wr (w.heap.size + 1) 56 ((onR reg0 (l.take k)).flatMap encB ++ []).toArray ∧ Blk wr w.heap.size 54 (Array.replicate 64 (.int .u8 0)) ∧ RowKit.Below w.heap.size w wr)) (fun i _ => n - (intOf i).toNat)
  case atStart => exact ⟨0, by omega, rfl, HI0⟩
  case round =>
    obtain ⟨k, hk, rfl, HI⟩ := hrel
    clear HI0 hz2 hzr
    by_cases hlt : k < n
    · have hlt' : k < l.length := by rw [HL.out]; exact hlt
      obtain ⟨b, o, rfl, hbb, hc⟩ := (HR.out.below HI.out.2.2).range (fun r hr => Rc.len (H0.out r hr)) hlt' HL.out
      have HRg := Lib.hid hc
      have HT1 := Lib.hid (List.take_succ_eq_append_getElem hlt')
      have hok := H0.out _ (List.getElem_mem hlt')
      clear hc
      generalize l[k] = r at *
      have HLn := Lib.hid (Rc.len hok)
      have hsz : r.cs.toArray.size = 35 := by simp [Rc.len hok]
      have hfl : r.cs.length = 35 := Rc.len hok
      obtain ⟨Z, hZ, hz0, hZi⟩ := zero_rec
      have hst := store_rec hZ hZi HLn.out (Rc.one r)
      clear hZi
      have HRb : Hid ((wr.alloc (.cells r.cs.toArray 61)).rangeAt wr.heap.size 0 r.cs) := Lib.hid (Blk.new wr 61 r.cs.toArray).range
      have HE := Lib.hid (extend_any (w.heap.size + 1) 56 [] (onR reg0 (l.take k)) r (wr.alloc (.cells r.cs.toArray 61)) hok (reg0_ok.on _) (HI.out.1.alloc _) ((HT.out.kept HI.out.2.2).alloc _))
      have HZ2 := Lib.hid (HI.out.2.1.alloc (.cells r.cs.toArray 61))
      have HBw := Lib.hid (bal' HI.out.2.2 (.cells r.cs.toArray 61) HI.out.2.2.size)
      rw [← onR_snoc, ← HT1.out] at HE
      clear HI
      go_wp2_with (first
        | (refine wpList_load_mid rfl 61 (.tmp 10) rfl b (o + k * 35) (by rfl) r.cs _ HRg.out Tryd.underlying61 rfl (by rw [HLn.out]; kernel_rfl) ?_)
        | (refine wpList_load_mid rfl 61 (.tmp 5) rfl wr.heap.size 0 (by rfl) r.cs _ HRb.out Tryd.underlying61 rfl (by rw [HLn.out]; kernel_rfl) ?_)
        | (go_at_call 61; refine HE.out.mono ?_; rintro e w2 ⟨rfl, hB2, hn2⟩))
      have HN : Hid (Blk w2 (w.heap.size + 1) 56 ((onR reg0 (l.take (k + 1))).flatMap encB ++ []).toArray ∧ Blk w2 w.heap.size 54 (Array.replicate 64 (.int .u8 0)) ∧ RowKit.Below w.heap.size w w2) :=
        Lib.hid ⟨hB2, HZ2.out.same (hn2.block _ HZ2.out.lt (by omega)), ((Near.of_below (fun i => i = w.heap.size + 1) HBw.out).trans hn2).below (fun i hi => by omega) (Nat.le_refl _)⟩
      clear hB2 hn2 HE
      go_roundw
      case rel => exact ⟨k + 1, by omega, by go_num, HN⟩
      case measure => simp [intOf]; omega
    · have e : k = n := by omega
      rw [e, List.take_of_length_le (by rw [HL.out]; exact Nat.le_refl _), List.append_nil] at HI
      clear e
      have HOl := Lib.hid (reg0_ok.on l).len
      obtain ⟨ob, hob⟩ : ∃ x, onR reg0 l = x := ⟨_, rfl⟩
      rw [hob] at HI HOl
      have HOb := Lib.hid hob
      clear hob
      have HLn := Lib.hid (show (ob.flatMap encB).length = 64 by rw [flatB_len, HOl.out])
      go_wp2_with (first
        | (refine wpList_load_mid rfl 54 (.tmp 15) rfl (w.heap.size + 1) 0 (by rfl) (ob.flatMap encB) _ HI.out.1.range Tryd.underlying54 rfl (by rw [HLn.out]; kernel_rfl) ?_)
        | (refine wpList_store_regs rfl (.tmp 2) (.tmp 16) rfl w.heap.size ob HOl.out (by rfl) (by rfl) HI.out.2.1 (by simp) ?_; intro w6 hB6 hbl6 hz6 hh6))
      exact bodyPost_ret (res_cell1 rfl (b := w.heap.size) (o := 0) (cs := ob.flatMap encB) rfl hB6.range Tryd.underlying54 rfl (by rw [HLn.out]; kernel_rfl)) rfl ⟨by rw [HOb.out], HI.out.2.2.trans (hbl6 _ (Nat.le_refl _))⟩

set_option maxRecDepth 100000 in
set_option maxHeartbeats 2000000 in
theorem refOn_any (rg : List Int) (A : Option Addr) (n c : Nat) (l : List Rc) (w : World) (hg : RegOk rg) (hl : l.length = n) (hn : n ≤ 1000000) (h0 : RcsOk l) (hr : Rd w w.heap.size 35 A n (l.flatMap Rc.cs)) :
    Calls Tryd.prog 38 #[.agg (rg.flatMap encB).toArray, .slice A n c] w fun e w' => e = .returned (.agg ((onR rg l).flatMap encB).toArray) ∧ Below w.heap.size w w' := by
  have HL := Lib.hid hl
  have HR := Lib.hid hr
  have H0 := Lib.hid h0
  have HG := Lib.hid hg
  have hz2 := (zero_of_info info_2n).1
  have hb0 := bal (Below.refl w.heap.size w) (.cells (rg.flatMap encB).toArray 54)
  have hb1 := bal' hb0 (.cells (Array.replicate 64 (.int .u8 0)) 54) hb0.size
  have HI0 : Hid (Blk ((w.alloc (.cells (rg.flatMap encB).toArray 54)).alloc (.cells (Array.replicate 64 (.int .u8 0)) 54)) w.heap.size 54 ((onR rg (l.take 0)).flatMap encB ++ []).toArray ∧
      Blk ((w.alloc (.cells (rg.flatMap encB).toArray 54)).alloc (.cells (Array.replicate 64 (.int .u8 0)) 54)) (w.heap.size + 1) 54 (Array.replicate 64 (.int .u8 0)) ∧
      RowKit.Below w.heap.size w ((w.alloc (.cells (rg.flatMap encB).toArray 54)).alloc (.cells (Array.replicate 64 (.int .u8 0)) 54))) := Lib.hid ⟨by
    rw [List.append_nil, show onR rg (l.take 0) = rg from rfl]; exact (Blk.new w _ _).alloc _, Blk.fresh _ _ _, hb1⟩
  have hgs : (rg.flatMap encB).toArray.size = 64 := by rw [List.size_toArray, flatB_len, hg.len]
  clear hl hr h0 hg hb0 hb1
  go_enter Tryd.func38, Tryd.ntmps38
  go_wp2
  go_loopw [10] (fun i wr => ∃ k : Nat, k ≤ n ∧ i = .int .i64 k ∧ Hid (Blk wr w.heap.size 54 ((onR rg (l.take k)).flatMap encB ++ []).toArray ∧ Blk wr (w.heap.size + 1) 54 (Array.replicate 64 (.int .u8 0)) ∧ RowKit.Below w.heap.size w wr)) (fun i _ => n - (intOf i).toNat)
  case atStart => exact ⟨0, by omega, rfl, HI0⟩
  case round =>
    obtain ⟨k, hk, rfl, HI⟩ := hrel
    clear HI0 hz2 hgs
    by_cases hlt : k < n
    · have hlt' : k < l.length := by rw [HL.out]; exact hlt
      obtain ⟨b, o, rfl, hbb, hc⟩ := (HR.out.below HI.out.2.2).range (fun r hr => Rc.len (H0.out r hr)) hlt' HL.out
      have HRg := Lib.hid hc
      have HT1 := Lib.hid (List.take_succ_eq_append_getElem hlt')
      have hok := H0.out _ (List.getElem_mem hlt')
      clear hc
      generalize l[k] = r at *
      have HLn := Lib.hid (Rc.len hok)
      have hsz : r.cs.toArray.size = 35 := by simp [Rc.len hok]
      have hfl : r.cs.length = 35 := Rc.len hok
      obtain ⟨Z, hZ, hz0, hZi⟩ := zero_rec
      have hst := store_rec hZ hZi HLn.out (Rc.one r)
      clear hZi
      have HB0 := Lib.hid (Blk.new wr 61 r.cs.toArray)
      obtain ⟨c0, c1, c2⟩ := three HB0.out
      have HRo := Lib.hid (HG.out.on (l.take k))
      have HB1 := Lib.hid (HI.out.1.alloc (.cells r.cs.toArray 61))
      have HZ2 := Lib.hid (HI.out.2.1.alloc (.cells r.cs.toArray 61))
      have HBw := Lib.hid (bal' HI.out.2.2 (.cells r.cs.toArray 61) HI.out.2.2.size)
      have HM := Lib.hid (fun W => refRec_any r hok W)
      have HSt := Lib.hid (show onR rg (l.take (k + 1)) = extR (onR rg (l.take k)) r by rw [HT1.out, onR_snoc])
      have hzw := HI.out.2.1.lt
      clear HI
      generalize onR rg (l.take k) = rk at *
      have HE := Lib.hid (show extR rk r = splice rk (32 * r.reg) (sumB (regAt rk r.reg ++ r.bytes)) from rfl)
      have HOl := Lib.hid (sumB_len (regAt rk r.reg ++ r.bytes))
      have key : ∀ q, q ≤ 1 → r.reg = q → Hid (∀ W A c, Rd W W.heap.size 1 A 76 ((regAt rk q ++ r.bytes).flatMap encB) →
          Calls Tryd.prog 17 #[.slice A 76 c] W fun e w' => e = .returned (.agg ((sumB (regAt rk r.reg ++ r.bytes)).flatMap encB).toArray) ∧ Below W.heap.size W w') := fun q hq he => Lib.hid fun W A c hr => by
        rw [he]
        exact refSum_any A 76 c (regAt rk q ++ r.bytes) W (by rw [List.length_append, HRo.out.at_len hq, Rc.bytes_len hok]) (fun x hx => (List.mem_append.1 hx).elim (HRo.out.at_ok q x) (Rc.bytes_ok hok x)) (by decide) hr
      have rdk : ∀ q, q ≤ 1 → Rd (wr.alloc (.cells r.cs.toArray 61)) (wr.alloc (.cells r.cs.toArray 61)).heap.size 1 (some ⟨w.heap.size, q * 32, none⟩) 32 ((regAt rk q).flatMap encB) := fun q hq => regRd HB1.out HRo.out hq
      generalize sumB (regAt rk r.reg ++ r.bytes) = ob at *
      by_cases hk : r.kind = 1
      case' pos =>
        have HK := key 0 (by omega) (by simp [Rc.reg, hk])
        have HSet := Lib.hid (fun (s : List Int) hs => regSet (tl := []) HRo.out (k := 0) (by omega) (s := s) hs)
        have HGo := Lib.hid (show r.reg = 0 by simp [Rc.reg, hk])
        have HZ := Lib.hid (show 0 * 32 = (0 : Nat) from rfl)
        have HRd := Lib.hid (rdk 0 (by omega))
      case' neg =>
        have HK := key 1 (by omega) (by simp [Rc.reg, hk])
        have HSet := Lib.hid (fun (s : List Int) hs => regSet (tl := []) HRo.out (k := 1) (by omega) (s := s) hs)
        have HGo := Lib.hid (show r.reg = 1 by simp [Rc.reg, hk])
        have HZ := Lib.hid (show 1 * 32 = (32 : Nat) from rfl)
        have HRd := Lib.hid (rdk 1 (by omega))
      case pos =>
        clear rdk
        rw [HZ.out] at HSet HRd
        rw [HGo.out] at HE
        clear key HGo
        go_upto_region 7 with (first
          | (refine wpList_load_mid rfl 61 (.tmp 12) rfl b (o + k * 35) (by rfl) r.cs _ HRg.out Tryd.underlying61 rfl (by rw [HLn.out]; kernel_rfl) ?_))
        have hS1 : (fun w' : World => w'.rangeAt wr.heap.size 0 r.cs) (wr.alloc (.cells r.cs.toArray 61)).drew := HB0.out.range
        refine wp_region_held_drew (S := fun w' : World => w'.rangeAt wr.heap.size 0 r.cs) (by kernel_rfl) hS1 (fun hHeld => ?_)
        clear hHeld
        refine wpAnyH_take (i := 0) (v := ?va0) rfl (by kernel_rfl) (by kernel_rfl) (by kernel_rfl) (fun _ _ _ h => h) (Or.inl ⟨by kernel_rfl, ?hya0⟩) hS1 ?resta0
        case hya0 =>
          intro w hSw
          clear hSw
          go_simp
          first | done | with_reducible rfl
        (try simp only [Act.put, List.setIfInBounds_toArray, List.set_cons_zero, List.set_cons_succ])
        refine wpAnyH_take (i := 1) (v := ?va1) rfl (by kernel_rfl) (by kernel_rfl) (by kernel_rfl) (fun _ _ _ h => h) (Or.inl ⟨by kernel_rfl, ?hya1⟩) hS1 ?resta1
        case hya1 =>
          intro w hSw
          clear hSw
          go_simp
          first | done | with_reducible rfl
        (try simp only [Act.put, List.setIfInBounds_toArray, List.set_cons_zero, List.set_cons_succ])
        refine wpAnyH_take (i := 2) (v := ?va2) rfl (by kernel_rfl) (by kernel_rfl) (by kernel_rfl) (fun _ _ _ h => h) (Or.inl ⟨by kernel_rfl, ?hya2⟩) hS1 ?resta2
        case hya2 =>
          intro w hSw
          clear hSw
          go_simp
          first | done | with_reducible rfl
        (try simp only [Act.put, List.setIfInBounds_toArray, List.set_cons_zero, List.set_cons_succ])
        refine wpAnyH_take (i := 3) (v := ?va3) rfl (by kernel_rfl) (by kernel_rfl) (by kernel_rfl) (fun _ _ _ h => h) (Or.inl ⟨by kernel_rfl, ?hya3⟩) hS1 ?resta3
        case hya3 =>
          intro w hSw
          clear hSw
          go_simp
          first | done | with_reducible rfl
        (try simp only [Act.put, List.setIfInBounds_toArray, List.set_cons_zero, List.set_cons_succ])
        refine wpAnyH_take (i := 5) (v := .agg r.cs.toArray) rfl (by kernel_rfl) (by kernel_rfl) (by kernel_rfl) (fun _ _ _ h => h) ?hla hS1 ?_
        case hla =>
          refine Or.inl ⟨by kernel_rfl, fun w1 hSw => ?_⟩
          refine exec_load_mid 61 (.tmp 6) rfl wr.heap.size 0 ?hxa r.cs _ hSw Tryd.underlying61 rfl (by rw [HLn.out]; kernel_rfl)
          case hxa => go_simp
        (try simp only [Act.put, List.setIfInBounds_toArray, List.set_cons_zero, List.set_cons_succ])
        refine wpAnyH_call (i := 4) (by kernel_rfl) rfl (by kernel_rfl) fun K hK => ?_
        simp only [List.getElem_toArray, List.getElem_cons_succ, List.getElem_cons_zero]
        refine wp_app _ u8_elem (.const (.slice none 0 0)) (.tmp 20) rfl (wr.heap.size + 1) _ 0 [] rfl (World.ownsRow_nil _ _ _ _) _ _ 32 32 _ ?haa HRd.out (one_b _) (by decide) (by decide) (by simp) ?_
        case haa => go_simp
        intro v2 w2 hown2 hb2 _
        rw [Nat.zero_add, List.nil_append] at hown2
        obtain ⟨A2, c2, rfl, _, _⟩ := own_slice hown2
        have hB2 := HB0.out.drew.below hb2 (Nat.lt_succ_self _)
        have hS2 : (fun w' : World => w'.rangeAt wr.heap.size 0 r.cs) w2 := hB2.range
        refine hK.out _ _ hS2 ?_
        clear hK K
        (try simp only [Act.put, List.setIfInBounds_toArray, List.set_cons_zero, List.set_cons_succ])
        refine wpAnyH_call (i := 6) (by kernel_rfl) rfl (by kernel_rfl) fun K hK => ?_
        simp only [List.getElem_toArray, List.getElem_cons_succ, List.getElem_cons_zero]
        go_simp
        go_at_call 36
        refine (HM.out _).mono ?_
        rintro e w3 ⟨A3, c3, rfl, hown3, hb3⟩
        have hB3 := hB2.kept hb3
        have hS3 : (fun w' : World => w'.rangeAt wr.heap.size 0 r.cs) w3 := hB3.range
        refine hK.out _ _ hS3 ?_
        clear hK K
        (try simp only [Act.put, List.setIfInBounds_toArray, List.set_cons_zero, List.set_cons_succ])
        refine wpAnyH_call (i := 7) (by kernel_rfl) rfl (by kernel_rfl) fun K hK => ?_
        simp only [List.getElem_toArray, List.getElem_cons_succ, List.getElem_cons_zero]
        refine wp_app _ u8_elem (.tmp 21) (.tmp 23) rfl (wr.heap.size + 1) _ 32 _ ?hba (own_kept hown2 hb3) _ _ 44 c3 _ ?hca (Rd.of_own hown3) (one_b _) (by decide) (by decide) ?hda ?_
        case hba => go_simp
        case hca => go_simp
        case hda => have := hb2.size; have := hb3.size; simp at *; omega
        intro v4 w4 hown4 hb4 _
        obtain ⟨A4, c4, rfl, _, _⟩ := own_slice hown4
        have hB4 := hB3.below hb4 (by omega)
        have hS4 : (fun w' : World => w'.rangeAt wr.heap.size 0 r.cs) w4 := hB4.range
        refine hK.out _ _ hS4 ?_
        clear hK K
        (try simp only [Act.put, List.setIfInBounds_toArray, List.set_cons_zero, List.set_cons_succ])
        refine wpAnyH_call (i := 8) (by kernel_rfl) rfl (by kernel_rfl) fun K hK => ?_
        simp only [List.getElem_toArray, List.getElem_cons_succ, List.getElem_cons_zero]
        go_simp
        go_at_call 17
        have hrd4 := Rd.of_own hown4
        rw [← List.flatMap_append] at hrd4
        refine (HK.out _ A4 c4 hrd4).mono ?_
        rintro e w5 ⟨rfl, hb5⟩
        have hB5 := hB4.kept hb5
        have hS5 : (fun w' : World => w'.rangeAt wr.heap.size 0 r.cs) w5 := hB5.range
        refine hK.out _ _ hS5 ?_
        clear hK K
        (try simp only [Act.put, List.setIfInBounds_toArray, List.set_cons_zero, List.set_cons_succ])
        refine wpAnyH_take (i := 9) (v := ?va9) rfl (by kernel_rfl) (by kernel_rfl) (by kernel_rfl) (fun _ _ _ h => h) (Or.inl ⟨by kernel_rfl, ?hya9⟩) hS5 ?resta9
        case hya9 =>
          intro w hSw
          clear hSw
          go_simp
          first | done | with_reducible rfl
        (try simp only [Act.put, List.setIfInBounds_toArray, List.set_cons_zero, List.set_cons_succ])
        have hbA : RowKit.Below (wr.heap.size + 1) (wr.alloc (.cells r.cs.toArray 61)).drew w5 := by
          have h2 : wr.heap.size + 1 ≤ w2.heap.size := by have := hb2.size; simp at this; omega
          have h3 := Nat.le_trans h2 hb3.size
          have h4 := Nat.le_trans h3 hb4.size
          exact ((hb2.trans (hb3.mono h2)).trans hb4).trans (hb5.mono h4)
        have hR5 := HB1.out.drew.below hbA (by omega)
        have hZ5 := HZ2.out.drew.below hbA (by omega)
        refine wpAnyH_call (i := 10) (by kernel_rfl) rfl (by kernel_rfl) fun K hK => ?_
        simp only [List.getElem_toArray, List.getElem_cons_succ, List.getElem_cons_zero]
        refine wp_store_mid 26 (.tmp 26) (.tmp 25) rfl w.heap.size 0 (ob.flatMap encB).toArray ?hea ?hfa (hR5.there (by rw [List.append_nil, List.size_toArray, List.size_toArray, flatB_len, flatB_len, HRo.out.len, HOl.out]; omega)) (by rw [List.size_toArray, flatB_len, HOl.out]; kernel_rfl) (all_oneCell_toArray (one_b ob)) ?_
        case hea => go_simp
        case hfa => go_simp
        refine hK.out _ _ ((hB5.same (heap_setCells (by omega) _ _ _)).range) ?_
        clear hK K
        (try simp only [Act.put, List.setIfInBounds_toArray, List.set_cons_zero, List.set_cons_succ])
        refine wpAnyH_done (by kernel_rfl) ?_ _
        have hR6 := hR5.setCells (ob.flatMap encB) 0 _ _
        rw [HSet.out ob HOl.out] at hR6
        rw [show 32 * 0 = 0 from rfl] at HE
        rw [← HE.out, ← HSt.out] at hR6
        have HN : Hid (Blk (w5.setCells w.heap.size 0 (ob.flatMap encB)) w.heap.size 54 ((onR rg (l.take (k + 1))).flatMap encB ++ []).toArray ∧ Blk (w5.setCells w.heap.size 0 (ob.flatMap encB)) (w.heap.size + 1) 54 (Array.replicate 64 (.int .u8 0)) ∧ RowKit.Below w.heap.size w (w5.setCells w.heap.size 0 (ob.flatMap encB))) :=
          Lib.hid ⟨hR6, hZ5.same (heap_setCells (by omega) _ _ _), (HBw.out.drew.trans (hbA.mono (by omega))).trans (near_setCells _ _ _ _ (Nat.le_refl _))⟩
        clear hR6 hR5 hZ5 hB5 hB4 hB3 hB2 hS1 hS2 hS3 hS4 hS5 hbA hb2 hb3 hb4 hb5 hown2 hown3 hown4 hrd4
        go_wp2
        go_roundw
        case rel => exact ⟨k + 1, by omega, by go_num, HN⟩
        case measure => simp [intOf]; omega
      case neg =>
        clear rdk
        rw [HZ.out] at HSet HRd
        rw [HGo.out] at HE
        clear key HGo
        go_upto_region 7 with (first
          | (refine wpList_load_mid rfl 61 (.tmp 12) rfl b (o + k * 35) (by rfl) r.cs _ HRg.out Tryd.underlying61 rfl (by rw [HLn.out]; kernel_rfl) ?_))
        have hS1 : (fun w' : World => w'.rangeAt wr.heap.size 0 r.cs) (wr.alloc (.cells r.cs.toArray 61)).drew := HB0.out.range
        refine wp_region_held_drew (S := fun w' : World => w'.rangeAt wr.heap.size 0 r.cs) (by kernel_rfl) hS1 (fun hHeld => ?_)
        clear hHeld
        refine wpAnyH_take (i := 0) (v := ?vb0) rfl (by kernel_rfl) (by kernel_rfl) (by kernel_rfl) (fun _ _ _ h => h) (Or.inl ⟨by kernel_rfl, ?hyb0⟩) hS1 ?restb0
        case hyb0 =>
          intro w hSw
          clear hSw
          go_simp
          first | done | with_reducible rfl
        (try simp only [Act.put, List.setIfInBounds_toArray, List.set_cons_zero, List.set_cons_succ])
        refine wpAnyH_take (i := 1) (v := ?vb1) rfl (by kernel_rfl) (by kernel_rfl) (by kernel_rfl) (fun _ _ _ h => h) (Or.inl ⟨by kernel_rfl, ?hyb1⟩) hS1 ?restb1
        case hyb1 =>
          intro w hSw
          clear hSw
          go_simp
          first | done | with_reducible rfl
        (try simp only [Act.put, List.setIfInBounds_toArray, List.set_cons_zero, List.set_cons_succ])
        refine wpAnyH_take (i := 2) (v := ?vb2) rfl (by kernel_rfl) (by kernel_rfl) (by kernel_rfl) (fun _ _ _ h => h) (Or.inl ⟨by kernel_rfl, ?hyb2⟩) hS1 ?restb2
        case hyb2 =>
          intro w hSw
          clear hSw
          go_simp
          first | done | with_reducible rfl
        (try simp only [Act.put, List.setIfInBounds_toArray, List.set_cons_zero, List.set_cons_succ])
        refine wpAnyH_take (i := 3) (v := ?vb3) rfl (by kernel_rfl) (by kernel_rfl) (by kernel_rfl) (fun _ _ _ h => h) (Or.inl ⟨by kernel_rfl, ?hyb3⟩) hS1 ?restb3
        case hyb3 =>
          intro w hSw
          clear hSw
          go_simp
          first | done | with_reducible rfl
        (try simp only [Act.put, List.setIfInBounds_toArray, List.set_cons_zero, List.set_cons_succ])
        refine wpAnyH_take (i := 5) (v := .agg r.cs.toArray) rfl (by kernel_rfl) (by kernel_rfl) (by kernel_rfl) (fun _ _ _ h => h) ?hlb hS1 ?_
        case hlb =>
          refine Or.inl ⟨by kernel_rfl, fun w1 hSw => ?_⟩
          refine exec_load_mid 61 (.tmp 6) rfl wr.heap.size 0 ?hxb r.cs _ hSw Tryd.underlying61 rfl (by rw [HLn.out]; kernel_rfl)
          case hxb => go_simp
        (try simp only [Act.put, List.setIfInBounds_toArray, List.set_cons_zero, List.set_cons_succ])
        refine wpAnyH_call (i := 4) (by kernel_rfl) rfl (by kernel_rfl) fun K hK => ?_
        simp only [List.getElem_toArray, List.getElem_cons_succ, List.getElem_cons_zero]
        refine wp_app _ u8_elem (.const (.slice none 0 0)) (.tmp 20) rfl (wr.heap.size + 1) _ 0 [] rfl (World.ownsRow_nil _ _ _ _) _ _ 32 32 _ ?hab HRd.out (one_b _) (by decide) (by decide) (by simp) ?_
        case hab => go_simp
        intro v2 w2 hown2 hb2 _
        rw [Nat.zero_add, List.nil_append] at hown2
        obtain ⟨A2, c2, rfl, _, _⟩ := own_slice hown2
        have hB2 := HB0.out.drew.below hb2 (Nat.lt_succ_self _)
        have hS2 : (fun w' : World => w'.rangeAt wr.heap.size 0 r.cs) w2 := hB2.range
        refine hK.out _ _ hS2 ?_
        clear hK K
        (try simp only [Act.put, List.setIfInBounds_toArray, List.set_cons_zero, List.set_cons_succ])
        refine wpAnyH_call (i := 6) (by kernel_rfl) rfl (by kernel_rfl) fun K hK => ?_
        simp only [List.getElem_toArray, List.getElem_cons_succ, List.getElem_cons_zero]
        go_simp
        go_at_call 36
        refine (HM.out _).mono ?_
        rintro e w3 ⟨A3, c3, rfl, hown3, hb3⟩
        have hB3 := hB2.kept hb3
        have hS3 : (fun w' : World => w'.rangeAt wr.heap.size 0 r.cs) w3 := hB3.range
        refine hK.out _ _ hS3 ?_
        clear hK K
        (try simp only [Act.put, List.setIfInBounds_toArray, List.set_cons_zero, List.set_cons_succ])
        refine wpAnyH_call (i := 7) (by kernel_rfl) rfl (by kernel_rfl) fun K hK => ?_
        simp only [List.getElem_toArray, List.getElem_cons_succ, List.getElem_cons_zero]
        refine wp_app _ u8_elem (.tmp 21) (.tmp 23) rfl (wr.heap.size + 1) _ 32 _ ?hbb (own_kept hown2 hb3) _ _ 44 c3 _ ?hcb (Rd.of_own hown3) (one_b _) (by decide) (by decide) ?hdb ?_
        case hbb => go_simp
        case hcb => go_simp
        case hdb => have := hb2.size; have := hb3.size; simp at *; omega
        intro v4 w4 hown4 hb4 _
        obtain ⟨A4, c4, rfl, _, _⟩ := own_slice hown4
        have hB4 := hB3.below hb4 (by omega)
        have hS4 : (fun w' : World => w'.rangeAt wr.heap.size 0 r.cs) w4 := hB4.range
        refine hK.out _ _ hS4 ?_
        clear hK K
        (try simp only [Act.put, List.setIfInBounds_toArray, List.set_cons_zero, List.set_cons_succ])
        refine wpAnyH_call (i := 8) (by kernel_rfl) rfl (by kernel_rfl) fun K hK => ?_
        simp only [List.getElem_toArray, List.getElem_cons_succ, List.getElem_cons_zero]
        go_simp
        go_at_call 17
        have hrd4 := Rd.of_own hown4
        rw [← List.flatMap_append] at hrd4
        refine (HK.out _ A4 c4 hrd4).mono ?_
        rintro e w5 ⟨rfl, hb5⟩
        have hB5 := hB4.kept hb5
        have hS5 : (fun w' : World => w'.rangeAt wr.heap.size 0 r.cs) w5 := hB5.range
        refine hK.out _ _ hS5 ?_
        clear hK K
        (try simp only [Act.put, List.setIfInBounds_toArray, List.set_cons_zero, List.set_cons_succ])
        refine wpAnyH_take (i := 9) (v := ?vb9) rfl (by kernel_rfl) (by kernel_rfl) (by kernel_rfl) (fun _ _ _ h => h) (Or.inl ⟨by kernel_rfl, ?hyb9⟩) hS5 ?restb9
        case hyb9 =>
          intro w hSw
          clear hSw
          go_simp
          first | done | with_reducible rfl
        (try simp only [Act.put, List.setIfInBounds_toArray, List.set_cons_zero, List.set_cons_succ])
        have hbA : RowKit.Below (wr.heap.size + 1) (wr.alloc (.cells r.cs.toArray 61)).drew w5 := by
          have h2 : wr.heap.size + 1 ≤ w2.heap.size := by have := hb2.size; simp at this; omega
          have h3 := Nat.le_trans h2 hb3.size
          have h4 := Nat.le_trans h3 hb4.size
          exact ((hb2.trans (hb3.mono h2)).trans hb4).trans (hb5.mono h4)
        have hR5 := HB1.out.drew.below hbA (by omega)
        have hZ5 := HZ2.out.drew.below hbA (by omega)
        refine wpAnyH_call (i := 10) (by kernel_rfl) rfl (by kernel_rfl) fun K hK => ?_
        simp only [List.getElem_toArray, List.getElem_cons_succ, List.getElem_cons_zero]
        refine wp_store_mid 26 (.tmp 26) (.tmp 25) rfl w.heap.size 32 (ob.flatMap encB).toArray ?heb ?hfb (hR5.there (by rw [List.append_nil, List.size_toArray, List.size_toArray, flatB_len, flatB_len, HRo.out.len, HOl.out]; omega)) (by rw [List.size_toArray, flatB_len, HOl.out]; kernel_rfl) (all_oneCell_toArray (one_b ob)) ?_
        case heb => go_simp
        case hfb => go_simp
        refine hK.out _ _ ((hB5.same (heap_setCells (by omega) _ _ _)).range) ?_
        clear hK K
        (try simp only [Act.put, List.setIfInBounds_toArray, List.set_cons_zero, List.set_cons_succ])
        refine wpAnyH_done (by kernel_rfl) ?_ _
        have hR6 := hR5.setCells (ob.flatMap encB) 32 _ _
        rw [HSet.out ob HOl.out] at hR6
        rw [show 32 * 1 = 32 from rfl] at HE
        rw [← HE.out, ← HSt.out] at hR6
        have HN : Hid (Blk (w5.setCells w.heap.size 32 (ob.flatMap encB)) w.heap.size 54 ((onR rg (l.take (k + 1))).flatMap encB ++ []).toArray ∧ Blk (w5.setCells w.heap.size 32 (ob.flatMap encB)) (w.heap.size + 1) 54 (Array.replicate 64 (.int .u8 0)) ∧ RowKit.Below w.heap.size w (w5.setCells w.heap.size 32 (ob.flatMap encB))) :=
          Lib.hid ⟨hR6, hZ5.same (heap_setCells (by omega) _ _ _), (HBw.out.drew.trans (hbA.mono (by omega))).trans (near_setCells _ _ _ _ (Nat.le_refl _))⟩
        clear hR6 hR5 hZ5 hB5 hB4 hB3 hB2 hS1 hS2 hS3 hS4 hS5 hbA hb2 hb3 hb4 hb5 hown2 hown3 hown4 hrd4
        go_wp2
        go_roundw
        case rel => exact ⟨k + 1, by omega, by go_num, HN⟩
        case measure => simp [intOf]; omega
    · have e : k = n := by omega
      rw [e, List.take_of_length_le (by rw [HL.out]; exact Nat.le_refl _), List.append_nil] at HI
      clear e
      have HOl := Lib.hid (HG.out.on l).len
      obtain ⟨ob, hob⟩ : ∃ x, onR rg l = x := ⟨_, rfl⟩
      rw [hob] at HI HOl
      have HOb := Lib.hid hob
      clear hob
      have HLn := Lib.hid (show (ob.flatMap encB).length = 64 by rw [flatB_len, HOl.out])
      go_wp2_with (first
        | (refine wpList_load_mid rfl 54 (.tmp 2) rfl w.heap.size 0 (by rfl) (ob.flatMap encB) _ HI.out.1.range Tryd.underlying54 rfl (by rw [HLn.out]; kernel_rfl) ?_)
        | (refine wpList_store_regs rfl (.tmp 4) (.tmp 28) rfl (w.heap.size + 1) ob HOl.out (by rfl) (by rfl) HI.out.2.1 (by simp) ?_; intro w6 hB6 hbl6 hz6 hh6))
      exact bodyPost_ret (res_cell1 rfl (b := w.heap.size + 1) (o := 0) (cs := ob.flatMap encB) rfl hB6.range Tryd.underlying54 rfl (by rw [HLn.out]; kernel_rfl)) rfl ⟨by rw [HOb.out], HI.out.2.2.trans (hbl6 _ (Nat.le_succ _))⟩
end Go.Proofs.YtjcklmhkdpbbdaaDoor
