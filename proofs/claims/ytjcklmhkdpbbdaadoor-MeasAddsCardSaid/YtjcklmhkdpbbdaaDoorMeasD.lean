/- Chapter 25, the law MeasAdds: a log tells what was added, and its fold: the walk. -/
import Derived.Test.YtjcklmhkdpbbdaaDoorMeasO
namespace Go.Proofs.YtjcklmhkdpbbdaaDoor
set_option linter.unusedVariables false
set_option linter.unusedSimpArgs false
open Go.RowKit Go.Sort Go.ChangeShapes

theorem reg0_lit : (reg0.flatMap encB).toArray = #[Value.int .u8 0, Value.int .u8 0, Value.int .u8 0, Value.int .u8 0, Value.int .u8 0, Value.int .u8 0, Value.int .u8 0, Value.int .u8 0, Value.int .u8 0, Value.int .u8 0, Value.int .u8 0, Value.int .u8 0, Value.int .u8 0, Value.int .u8 0, Value.int .u8 0, Value.int .u8 0, Value.int .u8 0, Value.int .u8 0, Value.int .u8 0, Value.int .u8 0, Value.int .u8 0, Value.int .u8 0, Value.int .u8 0, Value.int .u8 0, Value.int .u8 0, Value.int .u8 0, Value.int .u8 0, Value.int .u8 0, Value.int .u8 0, Value.int .u8 0, Value.int .u8 0, Value.int .u8 0, Value.int .u8 0, Value.int .u8 0, Value.int .u8 0, Value.int .u8 0, Value.int .u8 0, Value.int .u8 0, Value.int .u8 0, Value.int .u8 0, Value.int .u8 0, Value.int .u8 0, Value.int .u8 0, Value.int .u8 0, Value.int .u8 0, Value.int .u8 0, Value.int .u8 0, Value.int .u8 0, Value.int .u8 0, Value.int .u8 0, Value.int .u8 0, Value.int .u8 0, Value.int .u8 0, Value.int .u8 0, Value.int .u8 0, Value.int .u8 0, Value.int .u8 0, Value.int .u8 0, Value.int .u8 0, Value.int .u8 0, Value.int .u8 0, Value.int .u8 0, Value.int .u8 0, Value.int .u8 0] := by kernel_rfl
theorem flat_rcs_len {l : List Rc} (h : RcsOk l) : (l.flatMap Rc.cs).length = l.length * 35 := by
  induction l with
  | nil => rfl
  | cons r l ih =>
    rw [List.flatMap_cons, List.length_append, Rc.len (h r (List.mem_cons_self ..)), ih (fun x hx => h x (List.mem_cons_of_mem _ hx)), List.length_cons]
    omega
theorem zlog_c65 : (zlog 0)[65]? = some (.int .i64 0) := by kernel_rfl
set_option maxRecDepth 100000 in
set_option maxHeartbeats 4000000 in
theorem measAdds_any (A : Option Addr) (n c : Nat) (at_ : Int) (l : List Rc) (w : World) (hl : l.length = n) (hnc : n ≤ c) (hn : n ≤ 9223372036854775807) (hc : c ≤ 9223372036854775807) (h0 : RcsOk l) (hr : Rd w w.heap.size 35 A n (l.flatMap Rc.cs)) (hT : Tabs w) :
    Calls Tryd.prog 8 #[.slice A n c, .int .i64 at_] w fun e w' => e = .returned (.bool true) ∧ Below w.heap.size w w' := by
  have HA := Lib.hid (awake25_any w hT)
  by_cases h40 : n ≤ 40
  · have h40I : ¬ (40 : Int) < (n : Int) := by omega
    have HL := Lib.hid hl
    have HR := Lib.hid hr
    have H0 := Lib.hid h0
    have HT := Lib.hid hT
    have hs2 := hT.size
    have HBz := Lib.hid build_log0
    have hzc := zlog_c65
    have hzs : (zlog 0).size = 66 := by kernel_rfl
    clear hl hr h0 hT hn
    go_enter Tryd.func8, Tryd.ntmps8
    go_upto_region 7 with (first
      | (go_at_call 28; refine HA.out.mono ?_; rintro e w1 ⟨rfl, hb1⟩)
      | (go_at_call 29; refine (lnew_any _ (Nat.le_trans hs2 hb1.size)).mono ?_; rintro e w2 ⟨rfl, hL2, hb2⟩))
    have hZ3 := Blk.new w2 58 (zlog 0)
    have hb3 := bal (Below.refl w2.heap.size w2) (.cells (zlog 0) 58)
    generalize zlog 0 = Z at *
    refine wp_region_lit ?_
    refine wpList_built rfl 58 #[] rfl (vals := #[]) (by simp) (HBz.out _) ?_
    go_upto_region 8 with (fail)
    have HI0 : Hid (LogAt (w2.alloc (.cells Z 58)) w1.heap.size (l.take 0) (.slice none 0 0) ∧ Blk (w2.alloc (.cells Z 58)) w2.heap.size 58 Z ∧ RowKit.Below w.heap.size w (w2.alloc (.cells Z 58))) :=
      Lib.hid ⟨hL2.kept hb3, hZ3, (hb1.trans (hb2.mono hb1.size)).trans (hb3.mono (Nat.le_trans hb1.size hb2.size))⟩
    have HG := Lib.hid hb1.size
    have HGz : Hid (w1.heap.size < w2.heap.size) := Lib.hid hL2.lt
    clear hb1 hb2 hb3 hL2 hZ3 HBz HA
    generalize w2.alloc _ = w3 at *
    generalize w1.heap.size = g at *
    generalize w2.heap.size = gz at *
    go_wp2
    go_loopw [20] (fun i wr => ∃ k : Nat, k ≤ n ∧ i = .int .i64 k ∧ ∃ v, Hid (LogAt wr g (l.take k) v ∧ Blk wr gz 58 Z ∧ RowKit.Below w.heap.size w wr)) (fun i _ => n - (intOf i).toNat)
    case atStart => exact ⟨0, by omega, rfl, _, HI0⟩
    case round =>
      obtain ⟨k, hk, rfl, v, HI⟩ := hrel
      clear HI0
      by_cases hlt : k < n
      · have hlt' : k < l.length := by rw [HL.out]; exact hlt
        obtain ⟨b, o, rfl, hbb, hcl⟩ := (HR.out.below HI.out.2.2).range (fun r hr => Rc.len (H0.out r hr)) hlt' HL.out
        have HRg := Lib.hid hcl
        have HT1 := Lib.hid (List.take_succ_eq_append_getElem hlt')
        have hok := H0.out _ (List.getElem_mem hlt')
        have HTl := Lib.hid (show (l.take (k + 1)).length = k + 1 by rw [List.length_take, HL.out]; omega)
        have HTk := Lib.hid (show (l.take k).length ≤ 1000 by rw [List.length_take, HL.out]; omega)
        clear hcl
        generalize l[k] = r at *
        have HLn := Lib.hid (Rc.len hok)
        have hsz : r.cs.toArray.size = 35 := by simp [Rc.len hok]
        have hfl : r.cs.length = 35 := Rc.len hok
        obtain ⟨Z0, hZ0, hz0, hZi⟩ := zero_rec
        have hst := store_rec hZ0 hZi HLn.out (Rc.one r)
        clear hZi
        have hbx := bal (Below.refl wr.heap.size wr) (.cells r.cs.toArray 61)
        have HBx := Lib.hid (Blk.new wr 61 r.cs.toArray)
        have hbw := HI.out.2.2.trans (hbx.mono HI.out.2.2.size)
        have HX := Lib.hid (ladd_yes g (l.take k) v r (wr.alloc (.cells r.cs.toArray 61)) hok (HI.out.1.kept hbx) (HT.out.kept hbw) HTk.out)
        rw [← HT1.out] at HX
        have HZ2 := Lib.hid (HI.out.2.1.kept hbx)
        have HBw := Lib.hid hbw
        have HOwn := Lib.hid HI.out.1.own
        have HZw := Lib.hid HI.out.2.1
        have HGl := Lib.hid HI.out.1.lt
        have HXn := Lib.hid (fun W => ladd_nil r W hok)
        have HXz := Lib.hid (fun W (hz : Blk W gz 58 Z) => ladd_zero gz r W hok ((hz.cell 65).trans hzc) hz.lt)
        clear HI hbx hbw hok
        go_upto_region 11 with (refine wpList_load_mid rfl 61 (.tmp 23) rfl b (o + k * 35) (by rfl) r.cs _ HRg.out Tryd.underlying61 rfl (by rw [HLn.out]; kernel_rfl) ?_)
        go_upto_region 12 with (first
          | (refine wpList_load_mid rfl 61 (.tmp 9) rfl wr.heap.size 0 (by rfl) r.cs _ HBx.out.range Tryd.underlying61 rfl (by rw [HLn.out]; kernel_rfl) ?_)
          | (go_at_call 30; (with_reducible refine HX.out.mono ?_); rintro e w2 ⟨rfl, ⟨v2, hL2⟩, hn2⟩))
        have hgz := HGz.out
        have hgg := HG.out
        have hZ2 : Blk w2 gz 58 Z := HZ2.out.same (hn2.block _ HZ2.out.lt (fun h => h.elim (fun h => by omega) (fun h => own_blk_ne HOwn.out (HZw.out) (by decide) h.symm)))
        have hBx2 : Blk w2 wr.heap.size 61 r.cs.toArray := HBx.out.same (hn2.block _ HBx.out.lt (fun h => h.elim (fun h => by have := HGl.out; omega) (fun h => by have := (own_lt HOwn.out h).2; omega)))
        have hb2 : RowKit.Below w.heap.size w w2 := (Near.of_below _ HBw.out).trans hn2 |>.below (fun i h => h.elim (fun h => by omega) (fun h => by have := (own_lt HOwn.out h).1; omega)) (Nat.le_refl _)
        have HL2 := Lib.hid hL2
        clear hn2 hL2 HX HZ2 HBx HBw HOwn
        go_upto_region 14 with (first
          | (refine wpList_load_mid rfl 61 (.tmp 9) rfl wr.heap.size 0 (by rfl) r.cs _ hBx2.range Tryd.underlying61 rfl (by rw [HLn.out]; kernel_rfl) ?_)
          | (go_at_call 30; (with_reducible refine (HXn.out _).mono ?_); rintro e w3 ⟨rfl, hb3⟩; have hBx3 := hBx2.kept hb3)
          | (refine wpList_load_mid rfl 61 (.tmp 9) rfl wr.heap.size 0 (by rfl) r.cs _ hBx3.range Tryd.underlying61 rfl (by rw [HLn.out]; kernel_rfl) ?_)
          | (go_at_call 30; (with_reducible refine (HXz.out _ (hZ2.kept hb3)).mono ?_); rintro e w4 ⟨rfl, hb4⟩))
        have hb24 := hb3.trans (hb4.mono hb3.size)
        have HN4 : Hid (LogAt w4 g (l.take (k + 1)) v2 ∧ Blk w4 gz 58 Z ∧ RowKit.Below w.heap.size w w4) := Lib.hid ⟨HL2.out.kept hb24, hZ2.kept hb24, hb2.trans (hb24.mono hb2.size)⟩
        clear hb3 hb4 hb24 HL2 hZ2 hBx2 hBx3 hb2 HXn HXz hst hz0
        by_cases hat : (k : Int) = at_
        · subst hat
          have G1 := Lib.hid (lregs_yes g (l.take (k + 1)) v2 w4.drew HN4.out.1.drew)
          have hrf := ((HR.out.below HN4.out.2.2).more HN4.out.2.2.size).front (k := k + 1) (by omega)
          have hcut : (l.flatMap Rc.cs).take ((k + 1) * 35) = (l.take (k + 1)).flatMap Rc.cs := by
            have := congrArg (List.take ((k + 1) * 35)) (congrArg (List.flatMap Rc.cs) (List.take_append_drop (k + 1) l)).symm
            rw [List.flatMap_append, List.take_left' (by rw [flat_rcs_len (fun r hr => H0.out r (List.mem_of_mem_take hr)), HTl.out])] at this
            exact this
          rw [hcut] at hrf
          have HRf := Lib.hid hrf
          have HOk1 : Hid (RcsOk (l.take (k + 1))) := Lib.hid fun r hr => H0.out r (List.mem_of_mem_take hr)
          have G2 := Lib.hid (fun W (hb : Below w4.heap.size w4 W) => refFold_any (some ⟨b, o, none⟩) (k + 1) c (l.take (k + 1)) W HTl.out (by omega) HOk1.out ((HRf.out.below hb).more hb.size))
          have G3 := Lib.hid (fun W (hb : Below w4.heap.size w4 W) => lrecs_yes g (l.take (k + 1)) v2 W (HN4.out.1.kept hb) (by rw [HTl.out]; omega))
          rw [HTl.out] at G3
          have hneq := fun W => neq_2n (reg0_ok.on (l.take (k + 1))).len W
          generalize onR reg0 (l.take (k + 1)) = ob at *
          have p1 : IntKind.i64.wrap ((k : Int) + 1) = (k : Int) + 1 := IntWalk.i64_in _ (by omega)
          have p2 : (k : Int) + 1 ≤ (c : Int) := by omega
          have p3 : 0 ≤ (k : Int) + 1 := by omega
          have p4 : ((k : Int) + 1).toNat = k + 1 := by omega
          clear hrf hcut
          refine wp_region_held_drew (S := fun _ : World => True) (by kernel_rfl) trivial (fun hHeld => ?_)
          clear hHeld
          refine wpAnyH_take (i := 0) (v := ?va0) rfl (by kernel_rfl) (by kernel_rfl) (by kernel_rfl) (fun _ _ _ h => h) (Or.inl ⟨by kernel_rfl, ?hya0⟩) trivial ?resta0
          case hya0 =>
            intro w hSw
            clear hSw
            go_simp
            first | done | with_reducible rfl
          (try simp only [List.getElem_toArray, List.getElem_cons_succ, List.getElem_cons_zero, Act.put, List.setIfInBounds_toArray, List.set_cons_zero, List.set_cons_succ])
          refine wpAnyH_take (i := 1) (v := ?va1) rfl (by kernel_rfl) (by kernel_rfl) (by kernel_rfl) (fun _ _ _ h => h) (Or.inl ⟨by kernel_rfl, ?hya1⟩) trivial ?resta1
          case hya1 =>
            intro w hSw
            clear hSw
            go_simp
            first | done | with_reducible rfl
          (try simp only [List.getElem_toArray, List.getElem_cons_succ, List.getElem_cons_zero, Act.put, List.setIfInBounds_toArray, List.set_cons_zero, List.set_cons_succ])
          refine wpAnyH_take (i := 2) (v := ?va2) rfl (by kernel_rfl) (by kernel_rfl) (by kernel_rfl) (fun _ _ _ h => h) (Or.inl ⟨by kernel_rfl, ?hya2⟩) trivial ?resta2
          case hya2 =>
            intro w hSw
            clear hSw
            go_simp
            first | done | with_reducible rfl
          (try simp only [List.getElem_toArray, List.getElem_cons_succ, List.getElem_cons_zero, Act.put, List.setIfInBounds_toArray, List.set_cons_zero, List.set_cons_succ])
          refine wpAnyH_take (i := 3) (v := ?va3) rfl (by kernel_rfl) (by kernel_rfl) (by kernel_rfl) (fun _ _ _ h => h) (Or.inl ⟨by kernel_rfl, ?hya3⟩) trivial ?resta3
          case hya3 =>
            intro w hSw
            clear hSw
            go_simp
            first | done | with_reducible rfl
          (try simp only [List.getElem_toArray, List.getElem_cons_succ, List.getElem_cons_zero, Act.put, List.setIfInBounds_toArray, List.set_cons_zero, List.set_cons_succ])
          refine wpAnyH_take (i := 4) (v := ?va4) rfl (by kernel_rfl) (by kernel_rfl) (by kernel_rfl) (fun _ _ _ h => h) (Or.inl ⟨by kernel_rfl, ?hya4⟩) trivial ?resta4
          case hya4 =>
            intro w hSw
            clear hSw
            go_simp
            first | done | with_reducible rfl
          (try simp only [List.getElem_toArray, List.getElem_cons_succ, List.getElem_cons_zero, Act.put, List.setIfInBounds_toArray, List.set_cons_zero, List.set_cons_succ])
          refine wpAnyH_take (i := 6) (v := ?va6) rfl (by kernel_rfl) (by kernel_rfl) (by kernel_rfl) (fun _ _ _ h => h) (Or.inl ⟨by kernel_rfl, ?hya6⟩) trivial ?resta6
          case hya6 =>
            intro w hSw
            clear hSw
            go_simp
            first | done | with_reducible rfl
          (try simp only [List.getElem_toArray, List.getElem_cons_succ, List.getElem_cons_zero, Act.put, List.setIfInBounds_toArray, List.set_cons_zero, List.set_cons_succ])
          refine wpAnyH_take (i := 7) (v := ?va7) rfl (by kernel_rfl) (by kernel_rfl) (by kernel_rfl) (fun _ _ _ h => h) (Or.inl ⟨by kernel_rfl, ?hya7⟩) trivial ?resta7
          case hya7 =>
            intro w hSw
            clear hSw
            go_simp
            first | done | with_reducible rfl
          (try simp only [List.getElem_toArray, List.getElem_cons_succ, List.getElem_cons_zero, Act.put, List.setIfInBounds_toArray, List.set_cons_zero, List.set_cons_succ])
          refine wpAnyH_take (i := 8) (v := ?va8) rfl (by kernel_rfl) (by kernel_rfl) (by kernel_rfl) (fun _ _ _ h => h) (Or.inl ⟨by kernel_rfl, ?hya8⟩) trivial ?resta8
          case hya8 =>
            intro w hSw
            clear hSw
            go_simp
            first | done | with_reducible rfl
          (try simp only [List.getElem_toArray, List.getElem_cons_succ, List.getElem_cons_zero, Act.put, List.setIfInBounds_toArray, List.set_cons_zero, List.set_cons_succ])
          refine wpAnyH_take (i := 9) (v := ?va9) rfl (by kernel_rfl) (by kernel_rfl) (by kernel_rfl) (fun _ _ _ h => h) (Or.inl ⟨by kernel_rfl, ?hya9⟩) trivial ?resta9
          case hya9 =>
            intro w hSw
            clear hSw
            go_simp
            first | done | with_reducible rfl
          (try simp only [List.getElem_toArray, List.getElem_cons_succ, List.getElem_cons_zero, Act.put, List.setIfInBounds_toArray, List.set_cons_zero, List.set_cons_succ])
          refine wpAnyH_call (i := 5) (by kernel_rfl) rfl (by kernel_rfl) fun K hK => ?_
          simp only [List.getElem_toArray, List.getElem_cons_succ, List.getElem_cons_zero]
          go_simp
          go_at_call 31
          refine G1.out.mono ?_
          rintro e w5 ⟨rfl, hb5⟩
          have hb5x : RowKit.Below w4.heap.size w4 w5 := ((Below.refl w4.heap.size w4).drew).trans hb5
          refine hK.out _ _ trivial ?_
          clear hK K
          (try simp only [List.getElem_toArray, List.getElem_cons_succ, List.getElem_cons_zero, Act.put, List.setIfInBounds_toArray, List.set_cons_zero, List.set_cons_succ])
          refine wpAnyH_call (i := 10) (by kernel_rfl) rfl (by kernel_rfl) fun K hK => ?_
          simp only [List.getElem_toArray, List.getElem_cons_succ, List.getElem_cons_zero]
          go_simp
          go_at_call 32
          refine (G2.out _ hb5x).mono ?_
          rintro e w6 ⟨rfl, hb6⟩
          have hb6x := hb5x.trans (hb6.mono hb5x.size)
          refine hK.out _ _ trivial ?_
          clear hK K
          (try simp only [List.getElem_toArray, List.getElem_cons_succ, List.getElem_cons_zero, Act.put, List.setIfInBounds_toArray, List.set_cons_zero, List.set_cons_succ])
          refine wpAnyH_take (i := 11) (v := ?va11) rfl (by kernel_rfl) (by kernel_rfl) (by kernel_rfl) (fun _ _ _ h => h) (Or.inl ⟨by kernel_rfl, ?hya11⟩) trivial ?resta11
          case hya11 =>
            intro w hSw
            clear hSw
            go_simp
            first | done | with_reducible rfl
          (try simp only [List.getElem_toArray, List.getElem_cons_succ, List.getElem_cons_zero, Act.put, List.setIfInBounds_toArray, List.set_cons_zero, List.set_cons_succ])
          refine wpAnyH_take (i := 12) (v := ?va12) rfl (by kernel_rfl) (by kernel_rfl) (by kernel_rfl) (fun _ _ _ h => h) (Or.inl ⟨by kernel_rfl, ?hya12⟩) trivial ?resta12
          case hya12 =>
            intro w hSw
            clear hSw
            go_simp
            first | done | with_reducible rfl
          (try simp only [List.getElem_toArray, List.getElem_cons_succ, List.getElem_cons_zero, Act.put, List.setIfInBounds_toArray, List.set_cons_zero, List.set_cons_succ])
          refine wpAnyH_take (i := 13) (v := ?va13) rfl (by kernel_rfl) (by kernel_rfl) (by kernel_rfl) (fun _ _ _ h => h) (Or.inl ⟨by kernel_rfl, ?hya13⟩) trivial ?resta13
          case hya13 =>
            intro w hSw
            clear hSw
            go_simp
            first | done | with_reducible rfl
          (try simp only [List.getElem_toArray, List.getElem_cons_succ, List.getElem_cons_zero, Act.put, List.setIfInBounds_toArray, List.set_cons_zero, List.set_cons_succ])
          refine wpAnyH_take (i := 15) (v := ?va15) rfl (by kernel_rfl) (by kernel_rfl) (by kernel_rfl) (fun _ _ _ h => h) (Or.inl ⟨by kernel_rfl, ?hya15⟩) trivial ?resta15
          case hya15 =>
            intro w hSw
            clear hSw
            go_simp
            first | done | with_reducible rfl
          (try simp only [List.getElem_toArray, List.getElem_cons_succ, List.getElem_cons_zero, Act.put, List.setIfInBounds_toArray, List.set_cons_zero, List.set_cons_succ])
          refine wpAnyH_take (i := 16) (v := ?va16) rfl (by kernel_rfl) (by kernel_rfl) (by kernel_rfl) (fun _ _ _ h => h) (Or.inl ⟨by kernel_rfl, ?hya16⟩) trivial ?resta16
          case hya16 =>
            intro w hSw
            clear hSw
            go_simp
            first | done | with_reducible rfl
          (try simp only [List.getElem_toArray, List.getElem_cons_succ, List.getElem_cons_zero, Act.put, List.setIfInBounds_toArray, List.set_cons_zero, List.set_cons_succ])
          refine wpAnyH_take (i := 17) (v := ?va17) rfl (by kernel_rfl) (by kernel_rfl) (by kernel_rfl) (fun _ _ _ h => h) (Or.inl ⟨by kernel_rfl, ?hya17⟩) trivial ?resta17
          case hya17 =>
            intro w hSw
            clear hSw
            go_simp
            first | done | with_reducible rfl
          (try simp only [List.getElem_toArray, List.getElem_cons_succ, List.getElem_cons_zero, Act.put, List.setIfInBounds_toArray, List.set_cons_zero, List.set_cons_succ])
          refine wpAnyH_take (i := 18) (v := ?va18) rfl (by kernel_rfl) (by kernel_rfl) (by kernel_rfl) (fun _ _ _ h => h) (Or.inl ⟨by kernel_rfl, ?hya18⟩) trivial ?resta18
          case hya18 =>
            intro w hSw
            clear hSw
            go_simp
            first | done | with_reducible rfl
          (try simp only [List.getElem_toArray, List.getElem_cons_succ, List.getElem_cons_zero, Act.put, List.setIfInBounds_toArray, List.set_cons_zero, List.set_cons_succ])
          refine wpAnyH_call (i := 14) (by kernel_rfl) rfl (by kernel_rfl) fun K hK => ?_
          simp only [List.getElem_toArray, List.getElem_cons_succ, List.getElem_cons_zero]
          go_simp
          go_at_call 34
          refine (G3.out _ hb6x).mono ?_
          rintro e w7 ⟨A7, c7, rfl, hown7, hb7⟩
          have hb7x := hb6x.trans (hb7.mono hb6x.size)
          refine hK.out _ _ trivial ?_
          clear hK K
          (try simp only [List.getElem_toArray, List.getElem_cons_succ, List.getElem_cons_zero, Act.put, List.setIfInBounds_toArray, List.set_cons_zero, List.set_cons_succ])
          refine wpAnyH_call (i := 19) (by kernel_rfl) rfl (by kernel_rfl) fun K hK => ?_
          simp only [List.getElem_toArray, List.getElem_cons_succ, List.getElem_cons_zero]
          go_simp
          go_at_call 33
          refine (sameLog_any A7 (k + 1) c7 (l.take (k + 1)) (some ⟨b, o, none⟩) (k + 1) c (l.take (k + 1)) _ (by omega) HTl.out HTl.out HOk1.out HOk1.out (Rd.of_own hown7) ((HRf.out.below hb7x).more hb7x.size)).mono ?_
          rintro e w8 ⟨rfl, hb8⟩
          have hb8x := hb7x.trans (hb8.mono hb7x.size)
          rw [decide_eq_true (rfl : l.take (k + 1) = l.take (k + 1))]
          refine hK.out _ _ trivial ?_
          clear hK K
          (try simp only [List.getElem_toArray, List.getElem_cons_succ, List.getElem_cons_zero, Act.put, List.setIfInBounds_toArray, List.set_cons_zero, List.set_cons_succ])
          refine wpAnyH_take (i := 20) (v := ?va20) rfl (by kernel_rfl) (by kernel_rfl) (by kernel_rfl) (fun _ _ _ h => h) (Or.inl ⟨by kernel_rfl, ?hya20⟩) trivial ?resta20
          case hya20 =>
            intro w hSw
            clear hSw
            go_simp
            first | done | with_reducible rfl
          (try simp only [List.getElem_toArray, List.getElem_cons_succ, List.getElem_cons_zero, Act.put, List.setIfInBounds_toArray, List.set_cons_zero, List.set_cons_succ])
          refine wpAnyH_take (i := 21) (v := ?va21) rfl (by kernel_rfl) (by kernel_rfl) (by kernel_rfl) (fun _ _ _ h => h) (Or.inl ⟨by kernel_rfl, ?hya21⟩) trivial ?resta21
          case hya21 =>
            intro w hSw
            clear hSw
            go_simp
            first | done | with_reducible rfl
          (try simp only [List.getElem_toArray, List.getElem_cons_succ, List.getElem_cons_zero, Act.put, List.setIfInBounds_toArray, List.set_cons_zero, List.set_cons_succ])
          refine wpAnyH_take (i := 22) (v := ?va22) rfl (by kernel_rfl) (by kernel_rfl) (by kernel_rfl) (fun _ _ _ h => h) (Or.inl ⟨by kernel_rfl, ?hya22⟩) trivial ?resta22
          case hya22 =>
            intro w hSw
            clear hSw
            go_simp
            first | done | with_reducible rfl
          (try simp only [List.getElem_toArray, List.getElem_cons_succ, List.getElem_cons_zero, Act.put, List.setIfInBounds_toArray, List.set_cons_zero, List.set_cons_succ])
          refine wpAnyH_done (by kernel_rfl) ?_ _
          have HN : Hid (LogAt w8 g (l.take (k + 1)) v2 ∧ Blk w8 gz 58 Z ∧ RowKit.Below w.heap.size w w8) := Lib.hid ⟨HN4.out.1.kept hb8x, HN4.out.2.1.kept hb8x, HN4.out.2.2.trans (hb8x.mono HN4.out.2.2.size)⟩
          clear hb5 hb6 hb7 hb8 hb5x hb6x hb7x hb8x hown7 HN4 G1 G2 G3 hneq p1 p2 p3 p4
          go_wp2
          go_roundw
          case rel => exact ⟨k + 1, by omega, by go_num, v2, HN⟩
          case measure => simp [intOf]; omega
        · have hat' : ((k : Int) == at_) = false := by simpa using hat
          go_quiet ((fail))
          have HN : ∀ m, Hid (LogAt (w4.drewN m) g (l.take (k + 1)) v2 ∧ Blk (w4.drewN m) gz 58 Z ∧ RowKit.Below w.heap.size w (w4.drewN m)) := fun m => Lib.hid ⟨HN4.out.1.kept (below_drewN (Below.refl _ _) m), HN4.out.2.1.kept (below_drewN (Below.refl _ _) m), below_drewN HN4.out.2.2 m⟩
          clear HN4
          go_wp2
          go_roundw
          case rel => exact ⟨k + 1, by omega, by go_num, v2, HN _⟩
          case measure => simp [intOf]; omega
      · have e : k = n := by omega
        rw [e, List.take_of_length_le (by rw [HL.out]; exact Nat.le_refl _)] at HI
        clear e
        have G1 := Lib.hid (lregs_yes g l v wr HI.out.1)
        have G2 := Lib.hid (fun W (hb : Below wr.heap.size wr W) => refFold_any A n c l W HL.out (by omega) H0.out ((HR.out.below (HI.out.2.2.trans (hb.mono HI.out.2.2.size))).more (Nat.le_trans HI.out.2.2.size hb.size)))
        have G3 := Lib.hid (fun W (hb : Below wr.heap.size wr W) => lrecs_yes g l v W (HI.out.1.kept hb) (by rw [HL.out]; omega))
        have G4 := Lib.hid (fun W => lregs_nil W)
        have G5 := Lib.hid (fun W (hb : Below wr.heap.size wr W) => lrecs_zero gz W (((HI.out.2.1.kept hb).cell 65).trans hzc))
        rw [HL.out] at G3
        have heq := fun W => eq_2n (reg0_ok.on l).len W
        have heq0 := fun W => eq_2n reg0_ok.len W
        generalize onR reg0 l = ob at *
        rw [reg0_lit] at heq0 G4
        have HBw := Lib.hid HI.out.2.2
        go_wp2_with (first
          | (go_at_call 31; (with_reducible refine G1.out.mono ?_); rintro e w5 ⟨rfl, hb5⟩)
          | (go_at_call 32; refine (G2.out _ hb5).mono ?_; rintro e w6 ⟨rfl, hb6⟩; have hb6 := hb5.trans (hb6.mono hb5.size))
          | (go_at_call 34; (with_reducible refine (G3.out _ hb6).mono ?_); rintro e w7 ⟨A7, c7, rfl, hown7, hb7⟩; have hb7 := hb6.trans (hb7.mono hb6.size); have hbw7 := HBw.out.trans (hb7.mono HBw.out.size))
          | (go_at_call 33; refine (sameLog_any A7 n c7 l A n c l _ (by omega) HL.out HL.out H0.out H0.out (Rd.of_own hown7) ((HR.out.below hbw7).more hbw7.size)).mono ?_; rintro e w8 ⟨rfl, hb8⟩; have hb8 := hb7.trans (hb8.mono hb7.size); rw [decide_eq_true (rfl : l = l)])
          | (go_at_call 31; (with_reducible refine (G4.out _).mono ?_); rintro e w9 ⟨rfl, hb9⟩; have hb9 := hb8.trans (hb9.mono hb8.size))
          | (go_at_call 34; (with_reducible refine (G5.out _ hb9).mono ?_); rintro e w10 ⟨rfl, rfl⟩))
        go_ret
        exact ⟨rfl, HBw.out.trans (hb9.mono HBw.out.size)⟩
  · have h40I : (40 : Int) < (n : Int) := by omega
    clear hr hT hl h0
    go_enter Tryd.func8, Tryd.ntmps8
    go_wp2_with (go_at_call 28; refine HA.out.mono ?_; rintro e w1 ⟨rfl, hb1⟩)
    go_ret
    exact ⟨rfl, hb1⟩
set_option maxRecDepth 100000 in
theorem measAdds_law : LawWalkL Tryd.prog 8 Tryd.f8 := by
  intro H enc W base args ds p hval hA hlt hfz hsz hT
  rw [Tryd.params8] at hA hval
  obtain ⟨v0, v1, d0, d1, p0, p1, rfl, rfl, rfl, h0, h1⟩ := trodAll_two hA
  obtain ⟨A, n, c, l, rfl, hnc, hn, hc, hl, ho, hr⟩ := open_recs (hval 0 51 v0 rfl rfl) h0 (fun x hx => hlt x (by simp [hx]))
  obtain ⟨x, rfl, _, rfl, wn⟩ := open_int Tryd.underlying3 (hval 1 3 v1 rfl rfl) h1
  exact measAdds_any A n c x l W hl hnc hn hc ho hr hT
end Go.Proofs.YtjcklmhkdpbbdaaDoor
