/- Chapter 25: the document's record read out of bytes. -/
import Derived.Test.YtjcklmhkdpbbdaaDoorMeasV
import Derived.Test.YtjcklmhkdpbbdaaDoorMeasQ
namespace Go.Proofs.YtjcklmhkdpbbdaaDoor
set_option linter.unusedVariables false
open Go.RowKit Go.Sort
def nAt (s : Nat) (l : List Int) (a : Nat) : Int := numB ((l.drop a).take s)
theorem nAt_bd {s : Nat} {l : List Int} (h : BytesOk l) {a : Nat} (hl : a + s ≤ l.length) : 0 ≤ nAt s l a ∧ nAt s l a < 256 ^ s :=
  numB_bd s ((l.drop a).take s) (by simp; omega) (fun x hx => h x (List.mem_of_mem_drop (List.mem_of_mem_take hx)))
def subB (l : List Int) (a m : Nat) : List Int := (l.drop a).take m
theorem Rd.subB {w : World} {B n b o : Nat} {l : List Int} (h : Rd w B 1 (some ⟨b, o, none⟩) n (l.flatMap encB)) (hl : l.length = n) {a m : Nat} (ha : a + m ≤ n) : Rd w B 1 (some ⟨b, o + a, none⟩) m ((subB l a m).flatMap encB) := by
  refine ⟨by rw [flatB_len]; simp [Proofs.YtjcklmhkdpbbdaaDoor.subB]; omega, fun hm => ?_⟩
  obtain ⟨b', o', he, hb, _⟩ := h.2 (by omega)
  simp only [Option.some.injEq, Addr.mk.injEq, and_true] at he
  obtain ⟨rfl, rfl⟩ := he
  exact ⟨b, o + a, rfl, hb, h.rangeB hl ha⟩
theorem arrayAt_run' (w : World) (b o c : Nat) : (Instr.arrayAt 26 (.slice (some ⟨b, o, none⟩) 32 c)).run Tryd.prog w = .ok (.pointer (some ⟨b, o, none⟩)) w := arrayAt_run w b o c
theorem subB_len {l : List Int} {a m : Nat} (h : a + m ≤ l.length) : (subB l a m).length = m := by simp [subB]; omega
theorem subB_ok {l : List Int} (h : BytesOk l) (a m : Nat) : BytesOk (subB l a m) := fun x hx => h x (List.mem_of_mem_drop (List.mem_of_mem_take hx))
theorem range_below {w W : World} {b o B : Nat} {cs : List Value} (h : w.rangeAt b o cs) (hb : b < B) (hw : Below B w W) : W.rangeAt b o cs := fun j v hv => (hw.cell (p := ⟨b, o + j, none⟩) hb).trans (h j v hv)
/-- One result, in a box of its own. -/
theorem results_cell1 {P : Program} {fn : Func} {a : Tmp} {ty : TypeId} (h : fn.results = #[.cell a ty]) {tmps : Array Value} {w : World} {b o : Nat} {cs : List Value} {d : TypeDesc} (ha : tmps.getD a undef = .pointer (some ⟨b, o, none⟩))
    (hc : w.rangeAt b o cs) (hu : P.underlying ty = some d) (hd : d.isRow = true) (hi : (P.info? ty).map (·.size) = some cs.length) : (results fn tmps).run P w = .ok (.agg cs.toArray) w := by
  have h1 := run_loadVar_mid w b o ty cs d hc hu hd hi
  have ha' : tmps[a]?.getD undef = .pointer (some ⟨b, o, none⟩) := by rw [← ha]; simp
  simp [results, h, ha', asAddr, h1]
/-- The document's number at a place, in whatever world keeps the bytes. -/
theorem refNumAt {A : Option Addr} {n c s : Nat} {l : List Int} {w : World} (hl : l.length = n) (hok : BytesOk l) (hm : n ≤ 1000000) (hs : s ≤ 8) (hr : Rd w w.heap.size 1 A n (l.flatMap encB)) {a : Nat} {i : Int} (hi : (a : Int) = i) (h : a + s ≤ n) (W : World) (hb : Below w.heap.size w W) :
    Calls Tryd.prog 81 #[.slice A n c, .int .i64 i, .int .i64 s, .bool false] W fun e w' => e = .returned (.tuple #[.int .u64 (nAt s l a), .bool true]) ∧ W = w' := by
  rw [← hi]
  exact refNumber_yes A n c s l a false W hl hok (by omega) hs h ((hr.below hb).more hb.size)
theorem recAt_n (l : List Int) (a : Nat) : recAt l a = ⟨nAt 4 l a, nAt 4 l (a + 4), nAt 4 l (a + 8), subB l (a + 12) 32⟩ := rfl

set_option maxRecDepth 100000 in
set_option maxHeartbeats 4000000 in
theorem refRecord_any (A : Option Addr) (n c : Nat) (l : List Int) (a : Nat) (w : World) (hl : l.length = n) (hok : BytesOk l) (hm : n ≤ 30000) (hnc : n ≤ c) (h : a + 44 ≤ n) (hr : Rd w w.heap.size 1 A n (l.flatMap encB)) :
    Calls Tryd.prog 72 #[.slice A n c, .int .i64 a] w fun e w' => e = .returned (.agg (recAt l a).cs.toArray) ∧ Below w.heap.size w w' := by
  obtain ⟨b, o, rfl, hb0, _⟩ := hr.2 (by omega)
  have N0 := Lib.hid (fun W hb => refNumAt (s := 4) hl hok (by omega) (by decide) hr (a := a) rfl (by omega) (c := c) W hb)
  have N4 := Lib.hid (fun W hb => refNumAt (s := 4) hl hok (by omega) (by decide) hr (a := a + 4) (i := (a : Int) + 4) (by push_cast; rfl) (by omega) (c := c) W hb)
  have N8 := Lib.hid (fun W hb => refNumAt (s := 4) hl hok (by omega) (by decide) hr (a := a + 8) (i := (a : Int) + 8) (by push_cast; rfl) (by omega) (c := c) W hb)
  simp only [Int.cast_ofNat_Int] at N0 N4 N8
  have B0 := nAt_bd (s := 4) hok (a := a) (by omega)
  have B4 := nAt_bd (s := 4) hok (a := a + 4) (by omega)
  have B8 := nAt_bd (s := 4) hok (a := a + 8) (by omega)
  have HRg := Lib.hid (hr.rangeB hl (a := a + 12) (m := 32) (by omega))
  have hRec := recAt_n l a
  have hRok := recAt_ok hok (a := a) (by omega)
  have hdl : (subB l (a + 12) 32).length = 32 := subB_len (by omega)
  rw [show (l.drop (a + 12)).take 32 = subB l (a + 12) 32 from rfl] at HRg
  generalize nAt 4 l a = x0 at *
  generalize nAt 4 l (a + 4) = x4 at *
  generalize nAt 4 l (a + 8) = x8 at *
  generalize subB l (a + 12) 32 = dg at *
  have HD := Lib.hid (show (dg.flatMap encB).length = 32 by rw [flatB_len, hdl])
  have HBl := Lib.hid (fun W => built_rec W x0 x4 x8 dg hdl)
  rw [← hRec] at HBl
  generalize recAt l a = r at *
  clear hRec hdl hr hok hl
  have B0' : 0 ≤ x0 ∧ x0 < 4294967296 := by simpa using B0
  have B4' : 0 ≤ x4 ∧ x4 < 4294967296 := by simpa using B4
  have B8' : 0 ≤ x8 ∧ x8 < 4294967296 := by simpa using B8
  clear B0 B4 B8
  have HLn := Lib.hid (Rc.len hRok)
  have hsz : r.cs.toArray.size = 35 := by simp [Rc.len hRok]
  have hfl : r.cs.length = 35 := Rc.len hRok
  obtain ⟨Z, hZ, hz0, hZi⟩ := zero_rec
  have hst := store_rec hZ hZi HLn.out (Rc.one r)
  clear hZi
  have hAr := fun W => arrayAt_run' W b (o + (a + 12)) (c - (a + 12))
  have HbA := Lib.hid (bal (Below.refl w.heap.size w) (.cells Z 61))
  have HbB := Lib.hid (bal (Below.refl w.heap.size w) (.cells r.cs.toArray 61))
  have HBr := Lib.hid (Blk.new w 61 r.cs.toArray)
  have HRz := Lib.hid (range_below HRg.out hb0 HbA.out)
  have k1 : ¬ c = a + 12 := by omega
  have k2 : (a : Int) + 44 ≤ c := by omega
  go_enter Tryd.func72, Tryd.ntmps72
  go_wp2_with (first
    | (go_at_call 81; first
        | (with_reducible refine (N0.out _ HbA.out).mono ?_; rintro e w1 ⟨rfl, rfl⟩)
        | (with_reducible refine (N4.out _ HbA.out).mono ?_; rintro e w1 ⟨rfl, rfl⟩)
        | (with_reducible refine (N8.out _ HbA.out).mono ?_; rintro e w1 ⟨rfl, rfl⟩))
    | (refine wpList_load_mid rfl 26 (.tmp 43) rfl b (o + (a + 12)) (by rfl) (dg.flatMap encB) _ HRz.out Tryd.underlying26 rfl (by rw [HD.out]; kernel_rfl) ?_)
    | (refine wpList_built rfl 61 #[(0, .tmp 32), (1, .tmp 34), (2, .tmp 36), (3, .tmp 44)] rfl (vals := #[(0, .int .i64 x0), (1, .int .i64 x4), (2, .int .i64 x8), (3, .agg (dg.flatMap encB).toArray)]) (by go_simp) (HBl.out _) ?_))
  refine bodyPost_ret (results_cell1 rfl (b := w.heap.size) (o := 0) (cs := r.cs) rfl (HBr.out.rangeIn fun j v hv => by rw [Nat.zero_add]; simpa using hv) Tryd.underlying61 rfl (by rw [HLn.out]; kernel_rfl)) rfl ⟨rfl, HbB.out⟩
end Go.Proofs.YtjcklmhkdpbbdaaDoor
namespace Go.Proofs.YtjcklmhkdpbbdaaDoor
set_option linter.unusedVariables false
open Go.RowKit Go.Sort
theorem flatK_bytes : ∀ (l : List Int), FlatK (List.replicate l.length (.int .u8)) (l.flatMap encB)
  | [] => trivial
  | x :: l => ⟨rfl, flatK_bytes l⟩
theorem flatB_inj : ∀ {l l2 : List Int}, l.flatMap encB = l2.flatMap encB → l = l2
  | [], [], _ => rfl
  | x :: l, [], h => by simp [encB] at h
  | [], x :: l, h => by simp [encB] at h
  | x :: l, y :: l2, h => by
    simp only [List.flatMap_cons, encB, List.cons_append, List.nil_append, List.cons.injEq, Value.int.injEq, true_and] at h
    rw [h.1, flatB_inj h.2]
theorem flat_rc : flatOf Tryd.prog 5 61 = some (.int .i64 :: .int .i64 :: .int .i64 :: List.replicate 32 (.int .u8)) := by kernel_rfl
theorem flat_regs : flatOf Tryd.prog 5 54 = some (List.replicate 64 (.int .u8)) := by kernel_rfl
instance : DecidableEq Rc := fun a b => by
  obtain ⟨a1, a2, a3, a4⟩ := a
  obtain ⟨b1, b2, b3, b4⟩ := b
  exact decidable_of_iff (a1 = b1 ∧ a2 = b2 ∧ a3 = b3 ∧ a4 = b4) (by simp)
theorem rc_kinds {r : Rc} (h : RcOk r) : FlatK (.int .i64 :: .int .i64 :: .int .i64 :: List.replicate 32 (.int .u8)) r.cs := by
  have := flatK_bytes r.dig
  rw [h.len] at this
  exact ⟨rfl, rfl, rfl, this⟩
theorem rc_inj {x y : Rc} : x.cs = y.cs ↔ x = y := by
  constructor
  · intro h
    obtain ⟨a1, a2, a3, a4⟩ := x
    obtain ⟨b1, b2, b3, b4⟩ := y
    simp only [Rc.cs, List.cons.injEq, Value.int.injEq, true_and] at h
    obtain ⟨rfl, rfl, rfl, h⟩ := h
    rw [flatB_inj h]
  · rintro rfl; rfl
theorem rc_neq (w : World) {x y : Rc} (hx : RcOk x) (hy : RcOk y) : (binOp .neq 61 (.agg x.cs.toArray) (.agg y.cs.toArray)).run Tryd.prog w = .ok (.bool (!decide (x = y))) w := by
  have h := neq_flat w flat_rc (by kernel_rfl) (by decide) (by kernel_rfl) (rc_kinds hx) (rc_kinds hy)
  have e : eqLeaves x.cs y.cs = decide (x = y) := by
    rw [Bool.eq_iff_iff, eqLeaves_iff (rc_kinds hx) (rc_kinds hy), rc_inj]; simp
  rw [e] at h
  exact h
theorem range_drewN {w : World} {b o : Nat} {cs : List Value} (h : w.rangeAt b o cs) (n : Nat) : (w.drewN n).rangeAt b o cs := h
theorem take_step {α : Type} {l l2 : List α} {k : Nat} (h : l.take k = l2.take k) (h1 : k < l.length) (h2 : k < l2.length) (he : l[k] = l2[k]) : l.take (k + 1) = l2.take (k + 1) := by
  rw [List.take_succ_eq_append_getElem h1, List.take_succ_eq_append_getElem h2, h, he]

theorem quietAt_load {P : Program} {o : Oper} {a : Act} {C : World → Prop} {w : World} (ty : TypeId) (x : Operand) (ho : o.op = .load ty x) (b off : Nat) (hx : a.eval x = .pointer (some ⟨b, off, none⟩)) (cs : List Value) (d : TypeDesc)
    (hc : w.rangeAt b off cs) (hu : P.underlying ty = some d) (hd : d.isRow = true) (hi : (P.info? ty).map (·.size) = some cs.length) : o.quietAt P a C w (.agg cs.toArray) := by
  unfold Oper.quietAt execOp
  simp only [ho, hx, Instr.loadAt, Instr.sureAddr, Sem.run_bind, Sem.run_pure, Result.andThen_ok, run_loadVar_mid w b off ty cs d hc hu hd hi]
  exact ⟨rfl, rfl⟩
theorem wpQuiet_load {P : Program} {ops : Array Oper} {C : World → Prop} {Q : Act → Prop} {rest : List Oper} {o : Oper} {a : Act} (ty : TypeId) (x : Operand) (ho : o.op = .load ty x) (b off : Nat) (hx : a.eval x = .pointer (some ⟨b, off, none⟩)) (cs : List Value) (d : TypeDesc)
    (hc : ∀ w, C w → w.rangeAt b off cs) (hu : P.underlying ty = some d) (hd : d.isRow = true) (hi : (P.info? ty).map (·.size) = some cs.length) (hw : Region.wanted o (yielded ops a.tmps) = true)
    (h : wpQuiet P ops C Q rest (a.put o.dst (.agg cs.toArray))) : wpQuiet P ops C Q (o :: rest) a := by
  unfold wpQuiet
  rw [if_pos hw]
  exact ⟨_, fun w hC => quietAt_load ty x ho b off hx cs d (hc w hC) hu hd hi, h⟩
theorem range_drawn {w : World} {b o : Nat} {cs : List Value} (h : w.rangeAt b o cs) : ∀ W, (∃ n, W = w.drewN n) → W.rangeAt b o cs := by
  rintro W ⟨n, rfl⟩; exact h

set_option maxHeartbeats 4000000 in
theorem sameLog_any (A : Option Addr) (n c : Nat) (l : List Rc) (A2 : Option Addr) (n2 c2 : Nat) (l2 : List Rc) (w : World) (hn : n ≤ 9223372036854775807) (hl : l.length = n) (hl2 : l2.length = n2) (ho : ∀ r ∈ l, RcOk r) (ho2 : ∀ r ∈ l2, RcOk r)
    (hr : Rd w w.heap.size 35 A n (l.flatMap Rc.cs)) (hr2 : Rd w w.heap.size 35 A2 n2 (l2.flatMap Rc.cs)) :
    Calls Tryd.prog 33 #[.slice A n c, .slice A2 n2 c2] w fun e w' => e = .returned (.bool (decide (l = l2))) ∧ Below w.heap.size w w' := by
  by_cases hnn : n = n2
  · subst hnn
    obtain ⟨R, hR⟩ : ∃ R, decide (l = l2) = R := ⟨_, rfl⟩
    rw [hR]
    have HL := Lib.hid hl
    have HL2 := Lib.hid hl2
    have HO := Lib.hid ho
    have HO2 := Lib.hid ho2
    have HR := Lib.hid hr
    have HR2 := Lib.hid hr2
    have HRes := Lib.hid hR
    clear hl hl2 ho ho2 hr hr2 hR
    go_enter Tryd.func33, Tryd.ntmps33
    go_wp2
    go_loopw [5, 13] (fun _ i wr => ∃ k : Nat, k ≤ n ∧ i = .int .i64 k ∧ Hid (l.take k = l2.take k) ∧ Below w.heap.size w wr) (fun _ i _ => n - (intOf i).toNat)
    case atStart => exact ⟨0, by omega, rfl, Lib.hid rfl, Below.refl _ _⟩
    case round =>
      obtain ⟨k, hk, rfl, hh, hb⟩ := hrel
      by_cases hlt : k < n
      · have hlt1 : k < l.length := by rw [HL.out]; exact hlt
        have hlt2 : k < l2.length := by rw [HL2.out]; exact hlt
        obtain ⟨b, o, rfl, hbb, hc⟩ := (HR.out.below hb).range (fun x hx => Rc.len (HO.out x hx)) hlt1 HL.out
        obtain ⟨b2, o2, rfl, hbb2, hc2⟩ := (HR2.out.below hb).range (fun x hx => Rc.len (HO2.out x hx)) hlt2 HL2.out
        have ok1 := HO.out _ (List.getElem_mem hlt1)
        have ok2 := HO2.out _ (List.getElem_mem hlt2)
        have hi : (Tryd.prog.info? 61).map (·.size) = some (Rc.cs l[k]).length := by rw [Rc.len ok1]; kernel_rfl
        have hi2 : (Tryd.prog.info? 61).map (·.size) = some (Rc.cs l2[k]).length := by rw [Rc.len ok2]; kernel_rfl
        have hc := range_drawn hc
        have hc2 := range_drawn hc2
        have hE := fun W => rc_neq W ok1 ok2
        have hstep := Lib.hid (fun he => take_step hh.out hlt1 hlt2 he)
        have hbad : Hid (l[k] ≠ l2[k] → R = false) := Lib.hid (fun h => by rw [← HRes.out]; exact decide_eq_false (fun e => h (by simp only [e])))
        clear ok1 ok2
        generalize l[k] = x at *
        generalize l2[k] = y at *
        by_cases hxy : x = y
        · rw [decide_eq_true hxy] at hE
          have HX := Lib.hid hxy
          clear hxy
          go_wp2
          refine wp_region_quiet_lit (by kernel_rfl) (by kernel_rfl) ?_
          iterate 3 (quiet_step ((fail)))
          refine wpQuiet_load 61 (.tmp 18) rfl b (o + k * 35) (by rfl) (Rc.cs x) _ hc Tryd.underlying61 rfl hi (by kernel_rfl) ?_
          iterate 3 (quiet_step ((fail)))
          refine wpQuiet_load 61 (.tmp 22) rfl b2 (o2 + k * 35) (by rfl) (Rc.cs y) _ hc2 Tryd.underlying61 rfl hi2 (by kernel_rfl) ?_
          quiet_step ((fail))
          refine wpQuiet_nil ?_
          intro _ hw'
          obtain ⟨nq, hw''⟩ := hw'
          subst hw''
          go_wp2
          go_roundw
          case rel => exact ⟨k + 1, by omega, by go_num, Lib.hid (hstep.out HX.out), below_drewN hb _⟩
          case measure => simp [intOf]; omega
        · rw [decide_eq_false hxy] at hE
          have HX := Lib.hid hxy
          clear hxy
          go_wp2
          refine wp_region_quiet_lit (by kernel_rfl) (by kernel_rfl) ?_
          iterate 3 (quiet_step ((fail)))
          refine wpQuiet_load 61 (.tmp 18) rfl b (o + k * 35) (by rfl) (Rc.cs x) _ hc Tryd.underlying61 rfl hi (by kernel_rfl) ?_
          iterate 3 (quiet_step ((fail)))
          refine wpQuiet_load 61 (.tmp 22) rfl b2 (o2 + k * 35) (by rfl) (Rc.cs y) _ hc2 Tryd.underlying61 rfl hi2 (by kernel_rfl) ?_
          quiet_step ((fail))
          refine wpQuiet_nil ?_
          intro _ hw'
          obtain ⟨nq, hw''⟩ := hw'
          subst hw''
          go_wp2
          go_ret
          exact ⟨by rw [hbad.out HX.out]; rfl, below_drewN hb _⟩
      · obtain rfl : k = n := by omega
        go_wp2
        go_ret
        have e := hh.out
        rw [List.take_of_length_le (by rw [HL.out]; exact Nat.le_refl _), List.take_of_length_le (by rw [HL2.out]; exact Nat.le_refl _)] at e
        exact ⟨by rw [← HRes.out, decide_eq_true e]; rfl, hb⟩
  · have e1 : ((n : Int) != (n2 : Int)) = true := by rw [bne_iff_ne]; omega
    have hne : ¬ l = l2 := fun e => hnn (by rw [← hl, ← hl2, e])
    rw [decide_eq_false hne]
    clear hr hr2 ho ho2 hl hl2 hne hnn
    go_enter Tryd.func33, Tryd.ntmps33
    go_wp2
    go_ret
    exact ⟨rfl, Below.refl _ _⟩

theorem regs_eql (w : World) {x y : List Int} (hx : x.length = 64) (hy : y.length = 64) : (binOp .eql 54 (.agg (x.flatMap encB).toArray) (.agg (y.flatMap encB).toArray)).run Tryd.prog w = .ok (.bool (decide (x = y))) w := by
  have kx := flatK_bytes x
  have ky := flatK_bytes y
  rw [hx] at kx
  rw [hy] at ky
  have h := eql_flat w flat_regs (by kernel_rfl) (by decide) (by kernel_rfl) kx ky
  have e : eqLeaves (x.flatMap encB) (y.flatMap encB) = decide (x = y) := by
    rw [Bool.eq_iff_iff, eqLeaves_iff kx ky, decide_eq_true_eq]
    exact ⟨flatB_inj, fun e => by rw [e]⟩
  rw [e] at h
  exact h
theorem regs_neq (w : World) {x y : List Int} (hx : x.length = 64) (hy : y.length = 64) : (binOp .neq 54 (.agg (x.flatMap encB).toArray) (.agg (y.flatMap encB).toArray)).run Tryd.prog w = .ok (.bool (!decide (x = y))) w := by
  have kx := flatK_bytes x
  have ky := flatK_bytes y
  rw [hx] at kx
  rw [hy] at ky
  have h := neq_flat w flat_regs (by kernel_rfl) (by decide) (by kernel_rfl) kx ky
  have e : eqLeaves (x.flatMap encB) (y.flatMap encB) = decide (x = y) := by
    rw [Bool.eq_iff_iff, eqLeaves_iff kx ky, decide_eq_true_eq]
    exact ⟨flatB_inj, fun e => by rw [e]⟩
  rw [e] at h
  exact h
end Go.Proofs.YtjcklmhkdpbbdaaDoor
