/- Chapter 22, the interrupts that started guests name: an iterator. -/
import Derived.Test.YtnhlcfkjhacedaaIrqA
import Derived.Test.YtnhlcfkjhacedaaVcB
namespace Go.Proofs.Ytnhlcfkjhacedaa
set_option linter.unusedVariables false
open Go.RowKit Go.Shelf
attribute [local go_sem] Oper.semAt_some

theorem wpListIn_load_mid {F : Fence} {n : Nat} {P : Program} {ops : Array Oper} {rest : List Oper} {op : Oper} {a : Act} {w : World} {Q : Exit → Act → World → Prop} (hgd : op.guard = none) (ty : TypeId) (x : Operand) (ho : op.op = .load ty x)
    (b o : Nat) (hx : a.eval x = .pointer (some ⟨b, o, none⟩)) (cs : List Value) (d : TypeDesc) (hc : w.rangeAt b o cs)
    (hu : P.underlying ty = some d) (hd : d.isRow = true) (hi : (P.info? ty).map (·.size) = some cs.length)
    (h : wpListIn F n P ops Q rest (a.put op.dst (.agg cs.toArray)) w) : wpListIn F n P ops Q (op :: rest) a w := by
  refine wpListIn_plain hgd fun K hK' => ?_
  unfold Oper.wpIn
  refine ⟨?_, ?_⟩
  · simp [Oper.about, ho]
  · rw [Oper.semAt_plain F _ _ (by rw [ho]; intro c hc'; cases hc')]
    simp only [execOp, ho, hx, Instr.loadAt, Instr.sureAddr, Sem.run_bind, Sem.run_pure, Result.andThen_ok, run_loadVar_mid w b o ty cs d hc hu hd hi]
    exact hK' _ _ h

/-- Of the blocks below N0 only gl may turn. -/
def KpI (gl N0 : Nat) (W W' : World) : Prop := Near (fun i => i = gl ∨ N0 ≤ i) W W'
theorem kpI_t {gl N0 : Nat} {A B C : World} (h : KpI gl N0 A B) (k : KpI gl N0 B C) : KpI gl N0 A C := Near.trans h k
theorem kpI_b {gl : Nat} {w : World} (W : World) (l : Nat) (o o' : Obj) (hl : w.heap.size ≤ l) (h : W.heap[l]? = some o) (_ : o.isCells = false) (_ : o.isWalk = false) : KpI gl w.heap.size W (W.putObj l o') :=
  (Near.refl _ W).grown (grownBy_putObj' W l o') (fun k e => by cases e; exact .inr hl)

def encX (x : Nat × Iq) : Array Value := #[.int .i64 x.1, .agg #[.int .i64 x.2.num, .int .i64 x.2.cpu, .bool x.2.edge]]

set_option maxRecDepth 100000 in
set_option maxHeartbeats 4000000 in
theorem named1_in (F : Fence) (n : Nat) (hf : F.fn 46) (hro : F.round = none) (hn : 1 ≤ n) (l Bc Bs gl N0 : Nat) (w0 : World) (hN0 : N0 ≤ w0.heap.size)
    (ver : Int) (A : Option Addr) (ng c : Nat) (A2 : Option Addr) (n2 c2 : Nat) (A3 : Option Addr) (c3 : Nat) (gs : List Gd) (st : List Bool) (hng : ng ≤ 20) (hl3 : st.length = ng)
    (hBc : ∀ W, KpI gl N0 w0 W → Blk W Bc 33 #[.int .u32 ver, .slice A ng c, .slice A2 n2 c2]) (hBs : ∀ W, KpI gl N0 w0 W → Blk W Bs 34 #[.slice A3 ng c3])
    (hfew : ∀ k, k < ng → fewG (gs.getD k zG) = true)
    (hg : ∀ W, KpI gl N0 w0 W → GsOk W N0 ng gs) (hr : ∀ W, KpI gl N0 w0 W → GRows W A ng gs) (hr3 : ∀ W, KpI gl N0 w0 W → Rd W N0 1 A3 ng (st.flatMap encBl))
    (J Jx : List (Nat × Iq) → World → Prop) (hJ : ∀ pre W o, J pre W → J pre (W.alloc o))
    (hY : ∀ pre x W, J pre W → pre.length < (namedK st gs ng).length → YieldAt F (n - 1) Try.prog l (encX x) W fun e W' =>
      (e = .returned (.bool true) ∧ J (pre ++ [x]) W' ∧ KpI gl N0 W W') ∨ (e = .returned (.bool false) ∧ Jx (pre ++ [x]) W'))
    (W : World) (hW : KpI gl N0 w0 W) (h0 : J [] W) :
    CallsIn F n Try.prog 46 #[.func (.yield l) #[] #[], .pointer (some ⟨Bc, 0, none⟩), .pointer (some ⟨Bs, 0, none⟩)] W fun e W' => (∃ v, e = .returned v) ∧
      ((∃ ys, ys = namedK st gs ng ∧ J ys W') ∨ (∃ pre, pre <+: namedK st gs ng ∧ Jx pre W')) := by
  have HL3 := Lib.hid hl3
  have HBC := Lib.hid hBc
  have HBS := Lib.hid hBs
  have HF := Lib.hid hfew
  have HG := Lib.hid hg
  have HR := Lib.hid hr
  have HR3 := Lib.hid hr3
  have HJ := Lib.hid hJ
  have hcC := (hBc W hW).cell
  have HN0 := Lib.hid hN0
  clear hl3 hBc hBs hfew hg hr hr3 hJ hN0
  refine callsIn_of_wp Try.func46 rfl hf ?_ hro
  simp only [Try.ntmps46, List.size_toArray, List.length_cons, List.length_nil, Nat.reduceAdd, Nat.reduceSub, Array.replicate_succ, Array.replicate_zero, List.push_toArray, List.append_toArray, List.nil_append, List.cons_append]
  gi_wp2
  clear hcC
  gi_loopw [11] (fun i wr => ∃ k : Nat, k ≤ ng ∧ i = .int .i64 k ∧ J (namedK st gs k) wr ∧ KpI gl N0 w0 wr) (fun i _ => ng - (intOf i).toNat)
  case atStart => exact ⟨0, by omega, rfl, h0, hW⟩
  case round =>
    obtain ⟨k, hk, rfl, hJk, hb⟩ := hrel
    clear h0 hW
    by_cases hlt : k < ng
    · obtain ⟨b, o, rfl, hbb, hrg⟩ := HR.out wr hb k hlt
      have hgk := HG.out wr hb k hlt
      have hfk := HF.out k hlt
      have hcS := (HBS.out wr hb).cell
      have hlS := (HBS.out wr hb).lt
      obtain ⟨b3, o3, rfl, hb3, hc3⟩ := (HR3.out wr hb).row (fun _ => rfl) (k := k) (by rw [HL3.out]; exact hlt) HL3.out
      have d3 := hc3 0 (by omega)
      have hg3 : st.getD k false = st[k]'(by rw [HL3.out]; exact hlt) := by rw [List.getD_eq_getElem?_getD, List.getElem?_eq_getElem (by rw [HL3.out]; exact hlt)]; rfl
      simp only [encBl, Nat.add_zero, Nat.mul_one, List.getElem?_cons_zero] at d3
      have hstep : namedK st gs (k + 1) = namedK st gs k ++ if st.getD k false then (gs.getD k zG).irqs.map (fun q => (k, q)) else [] := rfl
      have hmid := fun (h : st.getD k false = true) (j : Nat) => namedK_mid (gs := gs) (j := j) hlt h
      rw [hg3] at hstep hmid
      have HRi := Lib.hid (fun W (hW : KpI gl N0 w0 W) => (HG.out W hW k hlt).ri)
      generalize gs.getD k zG = gd at *
      have hlen := hgk.len
      obtain ⟨Z, hZ, hz0, hZi⟩ := zero_guest
      have hst := store_guest hZ hZi hlen hgk.one
      have hsz : gd.cs.toArray.size = 79 := by simp [hlen]
      have hl3' : b3 < wr.heap.size := Nat.lt_of_lt_of_le hb3 (Nat.le_trans HN0.out hb.size)
      clear hc3 hg3 hZi
      generalize st[k]'(by rw [HL3.out]; exact hlt) = sk at *
      cases sk
      case false =>
        have HN := Lib.hid (show namedK st gs (k + 1) = namedK st gs k by rw [hstep]; simp)
        have HRg := Lib.hid hrg
        clear hstep hrg hmid
        gi_wp2_with (refine wpListIn_load_mid rfl 54 (.tmp 14) rfl b (o + k * 79) (by rfl) gd.cs _ HRg.out Try.underlying54 rfl (by rw [hlen]; kernel_rfl) ?_)
        go_roundw
        case rel => exact ⟨k + 1, by omega, by go_num, by rw [HN.out]; exact HJ.out _ _ _ hJk, Near.alloc hb _⟩
        case measure => simp [intOf]; omega
      case true =>
        have HN := Lib.hid (show namedK st gs (k + 1) = namedK st gs k ++ gd.irqs.map (fun q => (k, q)) by rw [hstep]; simp)
        have HM := Lib.hid (hmid rfl)
        have HRg := Lib.hid hrg
        have d77 := cell_guest wr gd.cs 77
        rw [hgk.cI] at d77
        have hI70 : gd.nI ≤ 70 := by
          simp [fewG] at hfk
          omega
        have HLi := Lib.hid hgk.li
        clear hstep hrg hmid hfk hgk
        generalize gd.cs = cs at *
        generalize gd.irqs = irqs at *
        generalize gd.AI = AI at *
        generalize gd.nI = nI at *
        generalize gd.cI = cI at *
        gi_wp2_with (refine wpListIn_load_mid rfl 54 (.tmp 14) rfl b (o + k * 79) (by rfl) cs _ HRg.out Try.underlying54 rfl (by rw [hlen]; kernel_rfl) ?_)
        have hb2 : KpI gl N0 w0 (wr.alloc (.cells cs.toArray 54)) := Near.alloc hb _
        have hJ2 := HJ.out _ _ (.cells cs.toArray 54) hJk
        clear hz0 hst d77 HRg hcS d3
        gi_loopw [24] (fun i wi => ∃ j : Nat, j ≤ nI ∧ i = .int .i64 j ∧ J (namedK st gs k ++ (irqs.take j).map (fun q => (k, q))) wi ∧ KpI gl N0 w0 wi) (fun i _ => nI - (intOf i).toNat)
        case atStart => exact ⟨0, by omega, rfl, by simpa using hJ2, hb2⟩
        case round =>
          obtain ⟨j, hj, rfl, hJj, hbj⟩ := hrel
          clear hJ2 hb2
          by_cases hjl : j < nI
          · have hjl' : j < irqs.length := by rw [HLi.out]; exact hjl
            obtain ⟨b7, o7, rfl, hb7, hc7⟩ := (HRi.out wr hbj).row (fun _ => rfl) hjl' HLi.out
            have d0 := hc7 0 (by omega)
            have d1 := hc7 1 (by omega)
            have d2 := hc7 2 (by omega)
            simp only [encIq, Nat.add_zero, List.getElem?_cons_zero, List.getElem?_cons_succ] at d0 d1 d2
            have HT := Lib.hid (show namedK st gs k ++ (irqs.take (j + 1)).map (fun q => (k, q)) = (namedK st gs k ++ (irqs.take j).map (fun q => (k, q))) ++ [(k, irqs[j])] by
              rw [List.take_succ_eq_append_getElem hjl', List.map_append, List.append_assoc]; rfl)
            have hlen2 : (namedK st gs k ++ (irqs.take j).map (fun q => (k, q))).length < (namedK st gs ng).length := by
              have h1 := (HM.out (j + 1)).length_le
              rw [HT.out] at h1
              simp only [List.length_append, List.length_cons, List.length_nil] at h1 ⊢
              omega
            have HP := Lib.hid (HM.out (j + 1))
            have hl7 : b7 < wr.heap.size := Nat.lt_of_lt_of_le hb7 (Nat.le_trans HN0.out hbj.size)
            clear hc7
            generalize irqs[j] = q at *
            obtain ⟨qn, qc, qe⟩ := q
            simp only at d0 d1 d2
            have hbj2 : KpI gl N0 w0 (wr.alloc (.cells #[.int .i64 qn, .int .i64 qc, .bool qe] 56)) := Near.alloc hbj _
            obtain ⟨fn, tmps, assign, body, hy, hR⟩ := hY _ (k, ⟨qn, qc, qe⟩) _ (HJ.out _ _ (.cells #[.int .i64 qn, .int .i64 qc, .bool qe] 56) hJj) hlen2
            clear hlen2
            unfold encX at hy
            simp only at hy
            gi_wp2
            refine hR.mono ?_
            rintro e W3 (⟨rfl, hJ3, hk3⟩ | ⟨rfl, hJx3⟩)
            · gi_wp2
              go_roundw
              case rel => exact ⟨j + 1, by omega, by go_num, by rw [HT.out]; exact hJ3, kpI_t hbj2 hk3⟩
              case measure => simp [intOf]; omega
            · gi_wp2
              refine bodyPost_ret (results_none rfl _ _ _) rfl ?_
              exact ⟨⟨_, rfl⟩, .inr ⟨_, HP.out, by rw [HT.out]; exact hJx3⟩⟩
          · obtain rfl : j = nI := by omega
            rw [List.take_of_length_le (by rw [HLi.out]; exact Nat.le_refl _)] at hJj
            gi_wp2
            go_roundw
            case rel => exact ⟨k + 1, by omega, by go_num, by rw [HN.out]; exact hJj, hbj⟩
            case measure => simp [intOf]; omega
    · obtain rfl : k = ng := by omega
      gi_wp2
      go_end0
      exact ⟨⟨_, rfl⟩, .inl ⟨_, rfl, hJk⟩⟩

set_option maxHeartbeats 1000000 in
theorem named_in (F : Fence) (n : Nat) (hf : F.fn 33) (hro : F.round = none) (ver : Int) (A : Option Addr) (ng c : Nat) (A2 : Option Addr) (n2 c2 : Nat) (A3 : Option Addr) (n3 c3 : Nat) (w : World) :
    CallsIn F n Try.prog 33 #[.agg #[.int .u32 ver, .slice A ng c, .slice A2 n2 c2], .slice A3 n3 c3] w fun e w' => e = .returned (.func (.func 46) #[] #[.pointer (some ⟨w.heap.size, 0, none⟩), .pointer (some ⟨w.heap.size + 1, 0, none⟩)]) ∧ w' = (w.alloc (.cells #[.int .u32 ver, .slice A ng c, .slice A2 n2 c2] 33)).alloc (.cells #[.slice A3 n3 c3] 34) := by
  refine callsIn_of_wp Try.func33 rfl hf ?_ hro
  simp only [Try.ntmps33, List.size_toArray, List.length_cons, List.length_nil, Nat.reduceAdd, Nat.reduceSub, Array.replicate_succ, Array.replicate_zero, List.push_toArray, List.append_toArray, List.nil_append, List.cons_append]
  gi_wp2
  go_ret
  exact ⟨rfl, rfl⟩
end Go.Proofs.Ytnhlcfkjhacedaa
