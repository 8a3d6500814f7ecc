/- Chapter 27: which manifests are alike, as the program and as the document say. -/
import Derived.Test.YtjjbpiejplfbpaaPolJ
namespace Go.Proofs.Ytjjbpiejplfbpaa
set_option linter.unusedVariables false
open Go.RowKit Go.Sort

theorem wpList_load_want {P : Program} {ops : Array Oper} {rest : List Oper} {op : Oper} {a : Act} {w : World} {Q : Exit → Act → World → Prop} (hgd : Region.wanted op (yielded ops a.tmps) = true) (ty : TypeId) (x : Operand) (ho : op.op = .load ty x)
    (b o : Nat) (hx : a.eval x = .pointer (some ⟨b, o, none⟩)) (cs : List Value) (d : TypeDesc) (hc : w.rangeAt b o cs)
    (hu : P.underlying ty = some d) (hd : d.isRow = true) (hi : (P.info? ty).map (·.size) = some cs.length)
    (h : wpList P ops Q rest (a.put op.dst (.agg cs.toArray)) w) : wpList P ops Q (op :: rest) a w :=
  wpList_step fun K hK => by rw [if_pos hgd]; exact wp_load_mid ty x ho b o hx cs d hc hu hd hi (hK _ _ h)

theorem mRange {w : World} {g : Nat} {t : TypeId} {m : Mf} (hr : m.regs.length = 64) (h : Blk w g t m.cs.toArray) : w.rangeAt g 5 (m.regs.flatMap encB) := by
  intro j u hu
  have key : m.cs.toArray[5 + j]? = (m.regs.flatMap encB ++ [.slice m.A m.n m.c, .slice m.A2 m.n2 m.c2])[j]? := by
    rw [Nat.add_comm]
    simp [Mf.cs]
  rw [h.cell (5 + j), key, List.getElem?_append_left (List.getElem?_eq_some_iff.1 hu).1]
  exact hu
theorem regs_eql (w : World) {x y : List Int} (hx : x.length = 64) (hy : y.length = 64) : (binOp .eql 51 (.agg (x.flatMap encB).toArray) (.agg (y.flatMap encB).toArray)).run Try.prog w = .ok (.bool (decide (x = y))) w := by
  have kx := flatK_bytes x
  have ky := flatK_bytes y
  rw [hx] at kx
  rw [hy] at ky
  have h := eql_flat w flat_regs (by kernel_rfl) (by decide) (by kernel_rfl) kx ky
  have e : eqLeaves (x.flatMap encB) (y.flatMap encB) = decide (x = y) := by
    rw [Bool.eq_iff_iff, eqLeaves_iff kx ky, decide_eq_true_eq]
    exact ⟨flatB_inj, fun e => by rw [e]⟩
  rw [e] at h
  exact h
theorem regs_neq (w : World) {x y : List Int} (hx : x.length = 64) (hy : y.length = 64) : (binOp .neq 51 (.agg (x.flatMap encB).toArray) (.agg (y.flatMap encB).toArray)).run Try.prog w = .ok (.bool (!decide (x = y))) w := by
  have kx := flatK_bytes x
  have ky := flatK_bytes y
  rw [hx] at kx
  rw [hy] at ky
  have h := neq_flat w flat_regs (by kernel_rfl) (by decide) (by kernel_rfl) kx ky
  have e : eqLeaves (x.flatMap encB) (y.flatMap encB) = decide (x = y) := by
    rw [Bool.eq_iff_iff, eqLeaves_iff kx ky, decide_eq_true_eq]
    exact ⟨flatB_inj, fun e => by rw [e]⟩
  rw [e] at h
  exact h
def mfEq (a b : Mf) : Bool := decide (a.ver = b.ver ∧ a.vt = b.vt ∧ a.irq = b.irq ∧ a.str = b.str ∧ a.fr = b.fr ∧ a.regs = b.regs ∧ a.log = b.log ∧ a.gs = b.gs)

set_option maxRecDepth 100000 in
set_option maxHeartbeats 8000000 in
theorem msame_any (a b : Mf) (w : World) (ha : MfOk w w.heap.size a) (hb : MfOk w w.heap.size b) (hna : a.n ≤ 100000) (hna2 : a.n2 ≤ 100000) :
    Calls Try.prog 13 #[.agg a.cs.toArray, .agg b.cs.toArray] w fun e w' => e = .returned (.bool (mfEq a b)) ∧ Below w.heap.size w w' := by
  have HMa := Lib.hid ha
  have HMb := Lib.hid hb
  have hsa : a.cs.toArray.size = 71 := by simp [Mf.len ha.rl]
  have hsb : b.cs.toArray.size = 71 := by simp [Mf.len hb.rl]
  have HA := Lib.hid ((Blk.new w 55 a.cs.toArray).alloc (.cells b.cs.toArray 55))
  have HB : Hid (Blk ((w.alloc (.cells a.cs.toArray 55)).alloc (.cells b.cs.toArray 55)) (w.heap.size + 1) 55 b.cs.toArray) := Lib.hid (by
    have := Blk.new (w.alloc (.cells a.cs.toArray 55)) 55 b.cs.toArray
    simpa using this)
  have HbX := Lib.hid (bal (bal (Below.refl w.heap.size w) (.cells a.cs.toArray 55)) (.cells b.cs.toArray 55))
  obtain ⟨c69, c70⟩ := mcellL ha.rl HA.out
  obtain ⟨d69, d70⟩ := mcellL hb.rl HB.out
  obtain ⟨c0, c1, c2, c3, c4⟩ := mcell HA.out
  obtain ⟨d0, d1, d2, d3, d4⟩ := mcell HB.out
  have HRa := Lib.hid (mRange ha.rl HA.out)
  have HRb := Lib.hid (mRange hb.rl HB.out)
  have Hia : Hid ((Try.prog.info? 51).map (·.size) = some (a.regs.flatMap encB).length) := Lib.hid (by rw [flatB_len, ha.rl]; kernel_rfl)
  have Hib : Hid ((Try.prog.info? 51).map (·.size) = some (b.regs.flatMap encB).length) := Lib.hid (by rw [flatB_len, hb.rl]; kernel_rfl)
  have hE := fun W => regs_eql W ha.rl hb.rl
  have HLog := Lib.hid (fun W (h : Below w.heap.size w W) => eqRc_any a.A a.n a.c a.log b.A b.n b.c b.log W (by omega) ha.ll hb.ll ha.lo hb.lo ((ha.lr.below h).more h.size) ((hb.lr.below h).more h.size))
  have HSt := Lib.hid (fun W (h : Below w.heap.size w W) => eqSt_any a.A2 a.n2 a.c2 a.gs b.A2 b.n2 b.c2 b.gs W (by omega) ha.gl hb.gl ha.go hb.go ((ha.gr.below h).more h.size) ((hb.gr.below h).more h.size))
  clear ha hb hna hna2
  by_cases h1 : a.ver = b.ver
  case neg =>
    · have HF := Lib.hid (show mfEq a b = false by unfold mfEq; exact decide_eq_false (fun h => h1 h.1))
      have x1 := beq_false_of_ne h1
      clear h1
      go_enter Try.func13, Try.ntmps13
      go_wp2
      go_ret
      exact ⟨by rw [HF.out]; rfl, HbX.out⟩
  have x1 := beq_iff_eq.2 h1
  by_cases h2 : a.vt = b.vt
  case neg =>
    · have HF := Lib.hid (show mfEq a b = false by unfold mfEq; exact decide_eq_false (fun h => h2 h.2.1))
      have x2 := beq_false_of_ne h2
      clear h2
      go_enter Try.func13, Try.ntmps13
      go_wp2
      go_ret
      exact ⟨by rw [HF.out]; rfl, HbX.out⟩
  have x2 := beq_iff_eq.2 h2
  by_cases h3 : a.irq = b.irq
  case neg =>
    · have HF := Lib.hid (show mfEq a b = false by unfold mfEq; exact decide_eq_false (fun h => h3 h.2.2.1))
      have x3 := beq_false_of_ne h3
      clear h3
      go_enter Try.func13, Try.ntmps13
      go_wp2
      go_ret
      exact ⟨by rw [HF.out]; rfl, HbX.out⟩
  have x3 := beq_iff_eq.2 h3
  by_cases h4 : a.str = b.str
  case neg =>
    · have HF := Lib.hid (show mfEq a b = false by unfold mfEq; exact decide_eq_false (fun h => h4 h.2.2.2.1))
      have x4 := beq_false_of_ne h4
      clear h4
      go_enter Try.func13, Try.ntmps13
      go_wp2
      go_ret
      exact ⟨by rw [HF.out]; rfl, HbX.out⟩
  have x4 := beq_iff_eq.2 h4
  by_cases h5 : a.fr = b.fr
  case neg =>
    · have HF := Lib.hid (show mfEq a b = false by unfold mfEq; exact decide_eq_false (fun h => h5 h.2.2.2.2.1))
      have x5 := beq_false_of_ne h5
      clear h5
      go_enter Try.func13, Try.ntmps13
      go_wp2
      go_ret
      exact ⟨by rw [HF.out]; rfl, HbX.out⟩
  have x5 := beq_iff_eq.2 h5
  obtain ⟨R6, hR6⟩ : ∃ R, decide (a.regs = b.regs) = R := ⟨_, rfl⟩
  obtain ⟨R7, hR7⟩ : ∃ R, decide (a.log = b.log) = R := ⟨_, rfl⟩
  obtain ⟨R8, hR8⟩ : ∃ R, decide (a.gs = b.gs) = R := ⟨_, rfl⟩
  have HF := Lib.hid (show mfEq a b = (R6 && R7 && R8) by
    unfold mfEq
    rw [← hR6, ← hR7, ← hR8, Bool.eq_iff_iff]
    simp only [decide_eq_true_eq, Bool.and_eq_true]
    exact ⟨fun h => ⟨⟨h.2.2.2.2.2.1, h.2.2.2.2.2.2.1⟩, h.2.2.2.2.2.2.2⟩, fun h => ⟨h1, h2, h3, h4, h5, h.1.1, h.1.2, h.2⟩⟩)
  rw [hR6] at hE
  rw [hR7] at HLog
  rw [hR8] at HSt
  clear hR6 hR7 hR8 h1 h2 h3 h4 h5
  generalize a.regs.flatMap encB = ra at *
  generalize b.regs.flatMap encB = rb at *
  cases R6 with
  | false =>
    go_enter Try.func13, Try.ntmps13
    go_wp2_with
      (first
        | (refine wpList_load_want (by kernel_rfl) 51 (.tmp 39) rfl w.heap.size 5 (by rfl) ra _ HRa.out Try.underlying51 rfl Hia.out ?_)
        | (refine wpList_load_want (by kernel_rfl) 51 (.tmp 41) rfl (w.heap.size + 1) 5 (by rfl) rb _ HRb.out Try.underlying51 rfl Hib.out ?_)
        | (go_at_call 19; refine (HLog.out _ HbX.out).mono ?_; rintro e w1 ⟨rfl, hb1⟩; have hA1 := HA.out.kept hb1; have hB1 := HB.out.kept hb1; obtain ⟨f69, f70⟩ := mcellL HMa.out.rl hA1; obtain ⟨g69, g70⟩ := mcellL HMb.out.rl hB1; have hbx1 := HbX.out.trans (hb1.mono HbX.out.size))
        | (go_at_call 20; refine (HSt.out _ hbx1).mono ?_; rintro e w2 ⟨rfl, hb2⟩; have hbx2 := hbx1.trans (hb2.mono hbx1.size)))
    go_ret
    exact ⟨by rw [HF.out]; rfl, HbX.out⟩
  | true =>
    cases R7 with
    | false =>
      go_enter Try.func13, Try.ntmps13
      go_wp2_with
        (first
          | (refine wpList_load_want (by kernel_rfl) 51 (.tmp 39) rfl w.heap.size 5 (by rfl) ra _ HRa.out Try.underlying51 rfl Hia.out ?_)
          | (refine wpList_load_want (by kernel_rfl) 51 (.tmp 41) rfl (w.heap.size + 1) 5 (by rfl) rb _ HRb.out Try.underlying51 rfl Hib.out ?_)
          | (go_at_call 19; refine (HLog.out _ HbX.out).mono ?_; rintro e w1 ⟨rfl, hb1⟩; have hA1 := HA.out.kept hb1; have hB1 := HB.out.kept hb1; obtain ⟨f69, f70⟩ := mcellL HMa.out.rl hA1; obtain ⟨g69, g70⟩ := mcellL HMb.out.rl hB1; have hbx1 := HbX.out.trans (hb1.mono HbX.out.size))
          | (go_at_call 20; refine (HSt.out _ hbx1).mono ?_; rintro e w2 ⟨rfl, hb2⟩; have hbx2 := hbx1.trans (hb2.mono hbx1.size)))
      go_ret
      exact ⟨by rw [HF.out]; rfl, hbx1⟩
    | true =>
      go_enter Try.func13, Try.ntmps13
      go_wp2_with
        (first
          | (refine wpList_load_want (by kernel_rfl) 51 (.tmp 39) rfl w.heap.size 5 (by rfl) ra _ HRa.out Try.underlying51 rfl Hia.out ?_)
          | (refine wpList_load_want (by kernel_rfl) 51 (.tmp 41) rfl (w.heap.size + 1) 5 (by rfl) rb _ HRb.out Try.underlying51 rfl Hib.out ?_)
          | (go_at_call 19; refine (HLog.out _ HbX.out).mono ?_; rintro e w1 ⟨rfl, hb1⟩; have hA1 := HA.out.kept hb1; have hB1 := HB.out.kept hb1; obtain ⟨f69, f70⟩ := mcellL HMa.out.rl hA1; obtain ⟨g69, g70⟩ := mcellL HMb.out.rl hB1; have hbx1 := HbX.out.trans (hb1.mono HbX.out.size))
          | (go_at_call 20; refine (HSt.out _ hbx1).mono ?_; rintro e w2 ⟨rfl, hb2⟩; have hbx2 := hbx1.trans (hb2.mono hbx1.size)))
      go_ret
      exact ⟨by rw [HF.out]; rfl, hbx2⟩
end Go.Proofs.Ytjjbpiejplfbpaa
