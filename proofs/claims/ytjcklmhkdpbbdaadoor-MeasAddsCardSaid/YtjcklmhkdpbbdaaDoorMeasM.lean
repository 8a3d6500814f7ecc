/- Chapter 25: records among a law's arguments, opened. -/
import Derived.Test.YtjcklmhkdpbbdaaDoorMeasAw
import Derived.Test.YtjcklmhkdpbbdaaDoorNest3
namespace Go.Proofs.YtjcklmhkdpbbdaaDoor
set_option linter.unusedVariables false
open Go.RowKit Go.Sort Go.ChangeShapes Go.WideShapes

theorem sh_b1 {w : World} {B : Nat} (m : Nat) (cs : List Value) (h : Sh Tryd.prog w B m 5 cs) : ∃ l : List Int, l.length = 1 ∧ BytesOk l ∧ cs = l.flatMap encB := by
  obtain ⟨x, rfl, hw⟩ := sh_int Tryd.underlying5 h
  refine ⟨[x], rfl, ?_, rfl⟩
  simp [Lit.wf, IntKind.min, IntKind.max, IntKind.signed, IntKind.bits] at hw
  intro y hy
  rw [List.mem_singleton] at hy
  subst hy
  omega
theorem sh_arrB {P : Program} {w : World} {B : Nat} {t e : TypeId} {m k : Nat} (hu : P.underlying t = some (.array m e)) (hk : P.cellsOf e = k) (hc : P.cellsOf t = m * k)
    (dec : ∀ n cs, Sh P w B n e cs → ∃ l : List Int, l.length = k ∧ BytesOk l ∧ cs = l.flatMap encB) (n : Nat) (cs : List Value) (h : Sh P w B n t cs) :
    ∃ l : List Int, l.length = m * k ∧ BytesOk l ∧ cs = l.flatMap encB := by
  cases n with
  | zero => exact absurd h (by simp [Sh])
  | succ n =>
    unfold Sh at h
    rw [hu] at h
    obtain ⟨hl, hi⟩ := h
    rw [hk] at hi
    have key : ∀ j, j ≤ m → ∃ l : List Int, l.length = j * k ∧ BytesOk l ∧ cs.take (j * k) = l.flatMap encB := by
      intro j
      induction j with
      | zero => intro _; exact ⟨[], by simp, (fun y hy => by cases hy), by simp⟩
      | succ j ih =>
        intro hj
        obtain ⟨l, h1, h2, h3⟩ := ih (by omega)
        obtain ⟨l2, g1, g2, g3⟩ := dec _ _ (hi j (by omega))
        refine ⟨l ++ l2, by rw [List.length_append, h1, g1, Nat.succ_mul], fun y hy => ?_, ?_⟩
        · rcases List.mem_append.1 hy with hy | hy
          · exact h2 y hy
          · exact g2 y hy
        · rw [Nat.succ_mul, List.take_add, h3, g3, List.flatMap_append]
    obtain ⟨l, h1, h2, h3⟩ := key m (Nat.le_refl _)
    refine ⟨l, h1, h2, ?_⟩
    rw [← h3, List.take_of_length_le (by rw [hl, hc]; exact Nat.le_refl _)]
theorem sh_node {w : World} {B : Nat} (n : Nat) (cs : List Value) (h : Sh Tryd.prog w B n 26 cs) : ∃ l : List Int, l.length = 32 ∧ BytesOk l ∧ cs = l.flatMap encB :=
  sh_arrB (m := 32) (k := 1) Tryd.underlying26 (by kernel_rfl) (by kernel_rfl) sh_b1 n cs h
theorem sh_regs {w : World} {B : Nat} (n : Nat) (cs : List Value) (h : Sh Tryd.prog w B n 54 cs) : ∃ l : List Int, l.length = 64 ∧ BytesOk l ∧ cs = l.flatMap encB :=
  sh_arrB (m := 2) (k := 32) Tryd.underlying54 (by kernel_rfl) (by kernel_rfl) sh_node n cs h
theorem lcons {α : Type} {cs : List α} {n : Nat} (h : cs.length = n + 1) : ∃ x t, cs = x :: t ∧ t.length = n := by
  cases cs with
  | nil => simp at h
  | cons x t => exact ⟨x, t, rfl, by simpa using h⟩
theorem sh_rc {w : World} {B : Nat} (m : Nat) (cs : List Value) (h : Sh Tryd.prog w B m 61 cs) : ∃ r : Rc, cs = r.cs ∧ RcOk r := by
  obtain ⟨m, hl, hf⟩ := sh_struct Tryd.underlying61 h
  rw [show Tryd.prog.cellsOf 61 = 35 by kernel_rfl] at hl
  obtain ⟨a, ha, _⟩ := sh_int Tryd.underlying3 (sh_field hf 0 3 0 1 rfl (by kernel_rfl))
  obtain ⟨b, hb, _⟩ := sh_int Tryd.underlying3 (sh_field hf 1 3 1 1 rfl (by kernel_rfl))
  obtain ⟨c, hc, _⟩ := sh_int Tryd.underlying59 (sh_field hf 2 59 2 1 rfl (by kernel_rfl))
  obtain ⟨l, h1, h2, h3⟩ := sh_node _ _ (sh_field hf 3 26 3 32 rfl (by kernel_rfl))
  refine ⟨⟨a, b, c, l⟩, ?_, h1, h2⟩
  have e0 := piece1 ha
  have e1 := piece1 hb
  have e2 := piece1 hc
  clear hf ha hb hc
  obtain ⟨x, cs1, rfl, hl1⟩ := lcons hl
  obtain ⟨y, cs2, rfl, hl2⟩ := lcons hl1
  obtain ⟨z, rest, rfl, hl3⟩ := lcons hl2
  simp only [List.getElem?_cons_zero, List.getElem?_cons_succ, Option.some.injEq] at e0 e1 e2
  subst e0 e1 e2
  simp only [List.drop_succ_cons, List.drop_zero] at h3
  rw [List.take_of_length_le (by rw [hl3]; exact Nat.le_refl _)] at h3
  rw [h3]; rfl
set_option maxRecDepth 100000 in
theorem open_rec {H : Type} {enc : TypeId × Value → H} {W : World} {v : Value} {d : DataW H} {p : List MemPlace} {b0 : Nat} {r : Reach}
    (hv : Value.okWide Tryd.prog W r b0 61 v) (h : DataW.Trod enc Tryd.prog W 0 (fun _ => true) true 61 v d p) (hlt : ∀ x ∈ p, x.block < W.heap.size) : ∃ x : Rc, v = .agg x.cs.toArray ∧ RcOk x := by
  obtain ⟨cs, m, rfl, hs⟩ := open_sh Tryd.underlying61 hv h hlt
  obtain ⟨x, rfl, ho⟩ := sh_rc m cs hs
  exact ⟨x, rfl, ho⟩
set_option maxRecDepth 100000 in
theorem open_recs {H : Type} {enc : TypeId × Value → H} {W : World} {v : Value} {d : DataW H} {p : List MemPlace} {b0 : Nat} {r : Reach}
    (hv : Value.okWide Tryd.prog W r b0 51 v) (h : DataW.Trod enc Tryd.prog W 0 (fun _ => true) true 51 v d p) (hlt : ∀ x ∈ p, x.block < W.heap.size) :
    ∃ (A : Option Addr) (n c : Nat) (l : List Rc), v = .slice A n c ∧ n ≤ c ∧ n ≤ 9223372036854775807 ∧ c ≤ 9223372036854775807 ∧ l.length = n ∧ RcsOk l ∧ Rd W W.heap.size 35 A n (l.flatMap Rc.cs) := by
  obtain ⟨A, n, c, m, rfl, hs⟩ := open_sh_slice Tryd.underlying51 hv h hlt
  obtain ⟨A', n', c', l, he, hnc, hcm, hl, ho, hr⟩ := sh_list (enc := Rc.cs) (ok := RcOk) (k := 35) Tryd.underlying51 (by kernel_rfl) (by decide) sh_rc hs
  simp only [List.cons.injEq, Value.slice.injEq, and_true] at he
  obtain ⟨rfl, rfl, rfl⟩ := he
  have hmx : maxLen ≤ 9223372036854775807 := by decide
  exact ⟨A, n, c, l, rfl, hnc, by omega, by omega, hl, ho, hr⟩
end Go.Proofs.YtjcklmhkdpbbdaaDoor
