/- Chapter 27: a manifest among a law's arguments, opened. -/
import Derived.Test.YtjjbpiejplfbpaaPolJ
namespace Go.Proofs.Ytjjbpiejplfbpaa
set_option linter.unusedVariables false
open Go.RowKit Go.Sort Go.ChangeShapes Go.WideShapes

theorem sh_b1 {w : World} {B : Nat} (m : Nat) (cs : List Value) (h : Sh Try.prog w B m 5 cs) : ∃ l : List Int, l.length = 1 ∧ BytesOk l ∧ cs = l.flatMap encB := by
  obtain ⟨x, rfl, hw⟩ := sh_int Try.underlying5 h
  refine ⟨[x], rfl, ?_, rfl⟩
  simp [Lit.wf, IntKind.min, IntKind.max, IntKind.signed, IntKind.bits] at hw
  intro y hy
  rw [List.mem_singleton] at hy
  subst hy
  omega
theorem sh_arrB {P : Program} {w : World} {B : Nat} {t e : TypeId} {m k : Nat} (hu : P.underlying t = some (.array m e)) (hk : P.cellsOf e = k) (hc : P.cellsOf t = m * k)
    (dec : ∀ n cs, Sh P w B n e cs → ∃ l : List Int, l.length = k ∧ BytesOk l ∧ cs = l.flatMap encB) (n : Nat) (cs : List Value) (h : Sh P w B n t cs) :
    ∃ l : List Int, l.length = m * k ∧ BytesOk l ∧ cs = l.flatMap encB := by
  cases n with
  | zero => exact absurd h (by simp [Sh])
  | succ n =>
    unfold Sh at h
    rw [hu] at h
    obtain ⟨hl, hi⟩ := h
    rw [hk] at hi
    have key : ∀ j, j ≤ m → ∃ l : List Int, l.length = j * k ∧ BytesOk l ∧ cs.take (j * k) = l.flatMap encB := by
      intro j
      induction j with
      | zero => intro _; exact ⟨[], by simp, (fun y hy => by cases hy), by simp⟩
      | succ j ih =>
        intro hj
        obtain ⟨l, h1, h2, h3⟩ := ih (by omega)
        obtain ⟨l2, g1, g2, g3⟩ := dec _ _ (hi j (by omega))
        refine ⟨l ++ l2, by rw [List.length_append, h1, g1, Nat.succ_mul], fun y hy => ?_, ?_⟩
        · rcases List.mem_append.1 hy with hy | hy
          · exact h2 y hy
          · exact g2 y hy
        · rw [Nat.succ_mul, List.take_add, h3, g3, List.flatMap_append]
    obtain ⟨l, h1, h2, h3⟩ := key m (Nat.le_refl _)
    refine ⟨l, h1, h2, ?_⟩
    rw [← h3, List.take_of_length_le (by rw [hl, hc]; exact Nat.le_refl _)]
theorem sh_node {w : World} {B : Nat} (n : Nat) (cs : List Value) (h : Sh Try.prog w B n 38 cs) : ∃ l : List Int, l.length = 32 ∧ BytesOk l ∧ cs = l.flatMap encB :=
  sh_arrB (m := 32) (k := 1) Try.underlying38 (by kernel_rfl) (by kernel_rfl) sh_b1 n cs h
theorem sh_regs {w : World} {B : Nat} (n : Nat) (cs : List Value) (h : Sh Try.prog w B n 51 cs) : ∃ l : List Int, l.length = 64 ∧ BytesOk l ∧ cs = l.flatMap encB :=
  sh_arrB (m := 2) (k := 32) Try.underlying51 (by kernel_rfl) (by kernel_rfl) sh_node n cs h
theorem lcons {α : Type} {cs : List α} {n : Nat} (h : cs.length = n + 1) : ∃ x t, cs = x :: t ∧ t.length = n := by
  cases cs with
  | nil => simp at h
  | cons x t => exact ⟨x, t, rfl, by simpa using h⟩
theorem sh_rc {w : World} {B : Nat} (m : Nat) (cs : List Value) (h : Sh Try.prog w B m 69 cs) : ∃ r : Rc, cs = r.cs ∧ RcOk r := by
  obtain ⟨m, hl, hf⟩ := sh_struct Try.underlying69 h
  rw [show Try.prog.cellsOf 69 = 35 by kernel_rfl] at hl
  obtain ⟨a, ha, _⟩ := sh_int Try.underlying3 (sh_field hf 0 3 0 1 rfl (by kernel_rfl))
  obtain ⟨b, hb, _⟩ := sh_int Try.underlying3 (sh_field hf 1 3 1 1 rfl (by kernel_rfl))
  obtain ⟨c, hc, _⟩ := sh_int Try.underlying31 (sh_field hf 2 31 2 1 rfl (by kernel_rfl))
  obtain ⟨l, h1, h2, h3⟩ := sh_node _ _ (sh_field hf 3 38 3 32 rfl (by kernel_rfl))
  refine ⟨⟨a, b, c, l⟩, ?_, h1, h2⟩
  have e0 := piece1 ha
  have e1 := piece1 hb
  have e2 := piece1 hc
  clear hf ha hb hc
  obtain ⟨x, cs1, rfl, hl1⟩ := lcons hl
  obtain ⟨y, cs2, rfl, hl2⟩ := lcons hl1
  obtain ⟨z, rest, rfl, hl3⟩ := lcons hl2
  simp only [List.getElem?_cons_zero, List.getElem?_cons_succ, Option.some.injEq] at e0 e1 e2
  subst e0 e1 e2
  simp only [List.drop_succ_cons, List.drop_zero] at h3
  rw [List.take_of_length_le (by rw [hl3]; exact Nat.le_refl _)] at h3
  rw [h3]; rfl
theorem sh_st {w : World} {B : Nat} (m : Nat) (cs : List Value) (h : Sh Try.prog w B m 72 cs) : ∃ s : St, cs = encSt s ∧ StOk s := by
  obtain ⟨m, hl, hf⟩ := sh_struct Try.underlying72 h
  rw [show Try.prog.cellsOf 72 = 6 by kernel_rfl] at hl
  obtain ⟨a, ha, _⟩ := sh_int Try.underlying3 (sh_field hf 0 3 0 1 rfl (by kernel_rfl))
  obtain ⟨b, hb, wb⟩ := sh_int Try.underlying22 (sh_field hf 1 22 1 1 rfl (by kernel_rfl))
  obtain ⟨c, hc, wc⟩ := sh_int Try.underlying42 (sh_field hf 2 42 2 1 rfl (by kernel_rfl))
  obtain ⟨d, hd, wd⟩ := sh_int Try.underlying42 (sh_field hf 3 42 3 1 rfl (by kernel_rfl))
  obtain ⟨e, he, we⟩ := sh_int Try.underlying42 (sh_field hf 4 42 4 1 rfl (by kernel_rfl))
  obtain ⟨g, hg, wg⟩ := sh_int Try.underlying22 (sh_field hf 5 22 5 1 rfl (by kernel_rfl))
  simp [Lit.wf, IntKind.min, IntKind.max, IntKind.signed, IntKind.bits] at wb wc wd we wg
  have vb : 0 ≤ b ∧ b < 4294967296 := by omega
  have vc : 0 ≤ c ∧ c < 18446744073709551616 := by omega
  have vd : 0 ≤ d ∧ d < 18446744073709551616 := by omega
  have ve : 0 ≤ e ∧ e < 18446744073709551616 := by omega
  have vg : 0 ≤ g ∧ g < 4294967296 := by omega
  refine ⟨⟨a, b, c, d, e, g⟩, ?_, vb, vc, vd, ve, vg⟩
  have e0 := piece1 ha
  have e1 := piece1 hb
  have e2 := piece1 hc
  have e3 := piece1 hd
  have e4 := piece1 he
  have e5 := piece1 hg
  clear hf ha hb hc hd he hg
  obtain ⟨x0, cs1, rfl, hl1⟩ := lcons hl
  obtain ⟨x1, cs2, rfl, hl2⟩ := lcons hl1
  obtain ⟨x2, cs3, rfl, hl3⟩ := lcons hl2
  obtain ⟨x3, cs4, rfl, hl4⟩ := lcons hl3
  obtain ⟨x4, cs5, rfl, hl5⟩ := lcons hl4
  obtain ⟨x5, cs6, rfl, hl6⟩ := lcons hl5
  obtain rfl := List.eq_nil_of_length_eq_zero hl6
  simp only [List.getElem?_cons_zero, List.getElem?_cons_succ, Option.some.injEq] at e0 e1 e2 e3 e4 e5
  subst e0 e1 e2 e3 e4 e5
  rfl
theorem sh_manifest {w : World} {B : Nat} (m : Nat) (cs : List Value) (h : Sh Try.prog w B m 55 cs) : ∃ f : Mf, cs = f.cs ∧ MfOk w B f ∧ f.n ≤ 9223372036854775807 ∧ f.n2 ≤ 9223372036854775807 := by
  obtain ⟨m, hl, hf⟩ := sh_struct Try.underlying55 h
  rw [show Try.prog.cellsOf 55 = 71 by kernel_rfl] at hl
  obtain ⟨a, ha, wa⟩ := sh_int Try.underlying22 (sh_field hf 0 22 0 1 rfl (by kernel_rfl))
  obtain ⟨b, hb, wb⟩ := sh_int Try.underlying42 (sh_field hf 1 42 1 1 rfl (by kernel_rfl))
  obtain ⟨c, hc, wc⟩ := sh_int Try.underlying42 (sh_field hf 2 42 2 1 rfl (by kernel_rfl))
  obtain ⟨d, hd, wd⟩ := sh_int Try.underlying42 (sh_field hf 3 42 3 1 rfl (by kernel_rfl))
  obtain ⟨e, he, we⟩ := sh_int Try.underlying3 (sh_field hf 4 3 4 1 rfl (by kernel_rfl))
  obtain ⟨rg, g1, g2, g3⟩ := sh_regs _ _ (sh_field hf 5 51 5 64 rfl (by kernel_rfl))
  obtain ⟨A, n, c1, lg, e1, l1, m1, ll, lo, lr⟩ := sh_list (enc := Rc.cs) (ok := RcOk) Try.underlying52 (k := 35) (by kernel_rfl) (by decide) sh_rc (sh_field hf 6 52 69 1 rfl (by kernel_rfl))
  obtain ⟨A2, n2, c2, gs, e2, l2, m2, gl, go, gr⟩ := sh_list (enc := encSt) (ok := StOk) Try.underlying53 (k := 6) (by kernel_rfl) (by decide) sh_st (sh_field hf 7 53 70 1 rfl (by kernel_rfl))
  simp [Lit.wf, IntKind.min, IntKind.max, IntKind.signed, IntKind.bits] at wa wb wc wd
  have va : 0 ≤ a ∧ a < 4294967296 := by omega
  have vb : 0 ≤ b ∧ b < 18446744073709551616 := by omega
  have vc : 0 ≤ c ∧ c < 18446744073709551616 := by omega
  have vd : 0 ≤ d ∧ d < 18446744073709551616 := by omega
  refine ⟨⟨a, b, c, d, e, rg, A, n, c1, lg, A2, n2, c2, gs⟩, ?_, ⟨va, vb, vc, vd, g1, g2, ll, lo, lr, gl, go, gr⟩, ml (Nat.le_trans l1 m1), ml (Nat.le_trans l2 m2)⟩
  have e0 := piece1 ha
  have f1 := piece1 hb
  have f2 := piece1 hc
  have f3 := piece1 hd
  have f4 := piece1 he
  have f5 := piece1 e1
  have f6 := piece1 e2
  clear hf ha hb hc hd he e1 e2
  obtain ⟨x0, cs1, rfl, hl1⟩ := lcons hl
  obtain ⟨x1, cs2, rfl, hl2⟩ := lcons hl1
  obtain ⟨x2, cs3, rfl, hl3⟩ := lcons hl2
  obtain ⟨x3, cs4, rfl, hl4⟩ := lcons hl3
  obtain ⟨x4, rest, rfl, hr5⟩ := lcons hl4
  simp only [List.getElem?_cons_zero, List.getElem?_cons_succ, Option.some.injEq] at e0 f1 f2 f3 f4 f5 f6
  subst e0 f1 f2 f3 f4
  simp only [List.drop_succ_cons, List.drop_zero] at g3
  have hlen : (rest.drop 64).length = 2 := by rw [List.length_drop, hr5]
  have q0 : (rest.drop 64)[0]? = some (.slice A n c1) := by rw [List.getElem?_drop]; exact f5
  have q1 : (rest.drop 64)[1]? = some (.slice A2 n2 c2) := by rw [List.getElem?_drop]; exact f6
  have : rest = rest.take 64 ++ rest.drop 64 := (List.take_append_drop _ _).symm
  rw [this, g3]
  generalize rest.drop 64 = tl at *
  obtain ⟨y, tl1, rfl, hlen1⟩ := lcons hlen
  obtain ⟨z, tl2, rfl, hlen2⟩ := lcons hlen1
  obtain rfl := List.eq_nil_of_length_eq_zero hlen2
  simp only [List.getElem?_cons_zero, List.getElem?_cons_succ, Option.some.injEq] at q0 q1
  rw [q0, q1]; rfl
set_option maxRecDepth 100000 in
theorem open_manifest {H : Type} {enc : TypeId × Value → H} {W : World} {v : Value} {d : DataW H} {p : List MemPlace} {b0 : Nat} {r : Reach}
    (hv : Value.okWide Try.prog W r b0 55 v) (h : DataW.Trod enc Try.prog W 0 (fun _ => true) true 55 v d p) (hlt : ∀ x ∈ p, x.block < W.heap.size) :
    ∃ f : Mf, v = .agg f.cs.toArray ∧ MfOk W W.heap.size f ∧ f.n ≤ 9223372036854775807 ∧ f.n2 ≤ 9223372036854775807 := by
  obtain ⟨cs, n, rfl, hs⟩ := open_sh Try.underlying55 hv h hlt
  obtain ⟨f, rfl, h1, h2, h3⟩ := sh_manifest n cs hs
  exact ⟨f, rfl, h1, h2, h3⟩
end Go.Proofs.Ytjjbpiejplfbpaa
