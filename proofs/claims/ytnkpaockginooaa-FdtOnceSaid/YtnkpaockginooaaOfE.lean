/- fdt.Of's deferred closure: what is thrown is caught. -/
import Derived.Test.YtnkpaockginooaaOfD
import Derived.Test.YtnkpaockginooaaPutE
import Derived.Recover
import Derived.Defers
namespace Go.Proofs.Ytnkpaockginooaa
set_option linter.unusedVariables false
set_option linter.unusedSimpArgs false
open Go.RowKit Go.Sort

theorem run_wrong (w : World) : (Instr.typeAssert (.iface 128 (.agg #[])) 20 128 true).run Try.prog w = .ok (.tuple #[.agg #[], .bool true]) w := by kernel_rfl
set_option maxRecDepth 100000 in
set_option maxHeartbeats 2000000 in
theorem caught (R E : Nat) (a b c e0 : Value) (w : World) (hR : Blk w R 25 #[a, b, c]) (hE : Blk w E 29 #[e0]) (hne : R ≠ E) :
    CallsD Try.prog 61 #[.pointer (some ⟨R, 0, none⟩), .pointer (some ⟨E, 0, none⟩)] (.panicking [{ v := .iface 128 (.agg #[]), recovered := false }]) w fun e u' w' =>
      e = .returned (.tuple #[]) ∧ u' = .panicking [{ v := .iface 128 (.agg #[]), recovered := true }] ∧ Blk w' R 25 #[.string ⟨#[]⟩, .slice none 0 0, .slice none 0 0] ∧ Blk w' E 29 #[.int .i64 240] ∧ Near (fun i => i = R ∨ i = E) w w' := by
  refine callsD_of_wpS Try.func61 rfl fun c₀ cs hu => ?_
  apply wpS_seq
  apply wpS_region
  simp [wpOpsS, go_sem, recoverD, hu, Try.ntmps61, Exit.thenS]
  simp only [Array.replicate, List.replicate, List.setIfInBounds_toArray, List.set_cons_succ, List.set_cons_zero, List.append_toArray, List.cons_append, List.nil_append]
  have cR := hR.cell
  have fR := hR.frozen
  have cE := hE.cell
  have fE := hE.frozen
  have hEb := hE.alloc (.cells #[] 128)
  have cE2 := hEb.cell
  have fE2 := hEb.frozen
  have hRb := hR.alloc (.cells #[] 128)
  have cR2 := hRb.cell
  have fR2 := hRb.frozen
  refine wpS_of_wp ?_
  have hrw := run_wrong
  go_wp2_with fail
  have h1 := ((hRb.set_ 0 (.string ⟨#[]⟩)).set_ 1 (.slice none 0 0)).set_ 2 (.slice none 0 0)
  have h2 := ((hEb.far (p := ⟨R, 0, none⟩) (by show E ≠ R; omega) (.string ⟨#[]⟩)).far (p := ⟨R, 1, none⟩) (by show E ≠ R; omega) (.slice none 0 0)).far (p := ⟨R, 2, none⟩) (by show E ≠ R; omega) (.slice none 0 0)
  refine ⟨rfl, _, rfl, .tuple #[], by simp [results, Try.results61], rfl, rfl, h1.far (p := ⟨E, 0, none⟩) (by show R ≠ E; omega) _, h2.set_ 0 _, ?_⟩
  exact ((((Near.alloc (Near.refl (fun i => i = R ∨ i = E) w) _).setCell (p := ⟨R, 0, none⟩) (.inl rfl) _).setCell (p := ⟨R, 1, none⟩) (.inl rfl) _).setCell (p := ⟨R, 2, none⟩) (.inl rfl) _).setCell (p := ⟨E, 0, none⟩) (.inr rfl) _
theorem idle (R E : Nat) (w : World) :
    CallsD Try.prog 61 #[.pointer (some ⟨R, 0, none⟩), .pointer (some ⟨E, 0, none⟩)] .returning w fun e u' w' => e = .returned (.tuple #[]) ∧ u' = .returning ∧ w' = w := by
  refine callsD_of_wpS Try.func61 rfl fun c₀ cs hu => ?_
  apply wpS_seq
  apply wpS_region
  simp [wpOpsS, go_sem, recoverD, hu, Try.ntmps61, Exit.thenS]
  simp only [Array.replicate, List.replicate, List.setIfInBounds_toArray, List.set_cons_succ, List.set_cons_zero, List.append_toArray, List.cons_append, List.nil_append]
  refine wpS_of_wp ?_
  go_wp2_with fail
  cases c₀
  simp_all [bodyPostS, results, Try.results61]
/-- What is read is short. -/
theorem itemsP_lens {g : Nat → Nat → Option (Tr × Nat × Nat)} {b x : List Int} {n : Nat} (hb : b.length ≤ 20000) (hx : x.length ≤ 20000) (hg : ∀ a l t a' l', g a l = some (t, a', l') → LensF n t) :
    ∀ (f : Nat) (ps : List Pr) (ks : List Tr) (a l : Nat) (ps' : List Pr) (ks' : List Tr) (a' l' : Nat), itemsP g b x f ps ks a l = some (ps', ks', a', l') → (∀ p ∈ ps, p.1.size ≤ 140737488355328 ∧ p.2.length ≤ 140737488355328) → (∀ k ∈ ks, LensF n k) →
      ps'.length ≤ ps.length + f ∧ ks'.length ≤ ks.length + f ∧ (∀ p ∈ ps', p.1.size ≤ 140737488355328 ∧ p.2.length ≤ 140737488355328) ∧ ∀ k ∈ ks', LensF n k
  | 0, _, _, _, _, _, _, _, _, h, _, _ => by simp [itemsP] at h
  | f + 1, ps, ks, a, l, ps', ks', a', l', h, hp, hk => by
    simp only [itemsP, Option.bind_eq_some_iff] at h
    obtain ⟨y, hy, h⟩ := h
    split at h
    · simp only [Option.bind_eq_some_iff] at h
      obtain ⟨n', hn, p, hp', nm, hnm, h⟩ := h
      split at h
      · obtain ⟨h1, h2, h3, h4⟩ := itemsP_lens hb hx hg f _ _ _ _ _ _ _ _ h (fun q hq => by
          simp only [List.mem_append, List.mem_singleton] at hq
          rcases hq with hq | rfl
          · exact hp q hq
          · have := (txt_some hnm).2
            refine ⟨by rw [strOfNums_size]; omega, ?_⟩
            simp only [List.length_take, List.length_drop]
            omega) hk
        rw [List.length_append] at h1
        simp only [List.length_cons, List.length_nil] at h1
        exact ⟨by omega, by omega, h3, h4⟩
      · cases h
    · split at h
      · simp only [Option.bind_eq_some_iff] at h
        obtain ⟨⟨t, a2, l2⟩, hr, h⟩ := h
        dsimp only at h
        have hh := hg _ _ _ _ _ hr
        obtain ⟨h1, h2, h3, h4⟩ := itemsP_lens hb hx hg f _ _ _ _ _ _ _ _ h hp (fun q hq => by
          simp only [List.mem_append, List.mem_singleton] at hq
          rcases hq with hq | rfl
          · exact hk q hq
          · exact hh)
        rw [List.length_append] at h2
        simp only [List.length_cons, List.length_nil] at h2
        exact ⟨by omega, by omega, h3, h4⟩
      · split at h
        · simp only [Option.some.injEq, Prod.mk.injEq] at h
          obtain ⟨rfl, rfl, _⟩ := h
          exact ⟨by omega, by omega, hp, hk⟩
        · cases h
theorem nodeP_lens {b x : List Int} (hb : b.length ≤ 20000) (hx : x.length ≤ 20000) : ∀ (d a l : Nat) (t : Tr) (a' l' : Nat), nodeP b x d a l = some (t, a', l') → LensF d t
  | 0, _, _, _, _, _, h => by simp [nodeP] at h
  | d + 1, a, l, t, a', l', h => by
    unfold nodeP at h
    split at h
    · cases h
    · simp only [Option.bind_eq_some_iff] at h
      obtain ⟨nm, hnm, ⟨ps, ks, a2, l2⟩, hr, h⟩ := h
      simp only [Option.some.injEq, Prod.mk.injEq] at h
      obtain ⟨rfl, _, _⟩ := h
      obtain ⟨h1, h2, h3, h4⟩ := itemsP_lens hb hx (fun a l t a' l' => nodeP_lens hb hx d a l t a' l') _ _ _ _ _ _ _ _ _ hr (by simp) (by simp)
      simp only [List.length_nil] at h1 h2
      have := (txt_some hnm).2
      refine ⟨?_, ?_, ?_, h3, h4⟩
      · show (strOfNums nm).size ≤ _
        rw [strOfNums_size]
        omega
      · show ps.length ≤ _
        omega
      · show ks.length ≤ _
        omega
end Go.Proofs.Ytnkpaockginooaa
