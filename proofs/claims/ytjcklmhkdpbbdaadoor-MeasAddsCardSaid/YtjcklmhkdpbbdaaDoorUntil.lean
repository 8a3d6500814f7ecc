/- A drawn region whose reads may be taken first: a condition on the world that holds until operation m comes up. -/
import Derived.Test.YtjcklmhkdpbbdaaDoorRnd
import Derived.OrdersHeld
namespace Go.Proofs.YtjcklmhkdpbbdaaDoor
set_option linter.unusedVariables false
open Go.RowKit Go.Sort

section
variable {P : Program} {ops : Array Oper} {Q : Exit → Act → World → Prop} {md : Region.Mode} {S : World → Prop} {m : Nat}
/-- Whatever order is picked from here on; S holds behind every operation that comes up ahead of m. -/
def wpAnyT (P : Program) (md : Region.Mode) (ops : Array Oper) (Q : Exit → Act → World → Prop) (m : Nat) (S : World → Prop) : Nat → Array Bool → Act → World → Prop
  | 0, listed, a, w => Region.ready md ops listed = [] ∧ Q .normal a w
  | fuel + 1, listed, a, w =>
    (Region.ready md ops listed = [] → Q .normal a w) ∧
    ∀ i ∈ Region.ready md ops listed, wpOp P ops Q i (fun a' w' => ((listed.setIfInBounds i true).getD m false = true ∨ S w') ∧ wpAnyT P md ops Q m S fuel (listed.setIfInBounds i true) a' w') a w
theorem wpAny_of_T : ∀ (fuel : Nat) (listed : Array Bool) (a : Act) (w : World), wpAnyT P md ops Q m S fuel listed a w → wpAny P md ops Q fuel listed a w
  | 0, _, _, _, h => h
  | fuel + 1, _, _, _, h => ⟨h.1, fun i hi => wpOp_mono (fun a' w' h' => wpAny_of_T fuel _ a' w' h'.2) (h.2 i hi)⟩
theorem getD_set_far {l : Array Bool} {j k : Nat} (h : j ≠ k) (d : Bool) : (l.setIfInBounds j true).getD k d = l.getD k d := by
  simp only [Array.getD_eq_getD_getElem?]
  rw [Array.getElem?_setIfInBounds_ne h]
/-- Behind m nothing is asked of the world. -/
theorem wpAnyT_of_any : ∀ (fuel : Nat) (listed : Array Bool) (a : Act) (w : World), listed.getD m false = true → wpAny P md ops Q fuel listed a w → wpAnyT P md ops Q m S fuel listed a w
  | 0, _, _, _, _, h => h
  | fuel + 1, listed, _, _, hm, h => ⟨h.1, fun i hi => wpOp_mono (fun a' w' h' => by
      have h1 : (listed.setIfInBounds i true).getD m false = true := by
        by_cases hi : i = m
        · subst hi
          simp only [Array.getD_eq_getD_getElem?] at hm ⊢
          rcases Nat.lt_or_ge i listed.size with h | h
          · rw [Array.getElem?_setIfInBounds_self_of_lt h]; rfl
          · rw [Array.getElem?_eq_none h] at hm; cases hm
        · rw [getD_set_far hi]; exact hm
      exact ⟨.inl h1, wpAnyT_of_any fuel _ a' w' h1 h'⟩) (h.2 i hi)⟩
theorem wpAnyT_first {i : Nat} {oi om : Oper} {v : Value} (hi : ops[i]? = some oi) (hsel : ∀ (j : Nat) (o : Oper) cs b, ops[j]? = some o → o.op ≠ .select cs b)
    (hQ : ∀ c a w, Q (.panic c) (a.put oi.dst v) w → Q (.panic c) a w) (hom : ops[m]? = some om) (hwait : ∃ e ∈ om.after, Region.binds md e = true ∧ e.on = i) (him : i ≠ m) :
    ∀ (fuel : Nat) (listed : Array Bool) (a : Act) (w : World), listed.getD m false = false →
      (∀ j oj, ops[j]? = some oj → j ≠ i → listed.getD j true = false → (∀ e ∈ oj.after, Region.binds md e = true → e.on ≠ i) → oi.apart ops oj = true) →
      i ∈ Region.ready md ops listed → YieldsIf P ops S oi v a → S w →
      wpAnyT P md ops Q m S fuel (listed.setIfInBounds i true) (a.put oi.dst v) w → wpAnyT P md ops Q m S (fuel + 1) listed a w := by
  intro fuel
  induction fuel with
  | zero =>
    intro listed a w hmu _ hr hy hS H
    refine ⟨fun h => (by rw [h] at hr; cases hr), fun j hj => ?_⟩
    by_cases hji : j = i
    · subst hji; exact hy.wpOp hi hS ⟨.inr hS, H⟩
    · have := ready_mono hj hji
      rw [H.1] at this
      cases this
  | succ fuel ih =>
    intro listed a w hmu hfree hr hy hS H
    refine ⟨fun h => (by rw [h] at hr; cases hr), fun j hj => ?_⟩
    by_cases hji : j = i
    · subst hji; exact hy.wpOp hi hS ⟨.inr hS, H⟩
    · have h1 := H.2 j (ready_mono hj hji)
      obtain ⟨hjun, oj, hoj, hall⟩ := mem_ready.1 hj
      have hun : ∀ e ∈ oj.after, Region.binds md e = true → e.on = i → False := fun e he hb heq => by
        have h1 := hall e he hb
        have h0 := (mem_ready.1 hr).1
        rw [heq] at h1
        rcases Nat.lt_or_ge i listed.size with h' | h'
        · simp [h'] at h0 h1; rw [h0] at h1; cases h1
        · simp [Array.getElem?_eq_none h'] at h1
      have hnot : ∀ e ∈ oj.after, Region.binds md e = true → e.on ≠ i := fun e he hb heq => hun e he hb heq
      have hjm : j ≠ m := by
        intro e
        subst e
        rw [hoj] at hom
        cases hom
        obtain ⟨e, he, hb, heq⟩ := hwait
        exact hun e he hb heq
      have h2 := wpOp_putIf hoj (hfree j oj hoj hji hjun hnot) (fun cs b => hsel i oi cs b hi) (fun cs b => hsel j oj cs b hoj) hQ hy h1
      have hfree' : ∀ k ok, ops[k]? = some ok → k ≠ i → (listed.setIfInBounds j true).getD k true = false →
          (∀ e ∈ ok.after, Region.binds md e = true → e.on ≠ i) → oi.apart ops ok = true := fun k ok hk hki hun hno => by
        refine hfree k ok hk hki ?_ hno
        by_cases hjk : j = k
        · subst hjk; exact hjun
        · rw [getD_set_ne true hjk] at hun; exact hun
      refine wpOp_mono (fun a' w' h3 => ?_) h2
      have hS' : S w' := by
        rcases h3.2.1 with h | h
        · rw [getD_set_far hjm, getD_set_far him, hmu] at h; cases h
        · exact h
      refine ⟨.inr hS', ih (listed.setIfInBounds j true) a' w' (by rw [getD_set_far hjm]; exact hmu) hfree' (ready_mono hr (Ne.symm hji)) h3.1 hS' ?_⟩
      rw [Array.setIfInBounds_comm _ _ hji]
      exact h3.2.2
def waitsOn (md : Region.Mode) (ops : Array Oper) (m i : Nat) : Bool := match ops[m]? with | some o => o.after.toList.any fun e => Region.binds md e && decide (e.on = i) | none => false
/-- Take number i first. -/
theorem wpAnyT_take {i : Nat} {oi : Oper} {v : Value} {fuel : Nat} {listed : Array Bool} {a : Act} {w : World} (hi : ops[i]? = some oi)
    (hs : Region.noSelect ops = true) (hf : Region.free md ops listed i = true) (hr : (Region.ready md ops listed).contains i = true) (hw : waitsOn md ops m i = true) (hm : decide (i ≠ m ∧ listed.getD m false = false) = true)
    (hQ : ∀ c a w, Q (.panic c) (a.put oi.dst v) w → Q (.panic c) a w) (hy : YieldsIf P ops S oi v a) (hS : S w)
    (h : wpAnyT P md ops Q m S fuel (listed.setIfInBounds i true) (a.put oi.dst v) w) : wpAnyT P md ops Q m S (fuel + 1) listed a w := by
  have hm' := of_decide_eq_true hm
  cases hom : ops[m]? with
  | none => unfold waitsOn at hw; rw [hom] at hw; cases hw
  | some om =>
    unfold waitsOn at hw
    rw [hom] at hw
    obtain ⟨e, he, hb⟩ := List.any_eq_true.1 hw
    simp only [Bool.and_eq_true, decide_eq_true_eq] at hb
    exact wpAnyT_first hi (Region.noSelect_spec hs) hQ hom ⟨e, by simpa using he, hb⟩ hm'.1 fuel listed a w hm'.2 (Region.free_spec hi hf) (by simpa using hr) hy hS h
/-- What yields in whatever world may be taken first. -/
theorem wpAnyT_free1 {i : Nat} {oi : Oper} {v : Value} (hi : ops[i]? = some oi) (hsel : ∀ (j : Nat) (o : Oper) cs b, ops[j]? = some o → o.op ≠ .select cs b)
    (hQ : ∀ c a w, Q (.panic c) (a.put oi.dst v) w → Q (.panic c) a w) (him : i ≠ m) :
    ∀ (fuel : Nat) (listed : Array Bool) (a : Act) (w : World), (listed.getD m false = true ∨ S w) →
      (∀ j oj, ops[j]? = some oj → j ≠ i → listed.getD j true = false → (∀ e ∈ oj.after, Region.binds md e = true → e.on ≠ i) → oi.apart ops oj = true) →
      i ∈ Region.ready md ops listed → YieldsIf P ops (fun _ => True) oi v a →
      wpAnyT P md ops Q m S fuel (listed.setIfInBounds i true) (a.put oi.dst v) w → wpAnyT P md ops Q m S (fuel + 1) listed a w := by
  intro fuel
  induction fuel with
  | zero =>
    intro listed a w hmu _ hr hy H
    refine ⟨fun h => (by rw [h] at hr; cases hr), fun j hj => ?_⟩
    by_cases hji : j = i
    · subst hji; exact hy.wpOp hi trivial ⟨by rw [getD_set_far him]; exact hmu, H⟩
    · have := ready_mono hj hji
      rw [H.1] at this
      cases this
  | succ fuel ih =>
    intro listed a w hmu hfree hr hy H
    refine ⟨fun h => (by rw [h] at hr; cases hr), fun j hj => ?_⟩
    by_cases hji : j = i
    · subst hji; exact hy.wpOp hi trivial ⟨by rw [getD_set_far him]; exact hmu, H⟩
    · have h1 := H.2 j (ready_mono hj hji)
      obtain ⟨hjun, oj, hoj, hall⟩ := mem_ready.1 hj
      have hnot : ∀ e ∈ oj.after, Region.binds md e = true → e.on ≠ i := fun e he hb heq => by
        have h1 := hall e he hb
        have h0 := (mem_ready.1 hr).1
        rw [heq] at h1
        rcases Nat.lt_or_ge i listed.size with h' | h'
        · simp [h'] at h0 h1; rw [h0] at h1; cases h1
        · simp [Array.getElem?_eq_none h'] at h1
      have h2 := wpOp_putIf hoj (hfree j oj hoj hji hjun hnot) (fun cs b => hsel i oi cs b hi) (fun cs b => hsel j oj cs b hoj) hQ hy h1
      have hfree' : ∀ k ok, ops[k]? = some ok → k ≠ i → (listed.setIfInBounds j true).getD k true = false →
          (∀ e ∈ ok.after, Region.binds md e = true → e.on ≠ i) → oi.apart ops ok = true := fun k ok hk hki hun hno => by
        refine hfree k ok hk hki ?_ hno
        by_cases hjk : j = k
        · subst hjk; exact hjun
        · rw [getD_set_ne true hjk] at hun; exact hun
      refine wpOp_mono (fun a' w' h3 => ?_) h2
      have hS' : (listed.setIfInBounds j true).getD m false = true ∨ S w' := by
        have h4 := h3.2.1
        rw [Array.setIfInBounds_comm _ _ (Ne.symm hji), getD_set_far him] at h4
        exact h4
      refine ⟨hS', ih (listed.setIfInBounds j true) a' w' hS' hfree' (ready_mono hr (Ne.symm hji)) h3.1 ?_⟩
      rw [Array.setIfInBounds_comm _ _ hji]
      exact h3.2.2
theorem wpAnyT_free {i : Nat} {oi : Oper} {v : Value} {fuel : Nat} {listed : Array Bool} {a : Act} {w : World} (hi : ops[i]? = some oi)
    (hs : Region.noSelect ops = true) (hf : Region.free md ops listed i = true) (hr : (Region.ready md ops listed).contains i = true) (hm : decide (i ≠ m) = true)
    (hQ : ∀ c a w, Q (.panic c) (a.put oi.dst v) w → Q (.panic c) a w) (hS : S w) (hy : YieldsIf P ops (fun _ => True) oi v a)
    (h : wpAnyT P md ops Q m S fuel (listed.setIfInBounds i true) (a.put oi.dst v) w) : wpAnyT P md ops Q m S (fuel + 1) listed a w :=
  wpAnyT_free1 hi (Region.noSelect_spec hs) hQ (of_decide_eq_true hm) fuel listed a w (.inr hS) (Region.free_spec hi hf) (by simpa using hr) hy h
/-- The one operation that may come up. -/
theorem wpAnyT_call {i : Nat} {o : Oper} {f : Nat} {listed : Array Bool} {a : Act} {w : World} (hr : Region.ready md ops listed = [i]) (ho : ops[i]? = some o) (hw : Region.wanted o (yielded ops a.tmps) = true)
    (h : ∀ K : Act → World → Prop, Hid (∀ a' w', S w' → wpAnyT P md ops Q m S f (listed.setIfInBounds i true) a' w' → K a' w') → o.wp P a w K Q) : wpAnyT P md ops Q m S (f + 1) listed a w := by
  refine ⟨fun h0 => (by rw [hr] at h0; cases h0), fun j hj => ?_⟩
  rw [hr] at hj
  obtain rfl : j = i := by simpa using hj
  unfold wpOp
  rw [ho]
  simp only [hw, if_true]
  exact .inl (h _ (Lib.hid fun a' w' h1 h2 => ⟨.inr h1, h2⟩))
/-- Operation m comes up, and what is behind it. -/
theorem wpAnyT_tail {f : Nat} {listed : Array Bool} {a : Act} {w : World} (l : List Oper) (k : Nat) (hm : m = k) (hl : ∀ j, l[j]? = ops[k + j]?) (hf : l.length = f) (hne : 0 < f) (hlt : decide (k < listed.size) = true) (hB : Region.seqB md ops l.length k listed = true) (h : wpList P ops Q l a w) : wpAnyT P md ops Q m S f listed a w := by
  subst hm hf
  have H := wpAny_of_seq (md := md) (Q' := Q) l m listed a w hl hB h
  cases hl2 : l.length with
  | zero => omega
  | succ n =>
    rw [hl2] at H hB
    refine ⟨H.1, fun i hi => wpOp_mono (fun a' w' h' => ?_) (H.2 i hi)⟩
    have him : i = m := by
      simp only [Region.seqB, Bool.and_eq_true, decide_eq_true_eq] at hB
      rw [hB.1] at hi
      simpa using hi
    have h1 : (listed.setIfInBounds i true).getD m false = true := by
      subst him
      simp only [Array.getD_eq_getD_getElem?]
      rw [Array.getElem?_setIfInBounds_self_of_lt (of_decide_eq_true hlt)]; rfl
    exact ⟨.inl h1, wpAnyT_of_any n _ a' w' h1 h'⟩
theorem wpAnyT_drop {L : List Oper} {f : Nat} {listed : Array Bool} {a : Act} {w : World} (hf : decide ((L.drop m).length = f ∧ 0 < f ∧ m < listed.size) = true) (hB : Region.seqB md L.toArray (L.drop m).length m listed = true) (h : wpList P L.toArray Q (L.drop m) a w) : wpAnyT P md L.toArray Q m S f listed a w := by
  have h0 := of_decide_eq_true hf
  exact wpAnyT_tail (L.drop m) m rfl (fun j => by simp [List.getElem?_drop]) h0.1 h0.2.1 (decide_eq_true h0.2.2) hB h
theorem wp_builtSlice {o : Oper} {a : Act} {w w' : World} {K : Act → World → Prop} (ty : TypeId) (len : Nat) (parts : Array (Nat × Operand)) (ho : o.op = .buildSlice ty len parts)
    {vals : Array (Nat × Value)} (hv : (parts.map fun (i, x) => (i, a.eval x)) = vals) {V : Value} (hr : (Instr.buildSlice ty len vals).run P w = .ok V w') (h : K (a.put o.dst V) w') : o.wp P a w K Q := by
  unfold Oper.wp execOp
  simp only [ho, hv, Sem.run_bind, Sem.run_pure, Result.andThen_ok, hr]
  exact h
theorem wp_region_until {id : Nat} {a : Act} {w : World} (m : Nat) (S : World → Prop) (hm : P.follows .mixedOrders = true)
    (h : wpAnyT P .any ops Q m S ops.size (Array.replicate ops.size false) a w.drew) : (Code.region id ops true).wp P Q a w :=
  wp_region_any hm (wpAny_of_T _ _ _ _ h)
theorem wpIn_round_until {id n lr : Nat} {a : Act} {w : World} {l : List Oper} (m : Nat) (S : World → Prop) (hQ : ¬ LetsOut Q) (hm : P.follows .mixedOrders = true) (hd : l.all noDefer = true)
    (h : wpAnyT P .any l.toArray Q m S l.toArray.size (Array.replicate l.toArray.size false) a w.drew) : (Code.region id l.toArray true).wpIn (Fence.wide.inRound lr) n P Q a w :=
  wpIn_region_any hm (wpAnyIn_round (fun i o ho => by
    rw [List.getElem?_toArray] at ho
    exact List.all_eq_true.1 hd o (List.mem_of_getElem? ho)) hQ _ _ _ _ (wpAny_of_T _ _ _ _ h))
end
end Go.Proofs.YtjcklmhkdpbbdaaDoor
