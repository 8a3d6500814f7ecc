/- A drawn region under a condition on the world that may grow stronger on the way. -/
import Derived.Test.YtmhbpfclfffgkaaApp
import Derived.Deep.RegionHeld3
import Derived.Test.YtmhbpfclfffgkaaRegions
namespace Go.Proofs.Ytmhbpfclfffgkaa
set_option linter.unusedVariables false
open Go.RowKit

section
variable {P : Program} {ops : Array Oper} {Q : Exit → Act → World → Prop} {md : Region.Mode} {S S2 : World → Prop}
theorem wpAnyH_mono (h : ∀ w, S2 w → S w) : ∀ (f : Nat) (listed : Array Bool) (a : Act) (w : World), wpAnyH P md ops Q S2 f listed a w → wpAnyH P md ops Q S f listed a w
  | 0, _, _, _, H => H
  | f + 1, _, _, _, H => ⟨H.1, fun i hi => wpOp_mono (fun a' w' h' => ⟨h _ h'.1, wpAnyH_mono h f _ a' w' h'.2⟩) (H.2 i hi)⟩
theorem wpAnyH_call {i : Nat} {o : Oper} {f : Nat} {listed : Array Bool} {a : Act} {w : World} (hr : Region.ready md ops listed = [i]) (ho : ops[i]? = some o) (hw : Region.wanted o (yielded ops a.tmps) = true)
    (h : ∀ K : Act → World → Prop, Hid (∀ a' w', S w' → wpAnyH P md ops Q S f (listed.setIfInBounds i true) a' w' → K a' w') → o.wp P a w K Q) : wpAnyH P md ops Q S (f + 1) listed a w := by
  refine wpAnyH_all hr (by simp) fun j hj => ?_
  obtain rfl : j = i := by simpa using hj
  unfold wpOp
  rw [ho]
  simp only [hw, if_true]
  exact .inl (h _ (Lib.hid fun a' w' h1 h2 => ⟨h1, h2⟩))
end
end Go.Proofs.Ytmhbpfclfffgkaa
namespace Go.Proofs.Ytmhbpfclfffgkaa
set_option linter.unusedVariables false
open Go.RowKit Go.Sort

/-- Of what was there nothing has turned, but for the mark behind a row of bytes. -/
structure Turn (w w' : World) : Prop where
  size : w.heap.size ≤ w'.heap.size
  block : ∀ b, b < w.heap.size → w'.heap[b]? = w.heap[b]? ∨ ∃ cs fz fz', w.heap[b]? = some (.cells cs 5 fz) ∧ w'.heap[b]? = some (.cells cs 5 fz')
theorem Turn.of_below {w w' : World} (h : Below w.heap.size w w') : Turn w w' := ⟨h.size, fun b hb => .inl (h.block b hb)⟩
/-- What a slot holds; it stays true where only new blocks are made. -/
structure SP where
  p : World → Value → Prop
  mono : ∀ {w w' : World} {v : Value}, p w v → Turn w w' → p w' v
def SP.eq (x : Value) : SP := ⟨fun _ v => v = x, fun h _ => h⟩
def SP.any : SP := ⟨fun _ _ => True, fun h _ => h⟩
instance : Inhabited SP := ⟨SP.any⟩
def updV (vals : Nat → Value) (i : Nat) (v : Value) : Nat → Value := fun j => if j = i then v else vals j
/-- Slots ds hold vals k, vals (k + 1), ... -/
def fillL (t : Array Value) : List Tmp → Nat → (Nat → Value) → Array Value
  | [], _, _ => t
  | d :: ds, k, vals => (fillL t ds (k + 1) vals).setIfInBounds d (vals k)
theorem fillL_congr (t : Array Value) : ∀ (ds : List Tmp) (k : Nat) (f g : Nat → Value), (∀ j, k ≤ j → f j = g j) → fillL t ds k f = fillL t ds k g
  | [], _, _, _, _ => rfl
  | d :: ds, k, f, g, h => by
    unfold fillL
    rw [fillL_congr t ds (k + 1) f g fun j hj => h j (by omega), h k (Nat.le_refl k)]
theorem fillL_put (t : Array Value) (v : Value) : ∀ (ds : List Tmp) (k i : Nat) (d : Tmp) (vals : Nat → Value), ds.Nodup → ds[i]? = some d → (fillL t ds k vals).setIfInBounds d v = fillL t ds k (updV vals (k + i) v)
  | [], _, _, _, _, _, h => by simp at h
  | d0 :: ds, k, 0, d, vals, hn, h => by
    obtain rfl : d0 = d := by simpa using h
    unfold fillL
    rw [Array.setIfInBounds_setIfInBounds, fillL_congr t ds (k + 1) vals (updV vals (k + 0) v) fun j hj => by simp [updV, show ¬ j = k by omega]]
    simp [updV]
  | d0 :: ds, k, i + 1, d, vals, hn, h => by
    have h' : ds[i]? = some d := by simpa using h
    have hne : d0 ≠ d := by
      rintro rfl
      exact (List.nodup_cons.1 hn).1 (List.mem_of_getElem? h')
    unfold fillL
    rw [Array.setIfInBounds_comm _ _ hne, fillL_put t v ds (k + 1) i d vals (List.nodup_cons.1 hn).2 h']
    rw [show k + 1 + i = k + (i + 1) by omega]
    simp [updV]
def iniV (t : Array Value) (ds : List Tmp) : Nat → Value := fun j => ((ds[j]?).bind fun d => t[d]?).getD undef
theorem fillL_ini (t : Array Value) : ∀ (ds : List Tmp) (k : Nat) (f : Nat → Value), (∀ i d x, ds[i]? = some d → t[d]? = some x → f (k + i) = x) → fillL t ds k f = t
  | [], _, _, _ => rfl
  | d :: ds, k, f, h => by
    unfold fillL
    rw [fillL_ini t ds (k + 1) f fun i d x hi hx => by
      have := h (i + 1) d x (by simpa using hi) hx
      rwa [show k + 1 + i = k + (i + 1) by omega]]
    rcases hd : t[d]? with _ | x
    · rw [Array.setIfInBounds_eq_of_size_le (by simpa using hd)]
    · have := h 0 d x (by simp) hd
      rw [Nat.add_zero] at this
      rw [this]
      apply Array.ext_getElem?
      intro i
      rw [Array.getElem?_setIfInBounds]
      split
      · rename_i h
        subst h
        rw [hd]
        have := (Array.getElem?_eq_some_iff.1 hd).1
        simp [this]
      · rfl
def fillA (a : Act) (ds : List Tmp) (vals : Nat → Value) : Act := { a with tmps := fillL a.tmps ds 0 vals }

section
variable {P : Program} {ops : Array Oper} {md : Region.Mode} {Q : Exit → Act → World → Prop}
theorem wpAny_more : ∀ (fuel : Nat) (listed : Array Bool) (a : Act) (w : World), wpAny P md ops Q fuel listed a w → wpAny P md ops Q (fuel + 1) listed a w
  | 0, listed, a, w, h => ⟨fun _ => h.2, fun i hi => by rw [h.1] at hi; cases hi⟩
  | f + 1, listed, a, w, h => ⟨h.1, fun i hi => wpOp_mono (fun a' w' => wpAny_more f _ a' w') (h.2 i hi)⟩
theorem wpAny_plus (listed : Array Bool) (a : Act) (w : World) : ∀ (k fuel : Nat), wpAny P md ops Q fuel listed a w → wpAny P md ops Q (k + fuel) listed a w
  | 0, _, h => by rwa [Nat.zero_add]
  | k + 1, fuel, h => by
    rw [show k + 1 + fuel = (k + fuel) + 1 by omega]
    exact wpAny_more _ _ _ _ (wpAny_plus listed a w k fuel h)
def Region.lowB (md : Region.Mode) (ops : Array Oper) (n : Nat) : Bool :=
  (List.range n).all fun i => ((ops[i]?).map fun o => o.guard.isNone && o.dst.isSome && o.after.all fun e => !Go.Region.binds md e || decide (e.on < i)).getD false
theorem lowB_spec {n : Nat} (h : Region.lowB md ops n = true) {i : Nat} (hi : i < n) : ∃ o, ops[i]? = some o ∧ o.guard = none ∧ (∃ d, o.dst = some d) ∧ ∀ e ∈ o.after, Go.Region.binds md e = true → e.on < i := by
  have h1 := List.all_eq_true.1 h i (List.mem_range.2 hi)
  rcases ho : ops[i]? with _ | o
  · rw [ho] at h1
    cases h1
  · rw [ho] at h1
    simp only [Option.map_some, Option.getD_some, Bool.and_eq_true, Option.isNone_iff_eq_none, Option.isSome_iff_exists] at h1
    refine ⟨o, rfl, h1.1.1, h1.1.2, fun e he hb => ?_⟩
    have := Array.all_eq_true_iff_forall_mem.1 h1.2 e he
    simpa [hb] using this
def unl (n : Nat) (listed : Array Bool) : List Nat := (List.range n).filter fun i => !listed.getD i false
theorem unl_set {n i : Nat} {listed : Array Bool} (hi : i < n) (hs : i < listed.size) (h : listed.getD i false = false) : (unl n (listed.setIfInBounds i true)).length < (unl n listed).length := by
  have e : unl n (listed.setIfInBounds i true) = (unl n listed).filter fun j => decide (j ≠ i) := by
    unfold unl
    rw [List.filter_filter]
    apply List.filter_congr
    intro j hj
    by_cases hji : j = i
    · subst hji
      simp [hs]
    · rw [getD_set_ne false (Ne.symm hji)]
      simp [hji]
  rw [e]
  have hmem : i ∈ unl n listed := by
    unfold unl
    rw [List.mem_filter]
    exact ⟨List.mem_range.2 hi, by rw [h]; rfl⟩
  have := List.length_filter_lt_length_iff_exists (p := fun j => decide (j ≠ i)) (l := unl n listed)
  exact this.2 ⟨i, hmem, by simp⟩
def fullB (n m : Nat) : Array Bool := (List.replicate n true ++ List.replicate m false).toArray
theorem wpAny_spec {n : Nat} (l : List Oper) (hl : l.toArray = ops) (a0 : Act) (ds : List Tmp) (V : Nat → World → Value → Prop) (w0 : World) (B : Nat) (hB0 : B ≤ w0.heap.size) (hds : ∀ i, i < n → ∀ o, ops[i]? = some o → ds[i]? = o.dst) (hnd : ds.Nodup)
    (hn : n < ops.size) (hs : Region.sinkB md ops n = true) (hc : Region.chainB md ops n = true) (hlow : Region.lowB md ops n = true) (hseq : Region.seqB md ops (ops.size - n) n (fullB n (ops.size - n)) = true)
    (hmono : ∀ i w w' v, V i w v → Turn w w' → V i w' v)
    (hops : ∀ i o, i < n → ops[i]? = some o → ∀ vals w, Below B w0 w → (∀ e ∈ o.after, Go.Region.binds md e = true → V e.on w (vals e.on)) → ∀ K, Hid (∀ v w', Below B w w' → Turn w w' → V i w' v → K ((fillA a0 ds vals).put o.dst v) w') → o.wp P (fillA a0 ds vals) w K Q)
    (htail : ∀ vals w, Below B w0 w → (∀ i, i < n → V i w (vals i)) → wpList P ops Q (l.drop n) (fillA a0 ds vals) w) :
    ∀ (f : Nat) (listed : Array Bool) (vals : Nat → Value) (w : World), (unl n listed).length ≤ f → HeadInv md ops n listed → Below B w0 w → (∀ i, i < n → listed.getD i false = true → V i w (vals i)) →
      wpAny P md ops Q (f + (ops.size - n)) listed (fillA a0 ds vals) w := by
  intro f
  have hend : ∀ (listed : Array Bool) (vals : Nat → Value) (w : World), unl n listed = [] → HeadInv md ops n listed → Below B w0 w → (∀ i, i < n → listed.getD i false = true → V i w (vals i)) → wpAny P md ops Q (ops.size - n) listed (fillA a0 ds vals) w := by
    intro listed vals w hu inv hb hv
    have hall : ∀ i, i < n → listed.getD i false = true := fun i hi => by
      rcases hx : listed.getD i false with _ | _
      · have : i ∈ unl n listed := by
          unfold unl
          rw [List.mem_filter]
          exact ⟨List.mem_range.2 hi, by rw [hx]; rfl⟩
        rw [hu] at this
        cases this
      · rfl
    have hfull : listed = fullB n (ops.size - n) := by
      apply Array.ext_getElem?
      intro i
      have e : (fullB n (ops.size - n))[i]? = (List.replicate n true ++ List.replicate (ops.size - n) false)[i]? := by
        unfold fullB
        exact List.getElem?_toArray
      rw [e]
      rcases Nat.lt_or_ge i n with h | h
      · rw [List.getElem?_append_left (by simpa using h), List.getElem?_replicate, if_pos h]
        have := hall i h
        have hi : i < listed.size := by rw [inv.size]; omega
        rw [Array.getElem?_eq_getElem hi]
        rw [Array.getD_eq_getD_getElem?, Array.getElem?_eq_getElem hi] at this
        simpa using this
      · rw [List.getElem?_append_right (by simpa using h), List.length_replicate, List.getElem?_replicate]
        by_cases h2 : i < ops.size
        · rw [if_pos (by omega)]
          have := inv.tail i h h2
          have hi : i < listed.size := by rw [inv.size]; omega
          rw [Array.getElem?_eq_getElem hi]
          rw [Array.getD_eq_getD_getElem?, Array.getElem?_eq_getElem hi] at this
          simpa using this
        · rw [if_neg (by omega), Array.getElem?_eq_none (by rw [inv.size]; omega)]
    have hsz : (l.drop n).length = ops.size - n := by rw [← hl]; simp
    have := wpAny_of_seq (P := P) (md := md) (ops := ops) (Q' := Q) (l.drop n) n listed (fillA a0 ds vals) w (fun j => by rw [← hl]; simp [List.getElem?_drop]) (by rw [hsz, hfull]; exact hseq) (htail vals w hb fun i hi => hv i hi (hall i hi))
    rwa [hsz] at this
  induction f with
  | zero =>
    intro listed vals w hu inv hb hv
    rw [Nat.zero_add]
    exact hend listed vals w (List.eq_nil_of_length_eq_zero (by omega)) inv hb hv
  | succ f ih =>
    intro listed vals w hu inv hb hv
    by_cases hnil : unl n listed = []
    · exact wpAny_plus _ _ _ _ _ (hend listed vals w hnil inv hb hv)
    rw [show f + 1 + (ops.size - n) = (f + (ops.size - n)) + 1 by omega]
    obtain ⟨i1, hi1⟩ := List.exists_mem_of_ne_nil _ hnil
    have hun : ∃ i, i < n ∧ listed.getD i false = false := ⟨i1, by
      unfold unl at hi1
      rw [List.mem_filter] at hi1
      exact ⟨List.mem_range.1 hi1.1, by simpa using hi1.2⟩⟩
    obtain ⟨i0, ⟨hi0, hf0⟩, hmin⟩ : ∃ i, (i < n ∧ listed.getD i false = false) ∧ ∀ j, j < i → ¬ (j < n ∧ listed.getD j false = false) := by
      obtain ⟨i, hi⟩ := hun
      induction i using Nat.strongRecOn with
      | _ i ih2 =>
        by_cases hx : ∃ j, j < i ∧ (j < n ∧ listed.getD j false = false)
        · obtain ⟨j, hj, hj2⟩ := hx
          exact ih2 j hj hj2
        · exact ⟨i, hi, fun j hj hj2 => hx ⟨j, hj, hj2⟩⟩
    have hready : i0 ∈ Region.ready md ops listed := by
      obtain ⟨o, ho, _, _, hd⟩ := lowB_spec hlow hi0
      refine mem_ready.2 ⟨getD_in (by rw [inv.size]; omega) hf0, o, ho, fun e he hb => ?_⟩
      have hlt := hd e he hb
      rcases hx : listed.getD e.on false with _ | _
      · exact (hmin e.on hlt ⟨by omega, hx⟩).elim
      · rfl
    refine ⟨fun h0 => (by rw [h0] at hready; cases hready), fun i hi => ?_⟩
    have hin : i < n := by
      rcases Nat.lt_or_ge i n with h | h
      · exact h
      · exact absurd hi (tail_waits hs hc hn inv _ i0 rfl hi0 (getD_in (by rw [inv.size]; omega) hf0) i h)
    obtain ⟨hun', o', ho', hall⟩ := mem_ready.1 hi
    obtain ⟨o, ho, hg, ⟨d, hd⟩, hlo⟩ := lowB_spec hlow hin
    obtain rfl : o' = o := Option.some.inj (ho'.symm.trans ho)
    have hw : Region.wanted o' (yielded ops (fillA a0 ds vals).tmps) = true := by simp [Region.wanted, hg]
    unfold wpOp
    rw [ho]
    simp only [hw, if_true]
    refine .inl (hops i o' hin ho vals w hb (fun e he hbd => hv e.on (by have := hlo e he hbd; omega) (hall e he hbd)) _ (Lib.hid fun v w' hb' ht' hv' => ?_))
    have hp : (fillA a0 ds vals).put o'.dst v = fillA a0 ds (updV vals i v) := by
      have := fillL_put a0.tmps v ds 0 i d vals hnd ((hds i hin o' ho).trans hd)
      rw [Nat.zero_add] at this
      rw [hd]
      show Act.mk _ _ = _
      unfold fillA
      rw [← this]
    rw [hp]
    refine ih _ _ w' ?_ (inv.set hi hin) (hb.trans hb') fun j hj hlj => ?_
    · have := unl_set (listed := listed) hin (by rw [inv.size]; omega) (getD_both hun')
      omega
    · by_cases hji : j = i
      · subst hji
        simpa [updV] using hv'
      · rw [getD_set_ne false (Ne.symm hji)] at hlj
        have := hmono j w w' (vals j) (hv j hj hlj) ht'
        simpa [updV, hji] using this

/-- The steps of a list of operations, each by itself. -/
def StepsOk (st : Nat → Oper → Prop) : Nat → List Oper → Prop
  | _, [] => True
  | k, o :: l => st k o ∧ StepsOk st (k + 1) l
theorem StepsOk.nil {st : Nat → Oper → Prop} {k : Nat} : StepsOk st k [] := trivial
theorem StepsOk.cons {st : Nat → Oper → Prop} {k : Nat} {o : Oper} {l : List Oper} (h : st k o) (h' : StepsOk st (k + 1) l) : StepsOk st k (o :: l) := ⟨h, h'⟩
theorem StepsOk.at {st : Nat → Oper → Prop} : ∀ {l : List Oper} {k : Nat}, StepsOk st k l → ∀ {i : Nat} {o : Oper}, l[i]? = some o → st (k + i) o
  | [], _, _, _, _, h => by simp at h
  | o0 :: l, k, h, 0, o, hi => by
    obtain rfl : o0 = o := by simpa using hi
    exact h.1
  | o0 :: l, k, h, i + 1, o, hi => by
    have := StepsOk.at h.2 (i := i) (o := o) (by simpa using hi)
    rwa [show k + 1 + i = k + (i + 1) by omega] at this
def Region.specB (l : List Oper) (n : Nat) (ds : List Tmp) : Bool :=
  decide (n < l.toArray.size) && Go.Region.sinkB .any l.toArray n && Go.Region.chainB .any l.toArray n && Region.lowB .any l.toArray n && Go.Region.seqB .any l.toArray (l.toArray.size - n) n (fullB n (l.toArray.size - n)) &&
    decide ((l.take n).map (·.dst) = ds.map some) && decide ds.Nodup
/-- What the operation at hand may take for given: the slots of the operations that it waits for. -/
def depsOf (o : Oper) : List Nat := (o.after.toList.filter fun e => Go.Region.binds .any e).map (·.on)
def StepS (P : Program) (Q : Exit → Act → World → Prop) (a : Act) (w : World) (ds : List Tmp) (Vs : List SP) (i : Nat) (o : Oper) : Prop :=
  ∀ vals w', Below w.heap.size w w' → (∀ j ∈ depsOf o, (Vs.getD j SP.any).p w' (vals j)) → ∀ K, Hid (∀ v w'' a'', Below w'.heap.size w' w'' → (Vs.getD i SP.any).p w'' v → a'' = (fillA a ds vals).put o.dst v → K a'' w'') → o.wp P (fillA a ds vals) w' K Q
/-- .. a step that may mark a row of bytes. -/
def StepU (P : Program) (Q : Exit → Act → World → Prop) (a : Act) (w : World) (ds : List Tmp) (Vs : List SP) (i : Nat) (o : Oper) : Prop :=
  ∀ vals w', Below w.heap.size w w' → (∀ j ∈ depsOf o, (Vs.getD j SP.any).p w' (vals j)) → ∀ K, Hid (∀ v w'' a'', Below w.heap.size w' w'' → Turn w' w'' → (Vs.getD i SP.any).p w'' v → a'' = (fillA a ds vals).put o.dst v → K a'' w'') → o.wp P (fillA a ds vals) w' K Q
theorem StepU.of {P : Program} {Q : Exit → Act → World → Prop} {a : Act} {w : World} {ds : List Tmp} {Vs : List SP} {i : Nat} {o : Oper} (h : StepS P Q a w ds Vs i o) : StepU P Q a w ds Vs i o :=
  fun vals w' hb hd K hK => h vals w' hb hd K (Lib.hid fun v w'' a'' h1 h2 h3 => hK.out v w'' a'' (h1.mono hb.size) (Turn.of_below h1) h2 h3)
theorem StepsOk.mono {st st' : Nat → Oper → Prop} (h : ∀ i o, st i o → st' i o) : ∀ {l : List Oper} {k : Nat}, StepsOk st k l → StepsOk st' k l
  | [], _, _ => trivial
  | _ :: _, _, ⟨h1, h2⟩ => ⟨h _ _ h1, StepsOk.mono h h2⟩
theorem wp_region_specU {id : Nat} {a : Act} {w : World} {l : List Oper} (n : Nat) (ds : List Tmp) (Vs : List SP) (hm : P.follows .mixedOrders = true) (hB : Region.specB l n ds = true)
    (hops : StepsOk (StepU P Q a w ds Vs) 0 (l.take n))
    (htail : ∀ vals w', Below w.heap.size w w' → (∀ i, i < n → (Vs.getD i SP.any).p w' (vals i)) → wpList P l.toArray Q (l.drop n) (fillA a ds vals) w') : (Code.region id l.toArray true).wp P Q a w := by
  unfold Region.specB at hB
  simp only [Bool.and_eq_true, decide_eq_true_eq] at hB
  obtain ⟨⟨⟨⟨⟨⟨hn, hs⟩, hc⟩, hlow⟩, hseq⟩, hds⟩, hnd⟩ := hB
  refine wp_region_any hm ?_
  have hlen : ds.length = n := by
    have := congrArg List.length hds
    simp at this hn
    omega
  have hget : ∀ i, i < n → ∀ o, l.toArray[i]? = some o → ds[i]? = o.dst := by
    intro i hi o ho
    have h1 : ((l.take n).map (·.dst))[i]? = some o.dst := by
      rw [List.getElem?_map, List.getElem?_take, if_pos hi]
      rw [List.getElem?_toArray] at ho
      rw [ho]
      rfl
    rw [hds, List.getElem?_map] at h1
    rcases hd : ds[i]? with _ | d
    · rw [hd] at h1
      cases h1
    · rw [hd] at h1
      simpa using h1
  have hini : fillA a ds (iniV a.tmps ds) = a := by
    unfold fillA
    rw [fillL_ini a.tmps ds 0 _ fun i d x hi hx => by simp [iniV, hi, hx]]
  have H := wpAny_spec (P := P) (md := .any) (Q := Q) (n := n) l rfl a ds (fun i w v => (Vs.getD i SP.any).p w v) w w.heap.size (Nat.le_refl _) hget hnd hn hs hc hlow hseq (fun i w w' v h hb => (Vs.getD i SP.any).mono h hb)
    (fun i o hi ho vals w' hb hd K hK => by
      have hst := StepsOk.at hops (i := i) (o := o) (by rw [List.getElem?_take, if_pos hi]; simpa using ho)
      rw [Nat.zero_add] at hst
      refine hst vals w' hb (fun j hj => ?_) K (Lib.hid fun v w'' a'' h1 h2 h3 h4 => by rw [h4]; exact hK.out v w'' h1 h2 h3)
      unfold depsOf at hj
      obtain ⟨e, he, rfl⟩ := List.mem_map.1 hj
      rw [List.mem_filter] at he
      exact hd e (by simpa using he.1) he.2)
    htail n (Array.replicate l.toArray.size false) (iniV a.tmps ds) w.drew
    (by
      unfold unl
      refine Nat.le_trans (List.length_filter_le _ _) (by simp))
    ⟨by simp, fun j oj _ hl => (by rw [getD_replicate_false] at hl; cases hl), fun t _ ht => getD_in (by simpa using ht) (getD_replicate_false _ _)⟩
    ((Below.refl _ w).drew) (fun i _ hl => by rw [getD_replicate_false] at hl; cases hl)
  rw [hini, show n + (l.toArray.size - n) = l.toArray.size by omega] at H
  exact H
theorem wp_region_spec {id : Nat} {a : Act} {w : World} {l : List Oper} (n : Nat) (ds : List Tmp) (Vs : List SP) (hm : P.follows .mixedOrders = true) (hB : Region.specB l n ds = true)
    (hops : StepsOk (StepS P Q a w ds Vs) 0 (l.take n))
    (htail : ∀ vals w', Below w.heap.size w w' → (∀ i, i < n → (Vs.getD i SP.any).p w' (vals i)) → wpList P l.toArray Q (l.drop n) (fillA a ds vals) w') : (Code.region id l.toArray true).wp P Q a w :=
  wp_region_specU n ds Vs hm hB (StepsOk.mono (fun _ _ h => StepU.of h) hops) htail
end
end Go.Proofs.Ytmhbpfclfffgkaa
namespace Go.Proofs.Ytmhbpfclfffgkaa
set_option linter.unusedVariables false
open Go.RowKit Go.Sort

/-- Slots hold the values of their operations. -/
def fillP (t : Array Value) : List (Nat × Tmp) → (Nat → Value) → Array Value
  | [], _ => t
  | (i, d) :: r, vals => (fillP t r vals).setIfInBounds d (vals i)
theorem fillP_congr (t : Array Value) : ∀ (l : List (Nat × Tmp)) (f g : Nat → Value), (∀ p ∈ l, f p.1 = g p.1) → fillP t l f = fillP t l g
  | [], _, _, _ => rfl
  | (i, d) :: l, f, g, h => by
    unfold fillP
    rw [fillP_congr t l f g fun p hp => h p (List.mem_cons_of_mem _ hp), h (i, d) (List.mem_cons_self ..)]
theorem fillP_put (t : Array Value) (v : Value) : ∀ (l : List (Nat × Tmp)) (i : Nat) (d : Tmp) (vals : Nat → Value), (l.map (·.2)).Nodup → (l.map (·.1)).Nodup → (i, d) ∈ l → (fillP t l vals).setIfInBounds d v = fillP t l (updV vals i v)
  | [], _, _, _, _, _, h => by cases h
  | (i0, d0) :: l, i, d, vals, hn, hn1, h => by
    simp only [List.map_cons, List.nodup_cons] at hn hn1
    rcases List.mem_cons.1 h with h | h
    · simp only [Prod.mk.injEq] at h
      obtain ⟨rfl, rfl⟩ := h
      unfold fillP
      rw [Array.setIfInBounds_setIfInBounds, fillP_congr t l vals (updV vals i v) fun p hp => by
        have : p.1 ≠ i := fun e => hn1.1 (by rw [← e]; exact List.mem_map.2 ⟨p, hp, rfl⟩)
        simp [updV, this]]
      simp [updV]
    · have hne : d0 ≠ d := by
        rintro rfl
        exact hn.1 (List.mem_map.2 ⟨(i, d0), h, rfl⟩)
      have hni : i0 ≠ i := by
        rintro rfl
        exact hn1.1 (List.mem_map.2 ⟨(i0, d), h, rfl⟩)
      unfold fillP
      rw [Array.setIfInBounds_comm _ _ hne, fillP_put t v l i d vals hn.2 hn1.2 h]
      simp [updV, hni]
def iniP (t : Array Value) (l : List (Nat × Tmp)) : Nat → Value := fun i => (((l.find? fun p => p.1 == i)).bind fun p => t[p.2]?).getD undef
theorem fillP_ini (t : Array Value) : ∀ (l : List (Nat × Tmp)) (f : Nat → Value), (∀ p ∈ l, ∀ x, t[p.2]? = some x → f p.1 = x) → fillP t l f = t
  | [], _, _ => rfl
  | (i, d) :: l, f, h => by
    unfold fillP
    rw [fillP_ini t l f fun p hp => h p (List.mem_cons_of_mem _ hp)]
    rcases hd : t[d]? with _ | x
    · rw [Array.setIfInBounds_eq_of_size_le (by simpa using hd)]
    · have := h (i, d) (List.mem_cons_self ..) x hd
      simp only at this
      rw [this]
      apply Array.ext_getElem?
      intro j
      rw [Array.getElem?_setIfInBounds]
      split
      · rename_i h
        subst h
        rw [hd]
        have := (Array.getElem?_eq_some_iff.1 hd).1
        simp [this]
      · rfl
def fillQ (a : Act) (l : List (Nat × Tmp)) (vals : Nat → Value) : Act := { a with tmps := fillP a.tmps l vals }

def depsAt (ops : Array Oper) (i : Nat) : List Nat := ((ops[i]?).map depsOf).getD []
/-- Whatever an operation waits for, through others too. -/
def cloB (ops : Array Oper) : List Nat → List Nat → List Nat
  | [], S => S
  | i :: r, S => cloB ops r (if S.contains i then S ++ depsAt ops i else S)
def seqT (ops : Array Oper) : List Nat → Array Bool → Bool
  | [], listed => (Region.ready .any ops listed).isEmpty
  | t :: T, listed => decide (Region.ready .any ops listed = [t]) && seqT ops T (listed.setIfInBounds t true)
def listed0 (n : Nat) (pre : List Nat) (hd : List (Nat × Tmp)) : Array Bool := ((List.range n).map fun i => pre.contains i || hd.any fun p => p.1 == i).toArray
def Region.specT (ops : Array Oper) (pre : List Nat) (hd : List (Nat × Tmp)) (T : List Nat) : Bool :=
  (pre.all fun i => decide (i < ops.size)) && (hd.all fun p => !pre.contains p.1) &&
  (hd.all fun p => ((ops[p.1]?).map fun o => o.guard.isNone && o.dst == some p.2 && (depsOf o).all fun j => pre.contains j || ((hd.any fun q => q.1 == j) && decide (j < p.1))).getD false) &&
  decide ((hd.map (·.2)).Nodup) && decide ((hd.map (·.1)).Nodup) &&
  (T.all fun t => decide (t < ops.size) && !pre.contains t && (!hd.any fun p => p.1 == t) && (let c := cloB ops (List.range ops.size).reverse (depsAt ops t); hd.all fun p => c.contains p.1)) &&
  ((List.range ops.size).all fun i => pre.contains i || (hd.any fun p => p.1 == i) || T.contains i) && seqT ops T (listed0 ops.size pre hd)
structure InvT (ops : Array Oper) (pre T : List Nat) (listed : Array Bool) : Prop where
  size : listed.size = ops.size
  closed : ∀ j oj, ops[j]? = some oj → listed.getD j false = true → ∀ e ∈ oj.after, Region.binds .any e = true → listed.getD e.on false = true
  pre : ∀ i ∈ pre, listed.getD i false = true
  tail : ∀ t ∈ T, listed.getD t true = false
section
variable {P : Program} {ops : Array Oper} {Q : Exit → Act → World → Prop}
theorem depsAt_listed {pre T : List Nat} {listed : Array Bool} (inv : InvT ops pre T listed) {i : Nat} (h : listed.getD i false = true) : ∀ x ∈ depsAt ops i, listed.getD x false = true := by
  intro x hx
  unfold depsAt at hx
  rcases ho : ops[i]? with _ | o
  · rw [ho] at hx; cases hx
  · rw [ho] at hx
    simp only [Option.map_some, Option.getD_some, depsOf, List.mem_map, List.mem_filter] at hx
    obtain ⟨e, ⟨he, hb⟩, rfl⟩ := hx
    exact inv.closed i o ho h e (by simpa using he) hb
theorem cloB_listed {pre T : List Nat} {listed : Array Bool} (inv : InvT ops pre T listed) : ∀ (r S : List Nat), (∀ x ∈ S, listed.getD x false = true) → ∀ x ∈ cloB ops r S, listed.getD x false = true
  | [], S, h => h
  | i :: r, S, h => by
    unfold cloB
    refine cloB_listed inv r _ ?_
    split
    · rename_i hi
      intro x hx
      rcases List.mem_append.1 hx with hx | hx
      · exact h x hx
      · exact depsAt_listed inv (h i (by simpa using hi)) x hx
    · exact h
theorem wpAny_of_seqT : ∀ (T : List Nat) (listed : Array Bool) (a : Act) (w : World), (∀ t ∈ T, t < ops.size) → seqT ops T listed = true → wpList P ops Q (T.filterMap fun t => ops[t]?) a w → wpAny P .any ops Q T.length listed a w
  | [], _, _, _, _, hB, h => ⟨by simpa [seqT] using hB, h⟩
  | t :: T, listed, a, w, hT, hB, h => by
    simp only [seqT, Bool.and_eq_true, decide_eq_true_eq] at hB
    have ht := hT t (List.mem_cons_self ..)
    have h0 : ops[t]? = some ops[t] := Array.getElem?_eq_getElem ht
    simp only [List.filterMap_cons, h0] at h
    refine ⟨fun h1 => (by rw [hB.1] at h1; cases h1), fun i hi => ?_⟩
    rw [hB.1] at hi
    have hik : i = t := by simpa using hi
    subst hik
    have hw : wpOp P ops Q i (wpList P ops Q (T.filterMap fun t => ops[t]?)) a w := by unfold wpOp; simp only [h0]; exact h
    exact wpOp_mono (fun a' w' h' => wpAny_of_seqT T _ a' w' (fun t ht => hT t (List.mem_cons_of_mem _ ht)) hB.2 h') hw
def unlH (hd : List (Nat × Tmp)) (listed : Array Bool) : List (Nat × Tmp) := hd.filter fun p => !listed.getD p.1 false
theorem unlH_set {hd : List (Nat × Tmp)} {i : Nat} {d : Tmp} {listed : Array Bool} (hi : (i, d) ∈ hd) (hs : i < listed.size) (h : listed.getD i false = false) : (unlH hd (listed.setIfInBounds i true)).length < (unlH hd listed).length := by
  have e : unlH hd (listed.setIfInBounds i true) = (unlH hd listed).filter fun p => decide (p.1 ≠ i) := by
    unfold unlH
    rw [List.filter_filter]
    apply List.filter_congr
    intro p hp
    by_cases hji : p.1 = i
    · rw [hji]
      simp [hs]
    · rw [getD_set_ne false (Ne.symm hji)]
      simp [hji]
  rw [e]
  have hmem : (i, d) ∈ unlH hd listed := by
    unfold unlH
    rw [List.mem_filter]
    exact ⟨hi, by simp only; rw [h]; rfl⟩
  exact List.length_filter_lt_length_iff_exists.2 ⟨(i, d), hmem, by simp⟩

theorem wpAny_specT (pre : List Nat) (hd : List (Nat × Tmp)) (T : List Nat) (hB : Region.specT ops pre hd T = true) (a0 : Act) (V : Nat → World → Value → Prop) (w0 : World) (B : Nat) (hB0 : B ≤ w0.heap.size)
    (hmono : ∀ i w w' v, V i w v → Below w.heap.size w w' → V i w' v)
    (hops : ∀ i d o, (i, d) ∈ hd → ops[i]? = some o → ∀ vals w, Below B w0 w → (∀ j ∈ depsOf o, pre.contains j = false → V j w (vals j)) → ∀ K, Hid (∀ v w', Below w.heap.size w w' → V i w' v → K ((fillQ a0 hd vals).put o.dst v) w') → o.wp P (fillQ a0 hd vals) w K Q)
    (htail : ∀ vals w, Below B w0 w → (∀ i d, (i, d) ∈ hd → V i w (vals i)) → wpList P ops Q (T.filterMap fun t => ops[t]?) (fillQ a0 hd vals) w) :
    ∀ (f : Nat) (listed : Array Bool) (vals : Nat → Value) (w : World), (unlH hd listed).length ≤ f → InvT ops pre T listed → Below B w0 w → (∀ i d, (i, d) ∈ hd → listed.getD i false = true → V i w (vals i)) →
      wpAny P .any ops Q (f + T.length) listed (fillQ a0 hd vals) w := by
  unfold Region.specT at hB
  simp only [Bool.and_eq_true, decide_eq_true_eq, List.all_eq_true] at hB
  obtain ⟨⟨⟨⟨⟨⟨⟨hpl, hpn⟩, hhd⟩, hnd⟩, hni⟩, hT⟩, hcov⟩, hseq⟩ := hB
  have hhd' : ∀ i d, (i, d) ∈ hd → ∃ o, ops[i]? = some o ∧ o.guard = none ∧ o.dst = some d ∧ ∀ j ∈ depsOf o, pre.contains j = true ∨ ((∃ d', (j, d') ∈ hd) ∧ j < i) := by
    intro i d hi
    have h1 := hhd (i, d) hi
    simp only at h1
    rcases ho : ops[i]? with _ | o
    · rw [ho] at h1; cases h1
    · rw [ho] at h1
      simp only [Option.map_some, Option.getD_some, Bool.and_eq_true, Option.isNone_iff_eq_none, beq_iff_eq, List.all_eq_true, Bool.or_eq_true, decide_eq_true_eq, List.any_eq_true] at h1
      refine ⟨o, rfl, h1.1.1, h1.1.2, fun j hj => ?_⟩
      rcases h1.2 j hj with h | ⟨⟨q, hq, e⟩, hlt⟩
      · exact .inl h
      · obtain ⟨q1, q2⟩ := q
        simp only at e
        subst e
        exact .inr ⟨⟨q2, hq⟩, hlt⟩
  intro f
  have hTlt : ∀ t ∈ T, t < ops.size := fun t ht => by
    have := hT t ht
    exact this.1.1.1
  have hend : ∀ (listed : Array Bool) (vals : Nat → Value) (w : World), unlH hd listed = [] → InvT ops pre T listed → Below B w0 w → (∀ i d, (i, d) ∈ hd → listed.getD i false = true → V i w (vals i)) → wpAny P .any ops Q T.length listed (fillQ a0 hd vals) w := by
    intro listed vals w hu inv hb hv
    have hall : ∀ i d, (i, d) ∈ hd → listed.getD i false = true := fun i d hi => by
      rcases hx : listed.getD i false with _ | _
      · have : (i, d) ∈ unlH hd listed := by
          unfold unlH
          rw [List.mem_filter]
          exact ⟨hi, by simp only; rw [hx]; rfl⟩
        rw [hu] at this
        cases this
      · rfl
    have hfull : listed = listed0 ops.size pre hd := by
      apply Array.ext_getElem?
      intro i
      have e0 : (listed0 ops.size pre hd)[i]? = (((List.range ops.size).map fun i => pre.contains i || hd.any fun p => p.1 == i))[i]? := by
        unfold listed0
        exact List.getElem?_toArray
      rw [e0, List.getElem?_map]
      rcases Nat.lt_or_ge i ops.size with h | h
      · rw [List.getElem?_range h, Option.map_some]
        have hi : i < listed.size := by rw [inv.size]; omega
        have hg : listed.getD i false = listed[i] := by rw [Array.getD_eq_getD_getElem?, Array.getElem?_eq_getElem hi]; rfl
        rw [Array.getElem?_eq_getElem hi]
        congr 1
        have hc := hcov i (List.mem_range.2 h)
        simp only [Bool.or_eq_true, List.any_eq_true, beq_iff_eq] at hc
        rcases hc with (hc | ⟨p, hp, hpi⟩) | hc
        · rw [← hg, inv.pre i (by simpa using hc), hc]
          rfl
        · obtain ⟨p1, p2⟩ := p
          simp only at hpi
          subst hpi
          rw [← hg, hall p1 p2 hp]
          have : (hd.any fun p => p.1 == p1) = true := List.any_eq_true.2 ⟨(p1, p2), hp, by simp⟩
          rw [this, Bool.or_true]
        · have ht := inv.tail i (by simpa using hc)
          have h2 := hT i (by simpa using hc)
          simp only [Bool.not_eq_true'] at h2
          rw [h2.1.1.2, h2.1.2]
          rw [Array.getD_eq_getD_getElem?, Array.getElem?_eq_getElem hi] at ht
          simpa using ht
      · rw [Array.getElem?_eq_none (by rw [inv.size]; omega), List.getElem?_eq_none (by simpa using h)]
        rfl
    exact wpAny_of_seqT T listed _ w hTlt (by rw [hfull]; exact hseq) (htail vals w hb fun i d hi => hv i d hi (hall i d hi))
  induction f with
  | zero =>
    intro listed vals w hu inv hb hv
    rw [Nat.zero_add]
    exact hend listed vals w (List.eq_nil_of_length_eq_zero (by omega)) inv hb hv
  | succ f ih =>
    intro listed vals w hu inv hb hv
    by_cases hnil : unlH hd listed = []
    · exact wpAny_plus _ _ _ _ _ (hend listed vals w hnil inv hb hv)
    rw [show f + 1 + T.length = (f + T.length) + 1 by omega]
    have hun : ∃ i, (∃ d, (i, d) ∈ hd) ∧ listed.getD i false = false := by
      obtain ⟨⟨i, d⟩, hi1⟩ := List.exists_mem_of_ne_nil _ hnil
      unfold unlH at hi1
      rw [List.mem_filter] at hi1
      exact ⟨i, ⟨d, hi1.1⟩, by simpa using hi1.2⟩
    obtain ⟨i0, ⟨⟨d0, hi0⟩, hf0⟩, hmin⟩ : ∃ i, ((∃ d, (i, d) ∈ hd) ∧ listed.getD i false = false) ∧ ∀ j, j < i → ¬ ((∃ d, (j, d) ∈ hd) ∧ listed.getD j false = false) := by
      obtain ⟨i, hi⟩ := hun
      induction i using Nat.strongRecOn with
      | _ i ih2 =>
        by_cases hx : ∃ j, j < i ∧ ((∃ d, (j, d) ∈ hd) ∧ listed.getD j false = false)
        · obtain ⟨j, hj, hj2⟩ := hx
          exact ih2 j hj hj2
        · exact ⟨i, hi, fun j hj hj2 => hx ⟨j, hj, hj2⟩⟩
    have hi0lt : i0 < ops.size := by
      obtain ⟨o, ho, _⟩ := hhd' i0 d0 hi0
      exact (Array.getElem?_eq_some_iff.1 ho).1
    have hready : i0 ∈ Region.ready .any ops listed := by
      obtain ⟨o, ho, _, _, hdp⟩ := hhd' i0 d0 hi0
      refine mem_ready.2 ⟨getD_in (by rw [inv.size]; omega) hf0, o, ho, fun e he hb => ?_⟩
      have hj : e.on ∈ depsOf o := by
        unfold depsOf
        exact List.mem_map.2 ⟨e, List.mem_filter.2 ⟨by simpa using he, hb⟩, rfl⟩
      rcases hdp _ hj with h | ⟨h, hlt⟩
      · exact inv.pre _ (by simpa using h)
      · rcases hx : listed.getD e.on false with _ | _
        · exact (hmin e.on hlt ⟨h, hx⟩).elim
        · rfl
    refine ⟨fun h0 => (by rw [h0] at hready; cases hready), fun i hi => ?_⟩
    obtain ⟨hun', o', ho', hall⟩ := mem_ready.1 hi
    have hilt := (Array.getElem?_eq_some_iff.1 ho').1
    have hdl : ∀ j ∈ depsOf o', listed.getD j false = true := fun j hj => by
      unfold depsOf at hj
      obtain ⟨e, he, rfl⟩ := List.mem_map.1 hj
      rw [List.mem_filter] at he
      exact hall e (by simpa using he.1) he.2
    have hin : ∃ d, (i, d) ∈ hd := by
      have hc := hcov i (List.mem_range.2 hilt)
      simp only [Bool.or_eq_true, List.any_eq_true, beq_iff_eq] at hc
      rcases hc with (hc | ⟨⟨p1, p2⟩, hp, hpi⟩) | hc
      · have := inv.pre i (by simpa using hc)
        rw [getD_both hun'] at this
        cases this
      · simp only at hpi
        subst hpi
        exact ⟨p2, hp⟩
      · have h2 := (hT i (by simpa using hc)).2 (i0, d0) hi0
        have h3 := cloB_listed inv (List.range ops.size).reverse (depsAt ops i) (fun x hx => by
          unfold depsAt at hx
          rw [ho'] at hx
          exact hdl x hx) i0 (by simpa using h2)
        rw [hf0] at h3
        cases h3
    obtain ⟨d, hid⟩ := hin
    obtain ⟨o, ho, hg, hdst, hlo⟩ := hhd' i d hid
    obtain rfl : o' = o := Option.some.inj (ho'.symm.trans ho)
    have hw : Region.wanted o' (yielded ops (fillQ a0 hd vals).tmps) = true := by simp [Region.wanted, hg]
    unfold wpOp
    rw [ho]
    simp only [hw, if_true]
    refine .inl (hops i d o' hid ho vals w hb (fun j hj hnp => ?_) _ (Lib.hid fun v w' hb' hv' => ?_))
    · rcases hlo j hj with h | ⟨⟨d', hjd⟩, _⟩
      · rw [h] at hnp
        cases hnp
      · exact hv j d' hjd (hdl j hj)
    have hp : (fillQ a0 hd vals).put o'.dst v = fillQ a0 hd (updV vals i v) := by
      have := fillP_put a0.tmps v hd i d vals hnd hni hid
      rw [hdst]
      show Act.mk _ _ = _
      unfold fillQ
      rw [← this]
    rw [hp]
    refine ih _ _ w' ?_ ⟨by simp [inv.size], fun j oj hj hl e he hb2 => ?_, fun j hj => getD_set_true (inv.pre j hj), fun t ht => ?_⟩ (hb.trans (hb'.mono (Nat.le_trans hB0 hb.size))) fun j dj hj hlj => ?_
    · have := unlH_set (listed := listed) hid (by rw [inv.size]; omega) (getD_both hun')
      omega
    · by_cases hij : i = j
      · subst hij
        have : oj = o' := Option.some.inj (hj.symm.trans ho)
        subst this
        exact getD_set_true (hall e he hb2)
      · rw [getD_set_ne false hij] at hl
        exact getD_set_true (inv.closed j oj hj hl e he hb2)
    · have h2 := hT t ht
      simp only [Bool.not_eq_true'] at h2
      rw [getD_set_ne true (fun e => by
        subst e
        have h3 := h2.1.2
        have : (hd.any fun p => p.1 == i) = true := List.any_eq_true.2 ⟨(i, d), hid, by simp⟩
        rw [this] at h3
        cases h3)]
      exact inv.tail t ht
    · by_cases hji : j = i
      · subst hji
        simpa [updV] using hv'
      · rw [getD_set_ne false (Ne.symm hji)] at hlj
        have := hmono j w w' (vals j) (hv j dj hj hlj) hb'
        simpa [updV, hji] using this
theorem wpAnyH_more {S : World → Prop} : ∀ (fuel : Nat) (listed : Array Bool) (a : Act) (w : World), wpAnyH P .any ops Q S fuel listed a w → wpAnyH P .any ops Q S (fuel + 1) listed a w
  | 0, listed, a, w, h => ⟨fun _ => h.2, fun i hi => by rw [h.1] at hi; cases hi⟩
  | f + 1, listed, a, w, h => ⟨h.1, fun i hi => wpOp_mono (fun a' w' h' => ⟨h'.1, wpAnyH_more f _ a' w' h'.2⟩) (h.2 i hi)⟩
theorem wpAnyH_plus {S : World → Prop} (listed : Array Bool) (a : Act) (w : World) : ∀ (k fuel : Nat), wpAnyH P .any ops Q S fuel listed a w → wpAnyH P .any ops Q S (k + fuel) listed a w
  | 0, _, h => by rwa [Nat.zero_add]
  | k + 1, fuel, h => by
    rw [show k + 1 + fuel = (k + fuel) + 1 by omega]
    exact wpAnyH_more _ _ _ _ (wpAnyH_plus listed a w k fuel h)
theorem wpAnyH_specT {S : World → Prop} (pre : List Nat) (hd : List (Nat × Tmp)) (T : List Nat) (hB : Region.specT ops pre hd T = true) (a0 : Act) (V : Nat → World → Value → Prop) (w0 : World) (B : Nat) (hB0 : B ≤ w0.heap.size)
    (hSB : ∀ w', Below B w0 w' → S w')
    (hmono : ∀ i w w' v, V i w v → Below w.heap.size w w' → V i w' v)
    (hops : ∀ i d o, (i, d) ∈ hd → ops[i]? = some o → ∀ vals w, Below B w0 w → (∀ j ∈ depsOf o, pre.contains j = false → V j w (vals j)) → ∀ K, Hid (∀ v w', Below w.heap.size w w' → V i w' v → K ((fillQ a0 hd vals).put o.dst v) w') → o.wp P (fillQ a0 hd vals) w K Q)
    (htail : ∀ vals w, Below B w0 w → (∀ i d, (i, d) ∈ hd → V i w (vals i)) → wpAnyH P .any ops Q S T.length (listed0 ops.size pre hd) (fillQ a0 hd vals) w) :
    ∀ (f : Nat) (listed : Array Bool) (vals : Nat → Value) (w : World), (unlH hd listed).length ≤ f → InvT ops pre T listed → Below B w0 w → (∀ i d, (i, d) ∈ hd → listed.getD i false = true → V i w (vals i)) →
      wpAnyH P .any ops Q S (f + T.length) listed (fillQ a0 hd vals) w := by
  unfold Region.specT at hB
  simp only [Bool.and_eq_true, decide_eq_true_eq, List.all_eq_true] at hB
  obtain ⟨⟨⟨⟨⟨⟨⟨hpl, hpn⟩, hhd⟩, hnd⟩, hni⟩, hT⟩, hcov⟩, hseq⟩ := hB
  have hhd' : ∀ i d, (i, d) ∈ hd → ∃ o, ops[i]? = some o ∧ o.guard = none ∧ o.dst = some d ∧ ∀ j ∈ depsOf o, pre.contains j = true ∨ ((∃ d', (j, d') ∈ hd) ∧ j < i) := by
    intro i d hi
    have h1 := hhd (i, d) hi
    simp only at h1
    rcases ho : ops[i]? with _ | o
    · rw [ho] at h1; cases h1
    · rw [ho] at h1
      simp only [Option.map_some, Option.getD_some, Bool.and_eq_true, Option.isNone_iff_eq_none, beq_iff_eq, List.all_eq_true, Bool.or_eq_true, decide_eq_true_eq, List.any_eq_true] at h1
      refine ⟨o, rfl, h1.1.1, h1.1.2, fun j hj => ?_⟩
      rcases h1.2 j hj with h | ⟨⟨q, hq, e⟩, hlt⟩
      · exact .inl h
      · obtain ⟨q1, q2⟩ := q
        simp only at e
        subst e
        exact .inr ⟨⟨q2, hq⟩, hlt⟩
  intro f
  have hTlt : ∀ t ∈ T, t < ops.size := fun t ht => by
    have := hT t ht
    exact this.1.1.1
  have hend : ∀ (listed : Array Bool) (vals : Nat → Value) (w : World), unlH hd listed = [] → InvT ops pre T listed → Below B w0 w → (∀ i d, (i, d) ∈ hd → listed.getD i false = true → V i w (vals i)) → wpAnyH P .any ops Q S T.length listed (fillQ a0 hd vals) w := by
    intro listed vals w hu inv hb hv
    have hall : ∀ i d, (i, d) ∈ hd → listed.getD i false = true := fun i d hi => by
      rcases hx : listed.getD i false with _ | _
      · have : (i, d) ∈ unlH hd listed := by
          unfold unlH
          rw [List.mem_filter]
          exact ⟨hi, by simp only; rw [hx]; rfl⟩
        rw [hu] at this
        cases this
      · rfl
    have hfull : listed = listed0 ops.size pre hd := by
      apply Array.ext_getElem?
      intro i
      have e0 : (listed0 ops.size pre hd)[i]? = (((List.range ops.size).map fun i => pre.contains i || hd.any fun p => p.1 == i))[i]? := by
        unfold listed0
        exact List.getElem?_toArray
      rw [e0, List.getElem?_map]
      rcases Nat.lt_or_ge i ops.size with h | h
      · rw [List.getElem?_range h, Option.map_some]
        have hi : i < listed.size := by rw [inv.size]; omega
        have hg : listed.getD i false = listed[i] := by rw [Array.getD_eq_getD_getElem?, Array.getElem?_eq_getElem hi]; rfl
        rw [Array.getElem?_eq_getElem hi]
        congr 1
        have hc := hcov i (List.mem_range.2 h)
        simp only [Bool.or_eq_true, List.any_eq_true, beq_iff_eq] at hc
        rcases hc with (hc | ⟨p, hp, hpi⟩) | hc
        · rw [← hg, inv.pre i (by simpa using hc), hc]
          rfl
        · obtain ⟨p1, p2⟩ := p
          simp only at hpi
          subst hpi
          rw [← hg, hall p1 p2 hp]
          have : (hd.any fun p => p.1 == p1) = true := List.any_eq_true.2 ⟨(p1, p2), hp, by simp⟩
          rw [this, Bool.or_true]
        · have ht := inv.tail i (by simpa using hc)
          have h2 := hT i (by simpa using hc)
          simp only [Bool.not_eq_true'] at h2
          rw [h2.1.1.2, h2.1.2]
          rw [Array.getD_eq_getD_getElem?, Array.getElem?_eq_getElem hi] at ht
          simpa using ht
      · rw [Array.getElem?_eq_none (by rw [inv.size]; omega), List.getElem?_eq_none (by simpa using h)]
        rfl
    rw [hfull]
    exact htail vals w hb fun i d hi => hv i d hi (hall i d hi)
  induction f with
  | zero =>
    intro listed vals w hu inv hb hv
    rw [Nat.zero_add]
    exact hend listed vals w (List.eq_nil_of_length_eq_zero (by omega)) inv hb hv
  | succ f ih =>
    intro listed vals w hu inv hb hv
    by_cases hnil : unlH hd listed = []
    · exact wpAnyH_plus _ _ _ _ _ (hend listed vals w hnil inv hb hv)
    rw [show f + 1 + T.length = (f + T.length) + 1 by omega]
    have hun : ∃ i, (∃ d, (i, d) ∈ hd) ∧ listed.getD i false = false := by
      obtain ⟨⟨i, d⟩, hi1⟩ := List.exists_mem_of_ne_nil _ hnil
      unfold unlH at hi1
      rw [List.mem_filter] at hi1
      exact ⟨i, ⟨d, hi1.1⟩, by simpa using hi1.2⟩
    obtain ⟨i0, ⟨⟨d0, hi0⟩, hf0⟩, hmin⟩ : ∃ i, ((∃ d, (i, d) ∈ hd) ∧ listed.getD i false = false) ∧ ∀ j, j < i → ¬ ((∃ d, (j, d) ∈ hd) ∧ listed.getD j false = false) := by
      obtain ⟨i, hi⟩ := hun
      induction i using Nat.strongRecOn with
      | _ i ih2 =>
        by_cases hx : ∃ j, j < i ∧ ((∃ d, (j, d) ∈ hd) ∧ listed.getD j false = false)
        · obtain ⟨j, hj, hj2⟩ := hx
          exact ih2 j hj hj2
        · exact ⟨i, hi, fun j hj hj2 => hx ⟨j, hj, hj2⟩⟩
    have hi0lt : i0 < ops.size := by
      obtain ⟨o, ho, _⟩ := hhd' i0 d0 hi0
      exact (Array.getElem?_eq_some_iff.1 ho).1
    have hready : i0 ∈ Region.ready .any ops listed := by
      obtain ⟨o, ho, _, _, hdp⟩ := hhd' i0 d0 hi0
      refine mem_ready.2 ⟨getD_in (by rw [inv.size]; omega) hf0, o, ho, fun e he hb => ?_⟩
      have hj : e.on ∈ depsOf o := by
        unfold depsOf
        exact List.mem_map.2 ⟨e, List.mem_filter.2 ⟨by simpa using he, hb⟩, rfl⟩
      rcases hdp _ hj with h | ⟨h, hlt⟩
      · exact inv.pre _ (by simpa using h)
      · rcases hx : listed.getD e.on false with _ | _
        · exact (hmin e.on hlt ⟨h, hx⟩).elim
        · rfl
    refine ⟨fun h0 => (by rw [h0] at hready; cases hready), fun i hi => ?_⟩
    obtain ⟨hun', o', ho', hall⟩ := mem_ready.1 hi
    have hilt := (Array.getElem?_eq_some_iff.1 ho').1
    have hdl : ∀ j ∈ depsOf o', listed.getD j false = true := fun j hj => by
      unfold depsOf at hj
      obtain ⟨e, he, rfl⟩ := List.mem_map.1 hj
      rw [List.mem_filter] at he
      exact hall e (by simpa using he.1) he.2
    have hin : ∃ d, (i, d) ∈ hd := by
      have hc := hcov i (List.mem_range.2 hilt)
      simp only [Bool.or_eq_true, List.any_eq_true, beq_iff_eq] at hc
      rcases hc with (hc | ⟨⟨p1, p2⟩, hp, hpi⟩) | hc
      · have := inv.pre i (by simpa using hc)
        rw [getD_both hun'] at this
        cases this
      · simp only at hpi
        subst hpi
        exact ⟨p2, hp⟩
      · have h2 := (hT i (by simpa using hc)).2 (i0, d0) hi0
        have h3 := cloB_listed inv (List.range ops.size).reverse (depsAt ops i) (fun x hx => by
          unfold depsAt at hx
          rw [ho'] at hx
          exact hdl x hx) i0 (by simpa using h2)
        rw [hf0] at h3
        cases h3
    obtain ⟨d, hid⟩ := hin
    obtain ⟨o, ho, hg, hdst, hlo⟩ := hhd' i d hid
    obtain rfl : o' = o := Option.some.inj (ho'.symm.trans ho)
    have hw : Region.wanted o' (yielded ops (fillQ a0 hd vals).tmps) = true := by simp [Region.wanted, hg]
    unfold wpOp
    rw [ho]
    simp only [hw, if_true]
    refine .inl (hops i d o' hid ho vals w hb (fun j hj hnp => ?_) _ (Lib.hid fun v w' hb' hv' => ⟨hSB w' (hb.trans (hb'.mono (Nat.le_trans hB0 hb.size))), ?_⟩))
    · rcases hlo j hj with h | ⟨⟨d', hjd⟩, _⟩
      · rw [h] at hnp
        cases hnp
      · exact hv j d' hjd (hdl j hj)
    have hp : (fillQ a0 hd vals).put o'.dst v = fillQ a0 hd (updV vals i v) := by
      have := fillP_put a0.tmps v hd i d vals hnd hni hid
      rw [hdst]
      show Act.mk _ _ = _
      unfold fillQ
      rw [← this]
    rw [hp]
    refine ih _ _ w' ?_ ⟨by simp [inv.size], fun j oj hj hl e he hb2 => ?_, fun j hj => getD_set_true (inv.pre j hj), fun t ht => ?_⟩ (hb.trans (hb'.mono (Nat.le_trans hB0 hb.size))) fun j dj hj hlj => ?_
    · have := unlH_set (listed := listed) hid (by rw [inv.size]; omega) (getD_both hun')
      omega
    · by_cases hij : i = j
      · subst hij
        have : oj = o' := Option.some.inj (hj.symm.trans ho)
        subst this
        exact getD_set_true (hall e he hb2)
      · rw [getD_set_ne false hij] at hl
        exact getD_set_true (inv.closed j oj hj hl e he hb2)
    · have h2 := hT t ht
      simp only [Bool.not_eq_true'] at h2
      rw [getD_set_ne true (fun e => by
        subst e
        have h3 := h2.1.2
        have : (hd.any fun p => p.1 == i) = true := List.any_eq_true.2 ⟨(i, d), hid, by simp⟩
        rw [this] at h3
        cases h3)]
      exact inv.tail t ht
    · by_cases hji : j = i
      · subst hji
        simpa [updV] using hv'
      · rw [getD_set_ne false (Ne.symm hji)] at hlj
        have := hmono j w w' (vals j) (hv j dj hj hlj) hb'
        simpa [updV, hji] using this
theorem wpAnyH_of_any {S : World → Prop} (hS : ∀ w, S w) : ∀ (f : Nat) (listed : Array Bool) (a : Act) (w : World), wpAny P .any ops Q f listed a w → wpAnyH P .any ops Q S f listed a w
  | 0, _, _, _, H => H
  | f + 1, _, _, _, H => ⟨H.1, fun i hi => wpOp_mono (fun a' w' h' => ⟨hS _, wpAnyH_of_any hS f _ a' w' h'⟩) (H.2 i hi)⟩

def StepT (P : Program) (Q : Exit → Act → World → Prop) (a : Act) (w : World) (B : Nat) (pre : List Nat) (hd : List (Nat × Tmp)) (Vs : List SP) (i : Nat) (o : Oper) : Prop :=
  ∀ vals w', Below B w w' → (∀ j ∈ depsOf o, pre.contains j = false → (Vs.getD j SP.any).p w' (vals j)) → ∀ K, Hid (∀ v w'' a'', Below w'.heap.size w' w'' → (Vs.getD i SP.any).p w'' v → a'' = (fillQ a hd vals).put o.dst v → K a'' w'') → o.wp P (fillQ a hd vals) w' K Q
/-- The steps of a list of operations, each by itself. -/
def StepsAt (st : Nat → Oper → Prop) (ops : Array Oper) : List (Nat × Tmp) → Prop
  | [] => True
  | p :: l => (∀ o, ops[p.1]? = some o → st p.1 o) ∧ StepsAt st ops l
theorem StepsAt.nil {st : Nat → Oper → Prop} : StepsAt st ops [] := trivial
theorem StepsAt.cons {st : Nat → Oper → Prop} {i : Nat} {d : Tmp} {o : Oper} {l : List (Nat × Tmp)} (ho : ops[i]? = some o) (h : st i o) (h' : StepsAt st ops l) : StepsAt st ops ((i, d) :: l) := ⟨fun o' ho' => by
  obtain rfl := Option.some.inj (ho.symm.trans ho')
  exact h, h'⟩
theorem StepsAt.at {st : Nat → Oper → Prop} {i : Nat} {d : Tmp} {o : Oper} (ho : ops[i]? = some o) : ∀ (l : List (Nat × Tmp)), StepsAt st ops l → (i, d) ∈ l → st i o
  | [], _, hi => by cases hi
  | p :: l, h, hi => by
    rcases List.mem_cons.1 hi with e | hi
    · have h1 := h.1
      rw [← e] at h1
      exact h1 o ho
    · exact StepsAt.at ho l h.2 hi
theorem wpAnyH_spec {S : World → Prop} (hS : ∀ w, S w) {F : Nat} {listed : Array Bool} {a : Act} {w : World} (B : Nat) (pre : List Nat) (hd : List (Nat × Tmp)) (T : List Nat) (Vs : List SP) (hB : Region.specT ops pre hd T = true) (hB0 : B ≤ w.heap.size) (hF : F = hd.length + T.length)
    (hli : listed = ((List.range ops.size).map fun i => pre.contains i).toArray) (hpre : (pre.all fun i => (depsAt ops i).all fun j => pre.contains j) = true)
    (hops : StepsAt (StepT P Q a w B pre hd Vs) ops hd)
    (htail : ∀ vals w', Below B w w' → (∀ i d, (i, d) ∈ hd → (Vs.getD i SP.any).p w' (vals i)) → wpList P ops Q (T.filterMap fun t => ops[t]?) (fillQ a hd vals) w') : wpAnyH P .any ops Q S F listed a w := by
  have hT := hB
  unfold Region.specT at hT
  simp only [Bool.and_eq_true, decide_eq_true_eq, List.all_eq_true] at hT
  obtain ⟨⟨⟨⟨⟨⟨⟨hpl, hpn⟩, hhd⟩, hnd⟩, hni⟩, hT⟩, hcov⟩, hseq⟩ := hT
  have hini : fillQ a hd (iniP a.tmps hd) = a := by
    unfold fillQ
    rw [fillP_ini a.tmps hd _ fun p hp x hx => ?_]
    obtain ⟨i, d⟩ := p
    have hf : (hd.find? fun q => q.1 == i) = some (i, d) := by
      clear hB hops htail hF hT hcov hseq hhd hnd hpn
      induction hd with
      | nil => cases hp
      | cons q l ih =>
        simp only [List.map_cons, List.nodup_cons] at hni
        rcases List.mem_cons.1 hp with rfl | hp
        · simp
        · have hne : q.1 ≠ i := fun e => hni.1 (by rw [e]; exact List.mem_map.2 ⟨(i, d), hp, rfl⟩)
          rw [List.find?_cons_of_neg (by simpa using hne)]
          exact ih hni.2 hp
    simp only at hx
    simp [iniP, hf, hx]
  have hat : ∀ i, listed[i]? = ((List.range ops.size).map fun i => pre.contains i)[i]? := fun i => by
    rw [hli]
    exact List.getElem?_toArray
  have hget : ∀ i, listed.getD i false = true → pre.contains i = true ∧ i < ops.size := fun i h => by
    rw [Array.getD_eq_getD_getElem?, hat, List.getElem?_map] at h
    rcases Nat.lt_or_ge i ops.size with hi | hi
    · rw [List.getElem?_range hi] at h
      exact ⟨by simpa using h, hi⟩
    · rw [List.getElem?_eq_none (by simpa using hi)] at h
      cases h
  have hout : ∀ i, pre.contains i = true → listed.getD i false = true := fun i h => by
    have hi := hpl i (by simpa using h)
    rw [Array.getD_eq_getD_getElem?, hat, List.getElem?_map, List.getElem?_range hi]
    simpa using h
  refine wpAnyH_of_any hS F listed a w ?_
  subst hF
  have H := wpAny_specT (P := P) (ops := ops) (Q := Q) pre hd T hB a (fun i w v => (Vs.getD i SP.any).p w v) w B hB0 (fun i w w' v h hb => (Vs.getD i SP.any).mono h (Turn.of_below hb))
    (fun i d o hi ho vals w' hb hdp K hK => StepsAt.at ho hd hops hi vals w' hb hdp K (Lib.hid fun v w'' a'' h1 h2 h3 => by rw [h3]; exact hK.out v w'' h1 h2))
    htail hd.length listed (iniP a.tmps hd) w (List.length_filter_le _ _)
    ⟨by rw [hli]; simp, fun j oj hj hl e he hb => ?_, fun i hi => hout i (by simpa using hi), fun t ht => ?_⟩ (Below.refl _ w) (fun i d hi hl => ?_)
  · rwa [hini] at H
  · have h1 := hget j hl
    have h2 := List.all_eq_true.1 hpre j (by simpa using h1.1)
    have h3 := List.all_eq_true.1 h2 e.on (by
      unfold depsAt
      rw [hj]
      exact List.mem_map.2 ⟨e, List.mem_filter.2 ⟨by simpa using he, hb⟩, rfl⟩)
    exact hout _ h3
  · have h2 := hT t ht
    simp only [Bool.not_eq_true'] at h2
    rcases hx : listed.getD t true with _ | _
    · rfl
    · have h3 : listed.getD t false = true := by
        have hlt : t < listed.size := by rw [hli]; simpa using h2.1.1.1
        simp [hlt] at hx ⊢
        exact hx
      have h4 := (hget t h3).1
      have h5 := h2.1.1.2
      rw [h4] at h5
      cases h5
  · have h1 := (hget i hl).1
    have h2 := hpn (i, d) hi
    simp only [Bool.not_eq_true'] at h2
    rw [h1] at h2
    cases h2
theorem wpAnyH_spec2 {S : World → Prop} {F : Nat} {listed : Array Bool} {a : Act} {w : World} (B : Nat) (pre : List Nat) (hd : List (Nat × Tmp)) (T : List Nat) (Vs : List SP) (hB : Region.specT ops pre hd T = true) (hB0 : B ≤ w.heap.size) (hF : F = hd.length + T.length)
    (hli : listed = ((List.range ops.size).map fun i => pre.contains i).toArray) (hpre : (pre.all fun i => (depsAt ops i).all fun j => pre.contains j) = true)
    (hSB : ∀ w', Below B w w' → S w') (hops : StepsAt (StepT P Q a w B pre hd Vs) ops hd)
    (htail : ∀ vals w', Below B w w' → (∀ i d, (i, d) ∈ hd → (Vs.getD i SP.any).p w' (vals i)) → wpAnyH P .any ops Q S T.length (listed0 ops.size pre hd) (fillQ a hd vals) w') : wpAnyH P .any ops Q S F listed a w := by
  have hT := hB
  unfold Region.specT at hT
  simp only [Bool.and_eq_true, decide_eq_true_eq, List.all_eq_true] at hT
  obtain ⟨⟨⟨⟨⟨⟨⟨hpl, hpn⟩, hhd⟩, hnd⟩, hni⟩, hT⟩, hcov⟩, hseq⟩ := hT
  have hini : fillQ a hd (iniP a.tmps hd) = a := by
    unfold fillQ
    rw [fillP_ini a.tmps hd _ fun p hp x hx => ?_]
    obtain ⟨i, d⟩ := p
    have hf : (hd.find? fun q => q.1 == i) = some (i, d) := by
      clear hB hops htail hF hT hcov hseq hhd hnd hpn
      induction hd with
      | nil => cases hp
      | cons q l ih =>
        simp only [List.map_cons, List.nodup_cons] at hni
        rcases List.mem_cons.1 hp with rfl | hp
        · simp
        · have hne : q.1 ≠ i := fun e => hni.1 (by rw [e]; exact List.mem_map.2 ⟨(i, d), hp, rfl⟩)
          rw [List.find?_cons_of_neg (by simpa using hne)]
          exact ih hni.2 hp
    simp only at hx
    simp [iniP, hf, hx]
  have hat : ∀ i, listed[i]? = ((List.range ops.size).map fun i => pre.contains i)[i]? := fun i => by
    rw [hli]
    exact List.getElem?_toArray
  have hget : ∀ i, listed.getD i false = true → pre.contains i = true ∧ i < ops.size := fun i h => by
    rw [Array.getD_eq_getD_getElem?, hat, List.getElem?_map] at h
    rcases Nat.lt_or_ge i ops.size with hi | hi
    · rw [List.getElem?_range hi] at h
      exact ⟨by simpa using h, hi⟩
    · rw [List.getElem?_eq_none (by simpa using hi)] at h
      cases h
  have hout : ∀ i, pre.contains i = true → listed.getD i false = true := fun i h => by
    have hi := hpl i (by simpa using h)
    rw [Array.getD_eq_getD_getElem?, hat, List.getElem?_map, List.getElem?_range hi]
    simpa using h
  subst hF
  have H := wpAnyH_specT (P := P) (ops := ops) (Q := Q) (S := S) pre hd T hB a (fun i w v => (Vs.getD i SP.any).p w v) w B hB0 hSB (fun i w w' v h hb => (Vs.getD i SP.any).mono h (Turn.of_below hb))
    (fun i d o hi ho vals w' hb hdp K hK => StepsAt.at ho hd hops hi vals w' hb hdp K (Lib.hid fun v w'' a'' h1 h2 h3 => by rw [h3]; exact hK.out v w'' h1 h2))
    htail hd.length listed (iniP a.tmps hd) w (List.length_filter_le _ _)
    ⟨by rw [hli]; simp, fun j oj hj hl e he hb => ?_, fun i hi => hout i (by simpa using hi), fun t ht => ?_⟩ (Below.refl _ w) (fun i d hi hl => ?_)
  · rwa [hini] at H
  · have h1 := hget j hl
    have h2 := List.all_eq_true.1 hpre j (by simpa using h1.1)
    have h3 := List.all_eq_true.1 h2 e.on (by
      unfold depsAt
      rw [hj]
      exact List.mem_map.2 ⟨e, List.mem_filter.2 ⟨by simpa using he, hb⟩, rfl⟩)
    exact hout _ h3
  · have h2 := hT t ht
    simp only [Bool.not_eq_true'] at h2
    rcases hx : listed.getD t true with _ | _
    · rfl
    · have h3 : listed.getD t false = true := by
        have hlt : t < listed.size := by rw [hli]; simpa using h2.1.1.1
        simp [hlt] at hx ⊢
        exact hx
      have h4 := (hget t h3).1
      have h5 := h2.1.1.2
      rw [h4] at h5
      cases h5
  · have h1 := (hget i hl).1
    have h2 := hpn (i, d) hi
    simp only [Bool.not_eq_true'] at h2
    rw [h1] at h2
    cases h2
end
end Go.Proofs.Ytmhbpfclfffgkaa
