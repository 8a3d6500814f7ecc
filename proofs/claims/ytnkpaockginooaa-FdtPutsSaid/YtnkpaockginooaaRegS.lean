/- A region that draws its order, by what each of its operations gives: one obligation an operation, whatever the order; a forced tail behind. -/
import Derived.Test.YtnkpaockginooaaRegions
namespace Go.Proofs.Ytnkpaockginooaa
set_option linter.unusedVariables false
open Go.RowKit Go.Sort

/-- Of what was there nothing has turned, but for the mark behind a row of bytes. -/
structure Turn (w w' : World) : Prop where
  size : w.heap.size ≤ w'.heap.size
  block : ∀ b, b < w.heap.size → w'.heap[b]? = w.heap[b]? ∨ ∃ cs fz fz', w.heap[b]? = some (.cells cs 5 fz) ∧ w'.heap[b]? = some (.cells cs 5 fz')
theorem Turn.of_below {w w' : World} (h : Below w.heap.size w w') : Turn w w' := ⟨h.size, fun b hb => .inl (h.block b hb)⟩
/-- What a slot holds; it stays true where only new blocks are made. -/
structure SP where
  p : World → Value → Prop
  mono : ∀ {w w' : World} {v : Value}, p w v → Turn w w' → p w' v
def SP.eq (x : Value) : SP := ⟨fun _ v => v = x, fun h _ => h⟩
def SP.any : SP := ⟨fun _ _ => True, fun h _ => h⟩
instance : Inhabited SP := ⟨SP.any⟩
def updV (vals : Nat → Value) (i : Nat) (v : Value) : Nat → Value := fun j => if j = i then v else vals j
/-- Slots ds hold vals k, vals (k + 1), ... -/
def fillL (t : Array Value) : List Tmp → Nat → (Nat → Value) → Array Value
  | [], _, _ => t
  | d :: ds, k, vals => (fillL t ds (k + 1) vals).setIfInBounds d (vals k)
theorem fillL_congr (t : Array Value) : ∀ (ds : List Tmp) (k : Nat) (f g : Nat → Value), (∀ j, k ≤ j → f j = g j) → fillL t ds k f = fillL t ds k g
  | [], _, _, _, _ => rfl
  | d :: ds, k, f, g, h => by
    unfold fillL
    rw [fillL_congr t ds (k + 1) f g fun j hj => h j (by omega), h k (Nat.le_refl k)]
theorem fillL_put (t : Array Value) (v : Value) : ∀ (ds : List Tmp) (k i : Nat) (d : Tmp) (vals : Nat → Value), ds.Nodup → ds[i]? = some d → (fillL t ds k vals).setIfInBounds d v = fillL t ds k (updV vals (k + i) v)
  | [], _, _, _, _, _, h => by simp at h
  | d0 :: ds, k, 0, d, vals, hn, h => by
    obtain rfl : d0 = d := by simpa using h
    unfold fillL
    rw [Array.setIfInBounds_setIfInBounds, fillL_congr t ds (k + 1) vals (updV vals (k + 0) v) fun j hj => by simp [updV, show ¬ j = k by omega]]
    simp [updV]
  | d0 :: ds, k, i + 1, d, vals, hn, h => by
    have h' : ds[i]? = some d := by simpa using h
    have hne : d0 ≠ d := by
      rintro rfl
      exact (List.nodup_cons.1 hn).1 (List.mem_of_getElem? h')
    unfold fillL
    rw [Array.setIfInBounds_comm _ _ hne, fillL_put t v ds (k + 1) i d vals (List.nodup_cons.1 hn).2 h']
    rw [show k + 1 + i = k + (i + 1) by omega]
    simp [updV]
def iniV (t : Array Value) (ds : List Tmp) : Nat → Value := fun j => ((ds[j]?).bind fun d => t[d]?).getD undef
theorem fillL_ini (t : Array Value) : ∀ (ds : List Tmp) (k : Nat) (f : Nat → Value), (∀ i d x, ds[i]? = some d → t[d]? = some x → f (k + i) = x) → fillL t ds k f = t
  | [], _, _, _ => rfl
  | d :: ds, k, f, h => by
    unfold fillL
    rw [fillL_ini t ds (k + 1) f fun i d x hi hx => by
      have := h (i + 1) d x (by simpa using hi) hx
      rwa [show k + 1 + i = k + (i + 1) by omega]]
    rcases hd : t[d]? with _ | x
    · rw [Array.setIfInBounds_eq_of_size_le (by simpa using hd)]
    · have := h 0 d x (by simp) hd
      rw [Nat.add_zero] at this
      rw [this]
      apply Array.ext_getElem?
      intro i
      rw [Array.getElem?_setIfInBounds]
      split
      · rename_i h
        subst h
        rw [hd]
        have := (Array.getElem?_eq_some_iff.1 hd).1
        simp [this]
      · rfl
def fillA (a : Act) (ds : List Tmp) (vals : Nat → Value) : Act := { a with tmps := fillL a.tmps ds 0 vals }

section
variable {P : Program} {ops : Array Oper} {md : Region.Mode} {Q : Exit → Act → World → Prop}
theorem wpAny_more : ∀ (fuel : Nat) (listed : Array Bool) (a : Act) (w : World), wpAny P md ops Q fuel listed a w → wpAny P md ops Q (fuel + 1) listed a w
  | 0, listed, a, w, h => ⟨fun _ => h.2, fun i hi => by rw [h.1] at hi; cases hi⟩
  | f + 1, listed, a, w, h => ⟨h.1, fun i hi => wpOp_mono (fun a' w' => wpAny_more f _ a' w') (h.2 i hi)⟩
theorem wpAny_plus (listed : Array Bool) (a : Act) (w : World) : ∀ (k fuel : Nat), wpAny P md ops Q fuel listed a w → wpAny P md ops Q (k + fuel) listed a w
  | 0, _, h => by rwa [Nat.zero_add]
  | k + 1, fuel, h => by
    rw [show k + 1 + fuel = (k + fuel) + 1 by omega]
    exact wpAny_more _ _ _ _ (wpAny_plus listed a w k fuel h)
def Region.lowB (md : Region.Mode) (ops : Array Oper) (n : Nat) : Bool :=
  (List.range n).all fun i => ((ops[i]?).map fun o => o.guard.isNone && o.dst.isSome && o.after.all fun e => !Go.Region.binds md e || decide (e.on < i)).getD false
theorem lowB_spec {n : Nat} (h : Region.lowB md ops n = true) {i : Nat} (hi : i < n) : ∃ o, ops[i]? = some o ∧ o.guard = none ∧ (∃ d, o.dst = some d) ∧ ∀ e ∈ o.after, Go.Region.binds md e = true → e.on < i := by
  have h1 := List.all_eq_true.1 h i (List.mem_range.2 hi)
  rcases ho : ops[i]? with _ | o
  · rw [ho] at h1
    cases h1
  · rw [ho] at h1
    simp only [Option.map_some, Option.getD_some, Bool.and_eq_true, Option.isNone_iff_eq_none, Option.isSome_iff_exists] at h1
    refine ⟨o, rfl, h1.1.1, h1.1.2, fun e he hb => ?_⟩
    have := Array.all_eq_true_iff_forall_mem.1 h1.2 e he
    simpa [hb] using this
def unl (n : Nat) (listed : Array Bool) : List Nat := (List.range n).filter fun i => !listed.getD i false
theorem unl_set {n i : Nat} {listed : Array Bool} (hi : i < n) (hs : i < listed.size) (h : listed.getD i false = false) : (unl n (listed.setIfInBounds i true)).length < (unl n listed).length := by
  have e : unl n (listed.setIfInBounds i true) = (unl n listed).filter fun j => decide (j ≠ i) := by
    unfold unl
    rw [List.filter_filter]
    apply List.filter_congr
    intro j hj
    by_cases hji : j = i
    · subst hji
      simp [hs]
    · rw [getD_set_ne false (Ne.symm hji)]
      simp [hji]
  rw [e]
  have hmem : i ∈ unl n listed := by
    unfold unl
    rw [List.mem_filter]
    exact ⟨List.mem_range.2 hi, by rw [h]; rfl⟩
  have := List.length_filter_lt_length_iff_exists (p := fun j => decide (j ≠ i)) (l := unl n listed)
  exact this.2 ⟨i, hmem, by simp⟩
def fullB (n m : Nat) : Array Bool := (List.replicate n true ++ List.replicate m false).toArray
theorem wpAny_spec {n : Nat} (l : List Oper) (hl : l.toArray = ops) (a0 : Act) (ds : List Tmp) (V : Nat → World → Value → Prop) (w0 : World) (B : Nat) (hB0 : B ≤ w0.heap.size) (hds : ∀ i, i < n → ∀ o, ops[i]? = some o → ds[i]? = o.dst) (hnd : ds.Nodup)
    (hn : n < ops.size) (hs : Region.sinkB md ops n = true) (hc : Region.chainB md ops n = true) (hlow : Region.lowB md ops n = true) (hseq : Region.seqB md ops (ops.size - n) n (fullB n (ops.size - n)) = true)
    (hmono : ∀ i w w' v, V i w v → Turn w w' → V i w' v)
    (hops : ∀ i o, i < n → ops[i]? = some o → ∀ vals w, Below B w0 w → (∀ e ∈ o.after, Go.Region.binds md e = true → V e.on w (vals e.on)) → ∀ K, Hid (∀ v w', Below B w w' → Turn w w' → V i w' v → K ((fillA a0 ds vals).put o.dst v) w') → o.wp P (fillA a0 ds vals) w K Q)
    (htail : ∀ vals w, Below B w0 w → (∀ i, i < n → V i w (vals i)) → wpList P ops Q (l.drop n) (fillA a0 ds vals) w) :
    ∀ (f : Nat) (listed : Array Bool) (vals : Nat → Value) (w : World), (unl n listed).length ≤ f → HeadInv md ops n listed → Below B w0 w → (∀ i, i < n → listed.getD i false = true → V i w (vals i)) →
      wpAny P md ops Q (f + (ops.size - n)) listed (fillA a0 ds vals) w := by
  intro f
  have hend : ∀ (listed : Array Bool) (vals : Nat → Value) (w : World), unl n listed = [] → HeadInv md ops n listed → Below B w0 w → (∀ i, i < n → listed.getD i false = true → V i w (vals i)) → wpAny P md ops Q (ops.size - n) listed (fillA a0 ds vals) w := by
    intro listed vals w hu inv hb hv
    have hall : ∀ i, i < n → listed.getD i false = true := fun i hi => by
      rcases hx : listed.getD i false with _ | _
      · have : i ∈ unl n listed := by
          unfold unl
          rw [List.mem_filter]
          exact ⟨List.mem_range.2 hi, by rw [hx]; rfl⟩
        rw [hu] at this
        cases this
      · rfl
    have hfull : listed = fullB n (ops.size - n) := by
      apply Array.ext_getElem?
      intro i
      have e : (fullB n (ops.size - n))[i]? = (List.replicate n true ++ List.replicate (ops.size - n) false)[i]? := by
        unfold fullB
        exact List.getElem?_toArray
      rw [e]
      rcases Nat.lt_or_ge i n with h | h
      · rw [List.getElem?_append_left (by simpa using h), List.getElem?_replicate, if_pos h]
        have := hall i h
        have hi : i < listed.size := by rw [inv.size]; omega
        rw [Array.getElem?_eq_getElem hi]
        rw [Array.getD_eq_getD_getElem?, Array.getElem?_eq_getElem hi] at this
        simpa using this
      · rw [List.getElem?_append_right (by simpa using h), List.length_replicate, List.getElem?_replicate]
        by_cases h2 : i < ops.size
        · rw [if_pos (by omega)]
          have := inv.tail i h h2
          have hi : i < listed.size := by rw [inv.size]; omega
          rw [Array.getElem?_eq_getElem hi]
          rw [Array.getD_eq_getD_getElem?, Array.getElem?_eq_getElem hi] at this
          simpa using this
        · rw [if_neg (by omega), Array.getElem?_eq_none (by rw [inv.size]; omega)]
    have hsz : (l.drop n).length = ops.size - n := by rw [← hl]; simp
    have := wpAny_of_seq (P := P) (md := md) (ops := ops) (Q' := Q) (l.drop n) n listed (fillA a0 ds vals) w (fun j => by rw [← hl]; simp [List.getElem?_drop]) (by rw [hsz, hfull]; exact hseq) (htail vals w hb fun i hi => hv i hi (hall i hi))
    rwa [hsz] at this
  induction f with
  | zero =>
    intro listed vals w hu inv hb hv
    rw [Nat.zero_add]
    exact hend listed vals w (List.eq_nil_of_length_eq_zero (by omega)) inv hb hv
  | succ f ih =>
    intro listed vals w hu inv hb hv
    by_cases hnil : unl n listed = []
    · exact wpAny_plus _ _ _ _ _ (hend listed vals w hnil inv hb hv)
    rw [show f + 1 + (ops.size - n) = (f + (ops.size - n)) + 1 by omega]
    obtain ⟨i1, hi1⟩ := List.exists_mem_of_ne_nil _ hnil
    have hun : ∃ i, i < n ∧ listed.getD i false = false := ⟨i1, by
      unfold unl at hi1
      rw [List.mem_filter] at hi1
      exact ⟨List.mem_range.1 hi1.1, by simpa using hi1.2⟩⟩
    obtain ⟨i0, ⟨hi0, hf0⟩, hmin⟩ : ∃ i, (i < n ∧ listed.getD i false = false) ∧ ∀ j, j < i → ¬ (j < n ∧ listed.getD j false = false) := by
      obtain ⟨i, hi⟩ := hun
      induction i using Nat.strongRecOn with
      | _ i ih2 =>
        by_cases hx : ∃ j, j < i ∧ (j < n ∧ listed.getD j false = false)
        · obtain ⟨j, hj, hj2⟩ := hx
          exact ih2 j hj hj2
        · exact ⟨i, hi, fun j hj hj2 => hx ⟨j, hj, hj2⟩⟩
    have hready : i0 ∈ Region.ready md ops listed := by
      obtain ⟨o, ho, _, _, hd⟩ := lowB_spec hlow hi0
      refine mem_ready.2 ⟨getD_in (by rw [inv.size]; omega) hf0, o, ho, fun e he hb => ?_⟩
      have hlt := hd e he hb
      rcases hx : listed.getD e.on false with _ | _
      · exact (hmin e.on hlt ⟨by omega, hx⟩).elim
      · rfl
    refine ⟨fun h0 => (by rw [h0] at hready; cases hready), fun i hi => ?_⟩
    have hin : i < n := by
      rcases Nat.lt_or_ge i n with h | h
      · exact h
      · exact absurd hi (tail_waits hs hc hn inv _ i0 rfl hi0 (getD_in (by rw [inv.size]; omega) hf0) i h)
    obtain ⟨hun', o', ho', hall⟩ := mem_ready.1 hi
    obtain ⟨o, ho, hg, ⟨d, hd⟩, hlo⟩ := lowB_spec hlow hin
    obtain rfl : o' = o := Option.some.inj (ho'.symm.trans ho)
    have hw : Region.wanted o' (yielded ops (fillA a0 ds vals).tmps) = true := by simp [Region.wanted, hg]
    unfold wpOp
    rw [ho]
    simp only [hw, if_true]
    refine .inl (hops i o' hin ho vals w hb (fun e he hbd => hv e.on (by have := hlo e he hbd; omega) (hall e he hbd)) _ (Lib.hid fun v w' hb' ht' hv' => ?_))
    have hp : (fillA a0 ds vals).put o'.dst v = fillA a0 ds (updV vals i v) := by
      have := fillL_put a0.tmps v ds 0 i d vals hnd ((hds i hin o' ho).trans hd)
      rw [Nat.zero_add] at this
      rw [hd]
      show Act.mk _ _ = _
      unfold fillA
      rw [← this]
    rw [hp]
    refine ih _ _ w' ?_ (inv.set hi hin) (hb.trans hb') fun j hj hlj => ?_
    · have := unl_set (listed := listed) hin (by rw [inv.size]; omega) (getD_both hun')
      omega
    · by_cases hji : j = i
      · subst hji
        simpa [updV] using hv'
      · rw [getD_set_ne false (Ne.symm hji)] at hlj
        have := hmono j w w' (vals j) (hv j hj hlj) ht'
        simpa [updV, hji] using this

/-- The steps of a list of operations, each by itself. -/
def StepsOk (st : Nat → Oper → Prop) : Nat → List Oper → Prop
  | _, [] => True
  | k, o :: l => st k o ∧ StepsOk st (k + 1) l
theorem StepsOk.nil {st : Nat → Oper → Prop} {k : Nat} : StepsOk st k [] := trivial
theorem StepsOk.cons {st : Nat → Oper → Prop} {k : Nat} {o : Oper} {l : List Oper} (h : st k o) (h' : StepsOk st (k + 1) l) : StepsOk st k (o :: l) := ⟨h, h'⟩
theorem StepsOk.at {st : Nat → Oper → Prop} : ∀ {l : List Oper} {k : Nat}, StepsOk st k l → ∀ {i : Nat} {o : Oper}, l[i]? = some o → st (k + i) o
  | [], _, _, _, _, h => by simp at h
  | o0 :: l, k, h, 0, o, hi => by
    obtain rfl : o0 = o := by simpa using hi
    exact h.1
  | o0 :: l, k, h, i + 1, o, hi => by
    have := StepsOk.at h.2 (i := i) (o := o) (by simpa using hi)
    rwa [show k + 1 + i = k + (i + 1) by omega] at this
def Region.specB (l : List Oper) (n : Nat) (ds : List Tmp) : Bool :=
  decide (n < l.toArray.size) && Go.Region.sinkB .any l.toArray n && Go.Region.chainB .any l.toArray n && Region.lowB .any l.toArray n && Go.Region.seqB .any l.toArray (l.toArray.size - n) n (fullB n (l.toArray.size - n)) &&
    decide ((l.take n).map (·.dst) = ds.map some) && decide ds.Nodup
/-- What the operation at hand may take for given: the slots of the operations that it waits for. -/
def depsOf (o : Oper) : List Nat := (o.after.toList.filter fun e => Go.Region.binds .any e).map (·.on)
def StepS (P : Program) (Q : Exit → Act → World → Prop) (a : Act) (w : World) (ds : List Tmp) (Vs : List SP) (i : Nat) (o : Oper) : Prop :=
  ∀ vals w', Below w.heap.size w w' → (∀ j ∈ depsOf o, (Vs.getD j SP.any).p w' (vals j)) → ∀ K, Hid (∀ v w'' a'', Below w'.heap.size w' w'' → (Vs.getD i SP.any).p w'' v → a'' = (fillA a ds vals).put o.dst v → K a'' w'') → o.wp P (fillA a ds vals) w' K Q
/-- .. a step that may mark a row of bytes. -/
def StepU (P : Program) (Q : Exit → Act → World → Prop) (a : Act) (w : World) (ds : List Tmp) (Vs : List SP) (i : Nat) (o : Oper) : Prop :=
  ∀ vals w', Below w.heap.size w w' → (∀ j ∈ depsOf o, (Vs.getD j SP.any).p w' (vals j)) → ∀ K, Hid (∀ v w'' a'', Below w.heap.size w' w'' → Turn w' w'' → (Vs.getD i SP.any).p w'' v → a'' = (fillA a ds vals).put o.dst v → K a'' w'') → o.wp P (fillA a ds vals) w' K Q
theorem StepU.of {P : Program} {Q : Exit → Act → World → Prop} {a : Act} {w : World} {ds : List Tmp} {Vs : List SP} {i : Nat} {o : Oper} (h : StepS P Q a w ds Vs i o) : StepU P Q a w ds Vs i o :=
  fun vals w' hb hd K hK => h vals w' hb hd K (Lib.hid fun v w'' a'' h1 h2 h3 => hK.out v w'' a'' (h1.mono hb.size) (Turn.of_below h1) h2 h3)
theorem StepsOk.mono {st st' : Nat → Oper → Prop} (h : ∀ i o, st i o → st' i o) : ∀ {l : List Oper} {k : Nat}, StepsOk st k l → StepsOk st' k l
  | [], _, _ => trivial
  | _ :: _, _, ⟨h1, h2⟩ => ⟨h _ _ h1, StepsOk.mono h h2⟩
theorem wp_region_specU {id : Nat} {a : Act} {w : World} {l : List Oper} (n : Nat) (ds : List Tmp) (Vs : List SP) (hm : P.follows .mixedOrders = true) (hB : Region.specB l n ds = true)
    (hops : StepsOk (StepU P Q a w ds Vs) 0 (l.take n))
    (htail : ∀ vals w', Below w.heap.size w w' → (∀ i, i < n → (Vs.getD i SP.any).p w' (vals i)) → wpList P l.toArray Q (l.drop n) (fillA a ds vals) w') : (Code.region id l.toArray true).wp P Q a w := by
  unfold Region.specB at hB
  simp only [Bool.and_eq_true, decide_eq_true_eq] at hB
  obtain ⟨⟨⟨⟨⟨⟨hn, hs⟩, hc⟩, hlow⟩, hseq⟩, hds⟩, hnd⟩ := hB
  refine wp_region_any hm ?_
  have hlen : ds.length = n := by
    have := congrArg List.length hds
    simp at this hn
    omega
  have hget : ∀ i, i < n → ∀ o, l.toArray[i]? = some o → ds[i]? = o.dst := by
    intro i hi o ho
    have h1 : ((l.take n).map (·.dst))[i]? = some o.dst := by
      rw [List.getElem?_map, List.getElem?_take, if_pos hi]
      rw [List.getElem?_toArray] at ho
      rw [ho]
      rfl
    rw [hds, List.getElem?_map] at h1
    rcases hd : ds[i]? with _ | d
    · rw [hd] at h1
      cases h1
    · rw [hd] at h1
      simpa using h1
  have hini : fillA a ds (iniV a.tmps ds) = a := by
    unfold fillA
    rw [fillL_ini a.tmps ds 0 _ fun i d x hi hx => by simp [iniV, hi, hx]]
  have H := wpAny_spec (P := P) (md := .any) (Q := Q) (n := n) l rfl a ds (fun i w v => (Vs.getD i SP.any).p w v) w w.heap.size (Nat.le_refl _) hget hnd hn hs hc hlow hseq (fun i w w' v h hb => (Vs.getD i SP.any).mono h hb)
    (fun i o hi ho vals w' hb hd K hK => by
      have hst := StepsOk.at hops (i := i) (o := o) (by rw [List.getElem?_take, if_pos hi]; simpa using ho)
      rw [Nat.zero_add] at hst
      refine hst vals w' hb (fun j hj => ?_) K (Lib.hid fun v w'' a'' h1 h2 h3 h4 => by rw [h4]; exact hK.out v w'' h1 h2 h3)
      unfold depsOf at hj
      obtain ⟨e, he, rfl⟩ := List.mem_map.1 hj
      rw [List.mem_filter] at he
      exact hd e (by simpa using he.1) he.2)
    htail n (Array.replicate l.toArray.size false) (iniV a.tmps ds) w.drew
    (by
      unfold unl
      refine Nat.le_trans (List.length_filter_le _ _) (by simp))
    ⟨by simp, fun j oj _ hl => (by rw [getD_replicate_false] at hl; cases hl), fun t _ ht => getD_in (by simpa using ht) (getD_replicate_false _ _)⟩
    ((Below.refl _ w).drew) (fun i _ hl => by rw [getD_replicate_false] at hl; cases hl)
  rw [hini, show n + (l.toArray.size - n) = l.toArray.size by omega] at H
  exact H
theorem wp_region_spec {id : Nat} {a : Act} {w : World} {l : List Oper} (n : Nat) (ds : List Tmp) (Vs : List SP) (hm : P.follows .mixedOrders = true) (hB : Region.specB l n ds = true)
    (hops : StepsOk (StepS P Q a w ds Vs) 0 (l.take n))
    (htail : ∀ vals w', Below w.heap.size w w' → (∀ i, i < n → (Vs.getD i SP.any).p w' (vals i)) → wpList P l.toArray Q (l.drop n) (fillA a ds vals) w') : (Code.region id l.toArray true).wp P Q a w :=
  wp_region_specU n ds Vs hm hB (StepsOk.mono (fun _ _ h => StepU.of h) hops) htail
end
end Go.Proofs.Ytnkpaockginooaa
