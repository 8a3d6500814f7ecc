/- Arguments opened to their cells: whatever type is made of numbers and bools; slices of such. -/
import Derived.Test.YtmhbpfclfffgkaaWords
import Derived.Lib.SmallJoins
namespace Go.Proofs.Ytmhbpfclfffgkaa
set_option linter.unusedVariables false
open Go.RowKit Go.ChangeShapes Go.WideShapes

inductive Leaf where
  | int (k : IntKind)
  | bool
  deriving DecidableEq

/-- The leaves of a type that is made of numbers and bools alone. -/
def flatFields (P : Program) (flat : TypeId → Option (List Leaf)) : List Field → Nat → Option (List Leaf)
  | [], _ => some []
  | f :: fs, off =>
    match flat f.type with
    | some ks => if f.offset = off ∧ P.cellsOf f.type = ks.length then (flatFields P flat fs (off + ks.length)).map (ks ++ ·) else none
    | none => none
def flatOf (P : Program) : Nat → TypeId → Option (List Leaf)
  | 0, _ => none
  | n + 1, t =>
    match P.underlying t with
    | some .bool => some [.bool]
    | some (.int k) => some [.int k]
    | some (.struct fs) => (flatFields P (flatOf P n) fs.toList 0).bind fun ks => if P.cellsOf t = ks.length then some ks else none
    | some (.array m e) => (flatOf P n e).bind fun ks => if P.cellsOf e = ks.length ∧ P.cellsOf t = m * ks.length then some (List.replicate m ks).flatten else none
    | _ => none

/-- Cells that are such leaves. -/
def FlatOk : List Leaf → List Value → Prop
  | [], [] => True
  | .int k :: ks, .int k' n :: cs => k' = k ∧ (Lit.int k n).wf = true ∧ FlatOk ks cs
  | .bool :: ks, .bool _ :: cs => FlatOk ks cs
  | _, _ => False

theorem FlatOk.length : ∀ {ks : List Leaf} {cs : List Value}, FlatOk ks cs → cs.length = ks.length
  | [], [], _ => rfl
  | .int k :: ks, .int k' n :: cs, h => by simp [FlatOk.length h.2.2]
  | .bool :: ks, .bool _ :: cs, h => by
    have : FlatOk ks cs := h
    simp [FlatOk.length this]
theorem FlatOk.append : ∀ {ks ks' : List Leaf} {cs cs' : List Value}, FlatOk ks cs → FlatOk ks' cs' → FlatOk (ks ++ ks') (cs ++ cs')
  | [], _, [], _, _, h' => h'
  | .int k :: ks, _, .int k' n :: cs, _, h, h' => ⟨h.1, h.2.1, FlatOk.append h.2.2 h'⟩
  | .bool :: ks, ks', .bool b :: cs, cs', h, h' => by
    have h0 : FlatOk ks cs := h
    have := FlatOk.append (ks := ks) (ks' := ks') (cs := cs) (cs' := cs') h0 h'
    exact this

section
variable {H : Type} {enc : TypeId × Value → H} {P : Program} {w : World} {base : Nat} {spare : Nat → Bool} {held : Bool}

theorem flatFields_ok {flat : TypeId → Option (List Leaf)} {fuel : Nat} (ih : ∀ (t : TypeId) (ks : List Leaf) (cs : List Value) (x : DataW H × List MemPlace), flat t = some ks → DataW.trod enc P w base spare held fuel t cs = some x → FlatOk ks cs) :
    ∀ (fs : List Field) (off : Nat) (ks : List Leaf) (cs : List Value), flatFields P flat fs off = some ks → cs.length = off + ks.length →
      (∀ (i : Nat) (f : Field), fs[i]? = some f → ∃ x, DataW.trod enc P w base spare held fuel f.type ((cs.drop f.offset).take (P.cellsOf f.type)) = some x) → FlatOk ks (cs.drop off)
  | [], off, ks, cs, h, hl, _ => by
    simp only [flatFields, Option.some.injEq] at h
    subst h
    rw [List.drop_of_length_le (by simpa using Nat.le_of_eq hl)]
    trivial
  | f :: fs, off, ks, cs, h, hl, hf => by
    simp only [flatFields] at h
    split at h
    · rename_i ks0 hk0
      split at h
      · rename_i hc
        obtain ⟨ho, hcs⟩ := hc
        rw [Option.map_eq_some_iff] at h
        obtain ⟨ks1, h1, rfl⟩ := h
        obtain ⟨x, hx⟩ := hf 0 f rfl
        have a := ih _ _ _ _ hk0 hx
        rw [ho, hcs] at a
        have b := flatFields_ok ih fs (off + ks0.length) ks1 cs h1 (by rw [hl, List.length_append]; omega) (fun i g hg => hf (i + 1) g hg)
        have e : cs.drop off = (cs.drop off).take ks0.length ++ cs.drop (off + ks0.length) := by
          rw [← List.drop_drop]; exact (List.take_append_drop _ _).symm
        rw [e]
        exact a.append b
      · cases h
    · cases h

theorem flatOf_ok : ∀ (fuel n : Nat) (t : TypeId) (ks : List Leaf) (cs : List Value) (x : DataW H × List MemPlace), flatOf P n t = some ks → DataW.trod enc P w base spare held fuel t cs = some x → FlatOk ks cs
  | 0, _, _, _, _, _, _, h => by simp [DataW.trod] at h
  | fuel + 1, 0, _, _, _, _, h, _ => by simp [flatOf] at h
  | fuel + 1, n + 1, t, ks, cs, x, h, ht => by
    have ih := fun t ks cs x => flatOf_ok fuel n t ks cs x
    simp only [flatOf] at h
    split at h
    · rename_i hu
      cases h
      obtain ⟨b, rfl, _⟩ := DataW.trod_bool hu ht
      trivial
    · rename_i k hu
      cases h
      obtain ⟨m, rfl, _, hw⟩ := DataW.trod_int hu ht
      exact ⟨rfl, hw, trivial⟩
    · rename_i fs hu
      rw [Option.bind_eq_some_iff] at h
      obtain ⟨ks', h1, h2⟩ := h
      split at h2
      · rename_i hc
        cases h2
        obtain ⟨xs, m, hm, _, hl, hxl, hg⟩ := DataW.trod_struct hu ht
        have : m = fuel := by omega
        subst this
        have := flatFields_ok (enc := enc) (P := P) (w := w) (base := base) (spare := spare) (held := held) ih fs.toList 0 ks cs h1 (by rw [hl, hc, Nat.zero_add]) (fun i f hf => by
          have hf' : fs[i]? = some f := by simpa using hf
          have hi : i < xs.length := by rw [hxl]; exact (Array.getElem?_eq_some_iff.1 hf').1
          exact ⟨xs[i], by rw [hg i f hf']; exact List.getElem?_eq_getElem hi⟩)
        simpa using this
      · cases h2
    · rename_i m e hu
      rw [Option.bind_eq_some_iff] at h
      obtain ⟨ks', h1, h2⟩ := h
      split at h2
      · rename_i hc
        cases h2
        obtain ⟨hc1, hc2⟩ := hc
        obtain ⟨xs, m', hm, _, hl, hxl, hg⟩ := DataW.trod_array hu ht
        have : m' = fuel := by omega
        subst this
        have key : ∀ (j : Nat), j ≤ m → FlatOk (List.replicate j ks').flatten (cs.take (j * ks'.length)) := by
          intro j
          induction j with
          | zero => intro _; simp [FlatOk]
          | succ j ihj =>
            intro hj
            have hx := hg j (by omega)
            rw [List.getElem?_eq_getElem (by omega), hc1] at hx
            have a := ih _ _ _ _ h1 hx
            have e : cs.take ((j + 1) * ks'.length) = cs.take (j * ks'.length) ++ (cs.drop (j * ks'.length)).take ks'.length := by
              rw [Nat.succ_mul, List.take_add]
            rw [e, List.replicate_succ', List.flatten_append, List.flatten_singleton]
            exact (ihj (by omega)).append a
        have := key m (Nat.le_refl _)
        rwa [List.take_of_length_le (by rw [hl, hc2]; exact Nat.le_refl _)] at this
      · cases h2
    · cases h

/-- A struct or an array by value. -/
theorem open_flat {r : Reach} {b0 : Nat} {t : TypeId} {v : Value} {d : DataW H} {p : List MemPlace} {n : Nat} {ks : List Leaf} (hk : flatOf P n t = some ks)
    (hu : (match P.underlying t with | some (.struct _) | some (.array _ _) => true | _ => false) = true)
    (hv : Value.okWide P w r b0 t v) (h : DataW.Trod enc P w base spare held t v d p) : ∃ cs : List Value, v = .agg cs.toArray ∧ FlatOk ks cs := by
  have hag : ∃ cs, v = .agg cs := by
    unfold Value.okWide at hv
    split at hv
    · exact ⟨_, hv.choose_spec.1⟩
    · exact ⟨_, hv.choose_spec.1⟩
    · rename_i h1 h2
      split at hu
      · rename_i hs; exact absurd hs (h1 _)
      · rename_i hs; exact absurd hs (h2 _ _)
      · cases hu
  obtain ⟨⟨cs⟩, rfl⟩ := hag
  obtain ⟨fuel, hf⟩ := h
  exact ⟨cs, rfl, flatOf_ok fuel n t ks cs _ hk hf⟩

theorem cells_of_add {w : World} {a : Addr} {k n : Nat} (hk : 0 < k) (hn : 0 < n) {f : Nat → List Value} (h : ∀ i, i < n → w.cells? 0 (a.add (i * k)) k = some (f i)) :
    a.spot = none ∧ ∀ i, i < n → ∀ j, j < k → w.cell? ⟨a.block, a.off + (i * k + j), none⟩ = (f i)[j]? := by
  have h0 := World.cells?_some (h 0 hn)
  have hs : a.spot = none := by
    have h1 := h0.2.2 0 hk
    simp only [Nat.zero_mul, Addr.add, if_true] at h1
    have h2 : (f 0)[0]? = some ((f 0)[0]'(by rw [h0.2.1]; exact hk)) := List.getElem?_eq_getElem _
    rw [h2] at h1
    unfold World.cell? at h1
    split at h1
    · split at h1
      · cases h1
      · rename_i hsp; cases ha : a.spot with
        | none => rfl
        | some s => simp [ha] at hsp
    · cases h1
  refine ⟨hs, fun i hi j hj => ?_⟩
  have h1 := (World.cells?_some (h i hi)).2.2 j hj
  rw [← h1]
  obtain ⟨b, off, sp⟩ := a
  simp only at hs
  subst hs
  congr 1
  unfold Addr.add
  by_cases e1 : i * k = 0 <;> by_cases e2 : j = 0 <;> simp [e1, e2, Nat.add_assoc]

/-- A slice of such: its rows of cells, and how the memory holds them. -/
theorem open_rows {t e : TypeId} {n : Nat} {ks : List Leaf} {v : Value} {d : DataW H} {p : List MemPlace} (ht : P.underlying t = some (.slice e)) (hk : flatOf P n e = some ks) (hc : P.cellsOf e = ks.length) (hpos : 0 < ks.length)
    {b0 : Nat} {r : Reach} (hv : Value.okWide P w r b0 t v) (h : DataW.Trod enc P w 0 (fun _ => true) true t v d p) (hlt : ∀ x ∈ p, x.block < w.heap.size) :
    ∃ (A : Option Addr) (len cap : Nat) (xss : List (List Value)), v = .slice A len cap ∧ len ≤ cap ∧ cap ≤ maxLen ∧ xss.length = len ∧ (∀ xs ∈ xss, FlatOk ks xs) ∧ Rd w w.heap.size ks.length A len xss.flatten := by
  obtain ⟨A0, l0, c0, rfl⟩ := okWide_slice ht hv
  obtain ⟨fuel, hf⟩ := h
  rcases Go.Deep.open_slice ht hf with ⟨hcs, _⟩ | ⟨a, len, cap, m, n', D, Pl, hcs, _, hl, hm, hmm, hx, hi⟩
  · simp only [Value.cells, List.cons.injEq, Value.slice.injEq] at hcs
    obtain ⟨⟨rfl, rfl, rfl⟩, _⟩ := hcs
    exact ⟨none, 0, 0, [], rfl, by omega, by simp [maxLen], rfl, by simp, Rd.nil⟩
  · simp only [Value.cells, List.cons.injEq, Value.slice.injEq] at hcs
    obtain ⟨⟨rfl, rfl, rfl⟩, _⟩ := hcs
    simp only [if_true] at hmm
    obtain ⟨f, hff⟩ := Go.Deep.choose_lt (α := List Value) hi
    refine ⟨some a, l0, c0, (List.range l0).map f, rfl, hl, hm, by simp, fun xs hxs => ?_, ?_, fun hn => ?_⟩
    · obtain ⟨i, hir, rfl⟩ := List.mem_map.1 hxs
      exact flatOf_ok _ _ _ _ _ _ hk (hff i (by have := List.mem_range.1 hir; omega)).2
    · have hlen : ∀ (j : Nat), j ≤ l0 → ((List.range j).map f).flatten.length = j * ks.length := by
        intro j
        induction j with
        | zero => intro _; simp
        | succ j ih =>
          intro hj
          have := (flatOf_ok _ _ _ _ _ _ hk (hff j (by omega)).2).length
          rw [List.range_succ, List.map_append, List.flatten_append, List.length_append, ih (by omega)]
          simp [this, Nat.succ_mul]
      exact hlen l0 (Nat.le_refl _)
    · have hcells : ∀ i, i < l0 → w.cells? 0 (a.add (i * ks.length)) ks.length = some (f i) := fun i hi' => by
        have := (hff i (by omega)).1
        rwa [hc] at this
      obtain ⟨hs, hcell⟩ := cells_of_add hpos hn hcells
      obtain ⟨b, off, sp⟩ := a
      simp only at hs
      subst hs
      refine ⟨b, off, rfl, ?_, fun j u hu => ?_⟩
      · have hin : MemPlace.cell b off ∈ p := by
          have hx2 : p = MemPlace.row ⟨b, off, none⟩ (m * P.cellsOf e) ++ (List.range m).flatMap Pl := by
            simp only [Prod.mk.injEq] at hx; exact hx.2
          rw [hx2, hc]
          refine List.mem_append_left _ ?_
          have hp : 0 < m * ks.length := Nat.mul_pos (by omega) hpos
          unfold MemPlace.row
          refine List.mem_map.2 ⟨0, List.mem_range.2 hp, by simp⟩
        exact hlt _ hin
      · have hfl : ∀ i, i < l0 → (f i).length = ks.length := fun i hi' => (flatOf_ok _ _ _ _ _ _ hk (hff i (by omega)).2).length
        have hj : j < l0 * ks.length := by
          have h1 := (List.getElem?_eq_some_iff.1 hu).1
          have hlen : ((List.range l0).map f).flatten.length = l0 * ks.length := by
            have hg : ∀ (j : Nat), j ≤ l0 → ((List.range j).map f).flatten.length = j * ks.length := by
              intro j
              induction j with
              | zero => intro _; simp
              | succ j ih =>
                intro hj
                rw [List.range_succ, List.map_append, List.flatten_append, List.length_append, ih (by omega)]
                simp [hfl j (by omega), Nat.succ_mul]
            exact hg l0 (Nat.le_refl _)
          rwa [hlen] at h1
        have hq : j / ks.length < l0 := (Nat.div_lt_iff_lt_mul hpos).2 hj
        have hr := Nat.mod_lt j hpos
        have e : j = j / ks.length * ks.length + j % ks.length := by have := Nat.div_add_mod j ks.length; rw [Nat.mul_comm] at this; omega
        have hc1 := hcell _ hq _ hr
        rw [← e] at hc1
        rw [hc1, ← hu]
        have hg : ∀ (xss : List (List Value)) (q r : Nat), (∀ xs ∈ xss, xs.length = ks.length) → r < ks.length → (hq : q < xss.length) → xss.flatten[q * ks.length + r]? = (xss[q])[r]? := by
          intro xss
          induction xss with
          | nil => intro q r _ _ hq; simp at hq
          | cons x xs ih =>
            intro q r hx hr hq
            have hxl := hx x (List.mem_cons_self ..)
            cases q with
            | zero => simp only [List.flatten_cons, Nat.zero_mul, Nat.zero_add, List.getElem_cons_zero]; rw [List.getElem?_append_left (by omega)]
            | succ q =>
              simp only [List.flatten_cons, List.getElem_cons_succ]
              rw [List.getElem?_append_right (by rw [Nat.succ_mul]; omega), show (q + 1) * ks.length + r - x.length = q * ks.length + r by rw [Nat.succ_mul]; omega]
              exact ih q r (fun y hy => hx y (List.mem_cons_of_mem _ hy)) hr (by simpa using hq)
        have := hg ((List.range l0).map f) (j / ks.length) (j % ks.length) (fun xs hxs => by
          obtain ⟨i, hir, rfl⟩ := List.mem_map.1 hxs
          exact hfl i (List.mem_range.1 hir)) hr (by simpa using hq)
        rw [← e] at this
        rw [this]
        simp
end

/-- Rows, each of which is some x's: a list. -/
theorem list_of_rows {α : Type} {enc : α → List Value} {ok : α → Prop} : ∀ (xss : List (List Value)), (∀ xs ∈ xss, ∃ x, xs = enc x ∧ ok x) → ∃ l : List α, l.length = xss.length ∧ xss.flatten = l.flatMap enc ∧ ∀ x ∈ l, ok x
  | [], _ => ⟨[], rfl, rfl, by simp⟩
  | xs :: xss, h => by
    obtain ⟨x, rfl, hx⟩ := h xs (List.mem_cons_self ..)
    obtain ⟨l, h1, h2, h3⟩ := list_of_rows xss (fun y hy => h y (List.mem_cons_of_mem _ hy))
    exact ⟨x :: l, by simp [h1], by simp [h2], by simpa using ⟨hx, h3⟩⟩
end Go.Proofs.Ytmhbpfclfffgkaa
