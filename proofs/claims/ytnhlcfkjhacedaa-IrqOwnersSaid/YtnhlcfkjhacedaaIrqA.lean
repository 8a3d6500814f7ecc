/- Chapter 22, the routes of interrupts: the plain law. -/
import Derived.Test.YtnhlcfkjhacedaaEqFlat
import Derived.Test.YtnhlcfkjhacedaaAppR
import Derived.Test.YtnhlcfkjhacedaaConfF
namespace Go.Proofs.Ytnhlcfkjhacedaa
set_option linter.unusedVariables false
open Go.RowKit Go.Sort

/-- A route. -/
structure Rt where
  own : Int
  cpu : Int
  edge : Bool
  deriving DecidableEq
def encR (r : Rt) : List Value := [.int .i64 r.own, .int .i64 r.cpu, .bool r.edge]
def zR : Rt := ⟨0, 0, false⟩
def mR : Rt := ⟨-1, 0, false⟩
def encBl (b : Bool) : List Value := [.bool b]
theorem few_nI {g : Gd} (h : fewG g = true) : g.nI ≤ 70 := by
  simp [fewG] at h
  omega
theorem info_route : (Try.prog.info? 58).map (fun i => (i.zero, i.size, i.bytes)) = some (some (.agg #[.int .i64 0, .int .i64 0, .bool false]), 3, 24) := by kernel_rfl
theorem route_elem : ElemInfo Try.prog 36 58 3 24 := by
  obtain ⟨i, hi, hz, hs, hb⟩ := info_parts info_route
  exact ⟨Try.underlying36, ⟨i, _, hi, hz, hs, hb, rfl⟩, by decide⟩
theorem flat_route : flatOf Try.prog 5 58 = some [.int .i64, .int .i64, .bool] := by kernel_rfl
theorem one_r (l : List Rt) : ∀ u ∈ l.flatMap encR, u.oneCell' = true := by
  intro u hu; obtain ⟨x, _, hx⟩ := List.mem_flatMap.1 hu; simp [encR] at hx; rcases hx with rfl | rfl | rfl <;> rfl
theorem route_neq (w : World) (x y : Rt) : (binOp .neq 58 (.agg #[.int .i64 x.own, .int .i64 x.cpu, .bool x.edge]) (.agg #[.int .i64 y.own, .int .i64 y.cpu, .bool y.edge])).run Try.prog w = .ok (.bool (!decide (x = y))) w := by
  have h := neq_flat w flat_route (by kernel_rfl) (by decide) (by kernel_rfl) (xs := encR x) (ys := encR y) ⟨rfl, rfl, trivial⟩ ⟨rfl, rfl, trivial⟩
  have e : eqLeaves (encR x) (encR y) = decide (x = y) := by
    obtain ⟨a, b, c⟩ := x
    obtain ⟨a', b', c'⟩ := y
    rw [Bool.eq_iff_iff]
    simp [eqLeaves, encR]
  rw [e] at h
  exact h
theorem route_eql (w : World) (x y : Rt) : (binOp .eql 58 (.agg #[.int .i64 x.own, .int .i64 x.cpu, .bool x.edge]) (.agg #[.int .i64 y.own, .int .i64 y.cpu, .bool y.edge])).run Try.prog w = .ok (.bool (decide (x = y))) w := by
  have h := eql_flat w flat_route (by kernel_rfl) (by decide) (by kernel_rfl) (xs := encR x) (ys := encR y) ⟨rfl, rfl, trivial⟩ ⟨rfl, rfl, trivial⟩
  have e : eqLeaves (encR x) (encR y) = decide (x = y) := by
    obtain ⟨a, b, c⟩ := x
    obtain ⟨a', b', c'⟩ := y
    rw [Bool.eq_iff_iff]
    simp [eqLeaves, encR]
  rw [e] at h
  exact h

/-- One interrupt of a guest. -/
def stepR (l : List Rt) (x : Nat × Iq) : Option (List Rt) :=
  if x.2.num < 0 ∨ (l.length : Int) ≤ x.2.num ∨ 0 ≤ (l.getD x.2.num.toNat zR).own ∨ x.2.cpu < 0 ∨ 32 ≤ x.2.cpu then none else some (l.set x.2.num.toNat ⟨x.1, x.2.cpu, x.2.edge⟩)
def runR (l : List Rt) (xs : List (Nat × Iq)) : Option (List Rt) := xs.foldlM stepR l
theorem runR_app (l : List Rt) (xs ys : List (Nat × Iq)) : runR l (xs ++ ys) = (runR l xs).bind fun l' => runR l' ys := by
  unfold runR; rw [List.foldlM_append]; rfl
theorem runR_snoc (l : List Rt) (xs : List (Nat × Iq)) (x : Nat × Iq) : runR l (xs ++ [x]) = (runR l xs).bind fun l' => stepR l' x := by
  rw [runR_app]; congr 1; funext l'; simp [runR]
theorem runR_none {l : List Rt} {p xs : List (Nat × Iq)} (h : p <+: xs) (hn : runR l p = none) : runR l xs = none := by
  obtain ⟨q, rfl⟩ := h
  rw [runR_app, hn]; rfl
theorem stepR_len {l l' : List Rt} {x : Nat × Iq} (h : stepR l x = some l') : l'.length = l.length := by
  unfold stepR at h
  split at h
  · cases h
  · injection h with h; rw [← h]; simp
theorem runR_len {l' : List Rt} : ∀ {xs : List (Nat × Iq)} {l : List Rt}, runR l xs = some l' → l'.length = l.length
  | [], l, h => by injection h with h; rw [h]
  | x :: xs, l, h => by
    have h' : (stepR l x).bind (fun l1 => runR l1 xs) = some l' := h
    rw [Option.bind_eq_some_iff] at h'
    obtain ⟨l1, h1, h2⟩ := h'
    rw [runR_len h2, stepR_len h1]
/-- What the first k guests name, if they started. -/
def namedK (st : List Bool) (gs : List Gd) : Nat → List (Nat × Iq)
  | 0 => []
  | k + 1 => namedK st gs k ++ if st.getD k false then (gs.getD k zG).irqs.map fun q => (k, q) else []
theorem namedK_prefix {st : List Bool} {gs : List Gd} {k m : Nat} (h : k ≤ m) : namedK st gs k <+: namedK st gs m := by
  induction m with
  | zero =>
    have h0 : k = 0 := by omega
    rw [h0]
    exact List.prefix_refl _
  | succ m ih =>
    rcases Nat.lt_or_ge m k with h1 | h1
    · have h0 : k = m + 1 := by omega
      rw [h0]
      exact List.prefix_refl _
    · exact (ih h1).trans (List.prefix_append _ _)
theorem namedK_mid {st : List Bool} {gs : List Gd} {k m j : Nat} (h : k < m) (hs : st.getD k false = true) : namedK st gs k ++ ((gs.getD k zG).irqs.take j).map (fun q => (k, q)) <+: namedK st gs m := by
  refine List.IsPrefix.trans ?_ (namedK_prefix (k := k + 1) h)
  have e : namedK st gs (k + 1) = namedK st gs k ++ (gs.getD k zG).irqs.map fun q => (k, q) := by
    show namedK st gs k ++ (if st.getD k false then _ else _) = _
    rw [if_pos hs]
  rw [e]
  exact (List.prefix_append_right_inj _).2 ((List.take_prefix _ _).map _)
/-- The routes of n interrupts. -/
def routesN (n : Nat) (gs : List Gd) (st : List Bool) (ng : Nat) : Option (List Rt) := runR (List.replicate n mR) (namedK st gs ng)
theorem routesN_len {n ng : Nat} {gs : List Gd} {st : List Bool} {l : List Rt} (h : routesN n gs st ng = some l) : l.length = n := by
  rw [runR_len h]; simp
theorem flatR_set3 : ∀ (l : List Rt) (j : Nat) (h : j < l.length) (o : Rt),
    (((l.flatMap encR).set (j * 3) (.int .i64 o.own)).set (j * 3 + 1) (.int .i64 o.cpu)).set (j * 3 + 2) (.bool o.edge) = (l.set j o).flatMap encR
  | [], _, h, _ => absurd h (by simp)
  | v :: l, 0, _, o => by simp [encR]
  | v :: l, j + 1, h, o => by
    have ih := flatR_set3 l j (by simpa using h) o
    rw [show (j + 1) * 3 = j * 3 + 1 + 1 + 1 by omega, show j * 3 + 1 + 1 + 1 + 1 = (j * 3 + 1) + 1 + 1 + 1 by omega, show j * 3 + 1 + 1 + 1 + 2 = (j * 3 + 2) + 1 + 1 + 1 by omega]
    simp only [List.flatMap_cons, List.set_cons_succ]
    rw [← ih]
    rfl
theorem flatR_set1 : ∀ (l : List Rt) (j : Nat) (h : j < l.length) (v : Int), (l.flatMap encR).set (j * 3) (.int .i64 v) = (l.set j { l[j] with own := v }).flatMap encR
  | [], _, h, _ => absurd h (by simp)
  | v :: l, 0, _, o => by simp [encR]
  | v :: l, j + 1, h, o => by
    have ih := flatR_set1 l j (by simpa using h) o
    rw [show (j + 1) * 3 = j * 3 + 1 + 1 + 1 by omega]
    simp only [List.flatMap_cons, List.set_cons_succ, List.getElem_cons_succ]
    rw [← ih]
    rfl
theorem row_set3 {w : World} {b0 gw cap n : Nat} {l : List Rt} (hl : l.length = n) (h : w.ownsRow b0 58 3 (.slice (some ⟨gw, 0, none⟩) n cap) n (l.flatMap encR)) (j : Nat) (hj : j < n) (o : Rt) :
    (((w.setCell ⟨gw, j * 3, none⟩ (.int .i64 o.own)).setCell ⟨gw, j * 3 + 1, none⟩ (.int .i64 o.cpu)).setCell ⟨gw, j * 3 + 2, none⟩ (.bool o.edge)).ownsRow b0 58 3 (.slice (some ⟨gw, 0, none⟩) n cap) n ((l.set j o).flatMap encR) := by
  have h3 := (((h.stored (j * 3) (.int .i64 o.own)).1.stored (j * 3 + 1) (.int .i64 o.cpu)).1.stored (j * 3 + 2) (.bool o.edge)).1
  rwa [flatR_set3 l j (by omega) o] at h3
theorem made_routes : ∀ n, (madeCells #[.int .i64 0, .int .i64 0, .bool false] (n * 3)).toList = (List.replicate n zR).flatMap encR
  | 0 => by simp [madeCells]
  | n + 1 => by
    rw [List.replicate_succ', List.flatMap_append, ← made_routes n]
    have h0 : n * 3 % 3 = 0 := Nat.mul_mod_left _ _
    have h1 : (n * 3 + 1) % 3 = 1 := by omega
    have h2 : (n * 3 + 2) % 3 = 2 := by omega
    simp [madeCells, show (n + 1) * 3 = n * 3 + 1 + 1 + 1 by omega, List.range_succ, encR, zR, h1, h2]
theorem make_routes (w : World) (n : Nat) (h : n ≤ 2000) :
    (Instr.makeSlice 36 (.int .i64 (n : Int)) (.int .i64 (n : Int))).run Try.prog w = .ok (.slice (some ⟨w.heap.size, 0, none⟩) n n) (w.alloc (.cells (madeCells #[.int .i64 0, .int .i64 0, .bool false] (n * 3)) 58)) := by
  obtain ⟨i, hi, hz, hs, hb⟩ := info_parts info_route
  have := run_make (P := Try.prog) w 36 58 i _ Try.underlying36 hi hz .i64 .i64 n n (by omega) (by omega) (by rw [hb]; omega) (by omega)
  rw [hs] at this
  simpa [Value.cells] using this
theorem own_made {w : World} {base : Nat} {e : TypeId} {size n : Nat} {cur : Array Value} (hb : base ≤ w.heap.size) (hm : n ≤ maxLen) (hs : cur.size = n * size) : (w.alloc (.cells cur e)).ownsRow base e size (.slice (some ⟨w.heap.size, 0, none⟩) n n) n cur.toList := by
  refine ⟨by simpa using hs, .inr ⟨w.heap.size, n, cur, rfl, hb, heap_alloc_new w _, Nat.le_refl _, hm, hs, ?_⟩⟩
  exact List.take_of_length_le (by simp [hs])
end Go.Proofs.Ytnhlcfkjhacedaa
