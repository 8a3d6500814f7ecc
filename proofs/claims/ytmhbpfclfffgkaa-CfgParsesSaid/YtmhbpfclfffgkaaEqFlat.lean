/- '==' on structs and arrays that are made of numbers and bools alone: leaf by leaf. -/
import Derived.Test.YtmhbpfclfffgkaaOpen
import Derived.ChangeKeysEq
import Derived.Laws.StructEq
namespace Go.Proofs.Ytmhbpfclfffgkaa
set_option linter.unusedVariables false
open Go.RowKit

/-- Cells that are such leaves, of whatever size. -/
def FlatK : List Leaf → List Value → Prop
  | [], [] => True
  | .int k :: ks, .int k' n :: cs => k' = k ∧ FlatK ks cs
  | .bool :: ks, .bool _ :: cs => FlatK ks cs
  | _, _ => False
theorem FlatOk.kinds : ∀ {ks : List Leaf} {cs : List Value}, FlatOk ks cs → FlatK ks cs
  | [], [], _ => trivial
  | .int k :: ks, .int k' n :: cs, h => ⟨h.1, FlatOk.kinds h.2.2⟩
  | .bool :: ks, .bool _ :: cs, h => FlatOk.kinds (ks := ks) (cs := cs) h
theorem FlatK.length : ∀ {ks : List Leaf} {cs : List Value}, FlatK ks cs → cs.length = ks.length
  | [], [], _ => rfl
  | .int k :: ks, .int k' n :: cs, h => by simp [FlatK.length h.2]
  | .bool :: ks, .bool _ :: cs, h => by
    have : FlatK ks cs := h
    simp [FlatK.length this]
def eqLeaves : List Value → List Value → Bool
  | [], [] => true
  | .int _ a :: xs, .int _ b :: ys => (a == b) && eqLeaves xs ys
  | .bool a :: xs, .bool b :: ys => (a == b) && eqLeaves xs ys
  | _, _ => false
theorem eqLeaves_append : ∀ {ks : List Leaf} {xs ys xs' ys' : List Value}, FlatK ks xs → FlatK ks ys → eqLeaves (xs ++ xs') (ys ++ ys') = (eqLeaves xs ys && eqLeaves xs' ys')
  | [], [], [], _, _, _, _ => by simp [eqLeaves]
  | .int k :: ks, .int _ a :: xs, .int _ b :: ys, xs', ys', h, h' => by
    simp only [List.cons_append, eqLeaves, eqLeaves_append (xs' := xs') (ys' := ys') h.2 h'.2, Bool.and_assoc]
  | .bool :: ks, .bool a :: xs, .bool b :: ys, xs', ys', h, h' => by
    have h0 : FlatK ks xs := h
    have h1 : FlatK ks ys := h'
    simp only [List.cons_append, eqLeaves, eqLeaves_append (xs' := xs') (ys' := ys') h0 h1, Bool.and_assoc]
theorem eqLeaves_iff : ∀ {ks : List Leaf} {xs ys : List Value}, FlatK ks xs → FlatK ks ys → (eqLeaves xs ys = true ↔ xs = ys)
  | [], [], [], _, _ => by simp [eqLeaves]
  | .int k :: ks, .int _ a :: xs, .int _ b :: ys, h, h' => by
    have e1 := h.1
    have e2 := h'.1
    subst e1
    subst e2
    simp only [eqLeaves, Bool.and_eq_true, beq_iff_eq, eqLeaves_iff h.2 h'.2, List.cons.injEq, Value.int.injEq, true_and]
  | .bool :: ks, .bool a :: xs, .bool b :: ys, h, h' => by
    have h0 : FlatK ks xs := h
    have h1 : FlatK ks ys := h'
    simp only [eqLeaves, Bool.and_eq_true, beq_iff_eq, eqLeaves_iff h0 h1, List.cons.injEq, Value.bool.injEq]
theorem eqLeaves_self : ∀ {ks : List Leaf} {xs : List Value}, FlatK ks xs → eqLeaves xs xs = true := fun h => (eqLeaves_iff h h).2 rfl

/-- A value of such a type, its cells written out. -/
def wrapV (P : Program) (t : TypeId) (cs : List Value) : Value :=
  match P.underlying t with
  | some (.struct _) => .agg cs.toArray
  | some (.array _ _) => .agg cs.toArray
  | _ => cs.headD undef
def eqOk (P : Program) : Nat → TypeId → Bool
  | 0, _ => false
  | n + 1, t =>
    match P.underlying t with
    | some .bool => true
    | some (.int _) => true
    | some (.struct fs) => (!P.stoodInHeld t) && fs.toList.all fun f => f.name != "_" && (P.info? f.type).isSome && eqOk P n f.type && (match P.underlying f.type with | some .bool => P.cellsOf f.type == 1 | some (.int _) => P.cellsOf f.type == 1 | _ => true)
    | some (.array _ e) => (P.info? e).isSome && eqOk P n e && (match P.underlying e with | some .bool => P.cellsOf e == 1 | some (.int _) => P.cellsOf e == 1 | _ => true)
    | _ => false

section
variable {P : Program} (w : World)

theorem run_part_flat {t : TypeId} {cs : List Value} {off : Nat} (hi : (P.info? t).isSome = true) (hn : off + P.cellsOf t ≤ cs.length) (n : Nat) (hk : eqOk P n t = true)
    (h1 : (match P.underlying t with | some .bool => P.cellsOf t == 1 | some (.int _) => P.cellsOf t == 1 | _ => true) = true) :
    (part t cs.toArray off).run P w = .ok (wrapV P t ((cs.drop off).take (P.cellsOf t))) w := by
  obtain ⟨i, hi⟩ := Option.isSome_iff_exists.1 hi
  have hs := run_sizeOf w hi
  cases n with
  | zero => simp [eqOk] at hk
  | succ n =>
    unfold eqOk at hk
    unfold wrapV
    have hex : cs.toArray.extract off (off + P.cellsOf t) = ((cs.drop off).take (P.cellsOf t)).toArray := by
      rw [List.extract_toArray, List.extract_eq_take_drop, Nat.add_sub_cancel_left]
    split at hk
    · rename_i hu
      simp only [hu, beq_iff_eq] at h1 ⊢
      rw [h1] at hn ⊢
      have hl : off < cs.length := by omega
      simp [part, isAgg, run_underlying hu, hl, List.head?_drop, List.headD_eq_head?_getD, List.head?_take]
    · rename_i k hu
      simp only [hu, beq_iff_eq] at h1 ⊢
      rw [h1] at hn ⊢
      have hl : off < cs.length := by omega
      simp [part, isAgg, run_underlying hu, hl, List.head?_drop, List.headD_eq_head?_getD, List.head?_take]
    · rename_i fs hu
      simp only [hu]
      simp [part, isAgg, run_underlying hu, hs]
    · rename_i m e hu
      simp only [hu]
      simp [part, isAgg, run_underlying hu, hs]
    · cases hk

theorem eqFlat : ∀ (n : Nat) (t : TypeId) (ks : List Leaf) (xs ys : List Value) (d : Nat), flatOf P n t = some ks → eqOk P n t = true → FlatK ks xs → FlatK ks ys → n ≤ d →
    (Op.equalIn d t (wrapV P t xs) (wrapV P t ys)).run P w = .ok (eqLeaves xs ys) w
  | 0, _, _, _, _, _, _, h, _, _, _ => by simp [eqOk] at h
  | n + 1, t, ks, xs, ys, 0, _, _, _, _, hd => absurd hd (by omega)
  | n + 1, t, ks, xs, ys, d + 1, hf, hk, hx, hy, hd => by
    have ih := fun t ks xs ys hf hk hx hy => eqFlat n t ks xs ys d hf hk hx hy (by omega)
    simp only [flatOf] at hf
    unfold eqOk at hk
    unfold wrapV
    split at hf
    · rename_i hu
      cases hf
      simp only [hu]
      match xs, ys, hx, hy with
      | [.bool a], [.bool b], _, _ => simp [eqLeaves, run_equalIn_bool' w d t a b hu]
    · rename_i k hu
      cases hf
      simp only [hu]
      match xs, ys, hx, hy with
      | [.int _ a], [.int _ b], ⟨rfl, _⟩, ⟨rfl, _⟩ => simp [eqLeaves, run_equalIn_int w d t _ _ a b hu]
    · rename_i fs hu
      simp only [hu, Bool.and_eq_true] at hk ⊢
      obtain ⟨hst, hall⟩ := hk
      rw [Option.bind_eq_some_iff] at hf
      obtain ⟨ks', h1, h2⟩ := hf
      split at h2
      · cases h2
        have hfo : P.fieldsOf t = fs := by unfold Program.fieldsOf; rw [hu]
        rw [run_equalIn_struct w d t _ _ (by rw [hfo]; exact hu) (by simpa using hst), hfo]
        have key : ∀ (fs : List Field) (off : Nat) (ks : List Leaf), flatFields P (flatOf P n) fs off = some ks → (fs.all fun f => f.name != "_" && (P.info? f.type).isSome && eqOk P n f.type && (match P.underlying f.type with | some .bool => P.cellsOf f.type == 1 | some (.int _) => P.cellsOf f.type == 1 | _ => true)) = true →
            FlatK ks (xs.drop off) → FlatK ks (ys.drop off) → off ≤ xs.length → off ≤ ys.length → (Op.eqFields d xs.toArray ys.toArray fs).run P w = .ok (eqLeaves (xs.drop off) (ys.drop off)) w := by
          intro fs
          induction fs with
          | nil =>
            intro off ks h _ hx hy _ _
            simp only [flatFields, Option.some.injEq] at h
            subst h
            have hx0 := hx.length
            have hy0 := hy.length
            rw [List.eq_nil_of_length_eq_zero hx0, List.eq_nil_of_length_eq_zero hy0]
            simp [Op.eqFields, eqLeaves]
          | cons f fs ihf =>
            intro off ks h hall hx hy hxl hyl
            simp only [flatFields] at h
            split at h
            · rename_i ks0 hk0
              split at h
              · rename_i hc
                obtain ⟨ho, hcs⟩ := hc
                rw [Option.map_eq_some_iff] at h
                obtain ⟨ks1, hk1, rfl⟩ := h
                rw [List.all_cons, Bool.and_eq_true] at hall
                obtain ⟨hf0, hall'⟩ := hall
                simp only [Bool.and_eq_true] at hf0
                obtain ⟨⟨⟨hname, hinfo⟩, heq⟩, hone⟩ := hf0
                have hlx := hx.length
                have hly := hy.length
                simp only [List.length_drop, List.length_append] at hlx hly
                have sx : xs.drop off = (xs.drop off).take ks0.length ++ xs.drop (off + ks0.length) := by rw [← List.drop_drop]; exact (List.take_append_drop _ _).symm
                have sy : ys.drop off = (ys.drop off).take ks0.length ++ ys.drop (off + ks0.length) := by rw [← List.drop_drop]; exact (List.take_append_drop _ _).symm
                have split2 : ∀ {zs : List Value} {k1 : Nat}, FlatK (ks0 ++ ks1) zs → FlatK ks0 (zs.take ks0.length) ∧ FlatK ks1 (zs.drop ks0.length) := by
                  intro zs _
                  clear hlx hly sx sy hx hy hk0 hk1 hcs
                  induction ks0 generalizing zs with
                  | nil => intro h; exact ⟨trivial, by simpa using h⟩
                  | cons k ks0 ihk =>
                    intro h
                    match k, zs, h with
                    | .int k, .int k' m :: zs, h => exact ⟨⟨h.1, (ihk h.2).1⟩, (ihk h.2).2⟩
                    | .bool, .bool b :: zs, h => exact ihk (zs := zs) h
                obtain ⟨hx1, hx2⟩ := split2 (k1 := 0) hx
                obtain ⟨hy1, hy2⟩ := split2 (k1 := 0) hy
                rw [List.drop_drop] at hx2 hy2
                have hpx := run_part_flat w (cs := xs) (off := f.offset) hinfo (by rw [ho, hcs]; omega) n heq hone
                have hpy := run_part_flat w (cs := ys) (off := f.offset) hinfo (by rw [ho, hcs]; omega) n heq hone
                rw [ho, hcs] at hpx hpy
                have hrest := ihf (off + ks0.length) ks1 hk1 hall' hx2 hy2 (by omega) (by omega)
                simp only [Op.eqFields, Sem.run_bind, if_pos (show f.name ≠ "_" from by simpa using hname), hpx, hpy, ho, Result.andThen_ok, ih _ _ _ _ hk0 heq hx1 hy1]
                have e := eqLeaves_append (xs' := xs.drop (off + ks0.length)) (ys' := ys.drop (off + ks0.length)) hx1 hy1
                rw [← sx, ← sy] at e
                rw [e]
                cases eqLeaves ((xs.drop off).take ks0.length) ((ys.drop off).take ks0.length)
                · simp
                · simpa using hrest
              · cases h
            · cases h
        exact key fs.toList 0 ks h1 hall (by simpa using hx) (by simpa using hy) (Nat.zero_le _) (Nat.zero_le _)
      · cases h2
    · rename_i m e hu
      simp only [hu, Bool.and_eq_true] at hk ⊢
      obtain ⟨⟨hinfo, heq⟩, hone⟩ := hk
      rw [Option.bind_eq_some_iff] at hf
      obtain ⟨ks', h1, h2⟩ := hf
      split at h2
      · rename_i hc
        cases h2
        obtain ⟨hc1, hc2⟩ := hc
        obtain ⟨i, hi⟩ := Option.isSome_iff_exists.1 hinfo
        rw [run_equalIn_array w d _ _ hu hi]
        have key : ∀ (m a : Nat), FlatK (List.replicate m ks').flatten (xs.drop (a * ks'.length)) → FlatK (List.replicate m ks').flatten (ys.drop (a * ks'.length)) →
            a * ks'.length ≤ xs.length → a * ks'.length ≤ ys.length → (Op.eqItems d e (P.cellsOf e) xs.toArray ys.toArray (List.range' a m)).run P w = .ok (eqLeaves (xs.drop (a * ks'.length)) (ys.drop (a * ks'.length))) w := by
          intro m
          induction m with
          | zero =>
            intro a hx hy _ _
            have hx0 := hx.length
            have hy0 := hy.length
            simp only [List.replicate_zero, List.flatten_nil, List.length_nil] at hx0 hy0
            rw [List.eq_nil_of_length_eq_zero hx0, List.eq_nil_of_length_eq_zero hy0]
            simp [Op.eqItems, eqLeaves]
          | succ m ihm =>
            intro a hx hy hxl hyl
            rw [List.replicate_succ, List.flatten_cons] at hx hy
            have hlx := hx.length
            have hly := hy.length
            simp only [List.length_drop, List.length_append] at hlx hly
            have hsa : (a + 1) * ks'.length = a * ks'.length + ks'.length := Nat.succ_mul _ _
            have sx : xs.drop (a * ks'.length) = (xs.drop (a * ks'.length)).take ks'.length ++ xs.drop ((a + 1) * ks'.length) := by rw [hsa, ← List.drop_drop]; exact (List.take_append_drop _ _).symm
            have sy : ys.drop (a * ks'.length) = (ys.drop (a * ks'.length)).take ks'.length ++ ys.drop ((a + 1) * ks'.length) := by rw [hsa, ← List.drop_drop]; exact (List.take_append_drop _ _).symm
            have split2 : ∀ {ks0 ks1 : List Leaf} {zs : List Value}, FlatK (ks0 ++ ks1) zs → FlatK ks0 (zs.take ks0.length) ∧ FlatK ks1 (zs.drop ks0.length) := by
              intro ks0 ks1 zs
              induction ks0 generalizing zs with
              | nil => intro h; exact ⟨trivial, by simpa using h⟩
              | cons k ks0 ihk =>
                intro h
                match k, zs, h with
                | .int k, .int k' m :: zs, h => exact ⟨⟨h.1, (ihk h.2).1⟩, (ihk h.2).2⟩
                | .bool, .bool b :: zs, h => exact ihk (zs := zs) h
            obtain ⟨hx1, hx2⟩ := split2 hx
            obtain ⟨hy1, hy2⟩ := split2 hy
            rw [List.drop_drop, ← hsa] at hx2 hy2
            have hpx := run_part_flat w (cs := xs) (off := a * ks'.length) hinfo (by rw [hc1]; omega) n heq hone
            have hpy := run_part_flat w (cs := ys) (off := a * ks'.length) hinfo (by rw [hc1]; omega) n heq hone
            rw [hc1] at hpx hpy
            have hrest := ihm (a + 1) hx2 hy2 (by omega) (by omega)
            rw [hc1] at hrest ⊢
            simp only [List.range'_succ, Op.eqItems, Sem.run_bind, hpx, hpy, Result.andThen_ok, ih _ _ _ _ h1 heq hx1 hy1]
            have e := eqLeaves_append (xs' := xs.drop ((a + 1) * ks'.length)) (ys' := ys.drop ((a + 1) * ks'.length)) hx1 hy1
            rw [← sx, ← sy] at e
            rw [e]
            cases eqLeaves ((xs.drop (a * ks'.length)).take ks'.length) ((ys.drop (a * ks'.length)).take ks'.length)
            · simp
            · simpa using hrest
        rw [List.range_eq_range']
        simpa using key m 0 (by simpa using hx) (by simpa using hy) (by simp) (by simp)
      · cases h2
    · cases hf

/-- '==' on two such. -/
theorem eql_flat {n : Nat} {t : TypeId} {ks : List Leaf} {xs ys : List Value} (hf : flatOf P n t = some ks) (hk : eqOk P n t = true) (hn : n ≤ 10000)
    (hu : (match P.underlying t with | some (.struct _) | some (.array _ _) => true | _ => false) = true) (hx : FlatK ks xs) (hy : FlatK ks ys) :
    (binOp .eql t (.agg xs.toArray) (.agg ys.toArray)).run P w = .ok (.bool (eqLeaves xs ys)) w := by
  have h := eqFlat (P := P) w n t ks xs ys 10000 hf hk hx hy hn
  have hw : ∀ cs, wrapV P t cs = .agg cs.toArray := fun cs => by
    unfold wrapV
    split at hu
    · simp
    · simp
    · cases hu
  rw [hw, hw] at h
  rw [run_eql_struct, h]; rfl
theorem neq_flat {n : Nat} {t : TypeId} {ks : List Leaf} {xs ys : List Value} (hf : flatOf P n t = some ks) (hk : eqOk P n t = true) (hn : n ≤ 10000)
    (hu : (match P.underlying t with | some (.struct _) | some (.array _ _) => true | _ => false) = true) (hx : FlatK ks xs) (hy : FlatK ks ys) :
    (binOp .neq t (.agg xs.toArray) (.agg ys.toArray)).run P w = .ok (.bool (!eqLeaves xs ys)) w := by
  have h := eqFlat (P := P) w n t ks xs ys 10000 hf hk hx hy hn
  have hw : ∀ cs, wrapV P t cs = .agg cs.toArray := fun cs => by
    unfold wrapV
    split at hu
    · simp
    · simp
    · cases hu
  rw [hw, hw] at h
  rw [run_neq_struct, h]; rfl
end
end Go.Proofs.Ytmhbpfclfffgkaa
