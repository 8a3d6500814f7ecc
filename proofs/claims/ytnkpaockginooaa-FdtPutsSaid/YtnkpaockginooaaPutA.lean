/- A tree as bytes: the specification; the writer in memory; a name's place walked. -/
import Derived.Test.YtnkpaockginooaaMayE
import Derived.Test.YtnkpaockginooaaRegT
import Derived.Maps.OwnSet
import Derived.Lib.AppendStr
namespace Go.Proofs.Ytnkpaockginooaa
set_option linter.unusedVariables false
set_option linter.unusedSimpArgs false
open Go.RowKit Go.Sort Go.Maps Go.WideShapes Go.ChangeShapes

/-- The structure, the texts, and the names with their places. -/
structure WS where
  b : List Int
  x : List Int
  n : List (ByteArray × Nat)
open Classical in
noncomputable def lookN : List (ByteArray × Nat) → ByteArray → Option Nat
  | [], _ => none
  | (k, v) :: l, s => if k = s then some v else lookN l s
theorem lookN_app (l : List (ByteArray × Nat)) (k s : ByteArray) (v : Nat) (h : lookN l k = none) : lookN (l ++ [(k, v)]) s = if k = s then some v else lookN l s := by
  induction l with
  | nil => simp [lookN]
  | cons p l ih =>
    obtain ⟨k', v'⟩ := p
    unfold lookN at h
    split at h
    · cases h
    · rename_i hne
      simp only [List.cons_append, lookN]
      rw [ih h]
      by_cases e1 : k' = s
      · have : ¬ k = s := fun e => hne (by rw [e1, e])
        simp [e1, this]
      · simp [e1]
def be4 (l : List Int) : List Int := l.flatMap (bytesN 4 false)
theorem be4_len (l : List Int) : (be4 l).length = 4 * l.length := by
  induction l with
  | nil => rfl
  | cons x l ih =>
    unfold be4 at *
    rw [List.flatMap_cons, List.length_append, bytesN_len, ih, List.length_cons]
    omega
noncomputable def textS (st : WS) (s : ByteArray) : WS × Nat := match lookN st.n s with
  | some p => (st, p)
  | none => (⟨st.b, st.x ++ (strB s ++ [0]), st.n ++ [(s, st.x.length)]⟩, st.x.length)
noncomputable def propS (st : WS) (p : Pr) : WS := ⟨fillN ((st.b ++ be4 [3, p.2.length, (textS st p.1).2]) ++ p.2), (textS st p.1).1.x, (textS st p.1).1.n⟩
/-- The structure behind a node. -/
noncomputable def nodeS : Nat → Tr → WS → WS
  | 0, _, st => st
  | f + 1, t, st =>
    let s3 := t.ks.foldl (fun s k => nodeS f k s) (t.ps.foldl propS ⟨fillN ((st.b ++ be4 [1]) ++ (strB t.nm ++ [0])), st.x, st.n⟩)
    ⟨s3.b ++ be4 [2], s3.x, s3.n⟩
/-- What holds of all places. -/
def PlOk (st : WS) : Prop := ∀ p ∈ st.n, p.2 < 4294967296
theorem lookN_mem : ∀ (l : List (ByteArray × Nat)) (s : ByteArray) (p : Nat), lookN l s = some p → (s, p) ∈ l
  | [], _, _, h => by simp [lookN] at h
  | (k, v) :: l, s, p, h => by
    unfold lookN at h
    split at h
    · rename_i e
      simp only [Option.some.injEq] at h
      subst h e
      exact List.mem_cons_self ..
    · exact List.mem_cons_of_mem _ (lookN_mem l s p h)
theorem lookN_none : ∀ (l : List (ByteArray × Nat)) (s : ByteArray), lookN l s = none → ∀ p ∈ l, p.1 ≠ s
  | [], _, _, _, hp => by cases hp
  | (k, v) :: l, s, h, p, hp => by
    unfold lookN at h
    split at h
    · cases h
    · rename_i e
      rcases List.mem_cons.1 hp with rfl | hp
      · exact e
      · exact lookN_none l s h p hp
/-- What a map of names reads as. -/
def MapRel (D : DataW Unit) (N : List (ByteArray × Nat)) : Prop := ∀ s, match lookN N s with
  | some p => has D (kl s) = true ∧ D.atKey (kl s) (.lit (.int .u32 0)) = .lit (.int .u32 p)
  | none => has D (kl s) = false
theorem mapRel_nil : MapRel (.map []) [] := fun s => by simp [lookN, has]
theorem mapRel_put {D : DataW Unit} {N : List (ByteArray × Nat)} (h : MapRel D N) (hD : IsMap D) (k : ByteArray) (v : Nat) (hk : lookN N k = none) : MapRel (D.put (kl k) (.lit (.int .u32 v))) (N ++ [(k, v)]) := fun s => by
  rw [lookN_app N k s v hk]
  by_cases e : k = s
  · subst e
    simp only [if_true]
    exact ⟨has_put_same hD (kl_key k) _, atKey_put_same hD (kl_key k) _ _⟩
  · have hne : kl s ≠ kl k := fun h2 => e (kl_inj h2).symm
    have := h s
    simp only [if_neg e]
    rw [has_put_other hne, atKey_put_other hne]
    exact this
/-- The writer in memory: its block, its bytes and texts in rows of its own, its map. All of it lies in S. -/
def WSt (w : World) (S : Nat → Prop) (g mb : Nat) (st : WS) : Prop := ∃ vb vx D,
  Blk w g 70 #[vb, vx, .map (some mb)] ∧ OwnS w S 5 1 vb st.b.length (st.b.flatMap encB) ∧ OwnS w S 5 1 vx st.x.length (st.x.flatMap encB) ∧ (∀ i, vb.ownBlock = some i → vx.ownBlock ≠ some i) ∧
  w.ownsMap Try.prog 9 (plainElem Try.prog 44) mb st.n.length D ∧ MapRel D st.n ∧ S g ∧ S mb ∧ ∀ i, S i → i < w.heap.size
/-- .. behind a step. -/
def WOut (S : Nat → Prop) (g mb : Nat) (st : WS) (w w' : World) : Prop := ∃ S', WSt w' S' g mb st ∧ Near S w w' ∧ ∀ i, S' i → S i ∨ w.heap.size ≤ i
theorem map_near {w w' : World} {S : Nat → Prop} {P : Program} {k : TypeId} {R : Value → Option (DataW Unit × List MemPlace)} {b n : Nat} {D : DataW Unit} (h : w.ownsMap P k R b n D) (hn : Near S w w') (hs : ¬ S b) : w'.ownsMap P k R b n D := by
  have hlt := h.lt
  obtain ⟨es, clock, hb, r⟩ := h
  exact ⟨es, clock, (hn.block b hlt hs).trans hb, r⟩
theorem map_kept {w w' : World} {P : Program} {k : TypeId} {R : Value → Option (DataW Unit × List MemPlace)} {b n : Nat} {D : DataW Unit} (h : w.ownsMap P k R b n D) (hb : Below w.heap.size w w') : w'.ownsMap P k R b n D := map_near h (Near.of_below (fun _ => False) hb) (fun h => h)
theorem WSt.kept {w w' : World} {S : Nat → Prop} {g mb : Nat} {st : WS} (h : WSt w S g mb st) (hb : Below w.heap.size w w') : WSt w' S g mb st := by
  obtain ⟨vb, vx, D, h1, h2, h3, h4, h5, h6, h7, h8, h9⟩ := h
  exact ⟨vb, vx, D, h1.kept hb, h2.kept hb, h3.kept hb, h4, map_kept h5 hb, h6, h7, h8, fun i hi => Nat.lt_of_lt_of_le (h9 i hi) hb.size⟩
theorem WOut.trans {S : Nat → Prop} {g mb : Nat} {st2 : WS} {w w1 w2 : World} {S1 : Nat → Prop} (hn : Near S w w1) (hs : ∀ i, S1 i → S i ∨ w.heap.size ≤ i) (h : WOut S1 g mb st2 w1 w2) : WOut S g mb st2 w w2 := by
  obtain ⟨S2, h1, h2, h3⟩ := h
  have := hn.size
  exact ⟨S2, h1, hn.step h2 hs, fun i hi => by
    rcases h3 i hi with h | h
    · exact hs i h
    · exact .inr (by omega)⟩
theorem grown_near {S : Nat → Prop} {w w' : World} {b : Nat} (h : w.grownBy w' (some b)) (hb : S b) : Near S w w' := (Near.refl S w).grown h fun k hk => by
  simp only [Option.some.injEq] at hk
  subst hk
  exact hb
theorem zero_u32 (w : World) : (zeroValue 44).run Try.prog w = .ok (.int .u32 0) w := by kernel_rfl
theorem strCells_eq (s : ByteArray) : Lib.strCells s = (strB s).flatMap encB := by
  rw [flatB_map]
  simp [Lib.strCells, strB]
end Go.Proofs.Ytnkpaockginooaa
