/- Chapter 3: bytes written into a state: what they make. -/
import Derived.Test.YtjcklmhkdpbbdaaDoorShaG
import Derived.Laws.CopyOwn
namespace Go.Proofs.YtjcklmhkdpbbdaaDoor
set_option linter.unusedVariables false
set_option linter.unusedSimpArgs false
open Go.RowKit Go.Sort

/-- copy into a block that is known whole: nothing else turns. -/
theorem wpList_copy_blk {P : Program} {w : World} {ops : Array Oper} {rest : List Oper} {o : Oper} {a : Act} {Q : Exit → Act → World → Prop} (hgd : o.guard = none) (d s : Operand) (dT sT : TypeId)
    (ho : o.op = .call { callee := .builtin .copy, args := #[d, s], argTypes := #[dT, sT] }) (elem : TypeId) (hu : P.underlying dT = some (.slice elem)) (hsz : (P.info? elem).map (·.size) = some 1)
    (dp sp : Option Addr) (dLen dCap sLen sCap : Nat) (hd : a.eval d = .slice dp dLen dCap) (hs : a.eval s = .slice sp sLen sCap)
    (g off : Nat) (cur : List Value) (t : TypeId) (hg : Blk w g t cur.toArray) (cs : List Value) (hn : cs.length = Nat.min sLen dLen)
    (hpos : 0 < cs.length → dp = some ⟨g, off, none⟩ ∧ ∃ ad, sp = some ad ∧ ∀ j v, cs[j]? = some v → w.cell? (ad.add j) = some v)
    (hfit : off + cs.length ≤ cur.length) (h1 : ∀ v ∈ cs, v.oneCell' = true)
    (h : ∀ w', Hid (Blk w' g t (splice cur off cs).toArray) → Near (fun i => i = g) w w' → wpList P ops Q rest (a.put o.dst (goInt cs.length)) w') :
    wpList P ops Q (o :: rest) a w := by
  by_cases h0 : cs.length = 0
  · obtain rfl : cs = [] := List.eq_nil_of_length_eq_zero h0
    refine wpList_copy_nothing hgd d s dT sT ho elem hu hsz dp sp dLen dCap sLen sCap hd hs (by simpa using hn.symm) ?_
    exact h w (Lib.hid (by rw [show splice cur off [] = cur by simp [splice]]; exact hg)) (Near.refl _ _)
  · obtain ⟨rfl, ad, rfl, hsrc⟩ := hpos (by omega)
    refine wpList_copy_own hgd d s dT sT ho elem hu hsz g off dLen dCap ad sLen sCap hd hs cur.toArray t hg cs hn hsrc (by simpa using hfit) h1 ?_
    exact h _ (Lib.hid (show (w.setRow g _).heap[g]? = _ by simpa [splice] using setRow_heap w g _ _ t _ hg)) ⟨rfl, rfl, rfl, by simp [World.setRow], fun k hk hne => setRow_other w g k _ hne⟩
theorem V8.clen (v : V8) : v.cs.length = 8 := rfl
theorem stCs_splice (h : V8) {sm xs : List Int} (n : Int) (tl : List Value) {at_ : Nat} (hf : at_ + xs.length ≤ sm.length) : splice (stCs h sm n ++ tl) (8 + at_) (xs.flatMap encB) = stCs h (splice sm at_ xs) n ++ tl := by
  unfold stCs splice
  have e0 : (h.cs ++ (sm.flatMap encB ++ [Value.int .u64 n]) ++ tl) = h.cs ++ (sm.flatMap encB ++ ([Value.int .u64 n] ++ tl)) := by simp
  have hl := flatB_len xs
  have hs := flatB_len sm
  have ht : (sm.take at_).flatMap encB = (sm.flatMap encB).take at_ := by
    have := congrArg (List.take at_) (congrArg (List.flatMap encB) (List.take_append_drop at_ sm)).symm
    rw [List.flatMap_append, List.take_left' (by rw [flatB_len, List.length_take]; omega)] at this
    exact this.symm
  have hd : (sm.drop (at_ + xs.length)).flatMap encB = (sm.flatMap encB).drop (at_ + xs.length) := by
    have := congrArg (List.drop (at_ + xs.length)) (congrArg (List.flatMap encB) (List.take_append_drop (at_ + xs.length) sm)).symm
    rw [List.flatMap_append, List.drop_left' (by rw [flatB_len, List.length_take]; omega)] at this
    exact this.symm
  rw [e0, hl, List.take_append, List.drop_append, List.take_of_length_le (by rw [V8.clen]; omega), List.drop_of_length_le (by rw [V8.clen]; omega), V8.clen, show 8 + at_ - 8 = at_ by omega, show 8 + at_ + xs.length - 8 = at_ + xs.length by omega,
    List.take_append_of_le_length (by omega), List.drop_append_of_le_length (by omega), List.flatMap_append, List.flatMap_append, ht, hd]
  simp

/-- So many blocks taken in. -/
def hashN (v : V8) (l : List Int) : Nat → V8
  | 0 => v
  | k + 1 => blkV (hashN v l k) ((l.drop (64 * k)).take 64)
theorem hashN_app (v : V8) (l r : List Int) : ∀ k, 64 * k ≤ l.length → hashN v (l ++ r) k = hashN v l k
  | 0, _ => rfl
  | k + 1, h => by
    rw [hashN, hashN, hashN_app v l r k (by omega), List.drop_append_of_le_length (by omega), List.take_append_of_le_length (by simp; omega)]
/-- The state of a hash that has taken l in, since v. -/
structure Rep (v : V8) (l : List Int) (h : V8) (sm : List Int) : Prop where
  hs : h = hashN v l (l.length / 64)
  ln : sm.length = 64
  ok : BytesOk sm
  tk : sm.take (l.length % 64) = l.drop (64 * (l.length / 64))
theorem Rep.nil (v : V8) {sm : List Int} (hl : sm.length = 64) (ho : BytesOk sm) : Rep v [] v sm := ⟨rfl, hl, ho, by simp⟩
theorem splice_ok {l xs : List Int} {k : Nat} (h : BytesOk l) (h' : BytesOk xs) : BytesOk (splice l k xs) := by
  intro x hx
  unfold splice at hx
  rcases List.mem_append.1 hx with hx | hx
  · exact h x (List.mem_of_mem_take hx)
  · rcases List.mem_append.1 hx with hx | hx
    · exact h' x hx
    · exact h x (List.mem_of_mem_drop hx)
/-- Nothing but the rest grows. -/
theorem Rep.short {v h : V8} {l sm b : List Int} (hR : Rep v l h sm) (hb : BytesOk b) (hs : l.length % 64 + b.length < 64) : Rep v (l ++ b) h (splice sm (l.length % 64) b) := by
  have e : (l ++ b).length / 64 = l.length / 64 := by rw [List.length_append]; omega
  have e2 : (l ++ b).length % 64 = l.length % 64 + b.length := by rw [List.length_append]; omega
  have hln := hR.ln
  refine ⟨?_, by rw [length_splice _ _ _ (by omega)]; exact hln, splice_ok hR.ok hb, ?_⟩
  · rw [e, hashN_app _ _ _ _ (by omega)]; exact hR.hs
  · rw [e, e2, List.drop_append_of_le_length (by omega), ← hR.tk]
    unfold splice
    rw [← List.append_assoc, List.take_append_of_le_length (by simp; omega), List.take_of_length_le (by simp; omega)]
/-- The block that the rest makes. -/
theorem Rep.fills {v h : V8} {l sm b : List Int} (hR : Rep v l h sm) {k : Nat} (hk : l.length % 64 + k = 64) (hkb : k ≤ b.length) :
    splice sm (l.length % 64) (b.take k) = ((l ++ b).drop (64 * (l.length / 64))).take 64 ∧ blkV h (splice sm (l.length % 64) (b.take k)) = hashN v (l ++ b) ((l.length + k) / 64) := by
  have hln := hR.ln
  have e1 : splice sm (l.length % 64) (b.take k) = ((l ++ b).drop (64 * (l.length / 64))).take 64 := by
    unfold splice
    have hl1 : (l.drop (64 * (l.length / 64))).length = l.length % 64 := by rw [List.length_drop]; omega
    have hd : sm.drop (l.length % 64 + (b.take k).length) = [] := List.drop_of_length_le (by simp; omega)
    rw [hd, List.append_nil, hR.tk, List.drop_append_of_le_length (by omega)]
    generalize l.drop (64 * (l.length / 64)) = D at *
    rw [List.take_append, List.take_of_length_le (l := D) (by omega), hl1, show 64 - l.length % 64 = k by omega]
  refine ⟨e1, ?_⟩
  rw [e1, show (l.length + k) / 64 = l.length / 64 + 1 by omega, hashN, hashN_app _ _ _ _ (by omega), ← hR.hs]
end Go.Proofs.YtjcklmhkdpbbdaaDoor
