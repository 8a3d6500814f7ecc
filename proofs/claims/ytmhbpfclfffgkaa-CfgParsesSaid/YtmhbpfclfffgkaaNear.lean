/- Words for memory: a world that is as it was but for a set of blocks, and new ones behind them. -/
import Derived.Test.YtmhbpfclfffgkaaApp
namespace Go.Proofs.Ytmhbpfclfffgkaa
set_option linter.unusedVariables false
open Go.RowKit

/-- Of the blocks that were there, those of S alone may have turned. -/
structure Near (S : Nat → Prop) (w w' : World) : Prop where
  os : w'.os = w.os
  tape : w'.tape = w.tape
  output : w'.output = w.output
  size : w.heap.size ≤ w'.heap.size
  block : ∀ k, k < w.heap.size → ¬ S k → w'.heap[k]? = w.heap[k]?

section
variable {S S' : Nat → Prop} {a b c w w' : World} {B : Nat}
theorem Near.refl (S : Nat → Prop) (w : World) : Near S w w := ⟨rfl, rfl, rfl, Nat.le_refl _, fun _ _ _ => rfl⟩
theorem Near.trans (h : Near S a b) (k : Near S b c) : Near S a c :=
  ⟨k.os.trans h.os, k.tape.trans h.tape, k.output.trans h.output, Nat.le_trans h.size k.size, fun i hi hs => (k.block i (Nat.lt_of_lt_of_le hi h.size) hs).trans (h.block i hi hs)⟩
/-- The second step may touch what the first one made. -/
theorem Near.step {S2 : Nat → Prop} (h : Near S a b) (k : Near S2 b c) (hs : ∀ i, S2 i → S i ∨ a.heap.size ≤ i) : Near S a c :=
  ⟨k.os.trans h.os, k.tape.trans h.tape, k.output.trans h.output, Nat.le_trans h.size k.size, fun i hi hn => (k.block i (Nat.lt_of_lt_of_le hi h.size) (fun h2 => (hs i h2).elim hn (fun h3 => absurd hi (by omega)))).trans (h.block i hi hn)⟩
theorem Near.mono (h : Near S a b) (hs : ∀ i, S i → S' i) : Near S' a b := ⟨h.os, h.tape, h.output, h.size, fun i hi hn => h.block i hi (fun h => hn (hs i h))⟩
theorem Near.of_below (S : Nat → Prop) (h : Below w.heap.size w w') : Near S w w' := ⟨h.os, h.tape, h.output, h.size, fun i hi _ => h.block i hi⟩
theorem Near.below (h : Near S w w') (hs : ∀ i, S i → B ≤ i) (hB : B ≤ w.heap.size) : Below B w w' := ⟨h.os, h.tape, h.output, h.size, fun i hi => h.block i (by omega) (fun h => absurd (hs i h) (by omega))⟩
theorem Near.setCell (h : Near S a w) {p : Addr} (hp : S p.block) (u : Value) : Near S a (w.setCell p u) :=
  ⟨h.os, h.tape, h.output, by simpa using h.size, fun i hi hn => (Below.heap_setCell w p u i (fun e => hn (e ▸ hp))).trans (h.block i hi hn)⟩
theorem Near.alloc (h : Near S a w) (o : Obj) : Near S a (w.alloc o) :=
  ⟨h.os, h.tape, h.output, Nat.le_trans h.size (by simp), fun i hi hn => (Below.heap_alloc w o i (Nat.lt_of_lt_of_le hi h.size)).trans (h.block i hi hn)⟩
theorem Near.drew (h : Near S a w) : Near S a w.drew := ⟨h.os, h.tape, h.output, h.size, h.block⟩
theorem Near.grown {row : Option Nat} (h : Near S a w) (hg : w.grownBy w' row) (hr : ∀ k, row = some k → S k) : Near S a w' :=
  ⟨hg.os.trans h.os, hg.tape.trans h.tape, hg.output.trans h.output, Nat.le_trans h.size hg.size, fun i hi hn => (hg.block i (Nat.lt_of_lt_of_le hi h.size) (fun e => hn (hr i e.symm))).trans (h.block i hi hn)⟩
theorem Near.far {g : Nat} (h : Near S w w') (hg : g < w.heap.size) (hn : ¬ S g) : w'.heap[g]? = w.heap[g]? := h.block g hg hn
end

theorem Blk.same {w w' : World} {g : Nat} {t : TypeId} {cs : Array Value} (h : Blk w g t cs) (e : w'.heap[g]? = w.heap[g]?) : Blk w' g t cs := e.trans h
theorem own_same {w w' : World} {base : Nat} {e : TypeId} {size n : Nat} {v : Value} {xs : List Value} (h : w.ownsRow base e size v n xs) (hs : ∀ k, v.ownBlock = some k → w'.heap[k]? = w.heap[k]?) : w'.ownsRow base e size v n xs := by
  obtain ⟨h1, h2⟩ := h
  refine ⟨h1, ?_⟩
  rcases h2 with h2 | ⟨g, cap, cur, rfl, hg, hh, r⟩
  · exact .inl h2
  · exact .inr ⟨g, cap, cur, rfl, hg, (hs g (by simp [Value.ownBlock])).trans hh, r⟩
theorem own_lt {w : World} {base : Nat} {e : TypeId} {size n : Nat} {v : Value} {xs : List Value} (h : w.ownsRow base e size v n xs) {k : Nat} (hk : v.ownBlock = some k) : base ≤ k ∧ k < w.heap.size := World.ownsRow.lt h k hk
/-- A row of the call's own, in a block of S. -/
def OwnS (w : World) (S : Nat → Prop) (e : TypeId) (size : Nat) (v : Value) (n : Nat) (xs : List Value) : Prop := w.ownsRow 0 e size v n xs ∧ ∀ k, v.ownBlock = some k → S k
section
variable {w w' : World} {S S' : Nat → Prop} {e : TypeId} {size n : Nat} {v : Value} {xs : List Value}
theorem OwnS.kept (h : OwnS w S e size v n xs) (hb : Below w.heap.size w w') : OwnS w' S e size v n xs := ⟨own_kept h.1 hb, h.2⟩
theorem OwnS.alloc (h : OwnS w S e size v n xs) (o : Obj) : OwnS (w.alloc o) S e size v n xs := ⟨h.1.alloc o, h.2⟩
theorem OwnS.near (h : OwnS w S e size v n xs) (hb : Near S' w w') (hn : ∀ k, S k → ¬ S' k) : OwnS w' S e size v n xs := ⟨own_same h.1 fun k hk => hb.block k (own_lt h.1 hk).2 (hn k (h.2 k hk)), h.2⟩
theorem OwnS.mono (h : OwnS w S e size v n xs) (hs : ∀ k, S k → S' k) : OwnS w S' e size v n xs := ⟨h.1, fun k hk => hs k (h.2 k hk)⟩
theorem OwnS.bound (h : OwnS w S e size v n xs) : OwnS w (fun k => S k ∧ k < w.heap.size) e size v n xs := ⟨h.1, fun k hk => ⟨h.2 k hk, (own_lt h.1 hk).2⟩⟩
theorem OwnS.of {b : Nat} (h : w.ownsRow b e size v n xs) (hs : ∀ k, b ≤ k → S k) : OwnS w S e size v n xs := ⟨⟨h.1, h.2.imp_right fun ⟨g, cap, cur, hv, hg, r⟩ => ⟨g, cap, cur, hv, Nat.zero_le _, r⟩⟩, fun k hk => hs k (own_lt h hk).1⟩
theorem OwnS.set (h : OwnS w S e size v n xs) (p : Addr) (hp : some p.block ≠ v.ownBlock) (u : Value) : OwnS (w.setCell p u) S e size v n xs :=
  ⟨own_same h.1 fun k hk => Below.heap_setCell _ _ _ _ (fun e => hp (by rw [hk, e])), h.2⟩
end
end Go.Proofs.Ytmhbpfclfffgkaa
