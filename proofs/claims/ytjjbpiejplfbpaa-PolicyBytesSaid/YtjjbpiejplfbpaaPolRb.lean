/- Chapter 27: what holds while the guests of a manifest are read. -/
import Derived.Test.YtjjbpiejplfbpaaPolR
import Derived.Test.YtjjbpiejplfbpaaChunk
import Derived.Test.YtjjbpiejplfbpaaUntil
namespace Go.Proofs.Ytjjbpiejplfbpaa
set_option linter.unusedVariables false
open Go.RowKit Go.Sort Go.Shelf

theorem keepBlk {X Y : World} {row : Option Nat} {g : Nat} {t : TypeId} {cs : Array Value} {B : Nat} (h : Blk X g t cs) (hg : X.grownBy Y row) (hr : ∀ r, row = some r → B ≤ r ∧ ∃ o, X.heap[r]? = some o ∧ o.isCells = false) : Blk Y g t cs := by
  refine h.grown hg fun e => ?_
  obtain ⟨_, o, ho, hc⟩ := hr g e.symm
  rw [show X.heap[g]? = _ from h] at ho; cases ho; cases hc
theorem keepRow {X Y : World} {row : Option Nat} {n₀ : Nat} {e : TypeId} {size : Nat} {v : Value} {k : Nat} {xs : List Value} {B : Nat} (h : X.ownsRow n₀ e size v k xs) (hg : X.grownBy Y row) (hr : ∀ r, row = some r → B ≤ r ∧ ∃ o, X.heap[r]? = some o ∧ o.isCells = false) : Y.ownsRow n₀ e size v k xs := by
  refine h.kept hg ?_
  rcases h.2 with ⟨rfl, _⟩ | ⟨g, cap, cur, rfl, _, hgb, _⟩
  · exact .inl rfl
  · refine .inr fun e' => ?_
    obtain ⟨_, o, ho, hc⟩ := hr g (by simpa [Value.ownBlock] using e'.symm)
    rw [hgb] at ho; cases ho; cases hc
theorem keepBelow {w X Y : World} {row : Option Nat} {B : Nat} (h : Below w.heap.size w X) (hB : w.heap.size ≤ B) (hg : X.grownBy Y row) (hr : ∀ r, row = some r → B ≤ r ∧ ∃ o, X.heap[r]? = some o ∧ o.isCells = false) : Below w.heap.size w Y :=
  ⟨hg.os.trans h.os, hg.tape.trans h.tape, hg.output.trans h.output, Nat.le_trans h.size hg.size, fun k hk => (hg.block k (Nat.lt_of_lt_of_le hk h.size) (fun e => by have := (hr k e.symm).1; omega)).trans (h.block k hk)⟩

/-- While the guests are read. -/
structure OfI (w : World) (B8 : Nat) (M : Mf) (stx : Nat → St) (log : List Value) (Bs : Nat) (sv : Value) (pre : List Nat) (W : World) : Prop where
  mb : ∃ A2 c2, Blk W (w.heap.size + 1) 55 (Mf.cs { M with A2 := A2, n2 := pre.length, c2 := c2 }).toArray ∧ W.ownsRow (w.heap.size + 2) 72 6 (.slice A2 pre.length c2) pre.length ((pre.map stx).flatMap encSt)
  gr : Blk W w.heap.size 55 m0cs
  lg : W.ownsRow B8 69 35 (.slice M.A M.n M.c) M.n log
  bl : Below w.heap.size w W
  sz : w.heap.size + 2 ≤ W.heap.size
  bs : Blk W Bs 39 #[sv]
  bi : Blk W (Bs + 1) 3 #[.int .i64 36]
theorem OfI.own {w : World} {B8 : Nat} {M : Mf} {stx : Nat → St} {log : List Value} {Bs : Nat} {sv : Value} {B : Nat} (hB : w.heap.size ≤ B) : OwnFrom B (OfI w B8 M stx log Bs sv) := by
  intro pre X Y row h hg hr
  obtain ⟨A2, c2, h1, h2⟩ := h.mb
  exact ⟨⟨A2, c2, keepBlk h1 hg hr, keepRow h2 hg hr⟩, keepBlk h.gr hg hr, keepRow h.lg hg hr, keepBelow h.bl hB hg hr, Nat.le_trans h.sz hg.size, keepBlk h.bs hg hr, keepBlk h.bi hg hr⟩
theorem nAt_sub {s : Nat} {l : List Int} {a m j : Nat} (h : j + s ≤ m) : nAt s (subB l a m) j = nAt s l (a + j) := by
  unfold nAt subB
  rw [List.drop_take, List.take_take, List.drop_drop, Nat.min_eq_left (by omega)]
theorem stAt_sub (l : List Int) (a : Nat) : stAt (subB l a 36) 0 = stAt l a := by
  unfold stAt
  rw [nAt_sub (by omega), nAt_sub (by omega), nAt_sub (by omega), nAt_sub (by omega), nAt_sub (by omega), nAt_sub (by omega)]
  rfl
theorem info_st : (Try.prog.info? 72).map (fun i => (i.zero, i.size, i.bytes)) = some (some (.agg #[.int .i64 0, .int .u32 0, .int .u64 0, .int .u64 0, .int .u64 0, .int .u32 0]), 6, 48) := by kernel_rfl
theorem st_elem : ElemInfo Try.prog 53 72 6 48 := by
  obtain ⟨i, hi, hz, hs, hb⟩ := info_parts info_st
  exact ⟨Try.underlying53, ⟨i, _, hi, hz, hs, hb, rfl⟩, by decide⟩
/-- One more guest, appended and stored. -/
theorem OfI.next {w : World} {B8 : Nat} {M : Mf} (hr : M.regs.length = 64) {stx : Nat → St} {log : List Value} {Bs : Nat} {sv : Value} {pre : List Nat} {W W1 W2 : World} (h : OfI w B8 M stx log Bs sv pre W) {A2 : Option Addr} {c2 : Nat}
    (hmb : Blk W (w.heap.size + 1) 55 (Mf.cs { M with A2 := A2, n2 := pre.length, c2 := c2 }).toArray) (hrow : W.ownsRow (w.heap.size + 2) 72 6 (.slice A2 pre.length c2) pre.length ((pre.map stx).flatMap encSt))
    (hb : Below W.heap.size W W1) {x : Nat} {o : Obj} {A3 : Option Addr} {c3 : Nat} (hown : W2.ownsRow (w.heap.size + 2) 72 6 (.slice A3 (pre.length + 1) c3) (pre.length + 1) ((pre.map stx).flatMap encSt ++ encSt (stx x)))
    (hgr : (W1.alloc o).grownBy W2 (Value.slice A2 pre.length c2).ownBlock) (hB8 : w.heap.size + 2 ≤ B8) :
    KeepsOthers W (W2.setCell ⟨w.heap.size + 1, 70, none⟩ (.slice A3 (pre.length + 1) c3)) ∧ Kp2 Bs (Bs + 1) W (W2.setCell ⟨w.heap.size + 1, 70, none⟩ (.slice A3 (pre.length + 1) c3)) ∧ OfI w B8 M stx log Bs sv (pre ++ [x]) (W2.setCell ⟨w.heap.size + 1, 70, none⟩ (.slice A3 (pre.length + 1) c3)) := by
  have e1 : (pre ++ [x]).length = pre.length + 1 := by simp
  have e2 : ((pre ++ [x]).map stx).flatMap encSt = (pre.map stx).flatMap encSt ++ encSt (stx x) := by simp
  have hb1 : Below W.heap.size W (W1.alloc o) := bal hb o
  have ne1 : ∀ {g : Nat} {t : TypeId} {cs : Array Value}, Blk W g t cs → t ≠ 72 → some g ≠ (Value.slice A2 pre.length c2).ownBlock := fun hg ht => own_blk_ne hrow hg (fun e => ht e.symm)
  have go : ∀ {g : Nat} {t : TypeId} {cs : Array Value}, Blk W g t cs → t ≠ 72 → Blk W2 g t cs := fun hg ht => (hg.kept hb1).grown hgr (ne1 hg ht)
  have hm2 := go hmb (by decide)
  have hsz : w.heap.size + 2 ≤ W2.heap.size := Nat.le_trans h.sz (Nat.le_trans hb1.size hgr.size)
  have gne : ∀ k, (Value.slice A2 pre.length c2).ownBlock = some k → w.heap.size + 2 ≤ k ∧ k < W.heap.size := fun k hk => own_lt hrow hk
  have hlg := h.lg
  have hlg2 : W2.ownsRow B8 69 35 (.slice M.A M.n M.c) M.n log := own_same (own_kept hlg hb1) fun k hk => hgr.block k (own_lt (own_kept hlg hb1) hk).2 (fun e => rows_apart hlg hrow (by decide) hk e.symm)
  refine ⟨?_, ⟨?_, ?_⟩, ⟨⟨A3, c3, ?_, ?_⟩, ?_, ?_, ?_, ?_, ?_, ?_⟩⟩
  · refine (KeepsOthers.trans ⟨hb1.size, fun k ob hk _ => (hb1.block k (Array.getElem?_eq_some_iff.1 hk).1).trans hk⟩ (KeepsOthers.of_grownBy hgr fun j ob ej hj => ?_)).trans (KeepsOthers.setCell _ _ _)
    rcases (own_kept hrow hb1).2 with ⟨hv, _⟩ | ⟨g, cap, cur, hv, _, hgb, _⟩
    · rw [hv] at ej; simp [Value.ownBlock] at ej
    · rw [hv] at ej
      obtain rfl : g = j := by simpa [Value.ownBlock] using ej
      rw [hgb] at hj; cases hj; rfl
  · have := go h.bs (by decide)
    rw [show W.heap[Bs]? = _ from h.bs]
    exact this.far (fun e => by
      have e' : Bs = w.heap.size + 1 := e
      have h1 : W2.heap[Bs]? = _ := this
      rw [e', show W2.heap[w.heap.size + 1]? = _ from hm2] at h1
      injection h1 with h1; injection h1 with _ ht; exact absurd ht (by decide)) _
  · have := go h.bi (by decide)
    rw [show W.heap[Bs + 1]? = _ from h.bi]
    exact this.far (fun e => by
      have e' : Bs + 1 = w.heap.size + 1 := e
      have h1 : W2.heap[Bs + 1]? = _ := this
      rw [e', show W2.heap[w.heap.size + 1]? = _ from hm2] at h1
      injection h1 with h1; injection h1 with _ ht; exact absurd ht (by decide)) _
  · rw [e1]
    have := hm2.set_ 70 (.slice A3 (pre.length + 1) c3)
    rw [setGs { M with A2 := A2, n2 := pre.length, c2 := c2 } A3 (pre.length + 1) c3 hr] at this
    exact this
  · rw [e1, e2]
    exact own_same hown fun k hk => Below.heap_setCell W2 ⟨w.heap.size + 1, 70, none⟩ _ k (by have := (own_lt hown hk).1; simp; omega)
  · exact (go h.gr (by decide)).far (by simp) _
  · exact own_same hlg2 fun k hk => Below.heap_setCell W2 ⟨w.heap.size + 1, 70, none⟩ _ k (by have := (own_lt hlg2 hk).1; simp; omega)
  · refine (((h.bl.trans (hb1.mono h.bl.size)).grown hgr ?_ fun j ej => ?_)).setCell (by simp) _
    · exact Nat.le_trans h.bl.size hb1.size
    · have := (gne j ej).1; omega
  · simpa [World.setCell] using hsz
  · exact (go h.bs (by decide)).far (fun e => by
      have h1 : W2.heap[Bs]? = _ := go h.bs (by decide)
      have e' : Bs = w.heap.size + 1 := e
      rw [e', show W2.heap[w.heap.size + 1]? = _ from hm2] at h1
      injection h1 with h1; injection h1 with _ ht; exact absurd ht (by decide)) _
  · exact (go h.bi (by decide)).far (fun e => by
      have h1 : W2.heap[Bs + 1]? = _ := go h.bi (by decide)
      have e' : Bs + 1 = w.heap.size + 1 := e
      rw [e', show W2.heap[w.heap.size + 1]? = _ from hm2] at h1
      injection h1 with h1; injection h1 with _ ht; exact absurd ht (by decide)) _
theorem build_st (w : World) (a b c d e f : Int) : (Instr.build 72 #[(0, .int .i64 a), (1, .int .u32 b), (2, .int .u64 c), (3, .int .u64 d), (4, .int .u64 e), (5, .int .u32 f)]).run Try.prog w = .ok (.agg (encSt ⟨a, b, c, d, e, f⟩).toArray) w := run_build w _ _ _ (by kernel_rfl)
theorem slice_st (w : World) (s : St) : (Instr.buildSlice 53 1 #[(0, .agg (encSt s).toArray)]).run Try.prog w = .ok (.slice (some ⟨w.heap.size, 0, none⟩) 1 1) (w.alloc (.cells (encSt s).toArray 72)) := by
  obtain ⟨i, hi, hz, hs, hb⟩ := info_parts info_st
  refine run_buildSlice w _ _ 1 _ (encSt s).toArray i _ Try.underlying53 hi hz (by rw [hs]; decide) (by rw [hs]; decide) ?_
  rw [hs]
  kernel_rfl
theorem one_st (s : St) : ∀ u ∈ encSt s, u.oneCell' = true := by
  intro u hu; simp [encSt] at hu; rcases hu with rfl | rfl | rfl | rfl | rfl | rfl <;> rfl
theorem stAt_read (l : List Int) (a : Nat) : stAt l a = ⟨nAt 4 (subB l a 36) 0, nAt 4 (subB l a 36) 4, nAt 8 (subB l a 36) 8, nAt 8 (subB l a 36) 16, nAt 8 (subB l a 36) 24, nAt 4 (subB l a 36) 32⟩ := (stAt_sub l a).symm
theorem blk_putObj {W : World} {g D : Nat} {t : TypeId} {cs : Array Value} (h : Blk W g t cs) (hD : W.heap[D]? = some (.deferred (some []))) (o : Obj) : Blk (W.putObj D o) g t cs := h.grown (grownBy_putObj' W D o) (fun e => by
  injection e with e
  subst e
  rw [show W.heap[g]? = _ from h] at hD
  cases hD)
theorem mputs {m : Mf} {w : World} {A : Array Value} (h : mputOk m = true) (hc : Calls Try.prog 15 A w (MputRes m w)) : Calls Try.prog 15 A w fun e w' => ∃ A' c', e = .returned (.tuple #[.slice A' (mBytes m).length c', .int .i64 0]) ∧ w'.ownsRow w.heap.size 5 1 (.slice A' (mBytes m).length c') (mBytes m).length ((mBytes m).flatMap encB) ∧ Below w.heap.size w w' :=
  hc.mono fun e w' ⟨hh, hb⟩ => by
    rcases hh with ⟨_, A', c', he, ho⟩ | ⟨h', _⟩
    · exact ⟨A', c', he, ho, hb⟩
    · rw [h] at h'; cases h'
theorem mput_fails {m : Mf} {w : World} {A : Array Value} (h : mputOk m = false) (hc : Calls Try.prog 15 A w (MputRes m w)) : Calls Try.prog 15 A w fun e w' => e = .returned (.tuple #[.slice none 0 0, .int .i64 271]) ∧ Below w.heap.size w w' :=
  hc.mono fun e w' ⟨hh, hb⟩ => by
    rcases hh with ⟨h', _⟩ | ⟨_, he⟩
    · rw [h] at h'; cases h'
    · exact ⟨he, hb⟩
theorem mputOk_lie (m : Mf) (A : Option Addr) (n c : Nat) (A2 : Option Addr) (n2 c2 : Nat) : mputOk (m.lie A n c A2 n2 c2) = mputOk m ∧ mBytes (m.lie A n c A2 n2 c2) = mBytes m := ⟨rfl, rfl⟩
theorem range_len_map {α : Type} (g : Nat) (f : Nat → α) : (List.range g).map (fun x => f (min x (g - 1))) = (List.range g).map f := by
  apply List.map_congr_left
  intro x hx
  have := List.mem_range.1 hx
  rw [Nat.min_eq_left (by omega)]
end Go.Proofs.Ytjjbpiejplfbpaa
