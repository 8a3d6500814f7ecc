/- Chapter 27: one more record, one more guest of a manifest in a box. -/
import Derived.Test.YtjjbpiejplfbpaaPolY
namespace Go.Proofs.Ytjjbpiejplfbpaa
set_option linter.unusedVariables false
open Go.RowKit Go.Sort Go.Shelf

theorem MB.nextLog {w : World} {M : Mf} (hr : M.regs.length = 64) {log : List Rc} {gs : List St} {W W1 W2 : World} (h : MB w M log gs W) {A1 A2 : Option Addr} {c1 c2 : Nat}
    (hmb : Blk W (w.heap.size + 1) 55 (Mf.cs (M.lie A1 log.length c1 A2 gs.length c2)).toArray) (hlg : W.ownsRow (w.heap.size + 2) 69 35 (.slice A1 log.length c1) log.length (log.flatMap Rc.cs)) (hgs : W.ownsRow (w.heap.size + 2) 72 6 (.slice A2 gs.length c2) gs.length (gs.flatMap encSt))
    (hb : Below W.heap.size W W1) {r : Rc} {o : Obj} {A5 : Option Addr} {c5 : Nat} (hown : W2.ownsRow (w.heap.size + 2) 69 35 (.slice A5 (log.length + 1) c5) (log.length + 1) (log.flatMap Rc.cs ++ Rc.cs r))
    (hgr : (W1.alloc o).grownBy W2 (Value.slice A1 log.length c1).ownBlock) :
    MB w M (log ++ [r]) gs (W2.setCell ⟨w.heap.size + 1, 69, none⟩ (.slice A5 (log.length + 1) c5)) := by
  have e1 : (log ++ [r]).length = log.length + 1 := by simp
  have e2 : (log ++ [r]).flatMap Rc.cs = log.flatMap Rc.cs ++ Rc.cs r := by simp
  have hb1 : Below W.heap.size W (W1.alloc o) := bal hb o
  have ne1 : ∀ {g : Nat} {t : TypeId} {cs : Array Value}, Blk W g t cs → t ≠ 69 → some g ≠ (Value.slice A1 log.length c1).ownBlock := fun hg ht => own_blk_ne hlg hg (fun e => ht e.symm)
  have go : ∀ {g : Nat} {t : TypeId} {cs : Array Value}, Blk W g t cs → t ≠ 69 → Blk W2 g t cs := fun hg ht => (hg.kept hb1).grown hgr (ne1 hg ht)
  have hm2 := go hmb (by decide)
  have gne : ∀ k, (Value.slice A1 log.length c1).ownBlock = some k → w.heap.size + 2 ≤ k ∧ k < W.heap.size := fun k hk => own_lt hlg hk
  have hlg2 := own_same (own_kept hgs hb1) fun k hk => hgr.block k (own_lt (own_kept hgs hb1) hk).2 (fun e => rows_apart hgs hlg (by decide) hk e.symm)
  have hset := hm2.set_ 69 (.slice A5 (log.length + 1) c5)
  rw [setLog (M.lie A1 log.length c1 A2 gs.length c2) A5 (log.length + 1) c5 hr] at hset
  have hr1 := own_same hown fun k hk => Below.heap_setCell W2 ⟨w.heap.size + 1, 69, none⟩ (.slice A5 (log.length + 1) c5) k (by have := (own_lt hown hk).1; simp; omega)
  have hr2 := own_same hlg2 fun k hk => Below.heap_setCell W2 ⟨w.heap.size + 1, 69, none⟩ (.slice A5 (log.length + 1) c5) k (by have := (own_lt hlg2 hk).1; simp; omega)
  rw [← e2, ← e1] at hr1
  rw [← e1] at hset
  refine ⟨(go h.gr (by decide)).far (by simp) _, ?_, ?_, ?_⟩
  · exact ⟨A5, c5, A2, c2, by rw [← e1]; exact hset, by rw [← e1]; exact hr1, hr2⟩
  · refine (((h.bl.trans (hb1.mono h.bl.size)).grown hgr ?_ fun j ej => ?_)).setCell (by simp) _
    · exact Nat.le_trans h.bl.size hb1.size
    · have := (gne j ej).1; omega
  · have := h.sz; have := hb1.size; have := hgr.size; simp [World.setCell]; omega
theorem MB.nextGs {w : World} {M : Mf} (hr : M.regs.length = 64) {log : List Rc} {gs : List St} {W W1 W2 : World} (h : MB w M log gs W) {A1 A2 : Option Addr} {c1 c2 : Nat}
    (hmb : Blk W (w.heap.size + 1) 55 (Mf.cs (M.lie A1 log.length c1 A2 gs.length c2)).toArray) (hlg : W.ownsRow (w.heap.size + 2) 69 35 (.slice A1 log.length c1) log.length (log.flatMap Rc.cs)) (hgs : W.ownsRow (w.heap.size + 2) 72 6 (.slice A2 gs.length c2) gs.length (gs.flatMap encSt))
    (hb : Below W.heap.size W W1) {r : St} {o : Obj} {A5 : Option Addr} {c5 : Nat} (hown : W2.ownsRow (w.heap.size + 2) 72 6 (.slice A5 (gs.length + 1) c5) (gs.length + 1) (gs.flatMap encSt ++ encSt r))
    (hgr : (W1.alloc o).grownBy W2 (Value.slice A2 gs.length c2).ownBlock) :
    MB w M log (gs ++ [r]) (W2.setCell ⟨w.heap.size + 1, 70, none⟩ (.slice A5 (gs.length + 1) c5)) := by
  have e1 : (gs ++ [r]).length = gs.length + 1 := by simp
  have e2 : (gs ++ [r]).flatMap encSt = gs.flatMap encSt ++ encSt r := by simp
  have hb1 : Below W.heap.size W (W1.alloc o) := bal hb o
  have ne1 : ∀ {g : Nat} {t : TypeId} {cs : Array Value}, Blk W g t cs → t ≠ 72 → some g ≠ (Value.slice A2 gs.length c2).ownBlock := fun hg ht => own_blk_ne hgs hg (fun e => ht e.symm)
  have go : ∀ {g : Nat} {t : TypeId} {cs : Array Value}, Blk W g t cs → t ≠ 72 → Blk W2 g t cs := fun hg ht => (hg.kept hb1).grown hgr (ne1 hg ht)
  have hm2 := go hmb (by decide)
  have gne : ∀ k, (Value.slice A2 gs.length c2).ownBlock = some k → w.heap.size + 2 ≤ k ∧ k < W.heap.size := fun k hk => own_lt hgs hk
  have hlg2 := own_same (own_kept hlg hb1) fun k hk => hgr.block k (own_lt (own_kept hlg hb1) hk).2 (fun e => rows_apart hlg hgs (by decide) hk e.symm)
  have hset := hm2.set_ 70 (.slice A5 (gs.length + 1) c5)
  rw [setGs (M.lie A1 log.length c1 A2 gs.length c2) A5 (gs.length + 1) c5 hr] at hset
  have hr1 := own_same hown fun k hk => Below.heap_setCell W2 ⟨w.heap.size + 1, 70, none⟩ (.slice A5 (gs.length + 1) c5) k (by have := (own_lt hown hk).1; simp; omega)
  have hr2 := own_same hlg2 fun k hk => Below.heap_setCell W2 ⟨w.heap.size + 1, 70, none⟩ (.slice A5 (gs.length + 1) c5) k (by have := (own_lt hlg2 hk).1; simp; omega)
  rw [← e2, ← e1] at hr1
  rw [← e1] at hset
  refine ⟨(go h.gr (by decide)).far (by simp) _, ?_, ?_, ?_⟩
  · exact ⟨A1, c1, A5, c5, by rw [← e1]; exact hset, hr2, by rw [← e1]; exact hr1⟩
  · refine (((h.bl.trans (hb1.mono h.bl.size)).grown hgr ?_ fun j ej => ?_)).setCell (by simp) _
    · exact Nat.le_trans h.bl.size hb1.size
    · have := (gne j ej).1; omega
  · have := h.sz; have := hb1.size; have := hgr.size; simp [World.setCell]; omega
end Go.Proofs.Ytjjbpiejplfbpaa
