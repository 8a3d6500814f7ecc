/- Chapter 29, the processors of a guest: one is set. -/
import Derived.Test.YtebhfaadpalpbaaPsciB
namespace Go.Proofs.Ytebhfaadpalpbaa
set_option linter.unusedVariables false
open Go.RowKit Go.Sort

theorem flatV_len (l : List Vc) : (l.flatMap encV).length = l.length * 5 := flatMap_length (enc := encV) (s := 5) (fun _ => rfl) l
theorem flatV_set3 : ∀ (l : List Vc) (i : Nat) (h : i < l.length) (on : Bool) (pc x0 : Int),
    (((l.flatMap encV).set (i * 5 + 1) (.bool on)).set (i * 5 + 2) (.int .u64 pc)).set (i * 5 + 3) (.int .u64 x0) = (l.modify i fun v => { v with on := on, pc := pc, x0 := x0 }).flatMap encV
  | [], _, h, _, _, _ => absurd h (by simp)
  | v :: l, 0, _, _, _, _ => by simp [encV]
  | v :: l, i + 1, h, on, pc, x0 => by
    have ih := flatV_set3 l i (by simpa using h) on pc x0
    rw [show (i + 1) * 5 + 1 = (i * 5 + 1) + 1 + 1 + 1 + 1 + 1 by omega, show (i + 1) * 5 + 2 = (i * 5 + 2) + 1 + 1 + 1 + 1 + 1 by omega, show (i + 1) * 5 + 3 = (i * 5 + 3) + 1 + 1 + 1 + 1 + 1 by omega]
    simp only [List.flatMap_cons, List.modify_succ_cons]
    rw [← ih]
    rfl

/-- What processors are in memory, written out. -/
theorem PSto.open {w : World} {T : TypeId} {S : Nat → Prop} {g : Nat} {s : Pst} (h : PSto w T S g s) (hT : 76 ≠ T) (hn : 0 < s.cs.length) :
    ∃ gw cap cur, Blk w g T #[.slice (some ⟨gw, 0, none⟩) s.cs.length cap, .int .i64 s.down] ∧ S g ∧ w.ownsRow 0 76 5 (.slice (some ⟨gw, 0, none⟩) s.cs.length cap) s.cs.length (s.cs.flatMap encV) ∧ S gw ∧ gw ≠ g ∧ Blk w gw 76 cur ∧ s.cs.length ≤ cap := by
  obtain ⟨v, hB, hg, ho, hs⟩ := h
  rcases ho.2 with ⟨rfl, h0⟩ | ⟨gw, cap, cur, rfl, _, hW, hnc, _⟩
  · omega
  · exact ⟨gw, cap, cur, hB, hg, ho, hs gw (by simp [Value.ownBlock]), Blk.ne_ hW hB hT, hW, hnc⟩
theorem psto_set {w : World} {T : TypeId} {S : Nat → Prop} {g gw cap : Nat} {s : Pst} (hB : Blk w g T #[.slice (some ⟨gw, 0, none⟩) s.cs.length cap, .int .i64 s.down]) (hg : S g) (ho : w.ownsRow 0 76 5 (.slice (some ⟨gw, 0, none⟩) s.cs.length cap) s.cs.length (s.cs.flatMap encV)) (hgw : S gw) (hne : gw ≠ g)
    (i : Nat) (hi : i < s.cs.length) (on : Bool) (pc x0 : Int) :
    PSto (((w.setCell ⟨gw, i * 5 + 1, none⟩ (.bool on)).setCell ⟨gw, i * 5 + 2, none⟩ (.int .u64 pc)).setCell ⟨gw, i * 5 + 3, none⟩ (.int .u64 x0)) T S g (setN s i on pc x0) ∧
    Near S w (((w.setCell ⟨gw, i * 5 + 1, none⟩ (.bool on)).setCell ⟨gw, i * 5 + 2, none⟩ (.int .u64 pc)).setCell ⟨gw, i * 5 + 3, none⟩ (.int .u64 x0)) := by
  have h3 := (((ho.stored (i * 5 + 1) (.bool on)).1.stored (i * 5 + 2) (.int .u64 pc)).1.stored (i * 5 + 3) (.int .u64 x0)).1
  rw [flatV_set3 s.cs i hi] at h3
  refine ⟨⟨.slice (some ⟨gw, 0, none⟩) s.cs.length cap, ?_, hg, ?_, ?_⟩, (((Near.refl S w).setCell (p := ⟨gw, i * 5 + 1, none⟩) hgw _).setCell (p := ⟨gw, i * 5 + 2, none⟩) hgw _).setCell (p := ⟨gw, i * 5 + 3, none⟩) hgw _⟩
  · exact ((hB.far (p := ⟨gw, i * 5 + 1, none⟩) (Ne.symm hne) _).far (p := ⟨gw, i * 5 + 2, none⟩) (Ne.symm hne) _).far (p := ⟨gw, i * 5 + 3, none⟩) (Ne.symm hne) _
  · simpa [setN] using h3
  · intro k hk
    simp only [Value.ownBlock, Option.some.injEq] at hk
    exact hk ▸ hgw

set_option maxHeartbeats 2000000 in
theorem set_any (g : Nat) (S : Nat → Prop) (s : Pst) (i : Nat) (on : Bool) (pc x0 : Int) (w : World) (h : PSto w 89 S g s) (hi : i < s.cs.length) (hn : s.cs.length ≤ 1000) :
    Calls Try.prog 34 #[.pointer (some ⟨g, 0, none⟩), .int .i64 i, .bool on, .int .u64 pc, .int .u64 x0] w fun e w' => e = .returned (.tuple #[]) ∧ PSto w' 89 S g (setN s i on pc x0) ∧ Near S w w' := by
  obtain ⟨gw, cap, cur, hB, hg, ho, hgw, hne, hW, hcap⟩ := h.open (by decide) (by omega)
  have HS := Lib.hid (psto_set hB hg ho hgw hne i hi on pc x0)
  have hcl := hB.cell
  have hf := ho.frozenAt
  have c1 := ho.cellAt (i * 5 + 1) (by omega)
  have c2 := ho.cellAt (i * 5 + 2) (by omega)
  have c3 := ho.cellAt (i * 5 + 3) (by omega)
  have e1 := flatMap_get (enc := encV) (s := 5) (fun _ => rfl) s.cs i 1 (by omega) hi
  have e2 := flatMap_get (enc := encV) (s := 5) (fun _ => rfl) s.cs i 2 (by omega) hi
  have e3 := flatMap_get (enc := encV) (s := 5) (fun _ => rfl) s.cs i 3 (by omega) hi
  rw [e1] at c1
  rw [e2] at c2
  rw [e3] at c3
  simp only [encV, List.getElem?_cons_zero, List.getElem?_cons_succ] at c1 c2 c3
  clear e1 e2 e3 ho hB hW
  generalize s.cs[i] = v at *
  generalize hL : s.cs.length = n at *
  clear hL
  go_enter Try.func34, Try.ntmps34
  go_wp2
  go_end0
  exact ⟨rfl, HS.out⟩
end Go.Proofs.Ytebhfaadpalpbaa
