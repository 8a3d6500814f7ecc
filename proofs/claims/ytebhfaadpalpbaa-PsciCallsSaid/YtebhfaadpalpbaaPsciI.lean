/- Chapter 29, the document's processors: one is switched off. -/
import Derived.Test.YtebhfaadpalpbaaPsciH
namespace Go.Proofs.Ytebhfaadpalpbaa
set_option linter.unusedVariables false
open Go.RowKit Go.Sort

theorem flatV_set5 : ∀ (l : List Vc) (i : Nat) (h : i < l.length),
    (((((l.flatMap encV).set (i * 5) (.int .i64 l[i].id)).set (i * 5 + 1) (.bool false)).set (i * 5 + 2) (.int .u64 0)).set (i * 5 + 3) (.int .u64 0)).set (i * 5 + 4) (.int .u64 l[i].sp) = (l.modify i fun v => { v with on := false, pc := 0, x0 := 0 }).flatMap encV
  | [], _, h => absurd h (by simp)
  | v :: l, 0, _ => by simp [encV]
  | v :: l, i + 1, h => by
    have ih := flatV_set5 l i (by simpa using h)
    rw [show (i + 1) * 5 = i * 5 + 1 + 1 + 1 + 1 + 1 by omega, show i * 5 + 1 + 1 + 1 + 1 + 1 + 1 = (i * 5 + 1) + 1 + 1 + 1 + 1 + 1 by omega, show i * 5 + 1 + 1 + 1 + 1 + 1 + 2 = (i * 5 + 2) + 1 + 1 + 1 + 1 + 1 by omega, show i * 5 + 1 + 1 + 1 + 1 + 1 + 3 = (i * 5 + 3) + 1 + 1 + 1 + 1 + 1 by omega, show i * 5 + 1 + 1 + 1 + 1 + 1 + 4 = (i * 5 + 4) + 1 + 1 + 1 + 1 + 1 by omega]
    simp only [List.flatMap_cons, List.modify_succ_cons, List.getElem_cons_succ]
    rw [← ih]
    rfl
theorem psto_off {w : World} {T : TypeId} {S : Nat → Prop} {g gw cap : Nat} {s : Pst} (hB : Blk w g T #[.slice (some ⟨gw, 0, none⟩) s.cs.length cap, .int .i64 s.down]) (hg : S g) (ho : w.ownsRow 0 76 5 (.slice (some ⟨gw, 0, none⟩) s.cs.length cap) s.cs.length (s.cs.flatMap encV)) (hgw : S gw) (hne : gw ≠ g)
    (i : Nat) (hi : i < s.cs.length) :
    PSto (((((w.setCell ⟨gw, i * 5, none⟩ (.int .i64 s.cs[i].id)).setCell ⟨gw, i * 5 + 1, none⟩ (.bool false)).setCell ⟨gw, i * 5 + 2, none⟩ (.int .u64 0)).setCell ⟨gw, i * 5 + 3, none⟩ (.int .u64 0)).setCell ⟨gw, i * 5 + 4, none⟩ (.int .u64 s.cs[i].sp)) T S g (setN s i false 0 0) ∧
    Near S w (((((w.setCell ⟨gw, i * 5, none⟩ (.int .i64 s.cs[i].id)).setCell ⟨gw, i * 5 + 1, none⟩ (.bool false)).setCell ⟨gw, i * 5 + 2, none⟩ (.int .u64 0)).setCell ⟨gw, i * 5 + 3, none⟩ (.int .u64 0)).setCell ⟨gw, i * 5 + 4, none⟩ (.int .u64 s.cs[i].sp)) := by
  have h3 := (((((ho.stored (i * 5) (.int .i64 s.cs[i].id)).1.stored (i * 5 + 1) (.bool false)).1.stored (i * 5 + 2) (.int .u64 0)).1.stored (i * 5 + 3) (.int .u64 0)).1.stored (i * 5 + 4) (.int .u64 s.cs[i].sp)).1
  rw [flatV_set5 s.cs i hi] at h3
  refine ⟨⟨.slice (some ⟨gw, 0, none⟩) s.cs.length cap, ?_, hg, ?_, ?_⟩, (((((Near.refl S w).setCell (p := ⟨gw, i * 5, none⟩) hgw _).setCell (p := ⟨gw, i * 5 + 1, none⟩) hgw _).setCell (p := ⟨gw, i * 5 + 2, none⟩) hgw _).setCell (p := ⟨gw, i * 5 + 3, none⟩) hgw _).setCell (p := ⟨gw, i * 5 + 4, none⟩) hgw _⟩
  · exact ((((hB.far (p := ⟨gw, i * 5, none⟩) (Ne.symm hne) _).far (p := ⟨gw, i * 5 + 1, none⟩) (Ne.symm hne) _).far (p := ⟨gw, i * 5 + 2, none⟩) (Ne.symm hne) _).far (p := ⟨gw, i * 5 + 3, none⟩) (Ne.symm hne) _).far (p := ⟨gw, i * 5 + 4, none⟩) (Ne.symm hne) _
  · simpa [setN] using h3
  · intro k hk
    simp only [Value.ownBlock, Option.some.injEq] at hk
    exact hk ▸ hgw

set_option maxHeartbeats 2000000 in
theorem off_any (g : Nat) (S : Nat → Prop) (s : Pst) (i : Nat) (w : World) (h : PSto w 71 S g s) (hi : i < s.cs.length) (hn : s.cs.length ≤ 1000) :
    Calls Try.prog 42 #[.pointer (some ⟨g, 0, none⟩), .int .i64 i] w fun e w' => e = .returned (.tuple #[]) ∧ PSto w' 71 S g (setN s i false 0 0) ∧ Near S w w' := by
  obtain ⟨gw, cap, cur, hB, hg, ho, hgw, hne, hW, hcap⟩ := h.open (by decide) (by omega)
  have HS := Lib.hid (fun (w2 : World) (hb : Below w.heap.size w w2) => psto_off (hB.kept hb) hg (own_kept ho hb) hgw hne i hi)
  have c0 := ho.cellAt (i * 5) (by omega)
  have c4 := ho.cellAt (i * 5 + 4) (by omega)
  have e0 := flatMap_get (enc := encV) (s := 5) (fun _ => rfl) s.cs i 0 (by omega) hi
  have e4 := flatMap_get (enc := encV) (s := 5) (fun _ => rfl) s.cs i 4 (by omega) hi
  rw [Nat.add_zero] at e0
  rw [e0] at c0
  rw [e4] at c4
  simp only [encV, List.getElem?_cons_zero, List.getElem?_cons_succ] at c0 c4
  have hrow : ∀ d os, (grow (redrawn w d) os).cell? ⟨gw, i * 5, none⟩ = some (.int .i64 s.cs[i].id) ∧ (grow (redrawn w d) os).cell? ⟨gw, i * 5 + 4, none⟩ = some (.int .u64 s.cs[i].sp) := fun d os => by
    have h := own_kept ho (below_regrown w d os)
    refine ⟨?_, ?_⟩
    · rw [h.cellAt (i * 5) (by omega), e0]
      rfl
    · rw [h.cellAt (i * 5 + 4) (by omega), e4]
      rfl
  have h0 := fun d os => (hrow d os).1
  have h4 := fun d os => (hrow d os).2
  have HO := Lib.hid (fun (w2 : World) (hb : Below w.heap.size w w2) => (⟨(own_kept ho hb).frozenAt, (own_kept ho hb).cellAt (i * 5) (by omega), (own_kept ho hb).cellAt (i * 5 + 1) (by omega), (own_kept ho hb).cellAt (i * 5 + 2) (by omega), (own_kept ho hb).cellAt (i * 5 + 3) (by omega), (own_kept ho hb).cellAt (i * 5 + 4) (by omega)⟩ : _ ∧ _ ∧ _ ∧ _ ∧ _ ∧ _))
  have e1 := flatMap_get (enc := encV) (s := 5) (fun _ => rfl) s.cs i 1 (by omega) hi
  have e2 := flatMap_get (enc := encV) (s := 5) (fun _ => rfl) s.cs i 2 (by omega) hi
  have e3 := flatMap_get (enc := encV) (s := 5) (fun _ => rfl) s.cs i 3 (by omega) hi
  rw [e0, e1, e2, e3, e4] at HO
  simp only [encV, List.getElem?_cons_zero, List.getElem?_cons_succ] at HO
  have eB := blk_regrown hB
  clear e0 e1 e2 e3 e4 hrow hB hW c0 c4 ho
  generalize s.cs[i] = v at *
  generalize hL : s.cs.length = n at *
  clear hL
  go_enter Try.func42, Try.ntmps42
  go_wp2
  refine wp_region_tail_below 22 (by kernel_rfl) (by kernel_rfl) ?_
  simp only [List.take_succ_cons, List.take_zero, List.drop_succ_cons, List.drop_zero]
  repeat (quiet_step (fail))
  refine wpQuiet_nil ?_
  rintro w2 ⟨p, rfl⟩
  have hb2 := below_regrown w p.d p.os
  generalize grow (redrawn w p.d) p.os = w2 at *
  obtain ⟨hf2, c0, c1, c2, c3, c4⟩ := HO.out w2 hb2
  go_wp2
  go_end0
  exact ⟨rfl, (HS.out w2 hb2).1, (Near.of_below S hb2).trans (HS.out w2 hb2).2⟩
end Go.Proofs.Ytebhfaadpalpbaa
