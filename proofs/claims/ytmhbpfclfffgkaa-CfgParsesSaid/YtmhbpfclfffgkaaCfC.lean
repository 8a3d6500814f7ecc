/- Chapter 14: which guests are alike, as the program says; walked. -/
import Derived.Test.YtmhbpfclfffgkaaCfB
namespace Go.Proofs.Ytmhbpfclfffgkaa
set_option linter.unusedVariables false
set_option linter.unusedSimpArgs false
open Go.RowKit Go.Sort

theorem wpList_load_want {P : Program} {ops : Array Oper} {rest : List Oper} {op : Oper} {a : Act} {w : World} {Q : Exit → Act → World → Prop} (hgd : Region.wanted op (yielded ops a.tmps) = true) (ty : TypeId) (x : Operand) (ho : op.op = .load ty x)
    (b o : Nat) (hx : a.eval x = .pointer (some ⟨b, o, none⟩)) (cs : List Value) (d : TypeDesc) (hc : w.rangeAt b o cs)
    (hu : P.underlying ty = some d) (hd : d.isRow = true) (hi : (P.info? ty).map (·.size) = some cs.length)
    (h : wpList P ops Q rest (a.put op.dst (.agg cs.toArray)) w) : wpList P ops Q (op :: rest) a w :=
  wpList_step fun K hK => by rw [if_pos hgd]; exact wp_load_mid ty x ho b o hx cs d hc hu hd hi (hK _ _ h)

theorem flat_key : flatOf Try.prog 5 64 = some (List.replicate 68 (.int .u8)) := by kernel_rfl
theorem key_eqLeaves {x y : List Int} (hx : x.length = 68) (hy : y.length = 68) : FlatK (List.replicate 68 (.int .u8)) (x.flatMap encB) ∧ FlatK (List.replicate 68 (.int .u8)) (y.flatMap encB) ∧ eqLeaves (x.flatMap encB) (y.flatMap encB) = decide (x = y) := by
  have kx := flatK_bytes x
  have ky := flatK_bytes y
  rw [hx] at kx
  rw [hy] at ky
  refine ⟨kx, ky, ?_⟩
  rw [Bool.eq_iff_iff, eqLeaves_iff kx ky, decide_eq_true_eq]
  exact ⟨flatB_inj, fun h => by rw [h]⟩
theorem key_eql (w : World) {x y : List Int} (hx : x.length = 68) (hy : y.length = 68) : (binOp .eql 64 (.agg (x.flatMap encB).toArray) (.agg (y.flatMap encB).toArray)).run Try.prog w = .ok (.bool (decide (x = y))) w := by
  obtain ⟨kx, ky, e⟩ := key_eqLeaves hx hy
  have h := eql_flat w flat_key (by kernel_rfl) (by decide) (by kernel_rfl) kx ky
  rw [e] at h
  exact h
theorem key_neq (w : World) {x y : List Int} (hx : x.length = 68) (hy : y.length = 68) : (binOp .neq 64 (.agg (x.flatMap encB).toArray) (.agg (y.flatMap encB).toArray)).run Try.prog w = .ok (.bool (!decide (x = y))) w := by
  obtain ⟨kx, ky, e⟩ := key_eqLeaves hx hy
  have h := neq_flat w flat_key (by kernel_rfl) (by decide) (by kernel_rfl) kx ky
  rw [e] at h
  exact h
/-- A guest's cells in its box. -/
structure GCells (w : World) (g : Nat) (x : Gs × Gp) : Prop where
  c0 : w.cell? ⟨g, 0, none⟩ = some (.string x.1.nm)
  c1 : w.cell? ⟨g, 1, none⟩ = some (.bool x.1.mand)
  c2 : w.cell? ⟨g, 2, none⟩ = some (.int .u32 x.1.off)
  c3 : w.cell? ⟨g, 3, none⟩ = some (.int .u32 x.1.len)
  c4 : w.cell? ⟨g, 4, none⟩ = some (.int .u32 x.1.cpus)
  c5 : w.cell? ⟨g, 5, none⟩ = some (.int .u64 x.1.entry)
  c6 : w.cell? ⟨g, 6, none⟩ = some (.int .u64 x.1.dtb)
  cW : w.cell? ⟨g, 75, none⟩ = some (.slice x.2.AW x.1.ws.length x.2.cW)
  cD : w.cell? ⟨g, 76, none⟩ = some (.slice x.2.AD x.1.ds.length x.2.cD)
  cI : w.cell? ⟨g, 77, none⟩ = some (.slice x.2.AI x.1.qs.length x.2.cI)
  cS : w.cell? ⟨g, 78, none⟩ = some (.slice x.2.AS x.1.ss.length x.2.cS)
  key : w.rangeAt g 7 (x.1.key.flatMap encB)
theorem gst_cells {w : World} {g : Nat} {t : TypeId} {x : Gs × Gp} (h : Blk w g t (gcells x).toArray) (kl : x.1.key.length = 68) : GCells w g x := by
  have ht := fun j => gcells_tail kl j
  refine ⟨?_, ?_, ?_, ?_, ?_, ?_, ?_, ?_, ?_, ?_, ?_, ?_⟩
  iterate 7 (· rw [h.cell]; simp [gcells])
  · rw [h.cell, List.getElem?_toArray]; exact ht 0
  · rw [h.cell, List.getElem?_toArray]; exact ht 1
  · rw [h.cell, List.getElem?_toArray]; exact ht 2
  · rw [h.cell, List.getElem?_toArray]; exact ht 3
  · intro j u hu
    rw [h.cell (7 + j), List.getElem?_toArray]
    unfold gcells
    rw [List.getElem?_append_right (by simp only [List.length_cons, List.length_nil]; omega)]
    rw [List.getElem?_append_left (by
      have := (List.getElem?_eq_some_iff.1 hu).1
      simp only [List.length_cons, List.length_nil]
      omega)]
    rw [← hu]
    congr 1
    simp only [List.length_cons, List.length_nil]
    omega
set_option maxHeartbeats 4000000 in
theorem eqU32_any (A : Option Addr) (n c : Nat) (l : List Int) (A2 : Option Addr) (n2 c2 : Nat) (l2 : List Int) (w : World) (hn : n ≤ 9223372036854775807) (hl : l.length = n) (hl2 : l2.length = n2)
    (hr : Rd w w.heap.size 1 A n (l.flatMap encU32)) (hr2 : Rd w w.heap.size 1 A2 n2 (l2.flatMap encU32)) :
    Calls Try.prog 78 #[.slice A n c, .slice A2 n2 c2] w fun e w' => e = .returned (.bool (decide (l = l2))) ∧ Below w.heap.size w w' := by
  by_cases hnn : n = n2
  · subst hnn
    obtain ⟨R, hR⟩ : ∃ R, decide (l = l2) = R := ⟨_, rfl⟩
    rw [hR]
    have HL := Lib.hid hl
    have HL2 := Lib.hid hl2
    have HR := Lib.hid hr
    have HR2 := Lib.hid hr2
    have HRes := Lib.hid hR
    clear hl hl2 hr hr2 hR
    go_enter Try.func78, Try.ntmps78
    go_wp2
    go_loopw [5, 13] (fun _ i wr => ∃ k : Nat, k ≤ n ∧ i = .int .i64 k ∧ Hid (l.take k = l2.take k) ∧ Below w.heap.size w wr) (fun _ i _ => n - (intOf i).toNat)
    case atStart => exact ⟨0, by omega, rfl, Lib.hid rfl, Below.refl _ _⟩
    case round =>
      obtain ⟨k, hk, rfl, hh, hb⟩ := hrel
      by_cases hlt : k < n
      · have hlt1 : k < l.length := by rw [HL.out]; exact hlt
        have hlt2 : k < l2.length := by rw [HL2.out]; exact hlt
        obtain ⟨b, o, rfl, hbb, hc⟩ := (HR.out.below hb).range (fun _ _ => rfl) hlt1 HL.out
        obtain ⟨b2, o2, rfl, hbb2, hc2⟩ := (HR2.out.below hb).range (fun _ _ => rfl) hlt2 HL2.out
        have hc := hc 0 _ rfl
        have hc2 := hc2 0 _ rfl
        rw [Nat.mul_one, Nat.add_zero] at hc hc2
        have hc : ∀ i, (wr.drewN i).cell? ⟨b, o + k, none⟩ = some (.int .u32 l[k]) := fun i => hc
        have hc2 : ∀ i, (wr.drewN i).cell? ⟨b2, o2 + k, none⟩ = some (.int .u32 l2[k]) := fun i => hc2
        have hstep := Lib.hid (fun he => take_step hh.out hlt1 hlt2 he)
        have hbad : Hid (l[k] ≠ l2[k] → R = false) := Lib.hid (fun h => by rw [← HRes.out]; exact decide_eq_false (fun e => h (by simp only [e])))
        generalize l[k] = x at *
        generalize l2[k] = y at *
        have hbw := hb
        by_cases hxy : x = y
        · have hE : (x != y) = false := by simp [hxy]
          have HX := Lib.hid hxy
          clear hxy
          go_wp2
          refine wp_region_quiet_lit (by kernel_rfl) (by kernel_rfl) ?_
          iterate 9 (quiet_step ((fail)))
          refine wpQuiet_nil ?_
          intro _ hw'
          obtain ⟨nq, hw''⟩ := hw'
          subst hw''
          go_wp2
          go_roundw
          case rel => exact ⟨k + 1, by omega, by go_num, Lib.hid (hstep.out HX.out), below_drewN hb _⟩
          case measure => simp [intOf]; omega
        · have hE : (x != y) = true := by simp [hxy]
          have HX := Lib.hid hxy
          clear hxy
          go_wp2
          refine wp_region_quiet_lit (by kernel_rfl) (by kernel_rfl) ?_
          iterate 9 (quiet_step ((fail)))
          refine wpQuiet_nil ?_
          intro _ hw'
          obtain ⟨nq, hw''⟩ := hw'
          subst hw''
          go_wp2
          go_ret
          exact ⟨by rw [hbad.out HX.out]; rfl, below_drewN hb _⟩
      · obtain rfl : k = n := by omega
        go_wp2
        go_ret
        have e := hh.out
        rw [List.take_of_length_le (by rw [HL.out]; exact Nat.le_refl _), List.take_of_length_le (by rw [HL2.out]; exact Nat.le_refl _)] at e
        exact ⟨by rw [← HRes.out, decide_eq_true e]; rfl, hb⟩
  · have e1 : ((n : Int) != (n2 : Int)) = true := by rw [bne_iff_ne]; omega
    have hne : ¬ l = l2 := fun e => hnn (by rw [← hl, ← hl2, e])
    rw [decide_eq_false hne]
    clear hr hr2 hl hl2 hne hnn
    go_enter Try.func78, Try.ntmps78
    go_wp2
    go_ret
    exact ⟨rfl, Below.refl _ _⟩
end Go.Proofs.Ytmhbpfclfffgkaa
