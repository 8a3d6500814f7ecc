/- Chapter 27: which records, which guests, are alike. -/
import Derived.Test.YtjjbpiejplfbpaaPolI
namespace Go.Proofs.Ytjjbpiejplfbpaa
set_option linter.unusedVariables false
open Go.RowKit Go.Sort

theorem flatK_bytes : ∀ (l : List Int), FlatK (List.replicate l.length (.int .u8)) (l.flatMap encB)
  | [] => trivial
  | x :: l => ⟨rfl, flatK_bytes l⟩
theorem flatB_inj : ∀ {l l2 : List Int}, l.flatMap encB = l2.flatMap encB → l = l2
  | [], [], _ => rfl
  | x :: l, [], h => by simp [encB] at h
  | [], x :: l, h => by simp [encB] at h
  | x :: l, y :: l2, h => by
    simp only [List.flatMap_cons, encB, List.cons_append, List.nil_append, List.cons.injEq, Value.int.injEq, true_and] at h
    rw [h.1, flatB_inj h.2]
theorem flat_rc : flatOf Try.prog 5 69 = some (.int .i64 :: .int .i64 :: .int .i64 :: List.replicate 32 (.int .u8)) := by kernel_rfl
theorem flat_st : flatOf Try.prog 5 72 = some [.int .i64, .int .u32, .int .u64, .int .u64, .int .u64, .int .u32] := by kernel_rfl
theorem flat_regs : flatOf Try.prog 5 51 = some (List.replicate 64 (.int .u8)) := by kernel_rfl
instance : DecidableEq Rc := fun a b => by
  obtain ⟨a1, a2, a3, a4⟩ := a
  obtain ⟨b1, b2, b3, b4⟩ := b
  exact decidable_of_iff (a1 = b1 ∧ a2 = b2 ∧ a3 = b3 ∧ a4 = b4) (by simp)
theorem rc_kinds {r : Rc} (h : RcOk r) : FlatK (.int .i64 :: .int .i64 :: .int .i64 :: List.replicate 32 (.int .u8)) r.cs := by
  have := flatK_bytes r.dig
  rw [h.len] at this
  exact ⟨rfl, rfl, rfl, this⟩
theorem rc_inj {x y : Rc} : x.cs = y.cs ↔ x = y := by
  constructor
  · intro h
    obtain ⟨a1, a2, a3, a4⟩ := x
    obtain ⟨b1, b2, b3, b4⟩ := y
    simp only [Rc.cs, List.cons.injEq, Value.int.injEq, true_and] at h
    obtain ⟨rfl, rfl, rfl, h⟩ := h
    rw [flatB_inj h]
  · rintro rfl; rfl
theorem st_inj {x y : St} : encSt x = encSt y ↔ x = y := by
  constructor
  · intro h
    obtain ⟨a1, a2, a3, a4, a5, a6⟩ := x
    obtain ⟨b1, b2, b3, b4, b5, b6⟩ := y
    simpa [encSt] using h
  · rintro rfl; rfl
theorem rc_neq (w : World) {x y : Rc} (hx : RcOk x) (hy : RcOk y) : (binOp .neq 69 (.agg x.cs.toArray) (.agg y.cs.toArray)).run Try.prog w = .ok (.bool (!decide (x = y))) w := by
  have h := neq_flat w flat_rc (by kernel_rfl) (by decide) (by kernel_rfl) (rc_kinds hx) (rc_kinds hy)
  have e : eqLeaves x.cs y.cs = decide (x = y) := by
    rw [Bool.eq_iff_iff, eqLeaves_iff (rc_kinds hx) (rc_kinds hy), rc_inj]; simp
  rw [e] at h
  exact h
theorem st_kinds (x : St) : FlatK [.int .i64, .int .u32, .int .u64, .int .u64, .int .u64, .int .u32] (encSt x) := ⟨rfl, rfl, rfl, rfl, rfl, rfl, trivial⟩
theorem st_neq (w : World) {x y : St} (hx : StOk x) (hy : StOk y) : (binOp .neq 72 (.agg (encSt x).toArray) (.agg (encSt y).toArray)).run Try.prog w = .ok (.bool (!decide (x = y))) w := by
  have h := neq_flat w flat_st (by kernel_rfl) (by decide) (by kernel_rfl) (st_kinds x) (st_kinds y)
  have e : eqLeaves (encSt x) (encSt y) = decide (x = y) := by
    rw [Bool.eq_iff_iff, eqLeaves_iff (st_kinds x) (st_kinds y), st_inj]; simp
  rw [e] at h
  exact h
theorem range_drewN {w : World} {b o : Nat} {cs : List Value} (h : w.rangeAt b o cs) (n : Nat) : (w.drewN n).rangeAt b o cs := h
theorem take_step {α : Type} {l l2 : List α} {k : Nat} (h : l.take k = l2.take k) (h1 : k < l.length) (h2 : k < l2.length) (he : l[k] = l2[k]) : l.take (k + 1) = l2.take (k + 1) := by
  rw [List.take_succ_eq_append_getElem h1, List.take_succ_eq_append_getElem h2, h, he]

/-- A load of a whole row, in a region that is walked once. -/
theorem quietAt_load {P : Program} {o : Oper} {a : Act} {C : World → Prop} {w : World} (ty : TypeId) (x : Operand) (ho : o.op = .load ty x) (b off : Nat) (hx : a.eval x = .pointer (some ⟨b, off, none⟩)) (cs : List Value) (d : TypeDesc)
    (hc : w.rangeAt b off cs) (hu : P.underlying ty = some d) (hd : d.isRow = true) (hi : (P.info? ty).map (·.size) = some cs.length) : o.quietAt P a C w (.agg cs.toArray) := by
  unfold Oper.quietAt execOp
  simp only [ho, hx, Instr.loadAt, Instr.sureAddr, Sem.run_bind, Sem.run_pure, Result.andThen_ok, run_loadVar_mid w b off ty cs d hc hu hd hi]
  exact ⟨rfl, rfl⟩
theorem wpQuiet_load {P : Program} {ops : Array Oper} {C : World → Prop} {Q : Act → Prop} {rest : List Oper} {o : Oper} {a : Act} (ty : TypeId) (x : Operand) (ho : o.op = .load ty x) (b off : Nat) (hx : a.eval x = .pointer (some ⟨b, off, none⟩)) (cs : List Value) (d : TypeDesc)
    (hc : ∀ w, C w → w.rangeAt b off cs) (hu : P.underlying ty = some d) (hd : d.isRow = true) (hi : (P.info? ty).map (·.size) = some cs.length) (hw : Region.wanted o (yielded ops a.tmps) = true)
    (h : wpQuiet P ops C Q rest (a.put o.dst (.agg cs.toArray))) : wpQuiet P ops C Q (o :: rest) a := by
  unfold wpQuiet
  rw [if_pos hw]
  exact ⟨_, fun w hC => quietAt_load ty x ho b off hx cs d (hc w hC) hu hd hi, h⟩
theorem range_drawn {w : World} {b o : Nat} {cs : List Value} (h : w.rangeAt b o cs) : ∀ W, (∃ n, W = w.drewN n) → W.rangeAt b o cs := by
  rintro W ⟨n, rfl⟩; exact h

theorem st_len {r : St} (_ : StOk r) : (encSt r).length = 6 := rfl

set_option maxHeartbeats 4000000 in
theorem eqRc_any (A : Option Addr) (n c : Nat) (l : List Rc) (A2 : Option Addr) (n2 c2 : Nat) (l2 : List Rc) (w : World) (hn : n ≤ 9223372036854775807) (hl : l.length = n) (hl2 : l2.length = n2) (ho : ∀ r ∈ l, RcOk r) (ho2 : ∀ r ∈ l2, RcOk r)
    (hr : Rd w w.heap.size 35 A n (l.flatMap Rc.cs)) (hr2 : Rd w w.heap.size 35 A2 n2 (l2.flatMap Rc.cs)) :
    Calls Try.prog 19 #[.slice A n c, .slice A2 n2 c2] w fun e w' => e = .returned (.bool (decide (l = l2))) ∧ Below w.heap.size w w' := by
  by_cases hnn : n = n2
  · subst hnn
    obtain ⟨R, hR⟩ : ∃ R, decide (l = l2) = R := ⟨_, rfl⟩
    rw [hR]
    have HL := Lib.hid hl
    have HL2 := Lib.hid hl2
    have HO := Lib.hid ho
    have HO2 := Lib.hid ho2
    have HR := Lib.hid hr
    have HR2 := Lib.hid hr2
    have HRes := Lib.hid hR
    clear hl hl2 ho ho2 hr hr2 hR
    go_enter Try.func19, Try.ntmps19
    go_wp2
    go_loopw [5, 13] (fun _ i wr => ∃ k : Nat, k ≤ n ∧ i = .int .i64 k ∧ Hid (l.take k = l2.take k) ∧ Below w.heap.size w wr) (fun _ i _ => n - (intOf i).toNat)
    case atStart => exact ⟨0, by omega, rfl, Lib.hid rfl, Below.refl _ _⟩
    case round =>
      obtain ⟨k, hk, rfl, hh, hb⟩ := hrel
      by_cases hlt : k < n
      · have hlt1 : k < l.length := by rw [HL.out]; exact hlt
        have hlt2 : k < l2.length := by rw [HL2.out]; exact hlt
        obtain ⟨b, o, rfl, hbb, hc⟩ := (HR.out.below hb).range (fun x hx => Rc.len (HO.out x hx)) hlt1 HL.out
        obtain ⟨b2, o2, rfl, hbb2, hc2⟩ := (HR2.out.below hb).range (fun x hx => Rc.len (HO2.out x hx)) hlt2 HL2.out
        have ok1 := HO.out _ (List.getElem_mem hlt1)
        have ok2 := HO2.out _ (List.getElem_mem hlt2)
        have hi : (Try.prog.info? 69).map (·.size) = some (Rc.cs l[k]).length := by rw [Rc.len ok1]; kernel_rfl
        have hi2 : (Try.prog.info? 69).map (·.size) = some (Rc.cs l2[k]).length := by rw [Rc.len ok2]; kernel_rfl
        have hc := range_drawn hc
        have hc2 := range_drawn hc2
        have hE := fun W => rc_neq W ok1 ok2
        have hstep := Lib.hid (fun he => take_step hh.out hlt1 hlt2 he)
        have hbad : Hid (l[k] ≠ l2[k] → R = false) := Lib.hid (fun h => by rw [← HRes.out]; exact decide_eq_false (fun e => h (by simp only [e])))
        clear ok1 ok2
        generalize l[k] = x at *
        generalize l2[k] = y at *
        by_cases hxy : x = y
        · rw [decide_eq_true hxy] at hE
          have HX := Lib.hid hxy
          clear hxy
          go_wp2
          refine wp_region_quiet_lit (by kernel_rfl) (by kernel_rfl) ?_
          iterate 3 (quiet_step ((fail)))
          refine wpQuiet_load 69 (.tmp 18) rfl b (o + k * 35) (by rfl) (Rc.cs x) _ hc Try.underlying69 rfl hi (by kernel_rfl) ?_
          iterate 3 (quiet_step ((fail)))
          refine wpQuiet_load 69 (.tmp 22) rfl b2 (o2 + k * 35) (by rfl) (Rc.cs y) _ hc2 Try.underlying69 rfl hi2 (by kernel_rfl) ?_
          quiet_step ((fail))
          refine wpQuiet_nil ?_
          intro _ hw'
          obtain ⟨nq, hw''⟩ := hw'
          subst hw''
          go_wp2
          go_roundw
          case rel => exact ⟨k + 1, by omega, by go_num, Lib.hid (hstep.out HX.out), below_drewN hb _⟩
          case measure => simp [intOf]; omega
        · rw [decide_eq_false hxy] at hE
          have HX := Lib.hid hxy
          clear hxy
          go_wp2
          refine wp_region_quiet_lit (by kernel_rfl) (by kernel_rfl) ?_
          iterate 3 (quiet_step ((fail)))
          refine wpQuiet_load 69 (.tmp 18) rfl b (o + k * 35) (by rfl) (Rc.cs x) _ hc Try.underlying69 rfl hi (by kernel_rfl) ?_
          iterate 3 (quiet_step ((fail)))
          refine wpQuiet_load 69 (.tmp 22) rfl b2 (o2 + k * 35) (by rfl) (Rc.cs y) _ hc2 Try.underlying69 rfl hi2 (by kernel_rfl) ?_
          quiet_step ((fail))
          refine wpQuiet_nil ?_
          intro _ hw'
          obtain ⟨nq, hw''⟩ := hw'
          subst hw''
          go_wp2
          go_ret
          exact ⟨by rw [hbad.out HX.out]; rfl, below_drewN hb _⟩
      · obtain rfl : k = n := by omega
        go_wp2
        go_ret
        have e := hh.out
        rw [List.take_of_length_le (by rw [HL.out]; exact Nat.le_refl _), List.take_of_length_le (by rw [HL2.out]; exact Nat.le_refl _)] at e
        exact ⟨by rw [← HRes.out, decide_eq_true e]; rfl, hb⟩
  · have e1 : ((n : Int) != (n2 : Int)) = true := by rw [bne_iff_ne]; omega
    have hne : ¬ l = l2 := fun e => hnn (by rw [← hl, ← hl2, e])
    rw [decide_eq_false hne]
    clear hr hr2 ho ho2 hl hl2 hne hnn
    go_enter Try.func19, Try.ntmps19
    go_wp2
    go_ret
    exact ⟨rfl, Below.refl _ _⟩

set_option maxHeartbeats 4000000 in
theorem sameLog_any (A : Option Addr) (n c : Nat) (l : List Rc) (A2 : Option Addr) (n2 c2 : Nat) (l2 : List Rc) (w : World) (hn : n ≤ 9223372036854775807) (hl : l.length = n) (hl2 : l2.length = n2) (ho : ∀ r ∈ l, RcOk r) (ho2 : ∀ r ∈ l2, RcOk r)
    (hr : Rd w w.heap.size 35 A n (l.flatMap Rc.cs)) (hr2 : Rd w w.heap.size 35 A2 n2 (l2.flatMap Rc.cs)) :
    Calls Try.prog 21 #[.slice A n c, .slice A2 n2 c2] w fun e w' => e = .returned (.bool (decide (l = l2))) ∧ Below w.heap.size w w' := by
  by_cases hnn : n = n2
  · subst hnn
    obtain ⟨R, hR⟩ : ∃ R, decide (l = l2) = R := ⟨_, rfl⟩
    rw [hR]
    have HL := Lib.hid hl
    have HL2 := Lib.hid hl2
    have HO := Lib.hid ho
    have HO2 := Lib.hid ho2
    have HR := Lib.hid hr
    have HR2 := Lib.hid hr2
    have HRes := Lib.hid hR
    clear hl hl2 ho ho2 hr hr2 hR
    go_enter Try.func21, Try.ntmps21
    go_wp2
    go_loopw [5, 13] (fun _ i wr => ∃ k : Nat, k ≤ n ∧ i = .int .i64 k ∧ Hid (l.take k = l2.take k) ∧ Below w.heap.size w wr) (fun _ i _ => n - (intOf i).toNat)
    case atStart => exact ⟨0, by omega, rfl, Lib.hid rfl, Below.refl _ _⟩
    case round =>
      obtain ⟨k, hk, rfl, hh, hb⟩ := hrel
      by_cases hlt : k < n
      · have hlt1 : k < l.length := by rw [HL.out]; exact hlt
        have hlt2 : k < l2.length := by rw [HL2.out]; exact hlt
        obtain ⟨b, o, rfl, hbb, hc⟩ := (HR.out.below hb).range (fun x hx => Rc.len (HO.out x hx)) hlt1 HL.out
        obtain ⟨b2, o2, rfl, hbb2, hc2⟩ := (HR2.out.below hb).range (fun x hx => Rc.len (HO2.out x hx)) hlt2 HL2.out
        have ok1 := HO.out _ (List.getElem_mem hlt1)
        have ok2 := HO2.out _ (List.getElem_mem hlt2)
        have hi : (Try.prog.info? 69).map (·.size) = some (Rc.cs l[k]).length := by rw [Rc.len ok1]; kernel_rfl
        have hi2 : (Try.prog.info? 69).map (·.size) = some (Rc.cs l2[k]).length := by rw [Rc.len ok2]; kernel_rfl
        have hc := range_drawn hc
        have hc2 := range_drawn hc2
        have hE := fun W => rc_neq W ok1 ok2
        have hstep := Lib.hid (fun he => take_step hh.out hlt1 hlt2 he)
        have hbad : Hid (l[k] ≠ l2[k] → R = false) := Lib.hid (fun h => by rw [← HRes.out]; exact decide_eq_false (fun e => h (by simp only [e])))
        clear ok1 ok2
        generalize l[k] = x at *
        generalize l2[k] = y at *
        by_cases hxy : x = y
        · rw [decide_eq_true hxy] at hE
          have HX := Lib.hid hxy
          clear hxy
          go_wp2
          refine wp_region_quiet_lit (by kernel_rfl) (by kernel_rfl) ?_
          iterate 3 (quiet_step ((fail)))
          refine wpQuiet_load 69 (.tmp 18) rfl b (o + k * 35) (by rfl) (Rc.cs x) _ hc Try.underlying69 rfl hi (by kernel_rfl) ?_
          iterate 3 (quiet_step ((fail)))
          refine wpQuiet_load 69 (.tmp 22) rfl b2 (o2 + k * 35) (by rfl) (Rc.cs y) _ hc2 Try.underlying69 rfl hi2 (by kernel_rfl) ?_
          quiet_step ((fail))
          refine wpQuiet_nil ?_
          intro _ hw'
          obtain ⟨nq, hw''⟩ := hw'
          subst hw''
          go_wp2
          go_roundw
          case rel => exact ⟨k + 1, by omega, by go_num, Lib.hid (hstep.out HX.out), below_drewN hb _⟩
          case measure => simp [intOf]; omega
        · rw [decide_eq_false hxy] at hE
          have HX := Lib.hid hxy
          clear hxy
          go_wp2
          refine wp_region_quiet_lit (by kernel_rfl) (by kernel_rfl) ?_
          iterate 3 (quiet_step ((fail)))
          refine wpQuiet_load 69 (.tmp 18) rfl b (o + k * 35) (by rfl) (Rc.cs x) _ hc Try.underlying69 rfl hi (by kernel_rfl) ?_
          iterate 3 (quiet_step ((fail)))
          refine wpQuiet_load 69 (.tmp 22) rfl b2 (o2 + k * 35) (by rfl) (Rc.cs y) _ hc2 Try.underlying69 rfl hi2 (by kernel_rfl) ?_
          quiet_step ((fail))
          refine wpQuiet_nil ?_
          intro _ hw'
          obtain ⟨nq, hw''⟩ := hw'
          subst hw''
          go_wp2
          go_ret
          exact ⟨by rw [hbad.out HX.out]; rfl, below_drewN hb _⟩
      · obtain rfl : k = n := by omega
        go_wp2
        go_ret
        have e := hh.out
        rw [List.take_of_length_le (by rw [HL.out]; exact Nat.le_refl _), List.take_of_length_le (by rw [HL2.out]; exact Nat.le_refl _)] at e
        exact ⟨by rw [← HRes.out, decide_eq_true e]; rfl, hb⟩
  · have e1 : ((n : Int) != (n2 : Int)) = true := by rw [bne_iff_ne]; omega
    have hne : ¬ l = l2 := fun e => hnn (by rw [← hl, ← hl2, e])
    rw [decide_eq_false hne]
    clear hr hr2 ho ho2 hl hl2 hne hnn
    go_enter Try.func21, Try.ntmps21
    go_wp2
    go_ret
    exact ⟨rfl, Below.refl _ _⟩

set_option maxHeartbeats 4000000 in
theorem eqSt_any (A : Option Addr) (n c : Nat) (l : List St) (A2 : Option Addr) (n2 c2 : Nat) (l2 : List St) (w : World) (hn : n ≤ 9223372036854775807) (hl : l.length = n) (hl2 : l2.length = n2) (ho : ∀ r ∈ l, StOk r) (ho2 : ∀ r ∈ l2, StOk r)
    (hr : Rd w w.heap.size 6 A n (l.flatMap encSt)) (hr2 : Rd w w.heap.size 6 A2 n2 (l2.flatMap encSt)) :
    Calls Try.prog 20 #[.slice A n c, .slice A2 n2 c2] w fun e w' => e = .returned (.bool (decide (l = l2))) ∧ Below w.heap.size w w' := by
  by_cases hnn : n = n2
  · subst hnn
    obtain ⟨R, hR⟩ : ∃ R, decide (l = l2) = R := ⟨_, rfl⟩
    rw [hR]
    have HL := Lib.hid hl
    have HL2 := Lib.hid hl2
    have HO := Lib.hid ho
    have HO2 := Lib.hid ho2
    have HR := Lib.hid hr
    have HR2 := Lib.hid hr2
    have HRes := Lib.hid hR
    clear hl hl2 ho ho2 hr hr2 hR
    go_enter Try.func20, Try.ntmps20
    go_wp2
    go_loopw [5, 13] (fun _ i wr => ∃ k : Nat, k ≤ n ∧ i = .int .i64 k ∧ Hid (l.take k = l2.take k) ∧ Below w.heap.size w wr) (fun _ i _ => n - (intOf i).toNat)
    case atStart => exact ⟨0, by omega, rfl, Lib.hid rfl, Below.refl _ _⟩
    case round =>
      obtain ⟨k, hk, rfl, hh, hb⟩ := hrel
      by_cases hlt : k < n
      · have hlt1 : k < l.length := by rw [HL.out]; exact hlt
        have hlt2 : k < l2.length := by rw [HL2.out]; exact hlt
        obtain ⟨b, o, rfl, hbb, hc⟩ := (HR.out.below hb).range (fun x hx => st_len (HO.out x hx)) hlt1 HL.out
        obtain ⟨b2, o2, rfl, hbb2, hc2⟩ := (HR2.out.below hb).range (fun x hx => st_len (HO2.out x hx)) hlt2 HL2.out
        have ok1 := HO.out _ (List.getElem_mem hlt1)
        have ok2 := HO2.out _ (List.getElem_mem hlt2)
        have hi : (Try.prog.info? 72).map (·.size) = some (encSt l[k]).length := by rw [st_len ok1]; kernel_rfl
        have hi2 : (Try.prog.info? 72).map (·.size) = some (encSt l2[k]).length := by rw [st_len ok2]; kernel_rfl
        have hc := range_drawn hc
        have hc2 := range_drawn hc2
        have hE := fun W => st_neq W ok1 ok2
        have hstep := Lib.hid (fun he => take_step hh.out hlt1 hlt2 he)
        have hbad : Hid (l[k] ≠ l2[k] → R = false) := Lib.hid (fun h => by rw [← HRes.out]; exact decide_eq_false (fun e => h (by simp only [e])))
        clear ok1 ok2
        generalize l[k] = x at *
        generalize l2[k] = y at *
        by_cases hxy : x = y
        · rw [decide_eq_true hxy] at hE
          have HX := Lib.hid hxy
          clear hxy
          go_wp2
          refine wp_region_quiet_lit (by kernel_rfl) (by kernel_rfl) ?_
          iterate 3 (quiet_step ((fail)))
          refine wpQuiet_load 72 (.tmp 18) rfl b (o + k * 6) (by rfl) (encSt x) _ hc Try.underlying72 rfl hi (by kernel_rfl) ?_
          iterate 3 (quiet_step ((fail)))
          refine wpQuiet_load 72 (.tmp 22) rfl b2 (o2 + k * 6) (by rfl) (encSt y) _ hc2 Try.underlying72 rfl hi2 (by kernel_rfl) ?_
          quiet_step ((fail))
          refine wpQuiet_nil ?_
          intro _ hw'
          obtain ⟨nq, hw''⟩ := hw'
          subst hw''
          go_wp2
          go_roundw
          case rel => exact ⟨k + 1, by omega, by go_num, Lib.hid (hstep.out HX.out), below_drewN hb _⟩
          case measure => simp [intOf]; omega
        · rw [decide_eq_false hxy] at hE
          have HX := Lib.hid hxy
          clear hxy
          go_wp2
          refine wp_region_quiet_lit (by kernel_rfl) (by kernel_rfl) ?_
          iterate 3 (quiet_step ((fail)))
          refine wpQuiet_load 72 (.tmp 18) rfl b (o + k * 6) (by rfl) (encSt x) _ hc Try.underlying72 rfl hi (by kernel_rfl) ?_
          iterate 3 (quiet_step ((fail)))
          refine wpQuiet_load 72 (.tmp 22) rfl b2 (o2 + k * 6) (by rfl) (encSt y) _ hc2 Try.underlying72 rfl hi2 (by kernel_rfl) ?_
          quiet_step ((fail))
          refine wpQuiet_nil ?_
          intro _ hw'
          obtain ⟨nq, hw''⟩ := hw'
          subst hw''
          go_wp2
          go_ret
          exact ⟨by rw [hbad.out HX.out]; rfl, below_drewN hb _⟩
      · obtain rfl : k = n := by omega
        go_wp2
        go_ret
        have e := hh.out
        rw [List.take_of_length_le (by rw [HL.out]; exact Nat.le_refl _), List.take_of_length_le (by rw [HL2.out]; exact Nat.le_refl _)] at e
        exact ⟨by rw [← HRes.out, decide_eq_true e]; rfl, hb⟩
  · have e1 : ((n : Int) != (n2 : Int)) = true := by rw [bne_iff_ne]; omega
    have hne : ¬ l = l2 := fun e => hnn (by rw [← hl, ← hl2, e])
    rw [decide_eq_false hne]
    clear hr hr2 ho ho2 hl hl2 hne hnn
    go_enter Try.func20, Try.ntmps20
    go_wp2
    go_ret
    exact ⟨rfl, Below.refl _ _⟩
end Go.Proofs.Ytjjbpiejplfbpaa
