/- Chapter 14: which lists of parts are alike; walked. -/
import Derived.Test.YtmhbpfclfffgkaaCfA
import Derived.Test.YtmhbpfclfffgkaaEqFlat
namespace Go.Proofs.Ytmhbpfclfffgkaa
set_option linter.unusedVariables false
set_option linter.unusedSimpArgs false
open Go.RowKit Go.Sort

instance : DecidableEq Iq := fun a b => by
  obtain ⟨a1, a2, a3⟩ := a
  obtain ⟨b1, b2, b3⟩ := b
  exact decidable_of_iff (a1 = b1 ∧ a2 = b2 ∧ a3 = b3) (by simp)
theorem En.ext_iff (x y : En) : x = y ↔ x.guest = y.guest ∧ x.perm = y.perm ∧ x.ipa = y.ipa := by
  rcases x with ⟨⟩
  rcases y with ⟨⟩
  simp
theorem flatK_bytes : ∀ (l : List Int), FlatK (List.replicate l.length (.int .u8)) (l.flatMap encB)
  | [] => trivial
  | x :: l => ⟨rfl, flatK_bytes l⟩
theorem flatB_inj : ∀ {l l2 : List Int}, l.flatMap encB = l2.flatMap encB → l = l2
  | [], [], _ => rfl
  | x :: l, [], h => by simp [encB] at h
  | [], x :: l, h => by simp [encB] at h
  | x :: l, y :: l2, h => by
    simp only [List.flatMap_cons, encB, List.cons_append, List.nil_append, List.cons.injEq, Value.int.injEq, true_and] at h
    rw [h.1, flatB_inj h.2]
theorem flat_Wn : flatOf Try.prog 5 135 = some [.int .u64, .int .u64, .int .u64, .int .i64] := by kernel_rfl
theorem kinds_Wn (x : Wn) : FlatK [.int .u64, .int .u64, .int .u64, .int .i64] (encWn x) := by simp [FlatK, encWn]
theorem flat_Dv : flatOf Try.prog 5 137 = some [.int .u64, .int .u64, .int .u64] := by kernel_rfl
theorem kinds_Dv (x : Dv) : FlatK [.int .u64, .int .u64, .int .u64] (encDv x) := by simp [FlatK, encDv]
theorem flat_Iq : flatOf Try.prog 5 139 = some [.int .i64, .int .i64, .bool] := by kernel_rfl
theorem kinds_Iq (x : Iq) : FlatK [.int .i64, .int .i64, .bool] (encIq x) := by simp [FlatK, encIq]
theorem flat_Ch : flatOf Try.prog 5 77 = some [.int .u64, .int .u64, .int .i64, .int .i64, .int .u64, .int .i64, .int .i64, .int .u64] := by kernel_rfl
theorem kinds_Ch (x : Ch) : FlatK [.int .u64, .int .u64, .int .i64, .int .i64, .int .u64, .int .i64, .int .i64, .int .u64] (encCh x) := by simp [FlatK, encCh]
theorem range_drewN {w : World} {b o : Nat} {cs : List Value} (h : w.rangeAt b o cs) (n : Nat) : (w.drewN n).rangeAt b o cs := h
theorem take_step {α : Type} {l l2 : List α} {k : Nat} (h : l.take k = l2.take k) (h1 : k < l.length) (h2 : k < l2.length) (he : l[k] = l2[k]) : l.take (k + 1) = l2.take (k + 1) := by
  rw [List.take_succ_eq_append_getElem h1, List.take_succ_eq_append_getElem h2, h, he]

/-- A load of a whole row, in a region that is walked once. -/
theorem quietAt_load {P : Program} {o : Oper} {a : Act} {C : World → Prop} {w : World} (ty : TypeId) (x : Operand) (ho : o.op = .load ty x) (b off : Nat) (hx : a.eval x = .pointer (some ⟨b, off, none⟩)) (cs : List Value) (d : TypeDesc)
    (hc : w.rangeAt b off cs) (hu : P.underlying ty = some d) (hd : d.isRow = true) (hi : (P.info? ty).map (·.size) = some cs.length) : o.quietAt P a C w (.agg cs.toArray) := by
  unfold Oper.quietAt execOp
  simp only [ho, hx, Instr.loadAt, Instr.sureAddr, Sem.run_bind, Sem.run_pure, Result.andThen_ok, run_loadVar_mid w b off ty cs d hc hu hd hi]
  exact ⟨rfl, rfl⟩
theorem wpQuiet_load {P : Program} {ops : Array Oper} {C : World → Prop} {Q : Act → Prop} {rest : List Oper} {o : Oper} {a : Act} (ty : TypeId) (x : Operand) (ho : o.op = .load ty x) (b off : Nat) (hx : a.eval x = .pointer (some ⟨b, off, none⟩)) (cs : List Value) (d : TypeDesc)
    (hc : ∀ w, C w → w.rangeAt b off cs) (hu : P.underlying ty = some d) (hd : d.isRow = true) (hi : (P.info? ty).map (·.size) = some cs.length) (hw : Region.wanted o (yielded ops a.tmps) = true)
    (h : wpQuiet P ops C Q rest (a.put o.dst (.agg cs.toArray))) : wpQuiet P ops C Q (o :: rest) a := by
  unfold wpQuiet
  rw [if_pos hw]
  exact ⟨_, fun w hC => quietAt_load ty x ho b off hx cs d (hc w hC) hu hd hi, h⟩
theorem range_drawn {w : World} {b o : Nat} {cs : List Value} (h : w.rangeAt b o cs) : ∀ W, (∃ n, W = w.drewN n) → W.rangeAt b o cs := by
  rintro W ⟨n, rfl⟩; exact h

theorem Rd.range {α : Type} {enc : α → List Value} {w : World} {B s n : Nat} {A : Option Addr} {l : List α} (h : Rd w B s A n (l.flatMap enc)) (hs : ∀ x ∈ l, (enc x).length = s) {k : Nat} (hk : k < l.length) (hn : l.length = n) :
    ∃ b off, A = some ⟨b, off, none⟩ ∧ b < B ∧ w.rangeAt b (off + k * s) (enc l[k]) := by
  obtain ⟨b, off, e, hb, hc⟩ := h.cells (by omega)
  refine ⟨b, off, e, hb, fun j v hv => ?_⟩
  have hj : j < s := by
    have := (List.getElem?_eq_some_iff.1 hv).1
    rwa [hs _ (List.getElem_mem hk)] at this
  have h1 := hc (k * s + j) (by
    have h1 : (k + 1) * s ≤ n * s := Nat.mul_le_mul_right _ (by omega)
    rw [Nat.succ_mul] at h1
    omega)
  rw [show off + k * s + j = off + (k * s + j) by omega, h1]
  have key : ∀ (l : List α) (k j : Nat), (∀ g ∈ l, (enc g).length = s) → j < s → (hk : k < l.length) → (l.flatMap enc)[k * s + j]? = (enc l[k])[j]? := by
    intro l
    induction l with
    | nil => intro k j _ _ hk; simp at hk
    | cons x xs ih =>
      intro k j hx hj hk
      have hxl := hx x (List.mem_cons_self ..)
      cases k with
      | zero => simp only [List.flatMap_cons, Nat.zero_mul, Nat.zero_add, List.getElem_cons_zero]; rw [List.getElem?_append_left (by omega)]
      | succ k =>
        simp only [List.flatMap_cons, List.getElem_cons_succ]
        rw [List.getElem?_append_right (by rw [Nat.succ_mul]; omega), show (k + 1) * s + j - (enc x).length = k * s + j by rw [hxl, Nat.succ_mul]; omega]
        exact ih k j (fun y hy => hx y (List.mem_cons_of_mem _ hy)) hj (by simpa using hk)
  rw [key l k j hs hj hk]
  exact hv

theorem len_Wn {x : Wn} (_ : True) : (encWn x).length = 4 := rfl
theorem inj_Wn {x y : Wn} : encWn x = encWn y ↔ x = y := by
  constructor
  · intro h
    simp only [encWn, List.cons.injEq, Value.int.injEq, Value.bool.injEq, true_and, and_true] at h
    rcases x with ⟨⟩
    rcases y with ⟨⟩
    simp_all [En.ext_iff]
  · rintro rfl; rfl
theorem ne_Wn (w : World) (x y : Wn) : (binOp .neq 135 (.agg (encWn x).toArray) (.agg (encWn y).toArray)).run Try.prog w = .ok (.bool (!decide (x = y))) w := by
  have h := neq_flat w flat_Wn (by kernel_rfl) (by decide) (by kernel_rfl) (kinds_Wn x) (kinds_Wn y)
  have e : eqLeaves (encWn x) (encWn y) = decide (x = y) := by
    rw [Bool.eq_iff_iff, eqLeaves_iff (kinds_Wn x) (kinds_Wn y), inj_Wn]; simp
  rw [e] at h
  exact h
theorem len_Dv {x : Dv} (_ : True) : (encDv x).length = 3 := rfl
theorem inj_Dv {x y : Dv} : encDv x = encDv y ↔ x = y := by
  constructor
  · intro h
    simp only [encDv, List.cons.injEq, Value.int.injEq, Value.bool.injEq, true_and, and_true] at h
    rcases x with ⟨⟩
    rcases y with ⟨⟩
    simp_all [En.ext_iff]
  · rintro rfl; rfl
theorem ne_Dv (w : World) (x y : Dv) : (binOp .neq 137 (.agg (encDv x).toArray) (.agg (encDv y).toArray)).run Try.prog w = .ok (.bool (!decide (x = y))) w := by
  have h := neq_flat w flat_Dv (by kernel_rfl) (by decide) (by kernel_rfl) (kinds_Dv x) (kinds_Dv y)
  have e : eqLeaves (encDv x) (encDv y) = decide (x = y) := by
    rw [Bool.eq_iff_iff, eqLeaves_iff (kinds_Dv x) (kinds_Dv y), inj_Dv]; simp
  rw [e] at h
  exact h
theorem len_Iq {x : Iq} (_ : True) : (encIq x).length = 3 := rfl
theorem inj_Iq {x y : Iq} : encIq x = encIq y ↔ x = y := by
  constructor
  · intro h
    simp only [encIq, List.cons.injEq, Value.int.injEq, Value.bool.injEq, true_and, and_true] at h
    rcases x with ⟨⟩
    rcases y with ⟨⟩
    simp_all [En.ext_iff]
  · rintro rfl; rfl
theorem ne_Iq (w : World) (x y : Iq) : (binOp .neq 139 (.agg (encIq x).toArray) (.agg (encIq y).toArray)).run Try.prog w = .ok (.bool (!decide (x = y))) w := by
  have h := neq_flat w flat_Iq (by kernel_rfl) (by decide) (by kernel_rfl) (kinds_Iq x) (kinds_Iq y)
  have e : eqLeaves (encIq x) (encIq y) = decide (x = y) := by
    rw [Bool.eq_iff_iff, eqLeaves_iff (kinds_Iq x) (kinds_Iq y), inj_Iq]; simp
  rw [e] at h
  exact h
theorem len_Ch {x : Ch} (_ : True) : (encCh x).length = 8 := rfl
theorem inj_Ch {x y : Ch} : encCh x = encCh y ↔ x = y := by
  constructor
  · intro h
    simp only [encCh, List.cons.injEq, Value.int.injEq, Value.bool.injEq, true_and, and_true] at h
    rcases x with ⟨⟩
    rcases y with ⟨⟩
    simp_all [En.ext_iff]
  · rintro rfl; rfl
theorem ne_Ch (w : World) (x y : Ch) : (binOp .neq 77 (.agg (encCh x).toArray) (.agg (encCh y).toArray)).run Try.prog w = .ok (.bool (!decide (x = y))) w := by
  have h := neq_flat w flat_Ch (by kernel_rfl) (by decide) (by kernel_rfl) (kinds_Ch x) (kinds_Ch y)
  have e : eqLeaves (encCh x) (encCh y) = decide (x = y) := by
    rw [Bool.eq_iff_iff, eqLeaves_iff (kinds_Ch x) (kinds_Ch y), inj_Ch]; simp
  rw [e] at h
  exact h

set_option maxHeartbeats 4000000 in
theorem eqWn_any (A : Option Addr) (n c : Nat) (l : List Wn) (A2 : Option Addr) (n2 c2 : Nat) (l2 : List Wn) (w : World) (hn : n ≤ 9223372036854775807) (hl : l.length = n) (hl2 : l2.length = n2) (ho : ∀ r ∈ l, (fun _ => True) r) (ho2 : ∀ r ∈ l2, (fun _ => True) r)
    (hr : Rd w w.heap.size 4 A n (l.flatMap encWn)) (hr2 : Rd w w.heap.size 4 A2 n2 (l2.flatMap encWn)) :
    Calls Try.prog 75 #[.slice A n c, .slice A2 n2 c2] w fun e w' => e = .returned (.bool (decide (l = l2))) ∧ Below w.heap.size w w' := by
  by_cases hnn : n = n2
  · subst hnn
    obtain ⟨R, hR⟩ : ∃ R, decide (l = l2) = R := ⟨_, rfl⟩
    rw [hR]
    have HL := Lib.hid hl
    have HL2 := Lib.hid hl2
    have HO := Lib.hid ho
    have HO2 := Lib.hid ho2
    have HR := Lib.hid hr
    have HR2 := Lib.hid hr2
    have HRes := Lib.hid hR
    clear hl hl2 ho ho2 hr hr2 hR
    go_enter Try.func75, Try.ntmps75
    go_wp2
    go_loopw [5, 13] (fun _ i wr => ∃ k : Nat, k ≤ n ∧ i = .int .i64 k ∧ Hid (l.take k = l2.take k) ∧ Below w.heap.size w wr) (fun _ i _ => n - (intOf i).toNat)
    case atStart => exact ⟨0, by omega, rfl, Lib.hid rfl, Below.refl _ _⟩
    case round =>
      obtain ⟨k, hk, rfl, hh, hb⟩ := hrel
      by_cases hlt : k < n
      · have hlt1 : k < l.length := by rw [HL.out]; exact hlt
        have hlt2 : k < l2.length := by rw [HL2.out]; exact hlt
        obtain ⟨b, o, rfl, hbb, hc⟩ := (HR.out.below hb).range (fun x hx => len_Wn (HO.out x hx)) hlt1 HL.out
        obtain ⟨b2, o2, rfl, hbb2, hc2⟩ := (HR2.out.below hb).range (fun x hx => len_Wn (HO2.out x hx)) hlt2 HL2.out
        have ok1 := HO.out _ (List.getElem_mem hlt1)
        have ok2 := HO2.out _ (List.getElem_mem hlt2)
        have hi : (Try.prog.info? 135).map (·.size) = some (encWn l[k]).length := by rw [len_Wn ok1]; kernel_rfl
        have hi2 : (Try.prog.info? 135).map (·.size) = some (encWn l2[k]).length := by rw [len_Wn ok2]; kernel_rfl
        have hc := range_drawn hc
        have hc2 := range_drawn hc2
        have hE := fun W => ne_Wn W l[k] l2[k]
        have hstep := Lib.hid (fun he => take_step hh.out hlt1 hlt2 he)
        have hbad : Hid (l[k] ≠ l2[k] → R = false) := Lib.hid (fun h => by rw [← HRes.out]; exact decide_eq_false (fun e => h (by simp only [e])))
        clear ok1 ok2
        generalize l[k] = x at *
        generalize l2[k] = y at *
        by_cases hxy : x = y
        · rw [decide_eq_true hxy] at hE
          have HX := Lib.hid hxy
          clear hxy
          go_wp2
          refine wp_region_quiet_lit (by kernel_rfl) (by kernel_rfl) ?_
          iterate 3 (quiet_step ((fail)))
          refine wpQuiet_load 135 (.tmp 18) rfl b (o + k * 4) (by rfl) (encWn x) _ hc Try.underlying135 rfl hi (by kernel_rfl) ?_
          iterate 3 (quiet_step ((fail)))
          refine wpQuiet_load 135 (.tmp 22) rfl b2 (o2 + k * 4) (by rfl) (encWn y) _ hc2 Try.underlying135 rfl hi2 (by kernel_rfl) ?_
          quiet_step ((fail))
          refine wpQuiet_nil ?_
          intro _ hw'
          obtain ⟨nq, hw''⟩ := hw'
          subst hw''
          go_wp2
          go_roundw
          case rel => exact ⟨k + 1, by omega, by go_num, Lib.hid (hstep.out HX.out), below_drewN hb _⟩
          case measure => simp [intOf]; omega
        · rw [decide_eq_false hxy] at hE
          have HX := Lib.hid hxy
          clear hxy
          go_wp2
          refine wp_region_quiet_lit (by kernel_rfl) (by kernel_rfl) ?_
          iterate 3 (quiet_step ((fail)))
          refine wpQuiet_load 135 (.tmp 18) rfl b (o + k * 4) (by rfl) (encWn x) _ hc Try.underlying135 rfl hi (by kernel_rfl) ?_
          iterate 3 (quiet_step ((fail)))
          refine wpQuiet_load 135 (.tmp 22) rfl b2 (o2 + k * 4) (by rfl) (encWn y) _ hc2 Try.underlying135 rfl hi2 (by kernel_rfl) ?_
          quiet_step ((fail))
          refine wpQuiet_nil ?_
          intro _ hw'
          obtain ⟨nq, hw''⟩ := hw'
          subst hw''
          go_wp2
          go_ret
          exact ⟨by rw [hbad.out HX.out]; rfl, below_drewN hb _⟩
      · obtain rfl : k = n := by omega
        go_wp2
        go_ret
        have e := hh.out
        rw [List.take_of_length_le (by rw [HL.out]; exact Nat.le_refl _), List.take_of_length_le (by rw [HL2.out]; exact Nat.le_refl _)] at e
        exact ⟨by rw [← HRes.out, decide_eq_true e]; rfl, hb⟩
  · have e1 : ((n : Int) != (n2 : Int)) = true := by rw [bne_iff_ne]; omega
    have hne : ¬ l = l2 := fun e => hnn (by rw [← hl, ← hl2, e])
    rw [decide_eq_false hne]
    clear hr hr2 ho ho2 hl hl2 hne hnn
    go_enter Try.func75, Try.ntmps75
    go_wp2
    go_ret
    exact ⟨rfl, Below.refl _ _⟩

set_option maxHeartbeats 4000000 in
theorem eqDv_any (A : Option Addr) (n c : Nat) (l : List Dv) (A2 : Option Addr) (n2 c2 : Nat) (l2 : List Dv) (w : World) (hn : n ≤ 9223372036854775807) (hl : l.length = n) (hl2 : l2.length = n2) (ho : ∀ r ∈ l, (fun _ => True) r) (ho2 : ∀ r ∈ l2, (fun _ => True) r)
    (hr : Rd w w.heap.size 3 A n (l.flatMap encDv)) (hr2 : Rd w w.heap.size 3 A2 n2 (l2.flatMap encDv)) :
    Calls Try.prog 76 #[.slice A n c, .slice A2 n2 c2] w fun e w' => e = .returned (.bool (decide (l = l2))) ∧ Below w.heap.size w w' := by
  by_cases hnn : n = n2
  · subst hnn
    obtain ⟨R, hR⟩ : ∃ R, decide (l = l2) = R := ⟨_, rfl⟩
    rw [hR]
    have HL := Lib.hid hl
    have HL2 := Lib.hid hl2
    have HO := Lib.hid ho
    have HO2 := Lib.hid ho2
    have HR := Lib.hid hr
    have HR2 := Lib.hid hr2
    have HRes := Lib.hid hR
    clear hl hl2 ho ho2 hr hr2 hR
    go_enter Try.func76, Try.ntmps76
    go_wp2
    go_loopw [5, 13] (fun _ i wr => ∃ k : Nat, k ≤ n ∧ i = .int .i64 k ∧ Hid (l.take k = l2.take k) ∧ Below w.heap.size w wr) (fun _ i _ => n - (intOf i).toNat)
    case atStart => exact ⟨0, by omega, rfl, Lib.hid rfl, Below.refl _ _⟩
    case round =>
      obtain ⟨k, hk, rfl, hh, hb⟩ := hrel
      by_cases hlt : k < n
      · have hlt1 : k < l.length := by rw [HL.out]; exact hlt
        have hlt2 : k < l2.length := by rw [HL2.out]; exact hlt
        obtain ⟨b, o, rfl, hbb, hc⟩ := (HR.out.below hb).range (fun x hx => len_Dv (HO.out x hx)) hlt1 HL.out
        obtain ⟨b2, o2, rfl, hbb2, hc2⟩ := (HR2.out.below hb).range (fun x hx => len_Dv (HO2.out x hx)) hlt2 HL2.out
        have ok1 := HO.out _ (List.getElem_mem hlt1)
        have ok2 := HO2.out _ (List.getElem_mem hlt2)
        have hi : (Try.prog.info? 137).map (·.size) = some (encDv l[k]).length := by rw [len_Dv ok1]; kernel_rfl
        have hi2 : (Try.prog.info? 137).map (·.size) = some (encDv l2[k]).length := by rw [len_Dv ok2]; kernel_rfl
        have hc := range_drawn hc
        have hc2 := range_drawn hc2
        have hE := fun W => ne_Dv W l[k] l2[k]
        have hstep := Lib.hid (fun he => take_step hh.out hlt1 hlt2 he)
        have hbad : Hid (l[k] ≠ l2[k] → R = false) := Lib.hid (fun h => by rw [← HRes.out]; exact decide_eq_false (fun e => h (by simp only [e])))
        clear ok1 ok2
        generalize l[k] = x at *
        generalize l2[k] = y at *
        by_cases hxy : x = y
        · rw [decide_eq_true hxy] at hE
          have HX := Lib.hid hxy
          clear hxy
          go_wp2
          refine wp_region_quiet_lit (by kernel_rfl) (by kernel_rfl) ?_
          iterate 3 (quiet_step ((fail)))
          refine wpQuiet_load 137 (.tmp 18) rfl b (o + k * 3) (by rfl) (encDv x) _ hc Try.underlying137 rfl hi (by kernel_rfl) ?_
          iterate 3 (quiet_step ((fail)))
          refine wpQuiet_load 137 (.tmp 22) rfl b2 (o2 + k * 3) (by rfl) (encDv y) _ hc2 Try.underlying137 rfl hi2 (by kernel_rfl) ?_
          quiet_step ((fail))
          refine wpQuiet_nil ?_
          intro _ hw'
          obtain ⟨nq, hw''⟩ := hw'
          subst hw''
          go_wp2
          go_roundw
          case rel => exact ⟨k + 1, by omega, by go_num, Lib.hid (hstep.out HX.out), below_drewN hb _⟩
          case measure => simp [intOf]; omega
        · rw [decide_eq_false hxy] at hE
          have HX := Lib.hid hxy
          clear hxy
          go_wp2
          refine wp_region_quiet_lit (by kernel_rfl) (by kernel_rfl) ?_
          iterate 3 (quiet_step ((fail)))
          refine wpQuiet_load 137 (.tmp 18) rfl b (o + k * 3) (by rfl) (encDv x) _ hc Try.underlying137 rfl hi (by kernel_rfl) ?_
          iterate 3 (quiet_step ((fail)))
          refine wpQuiet_load 137 (.tmp 22) rfl b2 (o2 + k * 3) (by rfl) (encDv y) _ hc2 Try.underlying137 rfl hi2 (by kernel_rfl) ?_
          quiet_step ((fail))
          refine wpQuiet_nil ?_
          intro _ hw'
          obtain ⟨nq, hw''⟩ := hw'
          subst hw''
          go_wp2
          go_ret
          exact ⟨by rw [hbad.out HX.out]; rfl, below_drewN hb _⟩
      · obtain rfl : k = n := by omega
        go_wp2
        go_ret
        have e := hh.out
        rw [List.take_of_length_le (by rw [HL.out]; exact Nat.le_refl _), List.take_of_length_le (by rw [HL2.out]; exact Nat.le_refl _)] at e
        exact ⟨by rw [← HRes.out, decide_eq_true e]; rfl, hb⟩
  · have e1 : ((n : Int) != (n2 : Int)) = true := by rw [bne_iff_ne]; omega
    have hne : ¬ l = l2 := fun e => hnn (by rw [← hl, ← hl2, e])
    rw [decide_eq_false hne]
    clear hr hr2 ho ho2 hl hl2 hne hnn
    go_enter Try.func76, Try.ntmps76
    go_wp2
    go_ret
    exact ⟨rfl, Below.refl _ _⟩

set_option maxHeartbeats 4000000 in
theorem eqIq_any (A : Option Addr) (n c : Nat) (l : List Iq) (A2 : Option Addr) (n2 c2 : Nat) (l2 : List Iq) (w : World) (hn : n ≤ 9223372036854775807) (hl : l.length = n) (hl2 : l2.length = n2) (ho : ∀ r ∈ l, (fun _ => True) r) (ho2 : ∀ r ∈ l2, (fun _ => True) r)
    (hr : Rd w w.heap.size 3 A n (l.flatMap encIq)) (hr2 : Rd w w.heap.size 3 A2 n2 (l2.flatMap encIq)) :
    Calls Try.prog 77 #[.slice A n c, .slice A2 n2 c2] w fun e w' => e = .returned (.bool (decide (l = l2))) ∧ Below w.heap.size w w' := by
  by_cases hnn : n = n2
  · subst hnn
    obtain ⟨R, hR⟩ : ∃ R, decide (l = l2) = R := ⟨_, rfl⟩
    rw [hR]
    have HL := Lib.hid hl
    have HL2 := Lib.hid hl2
    have HO := Lib.hid ho
    have HO2 := Lib.hid ho2
    have HR := Lib.hid hr
    have HR2 := Lib.hid hr2
    have HRes := Lib.hid hR
    clear hl hl2 ho ho2 hr hr2 hR
    go_enter Try.func77, Try.ntmps77
    go_wp2
    go_loopw [5, 13] (fun _ i wr => ∃ k : Nat, k ≤ n ∧ i = .int .i64 k ∧ Hid (l.take k = l2.take k) ∧ Below w.heap.size w wr) (fun _ i _ => n - (intOf i).toNat)
    case atStart => exact ⟨0, by omega, rfl, Lib.hid rfl, Below.refl _ _⟩
    case round =>
      obtain ⟨k, hk, rfl, hh, hb⟩ := hrel
      by_cases hlt : k < n
      · have hlt1 : k < l.length := by rw [HL.out]; exact hlt
        have hlt2 : k < l2.length := by rw [HL2.out]; exact hlt
        obtain ⟨b, o, rfl, hbb, hc⟩ := (HR.out.below hb).range (fun x hx => len_Iq (HO.out x hx)) hlt1 HL.out
        obtain ⟨b2, o2, rfl, hbb2, hc2⟩ := (HR2.out.below hb).range (fun x hx => len_Iq (HO2.out x hx)) hlt2 HL2.out
        have ok1 := HO.out _ (List.getElem_mem hlt1)
        have ok2 := HO2.out _ (List.getElem_mem hlt2)
        have hi : (Try.prog.info? 139).map (·.size) = some (encIq l[k]).length := by rw [len_Iq ok1]; kernel_rfl
        have hi2 : (Try.prog.info? 139).map (·.size) = some (encIq l2[k]).length := by rw [len_Iq ok2]; kernel_rfl
        have hc := range_drawn hc
        have hc2 := range_drawn hc2
        have hE := fun W => ne_Iq W l[k] l2[k]
        have hstep := Lib.hid (fun he => take_step hh.out hlt1 hlt2 he)
        have hbad : Hid (l[k] ≠ l2[k] → R = false) := Lib.hid (fun h => by rw [← HRes.out]; exact decide_eq_false (fun e => h (by simp only [e])))
        clear ok1 ok2
        generalize l[k] = x at *
        generalize l2[k] = y at *
        by_cases hxy : x = y
        · rw [decide_eq_true hxy] at hE
          have HX := Lib.hid hxy
          clear hxy
          go_wp2
          refine wp_region_quiet_lit (by kernel_rfl) (by kernel_rfl) ?_
          iterate 3 (quiet_step ((fail)))
          refine wpQuiet_load 139 (.tmp 18) rfl b (o + k * 3) (by rfl) (encIq x) _ hc Try.underlying139 rfl hi (by kernel_rfl) ?_
          iterate 3 (quiet_step ((fail)))
          refine wpQuiet_load 139 (.tmp 22) rfl b2 (o2 + k * 3) (by rfl) (encIq y) _ hc2 Try.underlying139 rfl hi2 (by kernel_rfl) ?_
          quiet_step ((fail))
          refine wpQuiet_nil ?_
          intro _ hw'
          obtain ⟨nq, hw''⟩ := hw'
          subst hw''
          go_wp2
          go_roundw
          case rel => exact ⟨k + 1, by omega, by go_num, Lib.hid (hstep.out HX.out), below_drewN hb _⟩
          case measure => simp [intOf]; omega
        · rw [decide_eq_false hxy] at hE
          have HX := Lib.hid hxy
          clear hxy
          go_wp2
          refine wp_region_quiet_lit (by kernel_rfl) (by kernel_rfl) ?_
          iterate 3 (quiet_step ((fail)))
          refine wpQuiet_load 139 (.tmp 18) rfl b (o + k * 3) (by rfl) (encIq x) _ hc Try.underlying139 rfl hi (by kernel_rfl) ?_
          iterate 3 (quiet_step ((fail)))
          refine wpQuiet_load 139 (.tmp 22) rfl b2 (o2 + k * 3) (by rfl) (encIq y) _ hc2 Try.underlying139 rfl hi2 (by kernel_rfl) ?_
          quiet_step ((fail))
          refine wpQuiet_nil ?_
          intro _ hw'
          obtain ⟨nq, hw''⟩ := hw'
          subst hw''
          go_wp2
          go_ret
          exact ⟨by rw [hbad.out HX.out]; rfl, below_drewN hb _⟩
      · obtain rfl : k = n := by omega
        go_wp2
        go_ret
        have e := hh.out
        rw [List.take_of_length_le (by rw [HL.out]; exact Nat.le_refl _), List.take_of_length_le (by rw [HL2.out]; exact Nat.le_refl _)] at e
        exact ⟨by rw [← HRes.out, decide_eq_true e]; rfl, hb⟩
  · have e1 : ((n : Int) != (n2 : Int)) = true := by rw [bne_iff_ne]; omega
    have hne : ¬ l = l2 := fun e => hnn (by rw [← hl, ← hl2, e])
    rw [decide_eq_false hne]
    clear hr hr2 ho ho2 hl hl2 hne hnn
    go_enter Try.func77, Try.ntmps77
    go_wp2
    go_ret
    exact ⟨rfl, Below.refl _ _⟩

set_option maxHeartbeats 4000000 in
theorem eqCh_any (A : Option Addr) (n c : Nat) (l : List Ch) (A2 : Option Addr) (n2 c2 : Nat) (l2 : List Ch) (w : World) (hn : n ≤ 9223372036854775807) (hl : l.length = n) (hl2 : l2.length = n2) (ho : ∀ r ∈ l, (fun _ => True) r) (ho2 : ∀ r ∈ l2, (fun _ => True) r)
    (hr : Rd w w.heap.size 8 A n (l.flatMap encCh)) (hr2 : Rd w w.heap.size 8 A2 n2 (l2.flatMap encCh)) :
    Calls Try.prog 40 #[.slice A n c, .slice A2 n2 c2] w fun e w' => e = .returned (.bool (decide (l = l2))) ∧ Below w.heap.size w w' := by
  by_cases hnn : n = n2
  · subst hnn
    obtain ⟨R, hR⟩ : ∃ R, decide (l = l2) = R := ⟨_, rfl⟩
    rw [hR]
    have HL := Lib.hid hl
    have HL2 := Lib.hid hl2
    have HO := Lib.hid ho
    have HO2 := Lib.hid ho2
    have HR := Lib.hid hr
    have HR2 := Lib.hid hr2
    have HRes := Lib.hid hR
    clear hl hl2 ho ho2 hr hr2 hR
    go_enter Try.func40, Try.ntmps40
    go_wp2
    go_loopw [5, 13] (fun _ i wr => ∃ k : Nat, k ≤ n ∧ i = .int .i64 k ∧ Hid (l.take k = l2.take k) ∧ Below w.heap.size w wr) (fun _ i _ => n - (intOf i).toNat)
    case atStart => exact ⟨0, by omega, rfl, Lib.hid rfl, Below.refl _ _⟩
    case round =>
      obtain ⟨k, hk, rfl, hh, hb⟩ := hrel
      by_cases hlt : k < n
      · have hlt1 : k < l.length := by rw [HL.out]; exact hlt
        have hlt2 : k < l2.length := by rw [HL2.out]; exact hlt
        obtain ⟨b, o, rfl, hbb, hc⟩ := (HR.out.below hb).range (fun x hx => len_Ch (HO.out x hx)) hlt1 HL.out
        obtain ⟨b2, o2, rfl, hbb2, hc2⟩ := (HR2.out.below hb).range (fun x hx => len_Ch (HO2.out x hx)) hlt2 HL2.out
        have ok1 := HO.out _ (List.getElem_mem hlt1)
        have ok2 := HO2.out _ (List.getElem_mem hlt2)
        have hi : (Try.prog.info? 77).map (·.size) = some (encCh l[k]).length := by rw [len_Ch ok1]; kernel_rfl
        have hi2 : (Try.prog.info? 77).map (·.size) = some (encCh l2[k]).length := by rw [len_Ch ok2]; kernel_rfl
        have hc := range_drawn hc
        have hc2 := range_drawn hc2
        have hE := fun W => ne_Ch W l[k] l2[k]
        have hstep := Lib.hid (fun he => take_step hh.out hlt1 hlt2 he)
        have hbad : Hid (l[k] ≠ l2[k] → R = false) := Lib.hid (fun h => by rw [← HRes.out]; exact decide_eq_false (fun e => h (by simp only [e])))
        clear ok1 ok2
        generalize l[k] = x at *
        generalize l2[k] = y at *
        by_cases hxy : x = y
        · rw [decide_eq_true hxy] at hE
          have HX := Lib.hid hxy
          clear hxy
          go_wp2
          refine wp_region_quiet_lit (by kernel_rfl) (by kernel_rfl) ?_
          iterate 3 (quiet_step ((fail)))
          refine wpQuiet_load 77 (.tmp 18) rfl b (o + k * 8) (by rfl) (encCh x) _ hc Try.underlying77 rfl hi (by kernel_rfl) ?_
          iterate 3 (quiet_step ((fail)))
          refine wpQuiet_load 77 (.tmp 22) rfl b2 (o2 + k * 8) (by rfl) (encCh y) _ hc2 Try.underlying77 rfl hi2 (by kernel_rfl) ?_
          quiet_step ((fail))
          refine wpQuiet_nil ?_
          intro _ hw'
          obtain ⟨nq, hw''⟩ := hw'
          subst hw''
          go_wp2
          go_roundw
          case rel => exact ⟨k + 1, by omega, by go_num, Lib.hid (hstep.out HX.out), below_drewN hb _⟩
          case measure => simp [intOf]; omega
        · rw [decide_eq_false hxy] at hE
          have HX := Lib.hid hxy
          clear hxy
          go_wp2
          refine wp_region_quiet_lit (by kernel_rfl) (by kernel_rfl) ?_
          iterate 3 (quiet_step ((fail)))
          refine wpQuiet_load 77 (.tmp 18) rfl b (o + k * 8) (by rfl) (encCh x) _ hc Try.underlying77 rfl hi (by kernel_rfl) ?_
          iterate 3 (quiet_step ((fail)))
          refine wpQuiet_load 77 (.tmp 22) rfl b2 (o2 + k * 8) (by rfl) (encCh y) _ hc2 Try.underlying77 rfl hi2 (by kernel_rfl) ?_
          quiet_step ((fail))
          refine wpQuiet_nil ?_
          intro _ hw'
          obtain ⟨nq, hw''⟩ := hw'
          subst hw''
          go_wp2
          go_ret
          exact ⟨by rw [hbad.out HX.out]; rfl, below_drewN hb _⟩
      · obtain rfl : k = n := by omega
        go_wp2
        go_ret
        have e := hh.out
        rw [List.take_of_length_le (by rw [HL.out]; exact Nat.le_refl _), List.take_of_length_le (by rw [HL2.out]; exact Nat.le_refl _)] at e
        exact ⟨by rw [← HRes.out, decide_eq_true e]; rfl, hb⟩
  · have e1 : ((n : Int) != (n2 : Int)) = true := by rw [bne_iff_ne]; omega
    have hne : ¬ l = l2 := fun e => hnn (by rw [← hl, ← hl2, e])
    rw [decide_eq_false hne]
    clear hr hr2 ho ho2 hl hl2 hne hnn
    go_enter Try.func40, Try.ntmps40
    go_wp2
    go_ret
    exact ⟨rfl, Below.refl _ _⟩
end Go.Proofs.Ytmhbpfclfffgkaa
