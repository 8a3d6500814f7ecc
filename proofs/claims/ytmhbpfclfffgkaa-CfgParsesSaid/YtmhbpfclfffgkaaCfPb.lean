/- Chapter 14: what is thrown is caught; cfg.Parse whole. -/
import Derived.Test.YtmhbpfclfffgkaaCfPa
import Derived.Recover
import Derived.Defers
namespace Go.Proofs.Ytmhbpfclfffgkaa
set_option linter.unusedVariables false
set_option linter.unusedSimpArgs false
open Go.RowKit Go.Sort

theorem run_wrongC (a x : Int) (w : World) : (Instr.typeAssert (.iface 115 (.agg #[.int .i64 a, .int .i64 x])) 20 115 true).run Try.prog w = .ok (.tuple #[.agg #[.int .i64 a, .int .i64 x], .bool true]) w := by kernel_rfl
set_option maxRecDepth 100000 in
set_option maxHeartbeats 2000000 in
theorem caughtC (R E : Nat) (a x : Int) (v0 e0 : Value) (w : World) (hR : Blk w R 3 #[v0]) (hE : Blk w E 29 #[e0]) (hne : R ≠ E) :
    CallsD Try.prog 61 #[.pointer (some ⟨R, 0, none⟩), .pointer (some ⟨E, 0, none⟩)] (.panicking [{ v := .iface 115 (.agg #[.int .i64 a, .int .i64 x]), recovered := false }]) w fun e u' w' =>
      e = .returned (.tuple #[]) ∧ u' = .panicking [{ v := .iface 115 (.agg #[.int .i64 a, .int .i64 x]), recovered := true }] ∧ Blk w' R 3 #[.int .i64 a] ∧ Blk w' E 29 #[.int .i64 x] ∧ Near (fun i => i = R ∨ i = E) w w' := by
  refine callsD_of_wpS Try.func61 rfl fun c₀ cs hu => ?_
  apply wpS_seq
  apply wpS_region
  simp [wpOpsS, go_sem, recoverD, hu, Try.ntmps61, Exit.thenS]
  simp only [Array.replicate, List.replicate, List.setIfInBounds_toArray, List.set_cons_succ, List.set_cons_zero, List.append_toArray, List.cons_append, List.nil_append]
  have hRb := hR.alloc (.cells #[.int .i64 a, .int .i64 x] 115)
  have hEb := hE.alloc (.cells #[.int .i64 a, .int .i64 x] 115)
  have hW := Blk.new w 115 #[.int .i64 a, .int .i64 x]
  have hn := Near.alloc (Near.refl (fun i => i = R ∨ i = E) w) (.cells #[.int .i64 a, .int .i64 x] 115)
  refine wpS_of_wp ?_
  have hrw := run_wrongC a x
  go_upto_region 5 with (fail)
  have cW := hW.cell
  have cR := hRb.cell
  have fR := hRb.frozen
  have cE := hEb.cell
  have fE := hEb.frozen
  go_region
  go_wp2_with fail
  have h1 := (hRb.set_ 0 (.int .i64 a)).far (p := ⟨E, 0, none⟩) hne (.int .i64 x)
  have h2 := (hEb.far (p := ⟨R, 0, none⟩) (by show E ≠ R; omega) (.int .i64 a)).set_ 0 (.int .i64 x)
  refine ⟨rfl, _, rfl, .tuple #[], by simp [results, Try.results61], rfl, rfl, h1.drew, h2.drew, ?_⟩
  exact ((hn.setCell (p := ⟨R, 0, none⟩) (.inl rfl) _).setCell (p := ⟨E, 0, none⟩) (.inr rfl) _).drew
theorem idleC (R E : Nat) (w : World) :
    CallsD Try.prog 61 #[.pointer (some ⟨R, 0, none⟩), .pointer (some ⟨E, 0, none⟩)] .returning w fun e u' w' => e = .returned (.tuple #[]) ∧ u' = .returning ∧ w' = w := by
  refine callsD_of_wpS Try.func61 rfl fun c₀ cs hu => ?_
  apply wpS_seq
  apply wpS_region
  simp [wpOpsS, go_sem, recoverD, hu, Try.ntmps61, Exit.thenS]
  simp only [Array.replicate, List.replicate, List.setIfInBounds_toArray, List.set_cons_succ, List.set_cons_zero, List.append_toArray, List.cons_append, List.nil_append]
  refine wpS_of_wp ?_
  go_wp2_with fail
  cases c₀
  simp_all [bodyPostS, results, Try.results61]
set_option maxRecDepth 100000 in
set_option maxHeartbeats 2000000 in
/-- A call that may throw is done; what it throws is answered. -/
theorem caughtParse (xs : Array Value) (S : Nat → Prop) (Q1 : Nat → Int → Prop) (Q2 Q3 : World → Prop) (w : World) (hS : ∀ i, S i → i < w.heap.size)
    (H : ∀ W, Below w.heap.size w W → W.heap.size = w.heap.size + 2 → Blk W w.heap.size 3 #[.int .i64 0] → Blk W (w.heap.size + 1) 29 #[.int .i64 0] → Calls Try.prog 27 xs W fun e W' => Near S W W' ∧ ((∃ a x, e = thrownC (a : Nat) x ∧ Q1 a x) ∨ (e = .returned (.tuple #[]) ∧ Q2 W')))
    (hQ : ∀ W W', Q2 W → Near (fun i => i = w.heap.size ∨ i = w.heap.size + 1) W W' → Q3 W') :
    Calls Try.prog 26 #[.func (.func 27) #[] xs] w fun e w' => Near S w w' ∧ ((∃ a x, Q1 a x ∧ e = .returned (.tuple #[.int .i64 (a : Nat), .int .i64 x])) ∨ (e = .returned (.tuple #[.int .i64 0, .int .i64 0]) ∧ Q3 w')) := by
  have hb0 := bal' (bal (Below.refl w.heap.size w) (.cells #[.int .i64 0] 3)) (.cells #[.int .i64 0] 29) (by simp)
  have hR0 := (Blk.new w 3 #[.int .i64 0]).alloc (.cells #[.int .i64 0] 29)
  have hE0 := Blk.new (w.alloc (.cells #[.int .i64 0] 3)) 29 #[.int .i64 0]
  have hz0' : (w.alloc (.cells #[.int .i64 0] 3)).heap.size = w.heap.size + 1 := by simp
  have hz0 : ((w.alloc (.cells #[.int .i64 0] 3)).alloc (.cells #[.int .i64 0] 29)).heap.size = w.heap.size + 2 := by simp
  rw [hz0'] at hE0
  go_enter_defers Try.func26, Try.ntmps26
  go_upto_region 2 with (fail)
  have H0 := Lib.hid (H _ hb0 hz0 hR0 hE0)
  generalize (w.alloc (.cells #[.int .i64 0] 3)).alloc (.cells #[.int .i64 0] 29) = w1 at *
  clear hz0' H
  have HZ0 := Lib.hid hz0
  clear hz0
  go_wp2_with (go_at_call 27; refine H0.out.mono ?_; rintro e w2 ⟨hn2, ⟨a, x, rfl, hq⟩ | ⟨rfl, hq⟩⟩ <;> (have hR2 := hR0.apart hn2 (fun h => by have := hS _ h; omega); have hE2 := hE0.apart hn2 (fun h => by have := hS _ h; omega); have cR := hR2.cell; have fR := hR2.frozen; have cE := hE2.cell; have fE := hE2.frozen))
  · refine leaves_cons (f := 61) (args := #[.pointer (some ⟨w.heap.size, 0, none⟩), .pointer (some ⟨w.heap.size + 1, 0, none⟩)]) (by simp) (by simp [go_sem]) ?_
    refine (caughtC _ _ _ _ _ _ _ hR2 hE2 (by omega)).mono ?_
    rintro e u' w'' ⟨rfl, rfl, hR', hE', hn'⟩
    have cR' := hR'.cell
    have cE' := hE'.cell
    refine ⟨.tuple #[.int .i64 a, .int .i64 x], by simp [results, Try.results26, go_sem, cR', cE'], ?_, .inl ⟨a, x, hq, rfl⟩⟩
    exact ((Near.of_below S hb0).trans hn2).step hn' (fun i hi => .inr (by omega))
  · have h1 := (hR2.set_ 0 (.int .i64 0)).far (p := ⟨w.heap.size + 1, 0, none⟩) (by show w.heap.size ≠ w.heap.size + 1; omega) (.int .i64 0)
    have h2 := (hE2.far (p := ⟨w.heap.size, 0, none⟩) (by show w.heap.size + 1 ≠ w.heap.size; omega) (.int .i64 0)).set_ 0 (.int .i64 0)
    have hn' : Near (fun i => i = w.heap.size ∨ i = w.heap.size + 1) w2 ((w2.setCell ⟨w.heap.size, 0, none⟩ (.int .i64 0)).setCell ⟨w.heap.size + 1, 0, none⟩ (.int .i64 0)) := ((Near.refl (fun i => i = w.heap.size ∨ i = w.heap.size + 1) w2).setCell (p := ⟨w.heap.size, 0, none⟩) (.inl rfl) _).setCell (p := ⟨w.heap.size + 1, 0, none⟩) (.inr rfl) _
    have cR' := h1.cell
    have cE' := h2.cell
    refine leaves_cons (f := 61) (args := #[.pointer (some ⟨w.heap.size, 0, none⟩), .pointer (some ⟨w.heap.size + 1, 0, none⟩)]) (by simp) (by simp [go_sem]) ?_
    refine (idleC _ _ _).mono ?_
    rintro e u' w'' ⟨rfl, rfl, rfl⟩
    refine ⟨.tuple #[.int .i64 0, .int .i64 0], by simp [results, Try.results26, go_sem, cR', cE'], ?_, .inr ⟨rfl, hQ _ _ hq hn'⟩⟩
    exact ((Near.of_below S hb0).trans hn2).step hn' (fun i hi => .inr (by omega))
set_option maxRecDepth 100000 in
set_option maxHeartbeats 2000000 in
/-- A call that may throw is done; what it throws is answered. -/
theorem caughtPut (xs : Array Value) (S : Nat → Prop) (Q1 : Nat → Int → Prop) (Q2 Q3 : World → Prop) (w : World) (hS : ∀ i, S i → i < w.heap.size)
    (H : ∀ W, Below w.heap.size w W → W.heap.size = w.heap.size + 2 → Blk W w.heap.size 3 #[.int .i64 0] → Blk W (w.heap.size + 1) 29 #[.int .i64 0] → Calls Try.prog 41 xs W fun e W' => Near S W W' ∧ ((∃ a x, e = thrownC (a : Nat) x ∧ Q1 a x) ∨ (e = .returned (.tuple #[]) ∧ Q2 W')))
    (hQ : ∀ W W', Q2 W → Near (fun i => i = w.heap.size ∨ i = w.heap.size + 1) W W' → Q3 W') :
    Calls Try.prog 26 #[.func (.func 41) #[] xs] w fun e w' => Near S w w' ∧ ((∃ a x, Q1 a x ∧ e = .returned (.tuple #[.int .i64 (a : Nat), .int .i64 x])) ∨ (e = .returned (.tuple #[.int .i64 0, .int .i64 0]) ∧ Q3 w')) := by
  have hb0 := bal' (bal (Below.refl w.heap.size w) (.cells #[.int .i64 0] 3)) (.cells #[.int .i64 0] 29) (by simp)
  have hR0 := (Blk.new w 3 #[.int .i64 0]).alloc (.cells #[.int .i64 0] 29)
  have hE0 := Blk.new (w.alloc (.cells #[.int .i64 0] 3)) 29 #[.int .i64 0]
  have hz0' : (w.alloc (.cells #[.int .i64 0] 3)).heap.size = w.heap.size + 1 := by simp
  have hz0 : ((w.alloc (.cells #[.int .i64 0] 3)).alloc (.cells #[.int .i64 0] 29)).heap.size = w.heap.size + 2 := by simp
  rw [hz0'] at hE0
  go_enter_defers Try.func26, Try.ntmps26
  go_upto_region 2 with (fail)
  have H0 := Lib.hid (H _ hb0 hz0 hR0 hE0)
  generalize (w.alloc (.cells #[.int .i64 0] 3)).alloc (.cells #[.int .i64 0] 29) = w1 at *
  clear hz0' H
  have HZ0 := Lib.hid hz0
  clear hz0
  go_wp2_with (go_at_call 41; refine H0.out.mono ?_; rintro e w2 ⟨hn2, ⟨a, x, rfl, hq⟩ | ⟨rfl, hq⟩⟩ <;> (have hR2 := hR0.apart hn2 (fun h => by have := hS _ h; omega); have hE2 := hE0.apart hn2 (fun h => by have := hS _ h; omega); have cR := hR2.cell; have fR := hR2.frozen; have cE := hE2.cell; have fE := hE2.frozen))
  · refine leaves_cons (f := 61) (args := #[.pointer (some ⟨w.heap.size, 0, none⟩), .pointer (some ⟨w.heap.size + 1, 0, none⟩)]) (by simp) (by simp [go_sem]) ?_
    refine (caughtC _ _ _ _ _ _ _ hR2 hE2 (by omega)).mono ?_
    rintro e u' w'' ⟨rfl, rfl, hR', hE', hn'⟩
    have cR' := hR'.cell
    have cE' := hE'.cell
    refine ⟨.tuple #[.int .i64 a, .int .i64 x], by simp [results, Try.results26, go_sem, cR', cE'], ?_, .inl ⟨a, x, hq, rfl⟩⟩
    exact ((Near.of_below S hb0).trans hn2).step hn' (fun i hi => .inr (by omega))
  · have h1 := (hR2.set_ 0 (.int .i64 0)).far (p := ⟨w.heap.size + 1, 0, none⟩) (by show w.heap.size ≠ w.heap.size + 1; omega) (.int .i64 0)
    have h2 := (hE2.far (p := ⟨w.heap.size, 0, none⟩) (by show w.heap.size + 1 ≠ w.heap.size; omega) (.int .i64 0)).set_ 0 (.int .i64 0)
    have hn' : Near (fun i => i = w.heap.size ∨ i = w.heap.size + 1) w2 ((w2.setCell ⟨w.heap.size, 0, none⟩ (.int .i64 0)).setCell ⟨w.heap.size + 1, 0, none⟩ (.int .i64 0)) := ((Near.refl (fun i => i = w.heap.size ∨ i = w.heap.size + 1) w2).setCell (p := ⟨w.heap.size, 0, none⟩) (.inl rfl) _).setCell (p := ⟨w.heap.size + 1, 0, none⟩) (.inr rfl) _
    have cR' := h1.cell
    have cE' := h2.cell
    refine leaves_cons (f := 61) (args := #[.pointer (some ⟨w.heap.size, 0, none⟩), .pointer (some ⟨w.heap.size + 1, 0, none⟩)]) (by simp) (by simp [go_sem]) ?_
    refine (idleC _ _ _).mono ?_
    rintro e u' w'' ⟨rfl, rfl, rfl⟩
    refine ⟨.tuple #[.int .i64 0, .int .i64 0], by simp [results, Try.results26, go_sem, cR', cE'], ?_, .inr ⟨rfl, hQ _ _ hq hn'⟩⟩
    exact ((Near.of_below S hb0).trans hn2).step hn' (fun i hi => .inr (by omega))
set_option maxRecDepth 100000 in
set_option maxHeartbeats 2000000 in
/-- Parse's closure: the parser made, and the configuration read into its box. -/
theorem parse1_any (A : Option Addr) (n c : Nat) (b : List Int) (gb gc : Nat) (w : World) (hl : b.length = n) (hok : BytesOk b) (hm : n ≤ 65536) (hnc : n ≤ c) (hcm : c ≤ maxLen) (hr : Rd w w.heap.size 1 A n (b.flatMap encB))
    (hB : Blk w gb 22 #[.slice A n c]) (hC : Blk w gc 28 #[.int .u32 0, .slice none 0 0, .slice none 0 0]) :
    Calls Try.prog 27 #[.pointer (some ⟨gb, 0, none⟩), .pointer (some ⟨gc, 0, none⟩)] w fun e w' => Near (fun i => i = gc) w w' ∧ ((∃ a x, e = thrownC (a : Nat) x ∧ configP b 0 = .error (a, x)) ∨
      (e = .returned (.tuple #[]) ∧ ∃ (x : CfD) (L : List (Gs × Gp)) (A1 : Option Addr) (c1 : Nat) (A2 : Option Addr) (c2 a' : Nat), configP b 0 = .ok (x, a') ∧ Blk w' gc 28 #[.int .u32 x.ver, .slice A1 L.length c1, .slice A2 x.cs.length c2] ∧ ConfO ⟨w.heap.size, A, n, c⟩ x L A1 c1 A2 c2 w')) := by
  have cB := hB.cell
  have hP := Blk.new w 56 (Prs.cs ⟨w.heap.size, A, n, c⟩ 0)
  have hb1 := bal (Below.refl w.heap.size w) (.cells (Prs.cs ⟨w.heap.size, A, n, c⟩ 0) 56)
  have hR : PRows (w.alloc (.cells (Prs.cs ⟨w.heap.size, A, n, c⟩ 0) 56)) ⟨w.heap.size, A, n, c⟩ b w.heap.size := ⟨hl, hok, hm, hnc, hcm, Nat.le_refl _, hr.below hb1⟩
  have hcl := hC.lt
  have hC1 := hC.kept hb1
  have H := Lib.hid ((config_any ⟨w.heap.size, A, n, c⟩ b w.heap.size 0 _ hR hP (by omega)))
  unfold Prs.cs at H hb1 hC1
  clear hR hP
  go_enter Try.func27, Try.ntmps27
  go_wp2_with (go_at_call 28; refine H.out.mono ?_; rintro e1 w2 ⟨hn1, ⟨a1, y1, h1, rfl⟩ | ⟨x, a1, v, h1, rfl, ⟨L, A1, c1, A2, c2, rfl, hO⟩, hB1⟩⟩ <;> (have hC2 := hC1.apart hn1 (by show ¬ gc = w.heap.size; omega); have cC := hC2.cell; have fC := hC2.frozen))
  · exact ⟨rfl, (Near.of_below (fun i => i = gc) hb1).step hn1 (fun i hi => .inr (by have : i = w.heap.size := hi; omega)), .inl ⟨_, _, rfl, h1⟩⟩
  · have h2 := ((hC2.set_ 0 (.int .u32 x.ver)).set_ 1 (.slice A1 L.length c1)).set_ 2 (.slice A2 x.cs.length c2)
    have hn' : Near (fun i => i = gc) w2 (((w2.setCell ⟨gc, 0, none⟩ (.int .u32 x.ver)).setCell ⟨gc, 1, none⟩ (.slice A1 L.length c1)).setCell ⟨gc, 2, none⟩ (.slice A2 x.cs.length c2)) :=
      (((Near.refl (fun i => i = gc) w2).setCell (p := ⟨gc, 0, none⟩) rfl _).setCell (p := ⟨gc, 1, none⟩) rfl _).setCell (p := ⟨gc, 2, none⟩) rfl _
    refine bodyPost_end (results_none rfl _ _ _) rfl ⟨?_, .inr ⟨rfl, x, L, A1, c1, A2, c2, a1, h1, by simpa using h2, hO.low hn' (fun i hi => by show i ≤ w.heap.size; omega)⟩⟩
    exact ((Near.of_below (fun i => i = gc) hb1).step hn1 (fun i hi => .inr (by have : i = w.heap.size := hi; omega))).trans hn'
end Go.Proofs.Ytmhbpfclfffgkaa
