/- Chapter 27, the law PolicySame: it returns true whatever the input, and leaves what was there. -/
import Derived.Test.YtjjbpiejplfbpaaPolL
import Derived.Test.YtjjbpiejplfbpaaPolM
import Derived.BigQuiet
namespace Go.Proofs.Ytjjbpiejplfbpaa
set_option linter.unusedVariables false
open Go.RowKit Go.Sort Go.ChangeShapes Go.WideShapes Go.BigFrame

def mfew (m : Mf) : Bool := decide (m.n ≤ 80 ∧ m.n2 ≤ 30)
set_option maxRecDepth 100000 in
set_option maxHeartbeats 4000000 in
theorem mfew_any (m : Mf) (w : World) (hr : m.regs.length = 64) (hn : m.n ≤ 9223372036854775807) (hn2 : m.n2 ≤ 9223372036854775807) :
    Calls Try.prog 12 #[.agg m.cs.toArray] w fun e w' => e = .returned (.bool (mfew m)) ∧ Below w.heap.size w w' := by
  have hsz : m.cs.toArray.size = 71 := by simp [Mf.len hr]
  have HB0 := Lib.hid (Blk.new w 55 m.cs.toArray)
  have HbX := Lib.hid (bal (Below.refl w.heap.size w) (.cells m.cs.toArray 55))
  obtain ⟨c69, c70⟩ := mcellL hr HB0.out
  by_cases h1 : m.n ≤ 80
  · by_cases h2 : m.n2 ≤ 30
    · have HF := Lib.hid (show mfew m = true by unfold mfew; exact decide_eq_true ⟨h1, h2⟩)
      go_enter Try.func12, Try.ntmps12
      go_wp2
      go_ret
      exact ⟨by rw [HF.out]; show Ending.returned (.bool (decide ((m.n2 : Int) ≤ 30))) = _; rw [decide_eq_true (by omega)], HbX.out⟩
    · have HF := Lib.hid (show mfew m = false by unfold mfew; exact decide_eq_false (fun h => h2 h.2))
      go_enter Try.func12, Try.ntmps12
      go_wp2
      go_ret
      exact ⟨by rw [HF.out]; show Ending.returned (.bool (decide ((m.n2 : Int) ≤ 30))) = _; rw [decide_eq_false (by omega)], HbX.out⟩
  · have HF := Lib.hid (show mfew m = false by unfold mfew; exact decide_eq_false (fun h => h1 h.1))
    go_enter Try.func12, Try.ntmps12
    go_wp2
    go_ret
    exact ⟨by rw [HF.out]; rfl, HbX.out⟩

theorem range_regrown {w : World} {g : Nat} {t : TypeId} {cs : List Value} (h : Blk w g t cs.toArray) : ∀ W, (∃ p : Regrown, W = grow (redrawn w p.d) p.os) → W.rangeAt g 0 cs := by
  rintro W ⟨p, rfl⟩ j u hu
  rw [Nat.zero_add, blk_regrown h]
  simpa using hu
theorem mfEq_self (a : Mf) : mfEq a a = true := by unfold mfEq; exact decide_eq_true ⟨rfl, rfl, rfl, rfl, rfl, rfl, rfl, rfl⟩

theorem wpQuiet_skip {P : Program} {ops : Array Oper} {C : World → Prop} {Q : Act → Prop} {rest : List Oper} {o : Oper} {a : Act} (hw : Region.wanted o (yielded ops a.tmps) = false)
    (h : wpQuiet P ops C Q rest (a.put o.dst undef)) : wpQuiet P ops C Q (o :: rest) a := by
  unfold wpQuiet
  rw [if_neg (by rw [hw]; decide)]
  exact h
set_option maxRecDepth 100000 in
set_option maxHeartbeats 8000000 in
theorem policySame_any (a b : Mf) (w : World) (ha : MfOk w w.heap.size a) (hb : MfOk w w.heap.size b) (hna : a.n ≤ 9223372036854775807) (hna2 : a.n2 ≤ 9223372036854775807) (hnb : b.n ≤ 9223372036854775807) (hnb2 : b.n2 ≤ 9223372036854775807) :
    Calls Try.prog 5 #[.agg a.cs.toArray, .agg b.cs.toArray] w fun e w' => e = .returned (.bool true) ∧ Below w.heap.size w w' := by
  have hsa : a.cs.toArray.size = 71 := by simp [Mf.len ha.rl]
  have hsb : b.cs.toArray.size = 71 := by simp [Mf.len hb.rl]
  have HA := Lib.hid ((Blk.new w 55 a.cs.toArray).alloc (.cells b.cs.toArray 55))
  have HB : Hid (Blk ((w.alloc (.cells a.cs.toArray 55)).alloc (.cells b.cs.toArray 55)) (w.heap.size + 1) 55 b.cs.toArray) := Lib.hid (by
    have := Blk.new (w.alloc (.cells a.cs.toArray 55)) 55 b.cs.toArray
    simpa using this)
  have HbX := Lib.hid (bal (bal (Below.refl w.heap.size w) (.cells a.cs.toArray 55)) (.cells b.cs.toArray 55))
  have Hia : Hid ((Try.prog.info? 55).map (·.size) = some a.cs.length) := Lib.hid (by rw [Mf.len ha.rl]; kernel_rfl)
  have Hib : Hid ((Try.prog.info? 55).map (·.size) = some b.cs.length) := Lib.hid (by rw [Mf.len hb.rl]; kernel_rfl)
  have HWa := Lib.hid (fun W => mfew_any a W ha.rl hna hna2)
  have HWb := Lib.hid (fun W => mfew_any b W hb.rl hnb hnb2)
  cases hfa : mfew a with
  | false =>
    rw [hfa] at HWa
    have HWs := Lib.hid (fun (W : World) (h : Below w.heap.size w W) => trivial)
    have HWt := HWs
    have HWu := HWs
    clear ha hb hna hna2 hnb hnb2 hfa
    go_enter Try.func5, Try.ntmps5
    go_wp2_with (go_at_call 8; refine (awake27_any _).mono ?_; rintro e w1 ⟨rfl, hb1⟩; have hbx1 := HbX.out.trans (hb1.mono HbX.out.size); have hA1 := HA.out.kept hb1; have hB1 := HB.out.kept hb1)
    have hCA := range_regrown hA1
    have hCB := range_regrown hB1
    have HFa := Lib.hid (fun (d : Nat) (os : Array Obj) => HWa.out (grow (redrawn w1 d) os))
    have HFb := Lib.hid (fun (d : Nat) (os : Array Obj) => HWb.out (grow (redrawn w1 d) os))
    have HS := Lib.hid (fun (d : Nat) (os : Array Obj) => HWs.out (grow (redrawn w1 d) os) (hbx1.trans ((below_regrown w1 d os).mono hbx1.size)))
    have HT := Lib.hid (fun (d : Nat) (os : Array Obj) => HWt.out (grow (redrawn w1 d) os) (hbx1.trans ((below_regrown w1 d os).mono hbx1.size)))
    have HU := Lib.hid (fun (d : Nat) (os : Array Obj) => HWu.out (grow (redrawn w1 d) os) (hbx1.trans ((below_regrown w1 d os).mono hbx1.size)))
    refine wp_region_quiet_below (by kernel_rfl) (by kernel_rfl) ?_
    refine wpQuiet_load 55 (.tmp 2) rfl w.heap.size 0 (by rfl) a.cs _ hCA Try.underlying55 rfl Hia.out (by kernel_rfl) ?_
    quiet_step ((go_at_call 12; with_reducible exact regrown (HFa.out _ _)))
    repeat (go_big_quiet_step (fail))
    refine wpQuiet_nil ?_
    rintro w2 ⟨p, rfl⟩
    have hb2 := below_regrown w1 p.d p.os
    go_wp2
    go_ret
    exact ⟨rfl, hbx1.trans (hb2.mono hbx1.size)⟩
  | true =>
    rw [hfa] at HWa
    have hsm : a.n ≤ 80 ∧ a.n2 ≤ 30 := of_decide_eq_true hfa
    have HWs := Lib.hid (fun W (h : Below w.heap.size w W) => msame_any a b W (ha.below h h.size) (hb.below h h.size) (by omega) (by omega))
    have HWt := Lib.hid (fun W (h : Below w.heap.size w W) => refSame_any a b W (ha.below h h.size) (hb.below h h.size) (by omega) (by omega))
    have HWu := Lib.hid (fun W (h : Below w.heap.size w W) => msame_any a a W (ha.below h h.size) (ha.below h h.size) (by omega) (by omega))
    rw [mfEq_self a] at HWu
    generalize mfEq a b = R at *
    clear ha hb hna hna2 hnb hnb2 hfa hsm
    cases hfb : mfew b with
    | false =>
      rw [hfb] at HWb
      clear hfb
      go_enter Try.func5, Try.ntmps5
      go_wp2_with (go_at_call 8; refine (awake27_any _).mono ?_; rintro e w1 ⟨rfl, hb1⟩; have hbx1 := HbX.out.trans (hb1.mono HbX.out.size); have hA1 := HA.out.kept hb1; have hB1 := HB.out.kept hb1)
      have hCA := range_regrown hA1
      have hCB := range_regrown hB1
      have HFa := Lib.hid (fun (d : Nat) (os : Array Obj) => HWa.out (grow (redrawn w1 d) os))
      have HFb := Lib.hid (fun (d : Nat) (os : Array Obj) => HWb.out (grow (redrawn w1 d) os))
      have HS := Lib.hid (fun (d : Nat) (os : Array Obj) => HWs.out (grow (redrawn w1 d) os) (hbx1.trans ((below_regrown w1 d os).mono hbx1.size)))
      have HT := Lib.hid (fun (d : Nat) (os : Array Obj) => HWt.out (grow (redrawn w1 d) os) (hbx1.trans ((below_regrown w1 d os).mono hbx1.size)))
      have HU := Lib.hid (fun (d : Nat) (os : Array Obj) => HWu.out (grow (redrawn w1 d) os) (hbx1.trans ((below_regrown w1 d os).mono hbx1.size)))
      refine wp_region_quiet_below (by kernel_rfl) (by kernel_rfl) ?_
      refine wpQuiet_load 55 (.tmp 2) rfl w.heap.size 0 (by rfl) a.cs _ hCA Try.underlying55 rfl Hia.out (by kernel_rfl) ?_
      quiet_step ((go_at_call 12; with_reducible exact regrown (HFa.out _ _)))
      iterate 2 (quiet_step ((fail)))
      refine wpQuiet_load 55 (.tmp 3) rfl (w.heap.size + 1) 0 (by rfl) b.cs _ hCB Try.underlying55 rfl Hib.out (by kernel_rfl) ?_
      quiet_step ((go_at_call 12; with_reducible exact regrown (HFb.out _ _)))
      repeat (go_big_quiet_step (fail))
      refine wpQuiet_nil ?_
      rintro w2 ⟨p, rfl⟩
      have hb2 := below_regrown w1 p.d p.os
      go_wp2
      go_ret
      exact ⟨rfl, hbx1.trans (hb2.mono hbx1.size)⟩
    | true =>
      rw [hfb] at HWb
      clear hfb
      cases R with
      | false =>
        go_enter Try.func5, Try.ntmps5
        go_wp2_with (go_at_call 8; refine (awake27_any _).mono ?_; rintro e w1 ⟨rfl, hb1⟩; have hbx1 := HbX.out.trans (hb1.mono HbX.out.size); have hA1 := HA.out.kept hb1; have hB1 := HB.out.kept hb1)
        have hCA := range_regrown hA1
        have hCB := range_regrown hB1
        have HFa := Lib.hid (fun (d : Nat) (os : Array Obj) => HWa.out (grow (redrawn w1 d) os))
        have HFb := Lib.hid (fun (d : Nat) (os : Array Obj) => HWb.out (grow (redrawn w1 d) os))
        have HS := Lib.hid (fun (d : Nat) (os : Array Obj) => HWs.out (grow (redrawn w1 d) os) (hbx1.trans ((below_regrown w1 d os).mono hbx1.size)))
        have HT := Lib.hid (fun (d : Nat) (os : Array Obj) => HWt.out (grow (redrawn w1 d) os) (hbx1.trans ((below_regrown w1 d os).mono hbx1.size)))
        have HU := Lib.hid (fun (d : Nat) (os : Array Obj) => HWu.out (grow (redrawn w1 d) os) (hbx1.trans ((below_regrown w1 d os).mono hbx1.size)))
        refine wp_region_quiet_below (by kernel_rfl) (by kernel_rfl) ?_
        refine wpQuiet_load 55 (.tmp 2) rfl w.heap.size 0 (by rfl) a.cs _ hCA Try.underlying55 rfl Hia.out (by kernel_rfl) ?_
        quiet_step ((go_at_call 12; with_reducible exact regrown (HFa.out _ _)))
        iterate 2 (quiet_step ((fail)))
        refine wpQuiet_load 55 (.tmp 3) rfl (w.heap.size + 1) 0 (by rfl) b.cs _ hCB Try.underlying55 rfl Hib.out (by kernel_rfl) ?_
        quiet_step ((go_at_call 12; with_reducible exact regrown (HFb.out _ _)))
        iterate 3 (quiet_step ((fail)))
        refine wpQuiet_load 55 (.tmp 2) rfl w.heap.size 0 (by rfl) a.cs _ hCA Try.underlying55 rfl Hia.out (by kernel_rfl) ?_
        refine wpQuiet_load 55 (.tmp 3) rfl (w.heap.size + 1) 0 (by rfl) b.cs _ hCB Try.underlying55 rfl Hib.out (by kernel_rfl) ?_
        quiet_step ((go_at_call 13; with_reducible exact regrown (HS.out _ _)))
        refine wpQuiet_load 55 (.tmp 2) rfl w.heap.size 0 (by rfl) a.cs _ hCA Try.underlying55 rfl Hia.out (by kernel_rfl) ?_
        refine wpQuiet_load 55 (.tmp 3) rfl (w.heap.size + 1) 0 (by rfl) b.cs _ hCB Try.underlying55 rfl Hib.out (by kernel_rfl) ?_
        quiet_step ((go_at_call 14; with_reducible exact regrown (HT.out _ _)))
        iterate 2 (quiet_step ((fail)))
        refine wpQuiet_load 55 (.tmp 2) rfl w.heap.size 0 (by rfl) a.cs _ hCA Try.underlying55 rfl Hia.out (by kernel_rfl) ?_
        refine wpQuiet_load 55 (.tmp 2) rfl w.heap.size 0 (by rfl) a.cs _ hCA Try.underlying55 rfl Hia.out (by kernel_rfl) ?_
        quiet_step ((go_at_call 13; with_reducible exact regrown (HU.out _ _)))
        repeat (quiet_step ((fail)))
        refine wpQuiet_nil ?_
        rintro w2 ⟨p, rfl⟩
        have hb2 := below_regrown w1 p.d p.os
        go_wp2
        go_ret
        exact ⟨rfl, hbx1.trans (hb2.mono hbx1.size)⟩
      | true =>
        go_enter Try.func5, Try.ntmps5
        go_wp2_with (go_at_call 8; refine (awake27_any _).mono ?_; rintro e w1 ⟨rfl, hb1⟩; have hbx1 := HbX.out.trans (hb1.mono HbX.out.size); have hA1 := HA.out.kept hb1; have hB1 := HB.out.kept hb1)
        have hCA := range_regrown hA1
        have hCB := range_regrown hB1
        have HFa := Lib.hid (fun (d : Nat) (os : Array Obj) => HWa.out (grow (redrawn w1 d) os))
        have HFb := Lib.hid (fun (d : Nat) (os : Array Obj) => HWb.out (grow (redrawn w1 d) os))
        have HS := Lib.hid (fun (d : Nat) (os : Array Obj) => HWs.out (grow (redrawn w1 d) os) (hbx1.trans ((below_regrown w1 d os).mono hbx1.size)))
        have HT := Lib.hid (fun (d : Nat) (os : Array Obj) => HWt.out (grow (redrawn w1 d) os) (hbx1.trans ((below_regrown w1 d os).mono hbx1.size)))
        have HU := Lib.hid (fun (d : Nat) (os : Array Obj) => HWu.out (grow (redrawn w1 d) os) (hbx1.trans ((below_regrown w1 d os).mono hbx1.size)))
        refine wp_region_quiet_below (by kernel_rfl) (by kernel_rfl) ?_
        refine wpQuiet_load 55 (.tmp 2) rfl w.heap.size 0 (by rfl) a.cs _ hCA Try.underlying55 rfl Hia.out (by kernel_rfl) ?_
        quiet_step ((go_at_call 12; with_reducible exact regrown (HFa.out _ _)))
        iterate 2 (quiet_step ((fail)))
        refine wpQuiet_load 55 (.tmp 3) rfl (w.heap.size + 1) 0 (by rfl) b.cs _ hCB Try.underlying55 rfl Hib.out (by kernel_rfl) ?_
        quiet_step ((go_at_call 12; with_reducible exact regrown (HFb.out _ _)))
        iterate 3 (quiet_step ((fail)))
        refine wpQuiet_load 55 (.tmp 2) rfl w.heap.size 0 (by rfl) a.cs _ hCA Try.underlying55 rfl Hia.out (by kernel_rfl) ?_
        refine wpQuiet_load 55 (.tmp 3) rfl (w.heap.size + 1) 0 (by rfl) b.cs _ hCB Try.underlying55 rfl Hib.out (by kernel_rfl) ?_
        quiet_step ((go_at_call 13; with_reducible exact regrown (HS.out _ _)))
        refine wpQuiet_load 55 (.tmp 2) rfl w.heap.size 0 (by rfl) a.cs _ hCA Try.underlying55 rfl Hia.out (by kernel_rfl) ?_
        refine wpQuiet_load 55 (.tmp 3) rfl (w.heap.size + 1) 0 (by rfl) b.cs _ hCB Try.underlying55 rfl Hib.out (by kernel_rfl) ?_
        quiet_step ((go_at_call 14; with_reducible exact regrown (HT.out _ _)))
        iterate 2 (quiet_step ((fail)))
        refine wpQuiet_load 55 (.tmp 2) rfl w.heap.size 0 (by rfl) a.cs _ hCA Try.underlying55 rfl Hia.out (by kernel_rfl) ?_
        refine wpQuiet_load 55 (.tmp 2) rfl w.heap.size 0 (by rfl) a.cs _ hCA Try.underlying55 rfl Hia.out (by kernel_rfl) ?_
        quiet_step ((go_at_call 13; with_reducible exact regrown (HU.out _ _)))
        repeat (quiet_step ((fail)))
        refine wpQuiet_nil ?_
        rintro w2 ⟨p, rfl⟩
        have hb2 := below_regrown w1 p.d p.os
        go_wp2
        go_ret
        exact ⟨rfl, hbx1.trans (hb2.mono hbx1.size)⟩

set_option maxRecDepth 100000 in
theorem policySame_law : LawWalk Try.prog 5 Try.f5 := by
  intro H enc W base args ds p hval hA hlt hfz hsz
  rw [Try.params5] at hA hval
  obtain ⟨v0, v1, d0, d1, p0, p1, rfl, rfl, rfl, h0, h1⟩ := trodAll_two hA
  obtain ⟨a, rfl, ha, ha1, ha2⟩ := open_manifest (hval 0 55 v0 rfl rfl) h0 (fun x hx => hlt x (by simp [hx]))
  obtain ⟨b, rfl, hb, hb1, hb2⟩ := open_manifest (hval 1 55 v1 rfl rfl) h1 (fun x hx => hlt x (by simp [hx]))
  exact policySame_any a b W ha hb ha1 ha2 hb1 hb2
theorem policySame_proved : Rows.PolicySameSaid :=
  OpenClaim.holds_of_wide 5 Try.f5 rfl rfl rfl rfl rfl rfl rfl ⟨rfl, rfl, rfl, rfl, rfl⟩ rfl rfl rfl rfl rfl (by kernel_rfl) Try.func5 (by kernel_rfl)
    (of_decide_eq_true (by kernel_rfl)) (by unfold Func.isWrapper; rw [if_neg (of_decide_eq_false (by kernel_rfl))]; exact ⟨rfl, rfl⟩)
    (fun os started H enc _ => law_lifted (C := Try.checked) (s := Rows.policySameSpec) started own laidOut (by kernel_rfl) Try.func5 rfl (n := 2) (by kernel_rfl) (fun ds h => by match ds, h with | [_, _], _ => rfl) (tb := 4) (by kernel_rfl) Try.underlying4 (by kernel_rfl)
      (ChangeSpec.witness6 (enc := enc) (C := Try.checked) false ⟨#[], #[.agg #[.int .u32 0, .int .u64 0, .int .u64 0, .int .u64 0, .int .i64 0, .int .u8 0, .int .u8 0, .int .u8 0, .int .u8 0, .int .u8 0, .int .u8 0, .int .u8 0, .int .u8 0, .int .u8 0, .int .u8 0, .int .u8 0, .int .u8 0, .int .u8 0, .int .u8 0, .int .u8 0, .int .u8 0, .int .u8 0, .int .u8 0, .int .u8 0, .int .u8 0, .int .u8 0, .int .u8 0, .int .u8 0, .int .u8 0, .int .u8 0, .int .u8 0, .int .u8 0, .int .u8 0, .int .u8 0, .int .u8 0, .int .u8 0, .int .u8 0, .int .u8 0, .int .u8 0, .int .u8 0, .int .u8 0, .int .u8 0, .int .u8 0, .int .u8 0, .int .u8 0, .int .u8 0, .int .u8 0, .int .u8 0, .int .u8 0, .int .u8 0, .int .u8 0, .int .u8 0, .int .u8 0, .int .u8 0, .int .u8 0, .int .u8 0, .int .u8 0, .int .u8 0, .int .u8 0, .int .u8 0, .int .u8 0, .int .u8 0, .int .u8 0, .int .u8 0, .int .u8 0, .int .u8 0, .int .u8 0, .int .u8 0, .int .u8 0, .slice none 0 0, .slice none 0 0], .agg #[.int .u32 0, .int .u64 0, .int .u64 0, .int .u64 0, .int .i64 0, .int .u8 0, .int .u8 0, .int .u8 0, .int .u8 0, .int .u8 0, .int .u8 0, .int .u8 0, .int .u8 0, .int .u8 0, .int .u8 0, .int .u8 0, .int .u8 0, .int .u8 0, .int .u8 0, .int .u8 0, .int .u8 0, .int .u8 0, .int .u8 0, .int .u8 0, .int .u8 0, .int .u8 0, .int .u8 0, .int .u8 0, .int .u8 0, .int .u8 0, .int .u8 0, .int .u8 0, .int .u8 0, .int .u8 0, .int .u8 0, .int .u8 0, .int .u8 0, .int .u8 0, .int .u8 0, .int .u8 0, .int .u8 0, .int .u8 0, .int .u8 0, .int .u8 0, .int .u8 0, .int .u8 0, .int .u8 0, .int .u8 0, .int .u8 0, .int .u8 0, .int .u8 0, .int .u8 0, .int .u8 0, .int .u8 0, .int .u8 0, .int .u8 0, .int .u8 0, .int .u8 0, .int .u8 0, .int .u8 0, .int .u8 0, .int .u8 0, .int .u8 0, .int .u8 0, .int .u8 0, .int .u8 0, .int .u8 0, .int .u8 0, .int .u8 0, .slice none 0 0, .slice none 0 0]], []⟩ 8 (by kernel_rfl) (by kernel_rfl) (by kernel_rfl) (by kernel_rfl)) policySame_law)
end Go.Proofs.Ytjjbpiejplfbpaa
