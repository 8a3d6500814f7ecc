/- Chapter 27, the law PolicyBack: it returns true whatever the input, and leaves what was there. -/
import Derived.Test.YtjjbpiejplfbpaaPolN
import Derived.Test.YtjjbpiejplfbpaaPolS
import Derived.Test.YtjjbpiejplfbpaaPolT
namespace Go.Proofs.Ytjjbpiejplfbpaa
set_option linter.unusedVariables false
open Go.RowKit Go.Sort Go.ChangeShapes

theorem awake27_call {w W : World} (h : Below w.heap.size w W) {g : Nat} {cs : List Value} (hr : W.rangeAt g 0 cs) (hg : g < W.heap.size) : Calls Try.prog 8 #[] W fun e w1 => e = .returned (.bool true) ∧ Below W.heap.size W w1 ∧ w1.rangeAt g 0 cs ∧ Below w.heap.size w w1 :=
  (awake27_any W).mono fun e w1 ⟨he, hb⟩ => ⟨he, hb, range_below hr hg hb, h.trans (hb.mono h.size)⟩
theorem few_call (m : Mf) {w W : World} (hl : m.regs.length = 64) (hn : m.n ≤ 9223372036854775807) (hn2 : m.n2 ≤ 9223372036854775807) (h : Below w.heap.size w W) {g : Nat} {cs : List Value} (hr : W.rangeAt g 0 cs) (hg : g < W.heap.size) : Calls Try.prog 12 #[.agg m.cs.toArray] W fun e w1 => e = .returned (.bool (mfew m)) ∧ Below W.heap.size W w1 ∧ w1.rangeAt g 0 cs ∧ Below w.heap.size w w1 :=
  (mfew_any m W hl hn hn2).mono fun e w1 ⟨he, hb⟩ => ⟨he, hb, range_below hr hg hb, h.trans (hb.mono h.size)⟩
theorem of_call {m : Mf} {w W : World} {A : Option Addr} {n c : Nat} (hm : MfOk w w.heap.size m) (hp : mputOk m = true) (hn : (mBytes m).length = n) (h3 : n ≤ 30000) (h2 : m.n2 ≤ 1000) (hnc : n ≤ c) (hr : Rd W W.heap.size 1 A n ((mBytes m).flatMap encB)) :
    Calls Try.prog 17 #[.slice A n c] W fun e w' => ∃ f : Mf, e = .returned (.tuple #[.agg f.cs.toArray, .int .i64 0]) ∧ MfOk w' w'.heap.size f ∧ f.n ≤ 100000 ∧ f.n2 ≤ 100000 ∧ mfEq f m = true ∧ Below W.heap.size W w' :=
  (policyOf_any A n c (mBytes m) W hn (mBytes_ok hm.rb hm.lo) h3 hnc hr).mono fun e w' ⟨hh, hb⟩ => by
    rcases hh with ⟨_, A1, n1, c1, A2, n2, c2, he, hf, h4, h5⟩ | ⟨h', _⟩
    · exact ⟨_, he, hf, Nat.le_trans h4 (by decide), Nat.le_trans h5 (by decide), mfEq_lie hm hp h2 _ _ _ _ _ _, hb⟩
    · rw [mofOk_bytes hm hp h2] at h'; cases h'

set_option maxRecDepth 100000 in
set_option maxHeartbeats 8000000 in
theorem policyBack_any (m : Mf) (w : World) (hm : MfOk w w.heap.size m) (hn : m.n ≤ 9223372036854775807) (hn2 : m.n2 ≤ 9223372036854775807) :
    Calls Try.prog 7 #[.agg m.cs.toArray] w fun e w' => e = .returned (.bool true) ∧ Below w.heap.size w w' := by
  have hsz : m.cs.toArray.size = 71 := by simp [Mf.len hm.rl]
  have hz2 := (zero_of_info info_mf).1
  have hsz2 : m0cs.size = 71 := by decide +kernel
  have HB0 := Lib.hid (Blk.new w 55 m.cs.toArray)
  have HbX := Lib.hid (bal (Below.refl w.heap.size w) (.cells m.cs.toArray 55))
  have HR0 : Hid ((w.alloc (.cells m.cs.toArray 55)).rangeAt w.heap.size 0 m.cs) := Lib.hid (HB0.out.rangeIn fun j v hv => by rw [Nat.zero_add]; simpa using hv)
  have Him : Hid ((Try.prog.info? 55).map (·.size) = some m.cs.length) := Lib.hid (by rw [Mf.len hm.rl]; kernel_rfl)
  have HAw := Lib.hid (awake27_call HbX.out HR0.out (by simp))
  have HFw := Lib.hid (fun W (h : Below w.heap.size w W) (hr : W.rangeAt w.heap.size 0 m.cs) (hg : w.heap.size < W.heap.size) => few_call m hm.rl hn hn2 h hr hg)
  cases hf : mfew m with
  | false =>
    rw [hf] at HFw
    clear hf hm hn hn2
    go_enter Try.func7, Try.ntmps7
    go_upto_region 3 with (go_at_call 8; refine HAw.out.mono ?_; rintro e w1 ⟨rfl, hb1, hr1, hbx1⟩)
    have hg1 : w.heap.size < w1.heap.size := by have := hb1.size; simp at this; omega
    go_wp2_with (first
      | (refine wpList_load_mid rfl 55 (.tmp 1) rfl w.heap.size 0 (by rfl) m.cs _ hr1 Try.underlying55 rfl Him.out ?_)
      | (go_at_call 12; refine (HFw.out _ hbx1 hr1 hg1).mono ?_; rintro e w2 ⟨rfl, hb2, hr2, hbx2⟩))
    go_ret
    exact ⟨rfl, hbx2⟩
  | true =>
    have hsm : m.n ≤ 80 ∧ m.n2 ≤ 30 := of_decide_eq_true hf
    rw [hf] at HFw
    have HPut := Lib.hid (fun W (h : Below w.heap.size w W) => mput_any m W (hm.below h h.size) (by omega) (by omega))
    cases hp : mputOk m with
    | false =>
      have HPf := Lib.hid (fun W (h : Below w.heap.size w W) => mput_fails hp (HPut.out W h))
      clear hf hm hn hn2 hsm hp HPut
      go_enter Try.func7, Try.ntmps7
      go_upto_region 3 with (go_at_call 8; refine HAw.out.mono ?_; rintro e w1 ⟨rfl, hb1, hr1, hbx1⟩)
      have hg1 : w.heap.size < w1.heap.size := by have := hb1.size; simp at this; omega
      go_upto_region 5 with (first
        | (refine wpList_load_mid rfl 55 (.tmp 1) rfl w.heap.size 0 (by rfl) m.cs _ hr1 Try.underlying55 rfl Him.out ?_)
        | (go_at_call 12; refine (HFw.out _ hbx1 hr1 hg1).mono ?_; rintro e w2 ⟨rfl, hb2, hr2, hbx2⟩))
      go_wp2_with (first
        | (refine wpList_load_mid rfl 55 (.tmp 1) rfl w.heap.size 0 (by rfl) m.cs _ hr2 Try.underlying55 rfl Him.out ?_)
        | (go_at_call 15; refine (HPf.out _ hbx2).mono ?_; rintro e w3 ⟨rfl, hb3⟩))
      go_ret
      exact ⟨rfl, hbx2.trans (hb3.mono hbx2.size)⟩
    | true =>
      have HPf := Lib.hid (fun W (h : Below w.heap.size w W) => mputs hp (HPut.out W h))
      have hbl : (mBytes m).length ≤ 30000 := by rw [(mAt_bytes hm hp (by omega)).2.2.2.2.1, hm.ll, hm.gl]; omega
      have HOf := Lib.hid (fun (W : World) (A : Option Addr) (c : Nat) hnc hr => of_call (W := W) (A := A) (c := c) hm hp rfl hbl (by omega) hnc hr)
      have HMm := Lib.hid hm
      have HSm := Lib.hid hsm
      clear hf hm hn hn2 hsm hp HPut
      go_enter Try.func7, Try.ntmps7
      go_upto_region 3 with (go_at_call 8; refine HAw.out.mono ?_; rintro e w1 ⟨rfl, hb1, hr1, hbx1⟩)
      have hg1 : w.heap.size < w1.heap.size := by have := hb1.size; simp at this; omega
      go_upto_region 5 with (first
        | (refine wpList_load_mid rfl 55 (.tmp 1) rfl w.heap.size 0 (by rfl) m.cs _ hr1 Try.underlying55 rfl Him.out ?_)
        | (go_at_call 12; refine (HFw.out _ hbx1 hr1 hg1).mono ?_; rintro e w2 ⟨rfl, hb2, hr2, hbx2⟩))
      have hg2 : w.heap.size < w2.heap.size := Nat.lt_of_lt_of_le hg1 hb2.size
      go_upto_region 6 with (first
        | (refine wpList_load_mid rfl 55 (.tmp 1) rfl w.heap.size 0 (by rfl) m.cs _ hr2 Try.underlying55 rfl Him.out ?_)
        | (go_at_call 15; refine (HPf.out _ hbx2).mono ?_; rintro e w3 ⟨A3, c3, rfl, hown3, hb3⟩))
      have hbx3 := hbx2.trans (hb3.mono hbx2.size)
      have hr3 := range_below hr2 hg2 hb3
      have hg3 : w.heap.size < w3.heap.size := Nat.lt_of_lt_of_le hg2 hb3.size
      have hnc3 : (mBytes m).length ≤ c3 := by
        obtain ⟨A, c, he, h, _⟩ := own_slice hown3
        simp only [Value.slice.injEq] at he
        omega
      have HO := Lib.hid (HOf.out w3 A3 c3 hnc3 (Rd.of_own hown3))
      generalize (mBytes m).length = N at *
      clear hown3 hr2 hr1 hb1 hb2
      go_upto_region 9 with (go_at_call 17; refine HO.out.mono ?_; rintro e w4 ⟨f, rfl, hf4, hf5, hf6, hf7, hb4⟩; have hst := fun W => store_mf (cs := f.cs) (Mf.len hf4.rl) (Mf.one f) W; have hfl := Mf.len hf4.rl)
      have hbx4 := hbx3.trans (hb4.mono hbx3.size)
      have hr4 := range_below hr3 hg3 hb4
      have hg4 : w.heap.size < w4.heap.size := Nat.lt_of_lt_of_le hg3 hb4.size
      have HBf := Lib.hid (Blk.new w4 55 f.cs.toArray)
      have HRf : Hid ((w4.alloc (.cells f.cs.toArray 55)).rangeAt w4.heap.size 0 f.cs) := Lib.hid (HBf.out.rangeIn fun j v hv => by rw [Nat.zero_add]; simpa using hv)
      have Hif : Hid ((Try.prog.info? 55).map (·.size) = some f.cs.length) := Lib.hid (by rw [Mf.len hf4.rl]; kernel_rfl)
      have HbA := Lib.hid (bal (Below.refl w4.heap.size w4) (.cells f.cs.toArray 55))
      have HRm := Lib.hid (range_below hr4 hg4 HbA.out)
      have HS := Lib.hid (fun W (h : Below w4.heap.size w4 W) => msame_any f m W (hf4.below h h.size) (HMm.out.below (hbx4.trans (h.mono hbx4.size)) (hbx4.trans (h.mono hbx4.size)).size) hf5 hf6)
      have HT := Lib.hid (fun W (h : Below w4.heap.size w4 W) => refSame_any f m W (hf4.below h h.size) (HMm.out.below (hbx4.trans (h.mono hbx4.size)) (hbx4.trans (h.mono hbx4.size)).size) hf5 hf6)
      rw [hf7] at HS HT
      have HbX4 := Lib.hid hbx4
      clear hf4 hf5 hf6 hf7 hr4 hr3 hst hb4 hb3 hfl
      have hRf := HRf.out
      have hRm := HRm.out
      have hbA := HbA.out
      go_wp2_with (first
        | (refine wpList_load_want (by kernel_rfl) 55 (.tmp 5) rfl w4.heap.size 0 (by rfl) f.cs _ hRf Try.underlying55 rfl Hif.out ?_)
        | (refine wpList_load_want (by kernel_rfl) 55 (.tmp 1) rfl w.heap.size 0 (by rfl) m.cs _ hRm Try.underlying55 rfl Him.out ?_)
        | (go_at_call 13; refine (HS.out _ hbA).mono ?_; rintro e w6 ⟨rfl, hb6⟩; have hRf := range_below hRf (by simp) hb6; have hRm := range_below hRm (by simp; omega) hb6; have hbA := hbA.trans (hb6.mono hbA.size))
        | (go_at_call 14; refine (HT.out _ hbA).mono ?_; rintro e w7 ⟨rfl, hb7⟩; have hbA := hbA.trans (hb7.mono hbA.size)))
      go_ret
      exact ⟨rfl, HbX4.out.trans (hbA.mono HbX4.out.size)⟩

set_option maxRecDepth 100000 in
theorem policyBack_law : LawWalk Try.prog 7 Try.f7 := by
  intro H enc W base args ds p hval hA hlt hfz hsz
  rw [Try.params7] at hA hval
  obtain ⟨v0, d0, rfl, rfl, h0⟩ := trodAll_one hA
  obtain ⟨a, rfl, ha, ha1, ha2⟩ := open_manifest (hval 0 55 v0 rfl rfl) h0 hlt
  exact policyBack_any a W ha ha1 ha2
theorem policyBack_proved : Rows.PolicyBackSaid :=
  OpenClaim.holds_of_wide 7 Try.f7 rfl rfl rfl rfl rfl rfl rfl ⟨rfl, rfl, rfl, rfl, rfl⟩ rfl rfl rfl rfl rfl (by kernel_rfl) Try.func7 (by kernel_rfl)
    (of_decide_eq_true (by kernel_rfl)) (by unfold Func.isWrapper; rw [if_neg (of_decide_eq_false (by kernel_rfl))]; exact ⟨rfl, rfl⟩)
    (fun os started H enc _ => law_lifted (C := Try.checked) (s := Rows.policyBackSpec) started own laidOut (by kernel_rfl) Try.func7 rfl (n := 1) (by kernel_rfl) (fun ds h => by match ds, h with | [_], _ => rfl) (tb := 4) (by kernel_rfl) Try.underlying4 (by kernel_rfl)
      (ChangeSpec.witness6 (enc := enc) (C := Try.checked) false ⟨#[], #[.agg #[.int .u32 0, .int .u64 0, .int .u64 0, .int .u64 0, .int .i64 0, .int .u8 0, .int .u8 0, .int .u8 0, .int .u8 0, .int .u8 0, .int .u8 0, .int .u8 0, .int .u8 0, .int .u8 0, .int .u8 0, .int .u8 0, .int .u8 0, .int .u8 0, .int .u8 0, .int .u8 0, .int .u8 0, .int .u8 0, .int .u8 0, .int .u8 0, .int .u8 0, .int .u8 0, .int .u8 0, .int .u8 0, .int .u8 0, .int .u8 0, .int .u8 0, .int .u8 0, .int .u8 0, .int .u8 0, .int .u8 0, .int .u8 0, .int .u8 0, .int .u8 0, .int .u8 0, .int .u8 0, .int .u8 0, .int .u8 0, .int .u8 0, .int .u8 0, .int .u8 0, .int .u8 0, .int .u8 0, .int .u8 0, .int .u8 0, .int .u8 0, .int .u8 0, .int .u8 0, .int .u8 0, .int .u8 0, .int .u8 0, .int .u8 0, .int .u8 0, .int .u8 0, .int .u8 0, .int .u8 0, .int .u8 0, .int .u8 0, .int .u8 0, .int .u8 0, .int .u8 0, .int .u8 0, .int .u8 0, .int .u8 0, .int .u8 0, .slice none 0 0, .slice none 0 0]], []⟩ 8 (by kernel_rfl) (by kernel_rfl) (by kernel_rfl) (by kernel_rfl)) policyBack_law)
end Go.Proofs.Ytjjbpiejplfbpaa
