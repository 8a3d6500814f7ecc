/- Chapter 21, the law RegsVcpus. -/
import Derived.Test.YtnhlcfkjhacedaaVcC
import Derived.Test.YtnhlcfkjhacedaaRegsAw
namespace Go.Proofs.Ytnhlcfkjhacedaa
set_option linter.unusedVariables false
open Go.RowKit Go.Sort Go.ChangeShapes Go.WideShapes

theorem pvcpus_any (x e d : Int) (hx0 : 0 ≤ x) (hx1 : x < 4294967296) (w : World) :
    Calls Try.prog 12 #[.int .u32 x, .int .u64 e, .int .u64 d] w fun e' W' => ∃ v, e' = .returned v ∧ W'.ownsRow w.heap.size 28 5 v (vsN x e d 32).length ((vsN x e d 32).flatMap encV) ∧ RowKit.Below w.heap.size w W' :=
  callsIn_wide.1 (pvcpus_in x e d hx0 hx1 w)
theorem bit_some (x : Int) (h0 : 0 < x) (h1 : x < 4294967296) : ∃ f : Nat, f < 32 ∧ bitN x f = true := by
  have key : ∀ n : Nat, (∀ k, k < n → bitN x k = false) → x = 2 ^ n * (x / 2 ^ n) := by
    intro n
    induction n with
    | zero => intro _; simp
    | succ n ih =>
      intro h
      have h2 := ih fun k hk => h k (by omega)
      have h3 := h n (by omega)
      simp only [bitN, decide_eq_false_iff_not] at h3
      have h4 : x / 2 ^ (n + 1) = x / 2 ^ n / 2 := by
        rw [Int.pow_succ, ← Int.ediv_ediv_of_nonneg (Int.pow_nonneg (by decide))]
      have h5 : x / 2 ^ n = 2 * (x / 2 ^ n / 2) := by omega
      rw [h4, Int.pow_succ, Int.mul_assoc, ← h5]
      exact h2
  apply Classical.byContradiction
  intro hn
  have := key 32 fun k hk => by
    cases hb : bitN x k
    · rfl
    · exact absurd ⟨k, hk, hb⟩ hn
  have h6 : x / 2 ^ 32 = 0 := Int.ediv_eq_zero_of_lt (by omega) (by simpa using h1)
  rw [h6] at this
  omega
theorem bitsI_has (x : Int) : ∀ k j : Nat, j < k → bitN x j = true → bitsI x k ≠ []
  | 0, j, h, _ => absurd h (by omega)
  | k + 1, j, h, hb => by
    unfold bitsI
    split
    · simp
    · rename_i hn
      rcases Nat.lt_or_ge j k with h1 | h1
      · exact bitsI_has x k j h1 hb
      · obtain rfl : j = k := by omega
        exact absurd hb hn
theorem run_count (e d : Int) : ∀ l : List Int, (runN e d (l.map rawV)).countP (·.on) = if l = [] then 0 else 1
  | [] => rfl
  | v :: l => by
    have h : (l.map rawV).countP (·.on) = 0 := by
      rw [List.countP_eq_zero]
      intro u hu
      obtain ⟨i, _, rfl⟩ := List.mem_map.1 hu
      simp [rawV]
    simp only [List.map_cons, runN, List.countP_cons, h]
    rfl
theorem vs_count (x e d : Int) (h0 : 0 ≤ x) (h1 : x < 4294967296) : (vsN x e d 32).countP (·.on) = if x = 0 then 0 else 1 := by
  rw [vsN_raw, run_count]
  by_cases hx : x = 0
  · subst hx
    rw [if_pos rfl, if_pos]
    have := vsN_nil 0 0 0 32 (fun j _ => by simp [bitN])
    rw [vsN_raw] at this
    cases h : bitsI 0 32 with
    | nil => rfl
    | cons v l => rw [h] at this; simp [runN] at this
  · obtain ⟨f, hf, hb⟩ := bit_some x (by omega) h1
    rw [if_neg hx, if_neg (bitsI_has x 32 f hf hb)]
theorem count_fold (l : List Vc) : ∃ F : Nat → Nat, F 0 = 0 ∧ (∀ k, k < l.length → F (k + 1) = F k + if (l.getD k zV).on then 1 else 0) ∧ F l.length = l.countP (·.on) ∧ ∀ k, F k ≤ k := by
  refine ⟨fun k => (l.take k).countP (·.on), by simp, fun k h => ?_, by simp, fun k => Nat.le_trans List.countP_le_length (by simp; omega)⟩
  have e : l.take (k + 1) = l.take k ++ [l.getD k zV] := by
    rw [List.take_add_one, List.getD_eq_getElem?_getD, List.getElem?_eq_getElem h]
    rfl
  show (l.take (k + 1)).countP _ = _
  rw [e, List.countP_append]
  simp [List.countP_cons]

set_option maxRecDepth 100000 in
set_option maxHeartbeats 4000000 in
theorem regsVcpus_any (x e d : Int) (hx0 : 0 ≤ x) (hx1 : x < 4294967296) (w : World) :
    Calls Try.prog 3 #[.int .u32 x, .int .u64 e, .int .u64 d] w fun e' w' => e' = .returned (.bool true) ∧ Below w.heap.size w w' := by
  have HV := Lib.hid (fun W => vcpus_any x e d hx0 hx1 W)
  have HP := Lib.hid (fun W => pvcpus_any x e d hx0 hx1 W)
  have HC := Lib.hid (vs_count x e d hx0 hx1)
  have hvl := vsN_len x e d 32
  generalize vsN x e d 32 = vs at *
  obtain ⟨F, hF0, hFs, hFe, hFk⟩ := count_fold vs
  have HFs := Lib.hid hFs
  have HFe := Lib.hid hFe
  have HFk := Lib.hid hFk
  clear hx0 hx1 hFs hFe hFk
  generalize hvn : vs.length = n at *
  have HN := Lib.hid hvn
  clear hvn
  go_enter Try.func3, Try.ntmps3
  go_wp2_with (first
    | (go_at_call 11; refine (awake21_any _).mono ?_; rintro e1 w0 ⟨rfl, hb0⟩)
    | (go_at_call 12; refine (HP.out _).mono ?_; rintro e1 w1 ⟨v1, rfl, hown1, hb1⟩; obtain ⟨A, c, rfl, _, hr1⟩ := own_slice hown1)
    | (go_at_call 13; refine (HV.out _).mono ?_; rintro e1 w2 ⟨⟨A2, c2, rfl, hr2⟩, hb2⟩))
  have HR1 := Lib.hid ((hr1.below hb2).more hb2.size)
  have HR2 := Lib.hid hr2
  have hb3 := hb0.trans ((hb1.trans (hb2.mono hb1.size)).mono hb0.size)
  have h90 : F 0 = 0 := hF0
  clear hr1 hr2 hown1 hb0 hb1 hb2
  go_loopw [9, 10, 28] (fun s9 _ i wr => ∃ k : Nat, k ≤ n ∧ i = .int .i64 k ∧ s9 = .int .i64 (F k) ∧ Below w2.heap.size w2 wr) (fun _ _ i _ => n - (intOf i).toNat)
  case atStart => exact ⟨0, by omega, rfl, by rw [h90]; rfl, Below.refl _ _⟩
  case round =>
    obtain ⟨k, hk, rfl, rfl, hb⟩ := hrel
    by_cases hlt : k < n
    · obtain ⟨b1, o1, rfl, hbb1, hc1⟩ := (HR1.out.below hb).row (fun _ => rfl) (k := k) (by rw [HN.out]; exact hlt) HN.out
      obtain ⟨b2, o2, rfl, hbb2, hc2⟩ := (HR2.out.below hb).row (fun _ => rfl) (k := k) (by rw [HN.out]; exact hlt) HN.out
      have d10 := hc1 0 (by omega)
      have d11 := hc1 1 (by omega)
      have d12 := hc1 2 (by omega)
      have d13 := hc1 3 (by omega)
      have d14 := hc1 4 (by omega)
      have d20 := hc2 0 (by omega)
      have d21 := hc2 1 (by omega)
      have d22 := hc2 2 (by omega)
      have d23 := hc2 3 (by omega)
      have d24 := hc2 4 (by omega)
      simp only [encV, Nat.add_zero, List.getElem?_cons_zero, List.getElem?_cons_succ] at d10 d11 d12 d13 d14 d20 d21 d22 d23 d24
      have hfs := HFs.out k hlt
      rw [show vs.getD k zV = vs[k]'(by rw [HN.out]; exact hlt) by rw [List.getD_eq_getElem?_getD, List.getElem?_eq_getElem (by rw [HN.out]; exact hlt)]; rfl] at hfs
      have hfk := HFk.out k
      clear hc1 hc2
      generalize vs[k]'(by rw [HN.out]; exact hlt) = v at *
      have hq2 := fun w => vcpu_neq w v v
      simp only [decide_true, Bool.not_true] at hq2
      cases hon : v.on
      all_goals
        rw [hon] at d11 d21 hfs hq2
        simp only [Bool.false_eq_true, if_false, if_true] at hfs
        have HF := Lib.hid hfs
        clear hfs hon
        generalize hFk : F k = fk at *
        go_wp2
        go_quiet (fail)
        go_wp2
        go_roundw
        case rel => exact ⟨k + 1, by omega, by go_num, by rw [HF.out]; first | rfl | (congr 1), below_drewN hb _⟩
        case measure => simp [intOf]; omega
    · obtain rfl : k = n := by omega
      have hfe := HFe.out
      rw [HC.out] at hfe
      have hb4 := hb3.trans (hb.mono hb3.size)
      by_cases hx : x = 0
      · subst hx
        simp only [if_true] at hfe
        rw [hfe]
        clear hfe
        go_wp2
        go_ret
        exact ⟨rfl, hb4⟩
      · rw [if_neg hx] at hfe
        rw [hfe]
        clear hfe hx
        go_wp2
        go_ret
        exact ⟨rfl, hb4⟩

set_option maxRecDepth 100000 in
theorem regsVcpus_law : LawWalk Try.prog 3 Try.f3 := by
  intro H enc W base args ds p hval hA hlt hfz hsz
  rw [Try.params3] at hA hval
  obtain ⟨v0, v1, v2, d0, d1, d2, p0, p1, p2, rfl, rfl, rfl, h0, h1, h2⟩ := trodAll_three hA
  obtain ⟨x, rfl, rfl, rfl, wx⟩ := open_int Try.underlying22 (hval 0 22 v0 rfl rfl) h0
  obtain ⟨e, rfl, rfl, rfl, we⟩ := open_int Try.underlying23 (hval 1 23 v1 rfl rfl) h1
  obtain ⟨d, rfl, rfl, rfl, wd⟩ := open_int Try.underlying23 (hval 2 23 v2 rfl rfl) h2
  have hx : 0 ≤ x ∧ x < 4294967296 := by simp [Lit.wf, IntKind.min, IntKind.max, IntKind.signed, IntKind.bits] at wx; omega
  exact regsVcpus_any x e d hx.1 hx.2 W
theorem regsVcpus_proved : Rows.RegsVcpusSaid :=
  OpenClaim.holds_of_wide 3 Try.f3 rfl rfl rfl rfl rfl rfl rfl ⟨rfl, rfl, rfl, rfl, rfl⟩ rfl rfl rfl rfl rfl (by kernel_rfl) Try.func3 (by kernel_rfl)
    (of_decide_eq_true (by kernel_rfl)) (by unfold Func.isWrapper; rw [if_neg (of_decide_eq_false (by kernel_rfl))]; exact ⟨rfl, rfl⟩)
    (fun os started H enc _ => law_lifted (C := Try.checked) (s := Rows.regsVcpusSpec) started own laidOut (by kernel_rfl) Try.func3 rfl (n := 3) (by kernel_rfl) (fun ds h => by match ds, h with | [_, _, _], _ => rfl) (tb := 4) (by kernel_rfl) Try.underlying4 (by kernel_rfl)
      (ChangeSpec.witness6 (enc := enc) (C := Try.checked) false ⟨#[], #[.int .u32 0, .int .u64 0, .int .u64 0], []⟩ 8 (by kernel_rfl) (by kernel_rfl) (by kernel_rfl) (by kernel_rfl)) regsVcpus_law)
end Go.Proofs.Ytnhlcfkjhacedaa
