/- Chapter 29, the processors of a guest: told. -/
import Derived.Test.YtebhfaadpalpbaaPsciG
import Derived.Lib.SliceRun
namespace Go.Proofs.Ytebhfaadpalpbaa
set_option linter.unusedVariables false
open Go.RowKit Go.Sort

theorem info_vcpu : (Try.prog.info? 76).map (fun i => (i.zero, i.size, i.bytes)) = some (some (.agg #[.int .i64 0, .bool false, .int .u64 0, .int .u64 0, .int .u64 0]), 5, 40) := by kernel_rfl
theorem vcpu_elem : ElemInfo Try.prog 27 76 5 40 := by
  obtain ⟨i, hi, hz, hs, hb⟩ := info_parts info_vcpu
  exact ⟨Try.underlying27, ⟨i, _, hi, hz, hs, hb, rfl⟩, by decide⟩
theorem one_v (l : List Vc) : ∀ u ∈ l.flatMap encV, u.oneCell' = true := by
  intro u hu; obtain ⟨x, _, hx⟩ := List.mem_flatMap.1 hu; simp [encV] at hx; rcases hx with rfl | rfl | rfl | rfl | rfl <;> rfl
set_option maxHeartbeats 1000000 in
theorem clone_vcpu (A : Option Addr) (n c : Nat) (xs : List Value) (w : World) (hr : Rd w w.heap.size 5 A n xs) (h1 : ∀ u ∈ xs, u.oneCell' = true) (hn : n ≤ 1000) :
    Calls Try.prog 43 #[.slice A n c] w fun e w' => ∃ v', e = .returned v' ∧ w'.ownsRow w.heap.size 76 5 v' n xs ∧ Below w.heap.size w w' := by
  have q : ∀ (w : World) (a : Option Addr) (n c n' c' : Nat), (binOp .eql 27 (.slice a n c) (.slice none n' c')).run Try.prog w = .ok (.bool a.isNone) w := fun w a n c n' c' => Lib.run_eql_slice_nil w _ _ a n c n' c' Try.underlying27
  rcases A with _ | ad
  · have h0 : n = 0 := by
      rcases Nat.eq_zero_or_pos n with h | h
      · exact h
      · obtain ⟨b, off, h, _⟩ := hr.2 h; cases h
    subst h0
    have hx : xs = [] := List.eq_nil_of_length_eq_zero (by simpa using hr.1)
    subst hx
    clear hr h1
    go_enter Try.func43, Try.ntmps43
    go_wp2
    go_ret
    exact ⟨_, rfl, World.ownsRow_nil _ _ _ _, Below.refl _ _⟩
  · have hnm : 0 + n ≤ maxLen := by unfold maxLen; omega
    go_enter Try.func43, Try.ntmps43
    go_wp2_with (at_builtin; refine wpList_app vcpu_elem rfl (.tmp 5) (.tmp 6) rfl w.heap.size (World.ownsRow_made w #[] 0 (Nat.le_refl _) (Nat.zero_le _) rfl) rfl rfl (hr.alloc (Nat.le_refl _) _) h1 hnm (by omega) (by simp) ?_; intro v1 w1 hown hb1 _)
    go_ret
    exact ⟨_, rfl, by simpa using hown, ((Below.refl _ w).alloc (Nat.le_refl _) _).trans hb1⟩
set_option maxHeartbeats 1000000 in
theorem cpus_any (g : Nat) (S : Nat → Prop) (s : Pst) (w : World) (h : PSto w 89 S g s) (hn : s.cs.length ≤ 1000) :
    Calls Try.prog 27 #[.pointer (some ⟨g, 0, none⟩)] w fun e w' => ∃ v, e = .returned v ∧ w'.ownsRow w.heap.size 76 5 v s.cs.length (s.cs.flatMap encV) ∧ Below w.heap.size w w' := by
  obtain ⟨v, hB, hg, ho⟩ := h
  obtain ⟨A, c, rfl, hc, hr⟩ := own_slice ho.1
  have hcl := hB.cell
  have HC := Lib.hid (clone_vcpu A s.cs.length c _ w hr (one_v s.cs) hn)
  clear hr ho hB
  generalize s.cs.length = n at *
  generalize s.cs.flatMap encV = xs at *
  go_enter Try.func27, Try.ntmps27
  go_wp2_with (go_at_call 43; refine (HC.out).mono ?_; rintro e w1 ⟨v1, rfl, hown, hb1⟩)
  go_ret
  exact ⟨_, rfl, hown, hb1⟩
theorem cpusNone_any (w : World) : Calls Try.prog 27 #[.pointer none] w fun e w' => e = .returned (.slice none 0 0) ∧ w = w' := by
  go_enter Try.func27, Try.ntmps27
  go_wp2
  go_ret
  exact ⟨rfl, rfl⟩
theorem down_any (g : Nat) (S : Nat → Prop) (s : Pst) (w : World) (h : PSto w 89 S g s) :
    Calls Try.prog 25 #[.pointer (some ⟨g, 0, none⟩)] w fun e w' => e = .returned (.int .i64 s.down) ∧ w = w' := by
  obtain ⟨v, hB, hg, ho⟩ := h
  have hcl := hB.cell
  go_enter Try.func25, Try.ntmps25
  go_wp2
  go_ret
  exact ⟨rfl, rfl⟩
theorem downNone_any (w : World) : Calls Try.prog 25 #[.pointer none] w fun e w' => e = .returned (.int .i64 0) ∧ w = w' := by
  go_enter Try.func25, Try.ntmps25
  go_wp2
  go_ret
  exact ⟨rfl, rfl⟩

theorem flat_vcpu : flatOf Try.prog 5 76 = some [.int .i64, .bool, .int .u64, .int .u64, .int .u64] := by kernel_rfl
theorem vcpu_neq (w : World) (x y : Vc) : (binOp .neq 76 (.agg #[.int .i64 x.id, .bool x.on, .int .u64 x.pc, .int .u64 x.x0, .int .u64 x.sp]) (.agg #[.int .i64 y.id, .bool y.on, .int .u64 y.pc, .int .u64 y.x0, .int .u64 y.sp])).run Try.prog w = .ok (.bool (!decide (x = y))) w := by
  have h := neq_flat w flat_vcpu (by kernel_rfl) (by decide) (by kernel_rfl) (xs := encV x) (ys := encV y) ⟨rfl, rfl, rfl, rfl, trivial⟩ ⟨rfl, rfl, rfl, rfl, trivial⟩
  have e : eqLeaves (encV x) (encV y) = decide (x = y) := by
    obtain ⟨a, b, c, d, e⟩ := x
    obtain ⟨a', b', c', d', e'⟩ := y
    rw [Bool.eq_iff_iff]
    simp [eqLeaves, encV]
  rw [e] at h
  exact h

set_option maxHeartbeats 1000000 in
theorem sameVcpus_any (A A2 : Option Addr) (n n2 c c2 : Nat) (l l2 : List Vc) (w : World) (hn : l.length = n) (hn2 : l2.length = n2) (hm : n ≤ 100000) (hm2 : n2 ≤ 100000) (hr : Rd w w.heap.size 5 A n (l.flatMap encV)) (hr2 : Rd w w.heap.size 5 A2 n2 (l2.flatMap encV)) :
    Calls Try.prog 26 #[.slice A n c, .slice A2 n2 c2] w fun e w' => e = .returned (.bool (decide (l = l2))) ∧ Below w.heap.size w w' := by
  by_cases hne : n = n2
  · subst hne
    have hsp : ∀ k, k ≤ n → (∀ (j : Nat), j < k → l[j]? = l2[j]?) → k = n → l = l2 := fun k hk h hkn => List.ext_getElem? fun j => by
      rcases Nat.lt_or_ge j n with h1 | h1
      · exact h j (by omega)
      · rw [List.getElem?_eq_none (by omega), List.getElem?_eq_none (by omega)]
    have HN := Lib.hid hn
    have HN2 := Lib.hid hn2
    have HR := Lib.hid hr
    have HR2 := Lib.hid hr2
    have HS := Lib.hid hsp
    clear hr hr2 hn hn2 hsp
    go_enter Try.func26, Try.ntmps26
    go_wp2
    go_loopw [5, 13] (fun _ i wr => ∃ k : Nat, k ≤ n ∧ i = .int .i64 k ∧ Hid (∀ (j : Nat), j < k → l[j]? = l2[j]?) ∧ Below w.heap.size w wr) (fun _ i _ => n - (intOf i).toNat)
    case atStart => exact ⟨0, by omega, rfl, fun j hj => absurd hj (by omega), Below.refl _ _⟩
    case round =>
      obtain ⟨k, hk, rfl, hq, hbr⟩ := hrel
      by_cases hlt : k < n
      · obtain ⟨b1, o1, rfl, hb1, hc1⟩ := (HR.out.below hbr).row (fun _ => rfl) (k := k) (by rw [HN.out]; exact hlt) HN.out
        obtain ⟨b2, o2, rfl, hb2, hc2⟩ := (HR2.out.below hbr).row (fun _ => rfl) (k := k) (by rw [HN2.out]; exact hlt) HN2.out
        have d10 := hc1 0 (by omega)
        have d11 := hc1 1 (by omega)
        have d12 := hc1 2 (by omega)
        have d13 := hc1 3 (by omega)
        have d14 := hc1 4 (by omega)
        have d20 := hc2 0 (by omega)
        have d21 := hc2 1 (by omega)
        have d22 := hc2 2 (by omega)
        have d23 := hc2 3 (by omega)
        have d24 := hc2 4 (by omega)
        simp only [encV, Nat.add_zero, List.getElem?_cons_zero, List.getElem?_cons_succ] at d10 d11 d12 d13 d14 d20 d21 d22 d23 d24
        have g1 : l[k]? = some (l[k]'(by rw [HN.out]; exact hlt)) := List.getElem?_eq_getElem _
        have g2 : l2[k]? = some (l2[k]'(by rw [HN2.out]; exact hlt)) := List.getElem?_eq_getElem _
        have HG1 := Lib.hid g1
        have HG2 := Lib.hid g2
        clear hc1 hc2 g1 g2
        generalize l[k]'(by rw [HN.out]; exact hlt) = x at *
        generalize l2[k]'(by rw [HN2.out]; exact hlt) = y at *
        have hq2 := fun w => vcpu_neq w x y
        by_cases hxy : x = y
        · rw [decide_eq_true hxy] at hq2
          have HXY := Lib.hid hxy
          clear hxy
          go_wp2
          go_quiet (fail)
          go_wp2
          go_roundw
          case rel => exact ⟨k + 1, by omega, by go_num, (fun j hj => by
            rcases Nat.lt_or_ge j k with h1 | h1
            · exact hq.out j h1
            · obtain rfl : j = k := by omega
              rw [HG1.out, HG2.out, HXY.out]), below_drewN hbr _⟩
          case measure => simp [intOf]; omega
        · rw [decide_eq_false hxy] at hq2
          have hf : decide (l = l2) = false := by
            rw [decide_eq_false_iff_not]; intro h; apply hxy
            have := HG1.out; rw [h, HG2.out] at this; simpa using this.symm
          have HF := Lib.hid hf
          clear hf hxy
          go_wp2
          go_quiet (fail)
          go_wp2
          go_ret
          exact ⟨by rw [HF.out]; rfl, below_drewN hbr _⟩
      · obtain rfl : k = n := by omega
        have hf : decide (l = l2) = true := by rw [decide_eq_true_eq]; exact HS.out k (Nat.le_refl _) hq.out rfl
        have HF := Lib.hid hf
        clear hf
        go_wp2
        go_ret
        exact ⟨by rw [HF.out]; rfl, hbr⟩
  · have hf : decide (l = l2) = false := by rw [decide_eq_false_iff_not]; intro h; apply hne; rw [← hn, ← hn2, h]
    have HF := Lib.hid hf
    have e1 : ((n : Int) != (n2 : Int)) = true := by rw [bne_iff_ne]; omega
    clear hf hr hr2 hn hn2 hne
    go_enter Try.func26, Try.ntmps26
    go_wp2
    go_ret
    exact ⟨by rw [HF.out]; first | done | rfl, Below.refl _ _⟩
end Go.Proofs.Ytebhfaadpalpbaa
