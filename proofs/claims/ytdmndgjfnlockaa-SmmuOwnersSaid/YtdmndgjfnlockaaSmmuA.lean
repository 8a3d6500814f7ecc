/- Chapter 23, the stream table: may an entry be put? -/
import Derived.Test.YtdmndgjfnlockaaWordP64
import Derived.Test.YtdmndgjfnlockaaEqFlat
namespace Go.Proofs.Ytdmndgjfnlockaa
set_option linter.unusedVariables false
open Go.RowKit Go.Sort

structure Ste where
  ok : Bool
  id : Int
  root : Int
def encS (s : Ste) : List Value := [.bool s.ok, .int .i64 s.id, .int .u64 s.root]
theorem flat_ste : flatOf Try.prog 5 52 = some [.bool, .int .i64, .int .u64] := by kernel_rfl
theorem ste_eql (w : World) (a a' : Bool) (b c b' c' : Int) : (binOp .eql 52 (.agg #[.bool a, .int .i64 b, .int .u64 c]) (.agg #[.bool a', .int .i64 b', .int .u64 c'])).run Try.prog w = .ok (.bool (a == a' && (b == b' && (c == c' && true)))) w :=
  eql_flat w flat_ste (by kernel_rfl) (by decide) (by kernel_rfl) ⟨rfl, rfl, trivial⟩ ⟨rfl, rfl, trivial⟩
theorem ste_neq (w : World) (a a' : Bool) (b c b' c' : Int) : (binOp .neq 52 (.agg #[.bool a, .int .i64 b, .int .u64 c]) (.agg #[.bool a', .int .i64 b', .int .u64 c'])).run Try.prog w = .ok (.bool (!(a == a' && (b == b' && (c == c' && true))))) w :=
  neq_flat w flat_ste (by kernel_rfl) (by decide) (by kernel_rfl) ⟨rfl, rfl, trivial⟩ ⟨rfl, rfl, trivial⟩

def Ste.may (s : Ste) : Bool := if s.ok then decide (0 ≤ s.id ∧ s.id ≤ 255 ∧ s.root < 281474976710656) else decide (s.id = 0 ∧ s.root = 0)

set_option maxHeartbeats 1000000 in
theorem smay_any (s : Ste) (h0 : 0 ≤ s.root) (w : World) :
    Calls Try.prog 31 #[.agg #[.bool s.ok, .int .i64 s.id, .int .u64 s.root]] w fun e w' => e = .returned (.bool s.may) ∧ Below w.heap.size w w' := by
  obtain ⟨ok, id, root⟩ := s
  simp only at *
  cases ok with
  | false =>
    have hq := fun w => ste_eql w false false id root 0 0
    have hm : (⟨false, id, root⟩ : Ste).may = (id == 0 && (root == 0)) := by simp [Ste.may, Bool.beq_eq_decide_eq]
    rw [hm]
    clear hm
    go_enter Try.func31, Try.ntmps31
    go_wp2
    all_goals (go_ret; exact ⟨by simp, bal (Below.refl _ _) _⟩)
  | true =>
    have hm : (⟨true, id, root⟩ : Ste).may = decide (0 ≤ id ∧ id ≤ 255 ∧ root < 281474976710656) := by simp [Ste.may]
    by_cases h : 0 ≤ id ∧ id ≤ 255
    · obtain ⟨h1, h2⟩ := h
      have hr : ((root / 281474976710656 == 0) : Bool) = decide (root < 281474976710656) := by
        rw [Bool.eq_iff_iff]; simp; omega
      have hm2 : (⟨true, id, root⟩ : Ste).may = (root / 281474976710656 == 0) := by rw [hm, hr]; simp [h1, h2]
      rw [hm2]
      clear hm hm2 hr
      go_enter Try.func31, Try.ntmps31
      go_wp2
      go_ret
      exact ⟨rfl, bal (Below.refl _ _) _⟩
    · have hm2 : (⟨true, id, root⟩ : Ste).may = false := by rw [hm, decide_eq_false_iff_not]; exact fun h' => h ⟨h'.1, h'.2.1⟩
      rw [hm2]
      clear hm hm2
      rcases (show id < 0 ∨ 255 < id by omega) with h3 | h3
      all_goals
        clear h
        go_enter Try.func31, Try.ntmps31
        go_wp2
        go_ret
        exact ⟨rfl, bal (Below.refl _ _) _⟩
set_option maxHeartbeats 1000000 in
theorem sput1_any (s : Ste) (h0 : 0 ≤ s.root) (w : World) :
    Calls Try.prog 30 #[.agg #[.bool s.ok, .int .i64 s.id, .int .u64 s.root]] w fun e w' => e = .returned (.bool !s.may) ∧ Below w.heap.size w w' := by
  have HM := Lib.hid (fun W => smay_any s h0 W)
  generalize s.may = m at *
  go_enter Try.func30, Try.ntmps30
  go_wp2_with (go_at_call 31; refine (HM.out _).mono ?_; rintro e w1 ⟨rfl, hb1⟩)
  go_ret
  exact ⟨rfl, below_alloc hb1⟩

set_option maxHeartbeats 2000000 in
theorem sindex_any (A : Option Addr) (n c : Nat) (l : List Ste) (w : World) (hl : l.length = n) (hn : n ≤ 1000000) (h0 : ∀ s ∈ l, 0 ≤ s.root) (hr : Rd w w.heap.size 3 A n (l.flatMap encS)) :
    Calls Try.prog 36 #[.slice A n c, .func (.func 30) #[] #[]] w fun e w' => (∃ x : Int, e = .returned (.int .i64 x) ∧ (decide (0 ≤ x) = !l.all Ste.may)) ∧ Below w.heap.size w w' := by
  have HL := Lib.hid hl
  have HR := Lib.hid hr
  have H0 := Lib.hid h0
  clear hl hr h0
  go_enter Try.func36, Try.ntmps36
  go_wp2
  go_loopw [5, 8] (fun _ i wr => ∃ k : Nat, k ≤ n ∧ i = .int .i64 k ∧ Hid ((l.take k).all Ste.may = true) ∧ Below w.heap.size w wr) (fun _ i _ => n - (intOf i).toNat)
  case atStart => exact ⟨0, by omega, rfl, rfl, Below.refl _ _⟩
  case round =>
    obtain ⟨k, hk, rfl, hq, hb⟩ := hrel
    by_cases hlt : k < n
    · have hlt' : k < l.length := by rw [HL.out]; exact hlt
      obtain ⟨b, o, rfl, hbb, hc⟩ := (HR.out.below hb).row (fun _ => rfl) hlt' HL.out
      have d0 := hc 0 (by omega)
      have d1 := hc 1 (by omega)
      have d2 := hc 2 (by omega)
      simp only [encS, Nat.add_zero, List.getElem?_cons_zero, List.getElem?_cons_succ] at d0 d1 d2
      have hs0 := H0.out _ (List.getElem_mem hlt')
      have HT := Lib.hid (List.take_succ_eq_append_getElem hlt')
      have HE := Lib.hid (List.getElem_mem hlt')
      clear hc
      generalize l[k] = s at *
      have HM := Lib.hid (fun W => sput1_any s hs0 W)
      cases hm : s.may with
      | true =>
        rw [hm] at HM
        go_wp2_with (go_at_call 30; refine (HM.out _).mono ?_; rintro e w1 ⟨rfl, hb1⟩)
        go_roundw
        case rel => exact ⟨k + 1, by omega, by go_num, by rw [HT.out, List.all_append]; simp [hq.out, hm, Hid], hb.trans (hb1.mono hb.size)⟩
        case measure => simp [intOf]; omega
      | false =>
        rw [hm] at HM
        go_wp2_with (go_at_call 30; refine (HM.out _).mono ?_; rintro e w1 ⟨rfl, hb1⟩)
        go_ret
        refine ⟨⟨_, rfl, ?_⟩, hb.trans (hb1.mono hb.size)⟩
        have : l.all Ste.may = false := by
          rw [List.all_eq_false]; exact ⟨s, HE.out, by simp [hm]⟩
        rw [this]; simp
    · obtain rfl : k = n := by omega
      have HA := Lib.hid hq.out
      go_wp2
      go_ret
      refine ⟨⟨_, rfl, ?_⟩, hb⟩
      have := HA.out
      rw [List.take_of_length_le (by rw [HL.out]; exact Nat.le_refl _)] at this
      rw [this]; simp
end Go.Proofs.Ytdmndgjfnlockaa
