/- Chapter 29, the processors of a guest: started, looked at. -/
import Derived.Test.YtebhfaadpalpbaaPsciD
namespace Go.Proofs.Ytebhfaadpalpbaa
set_option linter.unusedVariables false
open Go.RowKit Go.Sort

section
variable {w w' : World} {T : TypeId} {S S' : Nat → Prop} {g : Nat} {s : Pst}
theorem PSto.kept (h : PSto w T S g s) (hb : Below w.heap.size w w') : PSto w' T S g s := by
  obtain ⟨v, hB, hg, ho⟩ := h
  exact ⟨v, hB.kept hb, hg, ho.kept hb⟩
theorem PSto.near (h : PSto w T S g s) (hb : Near S' w w') (hn : ∀ k, S k → ¬ S' k) : PSto w' T S g s := by
  obtain ⟨v, hB, hg, ho⟩ := h
  exact ⟨v, hB.same (hb.far hB.lt (hn g hg)), hg, ho.near hb hn⟩
theorem PSto.mono (h : PSto w T S g s) (hs : ∀ k, S k → S' k) : PSto w T S' g s := by
  obtain ⟨v, hB, hg, ho⟩ := h
  exact ⟨v, hB, hs g hg, ho.mono hs⟩
theorem PSto.bound (h : PSto w T S g s) : PSto w T (fun k => S k ∧ k < w.heap.size) g s := by
  obtain ⟨v, hB, hg, ho⟩ := h
  exact ⟨v, hB, ⟨hg, hB.lt⟩, ho.bound⟩
end
theorem setN_len (s : Pst) (i : Nat) (on : Bool) (pc x0 : Int) : (setN s i on pc x0).cs.length = s.cs.length := by simp [setN]
theorem endN_len (s : Pst) (d : Int) : (endN s d).cs.length = s.cs.length := by simp [endN]
theorem startN_len (s : Pst) (a b c : Int) : (startN s a b c).2.cs.length = s.cs.length := by
  unfold startN
  split
  · rfl
  · split
    · rfl
    · split
      · rfl
      · exact setN_len ..
theorem callN_len (s : Pst) (cpu fn a b c : Int) : (callN s cpu fn a b c).2.cs.length = s.cs.length := by
  unfold callN
  repeat' split
  all_goals first | rfl | exact setN_len .. | exact endN_len .. | exact startN_len ..
theorem coreV_some {l : List Vc} {i : Nat} : coreV l (some i) = .tuple #[.agg #[.int .i64 (l.getD i zV).id, .bool (l.getD i zV).on, .int .u64 (l.getD i zV).pc, .int .u64 (l.getD i zV).x0, .int .u64 (l.getD i zV).sp, .int .i64 i], .bool true] := rfl

set_option maxHeartbeats 2000000 in
theorem look_any (g : Nat) (S : Nat → Prop) (s : Pst) (a b : Int) (w : World) (h : PSto w 89 S g s) (hn : s.cs.length ≤ 1000) :
    Calls Try.prog 36 #[.pointer (some ⟨g, 0, none⟩), .int .u64 a, .int .u64 b] w fun e w' => e = .returned (.int .i64 (lookN s a b)) ∧ Below w.heap.size w w' := by
  have HF := Lib.hid (fun W hW => find_any g S s a W hW hn)
  have HP := Lib.hid h
  obtain ⟨r, hr⟩ : ∃ r, lookN s a b = r := ⟨_, rfl⟩
  rw [hr]
  clear h
  by_cases hb : b = 0
  · subst hb
    cases hx : findN s.cs a with
    | none =>
      have HR := Lib.hid (show r = -2 by rw [← hr, lookN, if_neg (by simp), hx])
      rw [hx] at HF
      clear hr hx
      go_enter Try.func36, Try.ntmps36
      go_wp2_with (go_at_call 32; refine (HF.out _ HP.out).mono ?_; rintro e w1 ⟨rfl, hb1⟩; simp only [coreV])
      go_ret
      exact ⟨by rw [HR.out]; rfl, bal hb1 _⟩
    | some i =>
      have HR := Lib.hid (show r = if (s.cs.getD i zV).on then 0 else 1 by rw [← hr, lookN, if_neg (by simp), hx])
      rw [hx] at HF
      simp only [coreV_some] at HF
      clear hr hx
      generalize s.cs.getD i zV = v at *
      cases hv : v.on
      all_goals
        rw [hv] at HF HR
        clear hv
        go_enter Try.func36, Try.ntmps36
        go_wp2_with (go_at_call 32; refine (HF.out _ HP.out).mono ?_; rintro e w1 ⟨rfl, hb1⟩)
        go_ret
        exact ⟨by rw [HR.out]; rfl, bal hb1 _⟩
  · have HR := Lib.hid (show r = -2 by rw [← hr, lookN, if_pos (by simpa using hb)])
    clear hr
    generalize findN s.cs a = o at *
    cases o with
    | none =>
      go_enter Try.func36, Try.ntmps36
      go_wp2_with (go_at_call 32; refine (HF.out _ HP.out).mono ?_; rintro e w1 ⟨rfl, hb1⟩; simp only [coreV])
      go_ret
      exact ⟨by rw [HR.out]; rfl, bal hb1 _⟩
    | some i =>
      simp only [coreV_some] at HF
      generalize s.cs.getD i zV = v at *
      go_enter Try.func36, Try.ntmps36
      go_wp2_with (go_at_call 32; refine (HF.out _ HP.out).mono ?_; rintro e w1 ⟨rfl, hb1⟩)
      go_ret
      exact ⟨by rw [HR.out]; rfl, bal hb1 _⟩
set_option maxHeartbeats 2000000 in
theorem start_any (g : Nat) (S : Nat → Prop) (s : Pst) (a b c : Int) (w : World) (h : PSto w 89 S g s) (hn : s.cs.length ≤ 1000) :
    Calls Try.prog 35 #[.pointer (some ⟨g, 0, none⟩), .int .u64 a, .int .u64 b, .int .u64 c] w fun e w' => e = .returned (.int .i64 (startN s a b c).1) ∧ PSto w' 89 S g (startN s a b c).2 ∧ Near S w w' := by
  have HF := Lib.hid (fun W hW => find_any g S s a W hW hn)
  have HP := Lib.hid h
  obtain ⟨r, hr⟩ : ∃ r, startN s a b c = r := ⟨_, rfl⟩
  rw [hr]
  clear h
  cases hx : findN s.cs a with
  | none =>
    have HR := Lib.hid (show r = (-2, s) by rw [← hr, startN, hx])
    rw [hx] at HF
    clear hr hx
    go_enter Try.func35, Try.ntmps35
    go_wp2_with (go_at_call 32; refine (HF.out _ HP.out).mono ?_; rintro e w1 ⟨rfl, hb1⟩; simp only [coreV])
    go_ret
    rw [HR.out]
    exact ⟨rfl, HP.out.kept (bal hb1 _), Near.of_below S (bal hb1 _)⟩
  | some i =>
    have hi := findN_lt hx
    have HSet := Lib.hid (fun W hW => set_any g S s i true b c W hW hi hn)
    have HR := Lib.hid (show r = if (s.cs.getD i zV).on then (-4, s) else if Int.tmod b 4 ≠ 0 then (-9, s) else (0, setN s i true b c) by rw [← hr, startN, hx])
    rw [hx] at HF
    simp only [coreV_some] at HF
    clear hr hx hi
    generalize s.cs.getD i zV = v at *
    cases hv : v.on
    · rw [hv] at HF HR
      clear hv
      by_cases hb : Int.tmod b 4 = 0
      · have HR2 := Lib.hid (show r = (0, setN s i true b c) by rw [HR.out]; simp [hb])
        have ht : (Int.tmod b 4 != 0) = false := by simp [hb]
        clear HR hb
        go_enter Try.func35, Try.ntmps35
        go_wp2_with (first
          | (go_at_call 32; refine (HF.out _ HP.out).mono ?_; rintro e w1 ⟨rfl, hb1⟩)
          | (go_at_call 34; refine (HSet.out _ (HP.out.kept (bal hb1 _))).mono ?_; rintro e w2 ⟨rfl, hp2, hn2⟩))
        go_ret
        rw [HR2.out]
        exact ⟨rfl, hp2, (Near.of_below S (bal hb1 _)).trans hn2⟩
      · have HR2 := Lib.hid (show r = (-9, s) by rw [HR.out]; simp [hb])
        have ht : (Int.tmod b 4 != 0) = true := by simp [hb]
        clear HR hb
        go_enter Try.func35, Try.ntmps35
        go_wp2_with (go_at_call 32; refine (HF.out _ HP.out).mono ?_; rintro e w1 ⟨rfl, hb1⟩)
        go_ret
        rw [HR2.out]
        exact ⟨rfl, HP.out.kept (bal hb1 _), Near.of_below S (bal hb1 _)⟩
    · rw [hv] at HF HR
      clear hv
      go_enter Try.func35, Try.ntmps35
      go_wp2_with (go_at_call 32; refine (HF.out _ HP.out).mono ?_; rintro e w1 ⟨rfl, hb1⟩)
      go_ret
      rw [HR.out]
      exact ⟨rfl, HP.out.kept (bal hb1 _), Near.of_below S (bal hb1 _)⟩
end Go.Proofs.Ytebhfaadpalpbaa
