/- Chapter 10, the store: clones of slices. -/
import Derived.Test.YtpenjfkdinmgmaaApp
import Derived.Lib.SliceRun
namespace Go.Proofs.Ytpenjfkdinmgmaa
set_option linter.unusedVariables false
open Go.RowKit Go.Sort

def encU (x : Int) : List Value := [.int .u32 x]
/-- A cut: after so many writes, a mask. -/
def encC (p : Int × Int) : List Value := [.int .i64 p.1, .int .u32 p.2]
theorem info_u32 : (Try.prog.info? 23).map (fun i => (i.zero, i.size, i.bytes)) = some (some (.int .u32 0), 1, 4) := by kernel_rfl
theorem info_cut : (Try.prog.info? 58).map (fun i => (i.zero, i.size, i.bytes)) = some (some (.agg #[.int .i64 0, .int .u32 0]), 2, 16) := by kernel_rfl
theorem u32_elem : ElemInfo Try.prog 22 23 1 4 := by
  obtain ⟨i, hi, hz, hs, hb⟩ := info_parts info_u32
  exact ⟨Try.underlying22, ⟨i, _, hi, hz, hs, hb, rfl⟩, by decide⟩
theorem cut_elem : ElemInfo Try.prog 39 58 2 16 := by
  obtain ⟨i, hi, hz, hs, hb⟩ := info_parts info_cut
  exact ⟨Try.underlying39, ⟨i, _, hi, hz, hs, hb, rfl⟩, by decide⟩
theorem one_u (l : List Int) : ∀ u ∈ l.flatMap encU, u.oneCell' = true := by
  intro u hu; obtain ⟨x, _, hx⟩ := List.mem_flatMap.1 hu; simp [encU] at hx; subst hx; rfl
theorem one_c (l : List (Int × Int)) : ∀ u ∈ l.flatMap encC, u.oneCell' = true := by
  intro u hu; obtain ⟨x, _, hx⟩ := List.mem_flatMap.1 hu; simp [encC] at hx; rcases hx with rfl | rfl <;> rfl

set_option maxHeartbeats 1000000 in
theorem clone_u32 (A : Option Addr) (n c : Nat) (xs : List Value) (w : World) (hr : Rd w w.heap.size 1 A n xs) (h1 : ∀ u ∈ xs, u.oneCell' = true) (hn : n ≤ 1000) :
    Calls Try.prog 26 #[.slice A n c] w fun e w' => ∃ v', e = .returned v' ∧ w'.ownsRow w.heap.size 23 1 v' n xs ∧ Below w.heap.size w w' := by
  have q : ∀ (w : World) (a : Option Addr) (n c n' c' : Nat), (binOp .eql 22 (.slice a n c) (.slice none n' c')).run Try.prog w = .ok (.bool a.isNone) w := fun w a n c n' c' => Lib.run_eql_slice_nil w _ _ a n c n' c' Try.underlying22
  rcases A with _ | ad
  · have h0 : n = 0 := by
      rcases Nat.eq_zero_or_pos n with h | h
      · exact h
      · obtain ⟨b, off, h, _⟩ := hr.2 h; cases h
    subst h0
    have hx : xs = [] := List.eq_nil_of_length_eq_zero (by simpa using hr.1)
    subst hx
    clear hr h1
    go_enter Try.func26, Try.ntmps26
    go_wp2
    go_ret
    exact ⟨_, rfl, World.ownsRow_nil _ _ _ _, Below.refl _ _⟩
  · have hnm : 0 + n ≤ maxLen := by unfold maxLen; omega
    go_enter Try.func26, Try.ntmps26
    go_wp2_with (at_builtin; refine wpList_app u32_elem rfl (.tmp 5) (.tmp 6) rfl w.heap.size (World.ownsRow_made w #[] 0 (Nat.le_refl _) (Nat.zero_le _) rfl) rfl rfl (hr.alloc (Nat.le_refl _) _) h1 hnm (by omega) (by simp) ?_; intro v1 w1 hown hb1 _)
    go_ret
    exact ⟨_, rfl, by simpa using hown, ((Below.refl _ w).alloc (Nat.le_refl _) _).trans hb1⟩
set_option maxHeartbeats 1000000 in
theorem clone_cut (A : Option Addr) (n c : Nat) (xs : List Value) (w : World) (hr : Rd w w.heap.size 2 A n xs) (h1 : ∀ u ∈ xs, u.oneCell' = true) (hn : n ≤ 1000) :
    Calls Try.prog 25 #[.slice A n c] w fun e w' => ∃ v', e = .returned v' ∧ w'.ownsRow w.heap.size 58 2 v' n xs ∧ Below w.heap.size w w' := by
  have q : ∀ (w : World) (a : Option Addr) (n c n' c' : Nat), (binOp .eql 39 (.slice a n c) (.slice none n' c')).run Try.prog w = .ok (.bool a.isNone) w := fun w a n c n' c' => Lib.run_eql_slice_nil w _ _ a n c n' c' Try.underlying39
  rcases A with _ | ad
  · have h0 : n = 0 := by
      rcases Nat.eq_zero_or_pos n with h | h
      · exact h
      · obtain ⟨b, off, h, _⟩ := hr.2 h; cases h
    subst h0
    have hx : xs = [] := List.eq_nil_of_length_eq_zero (by simpa using hr.1)
    subst hx
    clear hr h1
    go_enter Try.func25, Try.ntmps25
    go_wp2
    go_ret
    exact ⟨_, rfl, World.ownsRow_nil _ _ _ _, Below.refl _ _⟩
  · have hnm : 0 + n ≤ maxLen := by unfold maxLen; omega
    go_enter Try.func25, Try.ntmps25
    go_wp2_with (at_builtin; refine wpList_app cut_elem rfl (.tmp 5) (.tmp 6) rfl w.heap.size (World.ownsRow_made w #[] 0 (Nat.le_refl _) (Nat.zero_le _) rfl) rfl rfl (hr.alloc (Nat.le_refl _) _) h1 hnm (by omega) (by simp) ?_; intro v1 w1 hown hb1 _)
    go_ret
    exact ⟨_, rfl, by simpa using hown, ((Below.refl _ w).alloc (Nat.le_refl _) _).trans hb1⟩
end Go.Proofs.Ytpenjfkdinmgmaa
