/- Chapter 27: numbers out of a manifest's bytes. -/
import Derived.Test.YtjjbpiejplfbpaaPolN
import Derived.Test.YtjjbpiejplfbpaaWordGet
namespace Go.Proofs.Ytjjbpiejplfbpaa
set_option linter.unusedVariables false
open Go.RowKit Go.Sort

set_option maxHeartbeats 1000000 in
theorem number_yes (A : Option Addr) (n c : Nat) (l : List Int) (a : Nat) (w : World) (hl : l.length = n) (hok : BytesOk l) (hm : n ≤ 1000000000) (h : a + 4 ≤ n) (hr : Rd w w.heap.size 1 A n (l.flatMap encB)) :
    Calls Try.prog 29 #[.slice A n c, .int .i64 a] w fun e w' => e = .returned (.int .u32 (numB ((l.drop a).take 4))) ∧ w = w' := by
  have H := Lib.hid (be32_yes A n c l a w hl hok hm h hr)
  clear hr hl hok h
  go_enter Try.func29, Try.ntmps29
  go_wp2_with (go_at_call 43; refine H.out.mono ?_; rintro e w1 ⟨rfl, rfl⟩)
  go_ret
  exact ⟨rfl, rfl⟩
set_option maxHeartbeats 1000000 in
theorem number_no (A : Option Addr) (n c : Nat) (at_ : Int) (w : World) (hm : n ≤ 1000000000) (h : at_ < 0 ∨ n < 4 ∨ (n : Int) - 4 < at_) :
    Calls Try.prog 29 #[.slice A n c, .int .i64 at_] w fun e w' => e = .returned (.int .u32 0) ∧ w = w' := by
  have H := Lib.hid (be32_no A n c at_ w hm h)
  clear h
  go_enter Try.func29, Try.ntmps29
  go_wp2_with (go_at_call 43; refine H.out.mono ?_; rintro e w1 ⟨rfl, rfl⟩)
  go_ret
  exact ⟨rfl, rfl⟩
set_option maxHeartbeats 1000000 in
theorem wide_yes (A : Option Addr) (n c : Nat) (l : List Int) (a : Nat) (w : World) (hl : l.length = n) (hok : BytesOk l) (hm : n ≤ 1000000000) (h : a + 8 ≤ n) (hr : Rd w w.heap.size 1 A n (l.flatMap encB)) :
    Calls Try.prog 30 #[.slice A n c, .int .i64 a] w fun e w' => e = .returned (.int .u64 (numB ((l.drop a).take 8))) ∧ w = w' := by
  have H := Lib.hid (be64_yes A n c l a w hl hok hm h hr)
  clear hr hl hok h
  go_enter Try.func30, Try.ntmps30
  go_wp2_with (go_at_call 44; refine H.out.mono ?_; rintro e w1 ⟨rfl, rfl⟩)
  go_ret
  exact ⟨rfl, rfl⟩
set_option maxHeartbeats 1000000 in
theorem wide_no (A : Option Addr) (n c : Nat) (at_ : Int) (w : World) (hm : n ≤ 1000000000) (h : at_ < 0 ∨ n < 8 ∨ (n : Int) - 8 < at_) :
    Calls Try.prog 30 #[.slice A n c, .int .i64 at_] w fun e w' => e = .returned (.int .u64 0) ∧ w = w' := by
  have H := Lib.hid (be64_no A n c at_ w hm h)
  clear h
  go_enter Try.func30, Try.ntmps30
  go_wp2_with (go_at_call 44; refine H.out.mono ?_; rintro e w1 ⟨rfl, rfl⟩)
  go_ret
  exact ⟨rfl, rfl⟩
end Go.Proofs.Ytjjbpiejplfbpaa
