/- Chapter 14: the parser's numbers; walked. -/
import Derived.Test.YtmhbpfclfffgkaaCfQ
namespace Go.Proofs.Ytmhbpfclfffgkaa
set_option linter.unusedVariables false
set_option linter.unusedSimpArgs false
open Go.RowKit Go.Sort

set_option maxHeartbeats 1000000 in
theorem word_any : PCall 62 (fun p => #[.pointer (some ⟨p.g, 0, none⟩)]) wordP (fun p B x v w => v = .int .u32 x ∧ inU32 x) := by
  intro p b B a w hR hB ha
  have H := Lib.hid (number_any 4 4294967295 144 (by decide) (by decide) (by decide) p b B a w hR hB ha)
  clear hR hB
  go_enter Try.func62, Try.ntmps62
  go_wp2_with (go_at_call 95; refine H.out.mono ?_; rintro e1 w1 ⟨hn1, ⟨a1, x1, h1, rfl⟩ | ⟨x, a', v, h1, rfl, ⟨rfl, x0, x1⟩, hB1⟩⟩)
  · exact ⟨rfl, hn1, .inl ⟨_, _, h1, rfl⟩⟩
  · go_ret
    exact ⟨hn1, .inr ⟨_, a', _, h1, rfl, ⟨rfl, x0, by omega⟩, hB1⟩⟩
set_option maxHeartbeats 1000000 in
theorem wide_any : PCall 98 (fun p => #[.pointer (some ⟨p.g, 0, none⟩)]) wideP (fun p B x v w => v = .int .u64 x ∧ inU64 x) := by
  intro p b B a w hR hB ha
  have H := Lib.hid (number_any 8 18446744073709551615 144 (by decide) (by decide) (by decide) p b B a w hR hB ha)
  clear hR hB
  go_enter Try.func98, Try.ntmps98
  go_wp2_with (go_at_call 95; refine H.out.mono ?_; rintro e1 w1 ⟨hn1, ⟨a1, x1, h1, rfl⟩ | ⟨x, a', v, h1, rfl, ⟨rfl, x0, x1⟩, hB1⟩⟩)
  · exact ⟨rfl, hn1, .inl ⟨_, _, h1, rfl⟩⟩
  · go_ret
    exact ⟨hn1, .inr ⟨_, a', _, h1, rfl, ⟨rfl, x0, by omega⟩, hB1⟩⟩
set_option maxHeartbeats 1000000 in
theorem bit_any : PCall 97 (fun p => #[.pointer (some ⟨p.g, 0, none⟩)]) bitP (fun p B x v w => v = .bool x) := by
  intro p b B a w hR hB ha
  have H := Lib.hid (number_any 4 1 144 (by decide) (by decide) (by decide) p b B a w hR hB ha)
  clear hR hB
  go_enter Try.func97, Try.ntmps97
  go_wp2_with (go_at_call 95; refine H.out.mono ?_; rintro e1 w1 ⟨hn1, ⟨a1, x1, h1, rfl⟩ | ⟨x, a', v, h1, rfl, ⟨rfl, x0, x1⟩, hB1⟩⟩)
  · exact ⟨rfl, hn1, .inl ⟨_, _, (PR.bnd_error h1), rfl⟩⟩
  · go_ret
    exact ⟨hn1, .inr ⟨_, a', _, (PR.bnd_ok h1), rfl, rfl, hB1⟩⟩
set_option maxHeartbeats 1000000 in
theorem half_any (most e : Int) (h0 : 0 ≤ most) (hm : most ≤ 65535) : PCall 63 (fun p => #[.pointer (some ⟨p.g, 0, none⟩), .int .i64 most, .int .i64 e]) (halfP most e) (fun p B x v w => v = .int .i64 x ∧ 0 ≤ x ∧ x ≤ most) := by
  intro p b B a w hR hB ha
  have H := Lib.hid (number_any 2 most e (by decide) (by decide) (by omega) p b B a w hR hB ha)
  clear hR hB
  go_enter Try.func63, Try.ntmps63
  go_wp2_with (go_at_call 95; refine H.out.mono ?_; rintro e1 w1 ⟨hn1, ⟨a1, x1, h1, rfl⟩ | ⟨x, a', v, h1, rfl, ⟨rfl, x0, x1⟩, hB1⟩⟩)
  · exact ⟨rfl, hn1, .inl ⟨_, _, h1, rfl⟩⟩
  · go_ret
    exact ⟨hn1, .inr ⟨_, a', _, h1, rfl, ⟨rfl, x0, x1⟩, hB1⟩⟩
end Go.Proofs.Ytmhbpfclfffgkaa
