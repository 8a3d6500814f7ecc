/- The tree that any bytes are: the law's walk. -/
import Derived.Test.YtnkpaockginooaaOfR
import Derived.Test.YtnkpaockginooaaOfG
namespace Go.Proofs.Ytnkpaockginooaa
set_option linter.unusedVariables false
set_option linter.unusedSimpArgs false
open Go.RowKit Go.Sort
set_option maxRecDepth 100000 in
set_option maxHeartbeats 4000000 in
theorem fdtReads_any (A : Option Addr) (n c : Nat) (l : List Int) (w : World) (hl : l.length = n) (hok : BytesOk l) (hm : n ≤ maxLen) (hnc : n ≤ c) (hcm : c ≤ maxLen) (hr : Rd w w.heap.size 1 A n (l.flatMap encB)) :
    Calls Try.prog 7 #[.slice A n c] w fun e w' => e = .returned (.bool true) ∧ Below w.heap.size w w' := by
  have hm' := hm
  unfold maxLen at hm
  by_cases h4 : n ≤ 4000
  · have HOf := Lib.hid (fun W (h : Below w.heap.size w W) => of_any A n c l W hl hok (by omega) hnc ((hr.below h).more h.size))
    have HRf := Lib.hid (fun W (h : Below w.heap.size w W) => rof_any A n c l W hl hok (by omega) hnc hcm ((hr.below h).more h.size))
    obtain ⟨t, x, HO, HR⟩ : ∃ (t : Tr) (x : Int), (∀ W, Below w.heap.size w W → Calls Try.prog 27 #[.slice A n c] W fun e w' => ∃ (sn : ByteArray) (A1 : Option Addr) (n1 c1 : Nat) (A2 : Option Addr) (n2 c2 k : Nat), e = .returned (.tuple #[.agg #[.string sn, .slice A1 n1 c1, .slice A2 n2 c2], .int .i64 x]) ∧ TrOk w' w'.heap.size k t [.string sn, .slice A1 n1 c1, .slice A2 n2 c2] ∧ Below W.heap.size W w') ∧
        (∀ W, Below w.heap.size w W → Calls Try.prog 28 #[.slice A n c] W fun e w' => ∃ (sn : ByteArray) (A1 : Option Addr) (n1 c1 : Nat) (A2 : Option Addr) (n2 c2 k : Nat), e = .returned (.tuple #[.agg #[.string sn, .slice A1 n1 c1, .slice A2 n2 c2], .int .i64 x]) ∧ TrOk w' w'.heap.size k t [.string sn, .slice A1 n1 c1, .slice A2 n2 c2] ∧ Below W.heap.size W w') := by
      have hz : ∀ w : World, TrOk w w.heap.size 1 (.mk ⟨#[]⟩ [] []) [.string ⟨#[]⟩, .slice none 0 0, .slice none 0 0] := fun w => by
        refine ⟨Nat.zero_le _, none, 0, none, 0, fun _ => [], fun _ => [], rfl, by simp [Tr.ps], by simp [maxLen], by simp [Tr.ks], by simp [maxLen], fun h => absurd h (by simp [Tr.ps]), fun h => absurd h (by simp [Tr.ks]), fun i p h => by simp [Tr.ps] at h, fun i p h => by simp [Tr.ks] at h⟩
      rcases ho : ofOk l with _ | t
      · refine ⟨.mk ⟨#[]⟩ [] [], 240, fun W hW => (HOf.out W hW).mono fun e w' h => ?_, fun W hW => (HRf.out W hW).mono fun e w' h => ?_⟩
        · unfold OfP at h
          rw [ho] at h
          exact ⟨_, _, _, _, _, _, _, _, h.1, hz _, h.2⟩
        · unfold RofP at h
          rw [ho] at h
          exact ⟨_, _, _, _, _, _, _, _, h.1, hz _, h.2⟩
      · refine ⟨t, 0, fun W hW => (HOf.out W hW).mono fun e w' h => ?_, fun W hW => (HRf.out W hW).mono fun e w' h => ?_⟩
        · unfold OfP at h
          rw [ho] at h
          obtain ⟨sn, A1, n1, c1, A2, n2, c2, k, h1, h2, h3⟩ := h
          exact ⟨_, _, _, _, _, _, _, _, h1, h2.ok, h3⟩
        · unfold RofP at h
          rw [ho] at h
          exact h
    have HO := Lib.hid HO
    have HR := Lib.hid HR
    clear HOf HRf
    go_enter Try.func7, Try.ntmps7
    go_wp2_with (first
      | (go_at_call 13; refine (awake24_any _).mono ?_; rintro e w1 ⟨rfl, hb1⟩)
      | (go_at_call 27; refine (HO.out _ hb1).mono ?_; rintro e w2 ⟨sn, A1, n1, c1, A2, n2, c2, k, rfl, hT, hb2⟩; have hb2' := hb1.trans (hb2.mono hb1.size); have hT2 := Blk.new w2 25 #[.string sn, .slice A1 n1 c1, .slice A2 n2 c2]; have hX3 := hT.kept (bal (Below.refl _ _) (.cells #[.string sn, .slice A1 n1 c1, .slice A2 n2 c2] 25)); have hb3 := bal' hb2' (.cells #[.string sn, .slice A1 n1 c1, .slice A2 n2 c2] 25) hb2'.size; obtain ⟨bz, hbz⟩ : ∃ bz, w2.heap.size = bz := ⟨_, rfl⟩; rw [hbz] at hT2)
      | (go_at_call 28; refine (HR.out _ hb3).mono ?_; rintro e w4 ⟨sn', A1', n1', c1', A2', n2', c2', k', rfl, hT', hb4⟩; have hb4' := hb3.trans (hb4.mono hb3.size); have hT4 := hT2.kept hb4; have hX4 := hX3.kept hb4; have hT5 := hT4.kept (bal (Below.refl _ _) (.cells #[.string sn', .slice A1' n1' c1', .slice A2' n2' c2'] 25)); have hX5 := hX4.kept (bal (Below.refl _ _) (.cells #[.string sn', .slice A1' n1' c1', .slice A2' n2' c2'] 25)); have hY5 := hT'.kept (bal (Below.refl _ _) (.cells #[.string sn', .slice A1' n1' c1', .slice A2' n2' c2'] 25)); have hb5 := bal' hb4' (.cells #[.string sn', .slice A1' n1' c1', .slice A2' n2' c2'] 25) hb4'.size; have hU5 := Blk.new w4 25 #[.string sn', .slice A1' n1' c1', .slice A2' n2' c2']; have HC := Lib.hid (refSame_any _ _ _ _ _ _ _ hX5 hY5); have cT5 := hT5.cell; have cU5 := hU5.cell; clear hT2 hT4 hX3 hX4 hT5 hX5 hY5 hU5)
      | (go_at_call 20; refine HC.out.mono ?_; rintro e w6 ⟨rfl, hb6⟩; have hb6' := hb5.trans (hb6.mono hb5.size)))
    go_ret
    rw [eqv_t rfl]
    exact ⟨rfl, hb6'⟩
  · go_enter Try.func7, Try.ntmps7
    go_wp2_with (go_at_call 13; refine (awake24_any _).mono ?_; rintro e w1 ⟨rfl, hb1⟩)
    go_ret
    exact ⟨rfl, hb1⟩
end Go.Proofs.Ytnkpaockginooaa
