/- Bytes that are a tree are its only ones: the law's walk. -/
import Derived.Test.YtnkpaockginooaaOfE
import Derived.Test.YtnkpaockginooaaTreeJ
namespace Go.Proofs.Ytnkpaockginooaa
set_option linter.unusedVariables false
set_option linter.unusedSimpArgs false
open Go.RowKit Go.Sort
theorem ofOk_some {bs : List Int} {t : Tr} (h : ofOk bs = some t) : (putT t).2 = 0 ∧ strOfNums (putT t).1 = strOfNums bs ∧ LensF 8 t := by
  unfold ofOk at h
  simp only [Option.bind_eq_some_iff] at h
  obtain ⟨p, hp, h⟩ := h
  split at h
  · rename_i hg
    simp only [Option.bind_eq_some_iff] at h
    obtain ⟨y, hy, h⟩ := h
    split at h
    · simp only [Option.bind_eq_some_iff] at h
      obtain ⟨⟨t', a', l'⟩, hr, h⟩ := h
      split at h
      · rename_i hq
        simp only [Option.some.injEq] at h
        subst h
        exact ⟨hq.1, hq.2, nodeP_lens (by rw [List.length_take]; omega) (by rw [List.length_drop]; omega) _ _ _ _ _ _ hr⟩
      · cases h
    · cases h
  · cases h
set_option maxRecDepth 100000 in
set_option maxHeartbeats 4000000 in
theorem fdtOnce_any (A : Option Addr) (n c : Nat) (l : List Int) (w : World) (hl : l.length = n) (hok : BytesOk l) (hm : n ≤ maxLen) (hnc : n ≤ c) (hr : Rd w w.heap.size 1 A n (l.flatMap encB)) :
    Calls Try.prog 8 #[.slice A n c] w fun e w' => e = .returned (.bool true) ∧ Below w.heap.size w w' := by
  unfold maxLen at hm
  by_cases h4 : n ≤ 4000
  · have HOf := Lib.hid (fun W (h : Below w.heap.size w W) => of_any A n c l W hl hok (by omega) hnc ((hr.below h).more h.size))
    rcases ho : ofOk l with _ | t
    · have HOf' := Lib.hid (fun W (h : Below w.heap.size w W) => (HOf.out W h).mono (R' := fun e w' => e = .returned (.tuple #[.agg #[.string ⟨#[]⟩, .slice none 0 0, .slice none 0 0], .int .i64 240]) ∧ Below W.heap.size W w') fun e w' h => by
        unfold OfP at h
        rw [ho] at h
        exact h)
      clear HOf ho
      go_enter Try.func8, Try.ntmps8
      go_wp2_with (first
        | (go_at_call 13; refine (awake24_any _).mono ?_; rintro e w1 ⟨rfl, hb1⟩)
        | (go_at_call 27; refine (HOf'.out _ hb1).mono ?_; rintro e w2 ⟨rfl, hb2⟩; have hb2' := hb1.trans (hb2.mono hb1.size); have hT2 := Blk.new w2 25 #[.string ⟨#[]⟩, .slice none 0 0, .slice none 0 0]; have cT2 := hT2.cell))
      go_ret
      exact ⟨rfl, bal' hb2' _ hb2'.size⟩
    · obtain ⟨h0, hs, hL⟩ := ofOk_some ho
      obtain ⟨pb, hpb⟩ : ∃ pb, (putT t).1 = pb := ⟨_, rfl⟩
      rw [hpb] at hs
      obtain ⟨np, hnp⟩ : ∃ m, pb.length = m := ⟨_, rfl⟩
      have HOf' := Lib.hid (fun W (h : Below w.heap.size w W) => (HOf.out W h).mono (R' := fun e w' => ∃ (sn : ByteArray) (A1 : Option Addr) (n1 c1 : Nat) (A2 : Option Addr) (n2 c2 k : Nat), e = .returned (.tuple #[.agg #[.string sn, .slice A1 n1 c1, .slice A2 n2 c2], .int .i64 0]) ∧ TrX w' (fun i => i < W.heap.size) k t [.string sn, .slice A1 n1 c1, .slice A2 n2 c2] ∧ Below W.heap.size W w') fun e w' h => by
        unfold OfP at h
        rw [ho] at h
        exact h)
      have HPut := Lib.hid (fun (W : World) (X : Nat → Prop) (k : Nat) (cs : List Value) (h : TrX W X k t cs) => (put_any (max k 8) t cs W (h.ok.mono (Nat.le_max_left _ _)) (hL.mono (Nat.le_max_right _ _))).mono (R' := fun e w' => ∃ A c, e = .returned (.tuple #[.slice A np c, .int .i64 0]) ∧ w'.ownsRow W.heap.size 5 1 (.slice A np c) np (pb.flatMap encB) ∧ Below W.heap.size W w') fun e w' h => by
        unfold PutP at h
        rw [hpb, h0, hnp] at h
        exact h)
      have HS := Lib.hid hs
      have HN := Lib.hid hnp
      clear HOf ho h0 hL hpb hs hnp
      go_enter Try.func8, Try.ntmps8
      go_wp2_with (first
        | (go_at_call 13; refine (awake24_any _).mono ?_; rintro e w1 ⟨rfl, hb1⟩)
        | (go_at_call 27; refine (HOf'.out _ hb1).mono ?_; rintro e w2 ⟨sn, A1, n1, c1, A2, n2, c2, k, rfl, hX2, hb2⟩; have hb2' := hb1.trans (hb2.mono hb1.size); have hT2 := Blk.new w2 25 #[.string sn, .slice A1 n1 c1, .slice A2 n2 c2]; have cT2 := hT2.cell; have hX3 := hX2.kept (bal (Below.refl _ _) (.cells #[.string sn, .slice A1 n1 c1, .slice A2 n2 c2] 25)); have hb3 := bal' hb2' (.cells #[.string sn, .slice A1 n1 c1, .slice A2 n2 c2] 25) hb2'.size)
        | (go_at_call 15; refine (HPut.out _ _ _ _ hX3).mono ?_; rintro e w4 ⟨A4, c4, rfl, hown, hb4⟩; have s1 := conv_str (Rd.of_own hown) HN.out c4; have hb4' := hb3.trans (hb4.mono hb3.size); have s2 := conv_str ((hr.below hb4').more hb4'.size) hl c; rw [HS.out] at s1))
      go_ret
      exact ⟨rfl, hb4'⟩
  · go_enter Try.func8, Try.ntmps8
    go_wp2_with (go_at_call 13; refine (awake24_any _).mono ?_; rintro e w1 ⟨rfl, hb1⟩)
    go_ret
    exact ⟨rfl, hb1⟩
end Go.Proofs.Ytnkpaockginooaa
