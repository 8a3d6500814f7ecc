/- Chapter 14: bytes that are parsed are those that are put: the law's walk. -/
import Derived.Test.YtmhbpfclfffgkaaCfAw
import Derived.Test.YtmhbpfclfffgkaaCfWd
import Derived.Test.YtmhbpfclfffgkaaCfL
namespace Go.Proofs.Ytmhbpfclfffgkaa
set_option linter.unusedVariables false
set_option linter.unusedSimpArgs false
open Go.RowKit Go.Sort Go.ChangeShapes Go.WideShapes
set_option maxRecDepth 100000 in
theorem open_bytesC {H : Type} {enc : TypeId × Value → H} {W : World} {v : Value} {d : DataW H} {p : List MemPlace} {b0 : Nat} {r : Reach}
    (hv : Value.okWide Try.prog W r b0 22 v) (h : DataW.Trod enc Try.prog W 0 (fun _ => true) true 22 v d p) (hlt : ∀ x ∈ p, x.block < W.heap.size) :
    ∃ (A : Option Addr) (n c : Nat) (l : List Int), v = .slice A n c ∧ n ≤ c ∧ c ≤ maxLen ∧ l.length = n ∧ BytesOk l ∧ Rd W W.heap.size 1 A n (l.flatMap encB) := by
  obtain ⟨A, n, cp, xss, rfl, hnc, hcm, hx, hok, hr⟩ := open_rows Try.underlying22 flat_u8 (by kernel_rfl) (by decide) hv h hlt
  obtain ⟨l, hl, hf, hb⟩ := list_of_rows (enc := encB) (ok := fun x => 0 ≤ x ∧ x < 256) xss (fun xs hxs => by obtain ⟨p, rfl, h⟩ := flat_b (hok xs hxs); exact ⟨p, rfl, h⟩)
  rw [hf] at hr
  exact ⟨A, n, cp, l, rfl, hnc, hcm, hl.trans hx, hb, hr⟩
theorem firstE_all : ∀ {l : List Gs}, firstE l = 0 → ∀ g ∈ l, gErr g = 0
  | [], _, g, hg => by cases hg
  | a :: l, h, g, hg => by
    unfold firstE at h
    by_cases ha : gErr a = 0
    · rw [if_pos ha] at h
      rcases List.mem_cons.1 hg with rfl | hg
      · exact ha
      · exact firstE_all h g hg
    · rw [if_neg ha] at h; exact absurd h ha
theorem gErr_parts {g : Gs} (h : gErr g = 0) : nameN (strB g.nm) = true ∧ keyB g.key = true ∧ cntOk g = true ∧ g.ws.all wnOk = true ∧ g.qs.all iqOk = true := by
  unfold gErr at h
  split at h
  · omega
  split at h
  · omega
  split at h
  · omega
  split at h
  · omega
  split at h
  · omega
  refine ⟨?_, ?_, ?_, ?_, ?_⟩ <;> rw [← Bool.not_eq_false] <;> assumption
theorem putE_parts {x : CfD} (h : putE x = 0) : (1 ≤ x.gs.length ∧ x.gs.length ≤ 16 ∧ x.cs.length ≤ 32) ∧ (∀ g ∈ x.gs, gErr g = 0) ∧ x.cs.all chOk = true := by
  unfold putE at h
  split at h
  · omega
  rename_i h1
  split at h
  · rename_i h2; exact absurd h h2
  rename_i h2
  split at h
  · omega
  rename_i h3
  refine ⟨Decidable.not_not.1 h1, firstE_all (Decidable.not_not.1 h2), ?_⟩
  rw [← Bool.not_eq_false]; exact h3
theorem putOk_of {x : Cf} (h : putE (cData x) = 0) : PutOk x := by
  obtain ⟨⟨h1, h2, h3⟩, h4, _⟩ := putE_parts h
  have hl : (cData x).gs.length = x.gs.length := by simp [cData]
  have hc : (cData x).cs = x.cs := rfl
  rw [hl] at h1 h2
  rw [hc] at h3
  refine ⟨by omega, by omega, fun g hg => ?_⟩
  have hg1 := h4 g.1 (List.mem_map.2 ⟨g, hg, rfl⟩)
  have hn := gerr_nm hg1
  obtain ⟨_, _, k, _⟩ := gErr_parts hg1
  unfold cntOk at k
  simp only [Bool.and_eq_true, decide_eq_true_eq] at k
  omega
set_option maxRecDepth 100000 in
set_option maxHeartbeats 4000000 in
theorem cfgOnce_any (A : Option Addr) (n c : Nat) (l : List Int) (w : World) (hl : l.length = n) (hok : BytesOk l) (hnc : n ≤ c) (hcm : c ≤ maxLen) (hr : Rd w w.heap.size 1 A n (l.flatMap encB)) :
    Calls Try.prog 7 #[.slice A n c] w fun e w' => e = .returned (.bool true) ∧ Below w.heap.size w w' := by
  have hm : n < 2 ^ 63 := by unfold maxLen at hcm; omega
  by_cases h4 : n ≤ 5000
  · have HPa := Lib.hid (fun W (h : Below w.heap.size w W) => parse_any A n c l W hl hok (by omega) hnc hcm ((hr.below h).more h.size))
    rcases hp : parseC l with ⟨a, x⟩ | y
    · have hx : x ≠ 0 := by
        unfold parseC at hp
        split at hp
        · cases hp; decide
        · rcases hc : configP l 0 with e | r
          · rw [hc] at hp
            cases hp
            exact NZ.config l 0 _ hc
          · rw [hc] at hp; cases hp
      have HPb := Lib.hid (fun W (h : Below w.heap.size w W) => (HPa.out W h).mono fun e w' h => parse_bad h hp)
      have hd : (x != 0) = true := by simp; exact hx
      clear HPa hp
      go_enter Try.func7, Try.ntmps7
      go_wp2_with (first
        | (go_at_call 12; refine (awake14_any _).mono ?_; rintro e w1 ⟨rfl, hb1⟩)
        | (go_at_call 13; refine (HPb.out _ hb1).mono ?_; rintro e w2 ⟨rfl, hb2⟩; have hb2' := hb1.trans (hb2.mono hb1.size); have hT2 := Blk.new w2 28 #[.int .u32 0, .slice none 0 0, .slice none 0 0]; have cT2 := hT2.cell))
      go_ret
      exact ⟨rfl, bal' hb2' _ hb2'.size⟩
    · obtain ⟨hb, he⟩ := parse_once hok hp
      have HPb := Lib.hid (fun W (h : Below w.heap.size w W) => (HPa.out W h).mono (R' := fun e w' => ∃ (v : Int) (A1 A2 : Option Addr) (c1 c2 : Nat) (L : List (Gs × Gp)) (C : List Ch), e = .returned (.tuple #[.agg #[.int .u32 v, .slice A1 L.length c1, .slice A2 C.length c2], .int .i64 0, .int .i64 0]) ∧ cData ⟨v, L, C⟩ = y ∧ CfR w' w'.heap.size ⟨v, L, C⟩ A1 c1 A2 c2 ∧ Below W.heap.size W w') fun e w' h => by
        obtain ⟨h1, ⟨a2, x2, h2, h3, h4⟩ | ⟨x2, L, A1, c1, A2, c2, h2, h3, h4, h5⟩⟩ := h
        · rw [hp] at h2; cases h2
        · rw [hp] at h2
          cases h2
          exact ⟨_, A1, A2, c1, c2, L, y.cs, h3, by unfold cData; simp only; rw [← h4], h5, h1⟩)
      have HPut := Lib.hid (fun (W : World) (v : Int) (A1 A2 : Option Addr) (c1 c2 : Nat) (L : List (Gs × Gp)) (C : List Ch) (hy : cData ⟨v, L, C⟩ = y) (h : CfR W W.heap.size ⟨v, L, C⟩ A1 c1 A2 c2) =>
        (show Calls Try.prog 21 #[.agg #[.int .u32 v, .slice A1 L.length c1, .slice A2 C.length c2]] W (fun e w' => ∃ A c, e = .returned (.tuple #[.slice A n c, .int .i64 0]) ∧ w'.ownsRow W.heap.size 5 1 (.slice A n c) n (l.flatMap encB) ∧ Below W.heap.size W w') from by
          refine (put_any ⟨v, L, C⟩ A1 c1 A2 c2 W h (putOk_of (by rw [hy]; exact he))).mono fun e w' hh => ?_
          obtain ⟨h1, ⟨h2, _⟩ | ⟨_, A3, c3, h2, h3⟩⟩ := hh
          · rw [hy] at h2; exact absurd he h2
          · rw [hy, ← hb, hl] at h2 h3
            exact ⟨A3, c3, h2, h3, h1⟩))
      have HN := Lib.hid hl
      clear HPa hp hb he hl
      go_enter Try.func7, Try.ntmps7
      go_upto_region 6 with (first
        | (go_at_call 12; refine (awake14_any _).mono ?_; rintro e w1 ⟨rfl, hb1⟩)
        | (go_at_call 13; refine (HPb.out _ hb1).mono ?_; rintro e w2 ⟨v, A1, A2, c1, c2, L, C, rfl, hy, hX, hb2⟩; have hb2' := hb1.trans (hb2.mono hb1.size)))
      have hT2 := Blk.new w2 28 #[.int .u32 v, .slice A1 L.length c1, .slice A2 C.length c2]
      have hba := bal (Below.refl w2.heap.size w2) (.cells #[.int .u32 v, .slice A1 L.length c1, .slice A2 C.length c2] 28)
      have hX3 := (hX.below hba).more hba.size
      have hb3 := bal' hb2' (.cells #[.int .u32 v, .slice A1 L.length c1, .slice A2 C.length c2] 28) hb2'.size
      generalize w2.alloc (.cells #[.int .u32 v, .slice A1 L.length c1, .slice A2 C.length c2] 28) = w3 at *
      have cT2 := hT2.cell
      have HP := HPut.out _ _ _ _ _ _ _ _ hy hX3
      have HP2 := Lib.hid HP
      clear HP hX hX3 hy hT2 HPut HPb hba
      go_wp2_with (go_at_call 21; refine HP2.out.mono ?_; rintro e w4 ⟨A4, c4, rfl, hown, hb4⟩; have s1 := conv_str (Rd.of_own hown) HN.out c4; have hb4' := hb3.trans (hb4.mono hb3.size); have s2 := conv_str ((hr.below hb4').more hb4'.size) HN.out c)
      go_ret
      exact ⟨rfl, hb4'⟩
  · go_enter Try.func7, Try.ntmps7
    go_wp2_with (go_at_call 12; refine (awake14_any _).mono ?_; rintro e w1 ⟨rfl, hb1⟩)
    go_ret
    exact ⟨rfl, hb1⟩
end Go.Proofs.Ytmhbpfclfffgkaa
