/- Chapter 13: what a counter's rise does to the words: plain. -/
import Derived.Test.YtpenjfkdinmgmaaCtrJ
namespace Go.Proofs.Ytpenjfkdinmgmaa
set_option linter.unusedVariables false
set_option linter.unusedSimpArgs false

theorem getD_set (l : List Int) (i j : Nat) (x : Int) (hi : i < l.length) : (l.set i x).getD j 0 = if j = i then x else l.getD j 0 := by
  rw [List.getD_eq_getElem?_getD, List.getElem?_set, List.getD_eq_getElem?_getD]
  by_cases h : j = i
  · subst h; simp [hi]
  · rw [if_neg (fun e => h e.symm), if_neg h]
theorem slW_put (ws : List Int) (b : Nat) (p : Int × Int) (h0 : 0 ≤ p.1) (h3 : p.1 ≤ 3) (hb : b + 4 ≤ ws.length) : slW (ws.set (b + p.1.toNat) p.2) b = put4 (slW ws b) p := by
  obtain ⟨a, x⟩ := p
  simp only at h0 h3 ⊢
  rcases (show a = 0 ∨ a = 1 ∨ a = 2 ∨ a = 3 by omega) with rfl | rfl | rfl | rfl
  all_goals
    unfold slW put4
    simp only [Int.toNat_zero, Int.toNat_one, Int.reduceToNat, Nat.add_zero]
    rw [getD_set _ _ _ _ (by omega), getD_set _ _ _ _ (by omega), getD_set _ _ _ _ (by omega), getD_set _ _ _ _ (by omega)]
    simp
theorem slW_tear (ws : List Int) (b : Nat) (p : Int × Int) (m : Int) (h0 : 0 ≤ p.1) (h3 : p.1 ≤ 3) (hb : b + 4 ≤ ws.length) : slW (ws.set (b + p.1.toNat) (tornW m p.2 (ws.getD (b + p.1.toNat) 0))) b = tear m (slW ws b) p := by
  obtain ⟨a, x⟩ := p
  simp only at h0 h3 ⊢
  rcases (show a = 0 ∨ a = 1 ∨ a = 2 ∨ a = 3 by omega) with rfl | rfl | rfl | rfl
  all_goals
    unfold slW tear tornW
    simp only [Int.toNat_zero, Int.toNat_one, Int.reduceToNat, Nat.add_zero]
    rw [getD_set _ _ _ _ (by omega), getD_set _ _ _ _ (by omega), getD_set _ _ _ _ (by omega), getD_set _ _ _ _ (by omega)]
    simp
theorem slW_far {ws ws' : List Int} {b c : Nat} (h : ∀ i, (i < b ∨ b + 4 ≤ i) → ws'.getD i 0 = ws.getD i 0) (hc : c + 4 ≤ b ∨ b + 4 ≤ c) : slW ws' c = slW ws c := by
  unfold slW
  rw [h c (by omega), h (c + 1) (by omega), h (c + 2) (by omega), h (c + 3) (by omega)]
theorem writeN_in (s : Stt) (j : Nat) (i x : Int) (hij : i = j) (ho : s.on = true) (hj : j < s.ws.length) :
    writeN s i x = (0, { s with k := s.k + 1, ws := s.ws.set j x }) ∨ (∃ p cs', s.cs = p :: cs' ∧ writeN s i x = (100, { s with on := false, ws := s.ws.set j (tornW p.2 x (s.ws.getD j 0)) })) := by
  subst hij
  unfold writeN
  rw [if_neg (by rw [ho]; decide), if_neg (by omega)]
  simp only [Int.toNat_natCast]
  split
  · exact .inl rfl
  · rename_i p cs' hcs
    split
    · exact .inr ⟨p, cs', hcs, rfl⟩
    · exact .inl rfl
theorem tornW_bd (m x y : Int) : 0 ≤ tornW m x y ∧ tornW m x y < 4294967296 := or_u32_bd _ _
theorem u32s_set {l : List Int} (h : U32s l) (j : Nat) (x : Int) (hx : 0 ≤ x ∧ x < 4294967296) : U32s (l.set j x) := by
  intro y hy
  rcases List.mem_or_eq_of_mem_set hy with h1 | h1
  · exact h y h1
  · rw [h1]; exact hx
/-- What the writes of a rise leave. -/
theorem bumpK_spec (b : Nat) : ∀ (l : List (Int × Int)) (s : Stt), s.on = true → (∀ p ∈ l, 0 ≤ p.1 ∧ p.1 ≤ 3) → (∀ p ∈ l, 0 ≤ p.2 ∧ p.2 < 4294967296) → b + 4 ≤ s.ws.length → U32s s.ws →
    (bumpK b l s).2.ws.length = s.ws.length ∧ (bumpK b l s).2.cs = s.cs ∧ (∀ i, (i < b ∨ b + 4 ≤ i) → (bumpK b l s).2.ws.getD i 0 = s.ws.getD i 0) ∧ U32s (bumpK b l s).2.ws ∧
    (((bumpK b l s).1 = 0 ∧ slW (bumpK b l s).2.ws b = l.foldl put4 (slW s.ws b)) ∨
     ((bumpK b l s).1 = 100 ∧ s.cs ≠ [] ∧ ∃ (j : Nat) (m : Int) (p : Int × Int), l[j]? = some p ∧ slW (bumpK b l s).2.ws b = tear m ((l.take j).foldl put4 (slW s.ws b)) p))
  | [], s, ho, _, _, _, hu => ⟨rfl, rfl, fun _ _ => rfl, hu, .inl ⟨rfl, rfl⟩⟩
  | p :: l, s, ho, hp, hp2, hb, hu => by
    have h1 := hp p (List.mem_cons_self ..)
    have h2 := hp2 p (List.mem_cons_self ..)
    have hst := slW_put s.ws b p h1.1 h1.2 hb
    rcases writeN_in s (b + p.1.toNat) ((b : Int) + p.1) p.2 (by omega) ho (by omega) with e | ⟨q, cs', hcs, e⟩
    · have e2 : bumpK b (p :: l) s = bumpK b l { s with k := s.k + 1, ws := s.ws.set (b + p.1.toNat) p.2 } := by rw [bumpK_cons_ok (by rw [e]), e]
      rw [e2]
      obtain ⟨i1, i2, i3, i4, i5⟩ := bumpK_spec b l { s with k := s.k + 1, ws := s.ws.set (b + p.1.toNat) p.2 } ho (fun q hq => hp q (List.mem_cons_of_mem _ hq)) (fun q hq => hp2 q (List.mem_cons_of_mem _ hq)) (by simpa using hb) (u32s_set hu _ _ h2)
      refine ⟨by simpa using i1, i2, fun i hi => (i3 i hi).trans ?_, i4, ?_⟩
      · simp only
        rw [getD_set _ _ _ _ (by omega), if_neg (by omega)]
      · simp only [hst] at i5
        rcases i5 with ⟨k1, k2⟩ | ⟨k1, k2, j, m, pj, k3, k4⟩
        · exact .inl ⟨k1, k2⟩
        · exact .inr ⟨k1, k2, j + 1, m, pj, by simpa using k3, by simpa using k4⟩
    · have e2 : bumpK b (p :: l) s = (100, { s with on := false, ws := s.ws.set (b + p.1.toNat) (tornW q.2 p.2 (s.ws.getD (b + p.1.toNat) 0)) }) := by rw [bumpK_cons_bad (by rw [e]; show (100 : Int) ≠ 0; decide), e]
      rw [e2]
      refine ⟨by simp, rfl, fun i hi => ?_, u32s_set hu _ _ (tornW_bd _ _ _), .inr ⟨rfl, by rw [hcs]; simp, 0, q.2, p, rfl, ?_⟩⟩
      · simp only
        rw [getD_set _ _ _ _ (by omega), if_neg (by omega)]
      · simp only [List.take_zero, List.foldl_nil]
        exact slW_tear s.ws b p q.2 h1.1 h1.2 hb
/-- The words of the slot that is written are the old ones, none's or the new record's. -/
theorem torn_cases (id q v : Int) (x T : W4) (h : T = (stepsN id x.a q v).foldl put4 x ∨ ∃ (j : Nat) (m : Int) (p : Int × Int), (stepsN id x.a q v)[j]? = some p ∧ T = tear m (((stepsN id x.a q v).take j).foldl put4 x) p) :
    ofW id T = (q, v, true) ∨ ofW id T = (0, 0, false) ∨ ofW id T = ofW id x := by
  have hT : ∃ k m, T = tornN x (stepsN id x.a q v) k m := by
    rcases h with rfl | ⟨j, m, p, hp, rfl⟩
    · refine ⟨(stepsN id x.a q v).length, 0, ?_⟩
      unfold tornN upTo
      rw [Int.toNat_natCast, Nat.min_self, List.getElem?_eq_none (Nat.le_refl _)]
    · have hj : j < (stepsN id x.a q v).length := (List.getElem?_eq_some_iff.1 hp).1
      refine ⟨j, m, ?_⟩
      unfold tornN upTo
      rw [Int.toNat_natCast, Nat.min_eq_left (by omega), hp]
  obtain ⟨k, m, rfl⟩ := hT
  obtain ⟨a, b, c, d⟩ := x
  have hw := whole_plain id a b c d q v k m
  unfold ofW ofN
  by_cases hr : isRec id (tornN ⟨a, b, c, d⟩ (stepsN id a q v) k m).a (tornN ⟨a, b, c, d⟩ (stepsN id a q v) k m).b (tornN ⟨a, b, c, d⟩ (stepsN id a q v) k m).c (tornN ⟨a, b, c, d⟩ (stepsN id a q v) k m).d
  · rw [if_pos hr]
    rcases hw hr with ⟨h1, h2⟩ | ⟨h0, h1, h2⟩
    · exact .inl (by rw [h1, h2])
    · exact .inr (.inr (by rw [if_pos h0, h1, h2]))
  · rw [if_neg hr]
    exact .inr (.inl rfl)
theorem done_rec (id q v : Int) (x : W4) : ofW id ((stepsN id x.a q v).foldl put4 x) = (q, v, true) := by
  obtain ⟨a, b, c, d⟩ := x
  rw [stepsN_done]
  exact if_pos ⟨rfl, rfl⟩
/-- A counter that rose: its value is the new one, or it is at its end. -/
def rose (R : Rr) (v : Int) : Prop := (R.err = 0 ∧ R.v = v) ∨ R.err = 131
theorem fin_rose (k : Nat) (q v : Int) : rose (finR k q v) v := by
  unfold finR
  split
  · exact .inr rfl
  · exact .inl ⟨rfl, rfl⟩
theorem pick_up (o : Nat) (a b : Int × Int × Bool) (ho : o ≤ 1) (q x v : Int) (hold : pickR a b = ⟨0, 1 - o, q, x⟩) (N : Int × Int × Bool) (hq : q < 4294967295) (hx : x ≠ 4294967295) :
    (N = (q + 1, v, true) → rose (if o = 0 then pickR N b else pickR a N) v) ∧ (N = (0, 0, false) ∨ N = (if o = 0 then a else b) → (if o = 0 then pickR N b else pickR a N).err = 0 ∧ (if o = 0 then pickR N b else pickR a N).v = x) := by
  have hcase := pick_ok (a := a) (b := b) (by rw [hold])
  have hne : ¬ q = 4294967295 := by omega
  rcases (show o = 0 ∨ o = 1 by omega) with rfl | rfl
  · simp only [if_true]
    have hb : b = (q, x, true) := by
      rcases hcase with ⟨e, f⟩ | ⟨e, f⟩
      · rw [hold] at e
        have := (fin_ok (k := 0) (x := a.1) (y := a.2.1) (by rw [← e])).1
        rw [this] at e
        injection e with _ e2
        omega
      · rw [hold] at e
        have := (fin_ok (k := 1) (x := b.1) (y := b.2.1) (by rw [← e])).1
        rw [this] at e
        injection e with _ _ e3 e4
        obtain ⟨b1, b2, b3⟩ := b
        simp only at e3 e4 f
        rw [e3, e4, f]
    refine ⟨?_, ?_⟩
    · rintro rfl
      rw [hb, pick_gt _ _ _ _ (by omega) (by omega)]
      exact fin_rose _ _ _
    · rintro (rfl | rfl)
      · rw [hb, pick_ft, fin_n _ hne hx]
        exact ⟨rfl, rfl⟩
      · rw [hold]
        exact ⟨rfl, rfl⟩
  · simp only [Nat.one_ne_zero, if_false]
    have ha : a = (q, x, true) := by
      rcases hcase with ⟨e, f⟩ | ⟨e, f⟩
      · rw [hold] at e
        have := (fin_ok (k := 0) (x := a.1) (y := a.2.1) (by rw [← e])).1
        rw [this] at e
        injection e with _ _ e3 e4
        obtain ⟨b1, b2, b3⟩ := a
        simp only at e3 e4 f
        rw [e3, e4, f]
      · rw [hold] at e
        have := (fin_ok (k := 1) (x := b.1) (y := b.2.1) (by rw [← e])).1
        rw [this] at e
        injection e with _ e2
        omega
    refine ⟨?_, ?_⟩
    · rintro rfl
      rw [ha, pick_lt _ _ _ _ (by omega) (by omega)]
      exact fin_rose _ _ _
    · rintro (rfl | rfl)
      · rw [ha, pick_tf, fin_n _ hne hx]
        exact ⟨rfl, rfl⟩
      · rw [hold]
        exact ⟨rfl, rfl⟩
/-- What a rise does. -/
theorem bump_plain (s : Stt) (id v : Int) (hu : U32s s.ws) (ho : s.on = true) (hv : 0 ≤ v ∧ v < 4294967296) :
    (bumpN s id v).2.ws.length = s.ws.length ∧ (bumpN s id v).2.cs = s.cs ∧ U32s (bumpN s id v).2.ws ∧ (∀ i, i ≠ id → recN (bumpN s id v).2.ws i = recN s.ws i) ∧
    ((recN s.ws id).err = 0 ∧ ¬ v ≤ (recN s.ws id).v ∧ rose (recN (bumpN s id v).2.ws id) v ∧ ((bumpN s id v).1 = 0 ∨ (bumpN s id v).1 = 100) ∨
      (bumpN s id v).1 ≠ 0 ∧ (recN (bumpN s id v).2.ws id).err = (recN s.ws id).err ∧ (recN (bumpN s id v).2.ws id).v = (recN s.ws id).v) := by
  have hok := rec_ok (id := id) hu
  unfold bumpN
  split
  · rename_i h
    exact ⟨rfl, rfl, hu, fun _ _ => rfl, .inr ⟨h, rfl, rfl⟩⟩
  · rename_i h
    obtain ⟨k, rfl, hk, ha, hq0, hq1, hx0, hx1⟩ := hok (by omega)
    split
    · exact ⟨rfl, rfl, hu, fun _ _ => rfl, .inr ⟨(by decide : (132 : Int) ≠ 0), rfl, rfl⟩⟩
    · rename_i h2
      split
      · exact ⟨rfl, rfl, hu, fun _ _ => rfl, .inr ⟨(by decide : (131 : Int) ≠ 0), rfl, rfl⟩⟩
      · rename_i h3
        obtain ⟨R, hR⟩ : ∃ R, recN s.ws k = R := ⟨_, rfl⟩
        rw [hR] at h h2 ha hq0 hq1 hx0 hx1 ⊢
        obtain ⟨err, at_, q, x⟩ := R
        simp only at h h2 ha hq0 hq1 hx0 hx1 ⊢
        have herr : err = 0 := by omega
        subst herr
        obtain ⟨o, ho2⟩ : ∃ o, 1 - at_ = o := ⟨_, rfl⟩
        have hoat : at_ = 1 - o := by omega
        rw [ho2]
        simp only [Int.toNat_natCast]
        have hbe : (8 * (k : Int) + 4 * (o : Int)) = ((8 * k + 4 * o : Nat) : Int) := by omega
        rw [hbe]
        have hya : s.ws.getD (8 * k + 4 * o) 0 = (slW s.ws (8 * k + 4 * o)).a := rfl
        rw [hya]
        obtain ⟨i1, i2, i3, i4, i5⟩ := bumpK_spec (8 * k + 4 * o) (stepsN k (slW s.ws (8 * k + 4 * o)).a (q + 1) v) s ho (stepsN_at _ _ _ _) (steps_ok _ _ _ _ (by omega) (by omega) hv.1 hv.2) (by omega) hu
        generalize bumpK _ _ _ = r at *
        refine ⟨i1, i2, i4, fun i hi => ?_, ?_⟩
        · unfold recN
          rw [i1]
          split
          · rfl
          · rename_i hin
            have hik : i.toNat ≠ k := by omega
            rw [slW_far i3 (by omega), slW_far i3 (by omega)]
        · have hold : pickR (ofW k (slW s.ws (8 * k))) (ofW k (slW s.ws (8 * k + 4))) = ⟨0, 1 - o, q, x⟩ := by
            rw [← hoat, ← hR]
            unfold recN
            rw [if_neg (by omega)]
            rfl
          have hN : ofW k (slW r.2.ws (8 * k + 4 * o)) = (q + 1, v, true) ∨ ofW k (slW r.2.ws (8 * k + 4 * o)) = (0, 0, false) ∨ ofW k (slW r.2.ws (8 * k + 4 * o)) = ofW k (slW s.ws (8 * k + 4 * o)) :=
            torn_cases k (q + 1) v (slW s.ws (8 * k + 4 * o)) _ (i5.imp (fun h => h.2) (fun ⟨_, _, j, m, p, h4, h5⟩ => ⟨j, m, p, h4, h5⟩))
          have hup := pick_up o _ _ (by omega) q x v hold (ofW k (slW r.2.ws (8 * k + 4 * o))) hq1 (by omega)
          have hnew : recN r.2.ws k = (if o = 0 then pickR (ofW k (slW r.2.ws (8 * k + 4 * o))) (ofW k (slW s.ws (8 * k + 4))) else pickR (ofW k (slW s.ws (8 * k))) (ofW k (slW r.2.ws (8 * k + 4 * o)))) := by
            unfold recN
            rw [if_neg (by omega)]
            simp only [Int.toNat_natCast]
            rcases (show o = 0 ∨ o = 1 by omega) with rfl | rfl
            · rw [if_pos rfl, slW_far (c := 8 * k + 4) i3 (by omega)]; rfl
            · rw [if_neg (by decide), slW_far (c := 8 * k) i3 (by omega)]
          rw [hnew]
          rcases i5 with ⟨e1, e2⟩ | ⟨e1, _⟩
          · exact .inl ⟨trivial, h2, hup.1 (by rw [e2]; exact done_rec _ _ _ _), .inl e1⟩
          · rcases hN with h6 | h6 | h6
            · exact .inl ⟨trivial, h2, hup.1 h6, .inr e1⟩
            · exact .inr ⟨by rw [e1]; decide, hup.2 (.inl h6)⟩
            · refine .inr ⟨by rw [e1]; decide, hup.2 (.inr (h6.trans ?_))⟩
              rcases (show o = 0 ∨ o = 1 by omega) with rfl | rfl
              · rfl
              · rfl
end Go.Proofs.Ytpenjfkdinmgmaa
