/- Chapter 35: the registers of a fault, and the fault of registers; the law TrapBack. -/
import Derived.Test.YtklbdjbichfajaaTrapE
namespace Go.Proofs.Ytklbdjbichfajaa
set_option linter.unusedVariables false
open Go.RowKit Go.Sort Go.ChangeShapes Go.WideShapes

theorem data_all : ∀ (si : Fin 4) (rg : Fin 32) (lo wr : Fin 2) (why : Fin 16), fieldN (dataN si.val rg.val lo.val wr.val why.val) 5 0 = why.val ∧ fieldN (dataN si.val rg.val lo.val wr.val why.val) 23 22 = si.val ∧
    fieldN (dataN si.val rg.val lo.val wr.val why.val) 20 16 = rg.val ∧ fieldN (dataN si.val rg.val lo.val wr.val why.val) 31 26 = 36 ∧ fieldN (dataN si.val rg.val lo.val wr.val why.val) 6 6 = wr.val := by decide +kernel
theorem fetch_all : ∀ (why : Fin 16), fieldN (fetchN why.val) 5 0 = why.val ∧ fieldN (fetchN why.val) 31 26 = 32 := by decide +kernel
theorem fin_of {x : Int} {n : Nat} (h0 : 0 ≤ x) (h1 : x < n) : ∃ y : Fin n, x = (y.val : Int) := ⟨⟨x.toNat, by omega⟩, by simp; omega⟩
theorem ei_back (x : Int) (h : 0 ≤ idxN [200, 201, 202, 300] x) : [200, 201, 202, 300].getD (idxN [200, 201, 202, 300] x).toNat 0 = x := by
  unfold idxN at h ⊢
  split at h
  · rename_i hm
    rw [if_pos hm, Int.toNat_natCast]
    simp only [List.mem_cons, List.not_mem_nil, or_false] at hm
    rcases hm with rfl | rfl | rfl | rfl <;> rfl
  · omega
theorem si_back (x : Int) (h : 0 ≤ idxN [1, 2, 4, 8] x) : [1, 2, 4, 8].getD (idxN [1, 2, 4, 8] x).toNat 0 = x := by
  unfold idxN at h ⊢
  split at h
  · rename_i hm
    rw [if_pos hm, Int.toNat_natCast]
    simp only [List.mem_cons, List.not_mem_nil, or_false] at hm
    rcases hm with rfl | rfl | rfl | rfl <;> rfl
  · omega
theorem OneOf.of_iff {c d : Prop} [Decidable c] [Decidable d] (h : c ↔ d) {v1 v2 : Value} {w w' : World} {e : Ending} (k : OneOf c v1 v2 w e w') : OneOf d v1 v2 w e w' :=
  ⟨k.1.trans (by by_cases hc : c
                 · rw [if_pos hc, if_pos (h.1 hc)]
                 · rw [if_neg hc, if_neg (fun hd => hc (h.2 hd))]), k.2⟩
def zeroF : Value := .tuple #[.agg #[.int .i64 0, .int .i64 0, .int .i64 0, .int .u64 0, .int .i64 0, .int .u64 0, .int .i64 0, .int .i64 0, .int .i64 0], .int .i64 350]

set_option maxHeartbeats 2000000 in
theorem of_big (esr far hp : Int) (h0 : 0 ≤ esr) (hm : 16 ≤ fieldN esr 5 0) (hM : fieldN esr 5 0 ≤ 63) (w : World) :
    Calls Try.prog 24 #[.agg #[.int .u64 esr, .int .u64 far, .int .u64 hp]] w fun e' w' => e' = .returned zeroF ∧ Below w.heap.size w w' := by
  unfold zeroF
  generalize hE : fieldN esr 5 0 = m at *
  go_enter Try.func24, Try.ntmps24
  go_wp2_with (go_at_call 54; refine (descField_any _ _ _ h0 _).mono ?_; rintro e w4 ⟨rfl, rfl⟩)
  refine bodyPost_ret (v := .tuple #[.agg #[.int .i64 0, .int .i64 0, .int .i64 0, .int .u64 0, .int .i64 0, .int .u64 0, .int .i64 0, .int .i64 0, .int .i64 0], .int .i64 350]) (by simp [results, Try.results24, go_sem]) rfl ⟨rfl, ?_⟩
  exact bal (bal (Below.refl _ _) _) _

theorem fieldN_5 (x : Int) (h : 0 ≤ x) : fieldN x 5 0 ≤ 63 := by
  rw [fieldN_yes (by decide) (by decide) (by decide)]
  have := Int.emod_lt_of_pos (x / 2 ^ (0 : Int).toNat) (show (0 : Int) < 2 ^ ((5 : Int) + 1 - 0).toNat by decide)
  have e : (2 : Int) ^ ((5 : Int) + 1 - 0).toNat = 64 := by decide
  omega
theorem fieldN_23 (x : Int) (h : 0 ≤ x) : fieldN x 23 22 < 4 := by
  rw [fieldN_yes (by decide) (by decide) (by decide)]
  have := Int.emod_lt_of_pos (x / 2 ^ (22 : Int).toNat) (show (0 : Int) < 2 ^ ((23 : Int) + 1 - 22).toNat by decide)
  have e : (2 : Int) ^ ((23 : Int) + 1 - 22).toNat = 4 := by decide
  omega
theorem fieldN_20 (x : Int) (h : 0 ≤ x) : fieldN x 20 16 ≤ 31 := by
  rw [fieldN_yes (by decide) (by decide) (by decide)]
  have := Int.emod_lt_of_pos (x / 2 ^ (16 : Int).toNat) (show (0 : Int) < 2 ^ ((20 : Int) + 1 - 16).toNat by decide)
  have e : (2 : Int) ^ ((20 : Int) + 1 - 16).toNat = 32 := by decide
  omega

/-- The fault that a register and an address tell. -/
def ofF (esr far : Int) : Flt :=
  let m := (fieldN esr 5 0).toNat
  let er := [200, 201, 202, 300].getD (m / 4) 0
  let sz := [1, 2, 4, 8].getD (fieldN esr 23 22).toNat 0
  if fieldN esr 31 26 = 32 then ⟨3, 0, 0, far, 4, 0, er, (m : Int) % 4, 0⟩
  else if fieldN esr 6 6 = 1 then ⟨2, 0, 0, far, sz, 0, er, (m : Int) % 4, fieldN esr 20 16⟩
  else ⟨1, 0, 0, far, sz, 0, er, (m : Int) % 4, fieldN esr 20 16⟩

/-- Of: whatever registers. -/
theorem of_gen (esr far hp : Int) (h0 : 0 ≤ esr) (hf : 0 ≤ far) : ∃ ok : Bool, (ok = true ↔ fieldN esr 5 0 < 16 ∧ MayF (ofF esr far) ∧ (ofF esr far).trap = [.int .u64 esr, .int .u64 far, .int .u64 hp]) ∧
    ∀ w : World, Calls Try.prog 24 #[.agg #[.int .u64 esr, .int .u64 far, .int .u64 hp]] w (OneOf (ok = true) (.tuple #[.agg (ofF esr far).lst.toArray, .int .i64 0]) zeroF w) := by
  by_cases hm : fieldN esr 5 0 < 16
  · have b0 := fieldN_bd esr 5 0 h0
    have b1 := fieldN_bd esr 23 22 h0
    have b2 := fieldN_bd esr 20 16 h0
    have b3 := fieldN_23 esr h0
    have b4 := fieldN_20 esr h0
    obtain ⟨m, hm1⟩ := Int.eq_ofNat_of_zero_le b0
    obtain ⟨k, hk1⟩ := Int.eq_ofNat_of_zero_le b1
    have hE : ∃ kd sz rg : Int, ofF esr far = ⟨kd, 0, 0, far, sz, 0, [200, 201, 202, 300].getD (m / 4) 0, (m : Int) % 4, rg⟩ ∧
        ((fieldN esr 31 26 = 32 ∧ kd = 3 ∧ sz = 4 ∧ rg = 0) ∨ ((fieldN esr 31 26 == 32) = false ∧ fieldN esr 6 6 = 1 ∧ kd = 2 ∧ sz = [1, 2, 4, 8].getD k 0 ∧ rg = fieldN esr 20 16) ∨ ((fieldN esr 31 26 == 32) = false ∧ (fieldN esr 6 6 == 1) = false ∧ kd = 1 ∧ sz = [1, 2, 4, 8].getD k 0 ∧ rg = fieldN esr 20 16)) := by
      unfold ofF
      simp only [hm1, hk1, Int.toNat_natCast]
      by_cases c1 : fieldN esr 31 26 = 32
      · rw [if_pos c1]; exact ⟨_, _, _, rfl, .inl ⟨c1, rfl, rfl, rfl⟩⟩
      · rw [if_neg c1]
        by_cases c2 : fieldN esr 6 6 = 1
        · rw [if_pos c2]; exact ⟨_, _, _, rfl, .inr (.inl ⟨by simpa using c1, c2, rfl, rfl, rfl⟩)⟩
        · rw [if_neg c2]; exact ⟨_, _, _, rfl, .inr (.inr ⟨by simpa using c1, by simpa using c2, rfl, rfl, rfl⟩)⟩
    obtain ⟨kd, sz, rg, hF, K⟩ := hE
    have key : ∀ (T1 T2 T3 e : Int), (∀ W, Calls Try.prog 23 #[.agg (ofF esr far).lst.toArray] W fun e' w' => e' = .returned (.tuple #[.agg #[.int .u64 T1, .int .u64 T2, .int .u64 T3], .int .i64 e]) ∧ Below W.heap.size W w') →
        ∀ w : World, Calls Try.prog 24 #[.agg #[.int .u64 esr, .int .u64 far, .int .u64 hp]] w (OneOf (e = 0 ∧ (T1 == esr && (T2 == far && (T3 == hp && true))) = true) (.tuple #[.agg (ofF esr far).lst.toArray, .int .i64 0]) zeroF w) := by
      intro T1 T2 T3 e HP w
      rw [hF] at HP ⊢
      exact of_any esr far hp h0 m k (fieldN esr 20 16) _ _ T1 T2 T3 e kd sz rg _ (by omega) (by omega) rfl rfl hm1 hk1 rfl b2 b4 rfl K HP w
    by_cases hM : MayF (ofF esr far)
    · have hfar : (ofF esr far).ipa = far := by rw [hF]
      refine ⟨((ofF esr far).esr == esr && (far == far && (far / 4096 * 16 == hp && true))), ?_, ?_⟩
      · unfold Flt.trap
        rw [hfar]
        simp [hm, hM]
      · intro w
        have := key (ofF esr far).esr far (far / 4096 * 16) 0 (fun W => by
          have h := put_yes (ofF esr far) hM (by rw [hfar]; exact hf) W
          unfold Flt.trap at h
          rw [hfar] at h
          exact h) w
        exact this.mono fun e w' k => k.of_iff (by simp)
    · refine ⟨false, by simp [hM], fun w => ?_⟩
      have := key 0 0 0 350 (fun W => put_no _ hM W) w
      exact this.mono fun e w' k => k.of_iff (by simp)
  · refine ⟨false, by simp [hm], fun w => (of_big esr far hp h0 (by omega) (fieldN_5 esr h0) w).mono fun e w' ⟨he, hb⟩ => ⟨by simpa using he, hb⟩⟩

/-- The fault of a fault's registers is the fault. -/
theorem ofF_back (f : Flt) (h : MayF f) : 0 ≤ f.esr ∧ fieldN f.esr 5 0 < 16 ∧ ofF f.esr f.ipa = f := by
  obtain ⟨h1, h2, h3, h4, h5, h6, h7, h8, h9, h10, h11⟩ := h
  have e3 := f.ei_bd
  have s3 := f.si_bd
  have hei := ei_back f.er h5
  have hsi := si_back f.sz h6
  rw [show idxN [200, 201, 202, 300] f.er = f.ei from rfl] at hei
  rw [show idxN [1, 2, 4, 8] f.sz = f.si from rfl] at hsi
  have hw0 : 0 ≤ f.why := by unfold Flt.why; omega
  have hw1 : f.why < 16 := by unfold Flt.why; omega
  obtain ⟨y, hy⟩ := fin_of (n := 16) hw0 (by simpa using hw1)
  have hdiv : f.why.toNat / 4 = f.ei.toNat := by unfold Flt.why; omega
  have hmod : (f.why.toNat : Int) % 4 = f.lv := by unfold Flt.why; omega
  by_cases hk : f.kd = 3
  · have hE : f.esr = fetchN f.why := by unfold Flt.esr; rw [if_pos hk]
    obtain ⟨a1, a2⟩ := fetch_all y
    rw [← hy, ← hE] at a1 a2
    obtain ⟨hs, hr⟩ : f.sz = 4 ∧ f.rg = 0 := by omega
    refine ⟨by rw [hE]; omega, by omega, ?_⟩
    unfold ofF
    simp only [a1, a2, if_true, hdiv, hmod, hei]
    obtain ⟨kd, gu, li, ipa, sz, wd, er, lv, rg⟩ := f
    simp only at *
    subst h1 h2 h3 hk hs hr
    rfl
  · have hE : f.esr = dataN f.si f.rg (oneN (f.sz == 8)) (oneN (f.kd == 2)) f.why := by unfold Flt.esr; rw [if_neg hk]
    obtain ⟨a, ha⟩ := fin_of (n := 4) h6 (by simpa using (show f.si < 4 by omega))
    obtain ⟨b, hb⟩ := fin_of (n := 32) h9 (by simpa using (show f.rg < 32 by omega))
    have o : ∀ b, 0 ≤ oneN b ∧ oneN b < 2 := by intro b; cases b <;> decide
    obtain ⟨c, hc⟩ := fin_of (n := 2) (o (f.sz == 8)).1 (by simpa using (o (f.sz == 8)).2)
    obtain ⟨d, hd⟩ := fin_of (n := 2) (o (f.kd == 2)).1 (by simpa using (o (f.kd == 2)).2)
    obtain ⟨a1, a2, a3, a4, a5⟩ := data_all a b c d y
    rw [← ha, ← hb, ← hc, ← hd, ← hy, ← hE] at a1 a2 a3 a4 a5
    refine ⟨by rw [hE]; omega, by omega, ?_⟩
    unfold ofF
    simp only [a1, a2, a3, a4, a5, hdiv, hmod, hei, hsi]
    obtain ⟨kd, gu, li, ipa, sz, wd, er, lv, rg⟩ := f
    simp only at *
    subst h1 h2 h3
    rcases (show kd = 1 ∨ kd = 2 by omega) with rfl | rfl <;> simp [oneN]
end Go.Proofs.Ytklbdjbichfajaa
