/- Chapter 29, a guest as it is launched: the plain law. -/
import Derived.Test.YtebhfaadpalpbaaPsciQ
import Derived.Laws.BitsAllLaws
namespace Go.Proofs.Ytebhfaadpalpbaa
set_option linter.unusedVariables false
open Go.RowKit Go.Sort

def bitN (x : Int) (k : Nat) : Bool := decide (x / 2 ^ k % 2 = 1)
theorem bit_and (x : Int) (h0 : 0 ≤ x) (h1 : x < 4294967296) (k : Nat) : bits .and .u32 (x / 2 ^ k) 1 = x / 2 ^ k % 2 := by
  obtain ⟨n, rfl⟩ := Int.eq_ofNat_of_zero_le h0
  have e : ((n : Int) / 2 ^ k) = ((n / 2 ^ k : Nat) : Int) := by simp
  have hle : n / 2 ^ k ≤ n := Nat.div_le_self _ _
  rw [e, show (1 : Int) = ((1 : Nat) : Int) from rfl, u32_and_nat _ _ (by omega) (by decide), Nat.and_one_is_mod]
  simp
def vsN (x e d : Int) : Nat → List Vc
  | 0 => []
  | k + 1 => if bitN x k then vsN x e d k ++ [if (vsN x e d k).length = 0 then ⟨k, true, e, d, 965⟩ else ⟨k, false, 0, 0, 965⟩] else vsN x e d k
theorem vsN_len (x e d : Int) : ∀ k, (vsN x e d k).length ≤ k
  | 0 => Nat.le_refl _
  | k + 1 => by
    have := vsN_len x e d k
    unfold vsN
    split
    · simp; omega
    · omega
theorem vsN_mem (x e d : Int) : ∀ k, ∀ v ∈ vsN x e d k, ∃ j : Nat, j < k ∧ v.id = j ∧ bitN x j = true
  | 0, v, h => absurd h (by simp [vsN])
  | k + 1, v, h => by
    unfold vsN at h
    split at h
    · rename_i hb
      rcases List.mem_append.1 h with h | h
      · obtain ⟨j, h1, h2, h3⟩ := vsN_mem x e d k v h
        exact ⟨j, by omega, h2, h3⟩
      · simp only [List.mem_singleton] at h
        refine ⟨k, by omega, ?_, hb⟩
        rw [h]
        split <;> rfl
    · obtain ⟨j, h1, h2, h3⟩ := vsN_mem x e d k v h
      exact ⟨j, by omega, h2, h3⟩
theorem vsN_has (x e d : Int) : ∀ k j : Nat, j < k → bitN x j = true → ∃ v ∈ vsN x e d k, v.id = j
  | 0, j, h, _ => absurd h (by omega)
  | k + 1, j, h, hb => by
    rcases Nat.lt_or_ge j k with h1 | h1
    · obtain ⟨v, hv, e1⟩ := vsN_has x e d k j h1 hb
      refine ⟨v, ?_, e1⟩
      unfold vsN
      split
      · exact List.mem_append_left _ hv
      · exact hv
    · obtain rfl : j = k := by omega
      unfold vsN
      rw [if_pos hb]
      refine ⟨_, List.mem_append_right _ (List.mem_singleton.2 rfl), ?_⟩
      split <;> rfl
theorem vsN_nil (x e d : Int) : ∀ k : Nat, (∀ j, j < k → bitN x j = false) → vsN x e d k = []
  | 0, _ => rfl
  | k + 1, h => by
    unfold vsN
    rw [if_neg (by simp [h k (by omega)])]
    exact vsN_nil x e d k fun j hj => h j (by omega)
theorem vsN_head (x e d : Int) (f : Nat) (hf : bitN x f = true) (hl : ∀ j, j < f → bitN x j = false) : ∀ k : Nat, f < k → ∃ l, vsN x e d k = ⟨f, true, e, d, 965⟩ :: l ∧ ∀ v ∈ l, v.on = false
  | 0, h => absurd h (by omega)
  | k + 1, h => by
    rcases Nat.lt_or_ge f k with h1 | h1
    · obtain ⟨l, hl1, hl2⟩ := vsN_head x e d f hf hl k h1
      unfold vsN
      split
      · rw [hl1]
        refine ⟨l ++ [⟨k, false, 0, 0, 965⟩], by simp, fun v hv => ?_⟩
        rcases List.mem_append.1 hv with h | h
        · exact hl2 v h
        · simp at h; rw [h]
      · exact ⟨l, hl1, hl2⟩
    · obtain rfl : f = k := by omega
      unfold vsN
      rw [if_pos hf, vsN_nil x e d f hl]
      exact ⟨[], rfl, fun v hv => absurd hv (by simp)⟩
theorem wrap_nat {j : Nat} (h : j < 32) : IntKind.u64.wrap (j : Int) = j := by
  simp [IntKind.wrap, IntKind.signed, IntKind.bits]
  omega
theorem vsN_new (x e d : Int) : ∀ k : Nat, k ≤ 32 → newN (vsN x e d k) = vsN x e d k
  | 0, _ => rfl
  | k + 1, hk => by
    have ih := vsN_new x e d k (by omega)
    unfold vsN
    split
    · rw [newN_app, ih]
      have hn : findN (vsN x e d k) (IntKind.u64.wrap (if (vsN x e d k).length = 0 then (⟨k, true, e, d, 965⟩ : Vc) else ⟨k, false, 0, 0, 965⟩).id) = none := by
        refine findN_none fun j hj => ?_
        obtain ⟨i, h1, h2, _⟩ := vsN_mem x e d k _ (List.getElem_mem hj)
        have e1 : (if (vsN x e d k).length = 0 then (⟨k, true, e, d, 965⟩ : Vc) else ⟨k, false, 0, 0, 965⟩).id = (k : Int) := by split <;> rfl
        rw [h2, e1, wrap_nat (by omega), wrap_nat (by omega)]
        omega
      rw [hn]
      rfl
    · exact ih
theorem bit_some (x : Int) (h0 : 0 < x) (h1 : x < 4294967296) : ∃ f : Nat, f < 32 ∧ bitN x f = true ∧ ∀ j, j < f → bitN x j = false := by
  have key : ∀ n : Nat, (∀ k, k < n → bitN x k = false) → x = 2 ^ n * (x / 2 ^ n) := by
    intro n
    induction n with
    | zero => intro _; simp
    | succ n ih =>
      intro h
      have h2 := ih fun k hk => h k (by omega)
      have h3 := h n (by omega)
      simp only [bitN, decide_eq_false_iff_not] at h3
      have h4 : x / 2 ^ (n + 1) = x / 2 ^ n / 2 := by
        rw [Int.pow_succ, ← Int.ediv_ediv_of_nonneg (Int.pow_nonneg (by decide))]
      have h5 : x / 2 ^ n = 2 * (x / 2 ^ n / 2) := by omega
      rw [h4, Int.pow_succ, Int.mul_assoc, ← h5]
      exact h2
  have hex : ∃ f : Nat, f < 32 ∧ bitN x f = true := by
    apply Classical.byContradiction
    intro hn
    have := key 32 fun k hk => by
      cases hb : bitN x k
      · rfl
      · exact absurd ⟨k, hk, hb⟩ hn
    have h6 : x / 2 ^ 32 = 0 := Int.ediv_eq_zero_of_lt (by omega) (by simpa using h1)
    rw [h6] at this
    omega
  obtain ⟨f, hf, hb⟩ := hex
  induction f using Nat.strongRecOn with
  | ind f ih =>
    by_cases hj : ∃ j, j < f ∧ bitN x j = true
    · obtain ⟨j, h2, h3⟩ := hj
      exact ih j h2 (by omega) h3
    · refine ⟨f, hf, hb, fun j hjf => ?_⟩
      cases hb2 : bitN x j
      · rfl
      · exact absurd ⟨j, hjf, hb2⟩ hj
theorem launched_none (cpu fn a b c : Int) : callN ⟨[], 0⟩ cpu fn a b c = (-3, ⟨[], 0⟩) := rfl
/-- What is told of a processor of a guest that is just launched. -/
theorem launched_tells (x e d : Int) (f : Nat) (hf : f < 32) (hb : bitN x f = true) (hl : ∀ j, j < f → bitN x j = false) (a : Int) (h0 : 0 ≤ a) :
    callN ⟨vsN x e d 32, 0⟩ f 3288334340 a 0 0 = (if a < 32 ∧ bitN x a.toNat = true then (if a = f then 0 else 1) else -2, ⟨vsN x e d 32, 0⟩) := by
  obtain ⟨l, hv, hon⟩ := vsN_head x e d f hb hl 32 hf
  have h1 : findN (vsN x e d 32) (IntKind.u64.wrap f) = some 0 := by
    refine findN_hit (by rw [hv]; simp) ?_ (fun j hj => absurd hj (by omega))
    simp [hv]
  have h2 : (vsN x e d 32).getD 0 zV = ⟨f, true, e, d, 965⟩ := by rw [hv]; rfl
  have h3 : callN ⟨vsN x e d 32, 0⟩ f 3288334340 a 0 0 = (lookN ⟨vsN x e d 32, 0⟩ a 0, ⟨vsN x e d 32, 0⟩) := by
    unfold callN
    simp only [h1, h2]
    rfl
  rw [h3]
  congr 1
  unfold lookN
  rw [if_neg (by simp)]
  cases hx : findN (vsN x e d 32) a with
  | none =>
    simp only
    rw [if_neg]
    rintro ⟨h4, h5⟩
    obtain ⟨v, hm, hi⟩ := vsN_has x e d 32 a.toNat (by omega) h5
    obtain ⟨j, hj, e1⟩ := List.getElem_of_mem hm
    have : (vsN x e d 32).findIdx? (fun v => IntKind.u64.wrap v.id == a) = none := hx
    rw [List.findIdx?_eq_none_iff] at this
    have h6 := this v hm
    rw [hi, wrap_nat (by omega)] at h6
    simp at h6
    omega
  | some i =>
    obtain ⟨h4, h5⟩ := findN_spec hx
    have hm : (vsN x e d 32).getD i zV ∈ vsN x e d 32 := by
      rw [List.getD_eq_getElem?_getD, List.getElem?_eq_getElem h4]
      exact List.getElem_mem h4
    obtain ⟨j, h6, h7, h8⟩ := vsN_mem x e d 32 _ hm
    rw [h7, wrap_nat h6] at h5
    subst h5
    simp only
    rw [show (if (j : Int) < 32 ∧ bitN x (j : Int).toNat = true then (if (j : Int) = f then (0 : Int) else 1) else -2) = (if (j : Int) = f then 0 else 1) from if_pos ⟨by omega, by simpa using h8⟩]
    by_cases hji : (j : Int) = f
    · rw [show (if (j : Int) = f then (0 : Int) else 1) = 0 from if_pos hji]
      have : i = 0 := by
        have h9 := h7
        apply Classical.byContradiction
        intro hi
        have hx2 := hx
        unfold findN at hx2
        rw [List.findIdx?_eq_some_iff_getElem] at hx2
        have := hx2.2.2 0 (by omega)
        simp [hv, hji] at this
        exact this (by rw [wrap_nat hf])
      subst this
      rw [h2]
      rfl
    · rw [show (if (j : Int) = f then (0 : Int) else 1) = 1 from if_neg hji]
      have hi0 : i ≠ 0 := by
        rintro rfl
        rw [h2] at h7
        exact hji h7.symm
      obtain ⟨i', rfl⟩ : ∃ i', i = i' + 1 := ⟨i - 1, by omega⟩
      have : ((vsN x e d 32).getD (i' + 1) zV).on = false := by
        rw [hv] at h4 ⊢
        simp only [List.length_cons] at h4
        rw [List.getD_cons_succ, List.getD_eq_getElem?_getD, List.getElem?_eq_getElem (by omega)]
        exact hon _ (List.getElem_mem _)
      rw [this]
      rfl
end Go.Proofs.Ytebhfaadpalpbaa
