/- Chapter 23, the table of streams: the plain law. -/
import Derived.Test.YtdmndgjfnlockaaSmmuD
import Derived.Test.YtdmndgjfnlockaaRegsB
import Derived.Test.YtdmndgjfnlockaaConfF
namespace Go.Proofs.Ytdmndgjfnlockaa
set_option linter.unusedVariables false
open Go.RowKit Go.Sort

def zS : Ste := ⟨false, 0, 0⟩
/-- What a register tells of a guest's memory. -/
def ownS (v : Int) : Ste := ⟨true, v / 281474976710656 % 256, v / 2 % 140737488355328 * 2⟩
def stepS (l : List Ste) (own : Ste) (s : Int) : Option (List Ste) := if (l.length : Int) ≤ s ∨ (l.getD s.toNat zS).ok = true then none else some (l.set s.toNat own)
def laidK (l : List Ste) (own : Ste) (ss : List Int) : Nat → Option (List Ste)
  | 0 => some l
  | k + 1 => (laidK l own ss k).bind fun l' => stepS l' own (ss.getD k 0)
def laidN (l : List Ste) (own : Ste) (ss : List Int) : Option (List Ste) := laidK l own ss ss.length
theorem stepS_len {l l' : List Ste} {own : Ste} {s : Int} (h : stepS l own s = some l') : l'.length = l.length := by
  unfold stepS at h
  split at h
  · cases h
  · injection h with h; rw [← h]; simp
theorem laidK_len {l l' : List Ste} {own : Ste} {ss : List Int} : ∀ {k : Nat}, laidK l own ss k = some l' → l'.length = l.length
  | 0, h => by injection h with h; rw [h]
  | k + 1, h => by
    unfold laidK at h
    rw [Option.bind_eq_some_iff] at h
    obtain ⟨l1, h1, h2⟩ := h
    rw [stepS_len h2, laidK_len h1]
theorem laidK_none {l : List Ste} {own : Ste} {ss : List Int} {k : Nat} (h : laidK l own ss k = none) : ∀ d, laidK l own ss (k + d) = none
  | 0 => h
  | d + 1 => by
    show (laidK l own ss (k + d)).bind _ = none
    rw [laidK_none h d]
    rfl
theorem laidN_none {l : List Ste} {own : Ste} {ss : List Int} {k : Nat} (hk : k ≤ ss.length) (h : laidK l own ss k = none) : laidN l own ss = none := by
  have := laidK_none h (ss.length - k)
  rwa [Nat.add_sub_cancel' hk] at this
/-- The table when so many guests have been seen. -/
def tabK (n : Nat) (gs : List Gd) (st : List Bool) (vt : List Int) : Nat → Option (List Ste)
  | 0 => some (List.replicate n zS)
  | k + 1 => (tabK n gs st vt k).bind fun l => if st.getD k false then laidN l (ownS (vt.getD k 0)) (gs.getD k zG).strs else some l
theorem tabK_len {n : Nat} {gs : List Gd} {st : List Bool} {vt : List Int} {l : List Ste} : ∀ {k : Nat}, tabK n gs st vt k = some l → l.length = n
  | 0, h => by injection h with h; rw [← h]; simp
  | k + 1, h => by
    unfold tabK at h
    rw [Option.bind_eq_some_iff] at h
    obtain ⟨l1, h1, h2⟩ := h
    have := tabK_len h1
    split at h2
    · rw [laidK_len h2, this]
    · injection h2 with h2; rw [← h2, this]
theorem tabK_none {n : Nat} {gs : List Gd} {st : List Bool} {vt : List Int} {k : Nat} (h : tabK n gs st vt k = none) : ∀ d, tabK n gs st vt (k + d) = none
  | 0 => h
  | d + 1 => by
    show (tabK n gs st vt (k + d)).bind _ = none
    rw [tabK_none h d]
    rfl
theorem tabK_none_le {n : Nat} {gs : List Gd} {st : List Bool} {vt : List Int} {k m : Nat} (h : tabK n gs st vt k = none) (hk : k ≤ m) : tabK n gs st vt m = none := by
  have := tabK_none h (m - k)
  rwa [Nat.add_sub_cancel' hk] at this
theorem vmidN (v : Int) : fieldN v 55 48 = v / 281474976710656 % 256 := by
  rw [fieldN_yes (by decide) (by decide) (by decide)]
  rfl
theorem rootN (v : Int) (h0 : 0 ≤ v) : IntKind.u64.wrap (fieldN v 47 1 * 2) = v / 2 % 140737488355328 * 2 := by
  have e : fieldN v 47 1 = v / 2 % 140737488355328 := by
    rw [fieldN_yes (by decide) (by decide) (by decide)]
    rfl
  rw [e]
  have h1 : 0 ≤ v / 2 % 140737488355328 := Int.emod_nonneg _ (by decide)
  have h2 : v / 2 % 140737488355328 < 140737488355328 := Int.emod_lt_of_pos _ (by decide)
  generalize v / 2 % 140737488355328 = x at *
  rw [IntKind.wrap_u64, Int.emod_eq_of_lt (by omega) (by omega)]
theorem and_vmid (v : Int) (h0 : 0 ≤ v) (h1 : v < 18446744073709551616) : bits .and .u64 (v / 281474976710656) 255 = v / 281474976710656 % 256 := by
  refine and255 _ (Int.ediv_nonneg h0 (by decide)) ?_
  exact Int.lt_of_le_of_lt (Int.ediv_le_self _ h0) h1
theorem nat_root (v : Nat) : v &&& 281474976710654 = v / 2 % 140737488355328 * 2 := by
  have e1 : (281474976710654 : Nat) = (2 ^ 47 - 1) <<< 1 := by decide
  have e2 : v / 2 % 140737488355328 * 2 = ((v >>> 1) % 2 ^ 47) <<< 1 := by
    rw [Nat.shiftLeft_eq, Nat.shiftRight_eq_div_pow]
  rw [e1, e2]
  apply Nat.eq_of_testBit_eq
  intro i
  simp only [Nat.testBit_and, Nat.testBit_shiftLeft, Nat.testBit_two_pow_sub_one, Nat.testBit_mod_two_pow, Nat.testBit_shiftRight]
  by_cases h : 1 ≤ i
  · simp [h, show 1 + (i - 1) = i by omega]
    exact Bool.and_comm _ _
  · simp [h]
theorem and_root (v : Int) (h0 : 0 ≤ v) (h1 : v < 18446744073709551616) : bits .and .u64 v 281474976710654 = v / 2 % 140737488355328 * 2 := by
  obtain ⟨n, rfl⟩ := Int.eq_ofNat_of_zero_le h0
  rw [show (281474976710654 : Int) = ((281474976710654 : Nat) : Int) from rfl, u64_and_nat n 281474976710654 (by omega) (by decide), nat_root]
  simp
end Go.Proofs.Ytdmndgjfnlockaa
