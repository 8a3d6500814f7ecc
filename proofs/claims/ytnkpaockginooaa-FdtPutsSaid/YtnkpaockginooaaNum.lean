/- Numbers as bytes, bytes as numbers: the plain law. -/
import Derived.Test.YtnkpaockginooaaBytes
import Derived.Laws.BitsAllLaws
namespace Go.Proofs.Ytnkpaockginooaa
set_option linter.unusedVariables false
open Go.RowKit Go.Sort

def encQ (x : Int) : List Value := [.int .u64 x]
def encU32 (x : Int) : List Value := [.int .u32 x]
def byteN (x : Int) (j : Nat) : Int := x / 2 ^ (8 * j) % 256
/-- So many bytes of a number. -/
def bytesN (s : Nat) (low : Bool) (x : Int) : List Int := (List.range s).map fun i => byteN x (if low then i else s - 1 - i)
theorem bytesN_len (s : Nat) (low : Bool) (x : Int) : (bytesN s low x).length = s := by simp [bytesN]
theorem bytesN_step (s : Nat) (low : Bool) (x : Int) (i : Nat) (h : i < s) : (bytesN s low x).take (i + 1) = (bytesN s low x).take i ++ [byteN x (if low then i else s - 1 - i)] := by
  rw [List.take_succ_eq_append_getElem (by rw [bytesN_len]; exact h)]
  simp [bytesN]

/-- The bytes of a number of so many bytes in the order in which they are taken. -/
def seqN (l : List Int) (a s : Nat) (low : Bool) : List Int := if low then ((l.drop a).take s).reverse else (l.drop a).take s
theorem seqN_len {l : List Int} {a s : Nat} {low : Bool} (h : a + s ≤ l.length) : (seqN l a s low).length = s := by
  unfold seqN; split <;> simp <;> omega
theorem seqN_at {l : List Int} {a s k : Nat} {low : Bool} (h : a + s ≤ l.length) (hk : k < s) : (seqN l a s low)[k]? = l[if low then a + (s - 1 - k) else a + k]? := by
  unfold seqN
  cases low
  · simp [hk]
  · have hl : ((l.drop a).take s).length = s := by simp; omega
    simp only [if_true]
    rw [List.getElem?_reverse (by omega), hl, List.getElem?_take, if_pos (by omega), List.getElem?_drop]
theorem seqN_ok {l : List Int} {a s : Nat} {low : Bool} (h : BytesOk l) : BytesOk (seqN l a s low) := by
  intro x hx
  unfold seqN at hx
  split at hx
  · exact h x (List.mem_of_mem_drop (List.mem_of_mem_take (List.mem_reverse.1 hx)))
  · exact h x (List.mem_of_mem_drop (List.mem_of_mem_take hx))

theorem or_byte (x c : Int) (h0 : 0 ≤ x) (h1 : x < 72057594037927936) (k0 : 0 ≤ c) (k1 : c < 256) : bits .or .u64 (x * 256) c = x * 256 + c := by
  obtain ⟨x, rfl⟩ := Int.eq_ofNat_of_zero_le h0
  obtain ⟨c, rfl⟩ := Int.eq_ofNat_of_zero_le k0
  have h := u64_or_nat (x * 256) c (by omega) (by omega)
  have e := Nat.shiftLeft_add_eq_or_of_lt (i := 8) (show c < 2 ^ 8 by omega) x
  rw [Nat.shiftLeft_eq, show (2 : Nat) ^ 8 = 256 by decide] at e
  rw [← e] at h
  simpa using h

set_option maxHeartbeats 2000000 in
theorem rd_pos {w : World} {B n : Nat} {A d : Option Addr} {xs : List Value} (h : Rd w B 1 A n xs) (hn : 0 < xs.length → 0 < n) : 0 < xs.length → d = d ∧ ∃ ad, A = some ad ∧ ∀ j v, xs[j]? = some v → w.cell? (ad.add j) = some v := by
  intro hp
  obtain ⟨b, o, rfl, hb, hc⟩ := h.2 (hn hp)
  refine ⟨rfl, _, rfl, fun j v hv => ?_⟩
  have := hc j v hv
  by_cases hj : j = 0
  · subst hj; simpa [Addr.add] using this
  · simpa [Addr.add, hj] using this

theorem bytesN_ok (s : Nat) (low : Bool) (x : Int) : BytesOk (bytesN s low x) := by
  intro y hy
  obtain ⟨i, _, rfl⟩ := List.mem_map.1 hy
  unfold byteN
  omega
end Go.Proofs.Ytnkpaockginooaa
