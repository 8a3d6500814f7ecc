/- Chapter 35, the traps: what the functions compute; the small ones. -/
import Derived.Test.YtklbdjbichfajaaRegions
import Derived.Deep.RegionHeld3
namespace Go.Proofs.Ytklbdjbichfajaa
set_option linter.unusedVariables false
open Go.RowKit Go.Sort

/-- A fault. -/
structure Flt where
  kd : Int
  gu : Int
  li : Int
  ipa : Int
  sz : Int
  wd : Int
  er : Int
  lv : Int
  rg : Int
def Flt.lst (f : Flt) : List Value := [.int .i64 f.kd, .int .i64 f.gu, .int .i64 f.li, .int .u64 f.ipa, .int .i64 f.sz, .int .u64 f.wd, .int .i64 f.er, .int .i64 f.lv, .int .i64 f.rg]

def idxN (l : List Int) (x : Int) : Int := if x ∈ l then (l.idxOf x : Int) else -1
theorem idxN_hit {l : List Int} {x : Int} {k : Nat} (hk : k < l.length) (h : l[k] = x) (hb : ∀ j, j < k → l[j]? ≠ some x) : idxN l x = k := by
  have hm : x ∈ l := h ▸ List.getElem_mem hk
  unfold idxN
  rw [if_pos hm]
  have h1 : l.idxOf x < l.length := List.idxOf_lt_length_iff.2 hm
  have h2 : l[l.idxOf x] = x := by simp
  rcases Nat.lt_trichotomy (l.idxOf x) k with h3 | h3 | h3
  · exact absurd (by rw [List.getElem?_eq_getElem h1, h2]) (hb _ h3)
  · rw [h3]
  · exfalso
    have := List.not_of_lt_findIdx (p := (· == x)) (xs := l) (i := k) (by simpa [List.idxOf] using h3)
    simp [h] at this
theorem idxN_none {l : List Int} {x : Int} (h : ∀ j, j < l.length → l[j]? ≠ some x) : idxN l x = -1 := by
  unfold idxN
  rw [if_neg]
  intro hm
  obtain ⟨j, hj, e⟩ := List.getElem_of_mem hm
  exact h j hj (by rw [List.getElem?_eq_getElem hj, e])
def encI (x : Int) : List Value := [.int .i64 x]

set_option maxHeartbeats 1000000 in
theorem index_int (A : Option Addr) (n c : Nat) (l : List Int) (x : Int) (w : World) (hl : l.length = n) (hn : n ≤ 1000000) (hr : Rd w w.heap.size 1 A n (l.flatMap encI)) :
    Calls Try.prog 76 #[.slice A n c, .int .i64 x] w fun e w' => e = .returned (.int .i64 (idxN l x)) ∧ w = w' := by
  have HL := Lib.hid hl
  have HR := Lib.hid hr
  clear hl hr
  go_enter Try.func76, Try.ntmps76
  go_wp2
  go_loop [5, 8] (fun _ i => ∃ k : Nat, k ≤ n ∧ i = .int .i64 k ∧ Hid (∀ j, j < k → l[j]? ≠ some x)) (fun _ i => n - (intOf i).toNat)
  case atStart => exact ⟨0, by omega, rfl, fun j hj => absurd hj (by omega)⟩
  case round =>
    obtain ⟨k, hk, rfl, hq⟩ := hrel
    by_cases hlt : k < n
    · have hlt' : k < l.length := by rw [HL.out]; exact hlt
      obtain ⟨b, o, rfl, hb, hc⟩ := HR.out.row (fun _ => rfl) hlt' HL.out
      have d := hc 0 (by omega)
      simp only [encI, Nat.add_zero, Nat.mul_one, List.getElem?_cons_zero] at d
      clear hc
      by_cases hx : l[k] = x
      · have HE := Lib.hid (idxN_hit hlt' hx hq.out)
        rw [hx] at d
        clear hx
        go_wp2
        go_ret
        exact ⟨ret_int' HE.out.symm, rfl⟩
      · have hx' : (x == l[k]) = false := by rw [beq_eq_false_iff_ne]; exact fun h => hx h.symm
        have HX := Lib.hid hx
        have HG := Lib.hid (List.getElem?_eq_getElem hlt')
        clear hx
        generalize l[k] = y at *
        go_wp2
        go_round
        case rel => exact ⟨k + 1, by omega, by go_num, fun j hj => by
          rcases Nat.lt_or_ge j k with h1 | h1
          · exact hq.out j h1
          · obtain rfl : j = k := by omega
            rw [HG.out]
            intro h
            exact HX.out (by simpa using h)⟩
        case measure => simp [intOf]; omega
    · obtain rfl : k = n := by omega
      have HE := Lib.hid (idxN_none (l := l) (x := x) (by rw [HL.out]; exact hq.out))
      go_wp2
      go_ret
      exact ⟨ret_int' HE.out.symm, rfl⟩
set_option maxHeartbeats 1000000 in
theorem index_errno (A : Option Addr) (n c : Nat) (l : List Int) (x : Int) (w : World) (hl : l.length = n) (hn : n ≤ 1000000) (hr : Rd w w.heap.size 1 A n (l.flatMap encI)) :
    Calls Try.prog 75 #[.slice A n c, .int .i64 x] w fun e w' => e = .returned (.int .i64 (idxN l x)) ∧ w = w' := by
  have HL := Lib.hid hl
  have HR := Lib.hid hr
  clear hl hr
  go_enter Try.func75, Try.ntmps75
  go_wp2
  go_loop [5, 8] (fun _ i => ∃ k : Nat, k ≤ n ∧ i = .int .i64 k ∧ Hid (∀ j, j < k → l[j]? ≠ some x)) (fun _ i => n - (intOf i).toNat)
  case atStart => exact ⟨0, by omega, rfl, fun j hj => absurd hj (by omega)⟩
  case round =>
    obtain ⟨k, hk, rfl, hq⟩ := hrel
    by_cases hlt : k < n
    · have hlt' : k < l.length := by rw [HL.out]; exact hlt
      obtain ⟨b, o, rfl, hb, hc⟩ := HR.out.row (fun _ => rfl) hlt' HL.out
      have d := hc 0 (by omega)
      simp only [encI, Nat.add_zero, Nat.mul_one, List.getElem?_cons_zero] at d
      clear hc
      by_cases hx : l[k] = x
      · have HE := Lib.hid (idxN_hit hlt' hx hq.out)
        rw [hx] at d
        clear hx
        go_wp2
        go_ret
        exact ⟨ret_int' HE.out.symm, rfl⟩
      · have hx' : (x == l[k]) = false := by rw [beq_eq_false_iff_ne]; exact fun h => hx h.symm
        have HX := Lib.hid hx
        have HG := Lib.hid (List.getElem?_eq_getElem hlt')
        clear hx
        generalize l[k] = y at *
        go_wp2
        go_round
        case rel => exact ⟨k + 1, by omega, by go_num, fun j hj => by
          rcases Nat.lt_or_ge j k with h1 | h1
          · exact hq.out j h1
          · obtain rfl : j = k := by omega
            rw [HG.out]
            intro h
            exact HX.out (by simpa using h)⟩
        case measure => simp [intOf]; omega
    · obtain rfl : k = n := by omega
      have HE := Lib.hid (idxN_none (l := l) (x := x) (by rw [HL.out]; exact hq.out))
      go_wp2
      go_ret
      exact ⟨ret_int' HE.out.symm, rfl⟩

theorem errors_any (w : World) :
    Calls Try.prog 55 #[] w fun e w' => ∃ A c, e = .returned (.slice A 4 c) ∧ Rd w' w'.heap.size 1 A 4 ([200, 201, 202, 300].flatMap encI) ∧ Below w.heap.size w w' := by
  go_enter Try.func55, Try.ntmps55
  go_wp2
  go_ret
  exact ⟨_, _, rfl, Rd.fresh w _ _ 4 1 _ rfl, bal (Below.refl _ _) _⟩
theorem sizes_any (w : World) :
    Calls Try.prog 56 #[] w fun e w' => ∃ A c, e = .returned (.slice A 4 c) ∧ Rd w' w'.heap.size 1 A 4 ([1, 2, 4, 8].flatMap encI) ∧ Below w.heap.size w w' := by
  go_enter Try.func56, Try.ntmps56
  go_wp2
  go_ret
  exact ⟨_, _, rfl, Rd.fresh w _ _ 4 1 _ rfl, bal (Below.refl _ _) _⟩
def oneN (b : Bool) : Int := if b then 1 else 0
theorem one_any (b : Bool) (w : World) :
    Calls Try.prog 53 #[.bool b] w fun e w' => e = .returned (.int .u64 (oneN b)) ∧ w = w' := by
  cases b
  all_goals
    go_enter Try.func53, Try.ntmps53
    go_wp2
    go_ret
    exact ⟨rfl, rfl⟩

/-! ### fields, put together -/
def encF (f : Nat × Int) : List Value := [.int .i64 f.1, .int .u64 f.2]
def joinedN (l : List (Nat × Int)) : Nat := l.foldl (fun w f => w ||| (f.2.toNat * 2 ^ f.1) % 18446744073709551616) 0
theorem joinedN_snoc (l : List (Nat × Int)) (f : Nat × Int) : joinedN (l ++ [f]) = joinedN l ||| (f.2.toNat * 2 ^ f.1) % 18446744073709551616 := by simp [joinedN]
theorem joinedN_lt (l : List (Nat × Int)) : joinedN l < 18446744073709551616 := by
  unfold joinedN
  have key : ∀ (l : List (Nat × Int)) (w : Nat), w < 2 ^ 64 → l.foldl (fun w f => w ||| (f.2.toNat * 2 ^ f.1) % 18446744073709551616) w < 2 ^ 64 := by
    intro l
    induction l with
    | nil => intro w h; exact h
    | cons a l ih => intro w h; exact ih _ (Nat.or_lt_two_pow h (Nat.mod_lt _ (by decide)))
  exact key l 0 (by decide)
theorem joined_step (l : List (Nat × Int)) (k : Nat) (h : k < l.length) (h0 : 0 ≤ l[k].2) :
    bits BinOp.or IntKind.u64 (joinedN (l.take k) : Int) (IntKind.u64.wrap (l[k].2 * 2 ^ l[k].1)) = (joinedN (l.take (k + 1)) : Int) := by
  rw [List.take_succ_eq_append_getElem h, joinedN_snoc, IntKind.wrap_u64]
  have e : l[k].2 * 2 ^ l[k].1 % 18446744073709551616 = ((l[k].2.toNat * 2 ^ l[k].1 % 18446744073709551616 : Nat) : Int) := by
    have e0 : l[k].2 = (l[k].2.toNat : Int) := (Int.toNat_of_nonneg h0).symm
    generalize l[k].2.toNat = m at e0 ⊢
    rw [e0]
    simp only [Int.natCast_emod, Int.natCast_mul, Int.natCast_pow]; rfl
  rw [e]
  exact u64_or_nat _ _ (joinedN_lt _) (Nat.mod_lt _ (by decide))

set_option maxHeartbeats 400000 in
theorem joined_any (A : Option Addr) (n c : Nat) (l : List (Nat × Int)) (hl : l.length = n) (hn : n ≤ 1000) (hat : ∀ f ∈ l, f.1 < 64 ∧ 0 ≤ f.2) (w : World) (hr : Rd w w.heap.size 2 A n (l.flatMap encF)) :
    Calls Try.prog 52 #[.slice A n c] w fun e w' => e = .returned (.int .u64 (joinedN l)) ∧ Below w.heap.size w w' := by
  go_enter Try.func52, Try.ntmps52
  go_wp2
  go_loopw [3, 8] (fun s i wr => ∃ k : Nat, k ≤ n ∧ i = .int .i64 k ∧ s = .int .u64 (joinedN (l.take k)) ∧ Below w.heap.size w wr) (fun _ i _ => n - (intOf i).toNat)
  case atStart => exact ⟨0, by omega, rfl, rfl, Below.refl _ _⟩
  case round =>
    obtain ⟨k, hk, rfl, rfl, hb⟩ := hrel
    by_cases hlt : k < n
    · obtain ⟨b, off, rfl, hbb, hc⟩ := (hr.below hb).row (fun _ => rfl) (k := k) (by omega) hl
      have h1 := hc 0 (by omega)
      have h2 := hc 1 (by omega)
      simp only [encF, Nat.add_zero] at h1 h2
      have hlt' : k < l.length := by omega
      obtain ⟨ht, ht0⟩ := hat _ (List.getElem_mem hlt')
      clear hc hat hr
      have HB := Lib.hid (joined_step l k hlt' ht0)
      go_wp2
      go_roundw
      case rel => exact ⟨k + 1, by omega, by go_num, congrArg _ HB.out, hb.alloc hb.size _⟩
      case measure => simp [intOf]; omega
    · go_wp2
      go_ret
      exact ⟨ret_int' (by rw [List.take_of_length_le (by omega)]), hb⟩
end Go.Proofs.Ytklbdjbichfajaa
