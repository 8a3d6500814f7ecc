/- Chapter 13: Bump: the program's, walked. -/
import Derived.Test.YtpenjfkdinmgmaaCtrH
import Derived.Test.YtpenjfkdinmgmaaEqFlat
namespace Go.Proofs.Ytpenjfkdinmgmaa
set_option linter.unusedVariables false
set_option linter.unusedSimpArgs false
open Go.RowKit Go.Sort

theorem counter_neq (w : World) (x y : Rr) : (binOp .neq 60 (.agg #[.int .u32 x.v, .int .i64 x.err]) (.agg #[.int .u32 y.v, .int .i64 y.err])).run Try.prog w = .ok (.bool (!(x.v == y.v && x.err == y.err))) w := by
  have h := neq_flat w (show flatOf Try.prog 5 60 = some [.int .u32, .int .i64] by kernel_rfl) (by kernel_rfl) (by decide) (by kernel_rfl) (xs := encK x) (ys := encK y) ⟨rfl, rfl, trivial⟩ ⟨rfl, rfl, trivial⟩
  have e : eqLeaves (encK x) (encK y) = (x.v == y.v && x.err == y.err) := by simp [eqLeaves, encK]
  rw [e] at h
  exact h
set_option maxHeartbeats 2000000 in
theorem sameCounters_eq (A A2 : Option Addr) (n c c2 : Nat) (l : List Rr) (w : World) (hl : l.length = n) (hn : n ≤ 1000000) (hr : Rd w w.heap.size 2 A n (l.flatMap encK)) (hr2 : Rd w w.heap.size 2 A2 n (l.flatMap encK)) :
    Calls Try.prog 18 #[.slice A n c, .slice A2 n c2] w fun e w' => e = .returned (.bool true) ∧ Below w.heap.size w w' := by
  have HL := Lib.hid hl
  have HR := Lib.hid hr
  have HR2 := Lib.hid hr2
  clear hl hr hr2
  go_enter Try.func18, Try.ntmps18
  go_wp2
  go_loopw [5, 13] (fun _ i wr => ∃ k : Nat, k ≤ n ∧ i = .int .i64 k ∧ Below w.heap.size w wr) (fun _ i _ => n - (intOf i).toNat)
  case atStart => exact ⟨0, by omega, rfl, Below.refl _ _⟩
  case round =>
    obtain ⟨k, hk, rfl, hbr⟩ := hrel
    by_cases hlt : k < n
    · have hlt' : k < l.length := by rw [HL.out]; exact hlt
      obtain ⟨b1, o1, rfl, hb1, hc1⟩ := (HR.out.below hbr).row (fun _ => rfl) hlt' HL.out
      obtain ⟨b2, o2, rfl, hb2, hc2⟩ := (HR2.out.below hbr).row (fun _ => rfl) hlt' HL.out
      have d0 := hc1 0 (by omega)
      have d1 := hc1 1 (by omega)
      have e0 := hc2 0 (by omega)
      have e1 := hc2 1 (by omega)
      simp only [encK, Nat.add_zero, List.getElem?_cons_zero, List.getElem?_cons_succ] at d0 d1 e0 e1
      clear hc1 hc2
      generalize l[k] = s at *
      have hq : ∀ w, (binOp .neq 60 (.agg #[.int .u32 s.v, .int .i64 s.err]) (.agg #[.int .u32 s.v, .int .i64 s.err])).run Try.prog w = .ok (.bool false) w := fun w => by rw [counter_neq]; simp
      go_wp2
      go_quiet (fail)
      go_wp2
      go_roundw
      case rel => exact ⟨k + 1, by omega, by go_num, below_drewN hbr _⟩
      case measure => simp [intOf]; omega
    · go_wp2
      go_ret
      exact ⟨rfl, hbr⟩

/-- The writes of a counter that rises, till one fails. -/
def bumpK (b : Int) : List (Int × Int) → Stt → Int × Stt
  | [], s => (0, s)
  | p :: l, s => if (writeN s (b + p.1) p.2).1 ≠ 0 then writeN s (b + p.1) p.2 else bumpK b l (writeN s (b + p.1) p.2).2
def bumpN (s : Stt) (id v : Int) : Int × Stt :=
  if (recN s.ws id).err ≠ 0 then ((recN s.ws id).err, s) else if v ≤ (recN s.ws id).v then (132, s) else if v = 4294967295 then (131, s)
  else bumpK (8 * id + 4 * (1 - (recN s.ws id).at_ : Nat)) (stepsN id (s.ws.getD (8 * id.toNat + 4 * (1 - (recN s.ws id).at_)) 0) ((recN s.ws id).q + 1) v) s
theorem ofN_range {id : Int} {ws : List Int} (hu : U32s ws) (b : Nat) : 0 ≤ (ofW id (slW ws b)).1 ∧ (ofW id (slW ws b)).1 < 4294967296 ∧ 0 ≤ (ofW id (slW ws b)).2.1 ∧ (ofW id (slW ws b)).2.1 < 4294967296 := by
  have h1 := hu.at_ (b + 1)
  have h2 := hu.at_ (b + 2)
  unfold ofW ofN slW
  simp only
  split
  · exact ⟨h1.1, h1.2, h2.1, h2.2⟩
  · exact ⟨by decide, by decide, by decide, by decide⟩
theorem fin_ok {k : Nat} {x y : Int} (h : (finR k x y).err = 0) : finR k x y = ⟨0, k, x, y⟩ ∧ x ≠ 4294967295 ∧ y ≠ 4294967295 := by
  unfold finR at h ⊢
  split at h
  · simp at h
  · rename_i h1
    rw [if_neg h1]
    exact ⟨rfl, fun e => h1 (.inl e), fun e => h1 (.inr e)⟩
theorem pick_ok {a b : Int × Int × Bool} (h : (pickR a b).err = 0) : (pickR a b = finR 0 a.1 a.2.1 ∧ a.2.2 = true) ∨ (pickR a b = finR 1 b.1 b.2.1 ∧ b.2.2 = true) := by
  obtain ⟨xa, ya, fa⟩ := a
  obtain ⟨xb, yb, fb⟩ := b
  cases fa <;> cases fb
  · rw [pick_ff] at h; simp at h
  · exact .inr ⟨pick_ft _ _ _ _, rfl⟩
  · exact .inl ⟨pick_tf _ _ _ _, rfl⟩
  · by_cases h1 : xa = xb
    · by_cases h2 : ya = yb
      · exact .inl ⟨pick_same _ _ _ _ h1 h2, rfl⟩
      · rw [pick_ne _ _ _ _ h1 h2] at h; simp at h
    · by_cases h2 : xa < xb
      · exact .inr ⟨pick_lt _ _ _ _ h1 h2, rfl⟩
      · exact .inl ⟨pick_gt _ _ _ _ h1 h2, rfl⟩
theorem rec_ok {ws : List Int} {id : Int} (hu : U32s ws) (h : (recN ws id).err = 0) : ∃ k : Nat, id = k ∧ k < ws.length / 8 ∧ (recN ws id).at_ ≤ 1 ∧ 0 ≤ (recN ws id).q ∧ (recN ws id).q < 4294967295 ∧ 0 ≤ (recN ws id).v ∧ (recN ws id).v < 4294967295 := by
  unfold recN at h ⊢
  split at h
  · simp at h
  · rename_i h1
    rw [if_neg h1]
    refine ⟨id.toNat, by omega, by omega, ?_⟩
    have r1 := ofN_range (id := id) hu (8 * id.toNat)
    have r2 := ofN_range (id := id) hu (8 * id.toNat + 4)
    rcases pick_ok h with ⟨e, _⟩ | ⟨e, _⟩
    · rw [e] at h ⊢
      obtain ⟨e2, n1, n2⟩ := fin_ok h
      rw [e2]
      exact ⟨by simp, by simp only; omega, by simp only; omega, by simp only; omega, by simp only; omega⟩
    · rw [e] at h ⊢
      obtain ⟨e2, n1, n2⟩ := fin_ok h
      rw [e2]
      exact ⟨by simp, by simp only; omega, by simp only; omega, by simp only; omega, by simp only; omega⟩
theorem bumpK_cons_bad {b : Int} {p : Int × Int} {l : List (Int × Int)} {s : Stt} (h : (writeN s (b + p.1) p.2).1 ≠ 0) : bumpK b (p :: l) s = writeN s (b + p.1) p.2 := by rw [bumpK, if_pos h]
theorem bumpK_cons_ok {b : Int} {p : Int × Int} {l : List (Int × Int)} {s : Stt} (h : (writeN s (b + p.1) p.2).1 = 0) : bumpK b (p :: l) s = bumpK b l (writeN s (b + p.1) p.2).2 := by rw [bumpK, if_neg (by rw [h]; simp)]
end Go.Proofs.Ytpenjfkdinmgmaa
