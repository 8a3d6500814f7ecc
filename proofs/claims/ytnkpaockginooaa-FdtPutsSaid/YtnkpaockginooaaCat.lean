/- Parts of bytes, one behind the other (word.Cat). -/
import Derived.Test.YtnkpaockginooaaNum
import Derived.Test.YtnkpaockginooaaNear
namespace Go.Proofs.Ytnkpaockginooaa
set_option linter.unusedVariables false
open Go.RowKit Go.Sort

/-- A part: where it lies, its bytes. -/
structure Pt where
  A : Option Addr
  n : Nat
  c : Nat
  bs : List Int
def encPt (p : Pt) : List Value := [.slice p.A p.n p.c]
def PtOk (w : World) (B : Nat) (p : Pt) : Prop := p.bs.length = p.n ∧ Rd w B 1 p.A p.n (p.bs.flatMap encB)
def catN (ps : List Pt) : List Int := ps.flatMap (·.bs)
theorem catN_take (ps : List Pt) (k : Nat) (h : k < ps.length) : catN (ps.take (k + 1)) = catN (ps.take k) ++ (ps[k]).bs := by
  unfold catN
  rw [List.take_succ_eq_append_getElem h, List.flatMap_append]
  simp only [List.flatMap_cons, List.flatMap_nil, List.append_nil]
theorem catN_le (ps : List Pt) (k : Nat) : (catN (ps.take k)).length ≤ (catN ps).length := by
  have : ps = ps.take k ++ ps.drop k := (List.take_append_drop k ps).symm
  conv => rhs; rw [this]
  unfold catN
  rw [List.flatMap_append, List.length_append]
  omega

set_option maxRecDepth 100000 in
set_option maxHeartbeats 2000000 in
theorem cat_any (A : Option Addr) (n c : Nat) (ps : List Pt) (w : World) (hl : ps.length = n) (hn : n ≤ 1000000) (hr : Rd w w.heap.size 1 A n (ps.flatMap encPt)) (hp : ∀ p ∈ ps, PtOk w w.heap.size p) {N : Nat} (hN : (catN ps).length = N) (hs : N ≤ 100000000) :
    Calls Try.prog 37 #[.slice A n c] w fun e w' => ∃ A' c', e = .returned (.slice A' N c') ∧ w'.ownsRow w.heap.size 5 1 (.slice A' N c') N ((catN ps).flatMap encB) ∧ Below w.heap.size w w' := by
  have HL := Lib.hid hl
  have HR := Lib.hid hr
  have HP := Lib.hid hp
  have HLe := Lib.hid (fun k => hN ▸ catN_le ps k)
  have HF := Lib.hid (show catN (ps.take n) = catN ps by rw [List.take_of_length_le (by rw [hl]; exact Nat.le_refl _)])
  have HNN := Lib.hid hN
  have hmk := fun w => make_b0 w N (by omega)
  have hcs : (madeCells (Value.int .u8 0).cells (N * 1)).size = N := by rw [size_madeCells]; omega
  generalize madeCells (Value.int .u8 0).cells (N * 1) = cur at *
  clear hl hr hp hN
  go_enter Try.func37, Try.ntmps37
  go_wp2
  go_loop [3, 11] (fun s i => ∃ k : Nat, k ≤ n ∧ i = .int .i64 k ∧ s = .int .i64 ((catN (ps.take k)).length)) (fun _ i => n - (intOf i).toNat)
  case atStart => exact ⟨0, by omega, rfl, rfl⟩
  case round =>
    obtain ⟨k, hk, rfl, rfl⟩ := hrel
    by_cases hlt : k < n
    · have hlt' : k < ps.length := by rw [HL.out]; exact hlt
      obtain ⟨b, o, rfl, hbb, hc⟩ := HR.out.row (fun _ => rfl) hlt' HL.out
      have d := hc 0 (by omega)
      simp only [encPt, Nat.add_zero, Nat.mul_one, List.getElem?_cons_zero] at d
      have hk1 := HLe.out (k + 1)
      have hp := (HP.out _ (List.getElem_mem hlt')).1
      have hT := catN_take ps k hlt'
      have hTl : (catN (ps.take (k + 1))).length = (catN (ps.take k)).length + (ps[k]).n := by rw [hT, List.length_append, hp]
      rw [hTl] at hk1
      have HT := Lib.hid hTl
      clear hc hp hT hTl
      generalize ps[k] = p at *
      generalize (catN (ps.take k)).length = s at *
      go_wp2
      go_round
      case rel => exact ⟨k + 1, by omega, by go_num, by rw [HT.out]; go_num⟩
      case measure => simp [intOf]; omega
    · obtain rfl : k = n := by omega
      rw [HF.out, HNN.out]
      go_wp2
      have HO := Lib.hid (own_b0 w w.heap.size N (by omega) (Nat.le_refl _) hcs)
      clear hmk hcs
      have hb1 := bal (Below.refl w.heap.size w) (.cells cur 5)
      go_loopw [6, 24] (fun v i wr => ∃ j : Nat, j ≤ k ∧ i = .int .i64 j ∧ ∃ A' c' m, v = .slice A' m c' ∧ m = (catN (ps.take j)).length ∧ wr.ownsRow w.heap.size 5 1 (.slice A' m c') m ((catN (ps.take j)).flatMap encB) ∧ Below w.heap.size w wr) (fun _ i _ => k - (intOf i).toNat)
      case atStart => exact ⟨0, by omega, rfl, _, _, 0, rfl, rfl, HO.out, hb1⟩
      case round =>
        obtain ⟨j, hj, rfl, A', c', m, rfl, hm, ho, hb⟩ := hrel
        clear hb1
        by_cases hlt : j < k
        · have hlt' : j < ps.length := by rw [HL.out]; exact hlt
          obtain ⟨b, o, rfl, hbb, hc⟩ := (HR.out.below hb).row (fun _ => rfl) hlt' HL.out
          have d := hc 0 (by omega)
          simp only [encPt, Nat.add_zero, Nat.mul_one, List.getElem?_cons_zero] at d
          have hk1 := HLe.out (j + 1)
          obtain ⟨hp, hpr⟩ := HP.out _ (List.getElem_mem hlt')
          have hT := catN_take ps j hlt'
          rw [hT, List.length_append, hp, ← hm] at hk1
          have HT := Lib.hid hT
          have HTl := Lib.hid (show (catN (ps.take (j + 1))).length = m + (ps[j]).n by rw [hT, List.length_append, hp, hm])
          have HPr := Lib.hid (hpr.below hb)
          have hz := hb.size
          clear hc hp hT hpr hm
          generalize ps[j] = p at *
          obtain ⟨pA, pn, pc, pb⟩ := p
          simp only at *
          have HMx := Lib.hid (show m + pn ≤ maxLen by unfold maxLen; omega)
          have HMy := Lib.hid (show (m + pn) * 1 ≤ 140737488355328 by omega)
          go_wp2_with (at_builtin; refine wpList_app u8_elem rfl (.tmp 28) (.tmp 29) rfl w.heap.size ho rfl rfl HPr.out (one_b pb) HMx.out HMy.out hz ?_; intro v5 w5 hown5 hb5 _; obtain ⟨A5, c5, rfl, _, _⟩ := own_slice hown5)
          go_roundw
          case rel => exact ⟨j + 1, by omega, by go_num, A5, c5, m + pn, rfl, HTl.out.symm, by rw [HT.out, List.flatMap_append]; exact hown5, hb.trans hb5⟩
          case measure => simp [intOf]; omega
        · obtain rfl : j = k := by omega
          rw [HF.out, HNN.out] at hm
          subst hm
          rw [HF.out] at ho
          go_wp2
          go_ret
          exact ⟨A', c', rfl, ho, hb⟩
end Go.Proofs.Ytnkpaockginooaa
