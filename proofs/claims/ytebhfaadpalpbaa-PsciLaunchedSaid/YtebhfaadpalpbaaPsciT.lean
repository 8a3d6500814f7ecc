/- Chapter 29, a guest as it is launched: its processors. -/
import Derived.Test.YtebhfaadpalpbaaPsciN
import Derived.Test.YtebhfaadpalpbaaPsciS
namespace Go.Proofs.Ytebhfaadpalpbaa
set_option linter.unusedVariables false
open Go.RowKit Go.Sort

theorem encV1 (l : List Vc) (v : Vc) : (l ++ [v]).flatMap encV = l.flatMap encV ++ encV v := by simp
set_option maxHeartbeats 4000000 in
theorem vcpus_any (x e d : Int) (hx0 : 0 ≤ x) (hx1 : x < 4294967296) (w : World) :
    Calls Try.prog 14 #[.int .u32 x, .int .u64 e, .int .u64 d] w fun e' w' => (∃ A c, e' = .returned (.slice A (vsN x e d 32).length c) ∧ Rd w' w'.heap.size 5 A (vsN x e d 32).length ((vsN x e d 32).flatMap encV)) ∧ Below w.heap.size w w' := by
  have HB := Lib.hid (fun k => bit_and x hx0 hx1 k)
  clear hx0 hx1
  go_enter Try.func14, Try.ntmps14
  go_wp2
  go_loopw [7, 8] (fun s7 i wr => ∃ k : Nat, k ≤ 32 ∧ i = .int .i64 k ∧ wr.ownsRow w.heap.size 76 5 s7 (vsN x e d k).length ((vsN x e d k).flatMap encV) ∧ Below w.heap.size w wr) (fun _ i _ => 32 - (intOf i).toNat)
  case atStart => exact ⟨0, by omega, rfl, World.ownsRow_nil _ _ _ _, Below.refl _ _⟩
  case round =>
    obtain ⟨k, hk, rfl, hown, hb⟩ := hrel
    obtain ⟨A, c, rfl, hc, hr⟩ := own_slice hown
    by_cases hlt : k < 32
    · have hbk := HB.out k
      have hl := vsN_len x e d k
      by_cases hbit : x / 2 ^ k % 2 = 1
      · have e0 : (bits .and .u32 (x / 2 ^ k) 1 == 0) = false := by rw [hbk, hbit]; rfl
        have HS := Lib.hid (show vsN x e d (k + 1) = vsN x e d k ++ [if (vsN x e d k).length = 0 then ⟨k, true, e, d, 965⟩ else ⟨k, false, 0, 0, 965⟩] by rw [vsN, if_pos (by simpa [bitN] using hbit)])
        have HM := Lib.hid (show (vsN x e d k).length + 1 ≤ maxLen by unfold maxLen; omega)
        have HM2 := Lib.hid (show ((vsN x e d k).length + 1) * 40 ≤ 140737488355328 by omega)
        clear hbk hbit
        generalize vsN x e d k = vs at *
        have lb := hb.size
        by_cases h0 : vs.length = 0
        · simp only [h0, if_true] at HS
          have HO := Lib.hid hown
          have h0' : ((vs.length : Int) == 0) = true := by simp [h0]
          clear hown hr
          go_wp2_with (at_builtin; refine wpList_app vcpu_elem rfl (.tmp 29) (.tmp 31) rfl w.heap.size ((HO.out.alloc _).alloc _) rfl rfl (Rd.fresh _ _ _ 1 5 _ rfl) (by intro u hu; simp at hu; rcases hu with rfl | rfl | rfl | rfl | rfl <;> rfl) HM.out HM2.out (by simp; omega) ?_; intro v2 w4 hown4 hb4 hgr)
          go_roundw
          case rel => exact ⟨k + 1, by omega, by go_num, by rw [HS.out, encV1, List.length_append]; exact hown4, (bal (bal hb _) _).trans hb4⟩
          case measure => simp [intOf]; omega
        · simp only [h0, if_false] at HS
          have HO := Lib.hid hown
          have h0' : ((vs.length : Int) == 0) = false := by simpa using h0
          clear hown hr h0
          go_wp2_with (at_builtin; refine wpList_app vcpu_elem rfl (.tmp 29) (.tmp 31) rfl w.heap.size ((HO.out.alloc _).alloc _) rfl rfl (Rd.fresh _ _ _ 1 5 _ rfl) (by intro u hu; simp at hu; rcases hu with rfl | rfl | rfl | rfl | rfl <;> rfl) HM.out HM2.out (by simp; omega) ?_; intro v2 w4 hown4 hb4 hgr)
          go_roundw
          case rel => exact ⟨k + 1, by omega, by go_num, by rw [HS.out, encV1, List.length_append]; exact hown4, (bal (bal hb _) _).trans hb4⟩
          case measure => simp [intOf]; omega
      · have e0 : (bits .and .u32 (x / 2 ^ k) 1 == 0) = true := by rw [hbk]; simp; omega
        have HS := Lib.hid (show vsN x e d (k + 1) = vsN x e d k by rw [vsN, if_neg (by simpa [bitN] using hbit)])
        clear hbk hbit
        go_wp2
        go_roundw
        case rel => exact ⟨k + 1, by omega, by go_num, by rw [HS.out]; exact hown, hb⟩
        case measure => simp [intOf]; omega
    · obtain rfl : k = 32 := by omega
      go_wp2
      go_ret
      exact ⟨⟨A, c, rfl, hr⟩, hb⟩
end Go.Proofs.Ytebhfaadpalpbaa
