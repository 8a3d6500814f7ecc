/- Chapter 22, routes as bytes: the document's. -/
import Derived.Test.YtnhlcfkjhacedaaIrqP
namespace Go.Proofs.Ytnhlcfkjhacedaa
set_option linter.unusedVariables false
open Go.RowKit Go.Sort

theorem may_not {r : Rt} (h : r.may = false) : r.own < -1 ∨ (-1 ≤ r.own ∧ 15 < r.own) ∨ (-1 ≤ r.own ∧ r.own ≤ 15 ∧ r.cpu < 0) ∨ (-1 ≤ r.own ∧ r.own ≤ 15 ∧ 0 ≤ r.cpu ∧ 31 < r.cpu) ∨ (r.own = -1 ∧ 0 < r.cpu ∧ r.cpu ≤ 31) ∨ (r.own = -1 ∧ r.cpu = 0 ∧ r.edge = true) := by
  unfold Rt.may at h
  split at h
  · rename_i h1
    obtain ⟨own, cpu, edge⟩ := r
    simp only at h1
    subst h1
    simp [mR] at h
    by_cases h2 : cpu = 0
    · exact .inr (.inr (.inr (.inr (.inr ⟨rfl, h2, h h2⟩))))
    · rcases (show cpu < 0 ∨ (0 ≤ cpu ∧ 31 < cpu) ∨ (0 < cpu ∧ cpu ≤ 31) by omega) with h3 | ⟨h3, h4⟩ | ⟨h3, h4⟩
      · exact .inr (.inr (.inl ⟨by simp, by simp, h3⟩))
      · exact .inr (.inr (.inr (.inl ⟨by simp, by simp, h3, h4⟩)))
      · exact .inr (.inr (.inr (.inr (.inl ⟨rfl, h3, h4⟩))))
  · rename_i h1
    simp at h
    rcases (show r.own < -1 ∨ (-1 ≤ r.own ∧ 15 < r.own) ∨ (-1 ≤ r.own ∧ r.own ≤ 15 ∧ r.cpu < 0) ∨ (-1 ≤ r.own ∧ r.own ≤ 15 ∧ 0 ≤ r.cpu ∧ 31 < r.cpu) by omega) with h3 | h3 | h3 | h3
    · exact .inl h3
    · exact .inr (.inl h3)
    · exact .inr (.inr (.inl h3))
    · exact .inr (.inr (.inr (.inl h3)))

set_option maxRecDepth 100000 in
set_option maxHeartbeats 4000000 in
theorem refPutRoutes_any (A : Option Addr) (n c : Nat) (l : List Rt) (w : World) (hl : l.length = n) (hn : n ≤ 1000000) (hr : Rd w w.heap.size 3 A n (l.flatMap encR)) :
    Calls Try.prog 27 #[.slice A n c] w (RputRes l n w) := by
  have HL := Lib.hid hl
  have HR := Lib.hid hr
  clear hl hr
  by_cases h256 : n ≤ 1020
  · go_enter Try.func27, Try.ntmps27
    go_wp2
    go_loopw [4, 13] (fun v i wr => ∃ k : Nat, k ≤ n ∧ i = .int .i64 k ∧ Hid ((l.take k).all Rt.may = true) ∧ ∃ A' c', v = .slice A' (4 * k) c' ∧ wr.ownsRow w.heap.size 5 1 (.slice A' (4 * k) c') (4 * k) ((rBytes (l.take k)).flatMap encB) ∧ Below w.heap.size w wr) (fun _ i _ => n - (intOf i).toNat)
    case atStart => exact ⟨0, by omega, rfl, Lib.hid rfl, none, 0, rfl, World.ownsRow_nil _ _ _ _, Below.refl _ _⟩
    case round =>
      obtain ⟨k, hk, rfl, hall, A', c', rfl, hown, hb⟩ := hrel
      by_cases hlt : k < n
      · have hlt' : k < l.length := by rw [HL.out]; exact hlt
        obtain ⟨b, o, rfl, hbb, hc⟩ := (HR.out.below hb).row (fun _ => rfl) hlt' HL.out
        have d0 := hc 0 (by omega)
        have d1 := hc 1 (by omega)
        have d2 := hc 2 (by omega)
        simp only [encR, Nat.add_zero, List.getElem?_cons_zero, List.getElem?_cons_succ] at d0 d1 d2
        have HT := Lib.hid (List.take_succ_eq_append_getElem hlt')
        have HE := Lib.hid (List.getElem_mem hlt')
        clear hc
        generalize l[k] = r at *
        have hwr := hb.size
        cases hmay : r.may with
        | false =>
          have HNo : Hid (rputOk l = false) := Lib.hid (by
            have : l.all Rt.may = false := by rw [List.all_eq_false]; exact ⟨r, HE.out, by simp [hmay]⟩
            simp [rputOk, this])
          have hcs := may_not hmay
          clear hmay
          obtain ⟨own, cpu, edge⟩ := r
          simp only at *
          rcases hcs with h | ⟨h, h'⟩ | ⟨h, h', h''⟩ | ⟨h, h', h'', h3⟩ | ⟨rfl, h, h'⟩ | ⟨rfl, rfl, rfl⟩
          case inr.inr.inr.inr.inl =>
            have e1 : (cpu != 0) = true := by rw [bne_iff_ne]; omega
            go_wp2
            all_goals (go_ret2; exact ⟨.inr ⟨HNo.out, rfl⟩, bal hb _⟩)
          all_goals
            go_wp2
            all_goals (go_ret2; exact ⟨.inr ⟨HNo.out, rfl⟩, bal hb _⟩)
        | true =>
          have HA : Hid ((l.take (k + 1)).all Rt.may = true) := Lib.hid (by rw [HT.out, List.all_append]; simp [hall.out, hmay])
          have HMx := Lib.hid (show 4 * k + 4 ≤ maxLen by unfold maxLen; omega)
          have HMy := Lib.hid (show (4 * k + 4) * 1 ≤ 140737488355328 by omega)
          have HB := Lib.hid (show r.bytes = [r.own + 1, r.cpu, edgeB r.edge, 0] from rfl)
          rcases may_own hmay with rfl | ⟨h1, h2, h3, h4⟩
          · clear hmay
            simp only [mR] at d0 d1 d2
            go_wp2_with (at_builtin; refine wpList_app u8_elem rfl (.tmp 51) (.tmp 60) rfl w.heap.size ((hown.alloc _).alloc _) rfl rfl (Rd.fresh _ _ _ 4 1 _ rfl) (by simp [Value.oneCell']) HMx.out HMy.out (by simp; omega) ?_; intro v5 w5 hown5 hb5 _; obtain ⟨A5, c5, rfl, _, _⟩ := own_slice hown5)
            go_roundw
            case rel =>
              refine ⟨k + 1, by omega, by go_num, HA.out, A5, c5, rfl, ?_, (bal' (bal hb _) _ (by simp; omega)).trans hb5⟩
              rw [HT.out, rBytes_snoc, List.flatMap_append]
              exact hown5
            case measure => simp [intOf]; omega
          · clear hmay
            have w0 : IntKind.u8.wrap (r.own + 1) = r.own + 1 := by rw [IntKind.wrap_u8]; omega
            have w1 : IntKind.u8.wrap r.cpu = r.cpu := by rw [IntKind.wrap_u8]; omega
            have e0 : (r.own == -1) = false := by rw [beq_eq_false_iff_ne]; omega
            have g1 : ¬ r.own < -1 := by omega
            have g2 : ¬ 15 < r.own := by omega
            have g3 : ¬ r.cpu < 0 := by omega
            have g4 : ¬ 31 < r.cpu := by omega
            obtain ⟨own, cpu, edge⟩ := r
            simp only at *
            cases edge
            all_goals
              go_wp2_with (at_builtin; refine wpList_app u8_elem rfl (.tmp 51) (.tmp 60) rfl w.heap.size ((hown.alloc _).alloc _) rfl rfl (Rd.fresh _ _ _ 4 1 _ rfl) (by simp [Value.oneCell']) HMx.out HMy.out (by simp; omega) ?_; intro v5 w5 hown5 hb5 _; obtain ⟨A5, c5, rfl, _, _⟩ := own_slice hown5)
              go_roundw
              case rel =>
                refine ⟨k + 1, by omega, by go_num, HA.out, A5, c5, rfl, ?_, (bal' (bal hb _) _ (by simp; omega)).trans hb5⟩
                rw [HT.out, rBytes_snoc, List.flatMap_append]
                exact hown5
              case measure => simp [intOf]; omega
      · obtain rfl : k = n := by omega
        rw [List.take_of_length_le (by rw [HL.out]; exact Nat.le_refl _)] at hown hall
        have HYes : Hid (rputOk l = true) := Lib.hid (by unfold rputOk; rw [hall.out, HL.out]; simpa using h256)
        go_wp2
        go_ret2
        exact ⟨.inl ⟨HYes.out, A', c', rfl, hown⟩, hb⟩
  · have HNo : Hid (rputOk l = false) := Lib.hid (by simp [rputOk, HL.out, h256])
    have h256' : 1020 < n := by omega
    clear h256
    go_enter Try.func27, Try.ntmps27
    go_wp2
    go_ret2
    exact ⟨.inr ⟨HNo.out, rfl⟩, Below.refl _ _⟩
end Go.Proofs.Ytnhlcfkjhacedaa
