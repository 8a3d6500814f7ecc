/- Chapter 29, the processors of a guest: all ended, a call. -/
import Derived.Test.YtebhfaadpalpbaaPsciE
namespace Go.Proofs.Ytebhfaadpalpbaa
set_option linter.unusedVariables false
open Go.RowKit Go.Sort

def offTo (l : List Vc) : Nat → List Vc
  | 0 => l
  | k + 1 => (offTo l k).modify k offV
theorem offTo_len (l : List Vc) : ∀ k, (offTo l k).length = l.length
  | 0 => rfl
  | k + 1 => by simp [offTo, offTo_len l k]
theorem offTo_get (l : List Vc) : ∀ k i, (offTo l k)[i]? = if i < k then l[i]?.map offV else l[i]?
  | 0, i => by simp [offTo]
  | k + 1, i => by
    rw [offTo, List.getElem?_modify, offTo_get l k i]
    by_cases h : k = i
    · subst h
      simp
    · by_cases h2 : i < k
      · rw [if_pos h2, if_pos (by omega)]
        simp [h]
      · rw [if_neg h2, if_neg (by omega)]
        simp [h]
theorem offTo_all (l : List Vc) : offTo l l.length = l.map offV := by
  apply List.ext_getElem?
  intro i
  rw [offTo_get, List.getElem?_map]
  by_cases h : i < l.length
  · rw [if_pos h]
  · rw [if_neg h, List.getElem?_eq_none (by omega)]
    rfl
theorem offTo_step (l : List Vc) (k : Nat) (d : Int) : setN ⟨offTo l k, d⟩ k false 0 0 = ⟨offTo l (k + 1), d⟩ := rfl
theorem PSto.down {w : World} {T : TypeId} {S : Nat → Prop} {g : Nat} {s : Pst} (h : PSto w T S g s) (hT : 76 ≠ T) (d : Int) : PSto (w.setCell ⟨g, 1, none⟩ (.int .i64 d)) T S g ⟨s.cs, d⟩ ∧ Near S w (w.setCell ⟨g, 1, none⟩ (.int .i64 d)) := by
  obtain ⟨v, hB, hg, ho⟩ := h
  refine ⟨⟨v, ?_, hg, ho.set _ ?_ _⟩, (Near.refl S w).setCell hg _⟩
  · simpa using hB.set_ 1 (.int .i64 d)
  · intro e
    obtain ⟨h1, h2⟩ := ho.1
    rcases h2 with ⟨rfl, h0⟩ | ⟨gw, cap, cur, rfl, _, hW, hnc, _⟩
    · simp [Value.ownBlock] at e
    · simp only [Value.ownBlock, Option.some.injEq] at e
      exact Blk.ne_ hW hB hT e.symm

set_option maxHeartbeats 2000000 in
theorem end_any (g : Nat) (S : Nat → Prop) (s : Pst) (d : Int) (w : World) (h : PSto w 89 S g s) (hn : s.cs.length ≤ 1000) :
    Calls Try.prog 37 #[.pointer (some ⟨g, 0, none⟩), .int .i64 d] w fun e w' => e = .returned (.int .i64 0) ∧ PSto w' 89 S g (endN s d) ∧ Near S w w' := by
  have HD := Lib.hid (h.down (by decide) d)
  have HE := Lib.hid (show endN s d = ⟨offTo s.cs s.cs.length, d⟩ by rw [offTo_all, endN])
  obtain ⟨v, hB, hg, ho⟩ := h
  obtain ⟨A, c, rfl, hc, hr⟩ := own_slice ho.1
  have hcl := hB.cell
  have hfz := hB.frozen
  clear hr ho hB
  have HL := Lib.hid (fun k => offTo_len s.cs k)
  obtain ⟨l, dn⟩ := s
  simp only at *
  generalize hl : l.length = n at *
  clear hl
  go_enter Try.func37, Try.ntmps37
  go_wp2
  refine wp_name ?_
  intro w1 hw1
  rw [← hw1] at HD
  clear hw1 hcl hfz
  go_loopw [5, 15] (fun _ i wr => ∃ k : Nat, k ≤ n ∧ i = .int .i64 k ∧ PSto wr 89 S g ⟨offTo l k, d⟩ ∧ Near S w wr) (fun _ i _ => n - (intOf i).toNat)
  case atStart => exact ⟨0, by omega, rfl, HD.out.1, HD.out.2⟩
  case round =>
    obtain ⟨k, hk, rfl, hp, hnr⟩ := hrel
    clear HD
    by_cases hlt : k < n
    · have HSet := Lib.hid (fun W hW => set_any g S ⟨offTo l k, d⟩ k false 0 0 W hW (by rw [HL.out]; exact hlt) (by rw [HL.out]; exact hn))
      rw [offTo_step] at HSet
      go_wp2_with (go_at_call 34; refine (HSet.out _ hp).mono ?_; rintro e w2 ⟨rfl, hp2, hn2⟩)
      go_roundw
      case rel => exact ⟨k + 1, by omega, by go_num, hp2, hnr.trans hn2⟩
      case measure => simp [intOf]; omega
    · obtain rfl : k = n := by omega
      go_wp2
      go_ret
      exact ⟨rfl, by rw [HE.out]; exact hp, hnr⟩
end Go.Proofs.Ytebhfaadpalpbaa
