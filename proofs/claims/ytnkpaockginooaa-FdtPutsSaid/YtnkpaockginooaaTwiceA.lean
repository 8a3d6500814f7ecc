/- Whether a text is there twice (a map of the call's own); walked. -/
import Derived.Test.YtnkpaockginooaaBytes
import Derived.Test.YtnkpaockginooaaNear
import Derived.Maps.OwnOps
import Derived.Maps.OwnSet
import Derived.Deep.CutRange
namespace Go.Proofs.Ytnkpaockginooaa
set_option linter.unusedVariables false
set_option linter.unusedSimpArgs false
open Go.RowKit Go.Sort Go.Maps Go.WideShapes Go.ChangeShapes

def encS (s : ByteArray) : List Value := [.string s]
theorem law_s : Keyed Try.prog 9 := string_keyed Try.underlying9
theorem zero_int (w : World) : (zeroValue 3).run Try.prog w = .ok (.int .i64 0) w := by kernel_rfl
def kl (s : ByteArray) : Lit := .string s.data.toList
theorem kl_inj {s t : ByteArray} (h : kl s = kl t) : s = t := by
  unfold kl at h
  injection h with h
  apply ByteArray.ext
  exact Array.toList_inj.1 h
theorem kl_key (s : ByteArray) : Go.WideAt.IsKeyLit (kl s) := by
  unfold kl
  first | trivial | exact Or.inr (Or.inr ⟨_, rfl⟩) | simp [Go.WideAt.IsKeyLit]
theorem key_s (s : ByteArray) (h : s.size ≤ maxLen) : keyOf Try.prog 9 (.string s) = some (kl s) := Go.WideMaps.keyOf_string_mk Try.underlying9 h
set_option maxRecDepth 100000 in
set_option maxHeartbeats 2000000 in
theorem twice_any (A : Option Addr) (n c : Nat) (l : List ByteArray) (hl : l.length = n) (hn : n ≤ 1000000) (hs : ∀ s ∈ l, s.size ≤ maxLen) (w : World) (hr : Rd w w.heap.size 1 A n (l.flatMap encS)) :
    Calls Try.prog 87 #[.slice A n c] w fun e w' => ∃ b, e = .returned (.bool b) ∧ (b = true ↔ ¬ l.Nodup) ∧ Below w.heap.size w w' := by
  have hmm := @run_makeMap Try.prog
  have HL := Lib.hid hl
  have HR := Lib.hid hr
  have HS := Lib.hid hs
  clear hl hr hs
  go_enter Try.func87, Try.ntmps87
  go_wp2_with fail
  go_loopw [5, 9] (fun _ i wr => ∃ (k : Nat) (D : DataW Unit), k ≤ n ∧ i = .int .i64 k ∧ wr.ownsMap Try.prog 9 (plainElem Try.prog 3) w.heap.size k D ∧ Hid (l.take k).Nodup ∧ Hid (∀ s, (s ∈ l.take k → D.atKey (kl s) (.lit (.int .i64 0)) = .lit (.int .i64 1)) ∧ (s ∉ l.take k → D.atKey (kl s) (.lit (.int .i64 0)) = .lit (.int .i64 0))) ∧ Below w.heap.size w wr) (fun _ i _ => n - (intOf i).toNat)
  case atStart => exact ⟨0, _, Nat.zero_le _, rfl, World.ownsMap_made _ _ _ _, by simp [Hid], fun s => ⟨fun h => by simp at h, fun _ => by simp [DataW.atKey]⟩, (Below.refl _ _).alloc (Nat.le_refl _) _⟩
  case round =>
    obtain ⟨k, D, hk, rfl, hown, hnd, hD, hnx⟩ := hrel
    by_cases hlt : k < n
    · obtain ⟨s, hp⟩ : ∃ p, l[k]? = some p := ⟨_, List.getElem?_eq_getElem (by rw [HL.out]; exact hlt)⟩
      obtain ⟨b1, o1, rfl, hb1, hd1⟩ := (HR.out.keep (fun p hp => hnx.cell hp)).row (enc := encS) (fun _ => rfl) (k := k) (by rw [HL.out]; exact hlt) HL.out
      have hg1 : l[k]'(by rw [HL.out]; exact hlt) = s := (List.getElem?_eq_some_iff.1 hp).2
      have d0 := hd1 0 (by omega)
      rw [hg1] at d0
      simp only [encS, Nat.add_zero, Nat.mul_one, List.getElem?_cons_zero] at d0
      have hkey := key_s s (HS.out s (List.mem_of_getElem? hp))
      have HP := Lib.hid hp
      clear hd1 hg1 hp
      have htk : l.take (k + 1) = l.take k ++ [s] := by
        have := List.take_succ_eq_append_getElem (l := l) (i := k) (by rw [HL.out]; exact hlt)
        rw [this]
        have hg1 : l[k]'(by rw [HL.out]; exact hlt) = s := (List.getElem?_eq_some_iff.1 HP.out).2
        rw [hg1]
      have HTk := Lib.hid htk
      clear htk
      by_cases hmem : s ∈ l.take k
      · have hv := (hD.out s).1 hmem
        have hdup : ¬ l.Nodup := fun h => by
          have h2 : (l.take (k + 1)).Nodup := h.sublist (List.take_sublist _ _)
          rw [HTk.out, List.nodup_append] at h2
          exact h2.2.2 s hmem s (List.mem_singleton.2 rfl) rfl
        have HM := Lib.hid hmem
        clear hmem
        go_wp2_with (first
          | (at_lookup; first
            | (refine wpList_lookup_own_int _ rfl _ _ 176 rfl 9 3 .i64 law_s Try.underlying176 Try.underlying3 (zero_int _) w.heap.size k _ rfl hown _ _ rfl hkey ?_; intro cc hat hwc; rw [hv] at hat; simp only [DataW.lit.injEq, Lit.int.injEq, true_and] at hat; subst hat)
            | (refine wpList_lookup_own_int _ rfl _ _ 176 rfl 9 3 .i64 law_s Try.underlying176 Try.underlying3 (zero_int _) w.heap.size (k + 1) _ rfl hown1 _ _ rfl hkey ?_; intro c2 hat2 hwc2; rw [atKey_put_same (hown.tidy law_s).isMap (kl_key s)] at hat2; simp only [DataW.lit.injEq, Lit.int.injEq, true_and] at hat2; subst hat2))
          | (at_mapUpdate; refine wpList_mapUpdate_own _ rfl _ _ _ 176 rfl 9 3 law_s Try.underlying176 _ w.heap.size k _ rfl hown (by unfold maxLen; omega) _ _ _ rfl rfl hkey _ [] (plainElem_int Try.underlying3 (by decide)) ?_; intro w1 hown1 hgrow1; have hg2 := hown1.lookup_int law_s Try.underlying176 Try.underlying3 (zero_int _) hkey; obtain ⟨c2, hrun2, hat2, _⟩ := hg2; rw [atKey_put_same (hown.tidy law_s).isMap (kl_key s)] at hat2; simp only [DataW.lit.injEq, Lit.int.injEq, true_and] at hat2; subst hat2))
        have hnx1 := hnx.grown hgrow1 hnx.size (fun j hj => by cases hj; exact Nat.le_refl _)
        go_ret
        exact ⟨true, rfl, by simp [hdup], hnx1⟩
      · have hv := (hD.out s).2 hmem
        have HM := Lib.hid hmem
        clear hmem
        go_wp2_with (first
          | (at_lookup; first
            | (refine wpList_lookup_own_int _ rfl _ _ 176 rfl 9 3 .i64 law_s Try.underlying176 Try.underlying3 (zero_int _) w.heap.size k _ rfl hown _ _ rfl hkey ?_; intro cc hat hwc; rw [hv] at hat; simp only [DataW.lit.injEq, Lit.int.injEq, true_and] at hat; subst hat)
            | (refine wpList_lookup_own_int _ rfl _ _ 176 rfl 9 3 .i64 law_s Try.underlying176 Try.underlying3 (zero_int _) w.heap.size (k + 1) _ rfl hown1 _ _ rfl hkey ?_; intro c2 hat2 hwc2; rw [atKey_put_same (hown.tidy law_s).isMap (kl_key s)] at hat2; simp only [DataW.lit.injEq, Lit.int.injEq, true_and] at hat2; subst hat2))
          | (at_mapUpdate; refine wpList_mapUpdate_own _ rfl _ _ _ 176 rfl 9 3 law_s Try.underlying176 _ w.heap.size k _ rfl hown (by unfold maxLen; omega) _ _ _ rfl rfl hkey _ [] (plainElem_int Try.underlying3 (by decide)) ?_; intro w1 hown1 hgrow1; have hg2 := hown1.lookup_int law_s Try.underlying176 Try.underlying3 (zero_int _) hkey; obtain ⟨c2, hrun2, hat2, _⟩ := hg2; rw [atKey_put_same (hown.tidy law_s).isMap (kl_key s)] at hat2; simp only [DataW.lit.injEq, Lit.int.injEq, true_and] at hat2; subst hat2))
        have hnx1 := hnx.grown hgrow1 hnx.size (fun j hj => by cases hj; exact Nat.le_refl _)
        have hmap := (hown.tidy law_s).isMap
        go_roundw
        case rel =>
          refine ⟨k + 1, _, by omega, by go_num, hown1, ?_, fun s' => ?_, hnx1⟩
          · show (l.take (k + 1)).Nodup
            rw [HTk.out, List.nodup_append]
            exact ⟨hnd.out, (by simp), fun a ha b hb => by
              rw [List.mem_singleton] at hb
              subst hb
              rintro rfl
              exact HM.out ha⟩
          · rw [HTk.out]
            by_cases he : s' = s
            · subst he
              exact ⟨fun _ => atKey_put_same hmap (kl_key _) _ _, fun h => absurd (List.mem_append_right _ (List.mem_singleton.2 rfl)) h⟩
            · have ho := hD.out s'
              have e1 : s' ∈ l.take k ++ [s] ↔ s' ∈ l.take k := by simp [he]
              rw [e1, atKey_put_other (fun h => he (kl_inj h))]
              exact ho
        case measure => simp [intOf]; omega
    · obtain rfl : k = n := by omega
      go_wp2_with fail
      go_ret
      exact ⟨_, rfl, by
        have := hnd.out
        rw [List.take_of_length_le (by rw [HL.out]; exact Nat.le_refl _)] at this
        simp [this], hnx⟩
end Go.Proofs.Ytnkpaockginooaa
