/- Chapter 29, the processors of a guest: found. -/
import Derived.Test.YtebhfaadpalpbaaPsciP
import Derived.Test.YtebhfaadpalpbaaNear
namespace Go.Proofs.Ytebhfaadpalpbaa
set_option linter.unusedVariables false
open Go.RowKit Go.Sort

/-- Processors in memory (the program's state and the document's are alike but for their type). -/
def PSto (w : World) (T : TypeId) (S : Nat → Prop) (g : Nat) (s : Pst) : Prop := ∃ v, Blk w g T #[v, .int .i64 s.down] ∧ S g ∧ OwnS w S 76 5 v s.cs.length (s.cs.flatMap encV)
def idxN : Option Nat → Int
  | some i => i
  | none => -1
theorem findN_hit {l : List Vc} {cpu : Int} {k : Nat} (hk : k < l.length) (h : IntKind.u64.wrap l[k].id = cpu) (hb : ∀ j, (hj : j < k) → IntKind.u64.wrap (l[j]'(by omega)).id ≠ cpu) : findN l cpu = some k := by
  unfold findN
  rw [List.findIdx?_eq_some_iff_getElem]
  exact ⟨hk, by simpa using h, fun j hj => by simpa using hb j hj⟩
theorem findN_none {l : List Vc} {cpu : Int} (h : ∀ j, (hj : j < l.length) → IntKind.u64.wrap l[j].id ≠ cpu) : findN l cpu = none := by
  unfold findN
  rw [List.findIdx?_eq_none_iff]
  intro v hv
  obtain ⟨j, hj, rfl⟩ := List.getElem_of_mem hv
  simpa using h j hj

set_option maxHeartbeats 2000000 in
theorem refFind_any (g : Nat) (S : Nat → Prop) (s : Pst) (cpu : Int) (w : World) (h : PSto w 71 S g s) (hn : s.cs.length ≤ 1000) :
    Calls Try.prog 41 #[.pointer (some ⟨g, 0, none⟩), .int .u64 cpu] w fun e w' => e = .returned (.int .i64 (idxN (findN s.cs cpu))) ∧ w = w' := by
  obtain ⟨v, hB, hg, ho⟩ := h
  obtain ⟨A, c, rfl, hc, hr⟩ := own_slice ho.1
  obtain ⟨l, down⟩ := s
  simp only at *
  have hcl := hB.cell
  have HN := Lib.hid (rfl : l.length = l.length)
  have HR := Lib.hid hr
  clear hr ho hB
  obtain ⟨r, hres⟩ : ∃ r : Int, r = idxN (findN l cpu) := ⟨_, rfl⟩
  rw [← hres]
  have HRes := Lib.hid hres
  clear hres
  generalize hL : l.length = n at *
  have HL := Lib.hid hL
  clear hL
  go_enter Try.func41, Try.ntmps41
  go_wp2
  go_loop [5, 11] (fun _ i => ∃ k : Nat, k ≤ n ∧ i = .int .i64 k ∧ Hid (∀ j, (hj : j < k) → (hk : j < l.length) → IntKind.u64.wrap l[j].id ≠ cpu)) (fun _ i => n - (intOf i).toNat)
  case atStart => exact ⟨0, by omega, rfl, fun j hj => absurd hj (by omega)⟩
  case round =>
    obtain ⟨k, hk, rfl, hq⟩ := hrel
    by_cases hlt : k < n
    · have hlt' : k < l.length := by rw [HL.out]; exact hlt
      obtain ⟨b, o, rfl, hb, hcc⟩ := HR.out.row (fun _ => rfl) hlt' HL.out
      have d := hcc 0 (by omega)
      simp only [encV, Nat.add_zero, List.getElem?_cons_zero] at d
      clear hcc
      by_cases hx : IntKind.u64.wrap l[k].id = cpu
      · have HF := Lib.hid (findN_hit hlt' hx (fun j hj => hq.out j hj (by omega)))
        have hx' : (IntKind.u64.wrap l[k].id == cpu) = true := by simpa using hx
        clear hx
        go_wp2
        go_ret
        exact ⟨by rw [HRes.out, HF.out]; rfl, rfl⟩
      · have hx' : (IntKind.u64.wrap l[k].id == cpu) = false := by simpa using hx
        have HX := Lib.hid hx
        clear hx
        go_wp2
        go_round
        case rel => exact ⟨k + 1, by omega, by go_num, fun j hj hk' => by
          rcases Nat.lt_or_ge j k with h1 | h1
          · exact hq.out j h1 hk'
          · obtain rfl : j = k := by omega
            exact HX.out⟩
        case measure => simp [intOf]; omega
    · obtain rfl : k = n := by omega
      have HF := Lib.hid (findN_none (l := l) (cpu := cpu) (fun j hj => hq.out j (by rw [← HL.out]; exact hj) hj))
      go_wp2
      go_ret
      exact ⟨by rw [HRes.out, HF.out]; rfl, rfl⟩
end Go.Proofs.Ytebhfaadpalpbaa
