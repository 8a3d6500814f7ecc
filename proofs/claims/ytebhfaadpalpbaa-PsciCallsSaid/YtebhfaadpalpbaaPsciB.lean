/- Chapter 29, the processors of a guest: found, by the program. -/
import Derived.Test.YtebhfaadpalpbaaPsciA
namespace Go.Proofs.Ytebhfaadpalpbaa
set_option linter.unusedVariables false
open Go.RowKit Go.Sort

def coreV (l : List Vc) (r : Option Nat) : Value := match r with
  | some i => .tuple #[.agg ((encV (l.getD i zV)) ++ [Value.int .i64 i]).toArray, .bool true]
  | none => .tuple #[.agg #[.int .i64 0, .bool false, .int .u64 0, .int .u64 0, .int .u64 0, .int .i64 0], .bool false]
set_option maxHeartbeats 2000000 in
theorem find_any (g : Nat) (S : Nat → Prop) (s : Pst) (cpu : Int) (w : World) (h : PSto w 89 S g s) (hn : s.cs.length ≤ 1000) :
    Calls Try.prog 32 #[.pointer (some ⟨g, 0, none⟩), .int .u64 cpu] w fun e w' => e = .returned (coreV s.cs (findN s.cs cpu)) ∧ Below w.heap.size w w' := by
  obtain ⟨v, hB, hg, ho⟩ := h
  obtain ⟨A, c, rfl, hc, hr⟩ := own_slice ho.1
  obtain ⟨l, down⟩ := s
  simp only at *
  have lB := hB.lt
  have hcl := hB.cell
  have HR := Lib.hid hr
  clear hr ho
  obtain ⟨r, hres⟩ : ∃ r, r = findN l cpu := ⟨_, rfl⟩
  rw [← hres]
  have HRes := Lib.hid hres
  clear hres
  generalize hL : l.length = n at *
  have HL := Lib.hid hL
  clear hL
  go_enter Try.func32, Try.ntmps32
  go_wp2
  refine wp_name ?_
  intro w1 hw1
  have hb1 : RowKit.Below w.heap.size w w1 := by rw [hw1]; exact bal (Below.refl _ _) _
  have hZ1 := Blk.new w 91 #[.int .i64 0, .bool false, .int .u64 0, .int .u64 0, .int .u64 0, .int .i64 0]
  rw [← hw1] at hZ1
  clear hw1
  go_loopw [6, 13] (fun _ i wr => ∃ k : Nat, k ≤ n ∧ i = .int .i64 k ∧ Hid (∀ j, (hj : j < k) → (hk : j < l.length) → IntKind.u64.wrap l[j].id ≠ cpu) ∧ Blk wr w.heap.size 91 #[.int .i64 0, .bool false, .int .u64 0, .int .u64 0, .int .u64 0, .int .i64 0] ∧ Below w.heap.size w wr) (fun _ i _ => n - (intOf i).toNat)
  case atStart => exact ⟨0, by omega, rfl, fun j hj => absurd hj (by omega), hZ1, hb1⟩
  case round =>
    obtain ⟨k, hk, rfl, hq, hZ, hb⟩ := hrel
    clear hZ1 hb1
    have lZ := hZ.lt
    have cZ := hZ.cell
    have fZ := hZ.frozen
    by_cases hlt : k < n
    · have hlt' : k < l.length := by rw [HL.out]; exact hlt
      obtain ⟨b, o, rfl, hbb, hcc⟩ := (HR.out.below hb).row (fun _ => rfl) hlt' HL.out
      have d0 := hcc 0 (by omega)
      have d1 := hcc 1 (by omega)
      have d2 := hcc 2 (by omega)
      have d3 := hcc 3 (by omega)
      have d4 := hcc 4 (by omega)
      simp only [encV, Nat.add_zero, List.getElem?_cons_zero, List.getElem?_cons_succ] at d0 d1 d2 d3 d4
      clear hcc
      by_cases hx : IntKind.u64.wrap l[k].id = cpu
      · have HF := Lib.hid (findN_hit hlt' hx (fun j hj => hq.out j hj (by omega)))
        have hx' : (IntKind.u64.wrap l[k].id == cpu) = true := by simpa using hx
        have HV := Lib.hid (show coreV l (some k) = .tuple #[.agg #[.int .i64 l[k].id, .bool l[k].on, .int .u64 l[k].pc, .int .u64 l[k].x0, .int .u64 l[k].sp, .int .i64 k], .bool true] by simp [coreV, encV, List.getD_eq_getElem?_getD, hlt'])
        clear hx
        generalize l[k] = v at *
        go_wp2
        refine bodyPost_ret (v := .tuple #[.agg #[.int .i64 v.id, .bool v.on, .int .u64 v.pc, .int .u64 v.x0, .int .u64 v.sp, .int .i64 k], .bool true]) (by simp [results, Try.results32, go_sem, cZ, lZ]) rfl ⟨by rw [HRes.out, HF.out, HV.out], ?_⟩
        repeat (with_reducible refine RowKit.Below.setCell ?_ (by simp) _)
        refine RowKit.Below.alloc ?_ (by simp; omega) _
        repeat (with_reducible refine RowKit.Below.setCell ?_ (by simp) _)
        exact hb
      · have hx' : (IntKind.u64.wrap l[k].id == cpu) = false := by simpa using hx
        have HX := Lib.hid hx
        clear hx
        go_wp2
        go_roundw
        case rel => exact ⟨k + 1, by omega, by go_num, fun j hj hk' => by
          rcases Nat.lt_or_ge j k with h1 | h1
          · exact hq.out j h1 hk'
          · obtain rfl : j = k := by omega
            exact HX.out, hZ.alloc _, hb.alloc hb.size _⟩
        case measure => simp [intOf]; omega
    · obtain rfl : k = n := by omega
      have HF := Lib.hid (findN_none (l := l) (cpu := cpu) (fun j hj => hq.out j (by rw [← HL.out]; exact hj) hj))
      go_wp2
      refine bodyPost_ret (v := .tuple #[.agg #[.int .i64 0, .bool false, .int .u64 0, .int .u64 0, .int .u64 0, .int .i64 0], .bool false]) (by simp [results, Try.results32, go_sem, cZ]) rfl ⟨by rw [HRes.out, HF.out]; rfl, ?_⟩
      repeat (with_reducible refine RowKit.Below.setCell ?_ (by simp) _)
      exact hb
end Go.Proofs.Ytebhfaadpalpbaa
