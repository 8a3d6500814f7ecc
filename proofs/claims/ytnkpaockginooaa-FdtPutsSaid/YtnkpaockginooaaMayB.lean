/- fdt.Check walked. -/
import Derived.Test.YtnkpaockginooaaMayA
namespace Go.Proofs.Ytnkpaockginooaa
set_option linter.unusedVariables false
set_option linter.unusedSimpArgs false
open Go.RowKit Go.Sort

/-- Whether a tree may be. -/
noncomputable def mayT (t : Tr) : Bool := (mayF 8 t (0, 0)).isSome
theorem check_any (k : Nat) (t : Tr) (cs : List Value) (w : World) (hT : TrOk w w.heap.size k t cs) (hL : LensF k t) : Calls Try.prog 17 #[.agg cs.toArray] w fun e w' => e = .returned (.bool (mayT t)) ∧ Below w.heap.size w w' := by
  obtain ⟨sn, K1, n1, cc1, K2, n2, cc2, hv⟩ : ∃ (sn : ByteArray) (K1 : Option Addr) (n1 cc1 : Nat) (K2 : Option Addr) (n2 cc2 : Nat), cs = [.string sn, .slice K1 n1 cc1, .slice K2 n2 cc2] := by
    cases k with
    | zero => exact hT.elim
    | succ k =>
      obtain ⟨_, _, _, _, _, _, _, e, _⟩ := hT
      exact ⟨_, _, _, _, _, _, _, e⟩
  subst hv
  have hB := Blk.new (w.alloc (.cells #[.string sn, .slice K1 n1 cc1, .slice K2 n2 cc2] 25)) 82 #[.int .i64 0, .int .i64 0]
  rw [World.size_alloc] at hB
  have hb := (bal (bal (Below.refl w.heap.size w) (.cells #[.string sn, .slice K1 n1 cc1, .slice K2 n2 cc2] 25)) (.cells #[.int .i64 0, .int .i64 0] 82))
  have HM := Lib.hid (may_any 8 k t _ 1 0 0 _ w.heap.size _ (by omega) (by rfl) (hT.below hb) hL (by omega) hB (by omega) (by omega) (by omega) (by omega))
  have HB := Lib.hid hb
  obtain ⟨r, hr⟩ : ∃ r, mayT t = r := ⟨_, rfl⟩
  rw [hr]
  have HR := Lib.hid hr
  clear hB hb hr hT hL
  go_enter Try.func17, Try.ntmps17
  go_wp2_with (go_at_call 40; refine HM.out.mono ?_; rintro e w3 ⟨b, rfl, hn3, hbq, _⟩; have hbr : b = r := (hbq.trans HR.out); subst hbr; clear hbq)
  go_ret
  exact ⟨rfl, HB.out.trans (hn3.below (fun i hi => by omega) (by simp; omega))⟩
end Go.Proofs.Ytnkpaockginooaa
