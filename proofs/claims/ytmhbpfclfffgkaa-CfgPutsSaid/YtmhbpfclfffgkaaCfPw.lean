/- Chapter 14: any configuration as bytes, or refused: the law's walk. -/
import Derived.Test.YtmhbpfclfffgkaaCfDp
import Derived.Test.YtmhbpfclfffgkaaCfAw
namespace Go.Proofs.Ytmhbpfclfffgkaa
set_option linter.unusedVariables false
set_option linter.unusedSimpArgs false
open Go.RowKit Go.Sort Go.ChangeShapes Go.WideShapes

set_option maxRecDepth 100000 in
set_option maxHeartbeats 4000000 in
theorem cfgPuts_any (x : Cf) (A A2 : Option Addr) (c c2 : Nat) (w : World) (hx : CfR w w.heap.size x A c A2 c2) :
    Calls Try.prog 6 #[.agg #[.int .u32 x.ver, .slice A x.gs.length c, .slice A2 x.cs.length c2]] w fun e w' => e = .returned (.bool true) ∧ Below w.heap.size w w' := by
  have HFew := Lib.hid (fun W (hb : Below w.heap.size w W) => few_conf hx W hb)
  have hC0 := Blk.new w 28 #[.int .u32 x.ver, .slice A x.gs.length c, .slice A2 x.cs.length c2]
  have hb0 := bal (Below.refl w.heap.size w) (.cells #[.int .u32 x.ver, .slice A x.gs.length c, .slice A2 x.cs.length c2] 28)
  rcases hf : fewN x.gs.length x.cs.length (x.gs.map toGd) with _ | _
  · rw [hf] at HFew
    generalize x.gs.length = n at *
    generalize x.cs.length = n2 at *
    clear hf hx
    go_enter Try.func6, Try.ntmps6
    go_upto_region 1 with (fail)
    generalize w.alloc (.cells #[.int .u32 x.ver, .slice A n c, .slice A2 n2 c2] 28) = w0 at *
    go_wp2_with (first
      | (go_at_call 12; refine (awake14_any _).mono ?_; rintro e w1 ⟨rfl, hb1⟩; have hC1 := hC0.kept hb1; have cC1 := hC1.cell; have hbl1 := hb0.trans (hb1.mono hb0.size))
      | (go_at_call 16; refine (HFew.out _ hbl1).mono ?_; rintro e w2 ⟨rfl, hb2⟩; have hbl2 := hbl1.trans (hb2.mono hbl1.size)))
    go_ret
    exact ⟨rfl, hbl2⟩
  · rw [hf] at HFew
    have hPO : PutOk x := few_yes hf
    have HPut := Lib.hid (fun W (hb : Below w.heap.size w W) => put_any x A c A2 c2 W ((hx.below hb).more hb.size) hPO)
    have HRut := Lib.hid (fun W (hb : Below w.heap.size w W) => rput_any x A c A2 c2 W ((hx.below hb).more hb.size) hPO)
    by_cases hE : putE (cData x) = 0
    · have HPut := Lib.hid (fun W (hb : Below w.heap.size w W) => (HPut.out W hb).mono (R' := fun e w' => ∃ (A3 : Option Addr) (c3 : Nat), e = .returned (.tuple #[.slice A3 (putB (cData x)).length c3, .int .i64 0]) ∧ w'.ownsRow W.heap.size 5 1 (.slice A3 (putB (cData x)).length c3) (putB (cData x)).length ((putB (cData x)).flatMap encB) ∧ Below W.heap.size W w') fun e w' h => by
        obtain ⟨h1, ⟨h2, _⟩ | ⟨_, A3, c3, h2, h3⟩⟩ := h
        · exact absurd hE h2
        · exact ⟨A3, c3, h2, h3, h1⟩)
      have HRut := Lib.hid (fun W (hb : Below w.heap.size w W) => (HRut.out W hb).mono (R' := fun e w' => ∃ (A3 : Option Addr) (c3 : Nat), e = .returned (.tuple #[.slice A3 (putB (cData x)).length c3, .int .i64 0]) ∧ w'.ownsRow W.heap.size 5 1 (.slice A3 (putB (cData x)).length c3) (putB (cData x)).length ((putB (cData x)).flatMap encB) ∧ Below W.heap.size W w') fun e w' h => by
        obtain ⟨h1, ⟨h2, _⟩ | ⟨_, A3, c3, h2, h3⟩⟩ := h
        · exact absurd hE h2
        · exact ⟨A3, c3, h2, h3, h1⟩)
      generalize putB (cData x) = pb at *
      obtain ⟨np, hnp⟩ : ∃ m, pb.length = m := ⟨_, rfl⟩
      rw [hnp] at HPut HRut
      have HN := Lib.hid hnp
      clear hf hx hPO hE hnp
      generalize x.gs.length = n at *
      generalize x.cs.length = n2 at *
      go_enter Try.func6, Try.ntmps6
      go_upto_region 1 with (fail)
      generalize w.alloc (.cells #[.int .u32 x.ver, .slice A n c, .slice A2 n2 c2] 28) = w0 at *
      go_wp2_with (first
        | (go_at_call 12; refine (awake14_any _).mono ?_; rintro e w1 ⟨rfl, hb1⟩; have hC1 := hC0.kept hb1; have cC1 := hC1.cell; have hbl1 := hb0.trans (hb1.mono hb0.size))
        | (go_at_call 16; refine (HFew.out _ hbl1).mono ?_; rintro e w2 ⟨rfl, hb2⟩; have hbl2 := hbl1.trans (hb2.mono hbl1.size); have hC2 := hC1.kept hb2; have cC2 := hC2.cell)
        | (go_at_call 21; refine (HPut.out _ hbl2).mono ?_; rintro e w3 ⟨A3, c3, rfl, hown3, hb3⟩; have hbl3 := hbl2.trans (hb3.mono hbl2.size); have hC3 := hC2.kept hb3; have cC3 := hC3.cell)
        | (go_at_call 17; refine (HRut.out _ hbl3).mono ?_; rintro e w4 ⟨A4, c4, rfl, hown4, hb4⟩; have hbl4 := hbl3.trans (hb4.mono hbl3.size); have s1 := conv_str (Rd.of_own (own_kept hown3 hb4)) HN.out c3; have s2 := conv_str (Rd.of_own hown4) HN.out c4; clear hown3 hown4))
      go_ret
      exact ⟨rfl, hbl4⟩
    · have HPut := Lib.hid (fun W (hb : Below w.heap.size w W) => (HPut.out W hb).mono (R' := fun e w' => e = .returned (.tuple #[.slice none 0 0, .int .i64 (putE (cData x))]) ∧ Below W.heap.size W w') fun e w' h => by
        obtain ⟨h1, ⟨_, h2⟩ | ⟨h2, _⟩⟩ := h
        · exact ⟨h2, h1⟩
        · exact absurd h2 hE)
      have HRut := Lib.hid (fun W (hb : Below w.heap.size w W) => (HRut.out W hb).mono (R' := fun e w' => e = .returned (.tuple #[.slice none 0 0, .int .i64 (putE (cData x))]) ∧ Below W.heap.size W w') fun e w' h => by
        obtain ⟨h1, ⟨_, h2⟩ | ⟨h2, _⟩⟩ := h
        · exact ⟨h2, h1⟩
        · exact absurd h2 hE)
      generalize putE (cData x) = E at *
      have hd : (E == E) = true := by simp
      clear hf hx hPO hE
      generalize x.gs.length = n at *
      generalize x.cs.length = n2 at *
      go_enter Try.func6, Try.ntmps6
      go_upto_region 1 with (fail)
      generalize w.alloc (.cells #[.int .u32 x.ver, .slice A n c, .slice A2 n2 c2] 28) = w0 at *
      go_wp2_with (first
        | (go_at_call 12; refine (awake14_any _).mono ?_; rintro e w1 ⟨rfl, hb1⟩; have hC1 := hC0.kept hb1; have cC1 := hC1.cell; have hbl1 := hb0.trans (hb1.mono hb0.size))
        | (go_at_call 16; refine (HFew.out _ hbl1).mono ?_; rintro e w2 ⟨rfl, hb2⟩; have hbl2 := hbl1.trans (hb2.mono hbl1.size); have hC2 := hC1.kept hb2; have cC2 := hC2.cell)
        | (go_at_call 21; refine (HPut.out _ hbl2).mono ?_; rintro e w3 ⟨rfl, hb3⟩; have hbl3 := hbl2.trans (hb3.mono hbl2.size); have hC3 := hC2.kept hb3; have cC3 := hC3.cell)
        | (go_at_call 17; refine (HRut.out _ hbl3).mono ?_; rintro e w4 ⟨rfl, hb4⟩; have hbl4 := hbl3.trans (hb4.mono hbl3.size); have s1 := conv_str (l := []) (Rd.of_own (World.ownsRow_nil w4 0 5 1)) rfl 0))
      go_ret
      exact ⟨rfl, hbl4⟩
end Go.Proofs.Ytmhbpfclfffgkaa
