/- Chapter 29, the law PsciCalls: its walk. -/
import Derived.Test.YtebhfaadpalpbaaPsciN
import Derived.Test.YtebhfaadpalpbaaRegH
namespace Go.Proofs.Ytebhfaadpalpbaa
set_option linter.unusedVariables false
set_option linter.unusedSimpArgs false
open Go.RowKit Go.Sort Go.ChangeShapes Go.WideShapes

def PcInv (W : World) (B0 B1 B2 g1 g2 : Nat) (wr : World) : Prop :=
  ∃ s : Pst, s.cs.length ≤ 1000 ∧ PSto wr 89 (fun i => B0 ≤ i ∧ i < B1) g1 s ∧ PSto wr 71 (fun i => B1 ≤ i ∧ i < B2) g2 s ∧ Below W.heap.size W wr ∧ B2 ≤ wr.heap.size ∧ W.heap.size ≤ B0 ∧ B0 ≤ B1 ∧ B1 ≤ B2
set_option maxRecDepth 100000 in
set_option maxHeartbeats 8000000 in
theorem psciCalls_any (A A2 : Option Addr) (n c m c2 : Nat) (l : List Vc) (l2 : List Kl) (hl : l.length = n) (hl2 : l2.length = m) (w : World) (hr : Rd w w.heap.size 5 A n (l.flatMap encV)) (hr2 : Rd w w.heap.size 5 A2 m (l2.flatMap encK))
    (hm : n ≤ 9223372036854775807) (hm2 : m ≤ 9223372036854775807) :
    Calls Try.prog 7 #[.slice A n c, .slice A2 m c2] w fun e w' => e = .returned (.bool true) ∧ Below w.heap.size w w' := by
  have HL := Lib.hid hl
  have HL2 := Lib.hid hl2
  have HR := Lib.hid hr
  have HR2 := Lib.hid hr2
  clear hl hl2 hr hr2
  by_cases h : n ≤ 40 ∧ m ≤ 40
  · obtain ⟨h40, h41⟩ := h
    have HLN := Lib.hid (show (newN l).length ≤ 1000 from Nat.le_trans (newN_len l) (by rw [HL.out]; omega))
    go_enter Try.func7, Try.ntmps7
    go_wp2_with (first
      | (go_at_call 12; refine (awake29_any _).mono ?_; rintro e w0 ⟨rfl, hb0⟩; have hr0 := HR.out.below hb0)
      | (go_at_call 13; refine (new_any A n _ l _ HL.out (by omega) (hr0.more hb0.size)).mono ?_; rintro e w1 ⟨g, rfl, hp1, hb1⟩)
      | (go_at_call 23; refine (newState_any A n _ l _ HL.out (by omega) ((hr0.below (hb1.mono hb0.size)).more (Nat.le_trans hb0.size hb1.size))).mono ?_; rintro e w2 ⟨g2, rfl, hp2, hb2⟩))
    have hI0 : PcInv w w0.heap.size w1.heap.size w2.heap.size g g2 w2 :=
      ⟨_, HLN.out, hp1.bound.kept hb2, hp2.bound, hb0.trans ((hb1.trans (hb2.mono hb1.size)).mono hb0.size), Nat.le_refl _, hb0.size, hb1.size, hb2.size⟩
    generalize w0.heap.size = B0 at hI0
    generalize w1.heap.size = B1 at hI0
    generalize w2.heap.size = B2 at hI0
    clear hp1 hp2 hb0 hb1 hb2 hr0
    go_loopw [25] (fun i wr => ∃ k : Nat, k ≤ m ∧ i = .int .i64 k ∧ PcInv w B0 B1 B2 g g2 wr) (fun i _ => m - (intOf i).toNat)
    case atStart => exact ⟨0, by omega, rfl, hI0⟩
    case round =>
      obtain ⟨k, hk, rfl, hInv⟩ := hrel
      clear hI0
      obtain ⟨s, hlen, hp, hr, hb, hz, hB0, hB1, hB2⟩ := hInv
      by_cases hlt : k < m
      · obtain ⟨b, o, rfl, hbB, hcx⟩ := (HR2.out.below hb).row (fun _ => rfl) (k := k) (by rw [HL2.out]; exact hlt) HL2.out
        have d0 := hcx 0 (by omega)
        have d1 := hcx 1 (by omega)
        have d2 := hcx 2 (by omega)
        have d3 := hcx 3 (by omega)
        have d4 := hcx 4 (by omega)
        simp only [encK, Nat.add_zero, List.getElem?_cons_zero, List.getElem?_cons_succ] at d0 d1 d2 d3 d4
        generalize l2[k]'(by rw [HL2.out]; exact hlt) = x at *
        clear hcx
        have HC1 := Lib.hid (fun W hW => call_any g (fun i => B0 ≤ i ∧ i < B1) s x.cpu x.fn x.a x.b x.c W hW hlen)
        have HC2 := Lib.hid (fun W hW => rcall_any g2 (fun i => B1 ≤ i ∧ i < B2) s x.cpu x.fn x.a x.b x.c W hW hlen)
        have hlen2 := callN_len s x.cpu x.fn x.a x.b x.c
        generalize hres : callN s x.cpu x.fn x.a x.b x.c = r at *
        obtain ⟨ans, s2⟩ := r
        clear hres
        simp only at hlen2 HC1 HC2
        have hlen3 : s2.cs.length ≤ 1000 := by omega
        have HY := Lib.hid (fun W hW => cpus_any g (fun i => B0 ≤ i ∧ i < B1) s2 W hW hlen3)
        have HDn := Lib.hid (fun W hW => down_any g (fun i => B0 ≤ i ∧ i < B1) s2 W hW)
        clear hlen hlen2
        go_wp2_with fail
        refine wp_name ?_
        intro wx hwx
        have hbw : RowKit.Below wr.heap.size wr wx := by rw [hwx]; exact bal (Below.refl _ _) _
        have hBx : Blk wx wr.heap.size 68 #[.int .i64 x.cpu, .int .u32 x.fn, .int .u64 x.a, .int .u64 x.b, .int .u64 x.c] := by rw [hwx]; exact Blk.new _ _ _
        have hpx := hp.kept hbw
        have hrx := hr.kept hbw
        have hbx := hb.trans (hbw.mono hb.size)
        have hzx := Nat.le_trans hz hbw.size
        clear hwx d0 d1 d2 d3 d4 hp hr hb hbw
        have hBd := hBx.drew
        have hpd := hpx.kept (below_drewN (Below.refl _ _) 1)
        have hrd := hrx.kept (below_drewN (Below.refl _ _) 1)
        have hbd := hbx.drew
        have cB := hBx.cell
        have hS1 : (fun w' : World => ∀ j, w'.cell? ⟨wr.heap.size, j, none⟩ = (#[.int .i64 x.cpu, .int .u32 x.fn, .int .u64 x.a, .int .u64 x.b, .int .u64 x.c] : Array Value)[j]?) wx.drew := hBd.cell
        refine wp_region_held_drew (S := fun w' : World => ∀ j, w'.cell? ⟨wr.heap.size, j, none⟩ = (#[.int .i64 x.cpu, .int .u32 x.fn, .int .u64 x.a, .int .u64 x.b, .int .u64 x.c] : Array Value)[j]?) (by kernel_rfl) hS1 (fun hHeld => ?_)
        refine wpAnyH_take (i := 0) (v := ?v0) rfl (by kernel_rfl) (by kernel_rfl) (by kernel_rfl) (fun _ _ _ h => h) (Or.inl ⟨by kernel_rfl, ?hy0⟩) hS1 ?rest0
        case hy0 =>
          intro w hSw
          (try dsimp only at hSw)
          go_simp
          first | done | with_reducible rfl
        (try simp only [Act.put, List.setIfInBounds_toArray, List.set_cons_succ])
        refine wpAnyH_take (i := 1) (v := ?v1) rfl (by kernel_rfl) (by kernel_rfl) (by kernel_rfl) (fun _ _ _ h => h) (Or.inl ⟨by kernel_rfl, ?hy1⟩) hS1 ?rest1
        case hy1 =>
          intro w hSw
          (try dsimp only at hSw)
          go_simp
          first | done | with_reducible rfl
        (try simp only [Act.put, List.setIfInBounds_toArray, List.set_cons_zero, List.set_cons_succ])
        refine wpAnyH_take (i := 2) (v := ?v2) rfl (by kernel_rfl) (by kernel_rfl) (by kernel_rfl) (fun _ _ _ h => h) (Or.inl ⟨by kernel_rfl, ?hy2⟩) hS1 ?rest2
        case hy2 =>
          intro w hSw
          (try dsimp only at hSw)
          go_simp
          first | done | with_reducible rfl
        (try simp only [Act.put, List.setIfInBounds_toArray, List.set_cons_zero, List.set_cons_succ])
        refine wpAnyH_take (i := 3) (v := ?v3) rfl (by kernel_rfl) (by kernel_rfl) (by kernel_rfl) (fun _ _ _ h => h) (Or.inl ⟨by kernel_rfl, ?hy3⟩) hS1 ?rest3
        case hy3 =>
          intro w hSw
          (try dsimp only at hSw)
          go_simp
          first | done | with_reducible rfl
        (try simp only [Act.put, List.setIfInBounds_toArray, List.set_cons_zero, List.set_cons_succ])
        refine wpAnyH_take (i := 4) (v := ?v4) rfl (by kernel_rfl) (by kernel_rfl) (by kernel_rfl) (fun _ _ _ h => h) (Or.inl ⟨by kernel_rfl, ?hy4⟩) hS1 ?rest4
        case hy4 =>
          intro w hSw
          (try dsimp only at hSw)
          go_simp
          first | done | with_reducible rfl
        (try simp only [Act.put, List.setIfInBounds_toArray, List.set_cons_zero, List.set_cons_succ])
        refine wpAnyH_take (i := 5) (v := ?v5) rfl (by kernel_rfl) (by kernel_rfl) (by kernel_rfl) (fun _ _ _ h => h) (Or.inl ⟨by kernel_rfl, ?hy5⟩) hS1 ?rest5
        case hy5 =>
          intro w hSw
          (try dsimp only at hSw)
          go_simp
          first | done | with_reducible rfl
        (try simp only [Act.put, List.setIfInBounds_toArray, List.set_cons_zero, List.set_cons_succ])
        refine wpAnyH_take (i := 6) (v := ?v6) rfl (by kernel_rfl) (by kernel_rfl) (by kernel_rfl) (fun _ _ _ h => h) (Or.inl ⟨by kernel_rfl, ?hy6⟩) hS1 ?rest6
        case hy6 =>
          intro w hSw
          (try dsimp only at hSw)
          go_simp
          first | done | with_reducible rfl
        (try simp only [Act.put, List.setIfInBounds_toArray, List.set_cons_zero, List.set_cons_succ])
        refine wpAnyH_take (i := 7) (v := ?v7) rfl (by kernel_rfl) (by kernel_rfl) (by kernel_rfl) (fun _ _ _ h => h) (Or.inl ⟨by kernel_rfl, ?hy7⟩) hS1 ?rest7
        case hy7 =>
          intro w hSw
          (try dsimp only at hSw)
          go_simp
          first | done | with_reducible rfl
        (try simp only [Act.put, List.setIfInBounds_toArray, List.set_cons_zero, List.set_cons_succ])
        refine wpAnyH_take (i := 8) (v := ?v8) rfl (by kernel_rfl) (by kernel_rfl) (by kernel_rfl) (fun _ _ _ h => h) (Or.inl ⟨by kernel_rfl, ?hy8⟩) hS1 ?rest8
        case hy8 =>
          intro w hSw
          (try dsimp only at hSw)
          go_simp
          first | done | with_reducible rfl
        (try simp only [Act.put, List.setIfInBounds_toArray, List.set_cons_zero, List.set_cons_succ])
        refine wpAnyH_take (i := 9) (v := ?v9) rfl (by kernel_rfl) (by kernel_rfl) (by kernel_rfl) (fun _ _ _ h => h) (Or.inl ⟨by kernel_rfl, ?hy9⟩) hS1 ?rest9
        case hy9 =>
          intro w hSw
          (try dsimp only at hSw)
          go_simp
          first | done | with_reducible rfl
        (try simp only [Act.put, List.setIfInBounds_toArray, List.set_cons_zero, List.set_cons_succ])
        refine wpAnyH_take (i := 10) (v := ?v10) rfl (by kernel_rfl) (by kernel_rfl) (by kernel_rfl) (fun _ _ _ h => h) (Or.inl ⟨by kernel_rfl, ?hy10⟩) hS1 ?rest10
        case hy10 =>
          intro w hSw
          (try dsimp only at hSw)
          go_simp
          first | done | with_reducible rfl
        (try simp only [Act.put, List.setIfInBounds_toArray, List.set_cons_zero, List.set_cons_succ])
        refine wpAnyH_take (i := 12) (v := ?v12) rfl (by kernel_rfl) (by kernel_rfl) (by kernel_rfl) (fun _ _ _ h => h) (Or.inl ⟨by kernel_rfl, ?hy12⟩) hS1 ?rest12
        case hy12 =>
          intro w hSw
          (try dsimp only at hSw)
          go_simp
          first | done | with_reducible rfl
        (try simp only [Act.put, List.setIfInBounds_toArray, List.set_cons_zero, List.set_cons_succ])
        refine wpAnyH_take (i := 13) (v := ?v13) rfl (by kernel_rfl) (by kernel_rfl) (by kernel_rfl) (fun _ _ _ h => h) (Or.inl ⟨by kernel_rfl, ?hy13⟩) hS1 ?rest13
        case hy13 =>
          intro w hSw
          (try dsimp only at hSw)
          go_simp
          first | done | with_reducible rfl
        (try simp only [Act.put, List.setIfInBounds_toArray, List.set_cons_zero, List.set_cons_succ])
        refine wpAnyH_take (i := 14) (v := ?v14) rfl (by kernel_rfl) (by kernel_rfl) (by kernel_rfl) (fun _ _ _ h => h) (Or.inl ⟨by kernel_rfl, ?hy14⟩) hS1 ?rest14
        case hy14 =>
          intro w hSw
          (try dsimp only at hSw)
          go_simp
          first | done | with_reducible rfl
        (try simp only [Act.put, List.setIfInBounds_toArray, List.set_cons_zero, List.set_cons_succ])
        refine wpAnyH_take (i := 15) (v := ?v15) rfl (by kernel_rfl) (by kernel_rfl) (by kernel_rfl) (fun _ _ _ h => h) (Or.inl ⟨by kernel_rfl, ?hy15⟩) hS1 ?rest15
        case hy15 =>
          intro w hSw
          (try dsimp only at hSw)
          go_simp
          first | done | with_reducible rfl
        (try simp only [Act.put, List.setIfInBounds_toArray, List.set_cons_zero, List.set_cons_succ])
        refine wpAnyH_take (i := 16) (v := ?v16) rfl (by kernel_rfl) (by kernel_rfl) (by kernel_rfl) (fun _ _ _ h => h) (Or.inl ⟨by kernel_rfl, ?hy16⟩) hS1 ?rest16
        case hy16 =>
          intro w hSw
          (try dsimp only at hSw)
          go_simp
          first | done | with_reducible rfl
        (try simp only [Act.put, List.setIfInBounds_toArray, List.set_cons_zero, List.set_cons_succ])
        refine wpAnyH_take (i := 17) (v := ?v17) rfl (by kernel_rfl) (by kernel_rfl) (by kernel_rfl) (fun _ _ _ h => h) (Or.inl ⟨by kernel_rfl, ?hy17⟩) hS1 ?rest17
        case hy17 =>
          intro w hSw
          (try dsimp only at hSw)
          go_simp
          first | done | with_reducible rfl
        (try simp only [Act.put, List.setIfInBounds_toArray, List.set_cons_zero, List.set_cons_succ])
        refine wpAnyH_take (i := 18) (v := ?v18) rfl (by kernel_rfl) (by kernel_rfl) (by kernel_rfl) (fun _ _ _ h => h) (Or.inl ⟨by kernel_rfl, ?hy18⟩) hS1 ?rest18
        case hy18 =>
          intro w hSw
          (try dsimp only at hSw)
          go_simp
          first | done | with_reducible rfl
        (try simp only [Act.put, List.setIfInBounds_toArray, List.set_cons_zero, List.set_cons_succ])
        refine wpAnyH_take (i := 19) (v := ?v19) rfl (by kernel_rfl) (by kernel_rfl) (by kernel_rfl) (fun _ _ _ h => h) (Or.inl ⟨by kernel_rfl, ?hy19⟩) hS1 ?rest19
        case hy19 =>
          intro w hSw
          (try dsimp only at hSw)
          go_simp
          first | done | with_reducible rfl
        (try simp only [Act.put, List.setIfInBounds_toArray, List.set_cons_zero, List.set_cons_succ])
        refine wpAnyH_take (i := 20) (v := ?v20) rfl (by kernel_rfl) (by kernel_rfl) (by kernel_rfl) (fun _ _ _ h => h) (Or.inl ⟨by kernel_rfl, ?hy20⟩) hS1 ?rest20
        case hy20 =>
          intro w hSw
          (try dsimp only at hSw)
          go_simp
          first | done | with_reducible rfl
        (try simp only [Act.put, List.setIfInBounds_toArray, List.set_cons_zero, List.set_cons_succ])
        refine wpAnyH_take (i := 21) (v := ?v21) rfl (by kernel_rfl) (by kernel_rfl) (by kernel_rfl) (fun _ _ _ h => h) (Or.inl ⟨by kernel_rfl, ?hy21⟩) hS1 ?rest21
        case hy21 =>
          intro w hSw
          (try dsimp only at hSw)
          go_simp
          first | done | with_reducible rfl
        (try simp only [Act.put, List.setIfInBounds_toArray, List.set_cons_zero, List.set_cons_succ])
        refine wpAnyH_take (i := 22) (v := ?v22) rfl (by kernel_rfl) (by kernel_rfl) (by kernel_rfl) (fun _ _ _ h => h) (Or.inl ⟨by kernel_rfl, ?hy22⟩) hS1 ?rest22
        case hy22 =>
          intro w hSw
          (try dsimp only at hSw)
          go_simp
          first | done | with_reducible rfl
        (try simp only [Act.put, List.setIfInBounds_toArray, List.set_cons_zero, List.set_cons_succ])
        refine wpAnyH_call (i := 11) (by kernel_rfl) rfl (by kernel_rfl) fun K hK => ?_
        simp only [List.getElem_toArray, List.getElem_cons_succ, List.getElem_cons_zero]
        go_simp
        go_at_call 15
        refine (HC1.out _ hpd).mono ?_
        rintro e w4 ⟨rfl, hp4, hn4⟩
        have hBx4 := hBd.same (hn4.block _ hBd.lt (by omega))
        have hr4 := hrd.near hn4 (by omega)
        refine hK.out _ _ hBx4.cell ?_
        clear hK K
        have hS4 := hBx4.cell
        (try simp only [Act.put, List.setIfInBounds_toArray, List.set_cons_zero, List.set_cons_succ])
        refine wpAnyH_call (i := 23) (by kernel_rfl) rfl (by kernel_rfl) fun K hK => ?_
        simp only [List.getElem_toArray, List.getElem_cons_succ, List.getElem_cons_zero]
        go_simp
        go_at_call 24
        refine (HC2.out _ hr4).mono ?_
        rintro e w5 ⟨rfl, hr5, hn5⟩
        have hp5 := hp4.near hn5 (by omega)
        have hBx5 := hBx4.same (hn5.block _ hBx4.lt (by omega))
        have hr6 := hr5
        obtain ⟨v5, hR5, hrg5, hro5⟩ := hr5
        obtain ⟨A5, c5, rfl, hc5, hrr5⟩ := own_slice hro5.1
        refine hK.out _ _ hBx5.cell ?_
        clear hK K
        have hS5 := hBx5.cell
        (try simp only [Act.put, List.setIfInBounds_toArray, List.set_cons_zero, List.set_cons_succ])
        refine wpAnyH_take (i := 24) (v := ?v24) rfl (by kernel_rfl) (by kernel_rfl) (by kernel_rfl) (fun _ _ _ h => h) (Or.inl ⟨by kernel_rfl, ?hy24⟩) hS5 ?rest24
        case hy24 =>
          intro w hSw
          (try dsimp only at hSw)
          go_simp
          first | done | with_reducible rfl
        (try simp only [Act.put, List.setIfInBounds_toArray, List.set_cons_zero, List.set_cons_succ])
        refine wpAnyH_take (i := 25) (v := ?v25) rfl (by kernel_rfl) (by kernel_rfl) (by kernel_rfl) (fun _ _ _ h => h) (Or.inl ⟨by kernel_rfl, ?hy25⟩) hS5 ?rest25
        case hy25 =>
          intro w hSw
          (try dsimp only at hSw)
          go_simp
          first | done | with_reducible rfl
        (try simp only [Act.put, List.setIfInBounds_toArray, List.set_cons_zero, List.set_cons_succ])
        have hS6 : (fun w' : World => (∀ j, w'.cell? ⟨wr.heap.size, j, none⟩ = (#[.int .i64 x.cpu, .int .u32 x.fn, .int .u64 x.a, .int .u64 x.b, .int .u64 x.c] : Array Value)[j]?) ∧ (∀ j, w'.cell? ⟨g2, j, none⟩ = (#[.slice A5 s2.cs.length c5, .int .i64 s2.down] : Array Value)[j]?)) w5 := ⟨hBx5.cell, hR5.cell⟩
        refine wpAnyH_mono (S2 := (fun w' : World => (∀ j, w'.cell? ⟨wr.heap.size, j, none⟩ = (#[.int .i64 x.cpu, .int .u32 x.fn, .int .u64 x.a, .int .u64 x.b, .int .u64 x.c] : Array Value)[j]?) ∧ (∀ j, w'.cell? ⟨g2, j, none⟩ = (#[.slice A5 s2.cs.length c5, .int .i64 s2.down] : Array Value)[j]?))) (fun w h => h.1) _ _ _ _ ?_
        refine wpAnyH_take (i := 26) (v := ?v26) rfl (by kernel_rfl) (by kernel_rfl) (by kernel_rfl) (fun _ _ _ h => h) (Or.inl ⟨by kernel_rfl, ?hy26⟩) hS6 ?rest26
        case hy26 =>
          intro w hSw
          (try dsimp only at hSw)
          go_simp
          first | done | with_reducible rfl
        (try simp only [Act.put, List.setIfInBounds_toArray, List.set_cons_zero, List.set_cons_succ])
        refine wpAnyH_take (i := 28) (v := ?v28) rfl (by kernel_rfl) (by kernel_rfl) (by kernel_rfl) (fun _ _ _ h => h) (Or.inl ⟨by kernel_rfl, ?hy28⟩) hS6 ?rest28
        case hy28 =>
          intro w hSw
          (try dsimp only at hSw)
          go_simp
          first | done | with_reducible rfl
        (try simp only [Act.put, List.setIfInBounds_toArray, List.set_cons_zero, List.set_cons_succ])
        refine wpAnyH_take (i := 29) (v := ?v29) rfl (by kernel_rfl) (by kernel_rfl) (by kernel_rfl) (fun _ _ _ h => h) (Or.inl ⟨by kernel_rfl, ?hy29⟩) hS6 ?rest29
        case hy29 =>
          intro w hSw
          (try dsimp only at hSw)
          go_simp
          first | done | with_reducible rfl
        (try simp only [Act.put, List.setIfInBounds_toArray, List.set_cons_zero, List.set_cons_succ])
        refine wpAnyH_take (i := 30) (v := ?v30) rfl (by kernel_rfl) (by kernel_rfl) (by kernel_rfl) (fun _ _ _ h => h) (Or.inl ⟨by kernel_rfl, ?hy30⟩) hS6 ?rest30
        case hy30 =>
          intro w hSw
          (try dsimp only at hSw)
          go_simp
          first | done | with_reducible rfl
        (try simp only [Act.put, List.setIfInBounds_toArray, List.set_cons_zero, List.set_cons_succ])
        refine wpAnyH_take (i := 31) (v := ?v31) rfl (by kernel_rfl) (by kernel_rfl) (by kernel_rfl) (fun _ _ _ h => h) (Or.inl ⟨by kernel_rfl, ?hy31⟩) hS6 ?rest31
        case hy31 =>
          intro w hSw
          (try dsimp only at hSw)
          go_simp
          first | done | with_reducible rfl
        (try simp only [Act.put, List.setIfInBounds_toArray, List.set_cons_zero, List.set_cons_succ])
        refine wpAnyH_call (i := 27) (by kernel_rfl) rfl (by kernel_rfl) fun K hK => ?_
        simp only [List.getElem_toArray, List.getElem_cons_succ, List.getElem_cons_zero]
        go_simp
        go_at_call 25
        refine (HDn.out _ hp5).mono ?_
        rintro e w6 ⟨rfl, rfl⟩
        refine hK.out _ _ hS6 ?_
        clear hK K
        (try simp only [Act.put, List.setIfInBounds_toArray, List.set_cons_zero, List.set_cons_succ])
        refine wpAnyH_take (i := 32) (v := ?v32) rfl (by kernel_rfl) (by kernel_rfl) (by kernel_rfl) (fun _ _ _ h => h) (Or.inl ⟨by kernel_rfl, ?hy32⟩) hS6 ?rest32
        case hy32 =>
          intro w hSw
          (try dsimp only at hSw)
          go_simp
          first | done | with_reducible rfl
        (try simp only [Act.put, List.setIfInBounds_toArray, List.set_cons_zero, List.set_cons_succ])
        refine wpAnyH_take (i := 33) (v := ?v33) rfl (by kernel_rfl) (by kernel_rfl) (by kernel_rfl) (fun _ _ _ h => h) (Or.inl ⟨by kernel_rfl, ?hy33⟩) hS6 ?rest33
        case hy33 =>
          intro w hSw
          (try dsimp only at hSw)
          go_simp
          first | done | with_reducible rfl
        (try simp only [Act.put, List.setIfInBounds_toArray, List.set_cons_zero, List.set_cons_succ])
        refine wpAnyH_take (i := 34) (v := ?v34) rfl (by kernel_rfl) (by kernel_rfl) (by kernel_rfl) (fun _ _ _ h => h) (Or.inl ⟨by kernel_rfl, ?hy34⟩) hS6 ?rest34
        case hy34 =>
          intro w hSw
          (try dsimp only at hSw)
          go_simp
          first | done | with_reducible rfl
        (try simp only [Act.put, List.setIfInBounds_toArray, List.set_cons_zero, List.set_cons_succ])
        refine wpAnyH_take (i := 35) (v := ?v35) rfl (by kernel_rfl) (by kernel_rfl) (by kernel_rfl) (fun _ _ _ h => h) (Or.inl ⟨by kernel_rfl, ?hy35⟩) hS6 ?rest35
        case hy35 =>
          intro w hSw
          (try dsimp only at hSw)
          go_simp
          first | done | with_reducible rfl
        (try simp only [Act.put, List.setIfInBounds_toArray, List.set_cons_zero, List.set_cons_succ])
        refine wpAnyH_take (i := 37) (v := ?v37) rfl (by kernel_rfl) (by kernel_rfl) (by kernel_rfl) (fun _ _ _ h => h) (Or.inl ⟨by kernel_rfl, ?hy37⟩) hS6 ?rest37
        case hy37 =>
          intro w hSw
          (try dsimp only at hSw)
          go_simp
          first | done | with_reducible rfl
        (try simp only [Act.put, List.setIfInBounds_toArray, List.set_cons_zero, List.set_cons_succ])
        refine wpAnyH_take (i := 38) (v := ?v38) rfl (by kernel_rfl) (by kernel_rfl) (by kernel_rfl) (fun _ _ _ h => h) (Or.inl ⟨by kernel_rfl, ?hy38⟩) hS6 ?rest38
        case hy38 =>
          intro w hSw
          (try dsimp only at hSw)
          go_simp
          first | done | with_reducible rfl
        (try simp only [Act.put, List.setIfInBounds_toArray, List.set_cons_zero, List.set_cons_succ])
        refine wpAnyH_take (i := 39) (v := ?v39) rfl (by kernel_rfl) (by kernel_rfl) (by kernel_rfl) (fun _ _ _ h => h) (Or.inl ⟨by kernel_rfl, ?hy39⟩) hS6 ?rest39
        case hy39 =>
          intro w hSw
          (try dsimp only at hSw)
          go_simp
          first | done | with_reducible rfl
        (try simp only [Act.put, List.setIfInBounds_toArray, List.set_cons_zero, List.set_cons_succ])
        refine wpAnyH_take (i := 40) (v := ?v40) rfl (by kernel_rfl) (by kernel_rfl) (by kernel_rfl) (fun _ _ _ h => h) (Or.inl ⟨by kernel_rfl, ?hy40⟩) hS6 ?rest40
        case hy40 =>
          intro w hSw
          (try dsimp only at hSw)
          go_simp
          first | done | with_reducible rfl
        (try simp only [Act.put, List.setIfInBounds_toArray, List.set_cons_zero, List.set_cons_succ])
        refine wpAnyH_call (i := 36) (by kernel_rfl) rfl (by kernel_rfl) fun K hK => ?_
        simp only [List.getElem_toArray, List.getElem_cons_succ, List.getElem_cons_zero]
        go_simp
        go_at_call 27
        refine (HY.out _ hp5).mono ?_
        rintro e w7 ⟨v7, rfl, hown7, hb7⟩
        obtain ⟨A7, c7, rfl, hc7, hrr7⟩ := own_slice hown7
        refine hK.out _ _ ⟨(hBx5.kept hb7).cell, (hR5.kept hb7).cell⟩ ?_
        clear hK K
        (try simp only [Act.put, List.setIfInBounds_toArray, List.set_cons_zero, List.set_cons_succ])
        refine wpAnyH_call (i := 41) (by kernel_rfl) rfl (by kernel_rfl) fun K hK => ?_
        simp only [List.getElem_toArray, List.getElem_cons_succ, List.getElem_cons_zero]
        go_simp
        go_at_call 26
        refine (sameVcpus_any A7 A5 s2.cs.length s2.cs.length c7 c5 s2.cs s2.cs _ rfl rfl (by omega) (by omega) hrr7 ((hrr5.below hb7).more hb7.size)).mono ?_
        rintro e w8 ⟨rfl, hb8⟩
        have hS8 : (fun w' : World => (∀ j, w'.cell? ⟨wr.heap.size, j, none⟩ = (#[.int .i64 x.cpu, .int .u32 x.fn, .int .u64 x.a, .int .u64 x.b, .int .u64 x.c] : Array Value)[j]?) ∧ (∀ j, w'.cell? ⟨g2, j, none⟩ = (#[.slice A5 s2.cs.length c5, .int .i64 s2.down] : Array Value)[j]?)) w8 := ⟨((hBx5.kept hb7).kept hb8).cell, ((hR5.kept hb7).kept hb8).cell⟩
        refine hK.out _ _ hS8 ?_
        clear hK K
        (try simp only [Act.put, List.setIfInBounds_toArray, List.set_cons_zero, List.set_cons_succ])
        refine wpAnyH_take (i := 42) (v := ?v42) rfl (by kernel_rfl) (by kernel_rfl) (by kernel_rfl) (fun _ _ _ h => h) (Or.inl ⟨by kernel_rfl, ?hy42⟩) hS8 ?rest42
        case hy42 =>
          intro w hSw
          (try dsimp only at hSw)
          go_simp
          first | done | with_reducible rfl
        (try simp only [Act.put, List.setIfInBounds_toArray, List.set_cons_zero, List.set_cons_succ])
        refine wpAnyH_take (i := 43) (v := ?v43) rfl (by kernel_rfl) (by kernel_rfl) (by kernel_rfl) (fun _ _ _ h => h) (Or.inl ⟨by kernel_rfl, ?hy43⟩) hS8 ?rest43
        case hy43 =>
          intro w hSw
          (try dsimp only at hSw)
          go_simp
          first | done | with_reducible rfl
        (try simp only [Act.put, List.setIfInBounds_toArray, List.set_cons_zero, List.set_cons_succ])
        refine wpAnyH_done (by kernel_rfl) ?_ _
        have hb4 := hbd.trans (hn4.below (fun i h => by have := h.1; omega) hbd.size)
        have hb5 := hb4.trans (hn5.below (fun i h => by have := h.1; omega) hb4.size)
        have hb6 := hb5.trans (hb7.mono hb5.size)
        have hI : PcInv w B0 B1 B2 g g2 w8 := ⟨s2, hlen3, (hp5.kept hb7).kept hb8, (hr6.kept hb7).kept hb8, hb6.trans (hb8.mono hb6.size), Nat.le_trans hzx (Nat.le_trans hn4.size (Nat.le_trans hn5.size (Nat.le_trans hb7.size hb8.size))), hB0, hB1, hB2⟩
        have HI := Lib.hid hI
        clear hI hb4 hb5 hb6 hS1 hS4 hS5 hS6 hS8 hHeld hBd hpd hrd hbd cB hBx hpx hrx hbx hBx4 hr4 hp4 hn4 hp5 hBx5 hn5 hr6 hR5 hro5 hrr5 hown7 hrr7 hb7 hb8 hzx hz
        go_wp2
        go_roundw
        case rel => exact ⟨k + 1, by omega, by go_num, HI.out⟩
        case measure => simp [intOf]; omega
      · obtain rfl : k = m := by omega
        obtain ⟨v5, hR5, hrg5, hro5⟩ := hr
        obtain ⟨A5, c5, rfl, hc5, hrr5⟩ := own_slice hro5.1
        go_wp2_with fail
        have cR := hR5.cell
        have hpd := hp.kept ((Below.refl _ _).drew)
        go_region_held3 (fun w' => ∀ j, w'.cell? ⟨g2, j, none⟩ = (#[.slice A5 s.cs.length c5, .int .i64 s.down] : Array Value)[j]?) (first | with_reducible exact cR | with_reducible exact hR5.drew.cell | with_reducible exact hR7.cell | with_reducible exact hR8.cell)
          (first
            | (go_at_call 27; refine (cpus_any g _ s _ hpd hlen).mono ?_; rintro e w7 ⟨v7, rfl, hown7, hb7⟩; obtain ⟨A7, c7, rfl, hc7, hrr7⟩ := own_slice hown7; have hR7 := hR5.drew.kept hb7)
            | (go_at_call 26; refine (sameVcpus_any A7 A5 s.cs.length s.cs.length c7 c5 s.cs s.cs _ rfl rfl (by omega) (by omega) hrr7 ((hrr5.below ((Below.refl _ wr).drew.trans hb7)).more hb7.size)).mono ?_; rintro e w8 ⟨rfl, hb8⟩; have hR8 := hR7.kept hb8))
        go_wp2
        go_ret
        exact ⟨by simp, (hb.drew.trans (hb7.mono hb.drew.size)).trans (hb8.mono (Nat.le_trans hb.drew.size hb7.size))⟩
  · have H := Lib.hid h
    clear h
    go_enter Try.func7, Try.ntmps7
    go_wp2_with (first
      | (go_at_call 12; refine (awake29_any _).mono ?_; rintro e w0 ⟨rfl, hb0⟩)
      | (go_at_call 13; exfalso; refine H.out ?_; omega))
    all_goals (go_ret; exact ⟨rfl, hb0⟩)

set_option maxRecDepth 100000 in
theorem psciCalls_law : LawWalk Try.prog 7 Try.f7 := by
  intro H enc W base args ds p hval hA hlt hfz hsz
  rw [Try.params7] at hA hval
  obtain ⟨v0, v1, d0, d1, p0, p1, rfl, rfl, rfl, h0, h1⟩ := trodAll_two hA
  obtain ⟨A, n, c, xss, rfl, hnc, hm, hx, hok, hr⟩ := open_rows Try.underlying27 flat_vcpu (by kernel_rfl) (by decide) (hval 0 27 v0 rfl rfl) h0 (fun x hx => hlt x (by simp [hx]))
  obtain ⟨l, hl, hf, _⟩ := list_of_rows (enc := encV) (ok := fun _ => True) xss (fun xs hxs => by obtain ⟨p, rfl, _⟩ := flat_v (hok xs hxs); exact ⟨p, rfl, trivial⟩)
  rw [hf] at hr
  obtain ⟨A2, n2, c2, yss, rfl, hnc2, hcm2, hx2, hok2, hr2⟩ := open_rows Try.underlying64 flat_call (by kernel_rfl) (by decide) (hval 1 64 v1 rfl rfl) h1 (fun x hx => hlt x (by simp [hx]))
  obtain ⟨l2, hl2, hf2, _⟩ := list_of_rows (enc := encK) (ok := fun _ => True) yss (fun xs hxs => by obtain ⟨p, rfl⟩ := flat_k (hok2 xs hxs); exact ⟨p, rfl, trivial⟩)
  rw [hf2] at hr2
  exact psciCalls_any A A2 n c n2 c2 l l2 (hl.trans hx) (hl2.trans hx2) W hr hr2 (maxLen_le (Nat.le_trans hnc hm)) (maxLen_le (Nat.le_trans hnc2 hcm2))
theorem psciCalls_proved : Rows.PsciCallsSaid :=
  OpenClaim.holds_of_wide 7 Try.f7 rfl rfl rfl rfl rfl rfl rfl ⟨rfl, rfl, rfl, rfl, rfl⟩ rfl rfl rfl rfl rfl (by kernel_rfl) Try.func7 (by kernel_rfl)
    (of_decide_eq_true (by kernel_rfl)) (by unfold Func.isWrapper; rw [if_neg (of_decide_eq_false (by kernel_rfl))]; exact ⟨rfl, rfl⟩)
    (fun os started H enc _ => law_lifted (C := Try.checked) (s := Rows.psciCallsSpec) started own laidOut (by kernel_rfl) Try.func7 rfl (n := 2) (by kernel_rfl) (fun ds h => by match ds, h with | [_, _], _ => rfl) (tb := 4) (by kernel_rfl) Try.underlying4 (by kernel_rfl)
      (ChangeSpec.witness6 (enc := enc) (C := Try.checked) false ⟨#[], #[.slice none 0 0, .slice none 0 0], []⟩ 8 (by kernel_rfl) (by kernel_rfl) (by kernel_rfl) (by kernel_rfl)) psciCalls_law)
end Go.Proofs.Ytebhfaadpalpbaa
