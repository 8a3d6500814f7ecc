/- Chapter 13: a counter's records: the program's iterator, walked. -/
import Derived.Test.YtpenjfkdinmgmaaCtrD
import Derived.RangeFuncNested
import Derived.RangeFuncBound
import Derived.RangeFuncCalls
import Derived.RangeFuncLeaves
import Derived.Shelf.Abstract
import Derived.Shelf.RegionOpen
import Derived.WalkKit
import Derived.OwnWalkIn
import Derived.TacticsInMore
import Derived.LoopNIn
import Derived.LoopIn
import Derived.ControlIn
namespace Go.Proofs.Ytpenjfkdinmgmaa
set_option linter.unusedVariables false
set_option linter.unusedSimpArgs false
open Go.RowKit Go.Shelf
attribute [local go_sem] Oper.semAt_some
theorem wpOp_do {P : Program} {ops : Array Oper} {Q : Exit → Act → World → Prop} {md : Region.Mode} {S : World → Prop} {i : Nat} {o : Oper} {f : Nat} {listed : Array Bool} {a : Act} {w : World} (ho : ops[i]? = some o) (hw : Region.wanted o (yielded ops a.tmps) = true)
    (h : ∀ K : Act → World → Prop, Hid (∀ a' w', S w' → wpAnyH P md ops Q S f (listed.setIfInBounds i true) a' w' → K a' w') → o.wp P a w K Q) : wpOp P ops Q i (fun a' w' => S w' ∧ wpAnyH P md ops Q S f (listed.setIfInBounds i true) a' w') a w := by
  unfold wpOp
  rw [ho]
  simp only [hw, if_true]
  exact .inl (h _ (Lib.hid fun a' w' h1 h2 => ⟨h1, h2⟩))
/-- The record of one of a counter's two slots, if it is one. -/
def oneR (ws : List Int) (id j : Nat) : List (Nat × Int × Int) := if (ofW id (slW ws (8 * id + 4 * j))).2.2 then [(j, (ofW id (slW ws (8 * id + 4 * j))).1, (ofW id (slW ws (8 * id + 4 * j))).2.1)] else []
def recK (ws : List Int) (id : Nat) : Nat → List (Nat × Int × Int)
  | 0 => []
  | k + 1 => recK ws id k ++ oneR ws id k
theorem recK_succ (ws : List Int) (id k : Nat) : recK ws id (k + 1) = recK ws id k ++ oneR ws id k := rfl
theorem oneR_len (ws : List Int) (id j : Nat) : (oneR ws id j).length ≤ 1 := by unfold oneR; split <;> simp
theorem recK_len (ws : List Int) (id : Nat) : ∀ k, (recK ws id k).length ≤ k
  | 0 => Nat.le_refl _
  | k + 1 => by
    have := recK_len ws id k
    have := oneR_len ws id k
    simp [recK]; omega
theorem recK_pre {ws : List Int} {id k m : Nat} (h : k ≤ m) : recK ws id k <+: recK ws id m := by
  induction h with
  | refl => exact List.prefix_rfl
  | step _ ih => exact ih.trans ⟨_, (recK_succ _ _ _).symm⟩
def encR2 (x : Nat × Int × Int) : Array Value := #[.int .i64 x.1, .agg #[.int .u32 x.2.1, .int .u32 x.2.2]]
def KpC (b0 Bn : Nat) (W W' : World) : Prop := Below b0 W W' ∧ W'.heap[Bn]? = W.heap[Bn]?
theorem kpC_t {b0 Bn : Nat} {A B C : World} (h : KpC b0 Bn A B) (k : KpC b0 Bn B C) : KpC b0 Bn A C := ⟨h.1.trans k.1, k.2.trans h.2⟩
theorem kpC_b {b0 Bn : Nat} {w : World} (h0 : b0 ≤ w.heap.size) (hn : Bn < w.heap.size) (W : World) (l : Nat) (o o' : Obj) (hl : w.heap.size ≤ l) (h : W.heap[l]? = some o) (h1 : o.isCells = false) (h2 : o.isWalk = false) : KpC b0 Bn W (W.putObj l o') :=
  ⟨belowK_b h0 W l o o' hl h h1 h2, (grownBy_putObj' W l o').block Bn (by have := (Array.getElem?_eq_some_iff.1 h).1; omega) (by intro e; cases e; omega)⟩
theorem KpC.of_below {b0 Bn : Nat} {W W' : World} (h : Below W.heap.size W W') (h0 : b0 ≤ W.heap.size) (hn : Bn < W.heap.size) : KpC b0 Bn W W' := ⟨h.mono h0, h.block Bn hn⟩

set_option maxRecDepth 100000 in
set_option maxHeartbeats 4000000 in
theorem records1_in (l Bn g : Nat) (base : Nat → Prop) (s : Stt) (id : Nat) (w0 : World) (h : Sto w0 base g s) (hu : U32s s.ws) (hid : id ≤ 100000) (hr : 8 * id + 8 ≤ s.ws.length)
    (J Jx : List (Nat × Int × Int) → World → Prop) (hJ : ∀ pre W W', J pre W → Below W.heap.size W W' → J pre W')
    (hY : ∀ pre x W, J pre W → pre.length < 2 → YieldAt Fence.wide (4 - 1) Try.prog l (encR2 x) W fun e W' =>
      (e = .returned (.bool true) ∧ J (pre ++ [x]) W' ∧ KpC w0.heap.size Bn W W') ∨ (e = .returned (.bool false) ∧ Jx (pre ++ [x]) W'))
    (W : World) (hW : Below w0.heap.size w0 W) (hB : Blk W Bn 69 #[.pointer (some ⟨g, 0, none⟩), .int .i64 id]) (h0 : J [] W) :
    CallsIn Fence.wide 4 Try.prog 46 #[.func (.yield l) #[] #[], .pointer (some ⟨Bn, 0, none⟩)] W fun e W' => (∃ v, e = .returned v) ∧
      ((∃ ys, ys = recK s.ws id 2 ∧ J ys W') ∨ (∃ pre, pre <+: recK s.ws id 2 ∧ Jx pre W')) := by
  have hro : Fence.wide.round = none := rfl
  have hf : Fence.wide.fn 46 := trivial
  have HJ := Lib.hid hJ
  have HSl := Lib.hid (fun j (hj : j < 2) W (hW : Below w0.heap.size w0 W) => slot_any g base s id j W (h.kept hW) hid (by omega) hr)
  have HO : ∀ B, Hid (∀ x y f, ofW id (slW s.ws B) = (x, y, f) → ∀ W, Calls Try.prog 47 #[.int .i64 id, .agg (slW s.ws B).arr] W fun e w' => e = .returned (.tuple #[.agg #[.int .u32 x, .int .u32 y], .bool f]) ∧ Below W.heap.size W w') := fun B => Lib.hid fun x y f hx W =>
    of_any id _ _ _ _ x y f hx (hu.at_ _).1 (hu.at_ _).2 (hu.at_ _).1 (hu.at_ _).2 W
  have HO := Lib.hid HO
  have HY := Lib.hid hY
  have HLen := Lib.hid (recK_len s.ws id)
  have HPre : Hid (∀ {k}, k ≤ 2 → recK s.ws id k <+: recK s.ws id 2) := Lib.hid (fun h => recK_pre h)
  clear hJ h hu hr hY
  refine callsIn_of_wp Try.func46 rfl hf ?_ hro
  simp only [Try.ntmps46, List.size_toArray, List.length_cons, List.length_nil, Nat.reduceAdd, Nat.reduceSub, Array.replicate_succ, Array.replicate_zero, List.push_toArray, List.append_toArray, List.nil_append, List.cons_append]
  gi_wp2
  gi_loopw [6] (fun i wr => ∃ k : Nat, k ≤ 2 ∧ i = .int .i64 k ∧ J (recK s.ws id k) wr ∧ Below w0.heap.size w0 wr ∧ Blk wr Bn 69 #[.pointer (some ⟨g, 0, none⟩), .int .i64 id]) (fun i _ => 2 - (intOf i).toNat)
  case atStart => exact ⟨0, by omega, rfl, h0, hW, hB⟩
  case round =>
    obtain ⟨k, hk, rfl, hJk, hb, hBk⟩ := hrel
    clear h0 hW hB
    by_cases hlt : k < 2
    · gi_wp2
      have hSlk := Lib.hid (fun W (h : Below wr.heap.size wr W) => HSl.out k hlt W (hb.trans (h.mono hb.size)))
      have HOk := (HO.out (8 * id + 4 * k)).out
      have HRk := recK_succ s.ws id k
      unfold oneR at HRk
      obtain ⟨R, hR⟩ : ∃ R, ofW id (slW s.ws (8 * id + 4 * k)) = R := ⟨_, rfl⟩
      obtain ⟨x, y, f⟩ := R
      rw [hR] at HRk
      have HOx := Lib.hid (HOk x y f hR)
      clear HOk hR
      generalize slW s.ws (8 * id + 4 * k) = V at *
      obtain ⟨va, vb, vc, vd⟩ := V
      unfold W4.arr at hSlk HOx
      simp only at hSlk HOx
      refine wpIn_wide.2 ?_
      have hS1 : (fun W' : World => ∀ i, W'.cell? ⟨Bn, i, none⟩ = (#[.pointer (some ⟨g, 0, none⟩), .int .i64 id] : Array Value)[i]?) wr.drew := hBk.drew.cell
      refine wp_region_held_drew (S := fun W' : World => ∀ i, W'.cell? ⟨Bn, i, none⟩ = (#[.pointer (some ⟨g, 0, none⟩), .int .i64 id] : Array Value)[i]?) (by kernel_rfl) hS1 (fun hHeld => ?_)
      clear hHeld
      refine wpAnyH_take (i := 0) (v := ?va0) rfl (by kernel_rfl) (by kernel_rfl) (by kernel_rfl) (fun _ _ _ h => h) (Or.inl ⟨by kernel_rfl, ?hya0⟩) hS1 ?resta0
      case hya0 =>
        intro w hSw
        clear hSw
        go_simp
        first | done | with_reducible rfl
      (try simp only [List.getElem_toArray, List.getElem_cons_succ, List.getElem_cons_zero, Act.put, List.setIfInBounds_toArray, List.set_cons_zero, List.set_cons_succ])
      refine wpAnyH_take (i := 1) (v := ?va1) rfl (by kernel_rfl) (by kernel_rfl) (by kernel_rfl) (fun _ _ _ h => h) (Or.inl ⟨by kernel_rfl, ?hya1⟩) hS1 ?resta1
      case hya1 =>
        intro w hSw
        (try dsimp only at hSw)
        go_simp
        first | done | with_reducible rfl
      (try simp only [List.getElem_toArray, List.getElem_cons_succ, List.getElem_cons_zero, Act.put, List.setIfInBounds_toArray, List.set_cons_zero, List.set_cons_succ])
      refine wpAnyH_take (i := 2) (v := ?va2) rfl (by kernel_rfl) (by kernel_rfl) (by kernel_rfl) (fun _ _ _ h => h) (Or.inl ⟨by kernel_rfl, ?hya2⟩) hS1 ?resta2
      case hya2 =>
        intro w hSw
        (try dsimp only at hSw)
        go_simp
        first | done | with_reducible rfl
      (try simp only [List.getElem_toArray, List.getElem_cons_succ, List.getElem_cons_zero, Act.put, List.setIfInBounds_toArray, List.set_cons_zero, List.set_cons_succ])
      refine wpAnyH_take (i := 3) (v := ?va3) rfl (by kernel_rfl) (by kernel_rfl) (by kernel_rfl) (fun _ _ _ h => h) (Or.inl ⟨by kernel_rfl, ?hya3⟩) hS1 ?resta3
      case hya3 =>
        intro w hSw
        clear hSw
        go_simp
        first | done | with_reducible rfl
      (try simp only [List.getElem_toArray, List.getElem_cons_succ, List.getElem_cons_zero, Act.put, List.setIfInBounds_toArray, List.set_cons_zero, List.set_cons_succ])
      refine wpAnyH_all (rs := [4, 9]) (by kernel_rfl) (by simp) fun j hj => ?_
      have hj2 : j = 4 ∨ j = 9 := by simpa using hj
      clear hj
      rcases hj2 with rfl | rfl
      · refine wpOp_do rfl (by kernel_rfl) fun K hK => ?_
        simp only [List.getElem_toArray, List.getElem_cons_succ, List.getElem_cons_zero]
        go_simp
        go_at_call 29
        refine (hSlk.out _ (below_drewN (Below.refl wr.heap.size wr) 1)).mono ?_
        rintro e w2 ⟨rfl, hb2⟩
        have hb2 := (below_drewN (Below.refl wr.heap.size wr) 1).trans hb2
        have hB2 := hBk.kept hb2
        have hS2 : (fun W' : World => ∀ i, W'.cell? ⟨Bn, i, none⟩ = (#[.pointer (some ⟨g, 0, none⟩), .int .i64 id] : Array Value)[i]?) w2 := hB2.cell
        refine hK.out _ _ hS2 ?_
        clear hK K
        (try simp only [List.getElem_toArray, List.getElem_cons_succ, List.getElem_cons_zero, Act.put, List.setIfInBounds_toArray, List.set_cons_zero, List.set_cons_succ])
        refine wpAnyH_all (rs := [5, 9]) (by kernel_rfl) (by simp) fun j hj => ?_
        have hj2 : j = 5 ∨ j = 9 := by simpa using hj
        clear hj
        rcases hj2 with rfl | rfl
        · refine wpOp_do rfl (by kernel_rfl) fun K hK => ?_
          simp only [List.getElem_toArray, List.getElem_cons_succ, List.getElem_cons_zero]
          go_simp
          go_at_call 47
          refine (HOx.out _).mono ?_
          rintro e w3 ⟨rfl, hb3⟩
          have hB3 := hB2.kept hb3
          have hS3 : (fun W' : World => ∀ i, W'.cell? ⟨Bn, i, none⟩ = (#[.pointer (some ⟨g, 0, none⟩), .int .i64 id] : Array Value)[i]?) w3 := hB3.cell
          refine hK.out _ _ hS3 ?_
          clear hK K
          (try simp only [List.getElem_toArray, List.getElem_cons_succ, List.getElem_cons_zero, Act.put, List.setIfInBounds_toArray, List.set_cons_zero, List.set_cons_succ])
          refine wpAnyH_take (i := 6) (v := ?vb6) rfl (by kernel_rfl) (by kernel_rfl) (by kernel_rfl) (fun _ _ _ h => h) (Or.inl ⟨by kernel_rfl, ?hyb6⟩) hS3 ?restb6
          case hyb6 =>
            intro w hSw
            clear hSw
            go_simp
            first | done | with_reducible rfl
          (try simp only [List.getElem_toArray, List.getElem_cons_succ, List.getElem_cons_zero, Act.put, List.setIfInBounds_toArray, List.set_cons_zero, List.set_cons_succ])
          refine wpAnyH_take (i := 7) (v := ?vb7) rfl (by kernel_rfl) (by kernel_rfl) (by kernel_rfl) (fun _ _ _ h => h) (Or.inl ⟨by kernel_rfl, ?hyb7⟩) hS3 ?restb7
          case hyb7 =>
            intro w hSw
            clear hSw
            go_simp
            first | done | with_reducible rfl
          (try simp only [List.getElem_toArray, List.getElem_cons_succ, List.getElem_cons_zero, Act.put, List.setIfInBounds_toArray, List.set_cons_zero, List.set_cons_succ])
          refine wpAnyH_take (i := 8) (v := ?vb8) rfl (by kernel_rfl) (by kernel_rfl) (by kernel_rfl) (fun _ _ _ h => h) (Or.inl ⟨by kernel_rfl, ?hyb8⟩) hS3 ?restb8
          case hyb8 =>
            intro w hSw
            clear hSw
            go_simp
            first | done | with_reducible rfl
          (try simp only [List.getElem_toArray, List.getElem_cons_succ, List.getElem_cons_zero, Act.put, List.setIfInBounds_toArray, List.set_cons_zero, List.set_cons_succ])
          refine wpAnyH_call (i := 9) (by kernel_rfl) rfl (by kernel_rfl) fun K hK => ?_
          simp only [List.getElem_toArray, List.getElem_cons_succ, List.getElem_cons_zero]
          go_simp
          have hB4 := hB3.alloc (.cells #[.int .u32 0, .int .u32 0] 43)
          have hC4 := Blk.new w3 43 #[.int .u32 0, .int .u32 0]
          have c4 := hC4.cell
          have f4 := hC4.frozen
          refine hK.out _ _ hB4.cell ?_
          clear hK K
          (try simp only [List.getElem_toArray, List.getElem_cons_succ, List.getElem_cons_zero, Act.put, List.setIfInBounds_toArray, List.set_cons_zero, List.set_cons_succ])
          have hl3 := hB3.lt
          have hN5 := hB3.alloc (.cells #[.int .u32 x, .int .u32 y] 43)
          have hCE := Blk.new w3 43 #[.int .u32 x, .int .u32 y]
          have hbE := bal (hb2.trans (hb3.mono hb2.size)) (.cells #[.int .u32 x, .int .u32 y] 43)
          refine wpAnyH_call (i := 10) (by kernel_rfl) rfl (by kernel_rfl) fun K hK => ?_
          simp only [List.getElem_toArray, List.getElem_cons_succ, List.getElem_cons_zero]
          go_simp
          refine hK.out _ _ hN5.cell ?_
          clear hK K
          (try simp only [List.getElem_toArray, List.getElem_cons_succ, List.getElem_cons_zero, Act.put, List.setIfInBounds_toArray, List.set_cons_zero, List.set_cons_succ])
          refine wpAnyH_take (i := 11) (v := ?vc11) rfl (by kernel_rfl) (by kernel_rfl) (by kernel_rfl) (fun _ _ _ h => h) (Or.inl ⟨by kernel_rfl, ?hyc11⟩) hN5.cell ?restc11
          case hyc11 =>
            intro w hSw
            clear hSw
            go_simp
            first | done | with_reducible rfl
          (try simp only [List.getElem_toArray, List.getElem_cons_succ, List.getElem_cons_zero, Act.put, List.setIfInBounds_toArray, List.set_cons_zero, List.set_cons_succ])
          refine wpAnyH_done (by kernel_rfl) ?_ _
          have hNE := hN5
          clear hN5 hB4 hC4 c4 f4 hS1 hS2 hS3 hl3
          generalize w3.alloc (.cells #[.int .u32 x, .int .u32 y] 43) = we at *
          generalize w3.heap.size = ge at *
          have hJE := HJ.out _ _ _ hJk hbE
          have hb0 := hb.trans (hbE.mono hb.size)
          have cE := hCE.cell
          cases f
          case false =>
            have hS : recK s.ws id (k + 1) = recK s.ws id k := by rw [HRk]; simp
            gi_wp2
            refine ⟨fun _ h => (by cases h), ?_⟩
            gi_wp2
            go_roundw
            case rel => exact ⟨k + 1, by omega, by go_num, by rw [hS]; exact hJE, hb0, hNE⟩
            case measure => simp [intOf]; omega
          case true =>
            have hS : recK s.ws id (k + 1) = recK s.ws id k ++ [(k, x, y)] := by rw [HRk]; simp
            obtain ⟨fn, tmps, assign, body, hy, hR⟩ := HY.out (recK s.ws id k) (k, x, y) we hJE (by have := HLen.out k; omega)
            unfold encR2 at hy
            gi_wp2
            refine hR.mono ?_
            rintro e W3 (⟨rfl, hJ3, hk3⟩ | ⟨rfl, hJx3⟩)
            · gi_wp2
              go_roundw
              case rel => exact ⟨k + 1, by omega, by go_num, by rw [hS]; exact hJ3, hb0.trans hk3.1, Eq.trans hk3.2 hNE⟩
              case measure => simp [intOf]; omega
            · gi_wp2
              refine bodyPost_ret (results_none rfl _ _ _) rfl ?_
              exact ⟨⟨_, rfl⟩, .inr ⟨_, by rw [← hS]; exact HPre.out (by omega), hJx3⟩⟩
        · refine wpOp_do rfl (by kernel_rfl) fun K hK => ?_
          simp only [List.getElem_toArray, List.getElem_cons_succ, List.getElem_cons_zero]
          go_simp
          have hB3 := hB2.alloc (.cells #[.int .u32 0, .int .u32 0] 43)
          have hC3 := Blk.new w2 43 #[.int .u32 0, .int .u32 0]
          have hb3 := bal hb2 (.cells #[.int .u32 0, .int .u32 0] 43)
          refine hK.out _ _ hB3.cell ?_
          clear hK K
          (try simp only [List.getElem_toArray, List.getElem_cons_succ, List.getElem_cons_zero, Act.put, List.setIfInBounds_toArray, List.set_cons_zero, List.set_cons_succ])
          refine wpAnyH_call (i := 5) (by kernel_rfl) rfl (by kernel_rfl) fun K hK => ?_
          simp only [List.getElem_toArray, List.getElem_cons_succ, List.getElem_cons_zero]
          go_simp
          go_at_call 47
          refine (HOx.out _).mono ?_
          rintro e w4 ⟨rfl, hb4⟩
          have hl2 := hB2.lt
          have hB4 := hB3.kept hb4
          have hC4 := hC3.kept hb4
          have hbx := hb3.trans (hb4.mono hb3.size)
          have c4 := hC4.cell
          have f4 := hC4.frozen
          refine hK.out _ _ hB4.cell ?_
          clear hK K
          (try simp only [List.getElem_toArray, List.getElem_cons_succ, List.getElem_cons_zero, Act.put, List.setIfInBounds_toArray, List.set_cons_zero, List.set_cons_succ])
          refine wpAnyH_take (i := 6) (v := ?vd6) rfl (by kernel_rfl) (by kernel_rfl) (by kernel_rfl) (fun _ _ _ h => h) (Or.inl ⟨by kernel_rfl, ?hyd6⟩) hB4.cell ?restd6
          case hyd6 =>
            intro w hSw
            clear hSw
            go_simp
            first | done | with_reducible rfl
          (try simp only [List.getElem_toArray, List.getElem_cons_succ, List.getElem_cons_zero, Act.put, List.setIfInBounds_toArray, List.set_cons_zero, List.set_cons_succ])
          refine wpAnyH_take (i := 7) (v := ?vd7) rfl (by kernel_rfl) (by kernel_rfl) (by kernel_rfl) (fun _ _ _ h => h) (Or.inl ⟨by kernel_rfl, ?hyd7⟩) hB4.cell ?restd7
          case hyd7 =>
            intro w hSw
            clear hSw
            go_simp
            first | done | with_reducible rfl
          (try simp only [List.getElem_toArray, List.getElem_cons_succ, List.getElem_cons_zero, Act.put, List.setIfInBounds_toArray, List.set_cons_zero, List.set_cons_succ])
          refine wpAnyH_take (i := 8) (v := ?vd8) rfl (by kernel_rfl) (by kernel_rfl) (by kernel_rfl) (fun _ _ _ h => h) (Or.inl ⟨by kernel_rfl, ?hyd8⟩) hB4.cell ?restd8
          case hyd8 =>
            intro w hSw
            clear hSw
            go_simp
            first | done | with_reducible rfl
          (try simp only [List.getElem_toArray, List.getElem_cons_succ, List.getElem_cons_zero, Act.put, List.setIfInBounds_toArray, List.set_cons_zero, List.set_cons_succ])
          have hCE := (hC4.set_ 0 (.int .u32 x)).set_ 1 (.int .u32 y)
          have hNE := (hB4.far (p := ⟨w2.heap.size, 0, none⟩) (by simp; omega) (.int .u32 x)).far (p := ⟨w2.heap.size, 1, none⟩) (by simp; omega) (.int .u32 y)
          have hbE := (hbx.setCell (p := ⟨w2.heap.size, 0, none⟩) (by first | (simp; done) | (simp; exact hb2.size)) (.int .u32 x)).setCell (p := ⟨w2.heap.size, 1, none⟩) (by first | (simp; done) | (simp; exact hb2.size)) (.int .u32 y)
          refine wpAnyH_call (i := 10) (by kernel_rfl) rfl (by kernel_rfl) fun K hK => ?_
          simp only [List.getElem_toArray, List.getElem_cons_succ, List.getElem_cons_zero]
          go_simp
          refine hK.out _ _ hNE.cell ?_
          clear hK K
          (try simp only [List.getElem_toArray, List.getElem_cons_succ, List.getElem_cons_zero, Act.put, List.setIfInBounds_toArray, List.set_cons_zero, List.set_cons_succ])
          refine wpAnyH_take (i := 11) (v := ?vdx11) rfl (by kernel_rfl) (by kernel_rfl) (by kernel_rfl) (fun _ _ _ h => h) (Or.inl ⟨by kernel_rfl, ?hydx11⟩) hNE.cell ?restdx11
          case hydx11 =>
            intro w hSw
            clear hSw
            go_simp
            first | done | with_reducible rfl
          (try simp only [List.getElem_toArray, List.getElem_cons_succ, List.getElem_cons_zero, Act.put, List.setIfInBounds_toArray, List.set_cons_zero, List.set_cons_succ])
          refine wpAnyH_done (by kernel_rfl) ?_ _
          clear hB3 hC3 hb3 hB4 hC4 hb4 hbx c4 f4
          generalize (w4.setCell ⟨w2.heap.size, 0, none⟩ (.int .u32 x)).setCell ⟨w2.heap.size, 1, none⟩ (.int .u32 y) = we at *
          try generalize w2.heap.size = ge at *
          have hJE := HJ.out _ _ _ hJk hbE
          have hb0 := hb.trans (hbE.mono hb.size)
          have cE := hCE.cell
          cases f
          case false =>
            have hS : recK s.ws id (k + 1) = recK s.ws id k := by rw [HRk]; simp
            gi_wp2
            refine ⟨fun _ h => (by cases h), ?_⟩
            gi_wp2
            go_roundw
            case rel => exact ⟨k + 1, by omega, by go_num, by rw [hS]; exact hJE, hb0, hNE⟩
            case measure => simp [intOf]; omega
          case true =>
            have hS : recK s.ws id (k + 1) = recK s.ws id k ++ [(k, x, y)] := by rw [HRk]; simp
            obtain ⟨fn, tmps, assign, body, hy, hR⟩ := HY.out (recK s.ws id k) (k, x, y) we hJE (by have := HLen.out k; omega)
            unfold encR2 at hy
            gi_wp2
            refine hR.mono ?_
            rintro e W3 (⟨rfl, hJ3, hk3⟩ | ⟨rfl, hJx3⟩)
            · gi_wp2
              go_roundw
              case rel => exact ⟨k + 1, by omega, by go_num, by rw [hS]; exact hJ3, hb0.trans hk3.1, Eq.trans hk3.2 hNE⟩
              case measure => simp [intOf]; omega
            · gi_wp2
              refine bodyPost_ret (results_none rfl _ _ _) rfl ?_
              exact ⟨⟨_, rfl⟩, .inr ⟨_, by rw [← hS]; exact HPre.out (by omega), hJx3⟩⟩
      · refine wpOp_do rfl (by kernel_rfl) fun K hK => ?_
        simp only [List.getElem_toArray, List.getElem_cons_succ, List.getElem_cons_zero]
        go_simp
        have hBa := (hBk.alloc (.cells #[.int .u32 0, .int .u32 0] 43)).drew
        have hCa := (Blk.new wr 43 #[.int .u32 0, .int .u32 0]).drew
        have hba := (bal (Below.refl wr.heap.size wr) (.cells #[.int .u32 0, .int .u32 0] 43)).drew
        refine hK.out _ _ hBa.cell ?_
        clear hK K
        (try simp only [List.getElem_toArray, List.getElem_cons_succ, List.getElem_cons_zero, Act.put, List.setIfInBounds_toArray, List.set_cons_zero, List.set_cons_succ])
        refine wpAnyH_call (i := 4) (by kernel_rfl) rfl (by kernel_rfl) fun K hK => ?_
        simp only [List.getElem_toArray, List.getElem_cons_succ, List.getElem_cons_zero]
        go_simp
        go_at_call 29
        refine (hSlk.out _ hba).mono ?_
        rintro e w3 ⟨rfl, hbc⟩
        have hB3 := hBa.kept hbc
        have hC3 := hCa.kept hbc
        have hb3 := hba.trans (hbc.mono hba.size)
        refine hK.out _ _ hB3.cell ?_
        clear hK K
        (try simp only [List.getElem_toArray, List.getElem_cons_succ, List.getElem_cons_zero, Act.put, List.setIfInBounds_toArray, List.set_cons_zero, List.set_cons_succ])
        refine wpAnyH_call (i := 5) (by kernel_rfl) rfl (by kernel_rfl) fun K hK => ?_
        simp only [List.getElem_toArray, List.getElem_cons_succ, List.getElem_cons_zero]
        go_simp
        go_at_call 47
        refine (HOx.out _).mono ?_
        rintro e w4 ⟨rfl, hb4⟩
        have hl2 := hBk.lt
        have hB4 := hB3.kept hb4
        have hC4 := hC3.kept hb4
        have hbx := hb3.trans (hb4.mono hb3.size)
        have c4 := hC4.cell
        have f4 := hC4.frozen
        refine hK.out _ _ hB4.cell ?_
        clear hK K
        (try simp only [List.getElem_toArray, List.getElem_cons_succ, List.getElem_cons_zero, Act.put, List.setIfInBounds_toArray, List.set_cons_zero, List.set_cons_succ])
        refine wpAnyH_take (i := 6) (v := ?vf6) rfl (by kernel_rfl) (by kernel_rfl) (by kernel_rfl) (fun _ _ _ h => h) (Or.inl ⟨by kernel_rfl, ?hyf6⟩) hB4.cell ?restf6
        case hyf6 =>
          intro w hSw
          clear hSw
          go_simp
          first | done | with_reducible rfl
        (try simp only [List.getElem_toArray, List.getElem_cons_succ, List.getElem_cons_zero, Act.put, List.setIfInBounds_toArray, List.set_cons_zero, List.set_cons_succ])
        refine wpAnyH_take (i := 7) (v := ?vf7) rfl (by kernel_rfl) (by kernel_rfl) (by kernel_rfl) (fun _ _ _ h => h) (Or.inl ⟨by kernel_rfl, ?hyf7⟩) hB4.cell ?restf7
        case hyf7 =>
          intro w hSw
          clear hSw
          go_simp
          first | done | with_reducible rfl
        (try simp only [List.getElem_toArray, List.getElem_cons_succ, List.getElem_cons_zero, Act.put, List.setIfInBounds_toArray, List.set_cons_zero, List.set_cons_succ])
        refine wpAnyH_take (i := 8) (v := ?vf8) rfl (by kernel_rfl) (by kernel_rfl) (by kernel_rfl) (fun _ _ _ h => h) (Or.inl ⟨by kernel_rfl, ?hyf8⟩) hB4.cell ?restf8
        case hyf8 =>
          intro w hSw
          clear hSw
          go_simp
          first | done | with_reducible rfl
        (try simp only [List.getElem_toArray, List.getElem_cons_succ, List.getElem_cons_zero, Act.put, List.setIfInBounds_toArray, List.set_cons_zero, List.set_cons_succ])
        have hCE := (hC4.set_ 0 (.int .u32 x)).set_ 1 (.int .u32 y)
        have hNE := (hB4.far (p := ⟨wr.heap.size, 0, none⟩) (by simp; omega) (.int .u32 x)).far (p := ⟨wr.heap.size, 1, none⟩) (by simp; omega) (.int .u32 y)
        have hbE := (hbx.setCell (p := ⟨wr.heap.size, 0, none⟩) (by first | (simp; done) | (simp; exact hb2.size)) (.int .u32 x)).setCell (p := ⟨wr.heap.size, 1, none⟩) (by first | (simp; done) | (simp; exact hb2.size)) (.int .u32 y)
        refine wpAnyH_call (i := 10) (by kernel_rfl) rfl (by kernel_rfl) fun K hK => ?_
        simp only [List.getElem_toArray, List.getElem_cons_succ, List.getElem_cons_zero]
        go_simp
        refine hK.out _ _ hNE.cell ?_
        clear hK K
        (try simp only [List.getElem_toArray, List.getElem_cons_succ, List.getElem_cons_zero, Act.put, List.setIfInBounds_toArray, List.set_cons_zero, List.set_cons_succ])
        refine wpAnyH_take (i := 11) (v := ?vfx11) rfl (by kernel_rfl) (by kernel_rfl) (by kernel_rfl) (fun _ _ _ h => h) (Or.inl ⟨by kernel_rfl, ?hyfx11⟩) hNE.cell ?restfx11
        case hyfx11 =>
          intro w hSw
          clear hSw
          go_simp
          first | done | with_reducible rfl
        (try simp only [List.getElem_toArray, List.getElem_cons_succ, List.getElem_cons_zero, Act.put, List.setIfInBounds_toArray, List.set_cons_zero, List.set_cons_succ])
        refine wpAnyH_done (by kernel_rfl) ?_ _
        clear hB3 hC3 hb3 hB4 hC4 hb4 hbx c4 f4
        generalize (w4.setCell ⟨wr.heap.size, 0, none⟩ (.int .u32 x)).setCell ⟨wr.heap.size, 1, none⟩ (.int .u32 y) = we at *
        try generalize w2.heap.size = ge at *
        have hJE := HJ.out _ _ _ hJk hbE
        have hb0 := hb.trans (hbE.mono hb.size)
        have cE := hCE.cell
        cases f
        case false =>
          have hS : recK s.ws id (k + 1) = recK s.ws id k := by rw [HRk]; simp
          gi_wp2
          refine ⟨fun _ h => (by cases h), ?_⟩
          gi_wp2
          go_roundw
          case rel => exact ⟨k + 1, by omega, by go_num, by rw [hS]; exact hJE, hb0, hNE⟩
          case measure => simp [intOf]; omega
        case true =>
          have hS : recK s.ws id (k + 1) = recK s.ws id k ++ [(k, x, y)] := by rw [HRk]; simp
          obtain ⟨fn, tmps, assign, body, hy, hR⟩ := HY.out (recK s.ws id k) (k, x, y) we hJE (by have := HLen.out k; omega)
          unfold encR2 at hy
          gi_wp2
          refine hR.mono ?_
          rintro e W3 (⟨rfl, hJ3, hk3⟩ | ⟨rfl, hJx3⟩)
          · gi_wp2
            go_roundw
            case rel => exact ⟨k + 1, by omega, by go_num, by rw [hS]; exact hJ3, hb0.trans hk3.1, Eq.trans hk3.2 hNE⟩
            case measure => simp [intOf]; omega
          · gi_wp2
            refine bodyPost_ret (results_none rfl _ _ _) rfl ?_
            exact ⟨⟨_, rfl⟩, .inr ⟨_, by rw [← hS]; exact HPre.out (by omega), hJx3⟩⟩
    · obtain rfl : k = 2 := by omega
      gi_wp2
      go_end0
      exact ⟨⟨_, rfl⟩, .inl ⟨_, rfl, hJk⟩⟩
end Go.Proofs.Ytpenjfkdinmgmaa
