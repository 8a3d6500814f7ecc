/- The document's PutTree, walked whole. -/
import Derived.Test.YtnkpaockginooaaPutH
import Derived.Test.YtnkpaockginooaaPutE
namespace Go.Proofs.Ytnkpaockginooaa
set_option linter.unusedVariables false
set_option linter.unusedSimpArgs false
open Go.RowKit Go.Sort Go.Maps Go.WideShapes Go.ChangeShapes
def encI (x : Int) : List Value := [.int .i64 x]
def head14 (nb nx : Nat) : List Int := [3490578157, 56 + (nb : Int) + (nx : Int), 56, 56 + (nb : Int), 40, 17, 16, 0, nx, nb, 0, 0, 0, 0]
theorem head14_be (nb nx : Nat) : be4 (head14 nb nx) = be4 (headL nb nx) ++ List.replicate 16 0 := by
  have e : head14 nb nx = headL nb nx ++ [0, 0, 0, 0] := rfl
  have e2 : be4 [0, 0, 0, 0] = List.replicate 16 0 := by decide +kernel
  rw [e, ← e2]
  simp [be4]
theorem be4_snoc (l : List Int) (x : Int) : be4 (l ++ [x]) = be4 l ++ bytesN 4 false x := by simp [be4]
theorem own_base {w : World} {e : TypeId} {size n b0 b : Nat} {v : Value} {xs : List Value} (h : w.ownsRow b0 e size v n xs) (hb : ∀ i, v.ownBlock = some i → b ≤ i) : w.ownsRow b e size v n xs := by
  obtain ⟨h1, h2⟩ := h
  refine ⟨h1, ?_⟩
  rcases h2 with h2 | ⟨g, cap, cur, rfl, hg, hh, r⟩
  · exact .inl h2
  · exact .inr ⟨g, cap, cur, rfl, hb g (by simp [Value.ownBlock]), hh, r⟩
set_option maxRecDepth 100000 in
set_option maxHeartbeats 2000000 in
theorem rput_any (k : Nat) (t : Tr) (cs : List Value) (w : World) (hT : TrOk w w.heap.size k t cs) (hL : LensF k t) : Calls Try.prog 16 #[.agg cs.toArray] w (PutP t w) := by
  obtain ⟨sn, K1, n1, cc1, K2, n2, cc2, hv⟩ : ∃ (sn : ByteArray) (K1 : Option Addr) (n1 cc1 : Nat) (K2 : Option Addr) (n2 cc2 : Nat), cs = [.string sn, .slice K1 n1 cc1, .slice K2 n2 cc2] := by
    cases k with
    | zero => exact hT.elim
    | succ k =>
      obtain ⟨_, _, _, _, _, _, _, e, _⟩ := hT
      exact ⟨_, _, _, _, _, _, _, e⟩
  subst hv
  have hbt := bal (Below.refl w.heap.size w) (.cells #[.string sn, .slice K1 n1 cc1, .slice K2 n2 cc2] 25)
  have hTt := Blk.new w 25 #[.string sn, .slice K1 n1 cc1, .slice K2 n2 cc2]
  have HC := Lib.hid (rCheck_any k t _ (w.alloc (.cells #[.string sn, .slice K1 n1 cc1, .slice K2 n2 cc2] 25)) (hT.kept hbt) hL)
  have HT := Lib.hid hT
  have HBt := Lib.hid hbt
  have hzt : (w.alloc (.cells #[.string sn, .slice K1 n1 cc1, .slice K2 n2 cc2] 25)).heap.size = w.heap.size + 1 := by simp
  have HZt := Lib.hid hzt
  clear hT hL hbt hzt
  go_enter Try.func16, Try.ntmps16
  rcases hm : mayT t with _ | _
  · have HM := Lib.hid hm
    rw [hm] at HC
    clear hm
    go_wp2_with (go_at_call 18; refine HC.out.mono ?_; rintro e w1 ⟨rfl, hb1⟩)
    exact bodyPost_ret (v := .tuple #[.slice none 0 0, .int .i64 240]) (by simp [results, Try.results16, go_sem]) rfl (putP_no (by unfold putT; rw [HM.out]; rfl) (HBt.out.trans (hb1.mono HBt.out.size)))
  · have HM := Lib.hid hm
    rw [hm] at HC
    clear hm
    go_upto_region 3 with (go_at_call 18; refine HC.out.mono ?_; rintro e w1 ⟨rfl, hb1⟩)
    have hz1 := hb1.size
    rw [HZt.out] at hz1
    have hT1 := hTt.kept hb1
    have hb2 : RowKit.Below w.heap.size w w1 := HBt.out.trans (hb1.mono HBt.out.size)
    clear hb1 HC
    go_upto_region 4 with (fail)
    refine wp_name ?_
    intro w2 hw2
    obtain ⟨HW2, hT2, hb3, hz2⟩ : Hid (FSt w2 (fun i => i = w1.heap.size) w1.heap.size ⟨[], [], []⟩) ∧ Blk w2 w.heap.size 25 #[.string sn, .slice K1 n1 cc1, .slice K2 n2 cc2] ∧ RowKit.Below w.heap.size w w2 ∧ w2.heap.size = w1.heap.size + 1 := by
      refine ⟨?_, ?_, ?_, ?_⟩
      all_goals rw [hw2]
      · exact ⟨.slice none 0 0, .slice none 0 0, .slice none 0 0, Blk.fresh _ _ _, ⟨World.ownsRow_nil _ _ _ _, fun k hk => by simp [Value.ownBlock] at hk⟩, ⟨World.ownsRow_nil _ _ _ _, fun k hk => by simp [Value.ownBlock] at hk⟩, fun i hi => by simp [Value.ownBlock] at hi, ⟨World.ownsRow_nil _ _ _ _, fun k hk => by simp [Value.ownBlock] at hk⟩, rfl, fun i hi => by rw [hi]; simp⟩
      · exact hT1.alloc _
      · exact bal' hb2 _ (by omega)
      · simp
    clear hw2 hb2 hT1
    have cT := hT2.cell
    obtain ⟨⟨n', p'⟩, hmf⟩ : ∃ c, mayF 8 t (0, 0) = some c := by
      have := HM.out
      unfold mayT at this
      exact Option.isSome_iff_exists.1 this
    have hle := mayF_le _ _ _ _ hmf (by simp) (by simp)
    (try simp only at hle)
    have hbd := nodeS_bdo 8 0 t (0, 0) (n', p') ⟨[], [], []⟩ hmf ⟨by simp, by simp, by simp⟩
    have HNd := Lib.hid (fnode_any 8 k t _ 0 0 n' p' 0 w1.heap.size w.heap.size _ ⟨[], [], []⟩ w2 (HT.out.below hb3) hmf (by omega) (by omega) ⟨by simp, by simp, by simp⟩ (fun q hq => by simp at hq) HW2.out (fun i hi => by rw [hi]; omega) (by omega))
    generalize hG : w1.heap.size = G at *
    have HG := Lib.hid hG
    have HZ2 := Lib.hid hz2
    clear hG hz2
    go_upto_region 5 with (go_at_call 38; refine HNd.out.mono ?_; rintro e w3 ⟨rfl, hwo⟩)
    obtain ⟨S3, hw3, hn3, hs3⟩ := hwo
    obtain ⟨sN, hsN⟩ : ∃ s, nodeS 8 t ⟨[], [], []⟩ = s := ⟨_, rfl⟩
    rw [hsN] at hw3 hbd
    have hbd1 := hbd.1
    (try simp only at hbd1)
    have HF9 := Lib.hid (ffour_any G sN S3 9 w3 hw3 (by omega) (by decide) (by decide))
    have HN3 := Lib.hid hn3
    have HS3 := Lib.hid hs3
    have HB3 := Lib.hid hb3
    have HSN := Lib.hid hsN
    have HBd := Lib.hid hbd
    have hz3 := hn3.size
    clear hw3 HNd hn3 hs3 hb3 hsN hbd hbd1 cT hT2 HW2
    go_upto_region 6 with (go_at_call 39; refine HF9.out.mono ?_; rintro e w4 ⟨rfl, hw4, hn4⟩)
    have hb4 : RowKit.Below w.heap.size w w4 := by
      have e1 := HG.out
      have e3 := HZ2.out
      have h1 : RowKit.Below w.heap.size w w3 := HB3.out.trans (HN3.out.below (fun i hi => by rw [hi]; omega) (by omega))
      refine h1.trans (hn4.below (fun i hi => ?_) (by have := h1.size; omega))
      rcases HS3.out i hi with h | h
      · rw [h]; omega
      · omega
    have hPS : putS t = ⟨sN.b ++ bytesN 4 false 9, sN.x, sN.n⟩ := by unfold putS; rw [HSN.out, be4_one]
    obtain ⟨vb, vx, vn, hB, hob, hox, _, hSg, hSb, _⟩ := hw4
    obtain ⟨s, hs⟩ : ∃ s : WS, s = ⟨sN.b ++ bytesN 4 false 9, sN.x, sN.n⟩ := ⟨_, rfl⟩
    rw [← hs] at hPS hob hox
    obtain ⟨nb, hnb⟩ : ∃ n, s.b.length = n := ⟨_, rfl⟩
    obtain ⟨nx, hnx⟩ : ∃ n, s.x.length = n := ⟨_, rfl⟩
    rw [hnb] at hob
    rw [hnx] at hox
    have hnb2 : nb ≤ 5000000 := by
      have := HBd.out.1
      rw [← hnb, hs]
      show (sN.b ++ bytesN 4 false 9).length ≤ _
      rw [List.length_append, bytesN_len]
      omega
    have hnx2 : nx ≤ 40000 := by
      have := HBd.out.2.1
      rw [← hnx, hs]
      show sN.x.length ≤ _
      omega
    obtain ⟨Ab, cb, rfl, _, hrb⟩ := own_slice hob
    obtain ⟨Ax, cx, rfl, _, hrx⟩ := own_slice hox.1
    have HPS := Lib.hid hPS
    have HNb := Lib.hid hnb
    have HNx := Lib.hid hnx
    have HRb := Lib.hid hrb
    have HRx := Lib.hid hrx
    have hB4 := hB
    have cB := hB.cell
    have hGlt := hB.lt
    have hz4 := hn4.size
    clear hob hox hSb hSg hn4 hrb hrx hPS hnb hnx hs hB
    by_cases hlong : 16384 < 56 + nb + nx
    · have hl' : decide ((16384 : Int) < 56 + (nb : Int) + (nx : Int)) = true := decide_eq_true (by omega)
      go_wp2_with fail
      exact bodyPost_ret (v := .tuple #[.slice none 0 0, .int .i64 2]) (by simp [results, Try.results16, go_sem]) rfl (putP_no (by unfold putT; rw [HM.out, HPS.out, HNb.out, HNx.out, if_pos rfl, if_pos hlong]) hb4)
    · have hl' : decide ((16384 : Int) < 56 + (nb : Int) + (nx : Int)) = false := decide_eq_false (by omega)
      have HWhole := Lib.hid (show putT t = (wholeL s, 0) by unfold putT; rw [HM.out, HPS.out, HNb.out, HNx.out, if_pos rfl, if_neg hlong])
      have HLen := Lib.hid (show (wholeL s).length = 56 + nb + nx by unfold wholeL; rw [HNb.out, HNx.out]; simp [be4_len, headL, HNb.out, HNx.out]; omega)
      go_upto_region 11 with (fail)
      have hB5 := hB4.alloc (.cells #[.slice none 0 0, .slice none 0 0, .slice none 0 0] 77)
      have hH5 : FSt (w4.alloc (.cells #[.slice none 0 0, .slice none 0 0, .slice none 0 0] 77)) (fun i => i = w4.heap.size) w4.heap.size ⟨[], [], []⟩ :=
        ⟨.slice none 0 0, .slice none 0 0, .slice none 0 0, Blk.fresh _ _ _, ⟨World.ownsRow_nil _ _ _ _, fun k hk => by simp [Value.ownBlock] at hk⟩, ⟨World.ownsRow_nil _ _ _ _, fun k hk => by simp [Value.ownBlock] at hk⟩, fun i hi => by simp [Value.ownBlock] at hi, ⟨World.ownsRow_nil _ _ _ _, fun k hk => by simp [Value.ownBlock] at hk⟩, rfl, fun i hi => by rw [hi]; simp⟩
      have hb5 := bal' hb4 (.cells #[.slice none 0 0, .slice none 0 0, .slice none 0 0] 77) hb4.size
      have hx5 := bal (Below.refl w4.heap.size w4) (.cells #[.slice none 0 0, .slice none 0 0, .slice none 0 0] 77)
      have HRb5 := Lib.hid (HRb.out.below hx5)
      have HRx5 := Lib.hid (HRx.out.below hx5)
      have hzw : w.heap.size ≤ w4.heap.size := hb4.size
      have hz5 : (w4.alloc (.cells #[.slice none 0 0, .slice none 0 0, .slice none 0 0] 77)).heap.size = w4.heap.size + 1 := by simp
      generalize w4.alloc (.cells #[.slice none 0 0, .slice none 0 0, .slice none 0 0] 77) = w5 at *
      generalize hH : w4.heap.size = H at *
      have HH := Lib.hid hH
      have HZ5 := Lib.hid hz5
      clear hB4 hx5 hb4 hz4 hz5 hH cB
      have hS1 : (fun W' : World => ∀ i, W'.cell? ⟨G, i, none⟩ = (#[.slice Ab nb cb, .slice Ax nx cx, vn] : Array Value)[i]?) w5.drew := hB5.drew.cell
      refine wp_region_held_drew (S := fun W' : World => ∀ i, W'.cell? ⟨G, i, none⟩ = (#[.slice Ab nb cb, .slice Ax nx cx, vn] : Array Value)[i]?) (by kernel_rfl) hS1 (fun hHeld => ?_)
      clear hHeld
      refine wpAnyH_take (i := 0) (v := ?va0) rfl (by kernel_rfl) (by kernel_rfl) (by kernel_rfl) (fun _ _ _ h => h) (Or.inl ⟨by kernel_rfl, ?hya0⟩) hS1 ?resta0
      case hya0 =>
        intro w hSw
        clear hSw
        go_simp
        first | done | with_reducible rfl
      (try simp only [List.getElem_toArray, List.getElem_cons_succ, List.getElem_cons_zero, Act.put, List.setIfInBounds_toArray, List.set_cons_zero, List.set_cons_succ])
      refine wpAnyH_take (i := 1) (v := ?va1) rfl (by kernel_rfl) (by kernel_rfl) (by kernel_rfl) (fun _ _ _ h => h) (Or.inl ⟨by kernel_rfl, ?hya1⟩) hS1 ?resta1
      case hya1 =>
        intro w hSw
        clear hSw
        go_simp
        first | done | with_reducible rfl
      (try simp only [List.getElem_toArray, List.getElem_cons_succ, List.getElem_cons_zero, Act.put, List.setIfInBounds_toArray, List.set_cons_zero, List.set_cons_succ])
      refine wpAnyH_take (i := 2) (v := ?va2) rfl (by kernel_rfl) (by kernel_rfl) (by kernel_rfl) (fun _ _ _ h => h) (Or.inl ⟨by kernel_rfl, ?hya2⟩) hS1 ?resta2
      case hya2 =>
        intro w hSw
        clear hSw
        go_simp
        first | done | with_reducible rfl
      (try simp only [List.getElem_toArray, List.getElem_cons_succ, List.getElem_cons_zero, Act.put, List.setIfInBounds_toArray, List.set_cons_zero, List.set_cons_succ])
      refine wpAnyH_take (i := 3) (v := ?va3) rfl (by kernel_rfl) (by kernel_rfl) (by kernel_rfl) (fun _ _ _ h => h) (Or.inl ⟨by kernel_rfl, ?hya3⟩) hS1 ?resta3
      case hya3 =>
        intro w hSw
        clear hSw
        go_simp
        first | done | with_reducible rfl
      (try simp only [List.getElem_toArray, List.getElem_cons_succ, List.getElem_cons_zero, Act.put, List.setIfInBounds_toArray, List.set_cons_zero, List.set_cons_succ])
      refine wpAnyH_take (i := 4) (v := ?va4) rfl (by kernel_rfl) (by kernel_rfl) (by kernel_rfl) (fun _ _ _ h => h) (Or.inl ⟨by kernel_rfl, ?hya4⟩) hS1 ?resta4
      case hya4 =>
        intro w hSw
        clear hSw
        go_simp
        first | done | with_reducible rfl
      (try simp only [List.getElem_toArray, List.getElem_cons_succ, List.getElem_cons_zero, Act.put, List.setIfInBounds_toArray, List.set_cons_zero, List.set_cons_succ])
      refine wpAnyH_take (i := 5) (v := ?va5) rfl (by kernel_rfl) (by kernel_rfl) (by kernel_rfl) (fun _ _ _ h => h) (Or.inl ⟨by kernel_rfl, ?hya5⟩) hS1 ?resta5
      case hya5 =>
        intro w hSw
        (try dsimp only at hSw)
        go_simp
        first | done | with_reducible rfl
      (try simp only [List.getElem_toArray, List.getElem_cons_succ, List.getElem_cons_zero, Act.put, List.setIfInBounds_toArray, List.set_cons_zero, List.set_cons_succ])
      refine wpAnyH_take (i := 6) (v := ?va6) rfl (by kernel_rfl) (by kernel_rfl) (by kernel_rfl) (fun _ _ _ h => h) (Or.inl ⟨by kernel_rfl, ?hya6⟩) hS1 ?resta6
      case hya6 =>
        intro w hSw
        clear hSw
        go_simp
        first | done | with_reducible rfl
      (try simp only [List.getElem_toArray, List.getElem_cons_succ, List.getElem_cons_zero, Act.put, List.setIfInBounds_toArray, List.set_cons_zero, List.set_cons_succ])
      refine wpAnyH_take (i := 7) (v := ?va7) rfl (by kernel_rfl) (by kernel_rfl) (by kernel_rfl) (fun _ _ _ h => h) (Or.inl ⟨by kernel_rfl, ?hya7⟩) hS1 ?resta7
      case hya7 =>
        intro w hSw
        clear hSw
        go_simp
        first | done | with_reducible rfl
      (try simp only [List.getElem_toArray, List.getElem_cons_succ, List.getElem_cons_zero, Act.put, List.setIfInBounds_toArray, List.set_cons_zero, List.set_cons_succ])
      refine wpAnyH_take (i := 8) (v := ?va8) rfl (by kernel_rfl) (by kernel_rfl) (by kernel_rfl) (fun _ _ _ h => h) (Or.inl ⟨by kernel_rfl, ?hya8⟩) hS1 ?resta8
      case hya8 =>
        intro w hSw
        clear hSw
        go_simp
        first | done | with_reducible rfl
      (try simp only [List.getElem_toArray, List.getElem_cons_succ, List.getElem_cons_zero, Act.put, List.setIfInBounds_toArray, List.set_cons_zero, List.set_cons_succ])
      refine wpAnyH_take (i := 9) (v := ?va9) rfl (by kernel_rfl) (by kernel_rfl) (by kernel_rfl) (fun _ _ _ h => h) (Or.inl ⟨by kernel_rfl, ?hya9⟩) hS1 ?resta9
      case hya9 =>
        intro w hSw
        clear hSw
        go_simp
        first | done | with_reducible rfl
      (try simp only [List.getElem_toArray, List.getElem_cons_succ, List.getElem_cons_zero, Act.put, List.setIfInBounds_toArray, List.set_cons_zero, List.set_cons_succ])
      refine wpAnyH_take (i := 10) (v := ?va10) rfl (by kernel_rfl) (by kernel_rfl) (by kernel_rfl) (fun _ _ _ h => h) (Or.inl ⟨by kernel_rfl, ?hya10⟩) hS1 ?resta10
      case hya10 =>
        intro w hSw
        (try dsimp only at hSw)
        go_simp
        first | done | with_reducible rfl
      (try simp only [List.getElem_toArray, List.getElem_cons_succ, List.getElem_cons_zero, Act.put, List.setIfInBounds_toArray, List.set_cons_zero, List.set_cons_succ])
      refine wpAnyH_take (i := 11) (v := ?va11) rfl (by kernel_rfl) (by kernel_rfl) (by kernel_rfl) (fun _ _ _ h => h) (Or.inl ⟨by kernel_rfl, ?hya11⟩) hS1 ?resta11
      case hya11 =>
        intro w hSw
        clear hSw
        go_simp
        first | done | with_reducible rfl
      (try simp only [List.getElem_toArray, List.getElem_cons_succ, List.getElem_cons_zero, Act.put, List.setIfInBounds_toArray, List.set_cons_zero, List.set_cons_succ])
      refine wpAnyH_take (i := 14) (v := ?va14) rfl (by kernel_rfl) (by kernel_rfl) (by kernel_rfl) (fun _ _ _ h => h) (Or.inl ⟨by kernel_rfl, ?hya14⟩) hS1 ?resta14
      case hya14 =>
        intro w hSw
        clear hSw
        go_simp
        first | done | with_reducible rfl
      (try simp only [List.getElem_toArray, List.getElem_cons_succ, List.getElem_cons_zero, Act.put, List.setIfInBounds_toArray, List.set_cons_zero, List.set_cons_succ])
      refine wpAnyH_call (i := 12) (by kernel_rfl) rfl (by kernel_rfl) fun K hK => ?_
      simp only [List.getElem_toArray, List.getElem_cons_succ, List.getElem_cons_zero]
      go_simp
      have hbz : Below w5.heap.size w5 (w5.alloc (.cells #[.int .i64 3490578157, .int .i64 (56 + (nb : Int) + (nx : Int)), .int .i64 56, .int .i64 (56 + (nb : Int)), .int .i64 40, .int .i64 17, .int .i64 16, .int .i64 0, .int .i64 nx, .int .i64 nb, .int .i64 0, .int .i64 0, .int .i64 0, .int .i64 0] 3)).drew := (bal (Below.refl w5.heap.size w5) _).drew
      have HRz := Lib.hid ((Rd.fresh w5 #[.int .i64 3490578157, .int .i64 (56 + (nb : Int) + (nx : Int)), .int .i64 56, .int .i64 (56 + (nb : Int)), .int .i64 40, .int .i64 17, .int .i64 16, .int .i64 0, .int .i64 nx, .int .i64 nb, .int .i64 0, .int .i64 0, .int .i64 0, .int .i64 0] 3 14 1 w5.heap.size rfl rfl).below (Below.refl _ _).drew)
      have hS2 : (fun W' : World => ∀ i, W'.cell? ⟨G, i, none⟩ = (#[.slice Ab nb cb, .slice Ax nx cx, vn] : Array Value)[i]?) (w5.alloc (.cells #[.int .i64 3490578157, .int .i64 (56 + (nb : Int) + (nx : Int)), .int .i64 56, .int .i64 (56 + (nb : Int)), .int .i64 40, .int .i64 17, .int .i64 16, .int .i64 0, .int .i64 nx, .int .i64 nb, .int .i64 0, .int .i64 0, .int .i64 0, .int .i64 0] 3)).drew := (hB5.kept hbz).cell
      have hH6 := hH5.kept hbz
      have hB6 := hB5.kept hbz
      have hzz : (w5.alloc (.cells #[.int .i64 3490578157, .int .i64 (56 + (nb : Int) + (nx : Int)), .int .i64 56, .int .i64 (56 + (nb : Int)), .int .i64 40, .int .i64 17, .int .i64 16, .int .i64 0, .int .i64 nx, .int .i64 nb, .int .i64 0, .int .i64 0, .int .i64 0, .int .i64 0] 3)).drew.heap.size = w5.heap.size + 1 := by simp
      refine hK.out _ _ hS2 ?_
      clear hK K
      (try simp only [List.getElem_toArray, List.getElem_cons_succ, List.getElem_cons_zero, Act.put, List.setIfInBounds_toArray, List.set_cons_zero, List.set_cons_succ])
      refine wpAnyH_take (i := 13) (v := ?va13) rfl (by kernel_rfl) (by kernel_rfl) (by kernel_rfl) (fun _ _ _ h => h) (Or.inl ⟨by kernel_rfl, ?hya13⟩) hS2 ?resta13
      case hya13 =>
        intro w hSw
        clear hSw
        go_simp
        first | done | with_reducible rfl
      (try simp only [List.getElem_toArray, List.getElem_cons_succ, List.getElem_cons_zero, Act.put, List.setIfInBounds_toArray, List.set_cons_zero, List.set_cons_succ])
      refine wpAnyH_done (by kernel_rfl) ?_ _
      have HZz := Lib.hid hzz
      clear hS1 hS2 hzz hB5 hH5
      have HBz := Lib.hid hbz
      clear hbz
      generalize (w5.alloc (.cells #[.int .i64 3490578157, .int .i64 (56 + (nb : Int) + (nx : Int)), .int .i64 56, .int .i64 (56 + (nb : Int)), .int .i64 40, .int .i64 17, .int .i64 16, .int .i64 0, .int .i64 nx, .int .i64 nb, .int .i64 0, .int .i64 0, .int .i64 0, .int .i64 0] 3)).drew = wz at *
      have HRq : Hid (Rd wz (w5.heap.size + 1) 1 (some ⟨w5.heap.size, 0, none⟩) 14 ((head14 nb nx).flatMap encI)) := Lib.hid (by
        obtain ⟨r1, r2⟩ := HRz.out
        exact ⟨r1, fun h => by
          obtain ⟨b, off, e, hb, hc⟩ := r2 h
          simp only [Option.some.injEq, Addr.mk.injEq, and_true] at e
          obtain ⟨rfl, rfl⟩ := e
          exact ⟨_, _, rfl, Nat.lt_succ_self _, hc⟩⟩)
      have HLb : Hid (∀ x ∈ head14 nb nx, 0 ≤ x ∧ x < 4294967296) := Lib.hid (by
        intro x hx
        simp only [head14, List.mem_cons, List.not_mem_nil, or_false] at hx
        rcases hx with rfl | rfl | rfl | rfl | rfl | rfl | rfl | rfl | rfl | rfl | rfl | rfl | rfl | rfl <;> omega)
      have HH6 := Lib.hid hH6
      have hl14 : (head14 nb nx).length = 14 := rfl
      have HL14 := Lib.hid hl14
      clear HRz hH6 hl14
      obtain ⟨hl, hhl⟩ : ∃ l, head14 nb nx = l := ⟨_, rfl⟩
      rw [hhl] at HRq HLb HL14
      have HHl := Lib.hid hhl
      clear hhl
      go_wp2_with fail
      go_loopw [51] (fun i wr => ∃ j : Nat, j ≤ 14 ∧ i = .int .i64 j ∧ FOut (fun i => i = H) H ⟨be4 (hl.take j), [], []⟩ wz wr) (fun i _ => 14 - (intOf i).toNat)
      case atStart => exact ⟨0, by omega, rfl, _, HH6.out, Near.refl _ _, fun i hi => .inl hi⟩
      case round =>
        obtain ⟨j, hj, rfl, SH, hw, hn, hs⟩ := hrel
        have hzr := hn.size
        by_cases hlt : j < 14
        · obtain ⟨y, hy⟩ : ∃ y, hl[j]? = some y := ⟨_, List.getElem?_eq_getElem (by rw [HL14.out]; exact hlt)⟩
          have hx0 : wr.cell? ⟨w5.heap.size, j, none⟩ = some (.int .i64 y) := by
            obtain ⟨b, off, e, hb, hd⟩ := HRq.out.row (enc := encI) (fun _ => rfl) (k := j) (by rw [HL14.out]; exact hlt) HL14.out
            simp only [Option.some.injEq, Addr.mk.injEq, and_true] at e
            obtain ⟨rfl, rfl⟩ := e
            have h0 := hd 0 (by omega)
            have hg : hl[j]'(by rw [HL14.out]; exact hlt) = y := (List.getElem?_eq_some_iff.1 hy).2
            rw [hg] at h0
            simp only [encI, Nat.zero_add, Nat.mul_one, Nat.add_zero, List.getElem?_cons_zero] at h0
            have hk : wr.heap[w5.heap.size]? = wz.heap[w5.heap.size]? := hn.block _ (by have := HZz.out; omega) (by have := HZ5.out; omega)
            exact (cell_same hk _).trans h0
          have hyb := HLb.out y (List.mem_of_getElem? hy)
          have HHy := Lib.hid hy
          have hl4 : (be4 (hl.take j)).length ≤ 100 := by rw [be4_len, List.length_take]; omega
          have HF4 := Lib.hid (ffour_out H ⟨be4 (hl.take j), [], []⟩ SH y wr hw (by show (be4 (hl.take j)).length ≤ _; omega) hyb.1 hyb.2)
          have HN := Lib.hid hn
          have HS := Lib.hid hs
          clear hw hn hs hy hl4
          go_wp2_with (go_at_call 39; refine HF4.out.mono ?_; rintro e w6 ⟨rfl, hw6⟩)
          go_roundw
          case rel =>
            refine ⟨j + 1, by omega, by go_num, ?_⟩
            have := FOut.trans HN.out HS.out hw6
            rw [List.take_add_one, HHy.out]
            show FOut _ _ ⟨be4 (hl.take j ++ [y]), [], []⟩ _ _
            rw [be4_snoc]
            exact this
          case measure => simp [intOf]; omega
        · obtain rfl : j = 14 := by omega
          have etk : hl.take 14 = hl := by rw [← HL14.out, List.take_length]
          rw [etk] at hw
          obtain ⟨vh, vx2, vn2, hBh, hoh, _, _, _, _, _⟩ := hw
          have hBG : Blk wr G 77 #[.slice Ab nb cb, .slice Ax nx cx, vn] := hB6.same (hn.block G hB6.lt (by omega))
          have hown : wr.ownsRow (H + 1) 5 1 vh 56 ((be4 hl).flatMap encB) := by
            have h1 := own_base (b := H + 1) hoh.1 (fun i hi => by
              have hne : i ≠ H := fun e => own_blk_ne hoh.1 hBh (by decide) (by rw [hi, e])
              rcases hs i (hoh.2 i hi) with h | h
              · omega
              · have := HZz.out
                have := HZ5.out
                omega)
            have h2 : (⟨be4 hl, [], []⟩ : WS).b.length = 56 := by show (be4 hl).length = 56; rw [be4_len, HL14.out]
            rw [h2] at h1
            exact h1
          obtain ⟨Ah, ch, rfl, _, _⟩ := own_slice hown
          have hbH : Below H w5 wr := (HBz.out.mono (by have := HZ5.out; omega)).trans (hn.below (fun i hi => by omega) (by have := HZz.out; have := HZ5.out; omega))
          have hzH : H + 1 ≤ wr.heap.size := by have := HZz.out; have := HZ5.out; omega
          have hrb7 : Rd wr wr.heap.size 1 Ab nb (s.b.flatMap encB) := (HRb5.out.below hbH).more (by omega)
          have hbw : RowKit.Below w.heap.size w wr := hb5.trans (hbH.mono (by omega))
          obtain ⟨v8, w8, hr8, hown8, hb8⟩ := run_appb wr.drew (H + 1) 28 (.slice Ah 56 ch) 56 (be4 hl) (own_kept hown (Below.refl _ _).drew) Ab nb cb s.b (hrb7.below (Below.refl _ _).drew) (by omega) hzH
          obtain ⟨A8, c8, hv8, _, _⟩ := own_slice hown8
          subst hv8
          have hb8' : Below (H + 1) wr w8 := (Below.refl _ wr).drew.trans hb8
          have hrx8 : Rd w8 w8.heap.size 1 Ax nx (s.x.flatMap encB) := (HRx5.out.below (hbH.trans (hb8'.mono (by omega)))).more (by have := hb8'.size; omega)
          obtain ⟨v9, w9, hr9, hown9, hb9⟩ := run_appb w8 (H + 1) 28 (.slice A8 (56 + nb) c8) (56 + nb) (be4 hl ++ s.b) hown8 Ax nx cx s.x hrx8 (by omega) (by have := hb8'.size; omega)
          obtain ⟨A9, c9, hv9, _, _⟩ := own_slice hown9
          subst hv9
          have hb9' := hb8'.trans hb9
          have hG8 := hBG.same (hb8'.block G (by omega))
          have hH8 := hBh.same (hb8'.block H (by omega))
          have hG9 := hBG.same (hb9'.block G (by omega))
          have hH9 := hBh.same (hb9'.block H (by omega))
          have hbw9 : RowKit.Below w.heap.size w w9 := hbw.trans (hb9'.mono (by omega))
          have HBw9 := Lib.hid hbw9
          have HO9 := Lib.hid hown9
          clear hn hs hoh hown hrb7 hown8 hb8 hb8' hrx8 hown9 hb9 hb9' hbw9 hbw hbH etk hB6
          go_upto_region 16 with (fail)
          have hS1 : (fun W' : World => (∀ i, W'.cell? ⟨G, i, none⟩ = (#[.slice Ab nb cb, .slice Ax nx cx, vn] : Array Value)[i]?) ∧ (∀ i, W'.cell? ⟨H, i, none⟩ = (#[.slice Ah 56 ch, vx2, vn2] : Array Value)[i]?)) wr.drew := ⟨hBG.drew.cell, hBh.drew.cell⟩
          refine wp_region_held_drew (S := fun W' : World => (∀ i, W'.cell? ⟨G, i, none⟩ = (#[.slice Ab nb cb, .slice Ax nx cx, vn] : Array Value)[i]?) ∧ (∀ i, W'.cell? ⟨H, i, none⟩ = (#[.slice Ah 56 ch, vx2, vn2] : Array Value)[i]?)) (by kernel_rfl) hS1 (fun hHeld => ?_)
          clear hHeld
          refine wpAnyH_take (i := 0) (v := ?vb0) rfl (by kernel_rfl) (by kernel_rfl) (by kernel_rfl) (fun _ _ _ h => h) (Or.inl ⟨by kernel_rfl, ?hyb0⟩) hS1 ?restb0
          case hyb0 =>
            intro w hSw
            clear hSw
            go_simp
            first | done | with_reducible rfl
          (try simp only [List.getElem_toArray, List.getElem_cons_succ, List.getElem_cons_zero, Act.put, List.setIfInBounds_toArray, List.set_cons_zero, List.set_cons_succ])
          refine wpAnyH_take (i := 1) (v := ?vb1) rfl (by kernel_rfl) (by kernel_rfl) (by kernel_rfl) (fun _ _ _ h => h) (Or.inl ⟨by kernel_rfl, ?hyb1⟩) hS1 ?restb1
          case hyb1 =>
            intro w hSw
            clear hSw
            go_simp
            first | done | with_reducible rfl
          (try simp only [List.getElem_toArray, List.getElem_cons_succ, List.getElem_cons_zero, Act.put, List.setIfInBounds_toArray, List.set_cons_zero, List.set_cons_succ])
          refine wpAnyH_take (i := 2) (v := ?vb2) rfl (by kernel_rfl) (by kernel_rfl) (by kernel_rfl) (fun _ _ _ h => h) (Or.inl ⟨by kernel_rfl, ?hyb2⟩) hS1 ?restb2
          case hyb2 =>
            intro w hSw
            clear hSw
            go_simp
            first | done | with_reducible rfl
          (try simp only [List.getElem_toArray, List.getElem_cons_succ, List.getElem_cons_zero, Act.put, List.setIfInBounds_toArray, List.set_cons_zero, List.set_cons_succ])
          refine wpAnyH_take (i := 3) (v := ?vb3) rfl (by kernel_rfl) (by kernel_rfl) (by kernel_rfl) (fun _ _ _ h => h) (Or.inl ⟨by kernel_rfl, ?hyb3⟩) hS1 ?restb3
          case hyb3 =>
            intro w hSw
            obtain ⟨hSa, hSb⟩ := hSw
            go_simp
            first | done | with_reducible rfl
          (try simp only [List.getElem_toArray, List.getElem_cons_succ, List.getElem_cons_zero, Act.put, List.setIfInBounds_toArray, List.set_cons_zero, List.set_cons_succ])
          refine wpAnyH_take (i := 4) (v := ?vb4) rfl (by kernel_rfl) (by kernel_rfl) (by kernel_rfl) (fun _ _ _ h => h) (Or.inl ⟨by kernel_rfl, ?hyb4⟩) hS1 ?restb4
          case hyb4 =>
            intro w hSw
            clear hSw
            go_simp
            first | done | with_reducible rfl
          (try simp only [List.getElem_toArray, List.getElem_cons_succ, List.getElem_cons_zero, Act.put, List.setIfInBounds_toArray, List.set_cons_zero, List.set_cons_succ])
          refine wpAnyH_take (i := 5) (v := ?vb5) rfl (by kernel_rfl) (by kernel_rfl) (by kernel_rfl) (fun _ _ _ h => h) (Or.inl ⟨by kernel_rfl, ?hyb5⟩) hS1 ?restb5
          case hyb5 =>
            intro w hSw
            clear hSw
            go_simp
            first | done | with_reducible rfl
          (try simp only [List.getElem_toArray, List.getElem_cons_succ, List.getElem_cons_zero, Act.put, List.setIfInBounds_toArray, List.set_cons_zero, List.set_cons_succ])
          refine wpAnyH_take (i := 6) (v := ?vb6) rfl (by kernel_rfl) (by kernel_rfl) (by kernel_rfl) (fun _ _ _ h => h) (Or.inl ⟨by kernel_rfl, ?hyb6⟩) hS1 ?restb6
          case hyb6 =>
            intro w hSw
            clear hSw
            go_simp
            first | done | with_reducible rfl
          (try simp only [List.getElem_toArray, List.getElem_cons_succ, List.getElem_cons_zero, Act.put, List.setIfInBounds_toArray, List.set_cons_zero, List.set_cons_succ])
          refine wpAnyH_take (i := 7) (v := ?vb7) rfl (by kernel_rfl) (by kernel_rfl) (by kernel_rfl) (fun _ _ _ h => h) (Or.inl ⟨by kernel_rfl, ?hyb7⟩) hS1 ?restb7
          case hyb7 =>
            intro w hSw
            obtain ⟨hSa, hSb⟩ := hSw
            go_simp
            first | done | with_reducible rfl
          (try simp only [List.getElem_toArray, List.getElem_cons_succ, List.getElem_cons_zero, Act.put, List.setIfInBounds_toArray, List.set_cons_zero, List.set_cons_succ])
          refine wpAnyH_take (i := 9) (v := ?vb9) rfl (by kernel_rfl) (by kernel_rfl) (by kernel_rfl) (fun _ _ _ h => h) (Or.inl ⟨by kernel_rfl, ?hyb9⟩) hS1 ?restb9
          case hyb9 =>
            intro w hSw
            clear hSw
            go_simp
            first | done | with_reducible rfl
          (try simp only [List.getElem_toArray, List.getElem_cons_succ, List.getElem_cons_zero, Act.put, List.setIfInBounds_toArray, List.set_cons_zero, List.set_cons_succ])
          refine wpAnyH_take (i := 10) (v := ?vb10) rfl (by kernel_rfl) (by kernel_rfl) (by kernel_rfl) (fun _ _ _ h => h) (Or.inl ⟨by kernel_rfl, ?hyb10⟩) hS1 ?restb10
          case hyb10 =>
            intro w hSw
            clear hSw
            go_simp
            first | done | with_reducible rfl
          (try simp only [List.getElem_toArray, List.getElem_cons_succ, List.getElem_cons_zero, Act.put, List.setIfInBounds_toArray, List.set_cons_zero, List.set_cons_succ])
          refine wpAnyH_take (i := 11) (v := ?vb11) rfl (by kernel_rfl) (by kernel_rfl) (by kernel_rfl) (fun _ _ _ h => h) (Or.inl ⟨by kernel_rfl, ?hyb11⟩) hS1 ?restb11
          case hyb11 =>
            intro w hSw
            clear hSw
            go_simp
            first | done | with_reducible rfl
          (try simp only [List.getElem_toArray, List.getElem_cons_succ, List.getElem_cons_zero, Act.put, List.setIfInBounds_toArray, List.set_cons_zero, List.set_cons_succ])
          refine wpAnyH_take (i := 12) (v := ?vb12) rfl (by kernel_rfl) (by kernel_rfl) (by kernel_rfl) (fun _ _ _ h => h) (Or.inl ⟨by kernel_rfl, ?hyb12⟩) hS1 ?restb12
          case hyb12 =>
            intro w hSw
            obtain ⟨hSa, hSb⟩ := hSw
            go_simp
            first | done | with_reducible rfl
          (try simp only [List.getElem_toArray, List.getElem_cons_succ, List.getElem_cons_zero, Act.put, List.setIfInBounds_toArray, List.set_cons_zero, List.set_cons_succ])
          refine wpAnyH_call (i := 8) (by kernel_rfl) rfl (by kernel_rfl) fun K hK => ?_
          simp only [List.getElem_toArray, List.getElem_cons_succ, List.getElem_cons_zero]
          refine Lib.wp_append_run _ (.tmp 62) (.tmp 66) _ _ rfl (.slice Ah 56 ch) (.slice Ab nb cb) rfl rfl _ _ hr8 ?_
          have hS2 : (fun W' : World => (∀ i, W'.cell? ⟨G, i, none⟩ = (#[.slice Ab nb cb, .slice Ax nx cx, vn] : Array Value)[i]?) ∧ (∀ i, W'.cell? ⟨H, i, none⟩ = (#[.slice Ah 56 ch, vx2, vn2] : Array Value)[i]?)) w8 := ⟨hG8.cell, hH8.cell⟩
          refine hK.out _ _ hS2 ?_
          clear hK K
          (try simp only [List.getElem_toArray, List.getElem_cons_succ, List.getElem_cons_zero, Act.put, List.setIfInBounds_toArray, List.set_cons_zero, List.set_cons_succ])
          refine wpAnyH_call (i := 13) (by kernel_rfl) rfl (by kernel_rfl) fun K hK => ?_
          simp only [List.getElem_toArray, List.getElem_cons_succ, List.getElem_cons_zero]
          refine Lib.wp_append_run _ (.tmp 67) (.tmp 71) _ _ rfl (.slice A8 (56 + nb) c8) (.slice Ax nx cx) rfl rfl _ _ hr9 ?_
          have hS3 : (fun W' : World => (∀ i, W'.cell? ⟨G, i, none⟩ = (#[.slice Ab nb cb, .slice Ax nx cx, vn] : Array Value)[i]?) ∧ (∀ i, W'.cell? ⟨H, i, none⟩ = (#[.slice Ah 56 ch, vx2, vn2] : Array Value)[i]?)) w9 := ⟨hG9.cell, hH9.cell⟩
          refine hK.out _ _ hS3 ?_
          clear hK K
          (try simp only [List.getElem_toArray, List.getElem_cons_succ, List.getElem_cons_zero, Act.put, List.setIfInBounds_toArray, List.set_cons_zero, List.set_cons_succ])
          refine wpAnyH_take (i := 14) (v := ?vb14) rfl (by kernel_rfl) (by kernel_rfl) (by kernel_rfl) (fun _ _ _ h => h) (Or.inl ⟨by kernel_rfl, ?hyb14⟩) hS3 ?restb14
          case hyb14 =>
            intro w hSw
            clear hSw
            go_simp
            first | done | with_reducible rfl
          (try simp only [List.getElem_toArray, List.getElem_cons_succ, List.getElem_cons_zero, Act.put, List.setIfInBounds_toArray, List.set_cons_zero, List.set_cons_succ])
          refine wpAnyH_take (i := 15) (v := ?vb15) rfl (by kernel_rfl) (by kernel_rfl) (by kernel_rfl) (fun _ _ _ h => h) (Or.inl ⟨by kernel_rfl, ?hyb15⟩) hS3 ?restb15
          case hyb15 =>
            intro w hSw
            clear hSw
            go_simp
            first | done | with_reducible rfl
          (try simp only [List.getElem_toArray, List.getElem_cons_succ, List.getElem_cons_zero, Act.put, List.setIfInBounds_toArray, List.set_cons_zero, List.set_cons_succ])
          refine wpAnyH_done (by kernel_rfl) ?_ _
          clear hS1 hS2 hS3
          go_wp2_with fail
          have ew : wholeL s = be4 hl ++ s.b ++ s.x := by
            unfold wholeL
            rw [HNb.out, HNx.out, ← HHl.out, head14_be]
            simp
          refine bodyPost_ret (v := .tuple #[.slice A9 (56 + nb + nx) c9, .int .i64 0]) (by simp [results, Try.results16, go_sem]) rfl ⟨A9, c9, ?_, ?_, HBw9.out⟩
          · rw [HWhole.out, HLen.out]
          · rw [HWhole.out, HLen.out, ew]
            exact HO9.out.mono (by omega)
end Go.Proofs.Ytnkpaockginooaa
