/- fdt.Put, walked whole. -/
import Derived.Test.YtnkpaockginooaaPutD
namespace Go.Proofs.Ytnkpaockginooaa
set_option linter.unusedVariables false
set_option linter.unusedSimpArgs false
open Go.RowKit Go.Sort Go.Maps Go.WideShapes Go.ChangeShapes
/-- What a tree's structure and texts are. -/
noncomputable def putS (t : Tr) : WS := ⟨(nodeS 8 t ⟨[], [], []⟩).b ++ be4 [9], (nodeS 8 t ⟨[], [], []⟩).x, (nodeS 8 t ⟨[], [], []⟩).n⟩
def headL (nb nx : Nat) : List Int := [3490578157, 56 + (nb : Int) + (nx : Int), 56, 56 + (nb : Int), 40, 17, 16, 0, nx, nb]
def wholeL (s : WS) : List Int := be4 (headL s.b.length s.x.length) ++ (List.replicate 16 0 ++ (s.b ++ s.x))
/-- A tree as bytes, or why it is refused. -/
noncomputable def putT (t : Tr) : List Int × Int := if mayT t = true then if 16384 < 56 + (putS t).b.length + (putS t).x.length then ([], 2) else (wholeL (putS t), 0) else ([], 240)
theorem cat_whole (w7 : World) (A7 Ab Ax : Option Addr) (c7 cb cx nb nx : Nat) (s : WS) (hb : s.b.length = nb) (hx : s.x.length = nx) (hs : nb + nx ≤ 16384) (Z : Array Value) (hZ : Z.toList = (List.replicate 16 (0 : Int)).flatMap encB) (h8 : Rd w7 w7.heap.size 1 A7 40 ((be4 (headL nb nx)).flatMap encB))
    (h9 : Rd w7 w7.heap.size 1 Ab nb (s.b.flatMap encB)) (h10 : Rd w7 w7.heap.size 1 Ax nx (s.x.flatMap encB)) :
    Calls Try.prog 37 #[.slice (some ⟨w7.heap.size + 1, 0, none⟩) 4 4] ((w7.alloc (.cells Z 5)).alloc (.cells #[.slice A7 40 c7, .slice (some ⟨w7.heap.size, 0, none⟩) 16 16, .slice Ab nb cb, .slice Ax nx cx] 28)).drew fun e w' =>
      ∃ A c, e = .returned (.slice A (56 + nb + nx) c) ∧ w'.ownsRow w7.heap.size 5 1 (.slice A (56 + nb + nx) c) (56 + nb + nx) ((wholeL s).flatMap encB) ∧ Below w7.heap.size w7 w' := by
  have hb1 := bal (Below.refl w7.heap.size w7) (.cells Z 5)
  have hb2 := (bal hb1 (.cells #[.slice A7 40 c7, .slice (some ⟨w7.heap.size, 0, none⟩) 16 16, .slice Ab nb cb, .slice Ax nx cx] 28)).drew
  have hx2 := (bal (Below.refl _ (w7.alloc (.cells Z 5))) (.cells #[.slice A7 40 c7, .slice (some ⟨w7.heap.size, 0, none⟩) 16 16, .slice Ab nb cb, .slice Ax nx cx] 28)).drew
  have hZs : Z.size = 16 * 1 := by rw [← Array.length_toList, hZ]; rfl
  have hrz := ((Rd.fresh w7 Z 5 16 1 w7.heap.size hZs).below hx2).more hx2.size
  rw [hZ] at hrz
  have hr := (Rd.fresh (w7.alloc (.cells Z 5)) #[.slice A7 40 c7, .slice (some ⟨w7.heap.size, 0, none⟩) 16 16, .slice Ab nb cb, .slice Ax nx cx] 28 4 1 (w7.heap.size + 1) rfl).below (Below.refl _ _).drew
  have hl40 : (be4 (headL nb nx)).length = 40 := by rw [be4_len]; rfl
  have htot : (wholeL s).length = 56 + nb + nx := by unfold wholeL; rw [hb, hx]; simp [hl40, hb, hx]; omega
  have := cat_any (some ⟨w7.heap.size + 1, 0, none⟩) 4 4 [⟨A7, 40, c7, be4 (headL nb nx)⟩, ⟨some ⟨w7.heap.size, 0, none⟩, 16, 16, List.replicate 16 0⟩, ⟨Ab, nb, cb, s.b⟩, ⟨Ax, nx, cx, s.x⟩] _ rfl (by decide) hr
    (fun p hp => by
      simp only [List.mem_cons, List.not_mem_nil, or_false] at hp
      rcases hp with rfl | rfl | rfl | rfl
      · exact ⟨hl40, (h8.below hb2).more hb2.size⟩
      · exact ⟨(by decide : (List.replicate 16 (0 : Int)).length = 16), hrz⟩
      · exact ⟨hb, (h9.below hb2).more hb2.size⟩
      · exact ⟨hx, (h10.below hb2).more hb2.size⟩) (N := 56 + nb + nx) (by simp [catN, hl40, hb, hx]; omega) (by omega)
  refine this.mono ?_
  rintro e w' ⟨A, c, rfl, hown, hb'⟩
  refine ⟨A, c, rfl, ?_, hb2.trans (hb'.mono hb2.size)⟩
  have e1 : catN [⟨A7, 40, c7, be4 (headL nb nx)⟩, ⟨some ⟨w7.heap.size, 0, none⟩, 16, 16, List.replicate 16 0⟩, ⟨Ab, nb, cb, s.b⟩, ⟨Ax, nx, cx, s.x⟩] = wholeL s := by simp [catN, wholeL, hb, hx]
  rw [e1] at hown
  exact hown.mono hb2.size
theorem wrap64_id {x : Int} {y : Int} (h : x = y) (h0 : 0 ≤ x) (h1 : x ≤ 1000000000) : wrap64 x = y := by unfold wrap64; omega
/-- What Put answers. -/
def PutP (t : Tr) (w : World) (e : Ending) (w' : World) : Prop := ∃ A c, e = .returned (.tuple #[.slice A (putT t).1.length c, .int .i64 (putT t).2]) ∧ w'.ownsRow w.heap.size 5 1 (.slice A (putT t).1.length c) (putT t).1.length ((putT t).1.flatMap encB) ∧ Below w.heap.size w w'
theorem putP_no {t : Tr} {w w' : World} {x : Int} (h : putT t = ([], x)) (hb : Below w.heap.size w w') : PutP t w (.returned (.tuple #[.slice none 0 0, .int .i64 x])) w' := by
  refine ⟨none, 0, ?_, ?_, hb⟩
  · rw [h]; rfl
  · rw [h]; exact World.ownsRow_nil _ _ _ _
set_option maxRecDepth 100000 in
set_option maxHeartbeats 2000000 in
theorem put_any (k : Nat) (t : Tr) (cs : List Value) (w : World) (hT : TrOk w w.heap.size k t cs) (hL : LensF k t) : Calls Try.prog 15 #[.agg cs.toArray] w (PutP t w) := by
  have hmm := @run_makeMap Try.prog
  obtain ⟨sn, K1, n1, cc1, K2, n2, cc2, hv⟩ : ∃ (sn : ByteArray) (K1 : Option Addr) (n1 cc1 : Nat) (K2 : Option Addr) (n2 cc2 : Nat), cs = [.string sn, .slice K1 n1 cc1, .slice K2 n2 cc2] := by
    cases k with
    | zero => exact hT.elim
    | succ k =>
      obtain ⟨_, _, _, _, _, _, _, e, _⟩ := hT
      exact ⟨_, _, _, _, _, _, _, e⟩
  subst hv
  have hbt := bal (Below.refl w.heap.size w) (.cells #[.string sn, .slice K1 n1 cc1, .slice K2 n2 cc2] 25)
  have hTt := Blk.new w 25 #[.string sn, .slice K1 n1 cc1, .slice K2 n2 cc2]
  have HC := Lib.hid (check_any k t _ (w.alloc (.cells #[.string sn, .slice K1 n1 cc1, .slice K2 n2 cc2] 25)) (hT.kept hbt) hL)
  have HT := Lib.hid hT
  have HBt := Lib.hid hbt
  have hzt : (w.alloc (.cells #[.string sn, .slice K1 n1 cc1, .slice K2 n2 cc2] 25)).heap.size = w.heap.size + 1 := by simp
  have HZt := Lib.hid hzt
  clear hT hL hbt hzt
  go_enter Try.func15, Try.ntmps15
  rcases hm : mayT t with _ | _
  · have HM := Lib.hid hm
    rw [hm] at HC
    clear hm
    go_wp2_with (go_at_call 17; refine HC.out.mono ?_; rintro e w1 ⟨rfl, hb1⟩)
    exact bodyPost_ret (v := .tuple #[.slice none 0 0, .int .i64 240]) (by simp [results, Try.results15, go_sem]) rfl (putP_no (by unfold putT; rw [HM.out]; rfl) (HBt.out.trans (hb1.mono HBt.out.size)))
  · have HM := Lib.hid hm
    rw [hm] at HC
    clear hm
    go_upto_region 3 with (go_at_call 17; refine HC.out.mono ?_; rintro e w1 ⟨rfl, hb1⟩)
    have hz1 := hb1.size
    rw [HZt.out] at hz1
    have hT1 := hTt.kept hb1
    have hb2 : RowKit.Below w.heap.size w w1 := HBt.out.trans (hb1.mono HBt.out.size)
    clear hb1 HC
    go_upto_region 4 with (fail)
    refine wp_name ?_
    intro w2 hw2
    obtain ⟨HW2, hT2, hb3, hz2⟩ : Hid (WSt w2 (fun i => i = w1.heap.size + 1 ∨ i = w1.heap.size) (w1.heap.size + 1) w1.heap.size ⟨[], [], []⟩) ∧ Blk w2 w.heap.size 25 #[.string sn, .slice K1 n1 cc1, .slice K2 n2 cc2] ∧ RowKit.Below w.heap.size w w2 ∧ w2.heap.size = w1.heap.size + 2 := by
      refine ⟨?_, ?_, ?_, ?_⟩
      all_goals rw [hw2]
      · refine ⟨.slice none 0 0, .slice none 0 0, .map [], Blk.fresh _ _ _, ⟨World.ownsRow_nil _ _ _ _, fun k hk => by simp [Value.ownBlock] at hk⟩, ⟨World.ownsRow_nil _ _ _ _, fun k hk => by simp [Value.ownBlock] at hk⟩, fun i hi => by simp [Value.ownBlock] at hi, ?_, mapRel_nil, .inl rfl, .inr rfl, fun i hi => ?_⟩
        · exact (World.ownsMap_made w1 _ _ _).alloc _
        · rcases hi with rfl | rfl
          · simp
          · simp; omega
      · exact (hT1.alloc _).alloc _
      · exact bal' (bal' hb2 _ (by omega)) _ (by simp; omega)
      · simp
    clear hw2 hb2 hT1
    have cT := hT2.cell
    obtain ⟨⟨n', p'⟩, hmf⟩ : ∃ c, mayF 8 t (0, 0) = some c := by
      have := HM.out
      unfold mayT at this
      exact Option.isSome_iff_exists.1 this
    have hle := mayF_le _ _ _ _ hmf (by simp) (by simp)
    simp only at hle
    have hbd := nodeS_bdo 8 0 t (0, 0) (n', p') ⟨[], [], []⟩ hmf ⟨by simp, by simp, by simp⟩
    have HNd := Lib.hid (node_any 8 k t _ 0 0 n' p' 0 (w1.heap.size + 1) w1.heap.size w.heap.size _ ⟨[], [], []⟩ w2 (HT.out.below hb3) hmf (by omega) (by omega) ⟨by simp, by simp, by simp⟩ HW2.out (fun i hi => by rcases hi with rfl | rfl <;> omega) (by omega))
    generalize hG : w1.heap.size + 1 = G at *
    generalize hMb : w1.heap.size = Mb at *
    have HG := Lib.hid hG
    have HMb := Lib.hid hMb
    have HZ2 := Lib.hid hz2
    clear hG hMb hz2
    go_upto_region 5 with (go_at_call 35; refine HNd.out.mono ?_; rintro e w3 ⟨rfl, hwo⟩)
    obtain ⟨S3, hw3, hn3, hs3⟩ := hwo
    obtain ⟨sN, hsN⟩ : ∃ s, nodeS 8 t ⟨[], [], []⟩ = s := ⟨_, rfl⟩
    rw [hsN] at hw3 hbd
    have hbd1 := hbd.1
    have HF9 := Lib.hid (wfour_any G Mb sN S3 (some ⟨w3.heap.size, 0, none⟩) 1 1 [9] (w3.alloc (.cells #[.int .u32 9] 44)) (hw3.kept (bal (Below.refl w3.heap.size w3) (.cells #[.int .u32 9] 44))) rfl (by omega) (by decide) (by decide) (Rd.fresh w3 #[.int .u32 9] 44 1 1 w3.heap.size rfl rfl))
    have HN3 := Lib.hid hn3
    have HS3 := Lib.hid hs3
    have HB3 := Lib.hid hb3
    have HSN := Lib.hid hsN
    have HBd := Lib.hid hbd
    have hz3 := hn3.size
    clear hw3 HNd hn3 hs3 hb3 hsN hbd hbd1 cT hT2 HW2
    go_upto_region 6 with (go_at_call 36; refine HF9.out.mono ?_; rintro e w4 ⟨rfl, hw4, hn4⟩)
    have hb4 : RowKit.Below w.heap.size w w4 := by
      have e1 := HG.out
      have e2 := HMb.out
      have e3 := HZ2.out
      have h1 : RowKit.Below w.heap.size w w3 := HB3.out.trans (HN3.out.below (fun i hi => by rcases hi with rfl | rfl <;> omega) (by omega))
      refine (h1.trans (Below.mono (bal (Below.refl w3.heap.size w3) (.cells #[.int .u32 9] 44)) h1.size)).trans (hn4.below (fun i hi => ?_) (by have := h1.size; simp; omega))
      rcases HS3.out i hi with h | h
      · rcases h with rfl | rfl <;> omega
      · omega
    have hPS : putS t = ⟨sN.b ++ be4 [9], sN.x, sN.n⟩ := by unfold putS; rw [HSN.out]
    obtain ⟨vb, vx, D, hB, hob, hox, _, _, hSg, _, hSb, _⟩ := hw4
    obtain ⟨s, hs⟩ : ∃ s : WS, s = ⟨sN.b ++ be4 [9], sN.x, sN.n⟩ := ⟨_, rfl⟩
    rw [← hs] at hPS hob hox
    obtain ⟨nb, hnb⟩ : ∃ n, s.b.length = n := ⟨_, rfl⟩
    obtain ⟨nx, hnx⟩ : ∃ n, s.x.length = n := ⟨_, rfl⟩
    rw [hnb] at hob
    rw [hnx] at hox
    have hnb2 : nb ≤ 5000000 := by
      have := HBd.out.1
      rw [← hnb, hs]
      show (sN.b ++ be4 [9]).length ≤ _
      rw [List.length_append, be4_len]
      simp only [List.length_cons, List.length_nil]
      omega
    have hnx2 : nx ≤ 40000 := by
      have := HBd.out.2.1
      rw [← hnx, hs]
      show sN.x.length ≤ _
      omega
    obtain ⟨Ab, cb, rfl, _, hrb⟩ := own_slice hob
    obtain ⟨Ax, cx, rfl, _, hrx⟩ := own_slice hox.1
    have HPS := Lib.hid hPS
    have HNb := Lib.hid hnb
    have HNx := Lib.hid hnx
    have HRb := Lib.hid hrb
    have HRx := Lib.hid hrx
    have hB4 := hB
    have cB := hB.cell
    have hGlt := hB.lt
    have hz4 := hn4.size
    clear hob hox hSb hSg hn4 hrb hrx hPS hnb hnx hs hB
    by_cases hlong : 16384 < 56 + nb + nx
    · have hl' : decide ((16384 : Int) < 56 + (nb : Int) + (nx : Int)) = true := decide_eq_true (by omega)
      go_wp2_with fail
      exact bodyPost_ret (v := .tuple #[.slice none 0 0, .int .i64 2]) (by simp [results, Try.results15, go_sem]) rfl (putP_no (by unfold putT; rw [HM.out, HPS.out, HNb.out, HNx.out, if_pos rfl, if_pos hlong]) hb4)
    · have hl' : decide ((16384 : Int) < 56 + (nb : Int) + (nx : Int)) = false := decide_eq_false (by omega)
      have HWhole := Lib.hid (show putT t = (wholeL s, 0) by unfold putT; rw [HM.out, HPS.out, HNb.out, HNx.out, if_pos rfl, if_neg hlong])
      have HLen := Lib.hid (show (wholeL s).length = 56 + nb + nx by unfold wholeL; rw [HNb.out, HNx.out]; simp [be4_len, headL, HNb.out, HNx.out]; omega)
      go_upto_region 11 with (fail)
      have hB5 := hB4.alloc (.cells #[.slice none 0 0] 68)
      have hH5 := Blk.new w4 68 #[.slice none 0 0]
      have hb5 := bal' hb4 (.cells #[.slice none 0 0] 68) hb4.size
      have hx5 := bal (Below.refl w4.heap.size w4) (.cells #[.slice none 0 0] 68)
      have HRb5 := Lib.hid (HRb.out.below hx5)
      have HRx5 := Lib.hid (HRx.out.below hx5)
      have hzw : w.heap.size ≤ w4.heap.size := hb4.size
      have hz5 : (w4.alloc (.cells #[.slice none 0 0] 68)).heap.size = w4.heap.size + 1 := by simp
      generalize w4.alloc (.cells #[.slice none 0 0] 68) = w5 at *
      generalize hH : w4.heap.size = H at *
      have HH := Lib.hid hH
      have HZ5 := Lib.hid hz5
      clear hB4 hx5 hb4 hz4 hz5 hH cB
      have u1 : IntKind.u32.wrap (56 + (nb : Int) + (nx : Int)) = 56 + (nb : Int) + (nx : Int) := by show (56 + (nb : Int) + (nx : Int)) % 4294967296 = _; omega
      have u2 : IntKind.u32.wrap (56 + (nb : Int)) = 56 + (nb : Int) := by show (56 + (nb : Int)) % 4294967296 = _; omega
      have u3 : IntKind.u32.wrap (nb : Int) = (nb : Int) := by show (nb : Int) % 4294967296 = _; omega
      have u4 : IntKind.u32.wrap (nx : Int) = (nx : Int) := by show (nx : Int) % 4294967296 = _; omega
      have hS1 : (fun W' : World => ∀ i, W'.cell? ⟨G, i, none⟩ = (#[.slice Ab nb cb, .slice Ax nx cx, .map (some Mb)] : Array Value)[i]?) w5.drew := hB5.drew.cell
      refine wp_region_held_drew (S := fun W' : World => ∀ i, W'.cell? ⟨G, i, none⟩ = (#[.slice Ab nb cb, .slice Ax nx cx, .map (some Mb)] : Array Value)[i]?) (by kernel_rfl) hS1 (fun hHeld => ?_)
      clear hHeld
      refine wpAnyH_take (i := 0) (v := ?va0) rfl (by kernel_rfl) (by kernel_rfl) (by kernel_rfl) (fun _ _ _ h => h) (Or.inl ⟨by kernel_rfl, ?hya0⟩) hS1 ?resta0
      case hya0 =>
        intro w hSw
        clear hSw
        go_simp
        first | done | with_reducible rfl
      (try simp only [List.getElem_toArray, List.getElem_cons_succ, List.getElem_cons_zero, Act.put, List.setIfInBounds_toArray, List.set_cons_zero, List.set_cons_succ])
      refine wpAnyH_take (i := 1) (v := ?va1) rfl (by kernel_rfl) (by kernel_rfl) (by kernel_rfl) (fun _ _ _ h => h) (Or.inl ⟨by kernel_rfl, ?hya1⟩) hS1 ?resta1
      case hya1 =>
        intro w hSw
        clear hSw
        go_simp
        first | done | with_reducible rfl
      (try simp only [List.getElem_toArray, List.getElem_cons_succ, List.getElem_cons_zero, Act.put, List.setIfInBounds_toArray, List.set_cons_zero, List.set_cons_succ])
      refine wpAnyH_take (i := 2) (v := ?va2) rfl (by kernel_rfl) (by kernel_rfl) (by kernel_rfl) (fun _ _ _ h => h) (Or.inl ⟨by kernel_rfl, ?hya2⟩) hS1 ?resta2
      case hya2 =>
        intro w hSw
        clear hSw
        go_simp
        first | done | with_reducible rfl
      (try simp only [List.getElem_toArray, List.getElem_cons_succ, List.getElem_cons_zero, Act.put, List.setIfInBounds_toArray, List.set_cons_zero, List.set_cons_succ])
      refine wpAnyH_take (i := 3) (v := ?va3) rfl (by kernel_rfl) (by kernel_rfl) (by kernel_rfl) (fun _ _ _ h => h) (Or.inl ⟨by kernel_rfl, ?hya3⟩) hS1 ?resta3
      case hya3 =>
        intro w hSw
        clear hSw
        go_simp
        first | done | with_reducible rfl
      (try simp only [List.getElem_toArray, List.getElem_cons_succ, List.getElem_cons_zero, Act.put, List.setIfInBounds_toArray, List.set_cons_zero, List.set_cons_succ])
      refine wpAnyH_take (i := 4) (v := ?va4) rfl (by kernel_rfl) (by kernel_rfl) (by kernel_rfl) (fun _ _ _ h => h) (Or.inl ⟨by kernel_rfl, ?hya4⟩) hS1 ?resta4
      case hya4 =>
        intro w hSw
        clear hSw
        go_simp
        first | done | with_reducible rfl
      (try simp only [List.getElem_toArray, List.getElem_cons_succ, List.getElem_cons_zero, Act.put, List.setIfInBounds_toArray, List.set_cons_zero, List.set_cons_succ])
      refine wpAnyH_take (i := 5) (v := ?va5) rfl (by kernel_rfl) (by kernel_rfl) (by kernel_rfl) (fun _ _ _ h => h) (Or.inl ⟨by kernel_rfl, ?hya5⟩) hS1 ?resta5
      case hya5 =>
        intro w hSw
        clear hSw
        go_simp
        first | done | with_reducible rfl
      (try simp only [List.getElem_toArray, List.getElem_cons_succ, List.getElem_cons_zero, Act.put, List.setIfInBounds_toArray, List.set_cons_zero, List.set_cons_succ])
      refine wpAnyH_take (i := 6) (v := ?va6) rfl (by kernel_rfl) (by kernel_rfl) (by kernel_rfl) (fun _ _ _ h => h) (Or.inl ⟨by kernel_rfl, ?hya6⟩) hS1 ?resta6
      case hya6 =>
        intro w hSw
        clear hSw
        go_simp
        first | done | with_reducible rfl
      (try simp only [List.getElem_toArray, List.getElem_cons_succ, List.getElem_cons_zero, Act.put, List.setIfInBounds_toArray, List.set_cons_zero, List.set_cons_succ])
      refine wpAnyH_take (i := 7) (v := ?va7) rfl (by kernel_rfl) (by kernel_rfl) (by kernel_rfl) (fun _ _ _ h => h) (Or.inl ⟨by kernel_rfl, ?hya7⟩) hS1 ?resta7
      case hya7 =>
        intro w hSw
        (try dsimp only at hSw)
        go_simp
        first | done | with_reducible rfl
      (try simp only [List.getElem_toArray, List.getElem_cons_succ, List.getElem_cons_zero, Act.put, List.setIfInBounds_toArray, List.set_cons_zero, List.set_cons_succ])
      refine wpAnyH_take (i := 8) (v := ?va8) rfl (by kernel_rfl) (by kernel_rfl) (by kernel_rfl) (fun _ _ _ h => h) (Or.inl ⟨by kernel_rfl, ?hya8⟩) hS1 ?resta8
      case hya8 =>
        intro w hSw
        clear hSw
        go_simp
        first | done | with_reducible rfl
      (try simp only [List.getElem_toArray, List.getElem_cons_succ, List.getElem_cons_zero, Act.put, List.setIfInBounds_toArray, List.set_cons_zero, List.set_cons_succ])
      refine wpAnyH_take (i := 9) (v := ?va9) rfl (by kernel_rfl) (by kernel_rfl) (by kernel_rfl) (fun _ _ _ h => h) (Or.inl ⟨by kernel_rfl, ?hya9⟩) hS1 ?resta9
      case hya9 =>
        intro w hSw
        clear hSw
        go_simp
        first | done | with_reducible rfl
      (try simp only [List.getElem_toArray, List.getElem_cons_succ, List.getElem_cons_zero, Act.put, List.setIfInBounds_toArray, List.set_cons_zero, List.set_cons_succ])
      refine wpAnyH_take (i := 10) (v := ?va10) rfl (by kernel_rfl) (by kernel_rfl) (by kernel_rfl) (fun _ _ _ h => h) (Or.inl ⟨by kernel_rfl, ?hya10⟩) hS1 ?resta10
      case hya10 =>
        intro w hSw
        clear hSw
        go_simp
        first | done | with_reducible rfl
      (try simp only [List.getElem_toArray, List.getElem_cons_succ, List.getElem_cons_zero, Act.put, List.setIfInBounds_toArray, List.set_cons_zero, List.set_cons_succ])
      refine wpAnyH_take (i := 11) (v := ?va11) rfl (by kernel_rfl) (by kernel_rfl) (by kernel_rfl) (fun _ _ _ h => h) (Or.inl ⟨by kernel_rfl, ?hya11⟩) hS1 ?resta11
      case hya11 =>
        intro w hSw
        clear hSw
        go_simp
        first | done | with_reducible rfl
      (try simp only [List.getElem_toArray, List.getElem_cons_succ, List.getElem_cons_zero, Act.put, List.setIfInBounds_toArray, List.set_cons_zero, List.set_cons_succ])
      refine wpAnyH_take (i := 12) (v := ?va12) rfl (by kernel_rfl) (by kernel_rfl) (by kernel_rfl) (fun _ _ _ h => h) (Or.inl ⟨by kernel_rfl, ?hya12⟩) hS1 ?resta12
      case hya12 =>
        intro w hSw
        clear hSw
        go_simp
        first | done | with_reducible rfl
      (try simp only [List.getElem_toArray, List.getElem_cons_succ, List.getElem_cons_zero, Act.put, List.setIfInBounds_toArray, List.set_cons_zero, List.set_cons_succ])
      refine wpAnyH_take (i := 13) (v := ?va13) rfl (by kernel_rfl) (by kernel_rfl) (by kernel_rfl) (fun _ _ _ h => h) (Or.inl ⟨by kernel_rfl, ?hya13⟩) hS1 ?resta13
      case hya13 =>
        intro w hSw
        clear hSw
        go_simp
        first | done | with_reducible rfl
      (try simp only [List.getElem_toArray, List.getElem_cons_succ, List.getElem_cons_zero, Act.put, List.setIfInBounds_toArray, List.set_cons_zero, List.set_cons_succ])
      refine wpAnyH_take (i := 14) (v := ?va14) rfl (by kernel_rfl) (by kernel_rfl) (by kernel_rfl) (fun _ _ _ h => h) (Or.inl ⟨by kernel_rfl, ?hya14⟩) hS1 ?resta14
      case hya14 =>
        intro w hSw
        (try dsimp only at hSw)
        go_simp
        first | done | with_reducible rfl
      (try simp only [List.getElem_toArray, List.getElem_cons_succ, List.getElem_cons_zero, Act.put, List.setIfInBounds_toArray, List.set_cons_zero, List.set_cons_succ])
      refine wpAnyH_take (i := 15) (v := ?va15) rfl (by kernel_rfl) (by kernel_rfl) (by kernel_rfl) (fun _ _ _ h => h) (Or.inl ⟨by kernel_rfl, ?hya15⟩) hS1 ?resta15
      case hya15 =>
        intro w hSw
        clear hSw
        go_simp
        first | done | with_reducible rfl
      (try simp only [List.getElem_toArray, List.getElem_cons_succ, List.getElem_cons_zero, Act.put, List.setIfInBounds_toArray, List.set_cons_zero, List.set_cons_succ])
      refine wpAnyH_take (i := 16) (v := ?va16) rfl (by kernel_rfl) (by kernel_rfl) (by kernel_rfl) (fun _ _ _ h => h) (Or.inl ⟨by kernel_rfl, ?hya16⟩) hS1 ?resta16
      case hya16 =>
        intro w hSw
        clear hSw
        go_simp
        first | done | with_reducible rfl
      (try simp only [List.getElem_toArray, List.getElem_cons_succ, List.getElem_cons_zero, Act.put, List.setIfInBounds_toArray, List.set_cons_zero, List.set_cons_succ])
      refine wpAnyH_call (i := 17) (by kernel_rfl) rfl (by kernel_rfl) fun K hK => ?_
      simp only [List.getElem_toArray, List.getElem_cons_succ, List.getElem_cons_zero]
      go_simp
      have hb6 := (bal (Below.refl w5.heap.size w5) (.cells #[.int .u32 3490578157, .int .u32 (56 + (nb : Int) + (nx : Int)), .int .u32 56, .int .u32 (56 + (nb : Int)), .int .u32 40, .int .u32 17, .int .u32 16, .int .u32 0, .int .u32 nx, .int .u32 nb] 44)).drew
      have HR6 := Lib.hid ((Rd.fresh w5 #[.int .u32 3490578157, .int .u32 (56 + (nb : Int) + (nx : Int)), .int .u32 56, .int .u32 (56 + (nb : Int)), .int .u32 40, .int .u32 17, .int .u32 16, .int .u32 0, .int .u32 nx, .int .u32 nb] 44 10 1 w5.heap.size rfl rfl).below (Below.refl _ _).drew)
      have hB6 := hB5.kept hb6
      have hH6 := hH5.kept hb6
      have hS2 : (fun W' : World => ∀ i, W'.cell? ⟨G, i, none⟩ = (#[.slice Ab nb cb, .slice Ax nx cx, .map (some Mb)] : Array Value)[i]?) (w5.alloc (.cells #[.int .u32 3490578157, .int .u32 (56 + (nb : Int) + (nx : Int)), .int .u32 56, .int .u32 (56 + (nb : Int)), .int .u32 40, .int .u32 17, .int .u32 16, .int .u32 0, .int .u32 nx, .int .u32 nb] 44)).drew := hB6.cell
      refine hK.out _ _ hS2 ?_
      clear hK K
      (try simp only [List.getElem_toArray, List.getElem_cons_succ, List.getElem_cons_zero, Act.put, List.setIfInBounds_toArray, List.set_cons_zero, List.set_cons_succ])
      refine wpAnyH_call (i := 18) (by kernel_rfl) rfl (by kernel_rfl) fun K hK => ?_
      simp only [List.getElem_toArray, List.getElem_cons_succ, List.getElem_cons_zero]
      go_simp
      go_at_call 36
      refine (four_any H 0 68 #[.slice none 0 0] none (some ⟨w5.heap.size, 0, none⟩) 0 0 10 10 [] (headL nb nx) _ hH6 rfl rfl rfl (by decide) (by decide) (by
        intro x hx
        simp only [headL, List.mem_cons, List.not_mem_nil, or_false] at hx
        rcases hx with rfl | rfl | rfl | rfl | rfl | rfl | rfl | rfl | rfl | rfl <;> omega) Rd.nil HR6.out).mono ?_
      rintro e w7 ⟨rfl, A7, c7, hB7, hown7, hn7⟩
      have hHG : ¬ G = H := by omega
      have hBG := hB6.same (hn7.block _ hB6.lt hHG)
      have hS3 : (fun W' : World => ∀ i, W'.cell? ⟨G, i, none⟩ = (#[.slice Ab nb cb, .slice Ax nx cx, .map (some Mb)] : Array Value)[i]?) w7 := hBG.cell
      refine hK.out _ _ hS3 ?_
      clear hK K
      (try simp only [List.getElem_toArray, List.getElem_cons_succ, List.getElem_cons_zero, Act.put, List.setIfInBounds_toArray, List.set_cons_zero, List.set_cons_succ])
      refine wpAnyH_done (by kernel_rfl) ?_ _
      have hBH : Blk w7 H 68 #[.slice A7 40 c7] := hB7
      have hr7 : Rd w7 w7.heap.size 1 A7 40 ((be4 (headL nb nx)).flatMap encB) := by
        have := Rd.of_own hown7
        simpa [be4] using this
      have hb7 : RowKit.Below w.heap.size w w7 := (hb5.trans (hb6.mono hb5.size)).trans (hn7.below (fun i hi => by omega) (by have := hb6.size; have := hb5.size; omega))
      have hn67 : Near (fun i => i = H) w5 w7 := (Near.of_below _ hb6).trans hn7
      have hrow := hn67.below (B := H) (fun i hi => by omega) (by have := HZ5.out; omega)
      have hrb7 : Rd w7 w7.heap.size 1 Ab nb (s.b.flatMap encB) := (HRb5.out.below hrow).more (by have := hn67.size; have := HZ5.out; omega)
      have hrx7 : Rd w7 w7.heap.size 1 Ax nx (s.x.flatMap encB) := (HRx5.out.below hrow).more (by have := hn67.size; have := HZ5.out; omega)
      obtain ⟨Z, hZ, hmk⟩ : ∃ Z : Array Value, Hid (Z.toList = (List.replicate 16 (0 : Int)).flatMap encB) ∧ ∀ W, (Instr.makeSlice 28 (.int .i64 16) (.int .i64 16)).run Try.prog W = .ok (.slice (some ⟨W.heap.size, 0, none⟩) 16 16) (W.alloc (.cells Z 5)) :=
        ⟨_, Lib.hid (by kernel_rfl), fun W => make_b W 16 16 (by decide) (by decide)⟩
      have HCat := Lib.hid (cat_whole w7 A7 Ab Ax c7 cb cx nb nx s HNb.out HNx.out (by omega) Z hZ.out hr7 hrb7 hrx7)
      have HB7 := Lib.hid hb7
      clear hB7 hown7 hn7 hS1 hS2 hS3 hr7 hrb7 hrx7 hrow hb7 hn67 hB6 hH6 hb6 HR6 hB5 hH5 hb5
      go_upto_region 12 with (fail)
      have hS4 : (fun W' : World => (∀ i, W'.cell? ⟨G, i, none⟩ = (#[.slice Ab nb cb, .slice Ax nx cx, .map (some Mb)] : Array Value)[i]?) ∧ (∀ i, W'.cell? ⟨H, i, none⟩ = (#[.slice A7 40 c7] : Array Value)[i]?)) w7.drew := ⟨hBG.drew.cell, hBH.drew.cell⟩
      refine wp_region_held_drew (S := fun W' : World => (∀ i, W'.cell? ⟨G, i, none⟩ = (#[.slice Ab nb cb, .slice Ax nx cx, .map (some Mb)] : Array Value)[i]?) ∧ (∀ i, W'.cell? ⟨H, i, none⟩ = (#[.slice A7 40 c7] : Array Value)[i]?)) (by kernel_rfl) hS4 (fun hHeld => ?_)
      clear hHeld
      refine wpAnyH_take (i := 0) (v := ?vb0) rfl (by kernel_rfl) (by kernel_rfl) (by kernel_rfl) (fun _ _ _ h => h) (Or.inl ⟨by kernel_rfl, ?hyb0⟩) hS4 ?restb0
      case hyb0 =>
        intro w hSw
        clear hSw
        go_simp
        first | done | with_reducible rfl
      (try simp only [List.getElem_toArray, List.getElem_cons_succ, List.getElem_cons_zero, Act.put, List.setIfInBounds_toArray, List.set_cons_zero, List.set_cons_succ])
      refine wpAnyH_take (i := 1) (v := ?vb1) rfl (by kernel_rfl) (by kernel_rfl) (by kernel_rfl) (fun _ _ _ h => h) (Or.inl ⟨by kernel_rfl, ?hyb1⟩) hS4 ?restb1
      case hyb1 =>
        intro w hSw
        obtain ⟨hSa, hSb⟩ := hSw
        go_simp
        first | done | with_reducible rfl
      (try simp only [List.getElem_toArray, List.getElem_cons_succ, List.getElem_cons_zero, Act.put, List.setIfInBounds_toArray, List.set_cons_zero, List.set_cons_succ])
      refine wpAnyH_take (i := 3) (v := ?vb3) rfl (by kernel_rfl) (by kernel_rfl) (by kernel_rfl) (fun _ _ _ h => h) (Or.inl ⟨by kernel_rfl, ?hyb3⟩) hS4 ?restb3
      case hyb3 =>
        intro w hSw
        clear hSw
        go_simp
        first | done | with_reducible rfl
      (try simp only [List.getElem_toArray, List.getElem_cons_succ, List.getElem_cons_zero, Act.put, List.setIfInBounds_toArray, List.set_cons_zero, List.set_cons_succ])
      refine wpAnyH_take (i := 4) (v := ?vb4) rfl (by kernel_rfl) (by kernel_rfl) (by kernel_rfl) (fun _ _ _ h => h) (Or.inl ⟨by kernel_rfl, ?hyb4⟩) hS4 ?restb4
      case hyb4 =>
        intro w hSw
        clear hSw
        go_simp
        first | done | with_reducible rfl
      (try simp only [List.getElem_toArray, List.getElem_cons_succ, List.getElem_cons_zero, Act.put, List.setIfInBounds_toArray, List.set_cons_zero, List.set_cons_succ])
      refine wpAnyH_take (i := 5) (v := ?vb5) rfl (by kernel_rfl) (by kernel_rfl) (by kernel_rfl) (fun _ _ _ h => h) (Or.inl ⟨by kernel_rfl, ?hyb5⟩) hS4 ?restb5
      case hyb5 =>
        intro w hSw
        clear hSw
        go_simp
        first | done | with_reducible rfl
      (try simp only [List.getElem_toArray, List.getElem_cons_succ, List.getElem_cons_zero, Act.put, List.setIfInBounds_toArray, List.set_cons_zero, List.set_cons_succ])
      refine wpAnyH_take (i := 6) (v := ?vb6) rfl (by kernel_rfl) (by kernel_rfl) (by kernel_rfl) (fun _ _ _ h => h) (Or.inl ⟨by kernel_rfl, ?hyb6⟩) hS4 ?restb6
      case hyb6 =>
        intro w hSw
        clear hSw
        go_simp
        first | done | with_reducible rfl
      (try simp only [List.getElem_toArray, List.getElem_cons_succ, List.getElem_cons_zero, Act.put, List.setIfInBounds_toArray, List.set_cons_zero, List.set_cons_succ])
      refine wpAnyH_take (i := 7) (v := ?vb7) rfl (by kernel_rfl) (by kernel_rfl) (by kernel_rfl) (fun _ _ _ h => h) (Or.inl ⟨by kernel_rfl, ?hyb7⟩) hS4 ?restb7
      case hyb7 =>
        intro w hSw
        obtain ⟨hSa, hSb⟩ := hSw
        go_simp
        first | done | with_reducible rfl
      (try simp only [List.getElem_toArray, List.getElem_cons_succ, List.getElem_cons_zero, Act.put, List.setIfInBounds_toArray, List.set_cons_zero, List.set_cons_succ])
      refine wpAnyH_take (i := 8) (v := ?vb8) rfl (by kernel_rfl) (by kernel_rfl) (by kernel_rfl) (fun _ _ _ h => h) (Or.inl ⟨by kernel_rfl, ?hyb8⟩) hS4 ?restb8
      case hyb8 =>
        intro w hSw
        clear hSw
        go_simp
        first | done | with_reducible rfl
      (try simp only [List.getElem_toArray, List.getElem_cons_succ, List.getElem_cons_zero, Act.put, List.setIfInBounds_toArray, List.set_cons_zero, List.set_cons_succ])
      refine wpAnyH_take (i := 9) (v := ?vb9) rfl (by kernel_rfl) (by kernel_rfl) (by kernel_rfl) (fun _ _ _ h => h) (Or.inl ⟨by kernel_rfl, ?hyb9⟩) hS4 ?restb9
      case hyb9 =>
        intro w hSw
        clear hSw
        go_simp
        first | done | with_reducible rfl
      (try simp only [List.getElem_toArray, List.getElem_cons_succ, List.getElem_cons_zero, Act.put, List.setIfInBounds_toArray, List.set_cons_zero, List.set_cons_succ])
      refine wpAnyH_take (i := 10) (v := ?vb10) rfl (by kernel_rfl) (by kernel_rfl) (by kernel_rfl) (fun _ _ _ h => h) (Or.inl ⟨by kernel_rfl, ?hyb10⟩) hS4 ?restb10
      case hyb10 =>
        intro w hSw
        clear hSw
        go_simp
        first | done | with_reducible rfl
      (try simp only [List.getElem_toArray, List.getElem_cons_succ, List.getElem_cons_zero, Act.put, List.setIfInBounds_toArray, List.set_cons_zero, List.set_cons_succ])
      refine wpAnyH_take (i := 11) (v := ?vb11) rfl (by kernel_rfl) (by kernel_rfl) (by kernel_rfl) (fun _ _ _ h => h) (Or.inl ⟨by kernel_rfl, ?hyb11⟩) hS4 ?restb11
      case hyb11 =>
        intro w hSw
        obtain ⟨hSa, hSb⟩ := hSw
        go_simp
        first | done | with_reducible rfl
      (try simp only [List.getElem_toArray, List.getElem_cons_succ, List.getElem_cons_zero, Act.put, List.setIfInBounds_toArray, List.set_cons_zero, List.set_cons_succ])
      refine wpAnyH_call (i := 2) (by kernel_rfl) rfl (by kernel_rfl) fun K hK => ?_
      simp only [List.getElem_toArray, List.getElem_cons_succ, List.getElem_cons_zero]
      go_simp
      have hS5 : (fun W' : World => (∀ i, W'.cell? ⟨G, i, none⟩ = (#[.slice Ab nb cb, .slice Ax nx cx, .map (some Mb)] : Array Value)[i]?) ∧ (∀ i, W'.cell? ⟨H, i, none⟩ = (#[.slice A7 40 c7] : Array Value)[i]?)) (w7.alloc (.cells Z 5)).drew := ⟨(hBG.alloc _).drew.cell, (hBH.alloc _).drew.cell⟩
      refine hK.out _ _ hS5 ?_
      clear hK K
      (try simp only [List.getElem_toArray, List.getElem_cons_succ, List.getElem_cons_zero, Act.put, List.setIfInBounds_toArray, List.set_cons_zero, List.set_cons_succ])
      refine wpAnyH_call (i := 12) (by kernel_rfl) rfl (by kernel_rfl) fun K hK => ?_
      simp only [List.getElem_toArray, List.getElem_cons_succ, List.getElem_cons_zero]
      go_simp
      have hS6 : (fun W' : World => (∀ i, W'.cell? ⟨G, i, none⟩ = (#[.slice Ab nb cb, .slice Ax nx cx, .map (some Mb)] : Array Value)[i]?) ∧ (∀ i, W'.cell? ⟨H, i, none⟩ = (#[.slice A7 40 c7] : Array Value)[i]?)) ((w7.alloc (.cells Z 5)).alloc (.cells #[.slice A7 40 c7, .slice (some ⟨w7.heap.size, 0, none⟩) 16 16, .slice Ab nb cb, .slice Ax nx cx] 28)).drew := ⟨((hBG.alloc _).alloc _).drew.cell, ((hBH.alloc _).alloc _).drew.cell⟩
      refine hK.out _ _ hS6 ?_
      clear hK K
      (try simp only [List.getElem_toArray, List.getElem_cons_succ, List.getElem_cons_zero, Act.put, List.setIfInBounds_toArray, List.set_cons_zero, List.set_cons_succ])
      refine wpAnyH_call (i := 13) (by kernel_rfl) rfl (by kernel_rfl) fun K hK => ?_
      simp only [List.getElem_toArray, List.getElem_cons_succ, List.getElem_cons_zero]
      go_simp
      go_at_call 37
      refine HCat.out.mono ?_
      rintro e w8 ⟨A8, c8, rfl, hown10, hb10⟩
      have hS7 : (fun W' : World => (∀ i, W'.cell? ⟨G, i, none⟩ = (#[.slice Ab nb cb, .slice Ax nx cx, .map (some Mb)] : Array Value)[i]?) ∧ (∀ i, W'.cell? ⟨H, i, none⟩ = (#[.slice A7 40 c7] : Array Value)[i]?)) w8 := ⟨(hBG.kept hb10).cell, (hBH.kept hb10).cell⟩
      refine hK.out _ _ hS7 ?_
      clear hK K
      (try simp only [List.getElem_toArray, List.getElem_cons_succ, List.getElem_cons_zero, Act.put, List.setIfInBounds_toArray, List.set_cons_zero, List.set_cons_succ])
      refine wpAnyH_take (i := 14) (v := ?vb14) rfl (by kernel_rfl) (by kernel_rfl) (by kernel_rfl) (fun _ _ _ h => h) (Or.inl ⟨by kernel_rfl, ?hyb14⟩) hS7 ?restb14
      case hyb14 =>
        intro w hSw
        clear hSw
        go_simp
        first | done | with_reducible rfl
      (try simp only [List.getElem_toArray, List.getElem_cons_succ, List.getElem_cons_zero, Act.put, List.setIfInBounds_toArray, List.set_cons_zero, List.set_cons_succ])
      refine wpAnyH_take (i := 15) (v := ?vb15) rfl (by kernel_rfl) (by kernel_rfl) (by kernel_rfl) (fun _ _ _ h => h) (Or.inl ⟨by kernel_rfl, ?hyb15⟩) hS7 ?restb15
      case hyb15 =>
        intro w hSw
        clear hSw
        go_simp
        first | done | with_reducible rfl
      (try simp only [List.getElem_toArray, List.getElem_cons_succ, List.getElem_cons_zero, Act.put, List.setIfInBounds_toArray, List.set_cons_zero, List.set_cons_succ])
      refine wpAnyH_done (by kernel_rfl) ?_ _
      clear hS4 hS5 hS6 hS7
      have HO := Lib.hid hown10
      have HB := Lib.hid hb10
      clear hown10 hb10
      go_wp2_with fail
      refine bodyPost_ret (v := .tuple #[.slice A8 (56 + nb + nx) c8, .int .i64 0]) (by simp [results, Try.results15, go_sem]) rfl ⟨A8, c8, ?_, ?_, HB7.out.trans (HB.out.mono HB7.out.size)⟩
      · rw [HWhole.out, HLen.out]
      · rw [HWhole.out, HLen.out]
        exact HO.out.mono HB7.out.size
end Go.Proofs.Ytnkpaockginooaa
