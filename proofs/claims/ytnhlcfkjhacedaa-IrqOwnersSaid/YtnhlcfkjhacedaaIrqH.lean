/- Chapter 22, the registers of a distributor: the bytes; the whole of both. -/
import Derived.Test.YtnhlcfkjhacedaaIrqG
namespace Go.Proofs.Ytnhlcfkjhacedaa
set_option linter.unusedVariables false
open Go.RowKit Go.Sort

def tellOf (r : Rt) : Int := if 0 ≤ r.own then fTell r else 0
def tgN (l : List Rt) (n k : Nat) : List Int := (l.take k).map tellOf ++ List.replicate (n - k) 0
theorem tgN_len {l : List Rt} {n k : Nat} (hl : l.length = n) (h : k ≤ n) : (tgN l n k).length = n := by simp [tgN]; omega
theorem tgN_get {l : List Rt} {n k : Nat} (hl : l.length = n) (h : k < n) (h' : k < (tgN l n k).length) : (tgN l n k)[k] = 0 := by
  have e : (tgN l n k)[k]? = some 0 := by
    unfold tgN
    rw [List.getElem?_append_right (by simp <;> omega), List.getElem?_replicate, if_pos (by simp <;> omega)]
  exact (List.getElem?_eq_some_iff.1 e).2
theorem tgN_step {l : List Rt} {n k : Nat} (hl : l.length = n) (h : k < n) (h' : k < l.length) : tgN l n (k + 1) = (tgN l n k).set k (tellOf l[k]) := by
  unfold tgN
  obtain ⟨d, rfl⟩ : ∃ d, n = k + 1 + d := ⟨n - (k + 1), by omega⟩
  rw [show k + 1 + d - k = d + 1 by omega, show k + 1 + d - (k + 1) = d by omega, List.replicate_succ, List.set_append_right _ _ (by simp <;> omega), List.take_succ_eq_append_getElem h', List.map_append, List.append_assoc]
  congr 1
  simp [Nat.min_eq_left (show k ≤ l.length by omega)]
theorem fTell_ok (r : Rt) : 0 ≤ fTell r ∧ fTell r < 256 := by
  unfold fTell
  split
  · rename_i h
    obtain ⟨m, hm⟩ : ∃ m : Fin 8, m.val = r.cpu.toNat := ⟨⟨r.cpu.toNat, by omega⟩, rfl⟩
    rw [← hm]
    clear hm h
    revert m
    decide +kernel
  · decide
theorem tellOf_ok (r : Rt) : 0 ≤ tellOf r ∧ tellOf r < 256 := by
  unfold tellOf
  split
  · exact fTell_ok r
  · decide
theorem rep_encB (m : Nat) : (List.replicate m (0 : Int)).flatMap encB = List.replicate m (.int .u8 0) := by
  induction m with
  | zero => rfl
  | succ m ih => rw [List.replicate_succ, List.flatMap_cons, ih]; rfl
theorem flatB_set : ∀ (l : List Int) (j : Nat) (u : Int), (l.flatMap encB).set j (.int .u8 u) = (l.set j u).flatMap encB
  | [], _, _ => by simp
  | v :: l, 0, _ => by simp [encB]
  | v :: l, j + 1, u => by
    have ih := flatB_set l j u
    simp only [List.flatMap_cons, List.set_cons_succ]
    rw [← ih]
    rfl
theorem set_same (l : List Int) (j : Nat) (h : j < l.length) (v : Int) (hv : l[j] = v) : l.set j v = l := by subst hv; simp

set_option maxRecDepth 100000 in
set_option maxHeartbeats 4000000 in
theorem layTell_any (A : Option Addr) (n c : Nat) (l : List Rt) (w : World) (hl : l.length = n) (hn : n ≤ 100000) (hr : Rd w w.heap.size 3 A n (l.flatMap encR)) :
    Calls Try.prog 36 #[.slice A n c, .int .i64 8, .int .i64 8, .func (.func 37) #[] #[]] w fun e w' => ∃ A' c', e = .returned (.slice A' n c') ∧ Rd w' w'.heap.size 1 A' n ((tgN l n n).flatMap encB) ∧ Below w.heap.size w w' := by
  have HL := Lib.hid hl
  have HR := Lib.hid hr
  clear hl hr
  have hmk := fun w => make_b w n n (by omega) (by omega)
  have hcs : (madeCells (Value.int .u8 0).cells (n * 1)).size = n := by rw [size_madeCells]; omega
  have HX := Lib.hid (show (madeCells (Value.int .u8 0).cells (n * 1)).toList = List.replicate n (.int .u8 0) from made1 (.int .u8 0) n)
  generalize madeCells (Value.int .u8 0).cells (n * 1) = cur at *
  have hmi : ((n : Int) + 1 - 1) = (n : Int) := by omega
  go_enter Try.func36, Try.ntmps36
  go_wp2
  have ho0 := own_made (w := w) (base := w.heap.size) (e := 5) (size := 1) (n := n) (cur := cur) (Nat.le_refl _) (by unfold maxLen; omega) (by omega)
  rw [HX.out] at ho0
  have HO0 := Lib.hid ho0
  have hb0 := bal (Below.refl w.heap.size w) (.cells cur 5)
  clear hmk hcs HX ho0 hmi
  go_loopw [26] (fun i wr => ∃ k : Nat, k ≤ n ∧ i = .int .i64 k ∧ wr.ownsRow w.heap.size 5 1 (.slice (some ⟨w.heap.size, 0, none⟩) n n) n ((tgN l n k).flatMap encB) ∧ Below w.heap.size w wr) (fun i _ => n - (intOf i).toNat)
  case atStart => exact ⟨0, by omega, rfl, by rw [show tgN l n 0 = List.replicate n 0 by simp [tgN], rep_encB]; exact HO0.out, hb0⟩
  case round =>
    obtain ⟨k, hk, rfl, ho, hb⟩ := hrel
    clear HO0 hb0
    by_cases hlt : k < n
    · have hlt' : k < l.length := by rw [HL.out]; exact hlt
      obtain ⟨b, o, rfl, hbb, hc⟩ := (HR.out.below hb).row (fun _ => rfl) hlt' HL.out
      have d0 := hc 0 (by omega)
      have d1 := hc 1 (by omega)
      have d2 := hc 2 (by omega)
      simp only [encR, Nat.add_zero, List.getElem?_cons_zero, List.getElem?_cons_succ] at d0 d1 d2
      have hst := tgN_step HL.out hlt hlt'
      have xl := tgN_len HL.out hk
      have hz := tgN_get HL.out hlt (by rw [xl]; exact hlt)
      have hto : tellOf l[k] = if 0 ≤ (l[k]).own then fTell l[k] else 0 := rfl
      have hfo := fTell_ok l[k]
      clear hc
      have HF := Lib.hid (fun W => gic2_any l[k] W)
      generalize fTell l[k] = fv at *
      generalize tellOf l[k] = tv at *
      generalize l[k] = r at *
      generalize tgN l n k = xs at *
      obtain ⟨own, cpu, edge⟩ := r
      simp only at *
      have c0 := ho.cellAt k (by omega)
      have e0 := flatMap_get (enc := encB) (s := 1) (fun _ => rfl) xs k 0 (by omega) (by omega)
      rw [Nat.mul_one, Nat.add_zero] at e0
      rw [e0, hz] at c0
      simp only [encB, List.getElem?_cons_zero] at c0
      by_cases hw : 0 ≤ own
      · rw [if_pos hw] at hto
        subst hto
        have HOr := Lib.hid (or0_u8 _ hfo)
        have HW := Lib.hid (show IntKind.u8.wrap tv = tv by rw [IntKind.wrap_u8']; exact Int.emod_eq_of_lt hfo.1 hfo.2)
        have HOk := Lib.hid (fun u => flatB_set xs k u)
        have HN := Lib.hid hst
        clear hst e0 hz hfo
        go_wp2
        refine wp_name ?_
        intro w2 hw2
        have hb2 : RowKit.Below wr.heap.size wr w2 := by rw [hw2]; exact bal (Below.refl _ _) _
        have hB2 : Blk w2 wr.heap.size 58 #[.int .i64 own, .int .i64 cpu, .bool edge] := by rw [hw2]; exact Blk.new _ _ _
        clear hw2
        have hgl := (own_lt ho (k := w.heap.size) (by simp [Value.ownBlock])).2
        have c2' := (hb2.cell (p := ⟨w.heap.size, k, none⟩) hgl).trans c0
        have ec := fun d os => ((below_regrown w2 d os).cell (p := ⟨w.heap.size, k, none⟩) (Nat.lt_of_lt_of_le hgl hb2.size)).trans c2'
        have eb := blk_regrown hB2
        have HF2 := Lib.hid (fun (d : Nat) (os : Array Obj) => HF.out (grow (redrawn w2 d) os))
        have q1 : (k : Int).tdiv 1 = (k : Int) := by simp
        have q2 : (k : Int).tmod 1 = 0 := by simp
        have q3 : IntKind.i64.wrap (k : Int) = (k : Int) := IntWalk.i64_in _ (by omega)
        have q4 : IntKind.i64.wrap 0 = 0 := IntWalk.i64_in _ (by omega)
        clear c0
        refine wp_region_tail_below 16 (by kernel_rfl) (by kernel_rfl) ?_
        simp only [List.take_succ_cons, List.take_zero, List.drop_succ_cons, List.drop_zero]
        have hw8 := HW.out
        have hor := HOr.out
        repeat (quiet_step ((go_at_call 37; exact regrown (HF2.out _ _))))
        refine wpQuiet_nil ?_
        rintro w3 ⟨p, rfl⟩
        have hb3 := below_regrown w2 p.d p.os
        have hb23 := hb2.trans (hb3.mono hb2.size)
        clear ec eb HF2
        generalize grow (redrawn w2 p.d) p.os = w3 at *
        have ho3 := own_kept ho hb23
        have hf3 := ho3.frozenAt
        have c3 := (hb3.cell (p := ⟨w.heap.size, k, none⟩) (Nat.lt_of_lt_of_le hgl hb2.size)).trans c2'
        have HS := Lib.hid (fun u => (ho3.stored k (.int .u8 u)).1)
        have hbw3 := hb.trans (hb23.mono hb.size)
        clear hB2 c2'
        go_wp2
        go_roundw
        case rel => exact ⟨k + 1, by omega, by go_num, by rw [HN.out, ← HOk.out]; first | exact HS.out _ | (have := HS.out tv; simpa using this), hbw3.setCell (by simp) _⟩
        case measure => simp [intOf]; omega
      · rw [if_neg hw] at hto
        subst hto
        rw [set_same xs k (by omega) 0 hz] at hst
        have HN := Lib.hid hst
        clear hst
        go_wp2
        go_roundw
        case rel => exact ⟨k + 1, by omega, by go_num, by rw [HN.out]; exact ho.alloc _, bal hb _⟩
        case measure => simp [intOf]; omega
    · obtain rfl : k = n := by omega
      have hr9 := Rd.of_own ho
      go_wp2
      go_ret
      exact ⟨_, _, rfl, hr9, hb⟩

/-- The three parts of a distributor. -/
def GicRR (m1 n m3 : Nat) (l1 l2 l3 : List Int) (w : World) (e : Ending) (w' : World) : Prop :=
  ∃ A1 c1 A2 c2 A3 c3, e = .returned (.tuple #[.slice A1 m1 c1, .slice A2 n c2, .slice A3 m3 c3]) ∧ Rd w' w'.heap.size 1 A1 m1 (l1.flatMap encU) ∧
    Rd w' w'.heap.size 1 A2 n (l2.flatMap encB) ∧ Rd w' w'.heap.size 1 A3 m3 (l3.flatMap encU) ∧ Below w.heap.size w w'
def GicR (l : List Rt) (n : Nat) : World → Ending → World → Prop := GicRR ((n + 31) / 32) n ((n + 15) / 16) (layN 32 1 fOne l ((n + 31) / 32) n) (tgN l n n) (layN 16 2 fEdge l ((n + 15) / 16) n)
set_option maxHeartbeats 2000000 in
theorem gic_any (A : Option Addr) (n c : Nat) (l : List Rt) (w : World) (hl : l.length = n) (hn : n ≤ 100000) (hr : Rd w w.heap.size 3 A n (l.flatMap encR)) :
    Calls Try.prog 19 #[.slice A n c] w (GicR l n w) := by
  have HR := Lib.hid hr
  have H1 := Lib.hid (fun W (hW : Below w.heap.size w W) => layOne_any A n c l W hl hn ((hr.below hW).more hW.size))
  have H2 := Lib.hid (fun W (hW : Below w.heap.size w W) => layTell_any A n c l W hl hn ((hr.below hW).more hW.size))
  have H3 := Lib.hid (fun W (hW : Below w.heap.size w W) => layEdge_any A n c l W hl hn ((hr.below hW).more hW.size))
  unfold GicR
  generalize (n + 31) / 32 = m1 at *
  generalize (n + 15) / 16 = m3 at *
  generalize layN 32 1 fOne l m1 n = l1 at *
  generalize layN 16 2 fEdge l m3 n = l3 at *
  generalize tgN l n n = l2 at *
  clear hr
  go_enter Try.func19, Try.ntmps19
  go_wp2_with (first
    | (go_at_call 34; with_reducible (refine (H1.out _ (Below.refl _ _)).mono ?_); rintro e w1 ⟨A1, c1, rfl, hr1, hb1⟩)
    | (go_at_call 36; with_reducible (refine (H2.out _ hb1).mono ?_); rintro e w2 ⟨A2, c2, rfl, hr2, hb2⟩; have hb12 := hb1.trans (hb2.mono hb1.size))
    | (go_at_call 34; with_reducible (refine (H3.out _ hb12).mono ?_); rintro e w3 ⟨A3, c3, rfl, hr3, hb3⟩))
  refine bodyPost_ret (v := .tuple #[.slice A1 m1 c1, .slice A2 n c2, .slice A3 m3 c3]) (by simp [results, Try.results19, go_sem]) rfl ?_
  refine ⟨A1, c1, A2, c2, A3, c3, rfl, (hr1.below (hb2.trans (hb3.mono hb2.size))).more (Nat.le_trans hb2.size hb3.size), (hr2.below hb3).more hb3.size, hr3, hb12.trans (hb3.mono hb12.size)⟩

theorem own_far {w : World} {base : Nat} {e : TypeId} {size n c g : Nat} {xs : List Value} (h : w.ownsRow base e size (.slice (some ⟨g, 0, none⟩) n c) n xs) {p : Addr} (hp : g ≠ p.block) (u : Value) : (w.setCell p u).ownsRow base e size (.slice (some ⟨g, 0, none⟩) n c) n xs :=
  own_same h fun k hk => by
    obtain rfl : g = k := by simpa [Value.ownBlock] using hk
    exact Below.heap_setCell _ _ _ _ hp

theorem pow8 (j : Nat) (h : j < 8) : (2 : Int) ^ j % 256 = 2 ^ j := by
  obtain ⟨m, hm⟩ : ∃ m : Fin 8, m.val = j := ⟨⟨j, h⟩, rfl⟩
  rw [← hm]
  clear hm h
  revert m
  decide +kernel
set_option maxRecDepth 100000 in
set_option maxHeartbeats 8000000 in
theorem refGic_any (A : Option Addr) (n c : Nat) (l : List Rt) (w : World) (hl : l.length = n) (hn : n ≤ 100000) (hr : Rd w w.heap.size 3 A n (l.flatMap encR)) :
    Calls Try.prog 20 #[.slice A n c] w (GicR l n w) := by
  have HL := Lib.hid hl
  have HR := Lib.hid hr
  clear hl hr
  unfold GicR
  obtain ⟨m1, hm1⟩ : ∃ m, (n + 31) / 32 = m := ⟨_, rfl⟩
  obtain ⟨m3, hm3⟩ : ∃ m, (n + 15) / 16 = m := ⟨_, rfl⟩
  rw [hm1, hm3]
  have a1 : n ≤ 32 * m1 := by omega
  have a2 : m1 ≤ 100000 := by omega
  have a3 : ((n : Int) + 31) / 32 = (m1 : Int) := by omega
  have b1 : n ≤ 16 * m3 := by omega
  have b2 : m3 ≤ 100000 := by omega
  have b3 : ((n : Int) + 15) / 16 = (m3 : Int) := by omega
  clear hm1 hm3
  have hmk := fun w => make_b w n n (by omega) (by omega)
  have hmk1 := fun w => make_u w m1 a2
  have hmk3 := fun w => make_u w m3 b2
  have hcs : (madeCells (Value.int .u8 0).cells (n * 1)).size = n := by rw [size_madeCells]; omega
  have hcs1 : (madeCells #[Value.int .u32 0] (m1 * 1)).size = m1 := by rw [size_madeCells]; omega
  have hcs3 : (madeCells #[Value.int .u32 0] (m3 * 1)).size = m3 := by rw [size_madeCells]; omega
  have HX := Lib.hid (show (madeCells (Value.int .u8 0).cells (n * 1)).toList = List.replicate n (.int .u8 0) from made1 (.int .u8 0) n)
  have HX1 := Lib.hid (made1 (.int .u32 0) m1)
  have HX3 := Lib.hid (made1 (.int .u32 0) m3)
  generalize madeCells (Value.int .u8 0).cells (n * 1) = cur at *
  generalize madeCells #[Value.int .u32 0] (m1 * 1) = cur1 at *
  generalize madeCells #[Value.int .u32 0] (m3 * 1) = cur3 at *
  go_enter Try.func20, Try.ntmps20
  go_wp2
  refine wp_name ?_
  intro w3 hw3
  have HO1 : Hid (w3.ownsRow w.heap.size 22 1 (.slice (some ⟨w.heap.size, 0, none⟩) m1 m1) m1 ((layN 32 1 fOne l m1 0).flatMap encU)) := Lib.hid (by
    rw [hw3, layN, rep_encU, ← HX1.out]
    exact ((own_made (Nat.le_refl _) (by unfold maxLen; omega) (by omega)).alloc _).alloc _)
  have HO2 : Hid (w3.ownsRow w.heap.size 5 1 (.slice (some ⟨w.heap.size + 1, 0, none⟩) n n) n ((tgN l n 0).flatMap encB)) := Lib.hid (by
    rw [hw3, show tgN l n 0 = List.replicate n 0 by simp [tgN], rep_encB, ← HX.out]
    have := own_made (w := w.alloc (.cells cur1 22)) (base := w.heap.size) (e := 5) (size := 1) (n := n) (cur := cur) (by simp) (by unfold maxLen; omega) (by omega)
    simp only [World.size_alloc] at this
    exact this.alloc _)
  have HO3 : Hid (w3.ownsRow w.heap.size 22 1 (.slice (some ⟨w.heap.size + 1 + 1, 0, none⟩) m3 m3) m3 ((layN 16 2 fEdge l m3 0).flatMap encU)) := Lib.hid (by
    rw [hw3, layN, rep_encU, ← HX3.out]
    have := own_made (w := (w.alloc (.cells cur1 22)).alloc (.cells cur 5)) (base := w.heap.size) (e := 22) (size := 1) (n := m3) (cur := cur3) (by simp <;> omega) (by unfold maxLen; omega) (by omega)
    simp only [World.size_alloc] at this
    exact this)
  have hb3 : RowKit.Below w.heap.size w w3 := by rw [hw3]; exact bal (bal (bal (Below.refl _ _) _) _) _
  clear hw3 hmk hmk1 hmk3 hcs hcs1 hcs3 HX HX1 HX3 a3 b3
  go_loopw [25] (fun i wr => ∃ k : Nat, k ≤ n ∧ i = .int .i64 k ∧ wr.ownsRow w.heap.size 22 1 (.slice (some ⟨w.heap.size, 0, none⟩) m1 m1) m1 ((layN 32 1 fOne l m1 k).flatMap encU) ∧
    wr.ownsRow w.heap.size 5 1 (.slice (some ⟨w.heap.size + 1, 0, none⟩) n n) n ((tgN l n k).flatMap encB) ∧ wr.ownsRow w.heap.size 22 1 (.slice (some ⟨w.heap.size + 1 + 1, 0, none⟩) m3 m3) m3 ((layN 16 2 fEdge l m3 k).flatMap encU) ∧ Below w.heap.size w wr) (fun i _ => n - (intOf i).toNat)
  case atStart => exact ⟨0, by omega, rfl, HO1.out, HO2.out, HO3.out, hb3⟩
  case round =>
    obtain ⟨k, hk, rfl, ho1, ho2, ho3, hb⟩ := hrel
    clear HO1 HO2 HO3 hb3
    by_cases hlt : k < n
    · have hlt' : k < l.length := by rw [HL.out]; exact hlt
      obtain ⟨b, o, rfl, hbb, hc⟩ := (HR.out.below hb).row (fun _ => rfl) hlt' HL.out
      have d0 := hc 0 (by omega)
      have d1 := hc 1 (by omega)
      have d2 := hc 2 (by omega)
      simp only [encR, Nat.add_zero, List.getElem?_cons_zero, List.getElem?_cons_succ] at d0 d1 d2
      have hgd : l.getD k zR = l[k] := by rw [List.getD_eq_getElem?_getD, List.getElem?_eq_getElem hlt']; rfl
      have st1 : layN 32 1 fOne l m1 (k + 1) = if 0 ≤ (l[k]).own then orAt (layN 32 1 fOne l m1 k) (k / 32) (IntKind.u32.wrap (1 * 2 ^ (1 * (k % 32)))) else layN 32 1 fOne l m1 k := by rw [layN, hgd]; rfl
      have st3 : layN 16 2 fEdge l m3 (k + 1) = if 0 ≤ (l[k]).own then orAt (layN 16 2 fEdge l m3 k) (k / 16) (IntKind.u32.wrap (fEdge l[k] * 2 ^ (2 * (k % 16)))) else layN 16 2 fEdge l m3 k := by rw [layN, hgd]
      have st2 := tgN_step HL.out hlt hlt'
      have xl2 := tgN_len HL.out hk
      have hz2 := tgN_get HL.out hlt (by rw [xl2]; exact hlt)
      have hto : tellOf l[k] = if 0 ≤ (l[k]).own then (if 0 ≤ (l[k]).cpu ∧ (l[k]).cpu < 8 then 2 ^ (l[k]).cpu.toNat else 0) else 0 := rfl
      have hed : fEdge l[k] = if (l[k]).edge then 2 else 0 := rfl
      obtain ⟨xl1, xo1⟩ := layN_ok 32 1 fOne l m1 k
      obtain ⟨xl3, xo3⟩ := layN_ok 16 2 fEdge l m3 k
      clear hc hgd
      generalize fEdge l[k] = ev at *
      generalize tellOf l[k] = tv at *
      generalize l[k] = r at *
      have HN1 := Lib.hid st1
      have HN2 := Lib.hid st2
      have HN3 := Lib.hid st3
      clear st1 st2 st3
      generalize layN 32 1 fOne l m1 k = xs1 at *
      generalize tgN l n k = xs2 at *
      generalize layN 16 2 fEdge l m3 k = xs3 at *
      obtain ⟨own, cpu, edge⟩ := r
      simp only at *
      by_cases hw : own < 0
      · have N1 := HN1.out
        have N2 := HN2.out
        have N3 := HN3.out
        rw [if_neg (by omega)] at N1 N3 hto
        subst hto
        rw [set_same xs2 k (by omega) 0 hz2] at N2
        have M1 := Lib.hid N1
        have M2 := Lib.hid N2
        have M3 := Lib.hid N3
        clear N1 N2 N3
        go_wp2
        go_roundw
        case rel => exact ⟨k + 1, by omega, by go_num, by rw [M1.out]; exact ho1.alloc _, by rw [M2.out]; exact ho2.alloc _, by rw [M3.out]; exact ho3.alloc _, bal hb _⟩
        case measure => simp [intOf]; omega
      · rw [if_pos (by omega)] at hto
        have N1 := HN1.out
        have N3 := HN3.out
        rw [if_pos (by omega)] at N1 N3
        have k1 : k / 32 < m1 := by omega
        have k3 : k / 16 < m3 := by omega
        have c1 := ho1.cellAt (k / 32) (by omega)
        have c2 := ho2.cellAt k (by omega)
        have c3 := ho3.cellAt (k / 16) (by omega)
        have e1 := flatMap_get (enc := encU) (s := 1) (fun _ => rfl) xs1 (k / 32) 0 (by omega) (by omega)
        have e2 := flatMap_get (enc := encB) (s := 1) (fun _ => rfl) xs2 k 0 (by omega) (by omega)
        have e3 := flatMap_get (enc := encU) (s := 1) (fun _ => rfl) xs3 (k / 16) 0 (by omega) (by omega)
        rw [Nat.mul_one, Nat.add_zero] at e1 e2 e3
        rw [e1] at c1
        rw [e2, hz2] at c2
        rw [e3] at c3
        simp only [encU, encB, List.getElem?_cons_zero] at c1 c2 c3
        have x1 : xs1.getD (k / 32) 0 = xs1[k / 32]'(by omega) := by rw [List.getD_eq_getElem?_getD, List.getElem?_eq_getElem (by omega)]; rfl
        have x3 : xs3.getD (k / 16) 0 = xs3[k / 16]'(by omega) := by rw [List.getD_eq_getElem?_getD, List.getElem?_eq_getElem (by omega)]; rfl
        have z3 := orAt_zero xo3 (k / 16)
        have Z3 := Lib.hid z3
        unfold orAt at N1 N3
        rw [x1] at N1
        rw [x3] at N3
        have M1 := Lib.hid N1
        have M3 := Lib.hid N3
        have O3 := Lib.hid (show orAt xs3 (k / 16) 0 = xs3.set (k / 16) (bits .or .u32 (xs3[k / 16]'(by omega)) 0) by rw [orAt, x3])
        have HT := Lib.hid hto
        clear N1 N3 e1 e2 e3 x1 x3 HN1 HN3 z3 hto
        generalize (xs1[k / 32]'(by omega)) = old1 at *
        generalize (xs3[k / 16]'(by omega)) = old3 at *
        have F1 := Lib.hid (fun u => flatU_set xs1 (k / 32) u)
        have F2 := Lib.hid (fun u => flatB_set xs2 k u)
        have F3 := Lib.hid (fun u => flatU_set xs3 (k / 16) u)
        have q1 : (k : Int).tdiv 32 = ((k / 32 : Nat) : Int) := by rw [Int.tdiv_eq_ediv_of_nonneg (by omega)]; omega
        have q2 : (k : Int).tmod 32 = ((k % 32 : Nat) : Int) := by rw [Int.tmod_eq_emod_of_nonneg (by omega)]; omega
        have q3 : IntKind.i64.wrap ((k / 32 : Nat) : Int) = ((k / 32 : Nat) : Int) := IntWalk.i64_in _ (by omega)
        have q4 : IntKind.i64.wrap ((k % 32 : Nat) : Int) = ((k % 32 : Nat) : Int) := IntWalk.i64_in _ (by omega)
        have q5 : k % 32 ≤ 31 := by omega
        have p1 : (k : Int).tdiv 16 = ((k / 16 : Nat) : Int) := by rw [Int.tdiv_eq_ediv_of_nonneg (by omega)]; omega
        have p2 : (k : Int).tmod 16 = ((k % 16 : Nat) : Int) := by rw [Int.tmod_eq_emod_of_nonneg (by omega)]; omega
        have p3 : IntKind.i64.wrap ((k / 16 : Nat) : Int) = ((k / 16 : Nat) : Int) := IntWalk.i64_in _ (by omega)
        have p4 : IntKind.i64.wrap ((k % 16 : Nat) : Int) = ((k % 16 : Nat) : Int) := IntWalk.i64_in _ (by omega)
        have p6 : IntKind.i64.wrap (2 * ((k % 16 : Nat) : Int)) = 2 * ((k % 16 : Nat) : Int) := IntWalk.i64_in _ (by omega)
        have p7 : 0 ≤ 2 * ((k % 16 : Nat) : Int) := by omega
        have p8 : (2 * ((k % 16 : Nat) : Int)).toNat = 2 * (k % 16) := by omega
        have p9 : min (2 * (k % 16)) 32 = 2 * (k % 16) := by omega
        have hg1 := (own_lt ho1 (k := w.heap.size) (by simp [Value.ownBlock])).2
        have hg2 := (own_lt ho2 (k := w.heap.size + 1) (by simp [Value.ownBlock])).2
        have hg3 := (own_lt ho3 (k := w.heap.size + 1 + 1) (by simp [Value.ownBlock])).2
        generalize k / 32 = kd at *
        generalize k % 32 = km at *
        generalize k / 16 = jd at *
        generalize k % 16 = jm at *
        go_wp2
        refine wp_name ?_
        intro w2 hw2
        have hb2 : RowKit.Below wr.heap.size wr w2 := by rw [hw2]; exact bal (Below.refl _ _) _
        have hB2 : Blk w2 wr.heap.size 58 #[.int .i64 own, .int .i64 cpu, .bool edge] := by rw [hw2]; exact Blk.new _ _ _
        clear hw2
        have c1' := (hb2.cell (p := ⟨w.heap.size, kd, none⟩) hg1).trans c1
        have ec := fun d os => ((below_regrown w2 d os).cell (p := ⟨w.heap.size, kd, none⟩) (Nat.lt_of_lt_of_le hg1 hb2.size)).trans c1'
        refine wp_region_tail_below 9 (by kernel_rfl) (by kernel_rfl) ?_
        simp only [List.take_succ_cons, List.take_zero, List.drop_succ_cons, List.drop_zero]
        repeat (quiet_step ((fail)))
        refine wpQuiet_nil ?_
        rintro w3 ⟨p, rfl⟩
        have hb3 := below_regrown w2 p.d p.os
        have hB3 := hB2.kept hb3
        have hb23 := hb2.trans (hb3.mono hb2.size)
        clear ec c1'
        generalize grow (redrawn w2 p.d) p.os = w3 at *
        have o1 := own_kept ho1 hb23
        have o2 := own_kept ho2 hb23
        have o3 := own_kept ho3 hb23
        have f1 := o1.frozenAt
        have f2 := o2.frozenAt
        have f3 := o3.frozenAt
        have t1 := (hb23.cell (p := ⟨w.heap.size, kd, none⟩) hg1).trans c1
        have t2 := (hb23.cell (p := ⟨w.heap.size + 1, k, none⟩) hg2).trans c2
        have t3 := (hb23.cell (p := ⟨w.heap.size + 1 + 1, jd, none⟩) hg3).trans c3
        have hbw3 := hb.trans (hb23.mono hb.size)
        have cB3 := hB3.cell
        have r1 := Lib.hid (fun u => (o1.stored kd (.int .u32 u)).1)
        have O2 := Lib.hid o2
        have O3' := Lib.hid o3
        have hge : w.heap.size + 1 + 1 < wr.heap.size := hg3
        clear ho1 ho2 ho3 c1 c2 c3 hB2 o1 o2 o3 hb2 hb3
        generalize wr.heap.size = gb at *
        have S1 := Lib.hid (fun u => (by have := r1.out u; rw [F1.out] at this; exact this : (w3.setCell ⟨w.heap.size, kd, none⟩ (.int .u32 u)).ownsRow w.heap.size 22 1 (.slice (some ⟨w.heap.size, 0, none⟩) m1 m1) m1 ((xs1.set kd u).flatMap encU)))
        have W1 := M1.out
        rw [Nat.one_mul, Int.one_mul, IntKind.wrap_u32'] at W1
        generalize hu1 : bits .or .u32 old1 (2 ^ km % 4294967296) = u1 at *
        have RT0 : w3.cell? ⟨w.heap.size + 1 + 1, jd, none⟩ = some (.int .u32 old3) := t3
        have hcpu : (cpu < 0 ∨ 0 ≤ cpu ∧ 8 ≤ cpu) ∨ (0 ≤ cpu ∧ cpu < 8) := by omega
        have V3 : Hid (layN 16 2 fEdge l m3 (k + 1) = xs3.set jd (bits .or .u32 old3 (IntKind.u32.wrap (ev * 2 ^ (2 * jm))))) := M3
        clear F1 M1 M3
        cases edge
        case false =>
          simp only [Bool.false_eq_true, if_false] at hed
          subst hed
          have V3 : Hid (layN 16 2 fEdge l m3 (k + 1) = xs3) := Lib.hid (by
            rw [V3.out, Int.zero_mul, show IntKind.u32.wrap 0 = 0 from rfl, ← O3.out, Z3.out])
          clear Z3 O3
          rcases hcpu with hcpu | ⟨h0, h8⟩
          · have V2 : Hid (tgN l n (k + 1) = xs2) := Lib.hid (by
              rw [HN2.out, HT.out, if_neg (by omega)]; exact set_same xs2 k (by omega) 0 hz2)
            clear HN2 HT hz2
            have R1 := Lib.hid (S1.out u1)
            have R2 := Lib.hid (own_far O2.out (p := ⟨w.heap.size, kd, none⟩) (by simp) (.int .u32 u1))
            have R3 := Lib.hid (own_far O3'.out (p := ⟨w.heap.size, kd, none⟩) (by simp <;> omega) (.int .u32 u1))
            have RB := Lib.hid (hbw3.setCell (p := ⟨w.heap.size, kd, none⟩) (by simp) (.int .u32 u1))
            clear S1 O2 O3' hbw3
            rcases hcpu with h0 | ⟨h0, h8⟩
            all_goals
              go_wp2
              go_roundw
              case rel => exact ⟨k + 1, by omega, by go_num, by rw [W1]; exact R1.out, by rw [V2.out]; exact R2.out, by rw [V3.out]; exact R3.out, RB.out⟩
              case measure => simp [intOf]; omega
          · obtain ⟨j, rfl⟩ := Int.eq_ofNat_of_zero_le h0
            have hv : (2 : Int) ^ j % 256 = 2 ^ j := pow8 j (by omega)
            have V2 : Hid (tgN l n (k + 1) = xs2.set k (2 ^ j)) := Lib.hid (by
              rw [HN2.out, HT.out, if_pos ⟨h0, h8⟩, Int.toNat_natCast])
            clear HN2 HT hz2
            have R1 := Lib.hid (own_far (S1.out u1) (p := ⟨w.heap.size + 1, k, none⟩) (by simp) (.int .u8 (2 ^ j)))
            have R2 := Lib.hid (by
              have := ((own_far O2.out (p := ⟨w.heap.size, kd, none⟩) (by simp) (.int .u32 u1)).stored k (.int .u8 (2 ^ j))).1
              rw [F2.out] at this
              exact this)
            have R3 := Lib.hid (own_far (own_far O3'.out (p := ⟨w.heap.size, kd, none⟩) (by simp <;> omega) (.int .u32 u1)) (p := ⟨w.heap.size + 1, k, none⟩) (by simp) (.int .u8 (2 ^ j)))
            have RB := Lib.hid ((hbw3.setCell (p := ⟨w.heap.size, kd, none⟩) (by simp) (.int .u32 u1)).setCell (p := ⟨w.heap.size + 1, k, none⟩) (by simp) (.int .u8 (2 ^ j)))
            clear S1 O2 O3' hbw3
            go_wp2
            go_roundw
            case rel => exact ⟨k + 1, by omega, by go_num, by rw [W1]; exact R1.out, by rw [V2.out]; exact R2.out, by rw [V3.out]; exact R3.out, RB.out⟩
            case measure => simp [intOf]; omega
        case true =>
          simp only [if_true] at hed
          subst hed
          have V3 : Hid (layN 16 2 fEdge l m3 (k + 1) = xs3.set jd (bits .or .u32 old3 (2 * 2 ^ (2 * jm) % 4294967296))) := Lib.hid (by rw [V3.out, IntKind.wrap_u32'])
          clear Z3 O3
          generalize hu3 : bits .or .u32 old3 (2 * 2 ^ (2 * jm) % 4294967296) = u3 at *
          rcases hcpu with hcpu | ⟨h0, h8⟩
          · have V2 : Hid (tgN l n (k + 1) = xs2) := Lib.hid (by
              rw [HN2.out, HT.out, if_neg (by omega)]; exact set_same xs2 k (by omega) 0 hz2)
            clear HN2 HT hz2
            have R1 := Lib.hid (S1.out u1)
            have R2 := Lib.hid (own_far O2.out (p := ⟨w.heap.size, kd, none⟩) (by simp) (.int .u32 u1))
            have R3 := Lib.hid (own_far O3'.out (p := ⟨w.heap.size, kd, none⟩) (by simp <;> omega) (.int .u32 u1))
            have RB := Lib.hid (hbw3.setCell (p := ⟨w.heap.size, kd, none⟩) (by simp) (.int .u32 u1))
            have RBx := Lib.hid (hB3.far (p := ⟨w.heap.size, kd, none⟩) (by simp <;> omega) (.int .u32 u1))
            have RT := Lib.hid ((World.cell?_setCell_other w3 ⟨w.heap.size, kd, none⟩ ⟨w.heap.size + 1 + 1, jd, none⟩ (.int .u32 u1) (by simp <;> omega)).trans RT0)
            clear S1 O2 O3' hbw3 RT0
            rcases hcpu with h0 | ⟨h0, h8⟩
            all_goals
              go_wp2
              refine wp_name ?_
              intro w4 hw4
              have s1 := R1.out
              have s2 := R2.out
              have s3 := R3.out
              have sb := RB.out
              have hB4 := RBx.out
              have t4 := RT.out
              rw [← hw4] at s1 s2 s3 sb hB4 t4
              clear hw4 t1 t2 t3 f1 f2 f3 cB3 hB3
              have hg := (own_lt s3 (k := w.heap.size + 1 + 1) (by simp [Value.ownBlock])).2
              have ec := fun d os => ((below_regrown w4 d os).cell (p := ⟨w.heap.size + 1 + 1, jd, none⟩) hg).trans t4
              refine wp_region_tail_below 10 (by kernel_rfl) (by kernel_rfl) ?_
              simp only [List.take_succ_cons, List.take_zero, List.drop_succ_cons, List.drop_zero]
              repeat (quiet_step ((fail)))
              refine wpQuiet_nil ?_
              rintro w5 ⟨p5, rfl⟩
              have hb5 := below_regrown w4 p5.d p5.os
              clear ec
              generalize grow (redrawn w4 p5.d) p5.os = w5 at *
              have o3 := own_kept s3 hb5
              have t5 := (hb5.cell (p := ⟨w.heap.size + 1 + 1, jd, none⟩) hg).trans t4
              have f5 := o3.frozenAt
              have Q1 := Lib.hid (own_kept s1 hb5)
              have Q2 := Lib.hid (own_kept s2 hb5)
              have Q3 := Lib.hid (fun u => (o3.stored jd (.int .u32 u)).1)
              have QB := Lib.hid (sb.trans (hb5.mono sb.size))
              clear s1 s2 s3 sb hb5 o3 hB4 t4
              go_wp2
              go_roundw
              case rel =>
                refine ⟨k + 1, by omega, by go_num, by rw [W1]; exact own_far Q1.out (by simp <;> omega) _, by rw [V2.out]; exact own_far Q2.out (by simp) _, ?_, QB.out.setCell (by simp <;> omega) _⟩
                have := Q3.out u3
                rw [F3.out] at this
                rw [V3.out]
                exact this
              case measure => simp [intOf]; omega
          · obtain ⟨j, rfl⟩ := Int.eq_ofNat_of_zero_le h0
            have hv : (2 : Int) ^ j % 256 = 2 ^ j := pow8 j (by omega)
            have V2 : Hid (tgN l n (k + 1) = xs2.set k (2 ^ j)) := Lib.hid (by
              rw [HN2.out, HT.out, if_pos ⟨h0, h8⟩, Int.toNat_natCast])
            clear HN2 HT hz2
            have R1 := Lib.hid (own_far (S1.out u1) (p := ⟨w.heap.size + 1, k, none⟩) (by simp) (.int .u8 (2 ^ j)))
            have R2 := Lib.hid (by
              have := ((own_far O2.out (p := ⟨w.heap.size, kd, none⟩) (by simp) (.int .u32 u1)).stored k (.int .u8 (2 ^ j))).1
              rw [F2.out] at this
              exact this)
            have R3 := Lib.hid (own_far (own_far O3'.out (p := ⟨w.heap.size, kd, none⟩) (by simp <;> omega) (.int .u32 u1)) (p := ⟨w.heap.size + 1, k, none⟩) (by simp) (.int .u8 (2 ^ j)))
            have RB := Lib.hid ((hbw3.setCell (p := ⟨w.heap.size, kd, none⟩) (by simp) (.int .u32 u1)).setCell (p := ⟨w.heap.size + 1, k, none⟩) (by simp) (.int .u8 (2 ^ j)))
            have RBx := Lib.hid ((hB3.far (p := ⟨w.heap.size, kd, none⟩) (by simp <;> omega) (.int .u32 u1)).far (p := ⟨w.heap.size + 1, k, none⟩) (by simp <;> omega) (.int .u8 (2 ^ j)))
            have RT := Lib.hid ((World.cell?_setCell_other _ ⟨w.heap.size + 1, k, none⟩ ⟨w.heap.size + 1 + 1, jd, none⟩ (.int .u8 (2 ^ j)) (by simp)).trans ((World.cell?_setCell_other w3 ⟨w.heap.size, kd, none⟩ ⟨w.heap.size + 1 + 1, jd, none⟩ (.int .u32 u1) (by simp <;> omega)).trans RT0))
            clear S1 O2 O3' hbw3 RT0
            go_wp2
            refine wp_name ?_
            intro w4 hw4
            have s1 := R1.out
            have s2 := R2.out
            have s3 := R3.out
            have sb := RB.out
            have hB4 := RBx.out
            have t4 := RT.out
            rw [← hw4] at s1 s2 s3 sb hB4 t4
            clear hw4 t1 t2 t3 f1 f2 f3 cB3 hB3
            have hg := (own_lt s3 (k := w.heap.size + 1 + 1) (by simp [Value.ownBlock])).2
            have ec := fun d os => ((below_regrown w4 d os).cell (p := ⟨w.heap.size + 1 + 1, jd, none⟩) hg).trans t4
            refine wp_region_tail_below 10 (by kernel_rfl) (by kernel_rfl) ?_
            simp only [List.take_succ_cons, List.take_zero, List.drop_succ_cons, List.drop_zero]
            repeat (quiet_step ((fail)))
            refine wpQuiet_nil ?_
            rintro w5 ⟨p5, rfl⟩
            have hb5 := below_regrown w4 p5.d p5.os
            clear ec
            generalize grow (redrawn w4 p5.d) p5.os = w5 at *
            have o3 := own_kept s3 hb5
            have t5 := (hb5.cell (p := ⟨w.heap.size + 1 + 1, jd, none⟩) hg).trans t4
            have f5 := o3.frozenAt
            have Q1 := Lib.hid (own_kept s1 hb5)
            have Q2 := Lib.hid (own_kept s2 hb5)
            have Q3 := Lib.hid (fun u => (o3.stored jd (.int .u32 u)).1)
            have QB := Lib.hid (sb.trans (hb5.mono sb.size))
            clear s1 s2 s3 sb hb5 o3 hB4 t4
            go_wp2
            go_roundw
            case rel =>
              refine ⟨k + 1, by omega, by go_num, by rw [W1]; exact own_far Q1.out (by simp <;> omega) _, by rw [V2.out]; exact own_far Q2.out (by simp) _, ?_, QB.out.setCell (by simp <;> omega) _⟩
              have := Q3.out u3
              rw [F3.out] at this
              rw [V3.out]
              exact this
            case measure => simp [intOf]; omega
    · obtain rfl : k = n := by omega
      have h1 := Rd.of_own ho1
      have h2 := Rd.of_own ho2
      have h3 := Rd.of_own ho3
      go_wp2
      refine bodyPost_ret (v := .tuple #[.slice (some ⟨w.heap.size, 0, none⟩) m1 m1, .slice (some ⟨w.heap.size + 1, 0, none⟩) k k, .slice (some ⟨w.heap.size + 1 + 1, 0, none⟩) m3 m3]) (by simp [results, Try.results20, go_sem]) rfl ?_
      exact ⟨_, _, _, _, _, _, rfl, h1, h2, h3, hb⟩
end Go.Proofs.Ytnhlcfkjhacedaa
