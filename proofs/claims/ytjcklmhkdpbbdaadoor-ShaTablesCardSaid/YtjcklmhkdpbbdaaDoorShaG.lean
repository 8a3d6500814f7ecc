/- Chapter 3: what stands behind so many bytes. -/
import Derived.Test.YtjcklmhkdpbbdaaDoorShaF
import Derived.Test.YtjcklmhkdpbbdaaDoorWordPut
import Derived.Test.YtjcklmhkdpbbdaaDoorRefW
namespace Go.Proofs.YtjcklmhkdpbbdaaDoor
set_option linter.unusedVariables false
set_option linter.unusedSimpArgs false
open Go.RowKit Go.Sort

theorem own_base {w : World} {b b' : Nat} {e : TypeId} {size n : Nat} {v : Value} {xs : List Value} (h : w.ownsRow b e size v n xs) (hb : b' ≤ b) : w.ownsRow b' e size v n xs :=
  ⟨h.1, h.2.imp_right fun ⟨g, cap, cur, hv, hg, r⟩ => ⟨g, cap, cur, hv, Nat.le_trans hb hg, r⟩⟩
def padK (n : Int) : Nat := ((119 - n % 64) % 64).toNat
def padL (n : Int) : List Int := 128 :: List.replicate (padK n) 0
def padB (n : Int) : List Int := padL n ++ bytesN 8 false (8 * n % 18446744073709551616)
theorem padK_lt (n : Int) : padK n < 64 := by unfold padK; omega
theorem padL_len (n : Int) : (padL n).length = padK n + 1 := by simp [padL]
theorem padB_len (n : Int) : (padB n).length = padK n + 9 := by rw [padB, List.length_append, padL_len, bytesN_len]
theorem padL_ok (n : Int) : BytesOk (padL n) := by
  intro x hx
  rcases List.mem_cons.1 hx with rfl | hx
  · decide
  · rw [List.eq_of_mem_replicate hx]; decide
theorem padB_ok (n : Int) : BytesOk (padB n) := fun x hx => (List.mem_append.1 hx).elim (padL_ok n x) (bytesN_ok _ _ _ x)
theorem make_bu (w : World) (m : Nat) (hc : m ≤ 1000000000000) :
    (Instr.makeSlice 29 (.int .u64 (m : Int)) (.int .u64 (m : Int))).run Tryd.prog w = .ok (.slice (some ⟨w.heap.size, 0, none⟩) m m) (w.alloc (.cells (Array.replicate m (.int .u8 0)) 5)) := by
  obtain ⟨i, hi, hz, hs, hb⟩ := info_parts info_u8
  have := run_make (P := Tryd.prog) w 29 5 i _ Tryd.underlying29 hi hz .u64 .u64 m m (by omega) (by omega) (by rw [hb]; omega) (by omega)
  rw [hs] at this
  have e : madeCells (Value.int .u8 0).cells (m * 1) = Array.replicate m (.int .u8 0) := by
    rw [Nat.mul_one]
    refine Array.ext (by simp [madeCells]) fun j h1 h2 => ?_
    simp [madeCells, Value.cells, Nat.mod_one]
  rw [Int.toNat_natCast, e] at this
  exact this
theorem pad_cells (m : Nat) : (Array.replicate (m + 1) (Value.int .u8 0)).setIfInBounds 0 (.int .u8 128) = ((128 :: List.replicate m (0 : Int)).flatMap encB).toArray := by
  refine Array.ext' ?_
  rw [Array.toList_setIfInBounds, Array.toList_replicate, List.replicate_succ, List.set_cons_zero]
  simp only [List.flatMap_cons, encB, List.cons_append, List.nil_append]
  congr 1
  induction m with
  | zero => rfl
  | succ m ih => rw [List.replicate_succ, List.replicate_succ, List.flatMap_cons, ← ih]; rfl

set_option maxRecDepth 100000 in
set_option maxHeartbeats 1000000 in
theorem shaPad_any (n : Int) (h0 : 0 ≤ n) (h1 : n < 18446744073709551616) (w : World) :
    Calls Tryd.prog 19 #[.int .u64 n] w fun e w' => ∃ A c, e = .returned (.slice A (padK n + 9) c) ∧ w'.ownsRow w.heap.size 5 1 (.slice A (padK n + 9) c) (padK n + 9) ((padB n).flatMap encB) ∧ Below w.heap.size w w' := by
  have hk := padK_lt n
  have f0 : n.tmod 64 = n % 64 := by rw [Int.tmod_eq_emod_of_nonneg h0]
  have f1 : IntKind.u64.wrap (119 - n % 64) = 119 - n % 64 := by rw [IntKind.wrap_u64]; omega
  have f2 : (119 - n % 64).tmod 64 = (padK n : Int) := by unfold padK; rw [Int.tmod_eq_emod_of_nonneg (by omega)]; omega
  have f2' : (119 - n % 64) % 64 = (padK n : Int) := by unfold padK; omega
  have HB := Lib.hid (show padB n = padL n ++ bytesN 8 false (8 * n % 18446744073709551616) from rfl)
  have HL := Lib.hid (show padL n = 128 :: List.replicate (padK n) 0 from rfl)
  have hx0 : 0 ≤ 8 * n % 18446744073709551616 ∧ 8 * n % 18446744073709551616 < 18446744073709551616 := by omega
  have f5 : IntKind.u64.wrap (8 * n) = 8 * n % 18446744073709551616 := by rw [IntKind.wrap_u64]
  generalize 8 * n % 18446744073709551616 = x at *
  generalize padK n = m at *
  obtain ⟨M, hM⟩ : ∃ M, m + 1 = M := ⟨_, rfl⟩
  have f3 : IntKind.u64.wrap (1 + (m : Int)) = (M : Int) := by rw [IntKind.wrap_u64]; omega
  have hMp : (0 : Int) < (M : Int) := by omega
  have hMn : 0 < M := by omega
  have hmk := fun W => make_bu W M (by omega)
  have HB1 := Lib.hid (Blk.new w 5 (Array.replicate M (.int .u8 0)))
  have Hb1 := Lib.hid (bal (Below.refl w.heap.size w) (.cells (Array.replicate M (.int .u8 0)) 5))
  have HM := Lib.hid hM
  have Hk := Lib.hid hk
  clear hM hk
  go_enter Tryd.func19, Tryd.ntmps19
  go_upto_region 2 with (fail)
  refine wp_name ?_
  intro w1 hw1
  rw [← hw1] at HB1 Hb1
  clear hw1 hmk f0 f1 f2 f2' f3
  have c0 : w1.cell? ⟨w.heap.size, 0, none⟩ = some (.int .u8 0) := (HB1.out.cell 0).trans (by simp [hMn])
  have z0 := HB1.out.frozen
  go_upto_region 3 with (fail)
  have HB2 : Hid (Blk (w1.setCell ⟨w.heap.size, 0, none⟩ (.int .u8 128)) w.heap.size 5 ((padL n).flatMap encB).toArray) := Lib.hid (by
    have := HB1.out.set_ 0 (.int .u8 128)
    rw [← HM.out, pad_cells, ← HL.out] at this
    exact this)
  have Hb2 : Hid (RowKit.Below w.heap.size w (w1.setCell ⟨w.heap.size, 0, none⟩ (.int .u8 128))) := Lib.hid (Hb1.out.setCell (by simp) _)
  clear HB1 Hb1 c0 z0
  generalize w1.setCell ⟨w.heap.size, 0, none⟩ (.int .u8 128) = w2 at *
  have HLn : Hid ((padL n).length = M) := Lib.hid (by rw [HL.out, ← HM.out]; simp)
  have HR1 : Hid (Rd w2 w2.heap.size 1 (some ⟨w.heap.size, 0, none⟩) M ((padL n).flatMap encB)) := Lib.hid (HB2.out.rd (by rw [flatB_len, HLn.out, Nat.mul_one]))
  have HX := Lib.hid (show ∀ y ∈ [x], 0 ≤ y ∧ y < 18446744073709551616 from fun y hy => by obtain rfl := List.mem_singleton.1 hy; exact hx0)
  have HMs := Lib.hid (show M ≤ 100000000 by have := Hk.out; have := HM.out; omega)
  have Hfin := Lib.hid (show M + 8 * 1 = m + 9 by have := HM.out; omega)
  clear hx0
  go_wp2_with (go_at_call 54; refine (putBe64_any (some ⟨w.heap.size, 0, none⟩) _ M M 1 1 (padL n) [x] _ HLn.out rfl HMs.out (by decide) HX.out ((HR1.out.alloc (Nat.le_refl _) _).more (by simp)) (Rd.fresh _ _ _ 1 1 _ rfl)).mono ?_; rintro e w3 ⟨A', c', rfl, hown, hb3⟩)
  go_ret
  have e : padL n ++ [x].flatMap (bytesN 8 false) = padB n := by rw [HB.out]; simp
  rw [e] at hown
  have hs2 := Hb2.out.size
  have hb4 := bal' Hb2.out (.cells #[.int .u64 x] 104) hs2
  have hM2 := HM.out
  subst hM2
  exact ⟨A', c', rfl, own_base hown (by simp; omega), Hb2.out.trans ((below_alloc hb3).mono hs2)⟩

def slen : Value → Nat
  | .slice _ n _ => n
  | _ => 0
theorem rep_snoc (j : Nat) : (128 :: List.replicate j (0 : Int)) ++ [0] = 128 :: List.replicate (j + 1) (0 : Int) := by
  rw [List.cons_append, List.replicate_succ']
set_option maxRecDepth 100000 in
set_option maxHeartbeats 2000000 in
theorem refPad_any (n : Int) (h0 : 0 ≤ n) (h1 : n < 18446744073709551616) (w : World) :
    Calls Tryd.prog 20 #[.int .u64 n] w fun e w' => ∃ A c, e = .returned (.slice A (padK n + 9) c) ∧ w'.ownsRow w.heap.size 5 1 (.slice A (padK n + 9) c) (padK n + 9) ((padB n).flatMap encB) ∧ Below w.heap.size w w' := by
  have HB := Lib.hid (show padB n = (128 :: List.replicate (padK n) 0) ++ bytesN 8 false (8 * n % 18446744073709551616) from rfl)
  have HX0 := Lib.hid (show 0 ≤ 8 * n % 18446744073709551616 ∧ 8 * n % 18446744073709551616 < 18446744073709551616 by omega)
  have f5 : IntKind.u64.wrap (8 * n) = 8 * n % 18446744073709551616 := by rw [IntKind.wrap_u64]
  have HK := Lib.hid (show (padK n : Int) = (119 - n % 64) % 64 by unfold padK; omega)
  generalize 8 * n % 18446744073709551616 = x at *
  generalize padK n = m at *
  have HB1 := Lib.hid (show (w.alloc (.cells #[.int .u8 128] 5)).ownsRow w.heap.size 5 1 (.slice (some ⟨w.heap.size, 0, none⟩) 1 1) 1 ((128 :: List.replicate 0 (0 : Int)).flatMap encB) from
    ⟨rfl, .inr ⟨w.heap.size, 1, #[.int .u8 128], rfl, Nat.le_refl _, heap_alloc_new w _, Nat.le_refl _, by unfold maxLen; omega, rfl, rfl⟩⟩)
  have Hb1 := Lib.hid (bal (Below.refl w.heap.size w) (.cells #[.int .u8 128] 5))
  go_enter Tryd.func20, Tryd.ntmps20
  go_wp2
  go_loopw [3] (fun v wr => ∃ j J : Nat, j ≤ m ∧ Hid (J = j + 1) ∧ ∃ A' c', v = .slice A' J c' ∧ Hid (wr.ownsRow w.heap.size 5 1 (.slice A' J c') J ((128 :: List.replicate j (0 : Int)).flatMap encB) ∧ RowKit.Below w.heap.size w wr)) (fun v _ => 100 - slen v)
  case atStart => exact ⟨0, 1, by omega, Lib.hid rfl, _, _, rfl, Lib.hid ⟨HB1.out, Hb1.out⟩⟩
  case round =>
    obtain ⟨j, J, hj, HJ, A', c', rfl, HI⟩ := hrel
    clear HB1 Hb1
    have hK := HK.out
    have hJ := HJ.out
    obtain ⟨y1, hy1⟩ : ∃ y, (n + (J : Int)) % 18446744073709551616 = y := ⟨_, rfl⟩
    obtain ⟨y2, hy2⟩ : ∃ y, (y1 + 8) % 18446744073709551616 = y := ⟨_, rfl⟩
    obtain ⟨y3, hy3⟩ : ∃ y, y2 % 64 = y := ⟨_, rfl⟩
    have q0 : IntKind.u64.wrap (J : Int) = (J : Int) := by rw [IntKind.wrap_u64]; omega
    have q1 : IntKind.u64.wrap (n + (J : Int)) = y1 := by rw [IntKind.wrap_u64]; exact hy1
    have q2 : IntKind.u64.wrap (y1 + 8) = y2 := by rw [IntKind.wrap_u64]; exact hy2
    have q3 : y2.tmod 64 = y3 := by rw [Int.tmod_eq_emod_of_nonneg (by omega)]; exact hy3
    have q4 : n + (J : Int) < 18446744073709551616 ∨ 18446744073709551616 ≤ n + (J : Int) := by omega
    have hz : y3 = 0 ↔ j = m := by omega
    have q2' := hy2
    have q1' := hy1
    have HMx := Lib.hid (show J + 1 ≤ maxLen by unfold maxLen; omega)
    have HMy := Lib.hid (show (J + 1) * 1 ≤ 140737488355328 by omega)
    have HJ1 := Lib.hid (show J ≤ 64 by omega)
    by_cases hlt : j < m
    · have hne : (y3 != 0) = true := by rw [bne_iff_ne]; intro h; have := hz.1 h; omega
      have HJ2 := Lib.hid (show j + 1 ≤ m from hlt)
      clear hK hJ hz q4 hj hlt
      go_wp2_with (first
        | (at_builtin; refine wpList_app u8_elem rfl (.tmp 13) (.tmp 14) rfl w.heap.size (HI.out.1.alloc _) rfl rfl (Rd.fresh _ _ _ 1 1 _ rfl) (by simp [Value.oneCell']) HMx.out HMy.out (Nat.le_trans HI.out.2.size (by simp)) ?_; intro v5 w5 hown5 hb5 hgr; obtain ⟨A5, c5, rfl, _, _⟩ := own_slice hown5))
      have hbA := (bal' HI.out.2 (.cells #[.int .u8 0] 5) HI.out.2.size).trans hb5
      go_roundw
      case rel => exact ⟨j + 1, J + 1, HJ2.out, Lib.hid (by rw [HJ.out]), A5, c5, rfl, Lib.hid ⟨by rw [← rep_snoc, List.flatMap_append]; exact hown5, hbA⟩⟩
      case measure => simp [slen]; have := HJ1.out; omega
    · obtain rfl : j = m := by omega
      have hy : y3 = 0 := hz.2 rfl
      have hne : (y3 != 0) = false := by rw [bne_eq_false_iff_eq]; exact hy
      have HP := Lib.hid (refPut_any A' J c' 8 (128 :: List.replicate j 0) x false wr (by simp [HJ.out]) (by omega) (by decide) HX0.out.1 HX0.out.2 (Rd.of_own HI.out.1))
      clear hK hJ hz q4 hj hlt hy
      go_wp2_with (go_at_call 55; refine HP.out.mono ?_; rintro e w5 ⟨A5, c5, rfl, hown5, hb5⟩)
      go_ret
      rw [← HB.out] at hown5
      have hJ2 := HJ.out
      subst hJ2
      exact ⟨A5, c5, rfl, own_base hown5 HI.out.2.size, HI.out.2.trans (hb5.mono HI.out.2.size)⟩
end Go.Proofs.YtjcklmhkdpbbdaaDoor
