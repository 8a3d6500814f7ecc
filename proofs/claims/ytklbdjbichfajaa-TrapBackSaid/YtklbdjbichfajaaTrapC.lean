/- Chapter 35, the traps: a fault is put. -/
import Derived.Test.YtklbdjbichfajaaTrapB
namespace Go.Proofs.Ytklbdjbichfajaa
set_option linter.unusedVariables false
open Go.RowKit Go.Sort

theorem idxN_bd (l : List Int) (x : Int) : -1 ≤ idxN l x ∧ idxN l x < l.length ∨ l = [] := by
  by_cases hl : l = []
  · exact .inr hl
  · left
    unfold idxN
    split
    · rename_i hm
      have := List.idxOf_lt_length_iff.2 hm
      omega
    · have : 0 < l.length := List.length_pos_iff.2 hl
      omega
theorem Flt.ei_bd (f : Flt) : f.ei ≤ 3 := by
  rcases idxN_bd [200, 201, 202, 300] f.er with h | h
  · simp at h; unfold Flt.ei; omega
  · simp at h
theorem Flt.si_bd (f : Flt) : f.si ≤ 3 := by
  rcases idxN_bd [1, 2, 4, 8] f.sz with h | h
  · simp at h; unfold Flt.si; omega
  · simp at h
def Flt.why (f : Flt) : Int := 4 * f.ei + f.lv
def fetchN (why : Int) : Nat := joinedN [(26, 32), (25, 1), (0, why)]
def dataN (si rg lo wr why : Int) : Nat := joinedN [(26, 36), (25, 1), (24, 1), (22, si), (16, rg), (15, lo), (6, wr), (0, why)]
def Flt.esr (f : Flt) : Int := if f.kd = 3 then fetchN f.why else dataN f.si f.rg (oneN (f.sz == 8)) (oneN (f.kd == 2)) f.why
def Flt.trap (f : Flt) : List Value := [.int .u64 f.esr, .int .u64 f.ipa, .int .u64 (f.ipa / 4096 * 16)]

set_option maxHeartbeats 2000000 in
theorem put_no (f : Flt) (h : ¬ MayF f) (w : World) :
    Calls Try.prog 23 #[.agg f.lst.toArray] w fun e w' => e = .returned (.tuple #[.agg #[.int .u64 0, .int .u64 0, .int .u64 0], .int .i64 350]) ∧ Below w.heap.size w w' := by
  have HL := Lib.hid (fun W => look_any f W)
  have HM := Lib.hid (fun W => may_no f h W)
  unfold Flt.seen Flt.lst at *
  clear h
  go_enter Try.func23, Try.ntmps23
  go_wp2_with (first
    | (go_at_call 50; refine (HL.out _).mono ?_; rintro e w1 ⟨rfl, hb1⟩; have hZ1 := Blk.kept (Blk.fresh (g := w.heap.size + 1) (w.alloc (.cells #[.int .i64 f.kd, .int .i64 f.gu, .int .i64 f.li, .int .u64 f.ipa, .int .i64 f.sz, .int .u64 f.wd, .int .i64 f.er, .int .i64 f.lv, .int .i64 f.rg] 37)) 39 #[.int .u64 0, .int .u64 0, .int .u64 0]) hb1)
    | (go_at_call 51; refine (HM.out _).mono ?_; rintro e w2 ⟨rfl, hb2⟩; have hZ2 := (hZ1.alloc _).kept hb2; have cZ2 := hZ2.cell; have fZ2 := hZ2.frozen))
  refine bodyPost_ret (v := .tuple #[.agg #[.int .u64 0, .int .u64 0, .int .u64 0], .int .i64 350]) (by simp [results, Try.results23, go_sem, cZ2]) rfl ⟨rfl, ?_⟩
  repeat (refine RowKit.Below.setCell ?_ (by simp) _)
  have h1 := below_alloc (below_alloc hb1)
  exact (bal h1 _).trans (hb2.mono (bal h1 _).size)


set_option maxHeartbeats 2000000 in
theorem put_fetch (f : Flt) (h : MayF f) (h0 : 0 ≤ f.ipa) (hk : f.kd = 3) (w : World) :
    Calls Try.prog 23 #[.agg f.lst.toArray] w fun e w' => e = .returned (.tuple #[.agg f.trap.toArray, .int .i64 0]) ∧ Below w.heap.size w w' := by
  have e0 := f.ei_bd
  have e1 := f.si_bd
  have HL := Lib.hid (fun W => look_any f W)
  have HM := Lib.hid (fun W => may_yes f h W)
  obtain ⟨h1, h2, h3, h4, h5, h6, h7, h8, h9, h10, h11⟩ := h
  have HT : Hid (f.trap = [.int .u64 f.esr, .int .u64 f.ipa, .int .u64 (f.ipa / 4096 * 16)]) := Lib.hid (by unfold Flt.trap; rfl)
  have HE : Hid (f.esr = if f.kd = 3 then (fetchN (4 * f.ei + f.lv) : Int) else (dataN f.si f.rg (oneN (f.sz == 8)) (oneN (f.kd == 2)) (4 * f.ei + f.lv) : Int)) := Lib.hid (by unfold Flt.esr Flt.why; rfl)
  unfold Flt.seen Flt.lst at *
  generalize f.esr = esr at *
  generalize f.trap = trap at *
  generalize f.ei = ei at *
  generalize f.si = si at *
  clear h1 h2 h3 h11
  obtain ⟨kd, gu, li, ipa, sz, wd, er, lv, rg⟩ := f
  simp only at *
  subst hk
  have HJ := Lib.hid (fun (W : World) A c (hr : Rd W W.heap.size 2 A 3 ([(26, 32), (25, 1), (0, 4 * ei + lv)].flatMap encF)) => joined_any A 3 c [(26, 32), (25, 1), (0, 4 * ei + lv)] rfl (by decide) (by simp; omega) W hr)
  go_enter Try.func23, Try.ntmps23
  go_wp2_with (first
    | (go_at_call 50; refine (HL.out _).mono ?_; rintro e w1 ⟨rfl, hb1⟩; have hZ1 := Blk.kept (Blk.fresh (g := w.heap.size + 1) (w.alloc (.cells #[.int .i64 3, .int .i64 gu, .int .i64 li, .int .u64 ipa, .int .i64 sz, .int .u64 wd, .int .i64 er, .int .i64 lv, .int .i64 rg] 37)) 39 #[.int .u64 0, .int .u64 0, .int .u64 0]) hb1)
    | (go_at_call 51; refine (HM.out _).mono ?_; rintro e w2 ⟨rfl, hb2⟩; have hZ2 := (hZ1.alloc _).kept hb2; have hS2 := (Blk.new w1 110 #[.int .i64 3, .int .i64 gu, .int .i64 li, .int .u64 ipa, .int .i64 sz, .int .u64 wd, .int .i64 er, .int .i64 lv, .int .i64 rg, .int .i64 ei, .int .i64 si]).kept hb2; have lS2 := hS2.lt; have lZ2 := hZ2.lt; have cS2 := hS2.cell; have cZ2 := hZ2.cell; have fZ2 := hZ2.frozen)
    | (go_at_call 52; refine (HJ.out _ _ _ (Rd.fresh _ _ _ 3 2 _ rfl)).mono ?_; rintro e w3 ⟨rfl, hb3⟩; have hT3 := Blk.kept ((Blk.new w2 39 #[.int .u64 0, .int .u64 ipa, .int .u64 (ipa / 4096 * 16)]).alloc _) hb3; have hZ3 := ((hZ2.alloc _).alloc _).kept hb3; clear cS2 cZ2 fZ2; have cT3 := hT3.cell; have fT3 := hT3.frozen; have cZ3 := hZ3.cell; have fZ3 := hZ3.frozen))
  refine bodyPost_ret (v := .tuple #[.agg #[.int .u64 (fetchN (4 * ei + lv)), .int .u64 ipa, .int .u64 (ipa / 4096 * 16)], .int .i64 0]) (by simp [results, Try.results23, go_sem, cZ3]; rfl) rfl ⟨?_, ?_⟩
  · rw [HT.out, HE.out]; rfl
  · repeat (refine RowKit.Below.setCell ?_ (by simp <;> omega) _)
    have h1 := below_alloc (below_alloc hb1)
    have h2 := (bal h1 _).trans (hb2.mono (bal h1 _).size)
    exact h2.trans ((below_alloc (below_alloc hb3)).mono h2.size)

set_option maxRecDepth 100000 in
set_option maxHeartbeats 4000000 in
theorem put_data (f : Flt) (h : MayF f) (h0 : 0 ≤ f.ipa) (hk : f.kd ≠ 3) (w : World) :
    Calls Try.prog 23 #[.agg f.lst.toArray] w fun e w' => e = .returned (.tuple #[.agg f.trap.toArray, .int .i64 0]) ∧ Below w.heap.size w w' := by
  have e0 := f.ei_bd
  have e1 := f.si_bd
  have HL := Lib.hid (fun W => look_any f W)
  have HM := Lib.hid (fun W => may_yes f h W)
  obtain ⟨h1, h2, h3, h4, h5, h6, h7, h8, h9, h10, h11⟩ := h
  have HT : Hid (f.trap = [.int .u64 f.esr, .int .u64 f.ipa, .int .u64 (f.ipa / 4096 * 16)]) := Lib.hid (by unfold Flt.trap; rfl)
  have HE : Hid (f.esr = if f.kd = 3 then (fetchN (4 * f.ei + f.lv) : Int) else (dataN f.si f.rg (oneN (f.sz == 8)) (oneN (f.kd == 2)) (4 * f.ei + f.lv) : Int)) := Lib.hid (by unfold Flt.esr Flt.why; rfl)
  unfold Flt.seen Flt.lst at *
  generalize f.esr = esr at *
  generalize f.trap = trap at *
  generalize f.ei = ei at *
  generalize f.si = si at *
  clear h1 h2 h3 h11
  obtain ⟨kd, gu, li, ipa, sz, wd, er, lv, rg⟩ := f
  simp only at *
  rw [if_neg hk] at HE
  have e3 : (kd == 3) = false := by simpa using hk
  clear hk
  have HJ := Lib.hid (fun (W : World) A c (hr : Rd W W.heap.size 2 A 8 ([(26, 36), (25, 1), (24, 1), (22, si), (16, rg), (15, oneN (sz == 8)), (6, oneN (kd == 2)), (0, 4 * ei + lv)].flatMap encF)) =>
    joined_any A 8 c [(26, 36), (25, 1), (24, 1), (22, si), (16, rg), (15, oneN (sz == 8)), (6, oneN (kd == 2)), (0, 4 * ei + lv)] rfl (by decide) (by
      have o : ∀ b, 0 ≤ oneN b := by intro b; cases b <;> decide
      simp only [List.forall_mem_cons, o]
      refine ⟨by decide, by decide, by decide, by omega, by omega, by decide, by decide, by omega, by simp⟩) W hr)
  go_enter Try.func23, Try.ntmps23
  go_wp2_with (first
    | (go_at_call 50; refine (HL.out _).mono ?_; rintro e w1 ⟨rfl, hb1⟩; have hZ1 := Blk.kept (Blk.fresh (g := w.heap.size + 1) (w.alloc (.cells #[.int .i64 kd, .int .i64 gu, .int .i64 li, .int .u64 ipa, .int .i64 sz, .int .u64 wd, .int .i64 er, .int .i64 lv, .int .i64 rg] 37)) 39 #[.int .u64 0, .int .u64 0, .int .u64 0]) hb1)
    | (go_at_call 51; refine (HM.out _).mono ?_; rintro e w2 ⟨rfl, hb2⟩; have hZ2 := (hZ1.alloc _).kept hb2; have hS2 := (Blk.new w1 110 #[.int .i64 kd, .int .i64 gu, .int .i64 li, .int .u64 ipa, .int .i64 sz, .int .u64 wd, .int .i64 er, .int .i64 lv, .int .i64 rg, .int .i64 ei, .int .i64 si]).kept hb2; have lS2 := hS2.lt; have lZ2 := hZ2.lt; have cS2 := hS2.cell; have cZ2 := hZ2.cell; have fZ2 := hZ2.frozen)
    | (go_at_call 52; refine (HJ.out _ _ _ (Rd.fresh _ _ _ 3 2 _ rfl)).mono ?_; rintro e w3 ⟨rfl, hb3⟩; have hT3 := Blk.kept ((Blk.new w2 39 #[.int .u64 0, .int .u64 ipa, .int .u64 (ipa / 4096 * 16)]).alloc _) hb3; have hZ3 := ((hZ2.alloc _).alloc _).kept hb3; clear cS2 cZ2 fZ2; have cT3 := hT3.cell; have fT3 := hT3.frozen; have cZ3 := hZ3.cell; have fZ3 := hZ3.frozen))
  refine wp_name ?_
  intro w3 hw3
  have hb3 : RowKit.Below w2.heap.size w2 w3 := by rw [hw3]; exact bal (Below.refl _ _) _
  have hT3 : Blk w3 w2.heap.size 39 #[.int .u64 0, .int .u64 ipa, .int .u64 (ipa / 4096 * 16)] := by rw [hw3]; exact Blk.new _ _ _
  clear hw3
  have hS3 := hS2.kept hb3
  have hZ3 := hZ2.kept hb3
  have e0' := blk_regrown hS3
  clear cS2 cZ2 fZ2

  refine wp_region_tail_below 28 (by kernel_rfl) (by kernel_rfl) ?_
  simp only [List.take_succ_cons, List.take_zero, List.drop_succ_cons, List.drop_zero]
  repeat (quiet_step (first | (go_at_call 53; exact regrown_same (one_any _ _))))
  refine wpQuiet_nil ?_
  rintro w4 ⟨p4, rfl⟩
  have hb4 := hb3.trans ((below_regrown w3 p4.d p4.os).mono hb3.size)
  have hT4 := hT3.kept (below_regrown w3 p4.d p4.os)
  have hZ4 := hZ3.kept (below_regrown w3 p4.d p4.os)
  generalize grow (redrawn w3 p4.d) p4.os = w4 at hb4 hT4 hZ4 ⊢
  clear e0' hS3 hZ3 hT3 hb3 hS2
  go_wp2_with (go_at_call 52; refine (HJ.out _ _ _ (Rd.fresh _ _ _ 8 2 _ rfl)).mono ?_; rintro e w5 ⟨rfl, hb5⟩; have hT5 := (hT4.alloc _).kept hb5; have hZ5 := (hZ4.alloc _).kept hb5; have cT5 := hT5.cell; have fT5 := hT5.frozen; have cZ5 := hZ5.cell; have fZ5 := hZ5.frozen)
  refine bodyPost_ret (v := .tuple #[.agg #[.int .u64 (dataN si rg (oneN (sz == 8)) (oneN (kd == 2)) (4 * ei + lv)), .int .u64 ipa, .int .u64 (ipa / 4096 * 16)], .int .i64 0]) (by simp [results, Try.results23, go_sem, cZ5] <;> rfl) rfl ⟨?_, ?_⟩
  · rw [HT.out, HE.out]
  · repeat (refine RowKit.Below.setCell ?_ (by simp <;> omega) _)
    have h1 := below_alloc (below_alloc hb1)
    have h2 := ((bal h1 _).trans (hb2.mono (bal h1 _).size))
    have h3 := h2.trans (hb4.mono h2.size)
    exact h3.trans ((below_alloc hb5).mono h3.size)

theorem put_yes (f : Flt) (h : MayF f) (h0 : 0 ≤ f.ipa) (w : World) :
    Calls Try.prog 23 #[.agg f.lst.toArray] w fun e w' => e = .returned (.tuple #[.agg f.trap.toArray, .int .i64 0]) ∧ Below w.heap.size w w' := by
  by_cases hk : f.kd = 3
  · exact put_fetch f h h0 hk w
  · exact put_data f h h0 hk w
/-- A fault, put: its registers, and the error's number. -/
def Flt.put (f : Flt) [Decidable (MayF f)] : List Value × Int := if MayF f then (f.trap, 0) else ([.int .u64 0, .int .u64 0, .int .u64 0], 350)
theorem put_any (f : Flt) [Decidable (MayF f)] (h0 : 0 ≤ f.ipa) (w : World) :
    Calls Try.prog 23 #[.agg f.lst.toArray] w fun e w' => e = .returned (.tuple #[.agg f.put.1.toArray, .int .i64 f.put.2]) ∧ Below w.heap.size w w' := by
  unfold Flt.put
  by_cases h : MayF f
  · rw [if_pos h]; exact put_yes f h h0 w
  · rw [if_neg h]; exact put_no f h w

set_option maxHeartbeats 1000000 in
theorem awake35_any (w : World) :
    Calls Try.prog 22 #[] w fun e w' => e = .returned (.bool true) ∧ Below w.heap.size w w' := by
  have hp := fun W => put_yes ⟨1, 0, 0, 4096, 4, 0, 201, 3, 1⟩ (by unfold MayF; decide +kernel) (by decide) W
  rw [show (⟨1, 0, 0, 4096, 4, 0, 201, 3, 1⟩ : Flt).trap = [.int .u64 2474704903, .int .u64 4096, .int .u64 16] from by
    have h : (⟨1, 0, 0, 4096, 4, 0, 201, 3, 1⟩ : Flt).esr = 2474704903 := by decide +kernel
    simp [Flt.trap, h]] at hp
  have HP := Lib.hid hp
  clear hp
  go_enter Try.func22, Try.ntmps22
  go_wp2_with (go_at_call 23; refine (HP.out _).mono ?_; rintro e w1 ⟨rfl, hb1⟩)
  go_ret
  exact ⟨rfl, bal hb1 _⟩

set_option maxHeartbeats 1000000 in
theorem same_any (f g : Flt) (w : World) :
    Calls Try.prog 25 #[.agg f.lst.toArray, .agg g.lst.toArray] w fun e w' => e = .returned (.bool (eqLeaves f.lst g.lst)) ∧ Below w.heap.size w w' := by
  have hq := fun w => fault_eql w f g
  generalize hE : eqLeaves f.lst g.lst = E at *
  clear hE
  unfold Flt.lst at *
  go_enter Try.func25, Try.ntmps25
  go_wp2
  go_ret
  exact ⟨rfl, bal (bal (Below.refl _ _) _) _⟩

end Go.Proofs.Ytklbdjbichfajaa
