/- The tree of any board, its bytes: the law HostTrees walked. -/
import Derived.Test.YtnkpaockginooaaHostL
import Derived.Test.YtnkpaockginooaaPutE
namespace Go.Proofs.Ytnkpaockginooaa
set_option linter.unusedVariables false
set_option linter.unusedSimpArgs false
open Go.RowKit Go.Sort Go.ChangeShapes Go.WideShapes
theorem lens_leaf {nm : ByteArray} {ps : List Pr} {ks : List Tr} {n : Nat} (h : nm.size ≤ 1000) (hl : ps.length ≤ 1000) (hp : ∀ p ∈ ps, p.1.size ≤ 1000 ∧ p.2.length ≤ 1000) (hk : ks.length ≤ 1000) (hks : ∀ k ∈ ks, LensF n k) : LensF (n + 1) (.mk nm ps ks) := by
  refine ⟨?_, ?_, ?_, ?_, hks⟩
  · show nm.size ≤ _; omega
  · show ps.length ≤ _; omega
  · show ks.length ≤ _; omega
  · intro p hp'
    have := hp p hp'
    omega
theorem hostT_lens (x : Bd) (hc : x.cpus ≤ 1000) : LensF 3 (hostT x) := by
  have hat : ∀ (l : List Int) (n : Nat), l.length ≤ 100 → (strOfNums (atN l n)).size ≤ 1000 := fun l n hl => by
    rw [strOfNums_size]
    have := atN_len l n
    omega
  refine lens_leaf (by decide) (by simp) (fun p hp => ?_) (by simp) (fun k hk => ?_)
  · simp only [List.mem_cons, List.not_mem_nil, or_false] at hp
    rcases hp with rfl | rfl | rfl
    · exact ⟨by decide, by rw [hcomp_len]; decide⟩
    · exact ⟨by (simp only [irqsP]; decide), by show ([x.irqs].flatMap (bytesN 4 false)).length ≤ _; rw [bytesNs_len]; simp⟩
    · exact ⟨by (simp only [strsP]; decide), by show ([x.strs].flatMap (bytesN 4 false)).length ≤ _; rw [bytesNs_len]; simp⟩
  · simp only [List.mem_cons, List.not_mem_nil, or_false] at hk
    rcases hk with rfl | rfl | rfl
    · refine lens_leaf (by decide) (by simp) (fun p hp => by simp at hp) (by simp; omega) (fun k hk => ?_)
      obtain ⟨i, _, rfl⟩ := List.mem_map.1 hk
      exact lens_leaf (n := 0) (hat _ _ (by decide)) (by simp) (fun p hp => by
        simp only [List.mem_cons, List.not_mem_nil, or_false] at hp
        subst hp
        exact ⟨by (dsimp only; decide), by show ([(i : Int)].flatMap (bytesN 4 false)).length ≤ _; rw [bytesNs_len]; simp⟩) (by simp) (fun k hk => by simp at hk)
    all_goals
      exact lens_leaf (n := 1) (hat _ _ (by decide)) (by simp) (fun p hp => by
        simp only [List.mem_cons, List.not_mem_nil, or_false] at hp
        subst hp
        exact ⟨by (simp only [regP]; decide), by simp only [regP]; rw [bytesNs_len]; simp⟩) (by simp) (fun k hk => by simp at hk)
theorem zeroT_lens : LensF 1 zeroT := lens_leaf (n := 0) (by decide) (by simp) (fun p hp => by simp at hp) (by simp) (fun k hk => by simp at hk)
/-- What a board's tree is, or why there is none. -/
def hTr (x : Bd) : Tr := if fitB x = true then hostT x else zeroT
def hErr (x : Bd) : Int := if fitB x = true then 0 else 282
theorem fit_cpus {x : Bd} (h : fitB x = true) : x.cpus ≤ 1000 := by
  unfold fitB at h
  simp only [Bool.and_eq_true] at h
  have := h.2
  unfold inB at this
  simp only [Bool.and_eq_true, decide_eq_true_eq] at this
  omega
theorem hTr_lens (x : Bd) : LensF 3 (hTr x) := by
  unfold hTr
  split
  · rename_i h
    exact hostT_lens x (fit_cpus h)
  · exact zeroT_lens.mono (by decide)
/-- A tree handed back, with an error. -/
def TrRet (t : Tr) (e0 : Int) (w : World) (e : Ending) (w' : World) : Prop := ∃ (sn : ByteArray) (A1 : Option Addr) (n1 c1 : Nat) (A2 : Option Addr) (n2 c2 k : Nat), e = .returned (.tuple #[.agg #[.string sn, .slice A1 n1 c1, .slice A2 n2 c2], .int .i64 e0]) ∧ TrOk w' w'.heap.size k t [.string sn, .slice A1 n1 c1, .slice A2 n2 c2] ∧ LensF k t ∧ Below w.heap.size w w'
theorem trRet_of {t : Tr} {e0 : Int} {w w' : World} {v : Value} (h : TrP (fun _ => False) t w' v) (hl : LensF 3 t) (hb : Below w.heap.size w w') : TrRet t e0 w (.returned (.tuple #[v, .int .i64 e0])) w' := by
  obtain ⟨cs, k, rfl, hx⟩ := h
  have ho := (TrX.ok hx).mono (show k ≤ k + 3 by omega)
  obtain ⟨x1, xA, xl, xc, xB, xm, xd, hcs⟩ := tr_form ho
  subst hcs
  exact ⟨x1, xA, xl, xc, xB, xm, xd, k + 3, rfl, ho, hl.mono (by omega), hb⟩
theorem htree_all (x : Bd) (hx : BdOk x) (w : World) : Calls Try.prog 29 #[.agg (encBd x).toArray] w (TrRet (hTr x) (hErr x) w) := by
  rcases hf : fitB x with _ | _
  · refine (htree_no x hx hf w).mono ?_
    rintro e w' ⟨rfl, hb⟩
    have e1 : hTr x = zeroT := by unfold hTr; rw [hf]; rfl
    have e2 : hErr x = 282 := by unfold hErr; rw [hf]; rfl
    rw [e1, e2]
    exact ⟨_, _, _, _, _, _, _, 1, rfl, zeroT_ok w' _, zeroT_lens, hb⟩
  · refine (htree_yes x hx hf w).mono ?_
    rintro e w' ⟨v, rfl, hp, hb⟩
    have e1 : hTr x = hostT x := by unfold hTr; rw [hf]; rfl
    have e2 : hErr x = 0 := by unfold hErr; rw [hf]; rfl
    rw [e2]
    exact trRet_of (by rw [e1]; exact hp) (hTr_lens x) hb
theorem rtree_all (x : Bd) (hx : BdOk x) (w : World) : Calls Try.prog 30 #[.agg (encBd x).toArray] w (TrRet (hTr x) (hErr x) w) := by
  rcases hf : fitB x with _ | _
  · refine (rhost_no x hx hf w).mono ?_
    rintro e w' ⟨rfl, hb⟩
    have e1 : hTr x = zeroT := by unfold hTr; rw [hf]; rfl
    have e2 : hErr x = 282 := by unfold hErr; rw [hf]; rfl
    rw [e1, e2]
    exact ⟨_, _, _, _, _, _, _, 1, rfl, zeroT_ok w' _, zeroT_lens, hb⟩
  · refine (rhost_yes x hx hf w).mono ?_
    rintro e w' ⟨v, rfl, hp, hb⟩
    have e1 : hTr x = hostT x := by unfold hTr; rw [hf]; rfl
    have e2 : hErr x = 0 := by unfold hErr; rw [hf]; rfl
    rw [e2]
    exact trRet_of (by rw [e1]; exact hp) (hTr_lens x) hb
/-- A board's bytes, or why there are none. -/
noncomputable def hBlob (x : Bd) : List Int × Int := if fitB x = true then putT (hostT x) else ([], 282)
def BlobP (x : Bd) (w : World) (e : Ending) (w' : World) : Prop := ∃ A c, e = .returned (.tuple #[.slice A (hBlob x).1.length c, .int .i64 (hBlob x).2]) ∧ w'.ownsRow w.heap.size 5 1 (.slice A (hBlob x).1.length c) (hBlob x).1.length ((hBlob x).1.flatMap encB) ∧ Below w.heap.size w w'
set_option maxRecDepth 100000 in
set_option maxHeartbeats 2000000 in
theorem hblob_any (x : Bd) (hx : BdOk x) (w : World) : Calls Try.prog 31 #[.agg (encBd x).toArray] w (BlobP x w) := by
  have HB := Lib.hid (bal (Below.refl w.heap.size w) (.cells (encBd x).toArray 39))
  have HTr := Lib.hid (fun W => htree_all x hx W)
  simp only [encBd] at HTr HB ⊢
  rcases hf : fitB x with _ | _
  · have e1 : hTr x = zeroT := by unfold hTr; rw [hf]; rfl
    have e2 : hErr x = 282 := by unfold hErr; rw [hf]; rfl
    have HE := Lib.hid (show hBlob x = ([], 282) by unfold hBlob; rw [hf]; rfl)
    rw [e1, e2] at HTr
    clear e1 e2 hf
    go_enter Try.func31, Try.ntmps31
    go_wp2_with (go_at_call 29; refine (HTr.out _).mono ?_; rintro e w1 ⟨sn, A1, n1, c1, A2, n2, c2, k, rfl, hT, hL, hb1⟩)
    refine bodyPost_ret (v := .tuple #[.slice none 0 0, .int .i64 282]) (by simp [results, Try.results31, go_sem]) rfl ⟨none, 0, by rw [HE.out]; rfl, by rw [HE.out]; exact World.ownsRow_nil _ _ _ _, ?_⟩
    exact bal' (HB.out.trans (hb1.mono HB.out.size)) _ (by have := (HB.out.trans (hb1.mono HB.out.size)).size; exact this)
  · have e1 : hTr x = hostT x := by unfold hTr; rw [hf]; rfl
    have e2 : hErr x = 0 := by unfold hErr; rw [hf]; rfl
    have HE := Lib.hid (show hBlob x = putT (hostT x) by unfold hBlob; rw [hf]; rfl)
    rw [e1, e2] at HTr
    clear e1 e2 hf
    go_enter Try.func31, Try.ntmps31
    go_wp2_with (first
      | (go_at_call 29; refine (HTr.out _).mono ?_; rintro e w1 ⟨sn, A1, n1, c1, A2, n2, c2, k, rfl, hT, hL, hb1⟩; have hbx := bal (Below.refl w1.heap.size w1) (.cells #[.string sn, .slice A1 n1 c1, .slice A2 n2 c2] 25); have HP := Lib.hid (put_any k _ _ _ (hT.kept hbx) hL); have HB1 := Lib.hid ((HB.out.trans (hb1.mono HB.out.size)).trans (hbx.mono (HB.out.trans (hb1.mono HB.out.size)).size)); have cX := (Blk.new w1 25 #[.string sn, .slice A1 n1 c1, .slice A2 n2 c2]).cell; clear hT hL hbx hb1)
      | (go_at_call 15; refine HP.out.mono ?_; rintro e w2 ⟨A, c, rfl, hown, hb2⟩))
    refine bodyPost_ret (v := .tuple #[.slice A (putT (hostT x)).1.length c, .int .i64 (putT (hostT x)).2]) (by simp [results, Try.results31, go_sem]) rfl ⟨A, c, by rw [HE.out], by rw [HE.out]; exact hown.mono HB1.out.size, HB1.out.trans (hb2.mono HB1.out.size)⟩
end Go.Proofs.Ytnkpaockginooaa
