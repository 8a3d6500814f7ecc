/- Chapter 25, the law MeasLogs: any log as bytes, and the log that any bytes are: the walk. -/
import Derived.Test.YtjcklmhkdpbbdaaDoorMeasO
namespace Go.Proofs.YtjcklmhkdpbbdaaDoor
set_option linter.unusedVariables false
set_option linter.unusedSimpArgs false
open Go.RowKit Go.Sort Go.ChangeShapes

def putBs (l : List Rc) : List Int := if lputOk l then logBytes l else []
def putEr (l : List Rc) : Int := if lputOk l then 0 else 250
def ofRs (b : List Int) : List Rc := if ofLogOk b then recsN b (logN b) else []
def ofEr (b : List Int) : Int := if ofLogOk b then 0 else 250
theorem lput_u {l : List Rc} {n : Nat} {w : World} {f : FuncId} {A : Array Value} (h0 : RcsOk l) (hl : l.length = n) (hc : Calls Tryd.prog f A w (LputRes l n w)) :
    Calls Tryd.prog f A w fun e w' => ∃ A' c', e = .returned (.tuple #[.slice A' (putBs l).length c', .int .i64 (putEr l)]) ∧ Rd w' w'.heap.size 1 A' (putBs l).length ((putBs l).flatMap encB) ∧ Below w.heap.size w w' :=
  hc.mono fun e w' ⟨h, hb⟩ => by
    rcases h with ⟨h1, A', c', h2, h3⟩ | ⟨h1, h2⟩
    · have e1 : (logBytes l).length = 4 + 44 * n := by rw [logBytes_len h0, hl]
      refine ⟨A', c', ?_, ?_, hb⟩
      · unfold putBs putEr; rw [if_pos h1, if_pos h1, e1]; exact h2
      · unfold putBs; rw [if_pos h1, e1]; exact Rd.of_own h3
    · refine ⟨none, 0, ?_, ?_, hb⟩
      · unfold putBs putEr; rw [h1]; exact h2
      · unfold putBs; rw [h1]; exact Rd.nil
theorem of_u {b : List Int} {w : World} {f : FuncId} {A : Array Value} (hc : Calls Tryd.prog f A w (OfLogRes b w)) :
    Calls Tryd.prog f A w fun e w' => ∃ A' c', e = .returned (.tuple #[.slice A' (ofRs b).length c', .int .i64 (ofEr b)]) ∧ w'.ownsRow 0 61 35 (.slice A' (ofRs b).length c') (ofRs b).length ((ofRs b).flatMap Rc.cs) ∧ Below w.heap.size w w' :=
  hc.mono fun e w' ⟨h, hb⟩ => by
    rcases h with ⟨h1, A', c', h2, h3⟩ | ⟨h1, h2⟩
    · refine ⟨A', c', ?_, ?_, hb⟩
      · unfold ofRs ofEr; rw [if_pos h1, if_pos h1, recsN_len]; exact h2
      · unfold ofRs; rw [if_pos h1, recsN_len]; exact own_base h3 (Nat.zero_le _)
    · refine ⟨none, 0, ?_, ?_, hb⟩
      · unfold ofRs ofEr; rw [h1]; exact h2
      · unfold ofRs; rw [h1]; exact World.ownsRow_nil _ _ _ _
theorem ofRs_ok {b : List Int} (h : BytesOk b) : RcsOk (ofRs b) ∧ (ofRs b).length ≤ 64 := by
  unfold ofRs
  split
  · rename_i h1
    unfold ofLogOk at h1
    simp only [Bool.and_eq_true, decide_eq_true_eq] at h1
    exact ⟨recsN_ok h _ (by omega), by rw [recsN_len]; omega⟩
  · exact ⟨(fun r hr => by cases hr), by simp⟩
set_option maxRecDepth 100000 in
set_option maxHeartbeats 2000000 in
theorem measLogs_any (A A2 : Option Addr) (n c n2 c2 : Nat) (l : List Rc) (b : List Int) (w : World) (hl : l.length = n) (hl2 : b.length = n2) (hn : n ≤ 9223372036854775807) (hn2 : n2 ≤ 9223372036854775807) (h0 : RcsOk l) (h02 : BytesOk b)
    (hr : Rd w w.heap.size 35 A n (l.flatMap Rc.cs)) (hr2 : Rd w w.heap.size 1 A2 n2 (b.flatMap encB)) (hnc : n2 ≤ c2) (hT : Tabs w) :
    Calls Tryd.prog 12 #[.slice A n c, .slice A2 n2 c2] w fun e w' => e = .returned (.bool true) ∧ Below w.heap.size w w' := by
  have HA := Lib.hid (awake25_any w hT)
  by_cases hs : n ≤ 80 ∧ n2 ≤ 4000
  · obtain ⟨h1, h2⟩ := hs
    have h1I : ¬ (80 : Int) < (n : Int) := by omega
    have h2I : ¬ (4000 : Int) < (n2 : Int) := by omega
    have P1 := Lib.hid (fun W (hb : Below w.heap.size w W) => lput_u h0 hl (putLog_any A n c l W hl (by omega) h0 ((hr.below hb).more hb.size)))
    have P2 := Lib.hid (fun W (hb : Below w.heap.size w W) => lput_u h0 hl (refPutLog_any A n c l W hl (by omega) h0 ((hr.below hb).more hb.size)))
    have O1 := Lib.hid (fun W (hb : Below w.heap.size w W) => of_u (ofLog_any A2 n2 c2 b W hl2 h02 (by omega) hnc ((hr2.below hb).more hb.size)))
    have O2 := Lib.hid (fun W (hb : Below w.heap.size w W) => of_u (refOfLog_any A2 n2 c2 b W hl2 h02 (by omega) hnc ((hr2.below hb).more hb.size)))
    obtain ⟨r1, r2⟩ := ofRs_ok h02
    have HRo := Lib.hid r1
    generalize putBs l = pb at *
    generalize putEr l = pe at *
    generalize ofRs b = rs at *
    generalize ofEr b = oe at *
    obtain ⟨m1, hm1⟩ : ∃ m, pb.length = m := ⟨_, rfl⟩
    obtain ⟨m2, hm2⟩ : ∃ m, rs.length = m := ⟨_, rfl⟩
    rw [hm1] at P1 P2
    rw [hm2] at O1 O2 r2
    have HM1 := Lib.hid hm1
    have HM2 := Lib.hid hm2
    clear hr hr2 hT hl hl2 h0 h02 hn hn2 hnc r1 hm1 hm2
    go_enter Tryd.func12, Tryd.ntmps12
    go_wp2_with (first
      | (go_at_call 28; refine HA.out.mono ?_; rintro e w1 ⟨rfl, hb1⟩)
      | (go_at_call 47; refine (P1.out _ hb1).mono ?_; rintro e w3 ⟨A3, c3, rfl, hr3, hb3⟩; have hb3x := hb1.trans (hb3.mono hb1.size))
      | (go_at_call 48; refine (P2.out _ hb3x).mono ?_; rintro e w4 ⟨A4, c4, rfl, hr4, hb4⟩; have hb4x := hb3x.trans (hb4.mono hb3x.size))
      | (go_at_call 49; refine (O1.out _ hb4x).mono ?_; rintro e w5 ⟨A5, c5, rfl, ho5, hb5⟩; have hb5x := hb4x.trans (hb5.mono hb4x.size))
      | (go_at_call 50; refine (O2.out _ hb5x).mono ?_; rintro e w6 ⟨A6, c6, rfl, ho6, hb6⟩; have hb6x := hb5x.trans (hb6.mono hb5x.size); have hbb := hb5.trans (hb6.mono hb5.size); have s1 := conv_str ((hr3.below hb4).below (hbb.mono (Nat.le_trans (Nat.le_refl _) hb4.size))) HM1.out c3; have s2 := conv_str (hr4.below hbb) HM1.out c4)
      | (go_at_call 33; refine (sameLog_any A5 m2 c5 rs A6 m2 c6 rs _ (by omega) HM2.out HM2.out HRo.out HRo.out (Rd.of_own (own_kept ho5 hb6)) (Rd.of_own ho6)).mono ?_; rintro e w7 ⟨rfl, hb7⟩))
    go_ret
    exact ⟨by simp, hb6x.trans (hb7.mono hb6x.size)⟩
  · have hc : 80 < n ∨ (n ≤ 80 ∧ 4000 < n2) := by omega
    rcases hc with h1 | ⟨h1, h2⟩
    case' inl => have h1I : (80 : Int) < (n : Int) := by omega
    case' inr =>
      have h1I : ¬ (80 : Int) < (n : Int) := by omega
      have h2I : (4000 : Int) < (n2 : Int) := by omega
    all_goals
      clear hs hr hr2 hT hl hl2 h0 h02 hnc
      go_enter Tryd.func12, Tryd.ntmps12
      go_wp2_with (go_at_call 28; refine HA.out.mono ?_; rintro e w1 ⟨rfl, hb1⟩)
      go_ret
      exact ⟨rfl, hb1⟩
set_option maxRecDepth 100000 in
theorem measLogs_law : LawWalkL Tryd.prog 12 Tryd.f12 := by
  intro H enc W base args ds p hval hA hlt hfz hsz hT
  rw [Tryd.params12] at hA hval
  obtain ⟨v0, v1, d0, d1, p0, p1, rfl, rfl, rfl, h0, h1⟩ := trodAll_two hA
  obtain ⟨A, n, c, l, rfl, hnc, hn, hc, hl, ho, hr⟩ := open_recs (hval 0 51 v0 rfl rfl) h0 (fun x hx => hlt x (by simp [hx]))
  obtain ⟨A2, n2, c2, b, rfl, hnc2, hx2, hl2, ho2, hr2⟩ := open_bytes (hval 1 29 v1 rfl rfl) h1 (fun x hx => hlt x (by simp [hx]))
  have hmx : maxLen ≤ 9223372036854775807 := by decide
  exact measLogs_any A A2 n c n2 c2 l b W hl hl2 hn (Nat.le_trans hx2 hmx) ho ho2 hr hr2 hnc2 hT
end Go.Proofs.YtjcklmhkdpbbdaaDoor
