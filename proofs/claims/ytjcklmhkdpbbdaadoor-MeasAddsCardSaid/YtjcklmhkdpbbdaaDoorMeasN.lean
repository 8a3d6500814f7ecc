/- Chapter 25, the law MeasBack: a log that is put is read as it was: the walk. -/
import Derived.Test.YtjcklmhkdpbbdaaDoorMeasL
namespace Go.Proofs.YtjcklmhkdpbbdaaDoor
set_option linter.unusedVariables false
set_option linter.unusedSimpArgs false
open Go.RowKit Go.Sort Go.ChangeShapes

theorem lput_spec {l : List Rc} (h : lputOk l = true) : l.length ≤ 64 ∧ l.all Rc.may = true := by
  unfold lputOk at h
  simpa using h
theorem logN_bytes {l : List Rc} (h : l.length ≤ 64) : logN (logBytes l) = l.length := by
  unfold logN logBytes
  rw [List.take_left' (bytesN_len _ _ _), numB_bytesN 4 _ (by omega) (by simp; omega)]
  simp
theorem ofLog_bytes {l : List Rc} (h0 : RcsOk l) (h : lputOk l = true) : ofLogOk (logBytes l) = true ∧ recsN (logBytes l) l.length = l := by
  obtain ⟨h1, h2⟩ := lput_spec h
  have hr : recsN (logBytes l) l.length = l := by rw [recsN_bytes h0 h2 _ (Nat.le_refl _), List.take_length]
  refine ⟨?_, hr⟩
  unfold ofLogOk
  rw [logN_bytes h1, hr, h2, logBytes_len h0, decide_eq_true (by omega)]
  rfl
theorem logBytes_ok {l : List Rc} (h : RcsOk l) : BytesOk (logBytes l) := fun x hx => by
  unfold logBytes at hx
  rcases List.mem_append.1 hx with hx | hx
  · exact bytesN_ok _ _ _ x hx
  · obtain ⟨r, hr, hx⟩ := List.mem_flatMap.1 hx
    exact Rc.bytes_ok (h r hr) x hx
set_option maxRecDepth 100000 in
set_option maxHeartbeats 2000000 in
theorem measBack_any (A : Option Addr) (n c : Nat) (l : List Rc) (w : World) (hl : l.length = n) (hn : n ≤ 9223372036854775807) (h0 : RcsOk l) (hr : Rd w w.heap.size 35 A n (l.flatMap Rc.cs)) (hT : Tabs w) :
    Calls Tryd.prog 13 #[.slice A n c] w fun e w' => e = .returned (.bool true) ∧ Below w.heap.size w w' := by
  have HA := Lib.hid (awake25_any w hT)
  by_cases h80 : n ≤ 80
  · have HP := Lib.hid (fun W (hb : Below w.heap.size w W) => putLog_any A n c l W hl (by omega) h0 ((hr.below hb).more hb.size))
    have HR := Lib.hid hr
    have HL := Lib.hid hl
    have HO := Lib.hid h0
    have h80I : ¬ (80 : Int) < (n : Int) := by omega
    cases hp : lputOk l with
    | false =>
      have HP2 : Hid (∀ W, Below w.heap.size w W → Calls Tryd.prog 47 #[.slice A n c] W fun e w' => e = .returned (.tuple #[.slice none 0 0, .int .i64 250]) ∧ Below W.heap.size W w') := Lib.hid fun W hb => (HP.out W hb).mono fun e w' h => by
        rcases h with ⟨⟨h1, _⟩ | ⟨_, h2⟩, h3⟩
        · rw [hp] at h1; cases h1
        · exact ⟨h2, h3⟩
      clear hl hn h0 hr hT hp HP
      go_enter Tryd.func13, Tryd.ntmps13
      go_wp2_with (first
        | (go_at_call 28; refine HA.out.mono ?_; rintro e w1 ⟨rfl, hb1⟩)
        | (go_at_call 47; refine (HP2.out _ hb1).mono ?_; rintro e w2 ⟨rfl, hb2⟩))
      go_ret
      exact ⟨rfl, hb1.trans (hb2.mono hb1.size)⟩
    | true =>
      have HP2 : Hid (∀ W, Below w.heap.size w W → Calls Tryd.prog 47 #[.slice A n c] W fun e w' => ∃ A2 c2, e = .returned (.tuple #[.slice A2 (4 + 44 * n) c2, .int .i64 0]) ∧ w'.ownsRow W.heap.size 5 1 (.slice A2 (4 + 44 * n) c2) (4 + 44 * n) ((logBytes l).flatMap encB) ∧ Below W.heap.size W w') := Lib.hid fun W hb => (HP.out W hb).mono fun e w' h => by
        rcases h with ⟨⟨_, A2, c2, h1, h2⟩ | ⟨h1, _⟩, h3⟩
        · exact ⟨A2, c2, h1, h2, h3⟩
        · rw [hp] at h1; cases h1
      obtain ⟨hof, hrec⟩ := ofLog_bytes h0 hp
      have h64 := (lput_spec hp).1
      have hlN := logN_bytes h64
      have hlen := logBytes_len h0
      rw [hl] at hrec hlN hlen
      have HF : Hid (∀ W A2 c2, W.ownsRow 0 5 1 (.slice A2 (4 + 44 * n) c2) (4 + 44 * n) ((logBytes l).flatMap encB) → Calls Tryd.prog 49 #[.slice A2 (4 + 44 * n) c2] W fun e w' => ∃ A3 c3, e = .returned (.tuple #[.slice A3 n c3, .int .i64 0]) ∧ w'.ownsRow W.heap.size 61 35 (.slice A3 n c3) n (l.flatMap Rc.cs) ∧ Below W.heap.size W w') := Lib.hid fun W A2 c2 ho =>
        (ofLog_any A2 (4 + 44 * n) c2 (logBytes l) W hlen (logBytes_ok h0) (by omega) (own_cap ho) (Rd.of_own ho)).mono fun e w' h => by
          rcases h with ⟨⟨_, A3, c3, h1, h2⟩ | ⟨h1, _⟩, h3⟩
          · rw [hlN] at h1 h2
            rw [hrec] at h2
            exact ⟨A3, c3, h1, h2, h3⟩
          · rw [hof] at h1; cases h1
      clear hl hn h0 hr hT hp HP hof hrec h64 hlN hlen
      go_enter Tryd.func13, Tryd.ntmps13
      go_wp2_with (first
        | (go_at_call 28; refine HA.out.mono ?_; rintro e w1 ⟨rfl, hb1⟩)
        | (go_at_call 47; refine (HP2.out _ hb1).mono ?_; rintro e w2 ⟨A2, c2, rfl, hown2, hb2⟩; have hbx := hb1.trans (hb2.mono hb1.size))
        | (go_at_call 49; refine (HF.out _ A2 c2 (own_base hown2 (Nat.zero_le _))).mono ?_; rintro e w3 ⟨A3, c3, rfl, hown3, hb3⟩; have hby := hbx.trans (hb3.mono hbx.size))
        | (go_at_call 33; refine (sameLog_any A3 n c3 l A n c l _ (by omega) HL.out HL.out HO.out HO.out (Rd.of_own hown3) ((HR.out.below hby).more hby.size)).mono ?_; rintro e w4 ⟨rfl, hb4⟩))
      go_ret
      exact ⟨by simp, hby.trans (hb4.mono hby.size)⟩
  · have h80I : (80 : Int) < (n : Int) := by omega
    clear hl h0 hr hT
    go_enter Tryd.func13, Tryd.ntmps13
    go_wp2_with (go_at_call 28; refine HA.out.mono ?_; rintro e w1 ⟨rfl, hb1⟩)
    go_ret
    exact ⟨rfl, hb1⟩
set_option maxRecDepth 100000 in
theorem measBack_law : LawWalkL Tryd.prog 13 Tryd.f13 := by
  intro H enc W base args ds p hval hA hlt hfz hsz hT
  rw [Tryd.params13] at hA hval
  obtain ⟨v0, d0, rfl, rfl, h0⟩ := trodAll_one hA
  obtain ⟨A, n, c, l, rfl, hnc, hn, hc, hl, ho, hr⟩ := open_recs (hval 0 51 v0 rfl rfl) h0 hlt
  exact measBack_any A n c l W hl hn ho hr hT
end Go.Proofs.YtjcklmhkdpbbdaaDoor
