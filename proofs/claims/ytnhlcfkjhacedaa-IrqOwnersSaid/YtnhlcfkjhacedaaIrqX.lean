/- Chapter 22, the laws IrqBack, IrqBytes and IrqGic: they return true whatever the input, and leave what was there. -/
import Derived.Test.YtnhlcfkjhacedaaIrqW
namespace Go.Proofs.Ytnhlcfkjhacedaa
set_option linter.unusedVariables false
open Go.RowKit Go.Sort Go.ChangeShapes Go.WideShapes

/-- Bytes as routes, by either. -/
def PairOfR (q : Nat) (ss : List Rt) (e : Int) (f : FuncId) (A : Option Addr) (n c : Nat) (l : List Int) : Prop :=
  ∀ w : World, Rd w w.heap.size 1 A n (l.flatMap encB) → Calls Try.prog f #[.slice A n c] w fun en w' => ∃ A' c', en = .returned (.tuple #[.slice A' q c', .int .i64 e]) ∧ Rd w' w'.heap.size 3 A' q (ss.flatMap encR) ∧ Below w.heap.size w w'
theorem pairOf_res {l : List Int} {m : Nat} {w : World} {e : Ending} {w' : World} (h : RofRes l m w e w') :
    (rputOk (tabR l m) = true ∧ rBytes (tabR l m) = l → ∃ A' c', e = .returned (.tuple #[.slice A' m c', .int .i64 0]) ∧ Rd w' w'.heap.size 3 A' m ((tabR l m).flatMap encR) ∧ Below w.heap.size w w') ∧
    (¬ (rputOk (tabR l m) = true ∧ rBytes (tabR l m) = l) → ∃ A' c', e = .returned (.tuple #[.slice A' 0 c', .int .i64 220]) ∧ Rd w' w'.heap.size 3 A' 0 (([] : List Rt).flatMap encR) ∧ Below w.heap.size w w') := by
  obtain ⟨h, hb⟩ := h
  rcases h with ⟨h, A', c', he, ho⟩ | ⟨h, he⟩
  · exact ⟨fun _ => ⟨A', c', he, Rd.of_own ho, hb⟩, fun h' => absurd h h'⟩
  · exact ⟨fun h' => absurd h' h, fun _ => ⟨none, 0, he, Rd.nil, hb⟩⟩
theorem pair_of (A : Option Addr) (n c : Nat) (l : List Int) (hl : l.length = n) (hn : n ≤ 1000000) (hok : BytesOk l) : ∃ q ss e, ss.length = q ∧ q ≤ 1020 ∧ PairOfR q ss e 28 A n c l ∧ PairOfR q ss e 29 A n c l := by
  by_cases h : n % 4 ≠ 0 ∨ 4080 < n
  · exact ⟨0, [], 220, rfl, by omega, fun w _ => (rofOut_any A n c w hn h).mono fun e w' ⟨he, hb⟩ => ⟨none, 0, he, Rd.nil, hb⟩, fun w _ => (refRofOut_any A n c w hn h).mono fun e w' ⟨he, hb⟩ => ⟨none, 0, he, Rd.nil, hb⟩⟩
  · obtain ⟨m, rfl⟩ : ∃ m, n = 4 * m := ⟨n / 4, by omega⟩
    have hm : m ≤ 1020 := by omega
    by_cases hg : rputOk (tabR l m) = true ∧ rBytes (tabR l m) = l
    · exact ⟨m, tabR l m, 0, tabR_len l m, hm, fun w hr => (rof_any A m c l w hl hok hm hr).mono fun e w' h => (pairOf_res h).1 hg, fun w hr => (refRof_any A m c l w hl hok hm hr).mono fun e w' h => (pairOf_res h).1 hg⟩
    · exact ⟨0, [], 220, rfl, by omega, fun w hr => (rof_any A m c l w hl hok hm hr).mono fun e w' h => (pairOf_res h).2 hg, fun w hr => (refRof_any A m c l w hl hok hm hr).mono fun e w' h => (pairOf_res h).2 hg⟩
def PairPutR (q : Nat) (bs : List Int) (e : Int) (f : FuncId) (A : Option Addr) (n c : Nat) (l : List Rt) : Prop :=
  ∀ w : World, Rd w w.heap.size 3 A n (l.flatMap encR) → Calls Try.prog f #[.slice A n c] w fun en w' => ∃ A' c', en = .returned (.tuple #[.slice A' q c', .int .i64 e]) ∧ Rd w' w'.heap.size 1 A' q (bs.flatMap encB) ∧ Below w.heap.size w w'
theorem pairPut_res {l : List Rt} {n : Nat} {w : World} {e : Ending} {w' : World} (h : RputRes l n w e w') :
    (rputOk l = true → ∃ A' c', e = .returned (.tuple #[.slice A' (4 * n) c', .int .i64 0]) ∧ Rd w' w'.heap.size 1 A' (4 * n) ((rBytes l).flatMap encB) ∧ Below w.heap.size w w') ∧
    (¬ rputOk l = true → ∃ A' c', e = .returned (.tuple #[.slice A' 0 c', .int .i64 220]) ∧ Rd w' w'.heap.size 1 A' 0 (([] : List Int).flatMap encB) ∧ Below w.heap.size w w') := by
  obtain ⟨h, hb⟩ := h
  rcases h with ⟨h, A', c', he, ho⟩ | ⟨h, he⟩
  · exact ⟨fun _ => ⟨A', c', he, Rd.of_own ho, hb⟩, fun h' => absurd h h'⟩
  · exact ⟨fun h' => (by rw [h] at h'; cases h'), fun _ => ⟨none, 0, he, Rd.nil, hb⟩⟩
theorem pair_put (A : Option Addr) (n c : Nat) (l : List Rt) (hl : l.length = n) (hn : n ≤ 1000000) : ∃ q bs e, bs.length = q ∧ PairPutR q bs e 26 A n c l ∧ PairPutR q bs e 27 A n c l := by
  by_cases h : rputOk l = true
  · exact ⟨4 * n, rBytes l, 0, by rw [rBytes_len, hl], fun w hr => (rput_any A n c l w hl hn hr).mono fun e w' hh => (pairPut_res hh).1 h, fun w hr => (refPutRoutes_any A n c l w hl hn hr).mono fun e w' hh => (pairPut_res hh).1 h⟩
  · exact ⟨0, [], 220, rfl, fun w hr => (rput_any A n c l w hl hn hr).mono fun e w' hh => (pairPut_res hh).2 h, fun w hr => (refPutRoutes_any A n c l w hl hn hr).mono fun e w' hh => (pairPut_res hh).2 h⟩

set_option maxHeartbeats 2000000 in
theorem irqBytes_any (A A2 : Option Addr) (n c n2 c2 : Nat) (l : List Rt) (bs : List Int) (w : World) (hl : l.length = n) (hl2 : bs.length = n2) (hm : n ≤ 9223372036854775807) (hm2 : n2 ≤ 9223372036854775807) (hok : BytesOk bs)
    (hr : Rd w w.heap.size 3 A n (l.flatMap encR)) (hr2 : Rd w w.heap.size 1 A2 n2 (bs.flatMap encB)) :
    Calls Try.prog 9 #[.slice A n c, .slice A2 n2 c2] w fun e w' => e = .returned (.bool true) ∧ Below w.heap.size w w' := by
  have HR := Lib.hid hr
  have HR2 := Lib.hid hr2
  by_cases h : n ≤ 1100 ∧ n2 ≤ 4200
  · obtain ⟨h1, h2⟩ := h
    obtain ⟨q, xs, e, hq, P1, P2⟩ := pair_put A n c l hl (by omega)
    obtain ⟨q', ss, e', hq', hq2, O1, O2⟩ := pair_of A2 n2 c2 bs hl2 (by omega) hok
    have KP1 := Lib.hid P1
    have KP2 := Lib.hid P2
    have KO1 := Lib.hid O1
    have KO2 := Lib.hid O2
    have KQ := Lib.hid hq
    have KQ' := Lib.hid hq'
    clear P1 P2 O1 O2 hl hl2 hok hr hr2 hq hq'
    go_enter Try.func9, Try.ntmps9
    go_wp2_with (first
      | (go_at_call 14; refine (awake22_any _).mono ?_; rintro e w1 ⟨rfl, hb1⟩)
      | (go_at_call 26; refine (KP1.out _ ((HR.out.below hb1).more hb1.size)).mono ?_; rintro e w2 ⟨Ax, cx, rfl, hx2, hb2⟩; have b2 := hb1.trans (hb2.mono hb1.size))
      | (go_at_call 27; refine (KP2.out _ ((HR.out.below b2).more b2.size)).mono ?_; rintro e w3 ⟨Ay, cy, rfl, hy3, hb3⟩; have b3 := b2.trans (hb3.mono b2.size); have hx3 := (hx2.below hb3).more hb3.size)
      | (go_at_call 28; refine (KO1.out _ ((HR2.out.below b3).more b3.size)).mono ?_; rintro e w4 ⟨Ap, cp, rfl, hp4, hb4⟩; have b4 := b3.trans (hb4.mono b3.size); have hx4 := (hx3.below hb4).more hb4.size; have hy4 := (hy3.below hb4).more hb4.size)
      | (go_at_call 29; refine (KO2.out _ ((HR2.out.below b4).more b4.size)).mono ?_; rintro e w5 ⟨Aq, cq, rfl, hq5, hb5⟩; have b5 := b4.trans (hb5.mono b4.size); have hp5 := (hp4.below hb5).more hb5.size; have s1 := conv_str (hx4.below hb5) KQ.out cx; have s2 := conv_str (hy4.below hb5) KQ.out cy)
      | (go_at_call 18; refine (sameRoutes_eq Ap Aq q' cp cq ss _ KQ'.out (by omega) hp5 hq5).mono ?_; rintro e w6 ⟨rfl, hb6⟩))
    go_ret
    exact ⟨rfl, b5.trans (hb6.mono b5.size)⟩
  · have H := Lib.hid h
    clear h hl hl2 hok hr hr2
    go_enter Try.func9, Try.ntmps9
    go_wp2_with (first
      | (go_at_call 14; refine (awake22_any _).mono ?_; rintro e w1 ⟨rfl, hb1⟩)
      | (go_at_call 26; exfalso; refine H.out ?_; omega))
    all_goals (go_ret; exact ⟨rfl, hb1⟩)

set_option maxHeartbeats 2000000 in
theorem irqBack_any (A : Option Addr) (n c : Nat) (l : List Rt) (w : World) (hl : l.length = n) (hm : n ≤ 9223372036854775807) (hr : Rd w w.heap.size 3 A n (l.flatMap encR)) :
    Calls Try.prog 10 #[.slice A n c] w fun e w' => e = .returned (.bool true) ∧ Below w.heap.size w w' := by
  have HL := Lib.hid hl
  have HR := Lib.hid hr
  clear hl hr
  by_cases h300 : n ≤ 1100
  · have HPut := Lib.hid (fun W (h : Rd W W.heap.size 3 A n (l.flatMap encR)) => (rput_any A n c l W HL.out (by omega) h).mono fun e w' h => pairPut_res h)
    cases hp : rputOk l with
    | false =>
      have HP := Lib.hid (show ¬ rputOk l = true by rw [hp]; simp)
      clear hp
      go_enter Try.func10, Try.ntmps10
      go_wp2_with (first
        | (go_at_call 14; refine (awake22_any _).mono ?_; rintro e w1 ⟨rfl, hb1⟩)
        | (go_at_call 26; refine (HPut.out _ ((HR.out.below hb1).more hb1.size)).mono ?_; rintro e w2 ⟨_, hres⟩; obtain ⟨A2, c2, rfl, hr2, hb2⟩ := hres HP.out; clear hres))
      go_ret
      exact ⟨rfl, hb1.trans (hb2.mono hb1.size)⟩
    | true =>
      have hp' := hp
      unfold rputOk at hp'
      simp only [Bool.and_eq_true, decide_eq_true_eq] at hp'
      obtain ⟨h1020, hmay⟩ := hp'
      have h256 : n ≤ 1020 := by rw [HL.out] at h1020; exact h1020
      have HG := Lib.hid (show rputOk (tabR (rBytes l) n) = true ∧ rBytes (tabR (rBytes l) n) = rBytes l by
        rw [← HL.out, tab_back]; exact ⟨hp, rfl⟩)
      have HTab := Lib.hid (show tabR (rBytes l) n = l by rw [← HL.out, tab_back])
      have HSL := Lib.hid (show (rBytes l).length = 4 * n by rw [rBytes_len, HL.out])
      have HOf := Lib.hid (fun A2 c2 W (h : Rd W W.heap.size 1 A2 (4 * n) ((rBytes l).flatMap encB)) => (rof_any A2 n c2 (rBytes l) W HSL.out (rBytes_ok hmay) h256 h).mono fun e w' h => (pairOf_res h).1 HG.out)
      rw [HTab.out] at HOf
      have HP := Lib.hid hp
      clear hp hmay h1020
      go_enter Try.func10, Try.ntmps10
      go_wp2_with (first
        | (go_at_call 14; refine (awake22_any _).mono ?_; rintro e w1 ⟨rfl, hb1⟩)
        | (go_at_call 26; refine (HPut.out _ ((HR.out.below hb1).more hb1.size)).mono ?_; rintro e w2 ⟨hres, _⟩; obtain ⟨A2, c2, rfl, hr2, hb2⟩ := hres HP.out; clear hres)
        | (go_at_call 28; refine (HOf.out A2 c2 _ hr2).mono ?_; rintro e w3 ⟨A3, c3, rfl, hr3, hb3⟩)
        | (go_at_call 18; refine (sameRoutes_eq A3 A n c3 c l _ HL.out (by omega) hr3 ((HR.out.below (hb1.trans ((hb2.trans (hb3.mono hb2.size)).mono hb1.size))).more (Nat.le_trans hb1.size (Nat.le_trans hb2.size hb3.size)))).mono ?_; rintro e w4 ⟨rfl, hb4⟩))
      go_ret
      have b2 := hb1.trans (hb2.mono hb1.size)
      have b3 := b2.trans (hb3.mono b2.size)
      exact ⟨rfl, b3.trans (hb4.mono b3.size)⟩
  · go_enter Try.func10, Try.ntmps10
    go_wp2_with (go_at_call 14; refine (awake22_any _).mono ?_; rintro e w1 ⟨rfl, hb1⟩)
    go_ret
    exact ⟨rfl, hb1⟩

theorem flat_r {cs : List Value} (h : FlatOk [.int .i64, .int .i64, .bool] cs) : ∃ r : Rt, cs = encR r ∧ True := by
  match cs, h with
  | [.int _ a, .int _ b, .bool c], ⟨rfl, _, rfl, _, _⟩ => exact ⟨⟨a, b, c⟩, rfl, trivial⟩
set_option maxRecDepth 100000 in
theorem open_routes {H : Type} {enc : TypeId × Value → H} {W : World} {v : Value} {d : DataW H} {p : List MemPlace} {b0 : Nat} {r : Reach}
    (hv : Value.okWide Try.prog W r b0 36 v) (h : DataW.Trod enc Try.prog W 0 (fun _ => true) true 36 v d p) (hlt : ∀ x ∈ p, x.block < W.heap.size) :
    ∃ (A : Option Addr) (n c : Nat) (l : List Rt), v = .slice A n c ∧ n ≤ c ∧ n ≤ maxLen ∧ l.length = n ∧ Rd W W.heap.size 3 A n (l.flatMap encR) := by
  obtain ⟨A, n, cp, xss, rfl, hnc, hcm, hx, hok, hr⟩ := open_rows Try.underlying36 flat_route (by kernel_rfl) (by decide) hv h hlt
  obtain ⟨l, hl, hf, hb⟩ := list_of_rows (enc := encR) (ok := fun _ => True) xss (fun xs hxs => flat_r (hok xs hxs))
  rw [hf] at hr
  exact ⟨A, n, cp, l, rfl, hnc, Nat.le_trans hnc hcm, hl.trans hx, hr⟩
set_option maxRecDepth 100000 in
theorem irqBack_law : LawWalk Try.prog 10 Try.f10 := by
  intro H enc W base args ds p hval hA hlt hfz hsz
  rw [Try.params10] at hA hval
  obtain ⟨v0, d0, rfl, rfl, h0⟩ := trodAll_one hA
  obtain ⟨A, n, c, l, rfl, hnc, hm, hl, hr⟩ := open_routes (hval 0 36 v0 rfl rfl) h0 hlt
  exact irqBack_any A n c l W hl (ml hm) hr
theorem irqBack_proved : Rows.IrqBackSaid :=
  OpenClaim.holds_of_wide 10 Try.f10 rfl rfl rfl rfl rfl rfl rfl ⟨rfl, rfl, rfl, rfl, rfl⟩ rfl rfl rfl rfl rfl (by kernel_rfl) Try.func10 (by kernel_rfl)
    (of_decide_eq_true (by kernel_rfl)) (by unfold Func.isWrapper; rw [if_neg (of_decide_eq_false (by kernel_rfl))]; exact ⟨rfl, rfl⟩)
    (fun os started H enc _ => law_lifted (C := Try.checked) (s := Rows.irqBackSpec) started own laidOut (by kernel_rfl) Try.func10 rfl (n := 1) (by kernel_rfl) (fun ds h => by match ds, h with | [_], _ => rfl) (tb := 4) (by kernel_rfl) Try.underlying4 (by kernel_rfl)
      (ChangeSpec.witness6 (enc := enc) (C := Try.checked) false ⟨#[], #[.slice none 0 0], []⟩ 8 (by kernel_rfl) (by kernel_rfl) (by kernel_rfl) (by kernel_rfl)) irqBack_law)
set_option maxRecDepth 100000 in
theorem irqBytes_law : LawWalk Try.prog 9 Try.f9 := by
  intro H enc W base args ds p hval hA hlt hfz hsz
  rw [Try.params9] at hA hval
  obtain ⟨v0, v1, d0, d1, p0, p1, rfl, rfl, rfl, h0, h1⟩ := trodAll_two hA
  obtain ⟨A, n, c, l, rfl, hnc, hm, hl, hr⟩ := open_routes (hval 0 36 v0 rfl rfl) h0 (fun x hx => hlt x (by simp [hx]))
  obtain ⟨A2, n2, c2, bs, rfl, hnc2, hm2, hl2, hok, hr2⟩ := open_bytes (hval 1 45 v1 rfl rfl) h1 (fun x hx => hlt x (by simp [hx]))
  exact irqBytes_any A A2 n c n2 c2 l bs W hl hl2 (ml hm) (ml hm2) hok hr hr2
theorem irqBytes_proved : Rows.IrqBytesSaid :=
  OpenClaim.holds_of_wide 9 Try.f9 rfl rfl rfl rfl rfl rfl rfl ⟨rfl, rfl, rfl, rfl, rfl⟩ rfl rfl rfl rfl rfl (by kernel_rfl) Try.func9 (by kernel_rfl)
    (of_decide_eq_true (by kernel_rfl)) (by unfold Func.isWrapper; rw [if_neg (of_decide_eq_false (by kernel_rfl))]; exact ⟨rfl, rfl⟩)
    (fun os started H enc _ => law_lifted (C := Try.checked) (s := Rows.irqBytesSpec) started own laidOut (by kernel_rfl) Try.func9 rfl (n := 2) (by kernel_rfl) (fun ds h => by match ds, h with | [_, _], _ => rfl) (tb := 4) (by kernel_rfl) Try.underlying4 (by kernel_rfl)
      (ChangeSpec.witness6 (enc := enc) (C := Try.checked) false ⟨#[], #[.slice none 0 0, .slice none 0 0], []⟩ 8 (by kernel_rfl) (by kernel_rfl) (by kernel_rfl) (by kernel_rfl)) irqBytes_law)

set_option maxHeartbeats 4000000 in
theorem irqGic_any (A : Option Addr) (n c : Nat) (l : List Rt) (w : World) (hl : l.length = n) (hm : n ≤ 9223372036854775807) (hr : Rd w w.heap.size 3 A n (l.flatMap encR)) :
    Calls Try.prog 5 #[.slice A n c] w fun e w' => e = .returned (.bool true) ∧ Below w.heap.size w w' := by
  have HR := Lib.hid hr
  by_cases h : n ≤ 1100
  · have H1 := Lib.hid (fun W (h : Rd W W.heap.size 3 A n (l.flatMap encR)) => gic_any A n c l W hl (by omega) h)
    have H2 := Lib.hid (fun W (h : Rd W W.heap.size 3 A n (l.flatMap encR)) => refGic_any A n c l W hl (by omega) h)
    unfold GicR at H1 H2
    have k1 := (layN_ok 32 1 fOne l ((n + 31) / 32) n).1
    have k2 := tgN_len hl (Nat.le_refl n)
    have k3 := (layN_ok 16 2 fEdge l ((n + 15) / 16) n).1
    have g1 : (n + 31) / 32 ≤ 2000 := by omega
    have g3 : (n + 15) / 16 ≤ 2000 := by omega
    generalize (n + 31) / 32 = m1 at *
    generalize (n + 15) / 16 = m3 at *
    generalize layN 32 1 fOne l m1 n = l1 at *
    generalize layN 16 2 fEdge l m3 n = l3 at *
    generalize tgN l n n = l2 at *
    have K1 := Lib.hid k1
    have K2 := Lib.hid k2
    have K3 := Lib.hid k3
    clear k1 k2 k3 hl hr
    go_enter Try.func5, Try.ntmps5
    go_wp2_with (first
      | (go_at_call 14; refine (awake22_any _).mono ?_; rintro e w1 ⟨rfl, hb1⟩)
      | (go_at_call 19; refine (H1.out _ ((HR.out.below hb1).more hb1.size)).mono ?_; rintro e w2 ⟨A1, c1, A2, c2, A3, c3, rfl, x1, x2, x3, hb2⟩; have b2 := hb1.trans (hb2.mono hb1.size))
      | (go_at_call 20; refine (H2.out _ ((HR.out.below b2).more b2.size)).mono ?_; rintro e w3 ⟨B1, d1, B2, d2, B3, d3, rfl, y1, y2, y3, hb3⟩; have b3 := b2.trans (hb3.mono b2.size); have x1' := (x1.below hb3).more hb3.size; have x3' := (x3.below hb3).more hb3.size; have s1 := conv_str (x2.below hb3) K2.out c2; have s2 := conv_str y2 K2.out d2))
    have X1 := Lib.hid x1'
    have X3 := Lib.hid x3'
    have Y1 := Lib.hid y1
    have Y3 := Lib.hid y3
    clear x1 x2 x3 x1' x3' y1 y2 y3 s1 s2
    go_loopw [9, 49] (fun _ i wr => ∃ k : Nat, k ≤ m1 ∧ i = .int .i64 k ∧ Below w3.heap.size w3 wr) (fun _ i _ => m1 - (intOf i).toNat)
    case atStart => exact ⟨0, by omega, rfl, Below.refl _ _⟩
    case round =>
      obtain ⟨k, hk, rfl, hbr⟩ := hrel
      by_cases hlt : k < m1
      · have hlt' : k < l1.length := by rw [K1.out]; exact hlt
        obtain ⟨b1, o1, rfl, hbb1, hc1⟩ := (X1.out.below hbr).row (fun _ => rfl) hlt' K1.out
        obtain ⟨b2, o2, rfl, hbb2, hc2⟩ := (Y1.out.below hbr).row (fun _ => rfl) hlt' K1.out
        have d0 := hc1 0 (by omega)
        have e0 := hc2 0 (by omega)
        simp only [encU, Nat.add_zero, Nat.mul_one, List.getElem?_cons_zero] at d0 e0
        clear hc1 hc2
        generalize l1[k] = s at *
        go_wp2
        go_quiet (fail)
        go_wp2
        go_roundw
        case rel => exact ⟨k + 1, by omega, by go_num, below_drewN hbr _⟩
        case measure => simp [intOf]; omega
      · go_wp2
        generalize hwr : wr = w4 at *
        clear hwr
        go_loopw [10, 64] (fun _ i wr => ∃ k : Nat, k ≤ m3 ∧ i = .int .i64 k ∧ Below w3.heap.size w3 wr) (fun _ i _ => m3 - (intOf i).toNat)
        case atStart => exact ⟨0, by omega, rfl, hbr⟩
        case round =>
          obtain ⟨j, hj, rfl, hbr⟩ := hrel
          by_cases hlt : j < m3
          · have hlt' : j < l3.length := by rw [K3.out]; exact hlt
            obtain ⟨b1, o1, rfl, hbb1, hc1⟩ := (X3.out.below hbr).row (fun _ => rfl) hlt' K3.out
            obtain ⟨b2, o2, rfl, hbb2, hc2⟩ := (Y3.out.below hbr).row (fun _ => rfl) hlt' K3.out
            have d0 := hc1 0 (by omega)
            have e0 := hc2 0 (by omega)
            simp only [encU, Nat.add_zero, Nat.mul_one, List.getElem?_cons_zero] at d0 e0
            clear hc1 hc2
            generalize l3[j] = s at *
            go_wp2
            go_quiet (fail)
            go_wp2
            go_roundw
            case rel => exact ⟨j + 1, by omega, by go_num, below_drewN hbr _⟩
            case measure => simp [intOf]; omega
          · go_wp2
            go_ret
            exact ⟨rfl, b3.trans (hbr.mono b3.size)⟩
  · have H := Lib.hid h
    clear hl hr
    go_enter Try.func5, Try.ntmps5
    go_wp2_with (go_at_call 14; refine (awake22_any _).mono ?_; rintro e w1 ⟨rfl, hb1⟩)
    go_ret
    exact ⟨rfl, hb1⟩
set_option maxRecDepth 100000 in
theorem irqGic_law : LawWalk Try.prog 5 Try.f5 := by
  intro H enc W base args ds p hval hA hlt hfz hsz
  rw [Try.params5] at hA hval
  obtain ⟨v0, d0, rfl, rfl, h0⟩ := trodAll_one hA
  obtain ⟨A, n, c, l, rfl, hnc, hm, hl, hr⟩ := open_routes (hval 0 36 v0 rfl rfl) h0 hlt
  exact irqGic_any A n c l W hl (ml hm) hr
theorem irqGic_proved : Rows.IrqGicSaid :=
  OpenClaim.holds_of_wide 5 Try.f5 rfl rfl rfl rfl rfl rfl rfl ⟨rfl, rfl, rfl, rfl, rfl⟩ rfl rfl rfl rfl rfl (by kernel_rfl) Try.func5 (by kernel_rfl)
    (of_decide_eq_true (by kernel_rfl)) (by unfold Func.isWrapper; rw [if_neg (of_decide_eq_false (by kernel_rfl))]; exact ⟨rfl, rfl⟩)
    (fun os started H enc _ => law_lifted (C := Try.checked) (s := Rows.irqGicSpec) started own laidOut (by kernel_rfl) Try.func5 rfl (n := 1) (by kernel_rfl) (fun ds h => by match ds, h with | [_], _ => rfl) (tb := 4) (by kernel_rfl) Try.underlying4 (by kernel_rfl)
      (ChangeSpec.witness6 (enc := enc) (C := Try.checked) false ⟨#[], #[.slice none 0 0], []⟩ 8 (by kernel_rfl) (by kernel_rfl) (by kernel_rfl) (by kernel_rfl)) irqGic_law)
end Go.Proofs.Ytnhlcfkjhacedaa
