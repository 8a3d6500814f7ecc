/- Chapter 23: the law SmmuBytes. -/
import Derived.Test.YtklbdjbichfajaaSmmuG
import Derived.Test.YtklbdjbichfajaaSmmuF
namespace Go.Proofs.Ytklbdjbichfajaa
set_option linter.unusedVariables false
open Go.RowKit Go.Sort Go.ChangeShapes Go.WideShapes

set_option maxHeartbeats 1000000 in
theorem tableOf_out (A : Option Addr) (n c : Nat) (w : World) (hn : n ≤ 1000000) (h : n % 16 ≠ 0 ∨ 4096 < n) :
    Calls Try.prog 45 #[.slice A n c] w fun e w' => e = .returned (.tuple #[.slice none 0 0, .int .i64 230]) ∧ Below w.heap.size w w' := by
  by_cases h1 : n % 16 = 0
  · have h2 : 4096 < n := by omega
    have e1 : (((n : Int) % 16) != 0) = false := by rw [bne_eq_false_iff_eq]; omega
    clear h h1
    go_enter Try.func45, Try.ntmps45
    go_wp2
    go_ret2
    exact ⟨rfl, Below.refl _ _⟩
  · have e1 : (((n : Int) % 16) != 0) = true := by rw [bne_iff_ne]; omega
    clear h h1
    go_enter Try.func45, Try.ntmps45
    go_wp2
    go_ret2
    exact ⟨rfl, Below.refl _ _⟩

theorem bytes_back (cs : List Int) (h : cs.length = 8) (hok : BytesOk cs) : bytesOf true (numB cs.reverse) = cs := by
  match cs, h with
  | [a, b, c, d, e, f, g, i], _ =>
    have ha := hok a (by simp)
    have hb := hok b (by simp)
    have hc := hok c (by simp)
    have hd := hok d (by simp)
    have he := hok e (by simp)
    have hf := hok f (by simp)
    have hg := hok g (by simp)
    have hi := hok i (by simp)
    have hx : numB [a, b, c, d, e, f, g, i].reverse = ((((((((0 * 256 + i) * 256 + g) * 256 + f) * 256 + e) * 256 + d) * 256 + c) * 256 + b) * 256 + a) := rfl
    rw [hx]
    have hB : ∀ x : Int, bytesOf true x = [byteN x 0, byteN x 1, byteN x 2, byteN x 3, byteN x 4, byteN x 5, byteN x 6, byteN x 7] := fun _ => rfl
    rw [hB]
    unfold byteN
    simp only [Nat.reduceMul, List.cons.injEq, and_true]
    refine ⟨?_, ?_, ?_, ?_, ?_, ?_, ?_, ?_⟩ <;> omega

theorem tab_of_chunks (l : List Int) (m : Nat) (hl : l.length = 16 * m) (hok : BytesOk l) (hm : m ≤ 256) (h : ∀ i, i < m → (chunkS l i).isSome = true) : sputOk (tabS l m) = true ∧ steBytes (tabS l m) = l := by
  have hE : ∀ i, i < m → (entryS l i).may = true ∧ (entryS l i).first = numB (seqB l (16 * i) true) := by
    intro i hi
    have h1 := h i hi
    have b1 := numB_bd 8 (seqB l (16 * i) true) (seqB_len (by omega)) (seqB_ok hok)
    have b2 := numB_bd 8 (seqB l (16 * i + 8) true) (seqB_len (by omega)) (seqB_ok hok)
    unfold chunkS at h1
    unfold entryS
    simp only at h1
    generalize numB (seqB l (16 * i) true) = f at *
    generalize numB (seqB l (16 * i + 8) true) = r at *
    by_cases hf : f = 0
    · rw [if_pos hf] at h1
      by_cases hr : r = 0
      · subst hf hr; exact ⟨by decide, by decide⟩
      · rw [if_neg hr] at h1; cases h1
    · rw [if_neg hf] at h1
      by_cases hc : f = 13 + f / 65536 % 256 * 65536 ∧ r < 281474976710656
      · have ho : (f % 2 == 1) = true := by rw [beq_iff_eq]; omega
        rw [ho]
        refine ⟨by simp only [Ste.may, if_true, decide_eq_true_eq]; omega, ?_⟩
        simp only [Ste.first, if_true]
        omega
      · rw [if_neg hc] at h1; cases h1
  constructor
  · unfold sputOk
    rw [tabS_len, List.all_eq_true.2 (fun s hs => by obtain ⟨i, hi, rfl⟩ := List.mem_map.1 hs; exact (hE i (List.mem_range.1 hi)).1)]
    simpa using hm
  · have key : ∀ k, k ≤ m → steBytes (tabS l k) = l.take (16 * k) := by
      intro k
      induction k with
      | zero => intro _; rfl
      | succ k ih =>
        intro hk
        have e1 : seqB l (16 * k) true = ((l.drop (16 * k)).take 8).reverse := rfl
        have e2 : seqB l (16 * k + 8) true = ((l.drop (16 * k + 8)).take 8).reverse := rfl
        have c1 := bytes_back ((l.drop (16 * k)).take 8) (by simp; omega) (fun x hx => hok x (List.mem_of_mem_drop (List.mem_of_mem_take hx)))
        have c2 := bytes_back ((l.drop (16 * k + 8)).take 8) (by simp; omega) (fun x hx => hok x (List.mem_of_mem_drop (List.mem_of_mem_take hx)))
        rw [tabS_step, steBytes_snoc, ih (by omega), (hE k (by omega)).2, show (entryS l k).root = numB (seqB l (16 * k + 8) true) from rfl, e1, e2, c1, c2,
          show 16 * (k + 1) = 16 * k + 8 + 8 by omega, List.take_add, List.take_add]
    have := key m (Nat.le_refl _)
    rwa [← hl, List.take_length] at this

def PairOf (q : Nat) (ss : List Ste) (e : Int) (f : FuncId) (A : Option Addr) (n c : Nat) (l : List Int) : Prop :=
  ∀ w : World, Rd w w.heap.size 1 A n (l.flatMap encB) → Calls Try.prog f #[.slice A n c] w fun en w' => ∃ A' c', en = .returned (.tuple #[.slice A' q c', .int .i64 e]) ∧ Rd w' w'.heap.size 3 A' q (ss.flatMap encS) ∧ Below w.heap.size w w'
theorem pair_of (A : Option Addr) (n c : Nat) (l : List Int) (hl : l.length = n) (hn : n ≤ 1000000) (hok : BytesOk l) : ∃ q ss e, ss.length = q ∧ q ≤ 256 ∧ PairOf q ss e 44 A n c l ∧ PairOf q ss e 45 A n c l := by
  by_cases h : n % 16 ≠ 0 ∨ 4096 < n
  · exact ⟨0, [], 230, rfl, by omega, fun w _ => (sof_out A n c w hn h).mono fun e w' ⟨he, hb⟩ => ⟨none, 0, he, Rd.nil, hb⟩, fun w _ => (tableOf_out A n c w hn h).mono fun e w' ⟨he, hb⟩ => ⟨none, 0, he, Rd.nil, hb⟩⟩
  · obtain ⟨m, rfl⟩ : ∃ m, n = 16 * m := ⟨n / 16, by omega⟩
    have hm : m ≤ 256 := by omega
    by_cases hg : sputOk (tabS l m) = true ∧ steBytes (tabS l m) = l
    · have hmay : (tabS l m).all Ste.may = true := by have := hg.1; unfold sputOk at this; simp at this; simpa using this.2
      refine ⟨m, tabS l m, 0, tabS_len l m, hm, fun w hr => ?_, fun w hr => ?_⟩
      · refine (sof_yes A m c l (tabS l m) w hl hok hm (tabS_len l m) (fun i hi => ?_) hr).mono fun e w' ⟨A', c', he, ho, hb⟩ => ⟨A', c', he, Rd.of_own ho, hb⟩
        have := chunk_back (tabS l m) i hi (tabS_ok hl hok) hmay
        rwa [hg.2] at this
      · refine (tableOf_any A m c l w hl hok hm hr).mono fun e w' ⟨hres, hb⟩ => ?_
        rcases hres with ⟨_, _, A', c', he, ho⟩ | ⟨hn, _⟩
        · exact ⟨A', c', he, Rd.of_own ho, hb⟩
        · exact absurd hg hn
    · refine ⟨0, [], 230, rfl, by omega, fun w hr => ?_, fun w hr => ?_⟩
      · exact (sof_no A m c l w hl hok hm (fun h => hg (tab_of_chunks l m hl hok hm h)) hr).mono fun e w' ⟨he, hb⟩ => ⟨none, 0, he, Rd.nil, hb⟩
      · refine (tableOf_any A m c l w hl hok hm hr).mono fun e w' ⟨hres, hb⟩ => ?_
        rcases hres with ⟨h1, h2, _⟩ | ⟨_, he⟩
        · exact absurd ⟨h1, h2⟩ hg
        · exact ⟨none, 0, he, Rd.nil, hb⟩
def PairPut (q : Nat) (bs : List Int) (e : Int) (f : FuncId) (A : Option Addr) (n c : Nat) (l : List Ste) : Prop :=
  ∀ w : World, Rd w w.heap.size 3 A n (l.flatMap encS) → Calls Try.prog f #[.slice A n c] w fun en w' => ∃ A' c', en = .returned (.tuple #[.slice A' q c', .int .i64 e]) ∧ Rd w' w'.heap.size 1 A' q (bs.flatMap encB) ∧ Below w.heap.size w w'
theorem pair_put (A : Option Addr) (n c : Nat) (l : List Ste) (hl : l.length = n) (hn : n ≤ 1000000) (h0 : ∀ s ∈ l, 0 ≤ s.root ∧ s.root < 18446744073709551616) : ∃ q bs e, bs.length = q ∧ PairPut q bs e 42 A n c l ∧ PairPut q bs e 43 A n c l := by
  have key : ∀ f, (∀ w : World, Rd w w.heap.size 3 A n (l.flatMap encS) → Calls Try.prog f #[.slice A n c] w (SputRes l n w)) → if sputOk l = true then PairPut (16 * n) (steBytes l) 0 f A n c l else PairPut 0 [] 230 f A n c l := by
    intro f hf
    split
    · rename_i h
      intro w hr
      refine (hf w hr).mono fun e w' ⟨hres, hb⟩ => ?_
      rcases hres with ⟨_, A', c', he, ho⟩ | ⟨hn, _⟩
      · exact ⟨A', c', he, Rd.of_own ho, hb⟩
      · rw [h] at hn; cases hn
    · rename_i h
      intro w hr
      refine (hf w hr).mono fun e w' ⟨hres, hb⟩ => ?_
      rcases hres with ⟨hy, _⟩ | ⟨_, he⟩
      · exact absurd hy h
      · exact ⟨none, 0, he, Rd.nil, hb⟩
  have k1 := key 42 (fun w hr => sput_res A n c l w hl hn h0 hr)
  have k2 := key 43 (fun w hr => refPutTable_any A n c l w hl hn h0 hr)
  by_cases h : sputOk l = true
  · rw [if_pos h] at k1 k2; exact ⟨16 * n, steBytes l, 0, by rw [steBytes_len, hl], k1, k2⟩
  · rw [if_neg h] at k1 k2; exact ⟨0, [], 230, rfl, k1, k2⟩

set_option maxHeartbeats 2000000 in
theorem smmuBytes_any (A A2 : Option Addr) (n c n2 c2 : Nat) (l : List Ste) (bs : List Int) (w : World) (hl : l.length = n) (hl2 : bs.length = n2) (hm : n ≤ 9223372036854775807) (hm2 : n2 ≤ 9223372036854775807) (h0 : ∀ s ∈ l, 0 ≤ s.root ∧ s.root < 18446744073709551616) (hok : BytesOk bs)
    (hr : Rd w w.heap.size 3 A n (l.flatMap encS)) (hr2 : Rd w w.heap.size 1 A2 n2 (bs.flatMap encB)) :
    Calls Try.prog 12 #[.slice A n c, .slice A2 n2 c2] w fun e w' => e = .returned (.bool true) ∧ Below w.heap.size w w' := by
  have HR := Lib.hid hr
  have HR2 := Lib.hid hr2
  by_cases h : n ≤ 300 ∧ n2 ≤ 4200
  · obtain ⟨h1, h2⟩ := h
    obtain ⟨q, xs, e, hq, P1, P2⟩ := pair_put A n c l hl (by omega) h0
    obtain ⟨q', ss, e', hq', hq2, O1, O2⟩ := pair_of A2 n2 c2 bs hl2 (by omega) hok
    have KP1 := Lib.hid P1
    have KP2 := Lib.hid P2
    have KO1 := Lib.hid O1
    have KO2 := Lib.hid O2
    have KQ := Lib.hid hq
    have KQ' := Lib.hid hq'
    clear P1 P2 O1 O2 hl hl2 h0 hok hr hr2 hq hq'
    go_enter Try.func12, Try.ntmps12
    go_wp2_with (first
      | (go_at_call 37; refine (awake23_any _).mono ?_; rintro e w1 ⟨rfl, hb1⟩)
      | (go_at_call 42; refine (KP1.out _ ((HR.out.below hb1).more hb1.size)).mono ?_; rintro e w2 ⟨Ax, cx, rfl, hx2, hb2⟩; have b2 := hb1.trans (hb2.mono hb1.size))
      | (go_at_call 43; refine (KP2.out _ ((HR.out.below b2).more b2.size)).mono ?_; rintro e w3 ⟨Ay, cy, rfl, hy3, hb3⟩; have b3 := b2.trans (hb3.mono b2.size); have hx3 := (hx2.below hb3).more hb3.size)
      | (go_at_call 44; refine (KO1.out _ ((HR2.out.below b3).more b3.size)).mono ?_; rintro e w4 ⟨Ap, cp, rfl, hp4, hb4⟩; have b4 := b3.trans (hb4.mono b3.size); have hx4 := (hx3.below hb4).more hb4.size; have hy4 := (hy3.below hb4).more hb4.size)
      | (go_at_call 45; refine (KO2.out _ ((HR2.out.below b4).more b4.size)).mono ?_; rintro e w5 ⟨Aq, cq, rfl, hq5, hb5⟩; have b5 := b4.trans (hb5.mono b4.size); have hp5 := (hp4.below hb5).more hb5.size; have s1 := conv_str (hx4.below hb5) KQ.out cx; have s2 := conv_str (hy4.below hb5) KQ.out cy)
      | (go_at_call 40; refine (sameTable_eq Ap Aq q' cp cq ss _ KQ'.out (by omega) hp5 hq5).mono ?_; rintro e w6 ⟨rfl, hb6⟩))
    go_ret
    exact ⟨rfl, b5.trans (hb6.mono b5.size)⟩
  · have H := Lib.hid h
    clear h hl hl2 h0 hok hr hr2
    go_enter Try.func12, Try.ntmps12
    go_wp2_with (first
      | (go_at_call 37; refine (awake23_any _).mono ?_; rintro e w1 ⟨rfl, hb1⟩)
      | (go_at_call 42; exfalso; refine H.out ?_; omega))
    all_goals (go_ret; exact ⟨rfl, hb1⟩)

theorem flat_u8 : flatOf Try.prog 5 5 = some [.int .u8] := by kernel_rfl
theorem flat_b {cs : List Value} (h : FlatOk [.int .u8] cs) : ∃ x : Int, cs = encB x ∧ 0 ≤ x ∧ x < 256 := by
  match cs, h with
  | [.int _ a], ⟨rfl, wa, _⟩ => exact ⟨a, rfl, wf_u8 wa⟩
set_option maxRecDepth 100000 in
theorem open_bytes {H : Type} {enc : TypeId × Value → H} {W : World} {v : Value} {d : DataW H} {p : List MemPlace} {b0 : Nat} {r : Reach}
    (hv : Value.okWide Try.prog W r b0 59 v) (h : DataW.Trod enc Try.prog W 0 (fun _ => true) true 59 v d p) (hlt : ∀ x ∈ p, x.block < W.heap.size) :
    ∃ (A : Option Addr) (n c : Nat) (l : List Int), v = .slice A n c ∧ n ≤ c ∧ n ≤ maxLen ∧ l.length = n ∧ BytesOk l ∧ Rd W W.heap.size 1 A n (l.flatMap encB) := by
  obtain ⟨A, n, cp, xss, rfl, hnc, hcm, hx, hok, hr⟩ := open_rows Try.underlying59 flat_u8 (by kernel_rfl) (by decide) hv h hlt
  obtain ⟨l, hl, hf, hb⟩ := list_of_rows (enc := encB) (ok := fun x => 0 ≤ x ∧ x < 256) xss (fun xs hxs => by obtain ⟨p, rfl, h⟩ := flat_b (hok xs hxs); exact ⟨p, rfl, h⟩)
  rw [hf] at hr
  exact ⟨A, n, cp, l, rfl, hnc, Nat.le_trans hnc hcm, hl.trans hx, hb, hr⟩
set_option maxRecDepth 100000 in
theorem smmuBytes_law : LawWalk Try.prog 12 Try.f12 := by
  intro H enc W base args ds p hval hA hlt hfz hsz
  rw [Try.params12] at hA hval
  obtain ⟨v0, v1, d0, d1, p0, p1, rfl, rfl, rfl, h0, h1⟩ := trodAll_two hA
  obtain ⟨A, n, c, l, rfl, hnc, hm, hl, hb, hr⟩ := open_stes (hval 0 82 v0 rfl rfl) h0 (fun x hx => hlt x (by simp [hx]))
  obtain ⟨A2, n2, c2, bs, rfl, hnc2, hm2, hl2, hok, hr2⟩ := open_bytes (hval 1 59 v1 rfl rfl) h1 (fun x hx => hlt x (by simp [hx]))
  exact smmuBytes_any A A2 n c n2 c2 l bs W hl hl2 (maxLen_le hm) (maxLen_le hm2) hb hok hr hr2
theorem smmuBytes_proved : Rows.SmmuBytesSaid :=
  OpenClaim.holds_of_wide 12 Try.f12 rfl rfl rfl rfl rfl rfl rfl ⟨rfl, rfl, rfl, rfl, rfl⟩ rfl rfl rfl rfl rfl (by kernel_rfl) Try.func12 (by kernel_rfl)
    (of_decide_eq_true (by kernel_rfl)) (by unfold Func.isWrapper; rw [if_neg (of_decide_eq_false (by kernel_rfl))]; exact ⟨rfl, rfl⟩)
    (fun os started H enc _ => law_lifted (C := Try.checked) (s := Rows.smmuBytesSpec) started own laidOut (by kernel_rfl) Try.func12 rfl (n := 2) (by kernel_rfl) (fun ds h => by match ds, h with | [_, _], _ => rfl) (tb := 4) (by kernel_rfl) Try.underlying4 (by kernel_rfl)
      (ChangeSpec.witness6 (enc := enc) (C := Try.checked) false ⟨#[], #[.slice none 0 0, .slice none 0 0], []⟩ 8 (by kernel_rfl) (by kernel_rfl) (by kernel_rfl) (by kernel_rfl)) smmuBytes_law)
end Go.Proofs.Ytklbdjbichfajaa
