/- Chapter 14: the document's writer: numbers; walked. -/
import Derived.Test.YtmhbpfclfffgkaaCfWs
import Derived.Test.YtmhbpfclfffgkaaCfDk
namespace Go.Proofs.Ytmhbpfclfffgkaa
set_option linter.unusedVariables false
set_option linter.unusedSimpArgs false
open Go.RowKit Go.Sort

/-- The document's writer in memory: its bytes are these where no error is noted. -/
def DW (B gw K : Nat) (bs : List Int) (e : Int) (w : World) : Prop := B ≤ gw ∧ ∃ A c bs', Blk w gw 81 #[.slice A bs'.length c, .int .i64 e] ∧ w.ownsRow B 5 1 (.slice A bs'.length c) bs'.length (bs'.flatMap encB) ∧ bs'.length ≤ K ∧ (e = 0 → bs' = bs)
theorem DW.below {B gw K : Nat} {bs : List Int} {e : Int} {w w' : World} (h : DW B gw K bs e w) (hb : Below w.heap.size w w') : DW B gw K bs e w' := by
  obtain ⟨h1, A, c, bs', h2, h3, h4⟩ := h
  exact ⟨h1, A, c, bs', h2.kept hb, own_kept h3 hb, h4⟩
theorem DW.mono {B gw K K' : Nat} {bs bs2 : List Int} {e : Int} {w : World} (h : DW B gw K bs e w) (hK : K ≤ K') (hb : e = 0 → bs = bs2) : DW B gw K' bs2 e w := by
  obtain ⟨h1, A, c, bs', h2, h3, h4, h5⟩ := h
  exact ⟨h1, A, c, bs', h2, h3, Nat.le_trans h4 hK, fun he => (h5 he).trans (hb he)⟩
/-- The first error stays. -/
def fst (e e2 : Int) : Int := if e = 0 then e2 else e
theorem dput_any (B gw K s : Nat) (bs : List Int) (e x : Int) (w : World) (hS : DW B gw K bs e w) (hm : K ≤ 1000000) (hs : s ≤ 8) (h0 : 0 ≤ x) (h1 : x < 18446744073709551616) :
    Calls Try.prog 34 #[.pointer (some ⟨gw, 0, none⟩), .int .u64 x, .int .i64 s] w fun r w' => r = .returned (.tuple #[]) ∧ DW B gw (K + s) (bs ++ bytesN s false x) e w' ∧ Wrt B gw w w' := by
  obtain ⟨hBg, A, c, bs', hB, hown, hK, hbs⟩ := hS
  have cB := hB.cell
  have hgl := hB.lt
  have H := Lib.hid (refPut_any A bs'.length c s bs' x false w rfl (by omega) hs h0 h1 (Rd.of_own hown))
  have hlen : (bs' ++ bytesN s false x).length = bs'.length + s := by rw [List.length_append, bytesN_len]
  have HBs := Lib.hid (show e = 0 → bs' ++ bytesN s false x = bs ++ bytesN s false x from fun he => by rw [hbs he])
  generalize bs' ++ bytesN s false x = bs2 at *
  have HBg := Lib.hid hBg
  have HB := Lib.hid hB
  have HK := Lib.hid hK
  clear hB hown hBg h0 h1 hbs hK
  go_enter Try.func34, Try.ntmps34
  go_wp2_with (go_at_call 72; refine H.out.mono ?_; rintro e w1 ⟨A', c', rfl, hown, hb1⟩; have hB1 := HB.out.kept hb1; have cB1 := hB1.cell; have fB1 := hB1.frozen)
  have h1 := hB1.set_ 0 (.slice A' (bs'.length + s) c')
  refine bodyPost_end (results_none rfl _ _ _) rfl ⟨rfl, ⟨HBg.out, A', c', bs2, ?_, ?_, ?_, HBs.out⟩, (Wrt.of_below hb1 (by have := HBg.out; omega)).set HBg.out 0 _⟩
  · rw [hlen]; simpa using h1
  · rw [hlen]
    refine own_le_base (own_same hown fun k hk => Below.heap_setCell _ _ _ _ (by
      intro e
      have e : k = gw := e
      subst e
      exact own_blk_ne hown hB1 (by decide) hk.symm)) (by have := HBg.out; omega)
  · rw [hlen]; have := HK.out; omega
theorem dmust_any (B gw K : Nat) (bs : List Int) (e e2 : Int) (is : Bool) (w : World) (hS : DW B gw K bs e w) :
    Calls Try.prog 37 #[.pointer (some ⟨gw, 0, none⟩), .bool is, .int .i64 e2] w fun r w' => r = .returned (.tuple #[]) ∧ DW B gw K bs (fst e (if is then 0 else e2)) w' ∧ Wrt B gw w w' := by
  obtain ⟨hBg, A, c, bs', hB, hown, hK, hbs⟩ := hS
  have cB := hB.cell
  have fB := hB.frozen
  have hgl := hB.lt
  have HBg := Lib.hid hBg
  have HB := Lib.hid hB
  have HO := Lib.hid hown
  have HK := Lib.hid hK
  have HBs := Lib.hid hbs
  clear hB hown hBg hK hbs
  cases is with
  | true =>
    have he : fst e 0 = e := by unfold fst; split <;> simp_all
    simp only [if_true]
    rw [he]
    go_enter Try.func37, Try.ntmps37
    go_wp2
    exact bodyPost_end (results_none rfl _ _ _) rfl ⟨rfl, ⟨HBg.out, A, c, bs', HB.out, HO.out, HK.out, HBs.out⟩, Wrt.refl _ _ _⟩
  | false =>
    simp only [Bool.false_eq_true, if_false]
    by_cases h0 : e = 0
    · subst h0
      have he : fst 0 e2 = e2 := rfl
      rw [he]
      go_enter Try.func37, Try.ntmps37
      go_wp2
      have h1 := HB.out.set_ 1 (.int .i64 e2)
      refine bodyPost_end (results_none rfl _ _ _) rfl ⟨rfl, ⟨HBg.out, A, c, bs', by simpa using h1, ?_, HK.out, fun _ => HBs.out trivial⟩, (Wrt.refl _ _ _).set HBg.out 1 _⟩
      exact own_same HO.out fun k hk => Below.heap_setCell _ _ _ _ (by
        intro e
        have e : k = gw := e
        subst e
        exact own_blk_ne HO.out HB.out (by decide) hk.symm)
    · have he : fst e e2 = e := by unfold fst; rw [if_neg h0]
      have hd : (e == 0) = false := by simp [h0]
      rw [he]
      clear h0
      go_enter Try.func37, Try.ntmps37
      go_wp2
      exact bodyPost_end (results_none rfl _ _ _) rfl ⟨rfl, ⟨HBg.out, A, c, bs', HB.out, HO.out, HK.out, HBs.out⟩, Wrt.refl _ _ _⟩
theorem dtruth_any (B gw K : Nat) (bs : List Int) (e : Int) (x : Bool) (w : World) (hS : DW B gw K bs e w) (hm : K ≤ 1000000) :
    Calls Try.prog 74 #[.pointer (some ⟨gw, 0, none⟩), .bool x] w fun r w' => r = .returned (.tuple #[]) ∧ DW B gw (K + 4) (bs ++ bytesN 4 false (truthN x)) e w' ∧ Wrt B gw w w' := by
  cases x with
  | false =>
    have H := Lib.hid (dput_any B gw K 4 bs e 0 w hS hm (by omega) (by omega) (by omega))
    clear hS
    go_enter Try.func74, Try.ntmps74
    go_wp2_with (go_at_call 34; refine H.out.mono ?_; rintro e1 w1 ⟨rfl, hd, hw⟩)
    exact bodyPost_end (results_none rfl _ _ _) rfl ⟨rfl, hd, hw⟩
  | true =>
    have H := Lib.hid (dput_any B gw K 4 bs e 1 w hS hm (by omega) (by omega) (by omega))
    clear hS
    go_enter Try.func74, Try.ntmps74
    go_wp2_with (go_at_call 34; refine H.out.mono ?_; rintro e1 w1 ⟨rfl, hd, hw⟩)
    exact bodyPost_end (results_none rfl _ _ _) rfl ⟨rfl, hd, hw⟩
theorem fst_zero {e e2 : Int} (h : fst e e2 = 0) : e = 0 ∧ e2 = 0 := by
  unfold fst at h
  split at h
  · exact ⟨by assumption, h⟩
  · rename_i h2; exact absurd h h2
theorem dsmall_any (B gw K s : Nat) (bs : List Int) (e n most : Int) (w : World) (hS : DW B gw K bs e w) (hm : K ≤ 1000000) (hs : s ≤ 8) (hmost : most < 65536) :
    Calls Try.prog 36 #[.pointer (some ⟨gw, 0, none⟩), .int .i64 n, .int .i64 most, .int .i64 s] w fun r w' => r = .returned (.tuple #[]) ∧ DW B gw (K + s) (bs ++ bytesN s false n) (fst e (if inB n most then 0 else 144)) w' ∧ Wrt B gw w w' := by
  have HM := Lib.hid (fun is => dmust_any B gw K bs e 144 is w hS)
  have HP := Lib.hid (fun W e2 (h : DW B gw K bs e2 W) => dput_any B gw K s bs e2 (n % 18446744073709551616) W h hm hs (Int.emod_nonneg _ (by decide)) (Int.emod_lt_of_pos _ (by decide)))
  have HN := Lib.hid (show ∀ b, b = inB n most → fst e (if b then 0 else 144) = 0 → n % 18446744073709551616 = n from fun b hb h => by
    have h2 := (fst_zero h).2
    subst hb
    split at h2
    · rename_i h3
      have : 0 ≤ n ∧ n ≤ most := by unfold inB at h3; simpa using h3
      exact Int.emod_eq_of_lt this.1 (by omega)
    · omega)
  clear hS
  by_cases h0 : 0 ≤ n
  · obtain ⟨b, hb⟩ : ∃ b, decide (n ≤ most) = b := ⟨_, rfl⟩
    have hd0 : decide (0 ≤ n) = true := decide_eq_true h0
    have hin : inB n most = b := by unfold inB; rw [hd0, hb]; rfl
    rw [hin]
    have HN2 := Lib.hid (HN.out b hin.symm)
    clear hin HN h0
    cases b with
    | false =>
      simp only [Bool.false_eq_true, if_false] at HN2 ⊢
      go_enter Try.func36, Try.ntmps36
      go_wp2_with (first
        | (go_at_call 37; refine (HM.out false).mono ?_; rintro e1 w1 ⟨rfl, hd, hw⟩; simp only [Bool.false_eq_true, if_false] at hd)
        | (go_at_call 34; refine (HP.out _ _ hd).mono ?_; rintro e2 w2 ⟨rfl, hd2, hw2⟩))
      exact bodyPost_end (results_none rfl _ _ _) rfl ⟨rfl, hd2.mono (Nat.le_refl _) (fun he => by rw [HN2.out he]), hw.trans hw2⟩
    | true =>
      simp only [if_true] at HN2 ⊢
      go_enter Try.func36, Try.ntmps36
      go_wp2_with (first
        | (go_at_call 37; refine (HM.out true).mono ?_; rintro e1 w1 ⟨rfl, hd, hw⟩; simp only [if_true] at hd)
        | (go_at_call 34; refine (HP.out _ _ hd).mono ?_; rintro e2 w2 ⟨rfl, hd2, hw2⟩))
      exact bodyPost_end (results_none rfl _ _ _) rfl ⟨rfl, hd2.mono (Nat.le_refl _) (fun he => by rw [HN2.out he]), hw.trans hw2⟩
  · have hd0 : decide (0 ≤ n) = false := decide_eq_false h0
    have hin : inB n most = false := by unfold inB; rw [hd0]; rfl
    rw [hin]
    have HN2 := Lib.hid (HN.out false hin.symm)
    clear hin HN h0
    go_enter Try.func36, Try.ntmps36
    go_wp2_with (first
      | (go_at_call 37; refine (HM.out _).mono ?_; rintro e1 w1 ⟨rfl, hd, hw⟩)
      | (go_at_call 34; refine (HP.out _ _ hd).mono ?_; rintro e2 w2 ⟨rfl, hd2, hw2⟩))
    exact bodyPost_end (results_none rfl _ _ _) rfl ⟨rfl, hd2.mono (Nat.le_refl _) (fun he => by rw [HN2.out he]), hw.trans hw2⟩
end Go.Proofs.Ytmhbpfclfffgkaa
