/- Chapter 13: the counters that any words are: the law. -/
import Derived.Test.YtpenjfkdinmgmaaCtrO
import Derived.Test.YtpenjfkdinmgmaaOpenU
namespace Go.Proofs.Ytpenjfkdinmgmaa
set_option linter.unusedVariables false
set_option linter.unusedSimpArgs false
open Go.RowKit Go.Sort Go.ChangeShapes Go.WideShapes

theorem rrd_new {w w1 : World} {A : Option Addr} {n c : Nat} {l : List Int} {cv kv dv : Value} (hl : l.length = n) (hb : Below w.heap.size w (w1.alloc (.cells #[.slice A n c, cv, kv, dv] 41))) (hr : Rd w w.heap.size 1 A n (l.flatMap encU)) :
    RRd (w1.alloc (.cells #[.slice A n c, cv, kv, dv] 41)) w1.heap.size ⟨true, 0, [], l⟩ := by
  subst hl
  exact ⟨A, c, cv, kv, dv, Blk.new _ _ _, (hr.below hb).more hb.size⟩
set_option maxRecDepth 100000 in
set_option maxHeartbeats 4000000 in
theorem recovers_any (A : Option Addr) (n c : Nat) (l : List Int) (id m : Int) (hl : l.length = n) (hu : U32s l) (w : World) (hr : Rd w w.heap.size 1 A n (l.flatMap encU)) :
    Calls Try.prog 5 #[.slice A n c, .int .i64 id, .int .i64 m] w fun e w' => e = .returned (.bool true) ∧ Below w.heap.size w w' := by
  subst hl
  have HR := Lib.hid hr
  have HU := Lib.hid hu
  clear hr hu
  by_cases hn : l.length ≤ 200
  · have H1 := Lib.hid (fun g base W (h : Sto W base g ⟨true, 0, [], l⟩) => rec_any g base ⟨true, 0, [], l⟩ id W h HU.out (by simp only; omega))
    have H2 := Lib.hid (fun g W (h : RRd W g ⟨true, 0, [], l⟩) => rrec_rd g ⟨true, 0, [], l⟩ id W h HU.out (by simp only; omega))
    have H3 := Lib.hid (fun g base W (h : Sto W base g ⟨true, 0, [], l⟩) => count_any g base ⟨true, 0, [], l⟩ W h (by simp only; omega))
    unfold Rr.cs at H2
    simp only at H1 H2 H3
    generalize recN l id = R at *
    obtain ⟨err, at_, q, x⟩ := R
    simp only at H1 H2
    have H4 := Lib.hid (fun (hm : m ≤ 100) g base W (h : Sto W base g ⟨true, 0, [], l⟩) => all_any g base ⟨true, 0, [], l⟩ m.toNat m W h HU.out (by simp only; omega) (by omega) (by omega))
    have H5 := Lib.hid (fun (hm : m ≤ 100) g W (h : RRd W g ⟨true, 0, [], l⟩) => rall_rd g ⟨true, 0, [], l⟩ m.toNat m W h HU.out (by simp only; omega) (by omega) (by omega))
    simp only at H4 H5
    have HLa := Lib.hid (allN_len l m.toNat)
    generalize hnn : l.length = n at *
    have HLn := Lib.hid hnn
    clear hnn
    have hdiv : (((n / 8 : Nat) : Int) == (n : Int) / 8) = true := by simp
    by_cases hm : m ≤ 100
    · skip
      go_enter Try.func5, Try.ntmps5
      go_wp2_with (first
        | (go_at_call 8; refine (awake13_any _).mono ?_; rintro e w0 ⟨rfl, hb0⟩; have hr0 := HR.out.below hb0; have hz0 := hb0.size)
        | (go_at_call 9; refine (new_any A _ n c 0 _ l [] _ HLn.out rfl (by omega) (by decide) (hr0.more hz0) Rd.nil).mono ?_; rintro e w1 ⟨g, rfl, hs1, hb1⟩; have hb2 := hb0.trans (hb1.mono hz0); have hr1 := HR.out.below hb2; have hz2 := hb2.size; have hsa := hs1.alloc (.cells #[.slice A n c, .slice none 0 0, .int .i64 0, .bool false] 41); have hba := bal hb2 (.cells #[.slice A n c, .slice none 0 0, .int .i64 0, .bool false] 41); have hda : RRd (w1.alloc (.cells #[.slice A n c, .slice none 0 0, .int .i64 0, .bool false] 41)) w1.heap.size ⟨true, 0, [], l⟩ := rrd_new HLn.out hba HR.out)
        | (go_at_call 10; refine (H1.out g _ _ hsa).mono ?_; rintro e w3 ⟨rfl, hb3⟩; have hs3 := hsa.kept hb3; have hd3 := hda.kept hb3; have hb4 := hba.trans (hb3.mono hba.size))
        | (go_at_call 17; refine (H2.out _ _ hd3).mono ?_; rintro e w5 ⟨rfl, hb5⟩; have hs5 := (hs3.kept hb5).alloc (.cells #[.int .u32 q, .int .u32 x] 43); have hd5 := (hd3.kept hb5).kept (bal (Below.refl w5.heap.size w5) (.cells #[.int .u32 q, .int .u32 x] 43)); have hb6 := bal' (hb4.trans (hb5.mono hb4.size)) (.cells #[.int .u32 q, .int .u32 x] 43) (Nat.le_trans hb4.size hb5.size))
        | (go_at_call 16; refine (H3.out g _ _ hs5).mono ?_; rintro e w6 ⟨rfl, rfl⟩)
        | (go_at_call 19; refine (H4.out hm g _ _ hs5).mono ?_; rintro e w7 ⟨v7, rfl, ho7, hb7⟩; have hd7 := hd5.kept hb7; have hb8 := hb6.trans (hb7.mono hb6.size); obtain ⟨A7, c7, rfl, _, hr7⟩ := own_slice ho7)
        | (go_at_call 20; refine (H5.out hm _ _ hd7).mono ?_; rintro e w8 ⟨v8, rfl, ho8, hb9⟩; have hb10 := hb8.trans (hb9.mono hb8.size); obtain ⟨A8, c8, rfl, _, hr8⟩ := own_slice ho8; have hr9 := (hr7.below hb9).more hb9.size)
        | (go_at_call 18; refine (sameCounters_eq _ _ m.toNat _ _ (allN l m.toNat) _ HLa.out (by omega) hr9 hr8).mono ?_; rintro e w10 ⟨rfl, hb11⟩; have hb12 := hb10.trans (hb11.mono hb10.size)))
      go_ret
      exact ⟨rfl, hb12⟩
    · clear H4 H5
      go_enter Try.func5, Try.ntmps5
      go_wp2_with (first
        | (go_at_call 8; refine (awake13_any _).mono ?_; rintro e w0 ⟨rfl, hb0⟩; have hr0 := HR.out.below hb0; have hz0 := hb0.size)
        | (go_at_call 9; refine (new_any A _ n c 0 _ l [] _ HLn.out rfl (by omega) (by decide) (hr0.more hz0) Rd.nil).mono ?_; rintro e w1 ⟨g, rfl, hs1, hb1⟩; have hb2 := hb0.trans (hb1.mono hz0); have hr1 := HR.out.below hb2; have hz2 := hb2.size; have hsa := hs1.alloc (.cells #[.slice A n c, .slice none 0 0, .int .i64 0, .bool false] 41); have hba := bal hb2 (.cells #[.slice A n c, .slice none 0 0, .int .i64 0, .bool false] 41); have hda : RRd (w1.alloc (.cells #[.slice A n c, .slice none 0 0, .int .i64 0, .bool false] 41)) w1.heap.size ⟨true, 0, [], l⟩ := rrd_new HLn.out hba HR.out)
        | (go_at_call 10; refine (H1.out g _ _ hsa).mono ?_; rintro e w3 ⟨rfl, hb3⟩; have hs3 := hsa.kept hb3; have hd3 := hda.kept hb3; have hb4 := hba.trans (hb3.mono hba.size))
        | (go_at_call 17; refine (H2.out _ _ hd3).mono ?_; rintro e w5 ⟨rfl, hb5⟩; have hs5 := (hs3.kept hb5).alloc (.cells #[.int .u32 q, .int .u32 x] 43); have hd5 := (hd3.kept hb5).kept (bal (Below.refl w5.heap.size w5) (.cells #[.int .u32 q, .int .u32 x] 43)); have hb6 := bal' (hb4.trans (hb5.mono hb4.size)) (.cells #[.int .u32 q, .int .u32 x] 43) (Nat.le_trans hb4.size hb5.size))
        | (go_at_call 16; refine (H3.out g _ _ hs5).mono ?_; rintro e w6 ⟨rfl, rfl⟩)
        | (go_at_call 19; refine (H4.out hm g _ _ hs5).mono ?_; rintro e w7 ⟨v7, rfl, ho7, hb7⟩; have hd7 := hd5.kept hb7; have hb8 := hb6.trans (hb7.mono hb6.size); obtain ⟨A7, c7, rfl, _, hr7⟩ := own_slice ho7)
        | (go_at_call 20; refine (H5.out hm _ _ hd7).mono ?_; rintro e w8 ⟨v8, rfl, ho8, hb9⟩; have hb10 := hb8.trans (hb9.mono hb8.size); obtain ⟨A8, c8, rfl, _, hr8⟩ := own_slice ho8; have hr9 := (hr7.below hb9).more hb9.size)
        | (go_at_call 18; refine (sameCounters_eq _ _ m.toNat _ _ (allN l m.toNat) _ HLa.out (by omega) hr9 hr8).mono ?_; rintro e w10 ⟨rfl, hb11⟩; have hb12 := hb10.trans (hb11.mono hb10.size)))
      go_ret
      exact ⟨rfl, hb6⟩
  · generalize l.length = n at *
    go_enter Try.func5, Try.ntmps5
    go_wp2_with (go_at_call 8; refine (awake13_any _).mono ?_; rintro e w0 ⟨rfl, hb0⟩)
    go_ret
    exact ⟨rfl, hb0⟩
set_option maxRecDepth 100000 in
theorem ctrRecovers_law : LawWalk Try.prog 5 Try.f5 := by
  intro H enc W base args ds p hval hA hlt hfz hsz
  rw [Try.params5] at hA hval
  obtain ⟨v0, v1, v2, d0, d1, d2, p0, p1, p2, rfl, rfl, rfl, h0, h1, h2⟩ := trodAll_three hA
  obtain ⟨A, n, c, l, rfl, hnc, hm, hl, hu, hr⟩ := open_u32s (hval 0 22 v0 rfl rfl) h0 (fun x hx => hlt x (by simp [hx]))
  obtain ⟨i, rfl, rfl, rfl, wi⟩ := open_int Try.underlying3 (hval 1 3 v1 rfl rfl) h1
  obtain ⟨m, rfl, rfl, rfl, wm⟩ := open_int Try.underlying3 (hval 2 3 v2 rfl rfl) h2
  exact recovers_any A n c l i m hl hu W hr
theorem ctrRecovers_proved : Rows.CtrRecoversSaid :=
  OpenClaim.holds_of_wide 5 Try.f5 rfl rfl rfl rfl rfl rfl rfl ⟨rfl, rfl, rfl, rfl, rfl⟩ rfl rfl rfl rfl rfl (by kernel_rfl) Try.func5 (by kernel_rfl)
    (of_decide_eq_true (by kernel_rfl)) (by unfold Func.isWrapper; rw [if_neg (of_decide_eq_false (by kernel_rfl))]; exact ⟨rfl, rfl⟩)
    (fun os started H enc _ => law_lifted (C := Try.checked) (s := Rows.ctrRecoversSpec) started own laidOut (by kernel_rfl) Try.func5 rfl (n := 3) (by kernel_rfl) (fun ds h => by match ds, h with | [_, _, _], _ => rfl) (tb := 4) (by kernel_rfl) Try.underlying4 (by kernel_rfl)
      (ChangeSpec.witness6 (enc := enc) (C := Try.checked) false ⟨#[], #[.slice none 0 0, .int .i64 0, .int .i64 0], []⟩ 8 (by kernel_rfl) (by kernel_rfl) (by kernel_rfl) (by kernel_rfl)) ctrRecovers_law)
end Go.Proofs.Ytpenjfkdinmgmaa
