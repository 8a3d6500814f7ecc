/- Chapter 14: bytes that are cut off, or have more behind them: the law's walk. -/
import Derived.Test.YtmhbpfclfffgkaaCfDp
import Derived.Test.YtmhbpfclfffgkaaCfBv
import Derived.Test.YtmhbpfclfffgkaaCfCp
namespace Go.Proofs.Ytmhbpfclfffgkaa
set_option linter.unusedVariables false
set_option linter.unusedSimpArgs false
open Go.RowKit Go.Sort Go.ChangeShapes Go.WideShapes

theorem parse_err {b : List Int} {a : Nat} {e : Int} (hp : parseC b = .error (a, e)) {A : Option Addr} {n c : Nat} {w : World} (hl : b.length = n) (hok : BytesOk b) (hm : n ≤ 1000000000) (hnc : n ≤ c) (hcm : c ≤ maxLen) (hr : Rd w w.heap.size 1 A n (b.flatMap encB)) :
    Calls Try.prog 13 #[.slice A n c] w fun r w' => r = .returned (.tuple #[.agg #[.int .u32 0, .slice none 0 0, .slice none 0 0], .int .i64 a, .int .i64 e]) ∧ Below w.heap.size w w' :=
  (parse_any A n c b w hl hok hm hnc hcm hr).mono fun _ _ h => parse_bad h hp
theorem flat_takeB (l : List Int) (k : Nat) : (l.take k).flatMap encB = (l.flatMap encB).take k := by
  have h : ∀ m : List Int, m.flatMap encB = m.map fun x => Value.int .u8 x := fun m => by induction m with
    | nil => rfl
    | cons b m ih => rw [List.flatMap_cons, ih]; rfl
  rw [h, h, List.map_take]
set_option maxRecDepth 100000 in
set_option maxHeartbeats 4000000 in
theorem cfgCuts_any (x : Cf) (A A2 : Option Addr) (c c2 : Nat) (cut more : Int) (w : World) (hx : CfR w w.heap.size x A c A2 c2) (hm0 : 0 ≤ more) (hm1 : more < 256) :
    Calls Try.prog 4 #[.agg #[.int .u32 x.ver, .slice A x.gs.length c, .slice A2 x.cs.length c2], .int .i64 cut, .int .u8 more] w fun e w' => e = .returned (.bool true) ∧ Below w.heap.size w w' := by
  have HFew := Lib.hid (fun W (hb : Below w.heap.size w W) => few_conf hx W hb)
  have hC0 := Blk.new w 28 #[.int .u32 x.ver, .slice A x.gs.length c, .slice A2 x.cs.length c2]
  have hb0 := bal (Below.refl w.heap.size w) (.cells #[.int .u32 x.ver, .slice A x.gs.length c, .slice A2 x.cs.length c2] 28)
  rcases hf : fewN x.gs.length x.cs.length (x.gs.map toGd) with _ | _
  · rw [hf] at HFew
    generalize x.gs.length = n at *
    generalize x.cs.length = n2 at *
    clear hf hx hm0 hm1
    go_enter Try.func4, Try.ntmps4
    go_upto_region 1 with (fail)
    generalize w.alloc (.cells #[.int .u32 x.ver, .slice A n c, .slice A2 n2 c2] 28) = w0 at *
    go_wp2_with (first
      | (go_at_call 12; refine (awake14_any _).mono ?_; rintro e w1 ⟨rfl, hb1⟩; have hC1 := hC0.kept hb1; have cC1 := hC1.cell; have hbl1 := hb0.trans (hb1.mono hb0.size))
      | (go_at_call 16; refine (HFew.out _ hbl1).mono ?_; rintro e w2 ⟨rfl, hb2⟩; have hbl2 := hbl1.trans (hb2.mono hbl1.size)))
    go_ret
    exact ⟨rfl, hbl2⟩
  · rw [hf] at HFew
    have hPO : PutOk x := few_yes hf
    have HRut := Lib.hid (fun W (hb : Below w.heap.size w W) => rput_any x A c A2 c2 W ((hx.below hb).more hb.size) hPO)
    by_cases hE : putE (cData x) = 0
    case neg =>
      have HRut := Lib.hid (fun W (hb : Below w.heap.size w W) => (HRut.out W hb).mono (R' := fun e w' => e = .returned (.tuple #[.slice none 0 0, .int .i64 (putE (cData x))]) ∧ Below W.heap.size W w') fun e w' h => by
        obtain ⟨h1, ⟨_, h2⟩ | ⟨h2, _⟩⟩ := h
        · exact ⟨h2, h1⟩
        · exact absurd h2 hE)
      generalize putE (cData x) = E at *
      have hd : (E != 0) = true := by simp; exact hE
      clear hf hx hPO hE hm0 hm1
      generalize x.gs.length = n at *
      generalize x.cs.length = n2 at *
      go_enter Try.func4, Try.ntmps4
      go_upto_region 1 with (fail)
      generalize w.alloc (.cells #[.int .u32 x.ver, .slice A n c, .slice A2 n2 c2] 28) = w0 at *
      go_wp2_with (first
        | (go_at_call 12; refine (awake14_any _).mono ?_; rintro e w1 ⟨rfl, hb1⟩; have hC1 := hC0.kept hb1; have cC1 := hC1.cell; have hbl1 := hb0.trans (hb1.mono hb0.size))
        | (go_at_call 16; refine (HFew.out _ hbl1).mono ?_; rintro e w2 ⟨rfl, hb2⟩; have hbl2 := hbl1.trans (hb2.mono hbl1.size); have hC2 := hC1.kept hb2; have cC2 := hC2.cell)
        | (go_at_call 17; refine (HRut.out _ hbl2).mono ?_; rintro e w4 ⟨rfl, hb4⟩; have hbl4 := hbl2.trans (hb4.mono hbl2.size)))
      go_ret
      exact ⟨rfl, hbl4⟩
    have HRut := Lib.hid (fun W (hb : Below w.heap.size w W) => (HRut.out W hb).mono (R' := fun e w' => ∃ (A3 : Option Addr) (c3 : Nat), e = .returned (.tuple #[.slice A3 (putB (cData x)).length c3, .int .i64 0]) ∧ w'.ownsRow W.heap.size 5 1 (.slice A3 (putB (cData x)).length c3) (putB (cData x)).length ((putB (cData x)).flatMap encB) ∧ Below W.heap.size W w') fun e w' h => by
      obtain ⟨h1, ⟨h2, _⟩ | ⟨_, A3, c3, h2, h3⟩⟩ := h
      · exact absurd hE h2
      · exact ⟨A3, c3, h2, h3, h1⟩)
    have hle := putB_le (cIn_of hx) hE
    have hbk := parse_back (cIn_of hx) hE
    have hok : BytesOk (putB (cData x)) := putB_ok (keys_of hx)
    generalize putB (cData x) = pb at *
    obtain ⟨np, hnp⟩ : ∃ m, pb.length = m := ⟨_, rfl⟩
    rw [hnp] at HRut hle
    have HN := Lib.hid hnp
    have HOk := Lib.hid hok
    have HBk := Lib.hid hbk
    clear hf hx hPO hE hnp hok hbk
    generalize x.gs.length = n at *
    generalize x.cs.length = n2 at *
    by_cases hc0 : 0 ≤ cut
    case neg =>
      have y0 : decide (cut < 0) = true := decide_eq_true (by omega)
      go_enter Try.func4, Try.ntmps4
      go_upto_region 1 with (fail)
      generalize w.alloc (.cells #[.int .u32 x.ver, .slice A n c, .slice A2 n2 c2] 28) = w0 at *
      go_wp2_with (first
        | (go_at_call 12; refine (awake14_any _).mono ?_; rintro e w1 ⟨rfl, hb1⟩; have hC1 := hC0.kept hb1; have cC1 := hC1.cell; have hbl1 := hb0.trans (hb1.mono hb0.size))
        | (go_at_call 16; refine (HFew.out _ hbl1).mono ?_; rintro e w2 ⟨rfl, hb2⟩; have hbl2 := hbl1.trans (hb2.mono hbl1.size); have hC2 := hC1.kept hb2; have cC2 := hC2.cell)
        | (go_at_call 17; refine (HRut.out _ hbl2).mono ?_; rintro e w4 ⟨A3, c3, rfl, hown4, hb4⟩; have hbl4 := hbl2.trans (hb4.mono hbl2.size); clear hown4))
      go_ret
      exact ⟨rfl, hbl4⟩
    obtain ⟨k, rfl⟩ := Int.eq_ofNat_of_zero_le hc0
    clear hc0
    by_cases hkn : k < np
    case neg =>
      have y0 : decide ((k : Int) < 0) = false := decide_eq_false (by omega)
      have y1 : decide (np ≤ k) = true := decide_eq_true (by omega)
      have y2 : decide ((np : Int) ≤ (k : Int)) = true := decide_eq_true (by omega)
      go_enter Try.func4, Try.ntmps4
      go_upto_region 1 with (fail)
      generalize w.alloc (.cells #[.int .u32 x.ver, .slice A n c, .slice A2 n2 c2] 28) = w0 at *
      go_wp2_with (first
        | (go_at_call 12; refine (awake14_any _).mono ?_; rintro e w1 ⟨rfl, hb1⟩; have hC1 := hC0.kept hb1; have cC1 := hC1.cell; have hbl1 := hb0.trans (hb1.mono hb0.size))
        | (go_at_call 16; refine (HFew.out _ hbl1).mono ?_; rintro e w2 ⟨rfl, hb2⟩; have hbl2 := hbl1.trans (hb2.mono hbl1.size); have hC2 := hC1.kept hb2; have cC2 := hC2.cell)
        | (go_at_call 17; refine (HRut.out _ hbl2).mono ?_; rintro e w4 ⟨A3, c3, rfl, hown4, hb4⟩; have hbl4 := hbl2.trans (hb4.mono hbl2.size); clear hown4))
      go_ret
      exact ⟨rfl, hbl4⟩
    have y0 : decide ((k : Int) < 0) = false := decide_eq_false (by omega)
    have y1 : decide (np ≤ k) = false := decide_eq_false (by omega)
    have y2 : decide ((np : Int) ≤ (k : Int)) = false := decide_eq_false (by omega)
    go_enter Try.func4, Try.ntmps4
    go_upto_region 1 with (fail)
    generalize w.alloc (.cells #[.int .u32 x.ver, .slice A n c, .slice A2 n2 c2] 28) = w0 at *
    go_upto_region 8 with (first
      | (go_at_call 12; refine (awake14_any _).mono ?_; rintro e w1 ⟨rfl, hb1⟩; have hC1 := hC0.kept hb1; have cC1 := hC1.cell; have hbl1 := hb0.trans (hb1.mono hb0.size))
      | (go_at_call 16; refine (HFew.out _ hbl1).mono ?_; rintro e w2 ⟨rfl, hb2⟩; have hbl2 := hbl1.trans (hb2.mono hbl1.size); have hC2 := hC1.kept hb2; have cC2 := hC2.cell)
      | (go_at_call 17; refine (HRut.out _ hbl2).mono ?_; rintro e w4 ⟨A3, c3, rfl, hown4, hb4⟩; have hbl4 := hbl2.trans (hb4.mono hbl2.size)))
    clear y0 y1 y2 cC1 cC2 hC0 hC1 hC2 HFew HRut
    obtain ⟨hnc3, hcm3⟩ := own_caps hown4
    have hR4 := Rd.of_own hown4
    obtain ⟨a, ha, hpa⟩ := parse_cut HBk.out (cut := k) (by rw [HN.out]; exact hkn)
    have hz4 : w4.heap.size = w4.heap.size := rfl
    have HP1 := Lib.hid (parse_err hpa (n := k) (c := c3) (by rw [List.length_take, HN.out]; omega) (fun y hy => HOk.out y (List.mem_of_mem_take hy)) (by omega) (by omega) hcm3 (by
      have := hR4.front (k := k) (by omega)
      rw [Nat.mul_one] at this
      rwa [flat_takeB]))
    have hkc : k ≤ c3 := by omega
    have hak : a ≤ k := ha
    clear hz4 hpa
    go_upto_region 9 with (go_at_call 13; refine HP1.out.mono ?_; rintro e w5 ⟨rfl, hb5⟩)
    have hbl5 := hbl4.trans (hb5.mono hbl4.size)
    have hba := bal (Below.refl w5.heap.size w5) (.cells #[.int .u32 0, .slice none 0 0, .slice none 0 0] 28)
    have hR5 := (hR4.below hb5).below (hba.mono hb5.size)
    have hbl6 := hbl5.trans (hba.mono hbl5.size)
    have hz5 : w4.heap.size ≤ (w5.alloc (.cells #[.int .u32 0, .slice none 0 0, .slice none 0 0] 28)).heap.size := Nat.le_trans hb5.size hba.size
    clear hR4 HP1 hown4
    generalize w5.alloc (.cells #[.int .u32 0, .slice none 0 0, .slice none 0 0] 28) = w6 at *
    have hR6 := hR5.more hz5
    have hO6 := World.ownsRow_nil w6 w6.heap.size 5 1
    have HM1 := Lib.hid (show 0 + np ≤ maxLen by unfold maxLen; omega)
    have HM2 := Lib.hid (show (0 + np) * 1 ≤ 140737488355328 by omega)
    have HM3 := Lib.hid (show np + 1 ≤ maxLen by unfold maxLen; omega)
    have HM4 := Lib.hid (show (np + 1) * 1 ≤ 140737488355328 by omega)
    have HBl := Lib.hid hbl6
    clear hR5 hb5 hba hz5 hbl5 hbl4 hbl6
    have HPm := parse_more HBk.out more
    rw [HN.out] at HPm
    have HMo := Lib.hid (show ∀ v : Value, v ∈ [Value.int .u8 more] → v.oneCell' = true from fun v hv => by rw [List.mem_singleton] at hv; subst hv; rfl)
    have HPq := Lib.hid (fun (q : Nat) (E : Int) (h : parseC (pb ++ [more]) = .error (q, E)) (W : World) (base : Nat) (A8 : Option Addr) (c8 : Nat) (h8 : W.ownsRow base 5 1 (.slice A8 (np + 1) c8) (np + 1) (pb.flatMap encB ++ [.int .u8 more])) =>
      parse_err h (n := np + 1) (c := c8) (A := A8) (w := W) (by rw [List.length_append, HN.out]; rfl) (HOk.out.app (fun y hy => by rw [List.mem_singleton] at hy; subst hy; exact ⟨hm0, hm1⟩)) (by omega) (own_caps h8).1 (own_caps h8).2 (by rw [List.flatMap_append]; exact Rd.of_own h8))
    clear hm0 hm1
    rcases HPm with hq | hq
    all_goals
      have HPr := Lib.hid (HPq.out _ _ hq)
      clear hq HPq
      go_wp2_with (first
        | (at_builtin; refine wpList_app u8_elem rfl (.const (.slice none 0 0)) (.tmp 46) rfl w6.heap.size hO6 rfl rfl hR6 (one_b _) HM1.out HM2.out (Nat.le_refl _) ?_; intro v7 w7 hown7 hb7 hg7; obtain ⟨A7, c7, rfl, _, _⟩ := own_slice hown7; rw [Nat.zero_add, List.nil_append] at hown7; rw [Nat.zero_add]; have hbX := bal (Below.refl w7.heap.size w7) (.cells #[.int .u8 more] 5); have hownX := own_kept hown7 hbX; have HS7 := Lib.hid hb7; clear hown7 hg7 hb7)
        | (at_builtin; refine wpList_app u8_elem rfl (.tmp 47) (.tmp 49) rfl w6.heap.size hownX rfl rfl (Rd.fresh _ _ _ 1 1 _ rfl) HMo.out HM3.out HM4.out (Nat.le_trans HS7.out.size hbX.size) ?_; intro v8 w8 hown8 hb8 hg8; obtain ⟨A8, c8, rfl, _, _⟩ := own_slice hown8; have HB8 := Lib.hid ((HS7.out.trans (hbX.mono HS7.out.size)).trans hb8); clear hownX hg8 hb8 hbX)
        | (go_at_call 13; refine (HPr.out _ _ _ _ hown8).mono ?_; rintro e w9 ⟨rfl, hb9⟩; have HB9 := Lib.hid (HBl.out.trans ((HB8.out.trans (hb9.mono HB8.out.size)).mono HBl.out.size))))
      go_ret
      exact ⟨rfl, bal' HB9.out _ HB9.out.size⟩
end Go.Proofs.Ytmhbpfclfffgkaa
