/- Chapter 14: the configuration that any bytes are, or where they are wrong: the law's walk. -/
import Derived.Test.YtmhbpfclfffgkaaCfRp
import Derived.Test.YtmhbpfclfffgkaaCfSe
import Derived.Test.YtmhbpfclfffgkaaCfAw
namespace Go.Proofs.Ytmhbpfclfffgkaa
set_option linter.unusedVariables false
set_option linter.unusedSimpArgs false
open Go.RowKit Go.Sort Go.ChangeShapes Go.WideShapes
set_option maxRecDepth 100000 in
theorem open_bytesR {H : Type} {enc : TypeId × Value → H} {W : World} {v : Value} {d : DataW H} {p : List MemPlace} {b0 : Nat} {r : Reach}
    (hv : Value.okWide Try.prog W r b0 22 v) (h : DataW.Trod enc Try.prog W 0 (fun _ => true) true 22 v d p) (hlt : ∀ x ∈ p, x.block < W.heap.size) :
    ∃ (A : Option Addr) (n c : Nat) (l : List Int), v = .slice A n c ∧ n ≤ c ∧ c ≤ maxLen ∧ l.length = n ∧ BytesOk l ∧ Rd W W.heap.size 1 A n (l.flatMap encB) := by
  obtain ⟨A, n, cp, xss, rfl, hnc, hcm, hx, hok, hr⟩ := open_rows Try.underlying22 flat_u8 (by kernel_rfl) (by decide) hv h hlt
  obtain ⟨l, hl, hf, hb⟩ := list_of_rows (enc := encB) (ok := fun x => 0 ≤ x ∧ x < 256) xss (fun xs hxs => by obtain ⟨p, rfl, h⟩ := flat_b (hok xs hxs); exact ⟨p, rfl, h⟩)
  rw [hf] at hr
  exact ⟨A, n, cp, l, rfl, hnc, hcm, hl.trans hx, hb, hr⟩
def cDt (x : Cf) : CfD := ⟨x.ver, x.gs.map Prod.fst, x.cs⟩
theorem gsEqB_selfR : ∀ l : List Gs, gsEqB l l = true
  | [] => rfl
  | a :: l => by unfold gsEqB; rw [gsEqB_selfR l]; simp [gEqB]
theorem sameX_ofR {x y : Cf} (h : cDt x = cDt y) : sameX x y = true := by
  unfold cDt at h
  simp only [CfD.mk.injEq] at h
  unfold sameX
  rw [h.1, h.2.1, h.2.2, gsEqB_selfR]
  simp
theorem CfR.zero (w : World) : CfR w w.heap.size ⟨0, [], []⟩ none 0 none 0 := ⟨⟨Int.le_refl _, by decide⟩, ⟨Nat.le_refl _, by decide⟩, ⟨Nat.le_refl _, by decide⟩, (fun _ h => by cases h), (fun _ h => by cases h), Rd.nil, Rd.nil⟩
set_option maxRecDepth 100000 in
set_option maxHeartbeats 4000000 in
theorem cfgParses_any (A : Option Addr) (n c : Nat) (l : List Int) (w : World) (hl : l.length = n) (hok : BytesOk l) (hnc : n ≤ c) (hcm : c ≤ maxLen) (hr : Rd w w.heap.size 1 A n (l.flatMap encB)) :
    Calls Try.prog 3 #[.slice A n c] w fun e w' => e = .returned (.bool true) ∧ Below w.heap.size w w' := by
  have hm : n < 2 ^ 63 := by unfold maxLen at hcm; omega
  by_cases h4 : n ≤ 5000
  case neg =>
    go_enter Try.func3, Try.ntmps3
    go_wp2_with (go_at_call 12; refine (awake14_any _).mono ?_; rintro e w1 ⟨rfl, hb1⟩)
    go_ret
    exact ⟨rfl, hb1⟩
  have HPa := Lib.hid (fun W (h : Below w.heap.size w W) => parse_any A n c l W hl hok (by omega) hnc hcm ((hr.below h).more h.size))
  have HPb := Lib.hid (fun W (h : Below w.heap.size w W) => rparse_any A n c l W hl hok (by omega) hnc hcm ((hr.below h).more h.size))
  rcases hp : parseC l with ⟨a, x⟩ | y
  · have HPc := Lib.hid (fun W (h : Below w.heap.size w W) => (HPa.out W h).mono fun e w' h => parse_bad h hp)
    have HPd := Lib.hid (fun W (h : Below w.heap.size w W) => (HPb.out W h).mono fun e w' h => parse_bad h hp)
    have HS := Lib.hid (fun W => show Calls Try.prog 15 #[.agg #[.int .u32 0, .slice none 0 0, .slice none 0 0], .agg #[.int .u32 0, .slice none 0 0, .slice none 0 0]] W (fun e w' => e = .returned (.bool true) ∧ Below W.heap.size W w') from by
      have h := rsame_any ⟨0, [], []⟩ ⟨0, [], []⟩ none none none none 0 0 0 0 W (CfR.zero W) (CfR.zero W)
      rw [sameX_ofR rfl] at h
      exact h)
    have hd1 : ((a : Int) == (a : Int)) = true := by simp
    have hd2 : (x == x) = true := by simp
    clear HPa HPb hp hok hr hl
    go_enter Try.func3, Try.ntmps3
    go_wp2_with (first
      | (go_at_call 12; refine (awake14_any _).mono ?_; rintro e w1 ⟨rfl, hb1⟩)
      | (go_at_call 13; refine (HPc.out _ hb1).mono ?_; rintro e w2 ⟨rfl, hb2⟩; have hb2' := hb1.trans (hb2.mono hb1.size); have hX2 := Blk.new w2 28 #[.int .u32 0, .slice none 0 0, .slice none 0 0]; have hb3 := bal' hb2' (.cells #[.int .u32 0, .slice none 0 0, .slice none 0 0] 28) hb2'.size)
      | (go_at_call 14; refine (HPd.out _ hb3).mono ?_; rintro e w4 ⟨rfl, hb4⟩; have hb4' := hb3.trans (hb4.mono hb3.size); have hX4 := (hX2.kept hb4).alloc (.cells #[.int .u32 0, .slice none 0 0, .slice none 0 0] 28); have hY4 := Blk.new w4 28 #[.int .u32 0, .slice none 0 0, .slice none 0 0]; have hb5 := bal' hb4' (.cells #[.int .u32 0, .slice none 0 0, .slice none 0 0] 28) hb4'.size; have cX4 := hX4.cell; have cY4 := hY4.cell)
      | (go_at_call 15; refine (HS.out _).mono ?_; rintro e w6 ⟨rfl, hb6⟩; have hb6' := hb5.trans (hb6.mono hb5.size)))
    go_ret
    exact ⟨rfl, hb6'⟩
  · have good : ∀ {W : World} {e : Ending} {w' : World}, ParseR l W e w' → ∃ (v : Int) (A1 A2 : Option Addr) (c1 c2 : Nat) (L : List (Gs × Gp)) (C : List Ch), e = .returned (.tuple #[.agg #[.int .u32 v, .slice A1 L.length c1, .slice A2 C.length c2], .int .i64 0, .int .i64 0]) ∧ cDt ⟨v, L, C⟩ = y ∧ CfR w' w'.heap.size ⟨v, L, C⟩ A1 c1 A2 c2 ∧ Below W.heap.size W w' := fun h => by
      obtain ⟨h1, ⟨a2, x2, h2, h3, h4⟩ | ⟨x2, L, A1, c1, A2, c2, h2, h3, h4, h5⟩⟩ := h
      · rw [hp] at h2; cases h2
      · rw [hp] at h2
        cases h2
        exact ⟨_, A1, A2, c1, c2, L, y.cs, h3, by unfold cDt; simp only; rw [← h4], h5, h1⟩
    have HPc := Lib.hid (fun W (h : Below w.heap.size w W) => (HPa.out W h).mono fun e w' h => good h)
    have HPd := Lib.hid (fun W (h : Below w.heap.size w W) => (HPb.out W h).mono fun e w' h => good h)
    have HS := Lib.hid (fun (W : World) (v v' : Int) (A1 A3 A5 A6 : Option Addr) (c1 c3 c5 c6 : Nat) (L L' : List (Gs × Gp)) (C C' : List Ch) (hy : cDt ⟨v, L, C⟩ = y) (hy' : cDt ⟨v', L', C'⟩ = y) (h1 : CfR W W.heap.size ⟨v, L, C⟩ A1 c1 A3 c3) (h2 : CfR W W.heap.size ⟨v', L', C'⟩ A5 c5 A6 c6) =>
      (rsame_any ⟨v, L, C⟩ ⟨v', L', C'⟩ A1 A3 A5 A6 c1 c3 c5 c6 W h1 h2).mono (R' := fun e w' => e = .returned (.bool true) ∧ Below W.heap.size W w') fun e w' h => by rw [sameX_ofR (hy.trans hy'.symm)] at h; exact h)
    clear HPa HPb hp hok hr hl good
    go_enter Try.func3, Try.ntmps3
    go_upto_region 7 with (first
      | (go_at_call 12; refine (awake14_any _).mono ?_; rintro e w1 ⟨rfl, hb1⟩)
      | (go_at_call 13; refine (HPc.out _ hb1).mono ?_; rintro e w2 ⟨v, A1, A2, c1, c2, L, C, rfl, hy, hX, hb2⟩; have HY := Lib.hid hy; have HXX := Lib.hid hX; have hb2' := hb1.trans (hb2.mono hb1.size); have hB2 := Blk.new w2 28 #[.int .u32 v, .slice A1 L.length c1, .slice A2 C.length c2]; have hb3 := bal' hb2' (.cells #[.int .u32 v, .slice A1 L.length c1, .slice A2 C.length c2] 28) hb2'.size; clear hy hX)
      | (go_at_call 14; refine (HPd.out _ hb3).mono ?_; rintro e w4 ⟨v', A3, A4, c3, c4, L', C', rfl, hy, hX, hb4⟩; have HY2 := Lib.hid hy; have HXX2 := Lib.hid hX; clear hy hX))
    have hba := bal (Below.refl w2.heap.size w2) (.cells #[.int .u32 v, .slice A1 L.length c1, .slice A2 C.length c2] 28)
    have hbc := bal (Below.refl w4.heap.size w4) (.cells #[.int .u32 v', .slice A3 L'.length c3, .slice A4 C'.length c4] 28)
    have hC1 := (((HXX.out.below hba).more hba.size).below hb4).more hb4.size
    have hC1 := (hC1.below hbc).more hbc.size
    have hC2 := (HXX2.out.below hbc).more hbc.size
    have hB4 := (hB2.kept hb4).kept hbc
    have hB5 := Blk.new w4 28 #[.int .u32 v', .slice A3 L'.length c3, .slice A4 C'.length c4]
    have hb5 := (hb3.trans (hb4.mono hb3.size)).trans (hbc.mono (Nat.le_trans hb3.size hb4.size))
    generalize w4.alloc (.cells #[.int .u32 v', .slice A3 L'.length c3, .slice A4 C'.length c4] 28) = w5 at *
    have HS5 := Lib.hid (HS.out w5 _ _ _ _ _ _ _ _ _ _ _ _ _ _ HY.out HY2.out hC1 hC2)
    have cB4 := hB4.cell
    have cB5 := hB5.cell
    clear hba hbc hC1 hC2 hB4 hB5 hB2 HXX HXX2 HPc HPd HS
    go_wp2_with (go_at_call 15; refine HS5.out.mono ?_; rintro e w6 ⟨rfl, hb6⟩)
    go_ret
    exact ⟨rfl, hb5.trans (hb6.mono hb5.size)⟩
end Go.Proofs.Ytmhbpfclfffgkaa
