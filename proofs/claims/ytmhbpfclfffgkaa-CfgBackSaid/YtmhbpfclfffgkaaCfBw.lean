/- Chapter 14: what is put is parsed as it was: the law's walk. -/
import Derived.Test.YtmhbpfclfffgkaaCfSe
import Derived.Test.YtmhbpfclfffgkaaCfOn
import Derived.Test.YtmhbpfclfffgkaaCfBk
namespace Go.Proofs.Ytmhbpfclfffgkaa
set_option linter.unusedVariables false
set_option linter.unusedSimpArgs false
open Go.RowKit Go.Sort Go.ChangeShapes Go.WideShapes

theorem gsEqB_self' (l : List Gs) : gsEqB l l = true := gsEqB_all rfl fun k a b ha hb => by
  rw [ha] at hb
  cases hb
  unfold gEqB; simp
theorem sameX_of {x y : Cf} (h : cData x = cData y) : sameX x y = true := by
  unfold cData at h
  simp only [CfD.mk.injEq] at h
  unfold sameX
  rw [h.1, h.2.1, h.2.2, gsEqB_self']
  simp
theorem cIn_of {w : World} {B : Nat} {x : Cf} {A A2 : Option Addr} {c c2 : Nat} (h : CfR w B x A c A2 c2) : CIn (cData x) := by
  refine ⟨h.ver, fun g hg => ?_, h.oc⟩
  obtain ⟨y, hy, rfl⟩ := List.mem_map.1 hg
  have k := h.og y hy
  exact ⟨k.off, k.len, k.cpus, k.entry, k.dtb, k.kl, k.oW, k.oD, k.oS⟩
theorem own_caps {w : World} {base n c : Nat} {e : TypeId} {size : Nat} {A : Option Addr} {xs : List Value} (h : w.ownsRow base e size (.slice A n c) n xs) : n ≤ c ∧ c ≤ maxLen := by
  rcases h.2 with ⟨h1, h2⟩ | ⟨g, cap, cur, h1, hg, hh, hnc, hr⟩
  · simp only [Value.slice.injEq] at h1
    unfold maxLen; omega
  · simp only [Value.slice.injEq] at h1
    obtain ⟨_, _, rfl⟩ := h1
    exact ⟨hnc, hr.1⟩
theorem BytesOk.app {l m : List Int} (h1 : BytesOk l) (h2 : BytesOk m) : BytesOk (l ++ m) := fun x hx => (List.mem_append.1 hx).elim (h1 x) (h2 x)
theorem BytesOk.flat {α : Type} {f : α → List Int} {l : List α} (h : ∀ x ∈ l, BytesOk (f x)) : BytesOk (l.flatMap f) := fun y hy => by
  obtain ⟨x, hx, h1⟩ := List.mem_flatMap.1 hy
  exact h x hx y h1
theorem bn_ok (s : Nat) (l : List Int) : BytesOk (l.flatMap (bytesN s false)) := .flat fun x _ => bytesN_ok s false x
theorem nameF_ok (nm : ByteArray) : BytesOk (nameF nm) := .app (strB_ok nm) fun x hx => by rw [List.mem_replicate] at hx; omega
theorem gB_ok {g : Gs} (h : BytesOk g.key) : BytesOk (gB g) :=
  .app (.app (.app (.app (.app (.app (.app (.app (nameF_ok _) (bn_ok _ _)) (bn_ok _ _)) h) (bn_ok _ _)) (.flat fun x _ => .app (bn_ok _ _) (bn_ok _ _))) (.flat fun x _ => bn_ok _ _)) (.flat fun x _ => .app (bn_ok _ _) (bn_ok _ _))) (bn_ok _ _)
theorem putB_ok {x : CfD} (h : ∀ g ∈ x.gs, BytesOk g.key) : BytesOk (putB x) :=
  .app (.app (.app (.app (bn_ok _ _) (bn_ok _ _)) (bn_ok _ _)) (.flat fun g hg => gB_ok (h g hg))) (.flat fun c _ => .app (.app (bn_ok _ _) (.app (bn_ok _ _) (bn_ok _ _))) (.app (bn_ok _ _) (bn_ok _ _)))
theorem keys_of {w : World} {B : Nat} {x : Cf} {A A2 : Option Addr} {c c2 : Nat} (h : CfR w B x A c A2 c2) : ∀ g ∈ (cData x).gs, BytesOk g.key := fun g hg => by
  obtain ⟨y, hy, rfl⟩ := List.mem_map.1 hg
  exact (h.og y hy).kb
set_option maxRecDepth 100000 in
set_option maxHeartbeats 4000000 in
theorem cfgBack_any (x : Cf) (A A2 : Option Addr) (c c2 : Nat) (w : World) (hx : CfR w w.heap.size x A c A2 c2) :
    Calls Try.prog 8 #[.agg #[.int .u32 x.ver, .slice A x.gs.length c, .slice A2 x.cs.length c2]] w fun e w' => e = .returned (.bool true) ∧ Below w.heap.size w w' := by
  have HFew := Lib.hid (fun W (hb : Below w.heap.size w W) => few_conf hx W hb)
  have hC0 := Blk.new w 28 #[.int .u32 x.ver, .slice A x.gs.length c, .slice A2 x.cs.length c2]
  have hb0 := bal (Below.refl w.heap.size w) (.cells #[.int .u32 x.ver, .slice A x.gs.length c, .slice A2 x.cs.length c2] 28)
  rcases hf : fewN x.gs.length x.cs.length (x.gs.map toGd) with _ | _
  · rw [hf] at HFew
    generalize x.gs.length = n at *
    generalize x.cs.length = n2 at *
    clear hf hx
    go_enter Try.func8, Try.ntmps8
    go_upto_region 1 with (fail)
    generalize w.alloc (.cells #[.int .u32 x.ver, .slice A n c, .slice A2 n2 c2] 28) = w0 at *
    go_wp2_with (first
      | (go_at_call 12; refine (awake14_any _).mono ?_; rintro e w1 ⟨rfl, hb1⟩; have hC1 := hC0.kept hb1; have cC1 := hC1.cell; have hbl1 := hb0.trans (hb1.mono hb0.size))
      | (go_at_call 16; refine (HFew.out _ hbl1).mono ?_; rintro e w2 ⟨rfl, hb2⟩; have hbl2 := hbl1.trans (hb2.mono hbl1.size)))
    go_ret
    exact ⟨rfl, hbl2⟩
  · rw [hf] at HFew
    have hPO : PutOk x := few_yes hf
    have HPut := Lib.hid (fun W (hb : Below w.heap.size w W) => put_any x A c A2 c2 W ((hx.below hb).more hb.size) hPO)
    have HX := Lib.hid hx
    by_cases hE : putE (cData x) = 0
    · have HPut := Lib.hid (fun W (hb : Below w.heap.size w W) => (HPut.out W hb).mono (R' := fun e w' => ∃ (A3 : Option Addr) (c3 : Nat), e = .returned (.tuple #[.slice A3 (putB (cData x)).length c3, .int .i64 0]) ∧ w'.ownsRow W.heap.size 5 1 (.slice A3 (putB (cData x)).length c3) (putB (cData x)).length ((putB (cData x)).flatMap encB) ∧ Below W.heap.size W w') fun e w' h => by
        obtain ⟨h1, ⟨h2, _⟩ | ⟨_, A3, c3, h2, h3⟩⟩ := h
        · exact absurd hE h2
        · exact ⟨A3, c3, h2, h3, h1⟩)
      have hle := putB_le (cIn_of hx) hE
      have hbk := parse_back (cIn_of hx) hE
      have hok : BytesOk (putB (cData x)) := putB_ok (keys_of hx)
      generalize putB (cData x) = pb at *
      obtain ⟨np, hnp⟩ : ∃ m, pb.length = m := ⟨_, rfl⟩
      rw [hnp] at HPut hle
      have HPa := Lib.hid (fun (W : World) (base : Nat) (A3 : Option Addr) (c3 : Nat) (h : W.ownsRow base 5 1 (.slice A3 np c3) np (pb.flatMap encB)) => (parse_any A3 np c3 pb W hnp hok (by omega) (own_caps h).1 (own_caps h).2 (Rd.of_own h)).mono (R' := fun e w' => ∃ (v : Int) (A1 A2 : Option Addr) (c1 c2 : Nat) (L : List (Gs × Gp)) (C : List Ch), e = .returned (.tuple #[.agg #[.int .u32 v, .slice A1 L.length c1, .slice A2 C.length c2], .int .i64 0, .int .i64 0]) ∧ cData ⟨v, L, C⟩ = cData x ∧ CfR w' w'.heap.size ⟨v, L, C⟩ A1 c1 A2 c2 ∧ Below W.heap.size W w') fun e w' h => by
        obtain ⟨h1, ⟨a2, x2, h2, h3, h4⟩ | ⟨x2, L, A1, c1, A2, c2, h2, h3, h4, h5⟩⟩ := h
        · rw [hbk] at h2; cases h2
        · rw [hbk] at h2
          cases h2
          exact ⟨_, A1, A2, c1, c2, L, _, h3, by unfold cData at h4 ⊢; simp only at h4 ⊢; rw [← h4], h5, h1⟩)
      have HS := Lib.hid (fun (W : World) (v : Int) (A1 A3 : Option Addr) (c1 c3 : Nat) (L : List (Gs × Gp)) (C : List Ch) (hy : cData ⟨v, L, C⟩ = cData x) (h1 : CfR W W.heap.size ⟨v, L, C⟩ A1 c1 A3 c3) (h2 : CfR W W.heap.size x A c A2 c2) =>
        (same_any ⟨v, L, C⟩ x A1 A3 A A2 c1 c3 c c2 W h1 h2).mono (R' := fun e w' => e = .returned (.bool true) ∧ Below W.heap.size W w') fun e w' h => by rw [sameX_of hy] at h; exact h)
      have HT := Lib.hid (fun (W : World) (v : Int) (A1 A3 : Option Addr) (c1 c3 : Nat) (L : List (Gs × Gp)) (C : List Ch) (hy : cData ⟨v, L, C⟩ = cData x) (h1 : CfR W W.heap.size ⟨v, L, C⟩ A1 c1 A3 c3) (h2 : CfR W W.heap.size x A c A2 c2) =>
        (rsame_any ⟨v, L, C⟩ x A1 A3 A A2 c1 c3 c c2 W h1 h2).mono (R' := fun e w' => e = .returned (.bool true) ∧ Below W.heap.size W w') fun e w' h => by rw [sameX_of hy] at h; exact h)
      clear hf hx hPO hE hle hbk hok hnp
      generalize x.gs.length = n at *
      generalize x.cs.length = n2 at *
      go_enter Try.func8, Try.ntmps8
      go_upto_region 1 with (fail)
      generalize w.alloc (.cells #[.int .u32 x.ver, .slice A n c, .slice A2 n2 c2] 28) = w0 at *
      go_upto_region 9 with (first
        | (go_at_call 12; refine (awake14_any _).mono ?_; rintro e w1 ⟨rfl, hb1⟩; have hC1 := hC0.kept hb1; have cC1 := hC1.cell; have hbl1 := hb0.trans (hb1.mono hb0.size))
        | (go_at_call 16; refine (HFew.out _ hbl1).mono ?_; rintro e w2 ⟨rfl, hb2⟩; have hbl2 := hbl1.trans (hb2.mono hbl1.size); have hC2 := hC1.kept hb2; have cC2 := hC2.cell)
        | (go_at_call 21; refine (HPut.out _ hbl2).mono ?_; rintro e w3 ⟨A3, c3, rfl, hown3, hb3⟩; have hbl3 := hbl2.trans (hb3.mono hbl2.size); have hC3 := hC2.kept hb3)
        | (go_at_call 13; refine (HPa.out _ _ _ _ hown3).mono ?_; rintro e w4 ⟨v4, A4, B4, c4, d4, L4, C4, rfl, hd4, hR4, hb4⟩; have hbl4 := hbl3.trans (hb4.mono hbl3.size); have hC4 := hC3.kept hb4))
      have hT5 := Blk.new w4 28 #[.int .u32 v4, .slice A4 L4.length c4, .slice B4 C4.length d4]
      have hba := bal (Below.refl w4.heap.size w4) (.cells #[.int .u32 v4, .slice A4 L4.length c4, .slice B4 C4.length d4] 28)
      have hX5 := (hR4.below hba).more hba.size
      have hC5 := hC4.kept hba
      have hbl5 := hbl4.trans (hba.mono hbl4.size)
      generalize w4.alloc (.cells #[.int .u32 v4, .slice A4 L4.length c4, .slice B4 C4.length d4] 28) = w5 at *
      clear cC1 cC2 hC0 hC1 hC2 hC3 hC4 hR4 hown3
      have cT5 := hT5.cell
      have cC5 := hC5.cell
      have HS5 := Lib.hid (HS.out w5 _ _ _ _ _ _ _ hd4 hX5 ((HX.out.below hbl5).more hbl5.size))
      have HT5 := Lib.hid (fun W (h : Below w5.heap.size w5 W) => HT.out W _ _ _ _ _ _ _ hd4 ((hX5.below h).more h.size) ((HX.out.below (hbl5.trans (h.mono hbl5.size))).more (hbl5.trans (h.mono hbl5.size)).size))
      have HC5 := Lib.hid hC5
      have HTe := Lib.hid hT5
      clear hT5 hC5 hX5 HS HT HPa HPut HFew
      go_wp2_with (first
        | (go_at_call 20; refine HS5.out.mono ?_; rintro e w6 ⟨rfl, hb6⟩; have cT6 := (HTe.out.kept hb6).cell; have cC6 := (HC5.out.kept hb6).cell; clear cT5 cC5)
        | (go_at_call 15; refine (HT5.out _ hb6).mono ?_; rintro e w7 ⟨rfl, hb7⟩; have hbl7 := hbl5.trans ((hb6.trans (hb7.mono hb6.size)).mono hbl5.size)))
      go_ret
      exact ⟨rfl, hbl7⟩
    · have HPut := Lib.hid (fun W (hb : Below w.heap.size w W) => (HPut.out W hb).mono (R' := fun e w' => e = .returned (.tuple #[.slice none 0 0, .int .i64 (putE (cData x))]) ∧ Below W.heap.size W w') fun e w' h => by
        obtain ⟨h1, ⟨_, h2⟩ | ⟨h2, _⟩⟩ := h
        · exact ⟨h2, h1⟩
        · exact absurd h2 hE)
      generalize putE (cData x) = E at *
      have hd : (E != 0) = true := by simp; exact hE
      clear hf hx hPO hE
      generalize x.gs.length = n at *
      generalize x.cs.length = n2 at *
      go_enter Try.func8, Try.ntmps8
      go_upto_region 1 with (fail)
      generalize w.alloc (.cells #[.int .u32 x.ver, .slice A n c, .slice A2 n2 c2] 28) = w0 at *
      go_wp2_with (first
        | (go_at_call 12; refine (awake14_any _).mono ?_; rintro e w1 ⟨rfl, hb1⟩; have hC1 := hC0.kept hb1; have cC1 := hC1.cell; have hbl1 := hb0.trans (hb1.mono hb0.size))
        | (go_at_call 16; refine (HFew.out _ hbl1).mono ?_; rintro e w2 ⟨rfl, hb2⟩; have hbl2 := hbl1.trans (hb2.mono hbl1.size); have hC2 := hC1.kept hb2; have cC2 := hC2.cell)
        | (go_at_call 21; refine (HPut.out _ hbl2).mono ?_; rintro e w3 ⟨rfl, hb3⟩; have hbl3 := hbl2.trans (hb3.mono hbl2.size)))
      go_ret
      exact ⟨rfl, hbl3⟩
end Go.Proofs.Ytmhbpfclfffgkaa
