/- Chapter 14: the document's Parse whole; walked. -/
import Derived.Test.YtmhbpfclfffgkaaCfRg
import Derived.Test.YtmhbpfclfffgkaaCfPc
namespace Go.Proofs.Ytmhbpfclfffgkaa
set_option linter.unusedVariables false
set_option linter.unusedSimpArgs false
open Go.RowKit Go.Sort

theorem Step.adv {s : Nat} {m e : Int} {b : List Int} {st st' : RS} {y : Int} (h : Step (numP s m e) b st y st') {a : Nat} (he : st' = .ok a) : ∃ a0, st = .ok a0 ∧ a = a0 + s := by
  subst he
  have h1 := h.run
  rcases st with x | a0
  · cases h1
  refine ⟨a0, rfl, ?_⟩
  have h2 : numP s m e b a0 = .ok (y, a) := h1
  by_cases k1 : a0 + s ≤ b.length
  · by_cases k2 : numB ((b.drop a0).take s) ≤ m
    · rw [numP_yes k1 k2] at h2
      simp only [Except.ok.injEq, Prod.mk.injEq] at h2
      exact h2.2.symm
    · rw [numP_big k1 k2] at h2; cases h2
  · rw [numP_short k1] at h2; cases h2
theorem keep_ok {is : Bool} {s : RS} {x : Nat × Int} {a : Nat} (h : keepS is s x = .ok a) : s = .ok a := by
  unfold keepS at h
  cases is
  · cases s <;> cases h
  · exact h
/-- The reader on its way, the result's box beside it. -/
structure RT (x : RIn) (rb : Nat) (s : RS) (t : Nat) (w0 w : World) : Prop where
  d : RD x s t w
  res : Blk w rb 28 #[.int .u32 0, .slice none 0 0, .slice none 0 0]
  bel : Below x.B w0 w
  ne : rb ≠ x.g
section
variable {x : RIn} {rb : Nat} {s s' : RS} {t t' : Nat} {w0 w w' : World}
theorem RT.call (h : RT x rb s t w0 w) (hx : ROk x) (hn : Near (fun i => i = x.g) w w') (hd : RD x s' t' w') : RT x rb s' t' w0 w' :=
  ⟨hd, h.res.apart hn h.ne, h.bel.trans (hn.below (fun i hi => by rw [hi]; exact hx.gB) (by have := h.d.box.lt; have := hx.gB; omega)), h.ne⟩
theorem RT.below (h : RT x rb s t w0 w) (hx : ROk x) (hb : Below w.heap.size w w') : RT x rb s t w0 w' :=
  ⟨h.d.below hx hb, h.res.kept hb, h.bel.trans (hb.mono (by have := h.d.box.lt; have := hx.gB; omega)), h.ne⟩
end
theorem wp_built_slice {P : Program} {o : Oper} {a : Act} {w w' : World} {K : Act → World → Prop} {Q : Exit → Act → World → Prop} (ty : TypeId) (len : Nat) (parts : Array (Nat × Operand)) (ho : o.op = .buildSlice ty len parts)
    {vals : Array (Nat × Value)} (hv : (parts.map fun (i, x) => (i, a.eval x)) = vals) {V : Value} (hr : (Instr.buildSlice ty len vals).run P w = .ok V w') (h : K (a.put o.dst V) w') : o.wp P a w K Q := by
  unfold Oper.wp execOp
  simp only [ho, hv, Sem.run_bind, Sem.run_pure, Result.andThen_ok, hr]
  exact h
def chA (pa sz : Int) (e0 e1 : En) : Array Value := #[.int .u64 pa, .int .u64 sz, .int .i64 e0.guest, .int .i64 e0.perm, .int .u64 e0.ipa, .int .i64 e1.guest, .int .i64 e1.perm, .int .u64 e1.ipa]
/-- The reader on its way, the configuration's box beside it. -/
structure RP (x : RIn) (rb tb : Nat) (v : Int) (L : List (Gs × Gp)) (C : List Ch) (A1 : Option Addr) (c1 : Nat) (A2 : Option Addr) (c2 : Nat) (s : RS) (t : Nat) (w0 w : World) : Prop where
  t : RT x rb s t w0 w
  box : Blk w tb 28 #[.int .u32 v, .slice A1 L.length c1, .slice A2 C.length c2]
  ne : tb ≠ x.g
  ne2 : rb ≠ tb
  bt : x.B ≤ tb
  rG : w.ownsRow x.B 70 79 (.slice A1 L.length c1) L.length (L.flatMap gcells)
  rC : w.ownsRow x.B 77 8 (.slice A2 C.length c2) C.length (C.flatMap encCh)
  oG : ∀ R ∈ L, GOwn (pp x) R w
section
variable {x : RIn} {rb tb : Nat} {v : Int} {L : List (Gs × Gp)} {C : List Ch} {A1 A2 : Option Addr} {c1 c2 : Nat} {s s' : RS} {t t' : Nat} {w0 w w' : World}
theorem RP.call (h : RP x rb tb v L C A1 c1 A2 c2 s t w0 w) (hx : ROk x) (hn : Near (fun i => i = x.g) w w') (hd : RD x s' t' w') : RP x rb tb v L C A1 c1 A2 c2 s' t' w0 w' :=
  ⟨h.t.call hx hn hd, h.box.apart hn h.ne, h.ne, h.ne2, h.bt, own_apart h.rG h.t.d.box (by decide) hn, own_apart h.rC h.t.d.box (by decide) hn, fun R hR => (h.oG R hR).map fun _ ho => ho.near hn⟩
theorem RP.below (h : RP x rb tb v L C A1 c1 A2 c2 s t w0 w) (hx : ROk x) (hb : Below w.heap.size w w') : RP x rb tb v L C A1 c1 A2 c2 s t w0 w' :=
  ⟨h.t.below hx hb, h.box.kept hb, h.ne, h.ne2, h.bt, own_kept h.rG hb, own_kept h.rC hb, fun R hR => (h.oG R hR).map fun _ ho => by obtain ⟨base, hg, ho⟩ := ho; exact ⟨base, hg, own_kept ho hb⟩⟩
/-- Another box, of the call's own, is written. -/
theorem RP.far (h : RP x rb tb v L C A1 c1 A2 c2 s t w0 w) (hx : ROk x) {q : Nat} {T : TypeId} {cs : Array Value} (hq : Blk w q T cs) (hq0 : x.B ≤ q) (hn1 : x.g ≠ q) (hn2 : tb ≠ q) (hn3 : rb ≠ q) (h1 : 70 ≠ T) (h2 : ∀ k, (Value.slice A2 C.length c2).ownBlock = some k → k ≠ q) (h3 : ∀ e : TypeId, e = 135 ∨ e = 137 ∨ e = 139 ∨ e = 24 → e ≠ T) (hn : Near (fun i => i = q) w w') : RP x rb tb v L C A1 c1 A2 c2 s t w0 w' :=
  ⟨⟨⟨h.t.d.box.apart hn hn1, h.t.d.r.below (hn.below (fun i hi => by omega) (by have := h.t.d.box.lt; have := hx.gB; omega)), h.t.d.le, h.t.d.at_, h.t.d.ne⟩, h.t.res.apart hn hn3, h.t.bel.trans (hn.below (fun i hi => by omega) (by have := h.t.d.box.lt; have := hx.gB; omega)), h.t.ne⟩,
   h.box.apart hn hn2, h.ne, h.ne2, h.bt, own_apart h.rG hq h1 hn, own_same h.rC (fun j hj => hn.block j (own_lt h.rC hj).2 (fun he => h2 j hj he)), fun R hR => ⟨(h.oG R hR).nm, (h.oG R hR).off, (h.oG R hR).len, (h.oG R hR).cpus, (h.oG R hR).entry, (h.oG R hR).dtb, (h.oG R hR).kl, (h.oG R hR).kb, (h.oG R hR).oW, (h.oG R hR).oD, (h.oG R hR).oI, (h.oG R hR).oS,
     (h.oG R hR).rW.apart hq (h3 _ (by simp)) hn, (h.oG R hR).rD.apart hq (h3 _ (by simp)) hn, (h.oG R hR).rI.apart hq (h3 _ (by simp)) hn, (h.oG R hR).rS.apart hq (h3 _ (by simp)) hn⟩⟩
/-- What a growing row leaves. -/
theorem RP.grown (h : RP x rb tb v L C A1 c1 A2 c2 s t w0 w) (hx : ROk x) {e2 : TypeId} {k2 n2 : Nat} {v2 : Value} {xs2 : List Value} (h2 : w.ownsRow x.B e2 k2 v2 n2 xs2) (hg : w.grownBy w' v2.ownBlock) (hb : Below x.B w w') (h1 : e2 = 70 ∨ e2 = 77) :
    RT x rb s t w0 w' ∧ Blk w' tb 28 #[.int .u32 v, .slice A1 L.length c1, .slice A2 C.length c2] ∧ ∀ R, GOwn (pp x) R w → GOwn (pp x) R w' := by
  have hk : ∀ g t cs, Blk w g t cs → e2 ≠ t → Blk w' g t cs := fun g t cs hB hne => hB.same (hg.block g hB.lt (fun he => own_blk_ne h2 hB hne he))
  have ha : e2 ≠ 60 ∧ e2 ≠ 28 := by rcases h1 with rfl | rfl <;> exact ⟨by decide, by decide⟩
  refine ⟨⟨⟨hk _ _ _ h.t.d.box ha.1, h.t.d.r.below hb, h.t.d.le, h.t.d.at_, h.t.d.ne⟩, hk _ _ _ h.t.res ha.2, h.t.bel.trans hb, h.t.ne⟩, hk _ _ _ h.box ha.2, fun R hR => ⟨hR.nm, hR.off, hR.len, hR.cpus, hR.entry, hR.dtb, hR.kl, hR.kb, hR.oW, hR.oD, hR.oI, hR.oS, ?_, ?_, ?_, ?_⟩⟩
  · exact hR.rW.grown h2 (by rcases h1 with rfl | rfl <;> decide) hg
  · exact hR.rD.grown h2 (by rcases h1 with rfl | rfl <;> decide) hg
  · exact hR.rI.grown h2 (by rcases h1 with rfl | rfl <;> decide) hg
  · exact hR.rS.grown h2 (by rcases h1 with rfl | rfl <;> decide) hg
theorem RP.make {L' : List (Gs × Gp)} {C' : List Ch} {A1' A2' : Option Addr} {c1' c2' : Nat} {w1 : World} (h : RP x rb tb v L C A1 c1 A2 c2 s t w0 w) (hx : ROk x) (hT : RT x rb s t w0 w1) (hB : Blk w1 tb 28 #[.int .u32 v, .slice A1 L.length c1, .slice A2 C.length c2]) (j : Nat) (u : Value)
    (he : (#[.int .u32 v, .slice A1 L.length c1, .slice A2 C.length c2] : Array Value).setIfInBounds j u = #[.int .u32 v, .slice A1' L'.length c1', .slice A2' C'.length c2'])
    (rG : w1.ownsRow x.B 70 79 (.slice A1' L'.length c1') L'.length (L'.flatMap gcells)) (rC : w1.ownsRow x.B 77 8 (.slice A2' C'.length c2') C'.length (C'.flatMap encCh)) (oG : ∀ R ∈ L', GOwn (pp x) R w1) :
    RP x rb tb v L' C' A1' c1' A2' c2' s t w0 (w1.setCell ⟨tb, j, none⟩ u) := by
  have hn := (Near.refl (fun i => i = tb) w1).setCell (p := ⟨tb, j, none⟩) rfl u
  have hbt := h.bt
  refine ⟨⟨⟨hT.d.box.apart hn (Ne.symm h.ne), hT.d.r.below (hn.below (fun i hi => by omega) (by have := hT.d.box.lt; have := hx.gB; omega)), hT.d.le, hT.d.at_, hT.d.ne⟩, hT.res.apart hn h.ne2, hT.bel.trans (hn.below (fun i hi => by omega) (by have := hT.d.box.lt; have := hx.gB; omega)), hT.ne⟩, by rw [← he]; exact hB.set_ j u, h.ne, h.ne2, h.bt, own_apart rG hB (by decide) hn, own_apart rC hB (by decide) hn, fun R hR => ?_⟩
  have hr := oG R hR
  exact ⟨hr.nm, hr.off, hr.len, hr.cpus, hr.entry, hr.dtb, hr.kl, hr.kb, hr.oW, hr.oD, hr.oI, hr.oS, hr.rW.apart hB (by decide) hn, hr.rD.apart hB (by decide) hn, hr.rI.apart hB (by decide) hn, hr.rS.apart hB (by decide) hn⟩
end
theorem own_capsR {w : World} {base n c size : Nat} {e : TypeId} {A : Option Addr} {xs : List Value} (h : w.ownsRow base e size (.slice A n c) n xs) : n ≤ c ∧ c ≤ maxLen := by
  rcases h.2 with ⟨h1, h2⟩ | ⟨g, cap, cur, h1, hg, hh, hnc, hr⟩
  · simp only [Value.slice.injEq] at h1
    unfold maxLen; omega
  · simp only [Value.slice.injEq] at h1
    obtain ⟨_, _, rfl⟩ := h1
    exact ⟨hnc, hr.1⟩
theorem RP.conf {x : RIn} {rb tb : Nat} {v : Int} {L : List (Gs × Gp)} {C : List Ch} {A1 A2 : Option Addr} {c1 c2 : Nat} {s : RS} {t : Nat} {w0 w w' : World} (h : RP x rb tb v L C A1 c1 A2 c2 s t w0 w) (hv : inU32 v) (hC : ∀ y ∈ C, ChOk y) (hn : Near (fun i => i = rb) w w') : CfR w' w'.heap.size ⟨v, L, C⟩ A1 c1 A2 c2 := by
  have rG := own_apart h.rG h.t.res (by decide) hn
  have rC := own_apart h.rC h.t.res (by decide) hn
  refine ⟨hv, own_capsR rG, own_capsR rC, fun R hR => ?_, hC, Rd.of_own rG, Rd.of_own rC⟩
  have hr := h.oG R hR
  exact GOwn.gsR (p := pp x) ⟨hr.nm, hr.off, hr.len, hr.cpus, hr.entry, hr.dtb, hr.kl, hr.kb, hr.oW, hr.oD, hr.oI, hr.oS, hr.rW.apart h.t.res (by decide) hn, hr.rD.apart h.t.res (by decide) hn, hr.rI.apart h.t.res (by decide) hn, hr.rS.apart h.t.res (by decide) hn⟩
set_option maxRecDepth 100000 in
set_option maxHeartbeats 8000000 in
theorem rparse_any (A : Option Addr) (n c : Nat) (b : List Int) (w : World) (hl : b.length = n) (hok : BytesOk b) (hm : n ≤ 1000000000) (hnc : n ≤ c) (hcm : c ≤ maxLen) (hr : Rd w w.heap.size 1 A n (b.flatMap encB)) :
    Calls Try.prog 14 #[.slice A n c] w (ParseR b w) := by
  have hb0 := bal (Below.refl w.heap.size w) (.cells #[.int .u32 0, .slice none 0 0, .slice none 0 0] 28)
  have hR0 := Blk.new w 28 #[.int .u32 0, .slice none 0 0, .slice none 0 0]
  by_cases h6 : n ≤ 65536
  case neg =>
    have hd : decide ((65536 : Int) < (n : Int)) = true := decide_eq_true (by omega)
    have HP : Hid (parseC b = .error (0, 2)) := Lib.hid (by unfold parseC; rw [if_pos (by omega)])
    clear h6 hl hok hm hr
    go_enter Try.func14, Try.ntmps14
    go_upto_region 1 with (fail)
    generalize w.alloc (.cells #[.int .u32 0, .slice none 0 0, .slice none 0 0] 28) = w1 at *
    have cR := hR0.cell
    have fR := hR0.frozen
    go_wp2_with fail
    have hb3 := ((hb0.setCell (p := ⟨w.heap.size, 0, none⟩) (Nat.le_refl _) (.int .u32 0)).setCell (p := ⟨w.heap.size, 1, none⟩) (Nat.le_refl _) (.slice none 0 0)).setCell (p := ⟨w.heap.size, 2, none⟩) (Nat.le_refl _) (.slice none 0 0)
    have cZ : ∀ i, (((w1.setCell ⟨w.heap.size, 0, none⟩ (.int .u32 0)).setCell ⟨w.heap.size, 1, none⟩ (.slice none 0 0)).setCell ⟨w.heap.size, 2, none⟩ (.slice none 0 0)).cell? ⟨w.heap.size, i, none⟩ = (#[.int .u32 0, .slice none 0 0, .slice none 0 0] : Array Value)[i]? := by
      have h := ((hR0.set_ 0 (.int .u32 0)).set_ 1 (.slice none 0 0)).set_ 2 (.slice none 0 0)
      exact h.cell
    generalize ((w1.setCell ⟨w.heap.size, 0, none⟩ (.int .u32 0)).setCell ⟨w.heap.size, 1, none⟩ (.slice none 0 0)).setCell ⟨w.heap.size, 2, none⟩ (.slice none 0 0) = w4 at *
    refine bodyPost_ret (v := .tuple #[.agg #[.int .u32 0, .slice none 0 0, .slice none 0 0], .int .i64 0, .int .i64 2]) (by simp [results, Try.results14, go_sem, cZ]) rfl ⟨hb3, .inl ⟨0, 2, HP.out, by decide, rfl⟩⟩
  have hd : decide ((65536 : Int) < (n : Int)) = false := decide_eq_false (by omega)
  obtain ⟨rb, hrb⟩ : ∃ r, w.heap.size = r := ⟨_, rfl⟩
  have hz1 : (w.alloc (.cells #[.int .u32 0, .slice none 0 0, .slice none 0 0] 28)).heap.size = rb + 1 := by simp [hrb]
  have HX : Hid (ROk ⟨rb, rb + 1, A, n, c, b⟩) := Lib.hid ⟨hl, hok, h6, hnc, hcm, by simp⟩
  have hr1 := hr.below hb0
  rw [hrb] at hR0 hr1
  have hb0' := hb0
  rw [hrb] at hb0'
  have HRb := Lib.hid hrb
  go_enter Try.func14, Try.ntmps14
  go_upto_region 1 with (fail)
  generalize w.alloc (.cells #[.int .u32 0, .slice none 0 0, .slice none 0 0] 28) = w1 at *
  have hbR := bal (Below.refl w1.heap.size w1) (.cells #[.slice A n c, .int .i64 0, .int .i64 0, .int .i64 0] 60)
  have hX1 := Blk.new w1 60 #[.slice A n c, .int .i64 0, .int .i64 0, .int .i64 0]
  rw [hz1] at hX1
  have hT : RT ⟨rb, rb + 1, A, n, c, b⟩ rb (.ok 0) 0 w (w1.alloc (.cells #[.slice A n c, .int .i64 0, .int .i64 0, .int .i64 0] 60)) :=
    ⟨⟨hX1, hr1.below (hbR.mono (by rw [hz1]; simp)), Nat.zero_le _, fun a h => (by cases h; rfl), fun e h => (by cases h)⟩, hR0.kept hbR, hb0'.trans (hbR.mono (by rw [hz1]; simp)), by simp⟩
  go_upto_region 4 with (fail)
  (try rw [hz1])
  (try rw [hrb])
  generalize w1.alloc (.cells #[.slice A n c, .int .i64 0, .int .i64 0, .int .i64 0] 60) = w2 at *
  obtain ⟨x, hx⟩ : ∃ x : RIn, (⟨rb, rb + 1, A, n, c, b⟩ : RIn) = x := ⟨_, rfl⟩
  have hxg : rb + 1 = x.g := by rw [← hx]
  have hxb : b = x.b := by rw [← hx]
  have HXn := Lib.hid (show n = x.n by rw [← hx])
  have HXB := Lib.hid (show rb = x.B by rw [← hx])
  rw [hx] at hT HX
  have HXb := Lib.hid hxb
  clear hx hxb hX1 hbR hr1 hb0' hr hR0 hb0 hz1 hd hok hl
  (try rw [hxg])
  clear hxg
  have H := Lib.hid (rnumber_any 4 4294967295 144 (by decide) (by decide) (by decide) x _ _ _ HX.out hT.d)
  go_upto_if 22 with (go_at_call 29; refine H.out.mono ?_; rintro e1 w2 ⟨hn1, y1, v, s1, t1, rfl, ⟨rfl, b1, k1⟩, hD, S1⟩; have hT := hT.call HX.out hn1 hD; rw [pw4] at k1)
  have T1 := Lib.hid S1
  clear H hn1 hD S1
  have HF := Lib.hid (rfail_any x _ _ _ HX.out hT.d 140 0 (by decide))
  have HTT := Lib.hid hT
  clear hT
  go_cut [] from 22 to 24 (fun wx => RT x rb (keepS (decide (y1 = 1111705159)) s1 (0, 140)) t1 w wx)
  case first =>
    by_cases hy : y1 = 1111705159
    · have hd : (y1 != 1111705159) = false := by simp [hy]
      have hk : (decide (y1 = 1111705159)) = true := decide_eq_true hy
      go_wp2_with fail
      go_meet
      rw [hk]
      exact HTT.out
    · have hd : (y1 != 1111705159) = true := by simp [hy]
      have hk : (decide (y1 = 1111705159)) = false := decide_eq_false hy
      have HF2 := Lib.hid (HF.out.mono (R' := fun r w' => r = .returned (.tuple #[]) ∧ RT x rb (keepS (decide (y1 = 1111705159)) s1 (0, 140)) t1 w w') fun r w' h => ⟨h.1, by rw [hk]; exact HTT.out.call HX.out h.2.2 h.2.1⟩)
      clear hk
      go_wp2_with (go_at_call 30; refine HF2.out.mono ?_; rintro e1 w10 ⟨rfl, hT10⟩)
      go_meet
      exact hT10
  case rest =>
    have hT := hcut
    clear hcut HTT HF
    obtain ⟨u1, hu1⟩ : ∃ y, keepS (decide (y1 = 1111705159)) s1 (0, 140) = y := ⟨_, rfl⟩
    rw [hu1] at hT
    have M1 : Hid (Step (mustP (decide (y1 = 1111705159)) 0 140) x.b s1 () u1) := Lib.hid (by rw [← hu1]; exact Step.must _ _ _ _ _)
    have P1 : Hid (∀ a, u1 = .ok a → 4 = a) := Lib.hid (fun a ha => by
      obtain ⟨a0, h1, h2⟩ := T1.out.adv (keep_ok (hu1.trans ha))
      cases h1
      exact h2.symm)
    clear hu1
    have H := Lib.hid (rnumber_any 2 65535 144 (by decide) (by decide) (by decide) x _ _ _ HX.out hT.d)
    go_upto_if 27 with (go_at_call 29; refine H.out.mono ?_; rintro e1 w2 ⟨hn1, y2, v, s2, t2, rfl, ⟨rfl, b2, k2⟩, hD, S2⟩; have hT := hT.call HX.out hn1 hD; rw [pw2] at k2)
    have T2 := Lib.hid S2
    clear H hn1 hD S2
    have HF := Lib.hid (rfail_any x _ _ _ HX.out hT.d 144 4 (by decide))
    have HTT := Lib.hid hT
    clear hT
    go_cut [] from 27 to 29 (fun wx => RT x rb (keepS (decide (y2 = 1)) s2 (4, 144)) t2 w wx)
    case first =>
      by_cases hy : y2 = 1
      · have hd : (y2 != 1) = false := by simp [hy]
        have hk : (decide (y2 = 1)) = true := decide_eq_true hy
        go_wp2_with fail
        go_meet
        rw [hk]
        exact HTT.out
      · have hd : (y2 != 1) = true := by simp [hy]
        have hk : (decide (y2 = 1)) = false := decide_eq_false hy
        have HF2 := Lib.hid (HF.out.mono (R' := fun r w' => r = .returned (.tuple #[]) ∧ RT x rb (keepS (decide (y2 = 1)) s2 (4, 144)) t2 w w') fun r w' h => ⟨h.1, by rw [hk]; exact HTT.out.call HX.out h.2.2 h.2.1⟩)
        clear hk
        go_wp2_with (go_at_call 30; refine HF2.out.mono ?_; rintro e1 w10 ⟨rfl, hT10⟩)
        go_meet
        exact hT10
    case rest =>
      have hT := hcut
      clear hcut HTT HF
      obtain ⟨u2, hu2⟩ : ∃ y, keepS (decide (y2 = 1)) s2 (4, 144) = y := ⟨_, rfl⟩
      rw [hu2] at hT
      have M2 : Hid (Step (mustP (decide (y2 = 1)) 4 144) x.b s2 () u2) := Lib.hid (by rw [← hu2]; exact Step.must _ _ _ _ _)
      have P2 : Hid (∀ a, u2 = .ok a → 6 = a) := Lib.hid (fun a ha => by
        obtain ⟨a0, h1, h2⟩ := T2.out.adv (keep_ok (hu2.trans ha))
        have := P1.out a0 h1
        omega)
      clear hu2
      have H := Lib.hid (rnumber_any 2 16 142 (by decide) (by decide) (by decide) x _ _ _ HX.out hT.d)
      go_upto_if 34 with (go_at_call 29; refine H.out.mono ?_; rintro e1 w2 ⟨hn1, y3, v, s3, t3, rfl, ⟨rfl, b3, k3⟩, hD, S3⟩; have hT := hT.call HX.out hn1 hD; rw [pw2] at k3)
      have T3 := Lib.hid S3
      clear H hn1 hD S3
      have HF := Lib.hid (rfail_any x _ _ _ HX.out hT.d 142 6 (by decide))
      have HTT := Lib.hid hT
      clear hT
      go_cut [] from 34 to 36 (fun wx => RT x rb (keepS (decide (0 < y3)) s3 (6, 142)) t3 w wx)
      case first =>
        by_cases hy : 0 < y3
        · have hd : (y3 == 0) = false := by (simp; omega)
          have hk : (decide (0 < y3)) = true := decide_eq_true hy
          go_wp2_with fail
          go_meet
          rw [hk]
          exact HTT.out
        · have hd : (y3 == 0) = true := by (simp; omega)
          have hk : (decide (0 < y3)) = false := decide_eq_false hy
          have HF2 := Lib.hid (HF.out.mono (R' := fun r w' => r = .returned (.tuple #[]) ∧ RT x rb (keepS (decide (0 < y3)) s3 (6, 142)) t3 w w') fun r w' h => ⟨h.1, by rw [hk]; exact HTT.out.call HX.out h.2.2 h.2.1⟩)
          clear hk
          go_wp2_with (go_at_call 30; refine HF2.out.mono ?_; rintro e1 w10 ⟨rfl, hT10⟩)
          go_meet
          exact hT10
      case rest =>
        have hT := hcut
        clear hcut HTT HF
        obtain ⟨u3, hu3⟩ : ∃ y, keepS (decide (0 < y3)) s3 (6, 142) = y := ⟨_, rfl⟩
        rw [hu3] at hT
        have M3 : Hid (Step (mustP (decide (0 < y3)) 6 142) x.b s3 () u3) := Lib.hid (by rw [← hu3]; exact Step.must _ _ _ _ _)
        clear hu3
        have H := Lib.hid (rnumber_any 2 32 142 (by decide) (by decide) (by decide) x _ _ _ HX.out hT.d)
        go_upto_region 12 with (go_at_call 29; refine H.out.mono ?_; rintro e1 w2 ⟨hn1, y4, v, s4, t4, rfl, ⟨rfl, b4, k4⟩, hD, S4⟩; have hT := hT.call HX.out hn1 hD; rw [pw2] at k4)
        have T4 := Lib.hid S4
        clear H hn1 hD S4
        have H := Lib.hid (rnumber_any 2 0 144 (by decide) (by decide) (by decide) x _ _ _ HX.out hT.d)
        go_upto_region 13 with (go_at_call 29; refine H.out.mono ?_; rintro e1 w2 ⟨hn1, y5, v, s5, t5, rfl, ⟨rfl, b5, k5⟩, hD, S5⟩; have hT := hT.call HX.out hn1 hD; skip)
        have T5 := Lib.hid S5
        clear H hn1 hD S5
        have H := Lib.hid (rnumber_any 4 4294967295 144 (by decide) (by decide) (by decide) x _ _ _ HX.out hT.d)
        go_upto_region 14 with (go_at_call 29; refine H.out.mono ?_; rintro e1 w2 ⟨hn1, y6, v, s6, t6, rfl, ⟨rfl, b6, k6⟩, hD, S6⟩; have hT := hT.call HX.out hn1 hD; rw [pw4] at k6; have h32 : y6 % 4294967296 = y6 := Int.emod_eq_of_lt b6 k6)
        have T6 := Lib.hid S6
        clear H hn1 hD S6
        have HTop : Hid (Step top1P x.b (.ok 0) (y3, y4, y6) s6) := Lib.hid (T1.out.bnd (M1.out.bnd (Step.bnd (Step.here P1.out) (T2.out.bnd (M2.out.bnd (Step.bnd (Step.here P2.out) (T3.out.bnd (M3.out.bnd (T4.out.bnd (T5.out.bnd (T6.out.bnd (Step.ret _ _ _))))))))))))
        have hbC := bal (Below.refl w2.heap.size w2) (.cells #[.int .u32 y6, .slice none 0 0, .slice none 0 0] 28)
        have hBx := Blk.new w2 28 #[.int .u32 y6, .slice none 0 0, .slice none 0 0]
        have hgl := hT.d.box.lt
        have hrl := hT.res.lt
        have hBg := HX.out.gB
        have hT := hT.below HX.out hbC
        obtain ⟨tb, htb⟩ : ∃ r, w2.heap.size = r := ⟨_, rfl⟩
        (try rw [htb])
        rw [htb] at hBx hgl hrl
        have hP : RP x rb tb y6 [] [] none 0 none 0 s6 t6 w (w2.alloc (.cells #[.int .u32 y6, .slice none 0 0, .slice none 0 0] 28)) := ⟨hT, hBx, by omega, by omega, by omega, World.ownsRow_nil _ _ _ _, World.ownsRow_nil _ _ _ _, fun R hR => by cases hR⟩
        generalize w2.alloc (.cells #[.int .u32 y6, .slice none 0 0, .slice none 0 0] 28) = w3 at *
        obtain ⟨NG, hNG⟩ := Int.eq_ofNat_of_zero_le b3
        obtain ⟨NC, hNC⟩ := Int.eq_ofNat_of_zero_le b4
        subst hNG hNC
        have hNb : NG < 65536 ∧ NC < 65536 := by omega
        have HP := Lib.hid hP
        clear hbC hBx hgl hrl hT htb hP h32 hrb T1 T2 T3 T4 T5 T6 M1 M2 M3 P1 P2
        go_upto_block 0 with (fail)
        go_cut [] from 46 to 64 (fun wx => ∃ (s : RS) (t : Nat) (L : List (Gs × Gp)) (A1 : Option Addr) (c1 : Nat), Hid (RP x rb tb y6 L [] A1 c1 none 0 s t w wx ∧ Step (listP guestP NG) x.b s6 (L.map Prod.fst) s))
        case first =>
          go_wp2_with fail
          go_loopw [9] (fun iv wx => ∃ (j : Nat), j ≤ NG ∧ iv = .int .i64 j ∧ ∃ (s : RS) (t : Nat) (L : List (Gs × Gp)) (A1 : Option Addr) (c1 : Nat), Hid (L.length = j ∧ RP x rb tb y6 L [] A1 c1 none 0 s t w wx ∧ Step (listP guestP j) x.b s6 (L.map Prod.fst) s)) (fun iv _ => NG - (intOf iv).toNat)
          case atStart => exact ⟨0, by omega, rfl, _, _, [], none, 0, Lib.hid ⟨rfl, HP.out, Step.ret _ _ _⟩⟩
          case round =>
            obtain ⟨j, hj, rfl, s, t, L, A1, c1, hh⟩ := hrel
            obtain ⟨hl, hP, hS⟩ := hh.out
            have HL := Lib.hid hl
            have HS := Lib.hid hS
            have cB := hP.t.d.box.cell
            clear hh hl hS
            by_cases hlt : j < NG
            · have hlk : decide ((j : Int) < (NG : Int)) = true := decide_eq_true (by omega)
              rcases s with e | a
              · have hne : (errS (.error e) == 0) = false := by have := hP.t.d.ne e rfl; simpa [errS] using this
                have HPN := Lib.hid hP
                clear hP
                go_wp2_with fail
                go_meet
                exact ⟨_, _, L, A1, c1, Lib.hid ⟨HPN.out, HS.out.stop (by omega)⟩⟩
              · have hne : (errS (.ok a) == 0) = true := rfl
                go_upto_region 17 with (fail)
                clear cB hne hlk
                have hbd : Below wr.heap.size wr wr.drew := (Below.refl _ _).drew
                have hP := hP.below HX.out hbd
                have hc := hP.box.cell 1
                rw [HL.out] at hc
                have hS1 : (fun W' : World => W'.cell? ⟨tb, 1, none⟩ = some (.slice A1 j c1)) wr.drew := hc
                refine wp_region_u (S := fun W' : World => W'.cell? ⟨tb, 1, none⟩ = some (.slice A1 j c1)) 6 (by kernel_rfl) ?_
                clear hbd hc
                generalize wr.drew = v0 at *
                refine wpAnyU_take (i := 0) (v := ?vrG0) rfl (by kernel_rfl) (by kernel_rfl) (by kernel_rfl) (fun _ _ _ h => h) (Or.inl ⟨by kernel_rfl, ?hyrG0⟩) hS1 ?restrG0
                case hyrG0 =>
                  intro w hSw
                  clear hSw
                  go_simp
                  first | done | with_reducible rfl
                (try simp only [List.getElem_toArray, List.getElem_cons_succ, List.getElem_cons_zero, Act.put, List.setIfInBounds_toArray, List.set_cons_zero, List.set_cons_succ])
                refine wpAnyU_take (i := 1) (v := ?vrG1) rfl (by kernel_rfl) (by kernel_rfl) (by kernel_rfl) (fun _ _ _ h => h) (Or.inl ⟨by kernel_rfl, ?hyrG1⟩) hS1 ?restrG1
                case hyrG1 =>
                  intro w hSw
                  (try dsimp only at hSw)
                  go_simp
                  first | done | with_reducible rfl
                (try simp only [List.getElem_toArray, List.getElem_cons_succ, List.getElem_cons_zero, Act.put, List.setIfInBounds_toArray, List.set_cons_zero, List.set_cons_succ])
                refine wpAnyU_take (i := 2) (v := ?vrG2) rfl (by kernel_rfl) (by kernel_rfl) (by kernel_rfl) (fun _ _ _ h => h) (Or.inl ⟨by kernel_rfl, ?hyrG2⟩) hS1 ?restrG2
                case hyrG2 =>
                  intro w hSw
                  clear hSw
                  go_simp
                  first | done | with_reducible rfl
                (try simp only [List.getElem_toArray, List.getElem_cons_succ, List.getElem_cons_zero, Act.put, List.setIfInBounds_toArray, List.set_cons_zero, List.set_cons_succ])
                refine wpAnyU_call (i := 3) (by kernel_rfl) rfl (by kernel_rfl) fun K hK => ?_
                simp only [List.getElem_toArray, List.getElem_cons_succ, List.getElem_cons_zero]
                go_simp
                go_at_call 31
                refine (rguestP_any x _ _ _ HX.out hP.t.d).mono ?_
                rintro e1 v1 ⟨hn, y, u, sa, ta, rfl, ⟨R, hRy, rfl, hRo⟩, hD, SA⟩
                have hP := hP.call HX.out hn hD
                have hc := hP.box.cell 1
                rw [HL.out] at hc
                refine hK.out _ _ (fun _ => hc) ?_
                clear hK K
                (try simp only [List.getElem_toArray, List.getElem_cons_succ, List.getElem_cons_zero, Act.put, List.setIfInBounds_toArray, List.set_cons_zero, List.set_cons_succ])
                have HSA := Lib.hid SA
                have HRy := Lib.hid hRy
                have hl79 := gcells_len hRo.kl
                have HSl := Lib.hid (fun W => slice_one elemG (by decide) W (.agg (gcells R).toArray) (by show (gcells R).toArray.size = 79; rw [List.size_toArray]; exact hl79))
                clear hn hD hc SA hRy
                refine wpAnyU_call (i := 4) (by kernel_rfl) rfl (by kernel_rfl) fun K hK => ?_
                simp only [List.getElem_toArray, List.getElem_cons_succ, List.getElem_cons_zero]
                refine wp_built_slice 25 1 #[(0, .tmp 61)] rfl (vals := #[(0, .agg (gcells R).toArray)]) ?hva (HSl.out _) ?_
                case hva => go_simp
                have hbB := bal (Below.refl v1.heap.size v1) (.cells (gcells R).toArray 70)
                have hP := hP.below HX.out hbB
                have hRo := hRo.map (fun _ ho => by obtain ⟨base, hg, ho⟩ := ho; exact ⟨base, hg, own_kept ho hbB⟩)
                have hRB := Rd.fresh v1 (gcells R).toArray 70 1 79 _ (by rw [List.size_toArray]; exact hl79) rfl
                have hc := hP.box.cell 1
                rw [HL.out] at hc
                refine hK.out _ _ (fun _ => hc) ?_
                clear hK K
                (try simp only [List.getElem_toArray, List.getElem_cons_succ, List.getElem_cons_zero, Act.put, List.setIfInBounds_toArray, List.set_cons_zero, List.set_cons_succ])
                (try rw [show (Value.agg (gcells R).toArray).cells = (gcells R).toArray from rfl])
                generalize v1.alloc (.cells (gcells R).toArray 70) = v2 at *
                have hown := hP.rG
                rw [HL.out] at hown
                have HNl := Lib.hid (show j + 1 ≤ maxLen by unfold maxLen; omega)
                have hBl : x.B ≤ v2.heap.size := by have := hP.box.lt; have := hP.bt; omega
                refine wpAnyU_call (i := 5) (by kernel_rfl) rfl (by kernel_rfl) fun K hK => ?_
                simp only [List.getElem_toArray, List.getElem_cons_succ, List.getElem_cons_zero]
                refine wp_app v2 elemG (.tmp 59) (.tmp 62) rfl x.B (.slice A1 j c1) j (L.flatMap gcells) ?hsG hown v2.heap.size (some ⟨v1.heap.size, 0, none⟩) 1 1 (gcells R) ?hxG hRB (one2 (gcells_one _)) HNl.out (by omega) hBl ?_
                case hsG => go_simp
                case hxG => go_simp
                intro v' v3 hown' hb6 hg6
                obtain ⟨A', c', rfl, _, _⟩ := own_slice hown'
                obtain ⟨hT6, hB6, hO6⟩ := hP.grown HX.out hown hg6 hb6 (.inl rfl)
                have hc := hB6.cell 1
                rw [HL.out] at hc
                refine hK.out _ _ (fun _ => hc) ?_
                clear hK K
                (try simp only [List.getElem_toArray, List.getElem_cons_succ, List.getElem_cons_zero, Act.put, List.setIfInBounds_toArray, List.set_cons_zero, List.set_cons_succ])
                refine wpAnyU_take (i := 6) (v := ?vrG6) rfl (by kernel_rfl) (by kernel_rfl) (by kernel_rfl) (fun _ _ _ h => h) (Or.inl ⟨by kernel_rfl, ?hyrG6⟩) hc ?restrG6
                case hyrG6 =>
                  intro w hSw
                  clear hSw
                  go_simp
                  first | done | with_reducible rfl
                (try simp only [List.getElem_toArray, List.getElem_cons_succ, List.getElem_cons_zero, Act.put, List.setIfInBounds_toArray, List.set_cons_zero, List.set_cons_succ])
                have cB6 := hB6.cell
                have fB6 := hB6.frozen
                refine wpAnyU_call (i := 7) (by kernel_rfl) rfl (by kernel_rfl) fun K hK => ?_
                simp only [List.getElem_toArray, List.getElem_cons_succ, List.getElem_cons_zero]
                go_simp
                refine hK.out _ _ (fun h => absurd h (by decide)) ?_
                clear hK K
                (try simp only [List.getElem_toArray, List.getElem_cons_succ, List.getElem_cons_zero, Act.put, List.setIfInBounds_toArray, List.set_cons_zero, List.set_cons_succ])
                refine wpAnyU_done (by kernel_rfl) ?_ _
                have hlen : (L ++ [R]).length = j + 1 := by rw [List.length_append, HL.out]; rfl
                have hPF : RP x rb tb y6 (L ++ [R]) [] A' c' none 0 sa ta w (v3.setCell ⟨tb, 1, none⟩ (.slice A' (j + 1) c')) :=
                  hP.make HX.out hT6 hB6 1 _ (by rw [hlen]; rfl) (by rw [hlen, List.flatMap_append]; simpa using hown') (World.ownsRow_nil _ _ _ _) (fun Q hQ => by
                    rcases List.mem_append.1 hQ with hQ | hQ
                    · exact hO6 Q (hP.oG Q hQ)
                    · rw [List.mem_singleton] at hQ
                      subst hQ
                      exact hO6 Q hRo)
                have HPF := Lib.hid hPF
                have HLn := Lib.hid hlen
                clear hc hP hown hown' hb6 hg6 hT6 hB6 hO6 cB6 fB6 hRB hbB hlen HNl hPF hRo hBl
                go_wp2_with fail
                go_roundw
                case rel => exact ⟨j + 1, by omega, by go_num, sa, _, L ++ [R], A', c', Lib.hid ⟨HLn.out, HPF.out, by rw [List.map_append, List.map_singleton, HRy.out]; exact HS.out.list HSA.out⟩⟩
                case measure => simp [intOf]; omega
            · have hlk : decide ((j : Int) < (NG : Int)) = false := decide_eq_false (by omega)
              have hjn : j = NG := by omega
              have HPN := Lib.hid hP
              clear hP
              go_wp2_with fail
              go_meet
              rw [hjn] at HS
              exact ⟨_, _, L, A1, c1, Lib.hid ⟨HPN.out, HS.out⟩⟩
        case rest =>
          obtain ⟨s7, t7, L, A1, c1, hh⟩ := hcut
          have HPG := Lib.hid hh.out.1
          have HSG := Lib.hid hh.out.2
          clear hh HP
          go_upto_block 2 with (fail)
          go_cut [] from 65 to 103 (fun wx => ∃ (s : RS) (t : Nat) (C : List Ch) (A2 : Option Addr) (c2 : Nat), Hid (RP x rb tb y6 L C A1 c1 A2 c2 s t w wx ∧ Step (listP channelP NC) x.b s7 C s ∧ ∀ y ∈ C, ChOk y))
          case first =>
            go_wp2_with fail
            go_loopw [10, 11, 12] (fun iv _ _ wx => ∃ (j : Nat), j ≤ NC ∧ iv = .int .i64 j ∧ ∃ (s : RS) (t : Nat) (C : List Ch) (A2 : Option Addr) (c2 : Nat), Hid (C.length = j ∧ RP x rb tb y6 L C A1 c1 A2 c2 s t w wx ∧ Step (listP channelP j) x.b s7 C s ∧ ∀ y ∈ C, ChOk y)) (fun iv _ _ _ => NC - (intOf iv).toNat)
            case atStart => exact ⟨0, by omega, rfl, _, _, [], none, 0, Lib.hid ⟨rfl, HPG.out, Step.ret _ _ _, fun y hy => by cases hy⟩⟩
            case round =>
              obtain ⟨j, hj, rfl, s, t, C, A2, c2, hh⟩ := hrel
              obtain ⟨hl, hP, hS, hok⟩ := hh.out
              have HL := Lib.hid hl
              have HS := Lib.hid hS
              have HOk := Lib.hid hok
              have cB := hP.t.d.box.cell
              clear hh hl hS hok
              by_cases hlt : j < NC
              · have hlk : decide ((j : Int) < (NC : Int)) = true := decide_eq_true (by omega)
                rcases s with e | a
                · have hne : (errS (.error e) == 0) = false := by have := hP.t.d.ne e rfl; simpa [errS] using this
                  have HPN := Lib.hid hP
                  clear hP
                  go_wp2_with fail
                  go_meet
                  exact ⟨_, _, C, A2, c2, Lib.hid ⟨HPN.out, HS.out.stop (by omega), HOk.out⟩⟩
                · have hne : (errS (.ok a) == 0) = true := rfl
                  go_upto_region 21 with (fail)
                  clear cB hne hlk
                  go_wp2_with (fail)
                  refine (rwide_any x _ _ _ HX.out hP.t.d).mono ?_
                  rintro e1 v1 ⟨hn, pa, u, sa0, ta, rfl, ⟨rfl, p0, q0⟩, hD, SA0⟩
                  have hP := hP.call HX.out hn hD
                  have HA0 := Lib.hid SA0
                  clear hn hD SA0
                  go_wp2_with (fail)
                  refine (rwide_any x _ _ _ HX.out hP.t.d).mono ?_
                  rintro e1 v2 ⟨hn, sz, u, sa1, ta, rfl, ⟨rfl, p1, q1⟩, hD, SA1⟩
                  have hP := hP.call HX.out hn hD
                  have HA1 := Lib.hid SA1
                  clear hn hD SA1
                  rw [pw8] at q0 q1
                  have hXb := Blk.new v2 77 #[.int .u64 pa, .int .u64 sz, .int .i64 0, .int .i64 0, .int .u64 0, .int .i64 0, .int .i64 0, .int .u64 0]
                  have hbX := bal (Below.refl v2.heap.size v2) (.cells #[.int .u64 pa, .int .u64 sz, .int .i64 0, .int .i64 0, .int .u64 0, .int .i64 0, .int .i64 0, .int .u64 0] 77)
                  have hgl : x.g < v2.heap.size ∧ tb < v2.heap.size ∧ rb < v2.heap.size ∧ x.B ≤ v2.heap.size := ⟨hP.t.d.box.lt, hP.box.lt, hP.t.res.lt, by have := hP.box.lt; have := hP.bt; omega⟩
                  have hcl : ∀ k, (Value.slice A2 C.length c2).ownBlock = some k → k < v2.heap.size := fun k hk => (own_lt hP.rC hk).2
                  have hP := hP.below HX.out hbX
                  go_upto_region 22 with (fail)
                  obtain ⟨xb, hxb⟩ : ∃ q, v2.heap.size = q := ⟨_, rfl⟩
                  (try rw [hxb])
                  rw [hxb] at hXb hgl hcl
                  generalize v2.alloc (.cells #[.int .u64 pa, .int .u64 sz, .int .i64 0, .int .i64 0, .int .u64 0, .int .i64 0, .int .i64 0, .int .u64 0] 77) = v3 at *
                  have hnx : x.g ≠ xb ∧ tb ≠ xb ∧ rb ≠ xb ∧ x.B ≤ xb := by omega
                  have HCx := Lib.hid (show ∀ k, (Value.slice A2 C.length c2).ownBlock = some k → k ≠ xb from fun k hk => by have := hcl k hk; omega)
                  have HP3 := Lib.hid (And.intro hP hXb)
                  clear hbX hgl hxb hP hXb hcl
                  go_wp2_with fail
                  go_loopw [12, 82] (fun _ iv wx => ∃ (s : RS) (t : Nat), (iv = .int .i64 0 ∧ Hid (s = sa1 ∧ RP x rb tb y6 L C A1 c1 A2 c2 s t w wx ∧ Blk wx xb 77 (chA pa sz ⟨0, 0, 0⟩ ⟨0, 0, 0⟩))) ∨ (∃ e0 : En, iv = .int .i64 1 ∧ Hid (Step endP x.b sa1 e0 s ∧ EnOk e0 ∧ RP x rb tb y6 L C A1 c1 A2 c2 s t w wx ∧ Blk wx xb 77 (chA pa sz e0 ⟨0, 0, 0⟩))) ∨
                    (∃ (e0 e1 : En) (sb : RS), iv = .int .i64 2 ∧ Hid (Step endP x.b sa1 e0 sb ∧ Step endP x.b sb e1 s ∧ EnOk e0 ∧ EnOk e1 ∧ RP x rb tb y6 L C A1 c1 A2 c2 s t w wx ∧ Blk wx xb 77 (chA pa sz e0 e1)))) (fun _ iv _ => 2 - (intOf iv).toNat)
                  case atStart => exact ⟨sa1, _, .inl ⟨rfl, Lib.hid ⟨rfl, HP3.out.1, HP3.out.2⟩⟩⟩
                  case round =>
                    obtain ⟨s, t, ⟨rfl, hh⟩ | ⟨e0, rfl, hh⟩ | ⟨e0, e1, sb, rfl, hh⟩⟩ := hrel
                    · obtain ⟨rfl, hP, hX⟩ := hh.out
                      clear hh
                      go_upto_region 25 with (fail)
                      go_wp2_with (fail)
                      refine (rnumber_any 2 65535 144 (by decide) (by decide) (by decide) x _ _ _ HX.out hP.t.d).mono ?_
                      rintro e1 v4 ⟨hn, g, u, sx, ta, rfl, ⟨rfl, p2, q2⟩, hD, SA⟩
                      have hP := hP.call HX.out hn hD
                      have hX := hX.apart hn (Ne.symm hnx.1)
                      have HB0 := Lib.hid SA
                      rw [pw2] at q2
                      clear hn hD SA
                      go_wp2_with (fail)
                      refine (rnumber_any 2 7 144 (by decide) (by decide) (by decide) x _ _ _ HX.out hP.t.d).mono ?_
                      rintro e1 v5 ⟨hn, m, u, sy, ta, rfl, ⟨rfl, p3, q3⟩, hD, SA⟩
                      have hP := hP.call HX.out hn hD
                      have hX := hX.apart hn (Ne.symm hnx.1)
                      have HB1 := Lib.hid SA
                      rw [pw2] at q3
                      clear hn hD SA
                      go_wp2_with (fail)
                      refine (rwide_any x _ _ _ HX.out hP.t.d).mono ?_
                      rintro e1 v6 ⟨hn, i, u, sz', ta, rfl, ⟨rfl, p4, q4⟩, hD, SA⟩
                      have hP := hP.call HX.out hn hD
                      have hX := hX.apart hn (Ne.symm hnx.1)
                      have HB2 := Lib.hid SA
                      rw [pw8] at q4
                      clear hn hD SA
                      have cX0 : v6.cell? ⟨xb, 2, none⟩ = some (.int .i64 0) := hX.cell 2
                      have cX1 : v6.cell? ⟨xb, 3, none⟩ = some (.int .i64 0) := hX.cell 3
                      have cX2 : v6.cell? ⟨xb, 4, none⟩ = some (.int .u64 0) := hX.cell 4
                      have fX := hX.frozen
                      go_upto_region 26 with (fail)
                      clear cX0 cX1 cX2 fX
                      have hnX := (((Near.refl (fun i => i = xb) v6).setCell (p := ⟨xb, 2, none⟩) rfl (.int .i64 g)).setCell (p := ⟨xb, 3, none⟩) rfl (.int .i64 m)).setCell (p := ⟨xb, 4, none⟩) rfl (.int .u64 i)
                      have HPF := Lib.hid (hP.far HX.out hX hnx.2.2.2 hnx.1 hnx.2.1 hnx.2.2.1 (by decide) HCx.out (by rintro e (rfl | rfl | rfl | rfl) <;> decide) hnX)
                      have hXF := ((hX.set_ 2 (.int .i64 g)).set_ 3 (.int .i64 m)).set_ 4 (.int .u64 i)
                      rw [show ((((chA pa sz ⟨0, 0, 0⟩ ⟨0, 0, 0⟩)).setIfInBounds 2 (.int .i64 g)).setIfInBounds 3 (.int .i64 m)).setIfInBounds 4 (.int .u64 i) = (chA pa sz ⟨g, m, i⟩ ⟨0, 0, 0⟩) from rfl] at hXF
                      have HXF := Lib.hid hXF
                      have HSt : Hid (Step endP x.b _ ⟨g, m, i⟩ sz') := Lib.hid (HB0.out.bnd (HB1.out.bnd (HB2.out.bnd (Step.ret _ _ _))))
                      have HEn : Hid (EnOk ⟨g, m, i⟩) := Lib.hid ⟨by show inI64 g; unfold inI64; omega, by show inI64 m; unfold inI64; omega, p4, q4⟩
                      clear hnX hXF hP hX
                      generalize ((v6.setCell ⟨xb, 2, none⟩ (.int .i64 g)).setCell ⟨xb, 3, none⟩ (.int .i64 m)).setCell ⟨xb, 4, none⟩ (.int .u64 i) = v7 at *
                      go_wp2_with fail
                      go_roundw
                      case rel => exact ⟨_, _, .inr (.inl ⟨⟨g, m, i⟩, by go_num, Lib.hid ⟨HSt.out, HEn.out, HPF.out, HXF.out⟩⟩)⟩
                      case measure => simp [intOf]
                    · obtain ⟨hS0, hE0, hP, hX⟩ := hh.out
                      have HS0 := Lib.hid hS0
                      have HE0 := Lib.hid hE0
                      clear hh hS0 hE0
                      go_upto_region 25 with (fail)
                      go_wp2_with (fail)
                      refine (rnumber_any 2 65535 144 (by decide) (by decide) (by decide) x _ _ _ HX.out hP.t.d).mono ?_
                      rintro e1 v4 ⟨hn, g, u, sx, ta, rfl, ⟨rfl, p2, q2⟩, hD, SA⟩
                      have hP := hP.call HX.out hn hD
                      have hX := hX.apart hn (Ne.symm hnx.1)
                      have HB0 := Lib.hid SA
                      rw [pw2] at q2
                      clear hn hD SA
                      go_wp2_with (fail)
                      refine (rnumber_any 2 7 144 (by decide) (by decide) (by decide) x _ _ _ HX.out hP.t.d).mono ?_
                      rintro e1 v5 ⟨hn, m, u, sy, ta, rfl, ⟨rfl, p3, q3⟩, hD, SA⟩
                      have hP := hP.call HX.out hn hD
                      have hX := hX.apart hn (Ne.symm hnx.1)
                      have HB1 := Lib.hid SA
                      rw [pw2] at q3
                      clear hn hD SA
                      go_wp2_with (fail)
                      refine (rwide_any x _ _ _ HX.out hP.t.d).mono ?_
                      rintro e1 v6 ⟨hn, i, u, sz', ta, rfl, ⟨rfl, p4, q4⟩, hD, SA⟩
                      have hP := hP.call HX.out hn hD
                      have hX := hX.apart hn (Ne.symm hnx.1)
                      have HB2 := Lib.hid SA
                      rw [pw8] at q4
                      clear hn hD SA
                      have cX0 : v6.cell? ⟨xb, 5, none⟩ = some (.int .i64 0) := hX.cell 5
                      have cX1 : v6.cell? ⟨xb, 6, none⟩ = some (.int .i64 0) := hX.cell 6
                      have cX2 : v6.cell? ⟨xb, 7, none⟩ = some (.int .u64 0) := hX.cell 7
                      have fX := hX.frozen
                      go_upto_region 26 with (fail)
                      clear cX0 cX1 cX2 fX
                      have hnX := (((Near.refl (fun i => i = xb) v6).setCell (p := ⟨xb, 5, none⟩) rfl (.int .i64 g)).setCell (p := ⟨xb, 6, none⟩) rfl (.int .i64 m)).setCell (p := ⟨xb, 7, none⟩) rfl (.int .u64 i)
                      have HPF := Lib.hid (hP.far HX.out hX hnx.2.2.2 hnx.1 hnx.2.1 hnx.2.2.1 (by decide) HCx.out (by rintro e (rfl | rfl | rfl | rfl) <;> decide) hnX)
                      have hXF := ((hX.set_ 5 (.int .i64 g)).set_ 6 (.int .i64 m)).set_ 7 (.int .u64 i)
                      rw [show ((((chA pa sz e0 ⟨0, 0, 0⟩)).setIfInBounds 5 (.int .i64 g)).setIfInBounds 6 (.int .i64 m)).setIfInBounds 7 (.int .u64 i) = (chA pa sz e0 ⟨g, m, i⟩) from rfl] at hXF
                      have HXF := Lib.hid hXF
                      have HSt : Hid (Step endP x.b _ ⟨g, m, i⟩ sz') := Lib.hid (HB0.out.bnd (HB1.out.bnd (HB2.out.bnd (Step.ret _ _ _))))
                      have HEn : Hid (EnOk ⟨g, m, i⟩) := Lib.hid ⟨by show inI64 g; unfold inI64; omega, by show inI64 m; unfold inI64; omega, p4, q4⟩
                      clear hnX hXF hP hX
                      generalize ((v6.setCell ⟨xb, 5, none⟩ (.int .i64 g)).setCell ⟨xb, 6, none⟩ (.int .i64 m)).setCell ⟨xb, 7, none⟩ (.int .u64 i) = v7 at *
                      go_wp2_with fail
                      go_roundw
                      case rel => exact ⟨_, _, .inr (.inr ⟨e0, ⟨g, m, i⟩, _, by go_num, Lib.hid ⟨HS0.out, HSt.out, HE0.out, HEn.out, HPF.out, HXF.out⟩⟩)⟩
                      case measure => simp [intOf]
                    · obtain ⟨hS0, hS1, hE0, hE1, hP, hX⟩ := hh.out
                      have HS0 := Lib.hid hS0
                      have HS1 := Lib.hid hS1
                      have HE := Lib.hid (And.intro hE0 hE1)
                      clear hh hS0 hS1 hE0 hE1
                      obtain ⟨g0, m0, i0⟩ := e0
                      obtain ⟨g1, m1, i1⟩ := e1
                      have hX : Blk wr xb 77 #[.int .u64 pa, .int .u64 sz, .int .i64 g0, .int .i64 m0, .int .u64 i0, .int .i64 g1, .int .i64 m1, .int .u64 i1] := hX
                      have cX := hX.cell
                      have cT := hP.box.cell
                      rw [HL.out] at cT
                      have hba := bal (Below.refl wr.heap.size wr) (.cells #[.int .u64 pa, .int .u64 sz, .int .i64 g0, .int .i64 m0, .int .u64 i0, .int .i64 g1, .int .i64 m1, .int .u64 i1] 77)
                      have hPa := hP.below HX.out hba
                      have hown := hPa.rC
                      rw [HL.out] at hown
                      have HNl := Lib.hid (show j + 1 ≤ maxLen by unfold maxLen; omega)
                      have HNb := Lib.hid (show (j + 1) * 64 ≤ 140737488355328 by omega)
                      have HBl := Lib.hid (show x.B ≤ (wr.alloc (.cells #[.int .u64 pa, .int .u64 sz, .int .i64 g0, .int .i64 m0, .int .u64 i0, .int .i64 g1, .int .i64 m1, .int .u64 i1] 77)).heap.size by have := hPa.box.lt; have := hPa.bt; omega)
                      have HOne := Lib.hid (show ∀ u ∈ [Value.int .u64 pa, .int .u64 sz, .int .i64 g0, .int .i64 m0, .int .u64 i0, .int .i64 g1, .int .i64 m1, .int .u64 i1], u.oneCell' = true from fun u hu => by simp only [List.mem_cons, List.not_mem_nil, or_false] at hu; rcases hu with rfl | rfl | rfl | rfl | rfl | rfl | rfl | rfl <;> rfl)
                      have HPa := Lib.hid hPa
                      clear hP hX hPa hba
                      go_upto_region 20 with (at_builtin; refine wpList_app elemC rfl (.tmp 99) (.tmp 101) rfl x.B hown rfl rfl (Rd.fresh _ _ _ 1 8 _ rfl) HOne.out HNl.out HNb.out HBl.out ?_; intro v' v8 hown' hb6 hg6; obtain ⟨A', c', rfl, _, _⟩ := own_slice hown'; have hG6 := HPa.out.grown HX.out hown hg6 hb6 (.inr rfl); have cB6 := hG6.2.1.cell; have fB6 := hG6.2.1.frozen)
                      obtain ⟨hT6, hB6, hO6⟩ := hG6
                      have hy : (⟨pa, sz, ⟨g0, m0, i0⟩, ⟨g1, m1, i1⟩⟩ : Ch) = ⟨pa, sz, ⟨g0, m0, i0⟩, ⟨g1, m1, i1⟩⟩ := rfl
                      have hlen : (C ++ [(⟨pa, sz, ⟨g0, m0, i0⟩, ⟨g1, m1, i1⟩⟩ : Ch)]).length = j + 1 := by rw [List.length_append, HL.out]; rfl
                      have hPF : RP x rb tb y6 L (C ++ [(⟨pa, sz, ⟨g0, m0, i0⟩, ⟨g1, m1, i1⟩⟩ : Ch)]) A1 c1 A' c' s t w (v8.setCell ⟨tb, 2, none⟩ (.slice A' (j + 1) c')) :=
                        HPa.out.make HX.out hT6 hB6 2 _ (by rw [hlen]; rfl) (own_grown HPa.out.rG hown (by decide) hg6) (by rw [hlen, List.flatMap_append]; simpa [encCh, encEn] using hown') (fun Q hQ => hO6 Q (HPa.out.oG Q hQ))
                      have HPF := Lib.hid hPF
                      have HLn := Lib.hid hlen
                      clear hy hlen hPF hT6 hB6 hO6 cB6 fB6 hown hown' hb6 hg6 cX cT
                      generalize v8.setCell ⟨tb, 2, none⟩ (.slice A' (j + 1) c') = v9 at *
                      go_wp2_with fail
                      go_roundw
                      case rel => exact ⟨j + 1, by omega, by go_num, s, t, C ++ [(⟨pa, sz, ⟨g0, m0, i0⟩, ⟨g1, m1, i1⟩⟩ : Ch)], A', c', Lib.hid ⟨HLn.out, HPF.out, HS.out.list (HA0.out.bnd (HA1.out.bnd (HS0.out.bnd (HS1.out.bnd (Step.ret _ _ _))))), fun y hy => by
                        rcases List.mem_append.1 hy with hy | hy
                        · exact HOk.out y hy
                        · rw [List.mem_singleton] at hy
                          subst hy
                          exact ⟨⟨p0, q0⟩, ⟨p1, q1⟩, HE.out.1, HE.out.2⟩⟩⟩
                      case measure => simp [intOf]; omega
              · have hlk : decide ((j : Int) < (NC : Int)) = false := decide_eq_false (by omega)
                have hjn : j = NC := by omega
                have HPN := Lib.hid hP
                clear hP
                go_wp2_with fail
                go_meet
                rw [hjn] at HS
                exact ⟨_, _, C, A2, c2, Lib.hid ⟨HPN.out, HS.out, HOk.out⟩⟩
          case rest =>
            obtain ⟨s8, t8, C, A2, c2, hh⟩ := hcut
            obtain ⟨hP, hSC, hok⟩ := hh.out
            have hconf : configP x.b 0 = runS (PR.bnd endsP fun _ => PR.ret ⟨y6, L.map Prod.fst, C⟩) x.b s8 := (HTop.out.eq _ _).trans ((HSG.out.eq _ _).trans (hSC.eq _ _))
            have hbn : b.length = n := by rw [HXb.out, HXn.out]; exact HX.out.hb
            have HOk := Lib.hid hok
            clear hh HPG hSC hok
            rcases s8 with ⟨ek, ee⟩ | a
            · have hpc : parseC b = .error (ek, ee) := by unfold parseC; rw [if_neg (by omega), HXb.out, hconf]; rfl
              have hne := hP.t.d.ne _ rfl
              have cR := hP.t.d.box.cell
              have hd1 : (ee == 0) = false := by simpa using hne
              have hd2 : (ee != 0) = true := by simpa using hne
              have HP := Lib.hid hP
              have HPc := Lib.hid hpc
              have HNe := Lib.hid hne
              simp only [errS, plcS] at cR
              clear hP hpc hne hconf hbn
              go_upto_region 31 with (fail)
              have hS1 : (fun W' : World => ∀ i, W'.cell? ⟨x.g, i, none⟩ = (#[.slice x.A x.n x.c, .int .i64 t8, .int .i64 ee, .int .i64 ek] : Array Value)[i]?) wc.drew := cR
              refine wp_region_u (S := fun W' : World => ∀ i, W'.cell? ⟨x.g, i, none⟩ = (#[.slice x.A x.n x.c, .int .i64 t8, .int .i64 ee, .int .i64 ek] : Array Value)[i]?) 12 (by kernel_rfl) ?_
              refine wpAnyU_take (i := 0) (v := ?vbA0) rfl (by kernel_rfl) (by kernel_rfl) (by kernel_rfl) (fun _ _ _ h => h) (Or.inl ⟨by kernel_rfl, ?hybA0⟩) hS1 ?restbA0
              case hybA0 =>
                intro w hSw
                clear hSw
                go_simp
                first | done | with_reducible rfl
              (try simp only [List.getElem_toArray, List.getElem_cons_succ, List.getElem_cons_zero, Act.put, List.setIfInBounds_toArray, List.set_cons_zero, List.set_cons_succ])
              refine wpAnyU_take (i := 1) (v := ?vbA1) rfl (by kernel_rfl) (by kernel_rfl) (by kernel_rfl) (fun _ _ _ h => h) (Or.inl ⟨by kernel_rfl, ?hybA1⟩) hS1 ?restbA1
              case hybA1 =>
                intro w hSw
                clear hSw
                go_simp
                first | done | with_reducible rfl
              (try simp only [List.getElem_toArray, List.getElem_cons_succ, List.getElem_cons_zero, Act.put, List.setIfInBounds_toArray, List.set_cons_zero, List.set_cons_succ])
              refine wpAnyU_take (i := 2) (v := ?vbA2) rfl (by kernel_rfl) (by kernel_rfl) (by kernel_rfl) (fun _ _ _ h => h) (Or.inl ⟨by kernel_rfl, ?hybA2⟩) hS1 ?restbA2
              case hybA2 =>
                intro w hSw
                clear hSw
                go_simp
                first | done | with_reducible rfl
              (try simp only [List.getElem_toArray, List.getElem_cons_succ, List.getElem_cons_zero, Act.put, List.setIfInBounds_toArray, List.set_cons_zero, List.set_cons_succ])
              refine wpAnyU_take (i := 3) (v := ?vbA3) rfl (by kernel_rfl) (by kernel_rfl) (by kernel_rfl) (fun _ _ _ h => h) (Or.inl ⟨by kernel_rfl, ?hybA3⟩) hS1 ?restbA3
              case hybA3 =>
                intro w hSw
                clear hSw
                go_simp
                first | done | with_reducible rfl
              (try simp only [List.getElem_toArray, List.getElem_cons_succ, List.getElem_cons_zero, Act.put, List.setIfInBounds_toArray, List.set_cons_zero, List.set_cons_succ])
              refine wpAnyU_take (i := 4) (v := ?vbA4) rfl (by kernel_rfl) (by kernel_rfl) (by kernel_rfl) (fun _ _ _ h => h) (Or.inl ⟨by kernel_rfl, ?hybA4⟩) hS1 ?restbA4
              case hybA4 =>
                intro w hSw
                (try dsimp only at hSw)
                go_simp
                first | done | with_reducible rfl
              (try simp only [List.getElem_toArray, List.getElem_cons_succ, List.getElem_cons_zero, Act.put, List.setIfInBounds_toArray, List.set_cons_zero, List.set_cons_succ])
              refine wpAnyU_take (i := 5) (v := ?vbA5) rfl (by kernel_rfl) (by kernel_rfl) (by kernel_rfl) (fun _ _ _ h => h) (Or.inl ⟨by kernel_rfl, ?hybA5⟩) hS1 ?restbA5
              case hybA5 =>
                intro w hSw
                clear hSw
                go_simp
                first | done | with_reducible rfl
              (try simp only [List.getElem_toArray, List.getElem_cons_succ, List.getElem_cons_zero, Act.put, List.setIfInBounds_toArray, List.set_cons_zero, List.set_cons_succ])
              refine wpAnyU_take (i := 6) (v := ?vbA6) rfl (by kernel_rfl) (by kernel_rfl) (by kernel_rfl) (fun _ _ _ h => h) (Or.inl ⟨by kernel_rfl, ?hybA6⟩) hS1 ?restbA6
              case hybA6 =>
                intro w hSw
                clear hSw
                go_simp
                first | done | with_reducible rfl
              (try simp only [List.getElem_toArray, List.getElem_cons_succ, List.getElem_cons_zero, Act.put, List.setIfInBounds_toArray, List.set_cons_zero, List.set_cons_succ])
              refine wpAnyU_take (i := 7) (v := ?vbA7) rfl (by kernel_rfl) (by kernel_rfl) (by kernel_rfl) (fun _ _ _ h => h) (Or.inl ⟨by kernel_rfl, ?hybA7⟩) hS1 ?restbA7
              case hybA7 =>
                intro w hSw
                clear hSw
                go_simp
                first | done | with_reducible rfl
              (try simp only [List.getElem_toArray, List.getElem_cons_succ, List.getElem_cons_zero, Act.put, List.setIfInBounds_toArray, List.set_cons_zero, List.set_cons_succ])
              refine wpAnyU_take (i := 8) (v := ?vbA8) rfl (by kernel_rfl) (by kernel_rfl) (by kernel_rfl) (fun _ _ _ h => h) (Or.inl ⟨by kernel_rfl, ?hybA8⟩) hS1 ?restbA8
              case hybA8 =>
                intro w hSw
                (try dsimp only at hSw)
                go_simp
                first | done | with_reducible rfl
              (try simp only [List.getElem_toArray, List.getElem_cons_succ, List.getElem_cons_zero, Act.put, List.setIfInBounds_toArray, List.set_cons_zero, List.set_cons_succ])
              have hP0 := HP.out.below HX.out (Below.refl _ _).drew
              have cZ0 := hP0.t.res.cell
              have fZ := hP0.t.res.frozen
              have hne := hP0.t.ne
              have HP0 := Lib.hid hP0
              clear hP0
              generalize wc.drew = v0 at *
              refine wpAnyU_call (i := 9) (by kernel_rfl) rfl (by kernel_rfl) fun K hK => ?_
              simp only [List.getElem_toArray, List.getElem_cons_succ, List.getElem_cons_zero]
              go_simp
              have hn9 := (((Near.refl (fun i => i = rb) v0).setCell (p := ⟨rb, 0, none⟩) rfl (.int .u32 0)).setCell (p := ⟨rb, 1, none⟩) rfl (.slice none 0 0)).setCell (p := ⟨rb, 2, none⟩) rfl (.slice none 0 0)
              have hB9 := ((HP0.out.t.res.set_ 0 (.int .u32 0)).set_ 1 (.slice none 0 0)).set_ 2 (.slice none 0 0)
              have hc9 := (HP0.out.t.d.box.apart hn9 (Ne.symm hne)).cell
              generalize ((v0.setCell ⟨rb, 0, none⟩ (.int .u32 0)).setCell ⟨rb, 1, none⟩ (.slice none 0 0)).setCell ⟨rb, 2, none⟩ (.slice none 0 0) = v1 at *
              clear cZ0 fZ
              refine hK.out _ _ (fun _ => hc9) ?_
              clear hK K
              (try simp only [List.getElem_toArray, List.getElem_cons_succ, List.getElem_cons_zero, Act.put, List.setIfInBounds_toArray, List.set_cons_zero, List.set_cons_succ])
              refine wpAnyU_take (i := 10) (v := ?vbA10) rfl (by kernel_rfl) (by kernel_rfl) (by kernel_rfl) (fun _ _ _ h => h) (Or.inl ⟨by kernel_rfl, ?hybA10⟩) hc9 ?restbA10
              case hybA10 =>
                intro w hSw
                clear hSw
                go_simp
                first | done | with_reducible rfl
              (try simp only [List.getElem_toArray, List.getElem_cons_succ, List.getElem_cons_zero, Act.put, List.setIfInBounds_toArray, List.set_cons_zero, List.set_cons_succ])
              refine wpAnyU_take (i := 11) (v := ?vbA11) rfl (by kernel_rfl) (by kernel_rfl) (by kernel_rfl) (fun _ _ _ h => h) (Or.inl ⟨by kernel_rfl, ?hybA11⟩) hc9 ?restbA11
              case hybA11 =>
                intro w hSw
                clear hSw
                go_simp
                first | done | with_reducible rfl
              (try simp only [List.getElem_toArray, List.getElem_cons_succ, List.getElem_cons_zero, Act.put, List.setIfInBounds_toArray, List.set_cons_zero, List.set_cons_succ])
              refine wpAnyU_done (by kernel_rfl) ?_ _
              have cZ : ∀ i, v1.cell? ⟨rb, i, none⟩ = (#[.int .u32 0, .slice none 0 0, .slice none 0 0] : Array Value)[i]? := hB9.cell
              clear hc9 hB9 hS1 cR
              go_wp2_with fail
              have hbl : Below w.heap.size w v1 := by
                have h1 := HP0.out.t.bel
                rw [← HXB.out] at h1
                rw [HRb.out]
                exact h1.trans (hn9.below (fun i hi => by omega) (by have := HP0.out.t.res.lt; omega))
              refine bodyPost_ret (v := .tuple #[.agg #[.int .u32 0, .slice none 0 0, .slice none 0 0], .int .i64 ek, .int .i64 ee]) (by simp [results, Try.results14, go_sem, cZ]) rfl ⟨hbl, .inl ⟨ek, ee, HPc.out, HNe.out, rfl⟩⟩
            · obtain rfl := hP.t.d.at_ a rfl
              have hle := hP.t.d.le
              rw [← HXn.out] at hle
              have cR := hP.t.d.box.cell
              have cx := HXn.out
              by_cases ht : t8 < n
              · have hd1 : decide ((t8 : Int) < (n : Int)) = true := decide_eq_true (by omega)
                have hd3 : decide (t8 < n) = true := decide_eq_true ht
                have hcc : configP x.b 0 = .error (t8, 145) := by
                  rw [hconf]
                  have he : endsP x.b t8 = .error (t8, 145) := by unfold endsP; rw [if_neg (by rw [← HXb.out]; omega)]
                  simp only [runS]
                  rw [PR.bnd_error he]
                have hpc : parseC b = .error (t8, 145) := by
                  unfold parseC
                  rw [if_neg (by omega), HXb.out, hcc]
                have HPc := Lib.hid hpc
                have HNe := Lib.hid (show (145 : Int) ≠ 0 by decide)
                have HF := Lib.hid (rfail_any x _ _ _ HX.out hP.t.d 145 t8 (by decide))
                have HP1 := Lib.hid hP
                simp only [errS, plcS] at cR
                clear hP hpc hconf hbn ht cx
                go_upto_region 30 with (go_at_call 30; refine HF.out.mono ?_; rintro e1 w10 ⟨rfl, hD10, hn10⟩)
                have hP := HP1.out.call HX.out hn10 hD10
                have cR := hP.t.d.box.cell
                have HP := Lib.hid hP
                simp only [failS, errS, plcS] at cR
                clear hn10 hD10 hP HF
                go_upto_region 31 with (fail)
                have hS1 : (fun W' : World => ∀ i, W'.cell? ⟨x.g, i, none⟩ = (#[.slice x.A x.n x.c, .int .i64 t8, .int .i64 145, .int .i64 t8] : Array Value)[i]?) w10.drew := cR
                refine wp_region_u (S := fun W' : World => ∀ i, W'.cell? ⟨x.g, i, none⟩ = (#[.slice x.A x.n x.c, .int .i64 t8, .int .i64 145, .int .i64 t8] : Array Value)[i]?) 12 (by kernel_rfl) ?_
                refine wpAnyU_take (i := 0) (v := ?vbB0) rfl (by kernel_rfl) (by kernel_rfl) (by kernel_rfl) (fun _ _ _ h => h) (Or.inl ⟨by kernel_rfl, ?hybB0⟩) hS1 ?restbB0
                case hybB0 =>
                  intro w hSw
                  clear hSw
                  go_simp
                  first | done | with_reducible rfl
                (try simp only [List.getElem_toArray, List.getElem_cons_succ, List.getElem_cons_zero, Act.put, List.setIfInBounds_toArray, List.set_cons_zero, List.set_cons_succ])
                refine wpAnyU_take (i := 1) (v := ?vbB1) rfl (by kernel_rfl) (by kernel_rfl) (by kernel_rfl) (fun _ _ _ h => h) (Or.inl ⟨by kernel_rfl, ?hybB1⟩) hS1 ?restbB1
                case hybB1 =>
                  intro w hSw
                  clear hSw
                  go_simp
                  first | done | with_reducible rfl
                (try simp only [List.getElem_toArray, List.getElem_cons_succ, List.getElem_cons_zero, Act.put, List.setIfInBounds_toArray, List.set_cons_zero, List.set_cons_succ])
                refine wpAnyU_take (i := 2) (v := ?vbB2) rfl (by kernel_rfl) (by kernel_rfl) (by kernel_rfl) (fun _ _ _ h => h) (Or.inl ⟨by kernel_rfl, ?hybB2⟩) hS1 ?restbB2
                case hybB2 =>
                  intro w hSw
                  clear hSw
                  go_simp
                  first | done | with_reducible rfl
                (try simp only [List.getElem_toArray, List.getElem_cons_succ, List.getElem_cons_zero, Act.put, List.setIfInBounds_toArray, List.set_cons_zero, List.set_cons_succ])
                refine wpAnyU_take (i := 3) (v := ?vbB3) rfl (by kernel_rfl) (by kernel_rfl) (by kernel_rfl) (fun _ _ _ h => h) (Or.inl ⟨by kernel_rfl, ?hybB3⟩) hS1 ?restbB3
                case hybB3 =>
                  intro w hSw
                  clear hSw
                  go_simp
                  first | done | with_reducible rfl
                (try simp only [List.getElem_toArray, List.getElem_cons_succ, List.getElem_cons_zero, Act.put, List.setIfInBounds_toArray, List.set_cons_zero, List.set_cons_succ])
                refine wpAnyU_take (i := 4) (v := ?vbB4) rfl (by kernel_rfl) (by kernel_rfl) (by kernel_rfl) (fun _ _ _ h => h) (Or.inl ⟨by kernel_rfl, ?hybB4⟩) hS1 ?restbB4
                case hybB4 =>
                  intro w hSw
                  (try dsimp only at hSw)
                  go_simp
                  first | done | with_reducible rfl
                (try simp only [List.getElem_toArray, List.getElem_cons_succ, List.getElem_cons_zero, Act.put, List.setIfInBounds_toArray, List.set_cons_zero, List.set_cons_succ])
                refine wpAnyU_take (i := 5) (v := ?vbB5) rfl (by kernel_rfl) (by kernel_rfl) (by kernel_rfl) (fun _ _ _ h => h) (Or.inl ⟨by kernel_rfl, ?hybB5⟩) hS1 ?restbB5
                case hybB5 =>
                  intro w hSw
                  clear hSw
                  go_simp
                  first | done | with_reducible rfl
                (try simp only [List.getElem_toArray, List.getElem_cons_succ, List.getElem_cons_zero, Act.put, List.setIfInBounds_toArray, List.set_cons_zero, List.set_cons_succ])
                refine wpAnyU_take (i := 6) (v := ?vbB6) rfl (by kernel_rfl) (by kernel_rfl) (by kernel_rfl) (fun _ _ _ h => h) (Or.inl ⟨by kernel_rfl, ?hybB6⟩) hS1 ?restbB6
                case hybB6 =>
                  intro w hSw
                  clear hSw
                  go_simp
                  first | done | with_reducible rfl
                (try simp only [List.getElem_toArray, List.getElem_cons_succ, List.getElem_cons_zero, Act.put, List.setIfInBounds_toArray, List.set_cons_zero, List.set_cons_succ])
                refine wpAnyU_take (i := 7) (v := ?vbB7) rfl (by kernel_rfl) (by kernel_rfl) (by kernel_rfl) (fun _ _ _ h => h) (Or.inl ⟨by kernel_rfl, ?hybB7⟩) hS1 ?restbB7
                case hybB7 =>
                  intro w hSw
                  clear hSw
                  go_simp
                  first | done | with_reducible rfl
                (try simp only [List.getElem_toArray, List.getElem_cons_succ, List.getElem_cons_zero, Act.put, List.setIfInBounds_toArray, List.set_cons_zero, List.set_cons_succ])
                refine wpAnyU_take (i := 8) (v := ?vbB8) rfl (by kernel_rfl) (by kernel_rfl) (by kernel_rfl) (fun _ _ _ h => h) (Or.inl ⟨by kernel_rfl, ?hybB8⟩) hS1 ?restbB8
                case hybB8 =>
                  intro w hSw
                  (try dsimp only at hSw)
                  go_simp
                  first | done | with_reducible rfl
                (try simp only [List.getElem_toArray, List.getElem_cons_succ, List.getElem_cons_zero, Act.put, List.setIfInBounds_toArray, List.set_cons_zero, List.set_cons_succ])
                have hP0 := HP.out.below HX.out (Below.refl _ _).drew
                have cZ0 := hP0.t.res.cell
                have fZ := hP0.t.res.frozen
                have hne := hP0.t.ne
                have HP0 := Lib.hid hP0
                clear hP0
                generalize w10.drew = v0 at *
                refine wpAnyU_call (i := 9) (by kernel_rfl) rfl (by kernel_rfl) fun K hK => ?_
                simp only [List.getElem_toArray, List.getElem_cons_succ, List.getElem_cons_zero]
                go_simp
                have hn9 := (((Near.refl (fun i => i = rb) v0).setCell (p := ⟨rb, 0, none⟩) rfl (.int .u32 0)).setCell (p := ⟨rb, 1, none⟩) rfl (.slice none 0 0)).setCell (p := ⟨rb, 2, none⟩) rfl (.slice none 0 0)
                have hB9 := ((HP0.out.t.res.set_ 0 (.int .u32 0)).set_ 1 (.slice none 0 0)).set_ 2 (.slice none 0 0)
                have hc9 := (HP0.out.t.d.box.apart hn9 (Ne.symm hne)).cell
                generalize ((v0.setCell ⟨rb, 0, none⟩ (.int .u32 0)).setCell ⟨rb, 1, none⟩ (.slice none 0 0)).setCell ⟨rb, 2, none⟩ (.slice none 0 0) = v1 at *
                clear cZ0 fZ
                refine hK.out _ _ (fun _ => hc9) ?_
                clear hK K
                (try simp only [List.getElem_toArray, List.getElem_cons_succ, List.getElem_cons_zero, Act.put, List.setIfInBounds_toArray, List.set_cons_zero, List.set_cons_succ])
                refine wpAnyU_take (i := 10) (v := ?vbB10) rfl (by kernel_rfl) (by kernel_rfl) (by kernel_rfl) (fun _ _ _ h => h) (Or.inl ⟨by kernel_rfl, ?hybB10⟩) hc9 ?restbB10
                case hybB10 =>
                  intro w hSw
                  clear hSw
                  go_simp
                  first | done | with_reducible rfl
                (try simp only [List.getElem_toArray, List.getElem_cons_succ, List.getElem_cons_zero, Act.put, List.setIfInBounds_toArray, List.set_cons_zero, List.set_cons_succ])
                refine wpAnyU_take (i := 11) (v := ?vbB11) rfl (by kernel_rfl) (by kernel_rfl) (by kernel_rfl) (fun _ _ _ h => h) (Or.inl ⟨by kernel_rfl, ?hybB11⟩) hc9 ?restbB11
                case hybB11 =>
                  intro w hSw
                  clear hSw
                  go_simp
                  first | done | with_reducible rfl
                (try simp only [List.getElem_toArray, List.getElem_cons_succ, List.getElem_cons_zero, Act.put, List.setIfInBounds_toArray, List.set_cons_zero, List.set_cons_succ])
                refine wpAnyU_done (by kernel_rfl) ?_ _
                have cZ : ∀ i, v1.cell? ⟨rb, i, none⟩ = (#[.int .u32 0, .slice none 0 0, .slice none 0 0] : Array Value)[i]? := hB9.cell
                clear hc9 hB9 hS1 cR
                go_wp2_with fail
                have hbl : Below w.heap.size w v1 := by
                  have h1 := HP0.out.t.bel
                  rw [← HXB.out] at h1
                  rw [HRb.out]
                  exact h1.trans (hn9.below (fun i hi => by omega) (by have := HP0.out.t.res.lt; omega))
                refine bodyPost_ret (v := .tuple #[.agg #[.int .u32 0, .slice none 0 0, .slice none 0 0], .int .i64 t8, .int .i64 145]) (by simp [results, Try.results14, go_sem, cZ]) rfl ⟨hbl, .inl ⟨t8, 145, HPc.out, HNe.out, rfl⟩⟩
              · have hd1 : decide ((t8 : Int) < (n : Int)) = false := decide_eq_false (by omega)
                have hd3 : decide (t8 < n) = false := decide_eq_false ht
                have hcc : configP x.b 0 = .ok (⟨y6, L.map Prod.fst, C⟩, t8) := by
                  rw [hconf]
                  have he : endsP x.b t8 = .ok ((), t8) := by unfold endsP; rw [if_pos (by rw [← HXb.out]; omega)]
                  simp only [runS]
                  rw [PR.bnd_ok he]
                  rfl
                have hpc : parseC b = .ok ⟨y6, L.map Prod.fst, C⟩ := by
                  unfold parseC
                  rw [if_neg (by omega), HXb.out, hcc]
                have HPc := Lib.hid hpc
                have HP1 := Lib.hid hP
                have cT := hP.box.cell
                have cZ0 := hP.t.res.cell
                have fZ := hP.t.res.frozen
                simp only [errS, plcS] at cR
                clear hP hpc hconf hbn ht cx
                go_wp2_with fail
                have hn9 := (((Near.refl (fun i => i = rb) wc).setCell (p := ⟨rb, 0, none⟩) rfl (.int .u32 y6)).setCell (p := ⟨rb, 1, none⟩) rfl (.slice A1 L.length c1)).setCell (p := ⟨rb, 2, none⟩) rfl (.slice A2 C.length c2)
                have hB9 := ((HP1.out.t.res.set_ 0 (.int .u32 y6)).set_ 1 (.slice A1 L.length c1)).set_ 2 (.slice A2 C.length c2)
                generalize ((wc.setCell ⟨rb, 0, none⟩ (.int .u32 y6)).setCell ⟨rb, 1, none⟩ (.slice A1 L.length c1)).setCell ⟨rb, 2, none⟩ (.slice A2 C.length c2) = v1 at *
                have cZ : ∀ i, v1.cell? ⟨rb, i, none⟩ = (#[.int .u32 y6, .slice A1 L.length c1, .slice A2 C.length c2] : Array Value)[i]? := hB9.cell
                have hbl : Below w.heap.size w v1 := by
                  have h1 := HP1.out.t.bel
                  rw [← HXB.out] at h1
                  rw [HRb.out]
                  exact h1.trans (hn9.below (fun i hi => by omega) (by have := HP1.out.t.res.lt; omega))
                have hcf := HP1.out.conf ⟨b6, k6⟩ HOk.out hn9
                refine bodyPost_ret (v := .tuple #[.agg #[.int .u32 y6, .slice A1 L.length c1, .slice A2 C.length c2], .int .i64 0, .int .i64 0]) (by simp [results, Try.results14, go_sem, cZ]) rfl ⟨hbl, .inr ⟨⟨y6, L.map Prod.fst, C⟩, L, A1, c1, A2, c2, HPc.out, rfl, rfl, hcf⟩⟩
end Go.Proofs.Ytmhbpfclfffgkaa
