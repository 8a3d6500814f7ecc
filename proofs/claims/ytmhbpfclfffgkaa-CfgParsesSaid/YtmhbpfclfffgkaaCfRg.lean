/- Chapter 14: the document's reader: a guest, its head; walked. -/
import Derived.Test.YtmhbpfclfffgkaaCfRn
import Derived.Test.YtmhbpfclfffgkaaCfZ
import Derived.Test.YtmhbpfclfffgkaaCfDk
import Derived.Test.YtmhbpfclfffgkaaRegU
import Derived.Deep.CutRange
import Derived.Deep.CutBlock
namespace Go.Proofs.Ytmhbpfclfffgkaa
set_option linter.unusedVariables false
set_option linter.unusedSimpArgs false
open Go.RowKit Go.Sort

def pp (x : RIn) : Prs := ⟨x.g, x.A, x.n, x.c⟩
/-- The four rows of a guest, the call's own. -/
structure Rows4 (B : Nat) (R : Gs × Gp) (w : World) : Prop where
  rW : w.ownsRow B 135 4 (.slice R.2.AW R.1.ws.length R.2.cW) R.1.ws.length (R.1.ws.flatMap encWn)
  rD : w.ownsRow B 137 3 (.slice R.2.AD R.1.ds.length R.2.cD) R.1.ds.length (R.1.ds.flatMap encDv)
  rI : w.ownsRow B 139 3 (.slice R.2.AI R.1.qs.length R.2.cI) R.1.qs.length (R.1.qs.flatMap encIq)
  rS : w.ownsRow B 24 1 (.slice R.2.AS R.1.ss.length R.2.cS) R.1.ss.length (R.1.ss.flatMap encU32)
theorem own_apart {w w' : World} {g B k n : Nat} {t e : TypeId} {v : Value} {xs : List Value} {cs : Array Value} (h : w.ownsRow B e k v n xs) (hB : Blk w g t cs) (hne : e ≠ t) (hn : Near (fun i => i = g) w w') : w'.ownsRow B e k v n xs :=
  own_same h fun j hj => hn.block j (own_lt h hj).2 (fun he => own_blk_ne h hB hne (by rw [hj, he]))
theorem own_far {w w' : World} {g B k n : Nat} {e : TypeId} {v : Value} {xs : List Value} (h : w.ownsRow B e k v n xs) (hg : g < B) (hn : Near (fun i => i = g) w w') : w'.ownsRow B e k v n xs :=
  own_same h fun j hj => hn.block j (own_lt h hj).2 (fun he => by have := (own_lt h hj).1; omega)
theorem own_grown {w w' : World} {B k n B2 k2 n2 : Nat} {e e2 : TypeId} {v v2 : Value} {xs xs2 : List Value} (h : w.ownsRow B e k v n xs) (h2 : w.ownsRow B2 e2 k2 v2 n2 xs2) (hne : e ≠ e2) (hg : w.grownBy w' v2.ownBlock) : w'.ownsRow B e k v n xs :=
  own_same h fun j hj => hg.block j (own_lt h hj).2 (fun he => own_rows_ne h h2 hne hj he.symm)
theorem Rows4.map {B : Nat} {R : Gs × Gp} {w w' : World} (h : Rows4 B R w) (H : ∀ {e k v n xs}, e ≠ 70 → w.ownsRow B e k v n xs → w'.ownsRow B e k v n xs) : Rows4 B R w' :=
  ⟨H (by decide) h.rW, H (by decide) h.rD, H (by decide) h.rI, H (by decide) h.rS⟩
/-- The reader on its way, a guest's box and its result's beside it. -/
structure RG (x : RIn) (rb tb : Nat) (R : Gs × Gp) (s : RS) (t : Nat) (w0 w : World) : Prop where
  d : RD x s t w
  box : Blk w tb 70 (gcells R).toArray
  res : Blk w rb 70 Try.zeroCells70
  near : Near (fun i => i = x.g) w0 w
  tl : w0.heap.size ≤ tb
  rl : w0.heap.size ≤ rb
  rt : rb ≠ tb
  gl : x.g < w0.heap.size
  rows : Rows4 w0.heap.size R w
section
variable {x : RIn} {rb tb : Nat} {R R' : Gs × Gp} {s s' : RS} {t t' : Nat} {w0 w w' : World}
theorem RG.ne (h : RG x rb tb R s t w0 w) : tb ≠ x.g ∧ rb ≠ x.g ∧ tb < w.heap.size ∧ rb < w.heap.size := ⟨by have := h.tl; have := h.gl; omega, by have := h.rl; have := h.gl; omega, h.box.lt, h.res.lt⟩
theorem RG.call (h : RG x rb tb R s t w0 w) (hn : Near (fun i => i = x.g) w w') (hd : RD x s' t' w') : RG x rb tb R s' t' w0 w' :=
  ⟨hd, h.box.apart hn h.ne.1, h.res.apart hn h.ne.2.1, h.near.trans hn, h.tl, h.rl, h.rt, h.gl, h.rows.map fun _ ho => own_far ho h.gl hn⟩
theorem RG.below (h : RG x rb tb R s t w0 w) (hx : ROk x) (hb : Below w.heap.size w w') : RG x rb tb R s t w0 w' :=
  ⟨h.d.below hx hb, h.box.kept hb, h.res.kept hb, h.near.trans (Near.of_below _ hb), h.tl, h.rl, h.rt, h.gl, h.rows.map fun _ ho => own_kept ho hb⟩
/-- The box is written. -/
theorem RG.turn (h : RG x rb tb R s t w0 w) (hx : ROk x) (hn : Near (fun i => i = tb) w w') (hT : Blk w' tb 70 (gcells R').toArray) (hr : Rows4 w0.heap.size R' w) : RG x rb tb R' s t w0 w' :=
  ⟨h.d.near hx hn (fun i hi => by have := h.tl; have := h.gl; omega), hT, h.res.apart hn h.rt, h.near.step hn (fun i hi => .inr (by have := h.tl; omega)), h.tl, h.rl, h.rt, h.gl, hr.map fun hne ho => own_apart ho h.box hne hn⟩
theorem RG.set (h : RG x rb tb R s t w0 w) (hx : ROk x) (j : Nat) (v : Value) (he : (gcells R).toArray.setIfInBounds j v = (gcells R').toArray) (hr : Rows4 w0.heap.size R' w) : RG x rb tb R' s t w0 (w.setCell ⟨tb, j, none⟩ v) :=
  h.turn hx ((Near.refl (fun i => i = tb) w).setCell (p := ⟨tb, j, none⟩) rfl v) (by rw [← he]; exact h.box.set_ j v) hr
/-- A row grows: what stays. -/
theorem RG.grown {k2 n2 : Nat} {e2 : TypeId} {v2 : Value} {xs2 : List Value} (h : RG x rb tb R s t w0 w) (hx : ROk x) (h2 : w.ownsRow w0.heap.size e2 k2 v2 n2 xs2) (hr : 70 ≠ e2) (hd : 60 ≠ e2) (hg : w.grownBy w' v2.ownBlock) :
    RD x s t w' ∧ Blk w' tb 70 (gcells R).toArray ∧ Blk w' rb 70 Try.zeroCells70 ∧ Near (fun i => i = x.g) w0 w' := by
  have hk : ∀ g t cs, Blk w g t cs → t ≠ e2 → Blk w' g t cs := fun g t cs hB hne => hB.same (hg.block g hB.lt (fun he => own_blk_ne h2 hB hne.symm he))
  have hn : Near (fun i => i = x.g) w0 w' := h.near.step (S2 := fun i => w0.heap.size ≤ i) ⟨hg.os, hg.tape, hg.output, hg.size, fun i hi hs => hg.block i hi (fun he => hs (own_lt h2 he.symm).1)⟩ (fun i hi => .inr hi)
  have hb : Below x.B w w' := ⟨hg.os, hg.tape, hg.output, hg.size, fun i hi => hg.block i (by have := h.gl; have := h.near.size; have := hx.gB; omega) (fun he => by have := (own_lt h2 he.symm).1; have := h.gl; have := hx.gB; omega)⟩
  exact ⟨⟨hk _ _ _ h.d.box hd, h.d.r.below hb, h.d.le, h.d.at_, h.d.ne⟩, hk _ _ _ h.box hr, hk _ _ _ h.res hr, hn⟩
theorem RG.push (h : RG x rb tb R s t w0 w) (hx : ROk x) {w1 : World} (hd : RD x s t w1) (hT : Blk w1 tb 70 (gcells R).toArray) (hZ : Blk w1 rb 70 Try.zeroCells70) (hn : Near (fun i => i = x.g) w0 w1) (hr : Rows4 w0.heap.size R' w1) (j : Nat) (v : Value) (he : (gcells R).toArray.setIfInBounds j v = (gcells R').toArray) : RG x rb tb R' s t w0 (w1.setCell ⟨tb, j, none⟩ v) := by
  have hnn := (Near.refl (fun i => i = tb) w1).setCell (p := ⟨tb, j, none⟩) rfl v
  exact ⟨hd.near hx hnn (fun i hi => by have := h.tl; have := h.gl; omega), by rw [← he]; exact hT.set_ j v, hZ.apart hnn h.rt, hn.step hnn (fun i hi => .inr (by have := h.tl; omega)), h.tl, h.rl, h.rt, h.gl, hr.map fun hne ho => own_apart ho hT hne hnn⟩
theorem RG.far (h : RG x rb tb R s t w0 w) (hx : ROk x) {q : Nat} {T : TypeId} {cs : Array Value} (hq : Blk w q T cs) (hq0 : w0.heap.size ≤ q) (hne : tb ≠ q) (hne2 : rb ≠ q) (h1 : 135 ≠ T) (h2 : 137 ≠ T) (h3 : 139 ≠ T) (h4 : 24 ≠ T) (hn : Near (fun i => i = q) w w') : RG x rb tb R s t w0 w' :=
  ⟨h.d.near hx hn (fun i hi => by have := h.gl; omega), h.box.apart hn hne, h.res.apart hn hne2, h.near.step hn (fun i hi => .inr (by omega)), h.tl, h.rl, h.rt, h.gl, ⟨own_apart h.rows.rW hq h1 hn, own_apart h.rows.rD hq h2 hn, own_apart h.rows.rI hq h3 hn, own_apart h.rows.rS hq h4 hn⟩⟩
end
/-- The four counts, one behind the other. -/
def mostL : List Int := [16, 16, 64, 32]
def cntP : Nat → PR (List Int)
  | 0 => .ret []
  | k + 1 => .bnd (cntP k) fun l => .bnd hereP fun at_ => .bnd (halfP (mostL.getD k 0) 142) fun n => .bnd (mustP (decide (k ≠ 0) || decide (0 < n)) at_ 142) fun _ => .ret (l ++ [n])
theorem cnt_eq : cntP 4 = PR.bnd countsP fun c => PR.ret [c.1, c.2.1, c.2.2.1, c.2.2.2] := by
  funext b a
  simp only [cntP, countsP, PR.bnd, hereP, PR.ret, mustP, mostL, List.getD_cons_zero, List.getD_cons_succ]
  rcases halfP 16 142 b a with e | ⟨n0, a0⟩
  · rfl
  by_cases h0 : 0 < n0
  · simp only [h0, decide_true, Bool.or_true, if_true, List.nil_append]
    rcases halfP 16 142 b a0 with e | ⟨n1, a1⟩
    · rfl
    simp only [ne_eq, Nat.succ_ne_zero, not_false_eq_true, decide_true, Bool.true_or, if_true]
    rcases halfP 64 142 b a1 with e | ⟨n2, a2⟩
    · rfl
    simp only [ne_eq, Nat.succ_ne_zero, not_false_eq_true, decide_true, Bool.true_or, if_true]
    rcases halfP 32 142 b a2 with e | ⟨n3, a3⟩
    · rfl
    rfl
  · simp [h0]
theorem Step.counts {b : List Int} {s s' : RS} {n0 n1 n2 n3 : Int} (h : Step (cntP 4) b s [n0, n1, n2, n3] s') : Step countsP b s (n0, n1, n2, n3) s' := ⟨fun β f => by
  have := h.eq β fun l => f (l.getD 0 0, l.getD 1 0, l.getD 2 0, l.getD 3 0)
  rw [cnt_eq, PR.assoc] at this
  exact this⟩
def cntA (l : List Int) : Array Value := #[.int .i64 (l.getD 0 0), .int .i64 (l.getD 1 0), .int .i64 (l.getD 2 0), .int .i64 (l.getD 3 0)]
/-- A guest that is answered. -/
def GuestV (p : Prs) (y : Gs) (v : Value) (w : World) : Prop := ∃ R : Gs × Gp, R.1 = y ∧ v = .agg (gcells R).toArray ∧ GOwn p R w
theorem rwide_any : RCall 32 (fun x => #[.pointer (some ⟨x.g, 0, none⟩)]) wideP (fun x y v w => v = .int .u64 y ∧ 0 ≤ y ∧ y < 256 ^ 8) := by
  intro x s t w hx hD
  have H := Lib.hid (rnumber_any 8 18446744073709551615 144 (by decide) (by decide) (by decide) x s t w hx hD)
  clear hx hD
  go_enter Try.func32, Try.ntmps32
  go_wp2_with (go_at_call 29; refine H.out.mono ?_; rintro e1 w1 ⟨hn1, y, v, s1, t1, rfl, ⟨rfl, hy⟩, hD1, hS1⟩)
  go_ret
  exact ⟨hn1, y, _, s1, t1, rfl, ⟨rfl, hy⟩, hD1, hS1⟩
theorem pw4 : (256 : Int) ^ 4 = 4294967296 := by decide
theorem pw8 : (256 : Int) ^ 8 = 18446744073709551616 := by decide
theorem pw2 : (256 : Int) ^ 2 = 65536 := by decide
/-- What is read of a guest ahead of its rows. -/
def headR (nm : List Int) (m : Bool) (o l c e d : Int) (k : List Int) : Gs × Gp := (⟨strOfNums nm, m, o, l, c, e, d, k, [], [], [], []⟩, ⟨none, 0, none, 0, none, 0, none, 0⟩)
theorem Rows4.none {B : Nat} {R : Gs × Gp} {w : World} (h1 : R.1.ws = []) (h2 : R.1.ds = []) (h3 : R.1.qs = []) (h4 : R.1.ss = []) (hp : R.2 = ⟨Option.none, 0, Option.none, 0, Option.none, 0, Option.none, 0⟩) : Rows4 B R w := by
  constructor
  · rw [h1, hp]; exact World.ownsRow_nil _ _ _ _
  · rw [h2, hp]; exact World.ownsRow_nil _ _ _ _
  · rw [h3, hp]; exact World.ownsRow_nil _ _ _ _
  · rw [h4, hp]; exact World.ownsRow_nil _ _ _ _
/-- A guest with other rows. -/
def gR (h : Gs × Gp) (ws : List Wn) (ds : List Dv) (qs : List Iq) (ss : List Int) (P : Gp) : Gs × Gp := (⟨h.1.nm, h.1.mand, h.1.off, h.1.len, h.1.cpus, h.1.entry, h.1.dtb, h.1.key, ws, ds, qs, ss⟩, P)
set_option maxRecDepth 100000 in
set_option maxHeartbeats 8000000 in
theorem rguestP_any : RCall 31 (fun x => #[.pointer (some ⟨x.g, 0, none⟩)]) guestP (fun x => GuestV (pp x)) := by
  intro x s0 t0 w hx hD
  have HX := Lib.hid hx
  have hgl := hD.box.lt
  have HD0 := Lib.hid hD
  have hk0 : (List.replicate 68 (0 : Int)).length = 68 := by decide
  clear hx hD
  go_enter Try.func31, Try.ntmps31
  go_upto_region 1 with (fail)
  have hZ := Blk.new w 70 Try.zeroCells70
  have hbZ := bal (Below.refl w.heap.size w) (.cells Try.zeroCells70 70)
  have hD := HD0.out.below HX.out hbZ
  have hz1 : w.heap.size + 1 ≤ (w.alloc (.cells Try.zeroCells70 70)).heap.size := by simp
  have hnZ := Near.of_below (fun i => i = x.g) hbZ
  have hzs : Try.zeroCells70.size = 79 := by kernel_rfl
  generalize w.alloc (.cells Try.zeroCells70 70) = w1 at *
  obtain ⟨rb, hrb⟩ : ∃ rb, w.heap.size = rb := ⟨_, rfl⟩
  have hrl : w.heap.size ≤ rb := by omega
  rw [hrb] at hZ hz1 ⊢
  have H := Lib.hid (rnameP_any x _ _ _ HX.out hD)
  have HZ := Lib.hid gzero
  clear hbZ hD
  go_upto_region 2 with (first
    | (go_at_call 70; refine H.out.mono ?_; rintro e1 w2 ⟨hn1, x1, v, s1, t1, rfl, ⟨rfl, hnm, hbx⟩, hD, S1⟩; have hT := Blk.new w2 70 Try.zeroCells70)
    | (refine wpList_store_blk rfl 70 (.tmp 3) (.tmp 17) rfl w2.heap.size 0 (Try.zeroCells70.setIfInBounds 0 (.string (strOfNums x1))) (by rfl) (by rfl) hT (by rw [Array.size_setIfInBounds]; omega) (by rw [Array.size_setIfInBounds, hzs]; kernel_rfl) (by rw [HZ.out]; exact gcells_one _) (setAt_all _ _ (by simp)) ?_; intro w3 hT3 hb3 hz3 hh3))
  have hbT := bal (Below.refl w2.heap.size w2) (.cells Try.zeroCells70 70)
  have hz2 := hn1.size
  have hZ := (hZ.apart hn1 (by have := hgl; omega)).kept hbT
  have hD := hD.below HX.out hbT
  have hnT := (hnZ.trans hn1).trans (Near.of_below _ hbT)
  obtain ⟨tb, htb⟩ : ∃ tb, w2.heap.size = tb := ⟨_, rfl⟩
  have htl : w.heap.size ≤ tb := by omega
  have hrt : rb ≠ tb := by omega
  rw [htb] at hT3 hb3 hh3 ⊢
  have hn3 := near_only (hb3 _ (Nat.le_refl _)) hz3 hh3
  have hG : RG x rb tb (headR x1 false 0 0 0 0 0 (List.replicate 68 0)) s1 t1 w w3 := by
    refine ⟨hD.near HX.out hn3 (fun i hi => by omega), ?_, hZ.apart hn3 hrt, hnT.step hn3 (fun i hi => .inr (by omega)), htl, hrl, hrt, hgl, Rows4.none rfl rfl rfl rfl rfl⟩
    unfold headR
    rw [← HZ.out]
    have := hT3
    rwa [Array.toArray_toList] at this
  have HT1 := Lib.hid S1
  have HNm := Lib.hid (And.intro hnm hbx)
  clear hrb htb hz1 hz2 hn1 H hT3 hb3 hz3 hh3 hn3 hnT hD hZ hbT hnZ hT htl hrl hrt HZ hzs S1 hnm hbx
  have H := Lib.hid ((rnumber_any 4 1 144 (by decide) (by decide) (by decide)) x _ _ _ HX.out hG.d)
  go_upto_region 3 with (go_at_call 29; refine H.out.mono ?_; rintro e1 w2 ⟨hn1, x2, v, s2, t2, rfl, ⟨rfl, y2⟩, hD, S2⟩; have hG := hG.call hn1 hD; have cT := (gst_cells hG.box hk0).c1; have fT := hG.box.frozen; clear hn1 hD; skip)
  have hG := hG.set (R' := (headR x1 (x2 == 1) 0 0 0 0 0 (List.replicate 68 0))) HX.out 1 (.bool (x2 == 1)) (gset1 _ _ _ _ _ _ _ _ _ _ _ _ _ _) (Rows4.none rfl rfl rfl rfl rfl)
  have Y2 := Lib.hid y2
  have T2 := Lib.hid S2
  clear cT fT H y2 S2
  skip
  generalize World.setCell w2 ⟨tb, 1, none⟩ (.bool (x2 == 1)) = w3 at *
  have H := Lib.hid ((rnumber_any 4 4294967295 144 (by decide) (by decide) (by decide)) x _ _ _ HX.out hG.d)
  go_upto_region 4 with (go_at_call 29; refine H.out.mono ?_; rintro e1 w2 ⟨hn1, x3, v, s3, t3, rfl, ⟨rfl, y3⟩, hD, S3⟩; have hG := hG.call hn1 hD; have cT := (gst_cells hG.box hk0).c2; have fT := hG.box.frozen; clear hn1 hD; have h32 : x3 % 4294967296 = x3 := Int.emod_eq_of_lt y3.1 (by have h2 := y3.2; rw [pw4] at h2; exact h2))
  have hG := hG.set (R' := (headR x1 (x2 == 1) x3 0 0 0 0 (List.replicate 68 0))) HX.out 2 (.int .u32 x3) (gset2 _ _ _ _ _ _ _ _ _ _ _ _ _ _) (Rows4.none rfl rfl rfl rfl rfl)
  have Y3 := Lib.hid y3
  have T3 := Lib.hid S3
  clear cT fT H y3 S3
  clear h32
  generalize World.setCell w2 ⟨tb, 2, none⟩ (.int .u32 x3) = w3 at *
  have H := Lib.hid ((rnumber_any 4 4294967295 144 (by decide) (by decide) (by decide)) x _ _ _ HX.out hG.d)
  go_upto_region 5 with (go_at_call 29; refine H.out.mono ?_; rintro e1 w2 ⟨hn1, x4, v, s4, t4, rfl, ⟨rfl, y4⟩, hD, S4⟩; have hG := hG.call hn1 hD; have cT := (gst_cells hG.box hk0).c3; have fT := hG.box.frozen; clear hn1 hD; have h32 : x4 % 4294967296 = x4 := Int.emod_eq_of_lt y4.1 (by have h2 := y4.2; rw [pw4] at h2; exact h2))
  have hG := hG.set (R' := (headR x1 (x2 == 1) x3 x4 0 0 0 (List.replicate 68 0))) HX.out 3 (.int .u32 x4) (gset3 _ _ _ _ _ _ _ _ _ _ _ _ _ _) (Rows4.none rfl rfl rfl rfl rfl)
  have Y4 := Lib.hid y4
  have T4 := Lib.hid S4
  clear cT fT H y4 S4
  clear h32
  generalize World.setCell w2 ⟨tb, 3, none⟩ (.int .u32 x4) = w3 at *
  have H := Lib.hid ((rnumber_any 4 4294967295 144 (by decide) (by decide) (by decide)) x _ _ _ HX.out hG.d)
  go_upto_region 6 with (go_at_call 29; refine H.out.mono ?_; rintro e1 w2 ⟨hn1, x5, v, s5, t5, rfl, ⟨rfl, y5⟩, hD, S5⟩; have hG := hG.call hn1 hD; have cT := (gst_cells hG.box hk0).c4; have fT := hG.box.frozen; clear hn1 hD; have h32 : x5 % 4294967296 = x5 := Int.emod_eq_of_lt y5.1 (by have h2 := y5.2; rw [pw4] at h2; exact h2))
  have hG := hG.set (R' := (headR x1 (x2 == 1) x3 x4 x5 0 0 (List.replicate 68 0))) HX.out 4 (.int .u32 x5) (gset4 _ _ _ _ _ _ _ _ _ _ _ _ _ _) (Rows4.none rfl rfl rfl rfl rfl)
  have Y5 := Lib.hid y5
  have T5 := Lib.hid S5
  clear cT fT H y5 S5
  clear h32
  generalize World.setCell w2 ⟨tb, 4, none⟩ (.int .u32 x5) = w3 at *
  have H := Lib.hid (rwide_any x _ _ _ HX.out hG.d)
  go_upto_region 7 with (go_at_call 32; refine H.out.mono ?_; rintro e1 w2 ⟨hn1, x6, v, s6, t6, rfl, ⟨rfl, y6⟩, hD, S6⟩; have hG := hG.call hn1 hD; have cT := (gst_cells hG.box hk0).c5; have fT := hG.box.frozen; clear hn1 hD; skip)
  have hG := hG.set (R' := (headR x1 (x2 == 1) x3 x4 x5 x6 0 (List.replicate 68 0))) HX.out 5 (.int .u64 x6) (gset5 _ _ _ _ _ _ _ _ _ _ _ _ _ _) (Rows4.none rfl rfl rfl rfl rfl)
  have Y6 := Lib.hid y6
  have T6 := Lib.hid S6
  clear cT fT H y6 S6
  skip
  generalize World.setCell w2 ⟨tb, 5, none⟩ (.int .u64 x6) = w3 at *
  have H := Lib.hid (rwide_any x _ _ _ HX.out hG.d)
  go_upto_region 8 with (go_at_call 32; refine H.out.mono ?_; rintro e1 w2 ⟨hn1, x7, v, s7, t7, rfl, ⟨rfl, y7⟩, hD, S7⟩; have hG := hG.call hn1 hD; have cT := (gst_cells hG.box hk0).c6; have fT := hG.box.frozen; clear hn1 hD; skip)
  have hG := hG.set (R' := (headR x1 (x2 == 1) x3 x4 x5 x6 x7 (List.replicate 68 0))) HX.out 6 (.int .u64 x7) (gset6 _ _ _ _ _ _ _ _ _ _ _ _ _ _) (Rows4.none rfl rfl rfl rfl rfl)
  have Y7 := Lib.hid y7
  have T7 := Lib.hid S7
  clear cT fT H y7 S7
  skip
  generalize World.setCell w2 ⟨tb, 6, none⟩ (.int .u64 x7) = w3 at *
  have cB := hG.d.box.cell
  go_upto_region 9 with (fail)
  clear cB
  have HAt := Lib.hid (Step.here (b := x.b) hG.d.at_)
  have H := Lib.hid (rtake_any 68 (by decide) (by decide) x _ _ _ HX.out hG.d)
  have HAr := arrayAt_68
  go_upto_region 10 with (first
    | (go_at_call 69; refine H.out.mono ?_; rintro e1 w4 ⟨hn1, k, v, s8, t8, rfl, ⟨bk, ok, ck, rfl, hbg, hbl, hck, hcm, hkl, hkb, hRk⟩, hD, S8⟩; have hG := hG.call hn1 hD; have hT := hG.box; have hik : (Try.prog.info? 64).map (·.size) = some (k.flatMap encB).length := (by rw [flatB_len, hkl]; kernel_rfl))
    | (refine wpList_load_mid rfl 64 (.tmp 46) rfl bk ok (by rfl) (k.flatMap encB) _ hRk Try.underlying64 rfl hik ?_)
    | (refine wpList_store_blk rfl 64 (.tmp 48) (.tmp 47) rfl tb 7 (k.flatMap encB).toArray (by rfl) (by rfl) hT (by rw [List.size_toArray, List.size_toArray, flatB_len, hkl, gcells_len hk0]; decide) (by rw [List.size_toArray]; exact hik) (by rw [List.all_toArray, List.all_eq_true]; exact one_b k) (gsetK _ _ _ _ _ _ _ _ _ _ _ _ _ _ (by rw [hkl]; exact hk0.symm)) ?_; intro w5 hT5 hb5 hz5 hh5))
  have hn5 := near_only (hb5 _ (Nat.le_refl _)) hz5 hh5
  have hG := hG.turn (R' := headR x1 (x2 == 1) x3 x4 x5 x6 x7 k) HX.out hn5 hT5 (Rows4.none rfl rfl rfl rfl rfl)
  have HS8 := Lib.hid S8
  have HKl := Lib.hid (And.intro hkl hkb)
  have hkl2 := hkl
  clear hT5 hb5 hz5 hh5 hn5 hn1 H HAr hRk hck hcm hbg hbl hT hD S8 hik hk0
  -- the key
  obtain ⟨ky, hky⟩ : ∃ b, keyB k = b := ⟨_, rfl⟩
  obtain ⟨kv, hkv⟩ : ∃ x : Int, (if keyB k then 0 else 80) = x := ⟨_, rfl⟩
  have hk0 : (kv != 0) = !ky := by rw [← hkv, hky]; cases ky <;> rfl
  have HKy := Lib.hid (rkeyOf_any tb 7 68 k w5 hkl hkb (Nat.le_refl _) (by decide) ⟨by rw [flatB_len, hkl], fun _ => ⟨tb, 7, rfl, hG.box.lt, (gst_cells hG.box hkl).key⟩⟩)
  rw [hkv] at HKy
  have HKe := Lib.hid hky
  have hz65 : Try.zeroCells129.size = 65 := by kernel_rfl
  clear hky hkv hkl hkb
  go_upto_region 11 with (first
    | (go_at_call 71; refine HKy.out.mono ?_; rintro r1 w8 ⟨Kc, hKl, hK1, rfl, hb8⟩; have hZ := Blk.new w8 129 Try.zeroCells129; have hbZ := bal (Below.refl w8.heap.size w8) (.cells Try.zeroCells129 129))
    | (refine wpList_store_blk rfl 129 (.tmp 5) (.tmp 53) rfl w8.heap.size 0 Kc.toArray (by rfl) (by rfl) hZ (by rw [List.size_toArray, hKl, hz65]; decide) (by rw [List.size_toArray, hKl]; kernel_rfl) (by rw [List.all_toArray]; exact List.all_eq_true.2 hK1) (setAt_all _ _ (by rw [hz65]; exact hKl)) ?_; intro w9 hX9 hb9 hz9 hh9))
  have hG := hG.below HX.out (hb8.trans ((hbZ.trans (hb9 _ (Nat.le_refl _))).mono hb8.size))
  clear HKy hz65 hKl hK1 hb8 hZ hbZ hX9 hb9 hz9 hh9
  have HF := Lib.hid (rfail_any x _ _ _ HX.out hG.d 144 t7 (by decide))
  have HG := Lib.hid hG
  go_upto_if 56 with (fail)
  go_cut [] from 57 to 59 (fun wx => RG x rb tb (headR x1 (x2 == 1) x3 x4 x5 x6 x7 k) (keepS ky s8 (t7, 144)) t8 w wx)
  case first =>
    cases ky
    · rw [show (!false) = true from rfl] at hk0
      go_wp2_with (go_at_call 30; refine HF.out.mono ?_; rintro e1 w10 ⟨rfl, hD10, hn10⟩)
      go_meet
      exact HG.out.call hn10 hD10
    · rw [show (!true) = false from rfl] at hk0
      go_wp2_with fail
      go_meet
      exact HG.out
  case rest =>
    clear hG HG HF hk0
    have hG := hcut
    have hcut0 := hcut.near.size
    have hcut1 := hcut.ne
    clear hcut
    obtain ⟨s9, hs9⟩ : ∃ y, keepS ky s8 (t7, 144) = y := ⟨_, rfl⟩
    rw [hs9] at hG
    have HS9 : Hid (Step keyP x.b s7 k s9) := Lib.hid (by
      rw [← hs9, ← HKe.out]
      exact HAt.out.bnd (HS8.out.bnd ((Step.must _ _ _ _ _).bnd (Step.ret _ _ _))))
    clear hs9 HS8 HKe HAt
    have hgc : x.g < wc.heap.size := hG.d.box.lt
    have hbN := bal (Below.refl wc.heap.size wc) (.cells #[.int .i64 0, .int .i64 0, .int .i64 0, .int .i64 0] 132)
    have hN := Blk.new wc 132 #[.int .i64 0, .int .i64 0, .int .i64 0, .int .i64 0]
    have hG := hG.below HX.out hbN
    obtain ⟨nb, hnb⟩ : ∃ b, wc.heap.size = b := ⟨_, rfl⟩
    have hzN : (wc.alloc (.cells #[.int .i64 0, .int .i64 0, .int .i64 0, .int .i64 0] 132)).heap.size = nb + 1 := by simp [hnb]
    have hnw : w.heap.size ≤ nb := by rw [← hnb]; exact hcut0
    have hnt : tb ≠ nb ∧ rb ≠ nb := by have := hcut1; omega
    rw [hnb] at hN
    go_upto_region 14 with (fail)
    (try rw [hnb])
    generalize wc.alloc (.cells #[.int .i64 0, .int .i64 0, .int .i64 0, .int .i64 0] 132) = wd at *
    have hbM := bal (Below.refl wd.heap.size wd) (.cells #[.int .u64 16, .int .u64 16, .int .u64 64, .int .u64 32] 133)
    have hM := Blk.new wd 133 #[.int .u64 16, .int .u64 16, .int .u64 64, .int .u64 32]
    have hG := hG.below HX.out hbM
    have hN := hN.kept hbM
    rw [hzN] at hM
    obtain ⟨mb, hmb⟩ : ∃ b, nb + 1 = b := ⟨_, rfl⟩
    go_upto_region 15 with (fail)
    (try rw [hzN])
    rw [hmb] at hM
    (try rw [hmb])
    have hnm : nb ≠ mb ∧ mb ≠ x.g ∧ nb ≠ x.g := by omega
    have HG := Lib.hid hG
    have HN := Lib.hid hN
    have HM := Lib.hid hM
    generalize wd.alloc (.cells #[.int .u64 16, .int .u64 16, .int .u64 64, .int .u64 32] 133) = we at *
    clear hbN hbM hmb hzN hnb hcut0 hcut1 hgc hG hN hM
    go_wp2_with fail
    go_loopw [9, 10, 61] (fun _ _ iv wr => ∃ (l : List Int) (s : RS) (t : Nat), l.length ≤ 4 ∧ iv = .int .i64 l.length ∧ Hid (RG x rb tb (headR x1 (x2 == 1) x3 x4 x5 x6 x7 k) s t w wr ∧ Blk wr nb 132 (cntA l) ∧ Blk wr mb 133 #[.int .u64 16, .int .u64 16, .int .u64 64, .int .u64 32] ∧ Step (cntP l.length) x.b s9 l s ∧ (∀ y ∈ l, 0 ≤ y ∧ y < 65536))) (fun _ _ iv _ => 4 - (intOf iv).toNat)
    case atStart => exact ⟨[], s9, _, by decide, rfl, Lib.hid ⟨HG.out, HN.out, HM.out, Step.ret _ _ _, fun y hy => by cases hy⟩⟩
    case round =>
      obtain ⟨l, s, t, hl4, rfl, hh⟩ := hrel
      obtain ⟨hG, hN, hM, hS, hok⟩ := hh.out
      clear hh
      have HS := Lib.hid hS
      have HOk := Lib.hid hok
      have cB := hG.d.box.cell
      clear hS hok
      rcases l with _ | ⟨n0, _ | ⟨n1, _ | ⟨n2, _ | ⟨n3, _ | ⟨n4, l⟩⟩⟩⟩⟩
      · have cM := hM.cell 0
        have H := Lib.hid (rnumber_any 2 16 142 (by decide) (by decide) (by decide) x _ _ _ HX.out hG.d)
        have HAt := Lib.hid (Step.here (b := x.b) hG.d.at_)
        go_upto_region 20 with (go_at_call 29; refine H.out.mono ?_; rintro e1 w2 ⟨hn1, y, v, sa, ta, rfl, ⟨rfl, hy0, hy1⟩, hD, SA⟩; have hG := hG.call hn1 hD; have hN := hN.apart hn1 hnm.2.2; have hM := hM.apart hn1 hnm.2.1; have cN := hN.cell; have fN := hN.frozen; rw [pw2] at hy1; clear cM)
        have hnN := (Near.refl (fun i => i = nb) w2).setCell (p := ⟨nb, 0, none⟩) rfl (.int .i64 y)
        have hG := hG.far HX.out hN hnw hnt.1 hnt.2 (by decide) (by decide) (by decide) (by decide) hnN
        have hM := hM.apart hnN (Ne.symm hnm.1)
        have hN := hN.set_ 0 (.int .i64 y)
        rw [show (cntA []).setIfInBounds 0 (.int .i64 y) = cntA [y] from rfl] at hN
        have HOk2 := Lib.hid (show ∀ z ∈ [y], 0 ≤ z ∧ z < 65536 from fun z hz => by
          have h1 := HOk.out z
          simp only [List.mem_cons, List.not_mem_nil, or_false] at hz h1
          omega)
        have HSA := Lib.hid SA
        clear cN fN hnN H hn1 hD SA cB
        generalize World.setCell w2 ⟨nb, 0, none⟩ (.int .i64 y) = w3 at *
        by_cases hy : y = 0
        · have hd : (y == 0) = true := by simp [hy]
          have HF := Lib.hid (rfail_any x _ _ _ HX.out hG.d 142 t (by decide))
          have cN : w3.cell? ⟨nb, 0, none⟩ = some (.int .i64 y) := hN.cell 0
          have HY := Lib.hid (show decide (0 < y) = false from decide_eq_false (by omega))
          clear hy
          go_wp2_with (go_at_call 30; refine HF.out.mono ?_; rintro e1 w4 ⟨rfl, hDf, hnf⟩; have hG := hG.call hnf hDf; have hN := hN.apart hnf hnm.2.2; have hM := hM.apart hnf hnm.2.1)
          go_roundw
          case rel => exact ⟨[y], _, _, by simp, by go_num, Lib.hid ⟨hG, hN, hM, HS.out.bnd (HAt.out.bnd (HSA.out.bnd (Step.bnd (Step.must_no (by rw [HY.out]; rfl) _ _ _ _) (Step.ret _ _ _)))), HOk2.out⟩⟩
          case measure => simp [intOf]
        · have hd : (y == 0) = false := by simp [hy]
          have cN : w3.cell? ⟨nb, 0, none⟩ = some (.int .i64 y) := hN.cell 0
          have HY := Lib.hid (show decide (0 < y) = true from decide_eq_true (by omega))
          clear hy
          go_wp2_with fail
          go_roundw
          case rel => exact ⟨[y], _, _, by simp, by go_num, Lib.hid ⟨hG, hN, hM, HS.out.bnd (HAt.out.bnd (HSA.out.bnd (Step.bnd (Step.must_yes (by rw [HY.out]; rfl) _ _ _ _) (Step.ret _ _ _)))), HOk2.out⟩⟩
          case measure => simp [intOf]
      · have cM := hM.cell 1
        have H := Lib.hid (rnumber_any 2 16 142 (by decide) (by decide) (by decide) x _ _ _ HX.out hG.d)
        have HAt := Lib.hid (Step.here (b := x.b) hG.d.at_)
        go_upto_region 20 with (go_at_call 29; refine H.out.mono ?_; rintro e1 w2 ⟨hn1, y, v, sa, ta, rfl, ⟨rfl, hy0, hy1⟩, hD, SA⟩; have hG := hG.call hn1 hD; have hN := hN.apart hn1 hnm.2.2; have hM := hM.apart hn1 hnm.2.1; have cN := hN.cell; have fN := hN.frozen; rw [pw2] at hy1; clear cM)
        have hnN := (Near.refl (fun i => i = nb) w2).setCell (p := ⟨nb, 1, none⟩) rfl (.int .i64 y)
        have hG := hG.far HX.out hN hnw hnt.1 hnt.2 (by decide) (by decide) (by decide) (by decide) hnN
        have hM := hM.apart hnN (Ne.symm hnm.1)
        have hN := hN.set_ 1 (.int .i64 y)
        rw [show (cntA [n0]).setIfInBounds 1 (.int .i64 y) = cntA [n0, y] from rfl] at hN
        have HOk2 := Lib.hid (show ∀ z ∈ [n0, y], 0 ≤ z ∧ z < 65536 from fun z hz => by
          have h1 := HOk.out z
          simp only [List.mem_cons, List.not_mem_nil, or_false] at hz h1
          omega)
        have HSA := Lib.hid SA
        clear cN fN hnN H hn1 hD SA cB
        generalize World.setCell w2 ⟨nb, 1, none⟩ (.int .i64 y) = w3 at *
        go_wp2_with fail
        go_roundw
        case rel => exact ⟨[n0, y], sa, _, by simp, by go_num, Lib.hid ⟨hG, hN, hM, HS.out.bnd (HAt.out.bnd (HSA.out.bnd (Step.bnd (Step.must_yes (by rfl) _ _ _ _) (Step.ret _ _ _)))), HOk2.out⟩⟩
        case measure => simp [intOf]
      · have cM := hM.cell 2
        have H := Lib.hid (rnumber_any 2 64 142 (by decide) (by decide) (by decide) x _ _ _ HX.out hG.d)
        have HAt := Lib.hid (Step.here (b := x.b) hG.d.at_)
        go_upto_region 20 with (go_at_call 29; refine H.out.mono ?_; rintro e1 w2 ⟨hn1, y, v, sa, ta, rfl, ⟨rfl, hy0, hy1⟩, hD, SA⟩; have hG := hG.call hn1 hD; have hN := hN.apart hn1 hnm.2.2; have hM := hM.apart hn1 hnm.2.1; have cN := hN.cell; have fN := hN.frozen; rw [pw2] at hy1; clear cM)
        have hnN := (Near.refl (fun i => i = nb) w2).setCell (p := ⟨nb, 2, none⟩) rfl (.int .i64 y)
        have hG := hG.far HX.out hN hnw hnt.1 hnt.2 (by decide) (by decide) (by decide) (by decide) hnN
        have hM := hM.apart hnN (Ne.symm hnm.1)
        have hN := hN.set_ 2 (.int .i64 y)
        rw [show (cntA [n0, n1]).setIfInBounds 2 (.int .i64 y) = cntA [n0, n1, y] from rfl] at hN
        have HOk2 := Lib.hid (show ∀ z ∈ [n0, n1, y], 0 ≤ z ∧ z < 65536 from fun z hz => by
          have h1 := HOk.out z
          simp only [List.mem_cons, List.not_mem_nil, or_false] at hz h1
          omega)
        have HSA := Lib.hid SA
        clear cN fN hnN H hn1 hD SA cB
        generalize World.setCell w2 ⟨nb, 2, none⟩ (.int .i64 y) = w3 at *
        go_wp2_with fail
        go_roundw
        case rel => exact ⟨[n0, n1, y], sa, _, by simp, by go_num, Lib.hid ⟨hG, hN, hM, HS.out.bnd (HAt.out.bnd (HSA.out.bnd (Step.bnd (Step.must_yes (by rfl) _ _ _ _) (Step.ret _ _ _)))), HOk2.out⟩⟩
        case measure => simp [intOf]
      · have cM := hM.cell 3
        have H := Lib.hid (rnumber_any 2 32 142 (by decide) (by decide) (by decide) x _ _ _ HX.out hG.d)
        have HAt := Lib.hid (Step.here (b := x.b) hG.d.at_)
        go_upto_region 20 with (go_at_call 29; refine H.out.mono ?_; rintro e1 w2 ⟨hn1, y, v, sa, ta, rfl, ⟨rfl, hy0, hy1⟩, hD, SA⟩; have hG := hG.call hn1 hD; have hN := hN.apart hn1 hnm.2.2; have hM := hM.apart hn1 hnm.2.1; have cN := hN.cell; have fN := hN.frozen; rw [pw2] at hy1; clear cM)
        have hnN := (Near.refl (fun i => i = nb) w2).setCell (p := ⟨nb, 3, none⟩) rfl (.int .i64 y)
        have hG := hG.far HX.out hN hnw hnt.1 hnt.2 (by decide) (by decide) (by decide) (by decide) hnN
        have hM := hM.apart hnN (Ne.symm hnm.1)
        have hN := hN.set_ 3 (.int .i64 y)
        rw [show (cntA [n0, n1, n2]).setIfInBounds 3 (.int .i64 y) = cntA [n0, n1, n2, y] from rfl] at hN
        have HOk2 := Lib.hid (show ∀ z ∈ [n0, n1, n2, y], 0 ≤ z ∧ z < 65536 from fun z hz => by
          have h1 := HOk.out z
          simp only [List.mem_cons, List.not_mem_nil, or_false] at hz h1
          omega)
        have HSA := Lib.hid SA
        clear cN fN hnN H hn1 hD SA cB
        generalize World.setCell w2 ⟨nb, 3, none⟩ (.int .i64 y) = w3 at *
        go_wp2_with fail
        go_roundw
        case rel => exact ⟨[n0, n1, n2, y], sa, _, by simp, by go_num, Lib.hid ⟨hG, hN, hM, HS.out.bnd (HAt.out.bnd (HSA.out.bnd (Step.bnd (Step.must_yes (by rfl) _ _ _ _) (Step.ret _ _ _)))), HOk2.out⟩⟩
        case measure => simp [intOf]
      · skip
        have HSC := Lib.hid (Step.counts HS.out)
        have HB4 := Lib.hid (show (0 ≤ n0 ∧ n0 < 65536) ∧ (0 ≤ n1 ∧ n1 < 65536) ∧ (0 ≤ n2 ∧ n2 < 65536) ∧ (0 ≤ n3 ∧ n3 < 65536) from ⟨HOk.out n0 (by simp), HOk.out n1 (by simp), HOk.out n2 (by simp), HOk.out n3 (by simp)⟩)
        obtain ⟨N0, hN0⟩ := Int.eq_ofNat_of_zero_le HB4.out.1.1
        obtain ⟨N1, hN1⟩ := Int.eq_ofNat_of_zero_le HB4.out.2.1.1
        obtain ⟨N2, hN2⟩ := Int.eq_ofNat_of_zero_le HB4.out.2.2.1.1
        obtain ⟨N3, hN3⟩ := Int.eq_ofNat_of_zero_le HB4.out.2.2.2.1
        subst hN0 hN1 hN2 hN3
        have hNb : N0 < 65536 ∧ N1 < 65536 ∧ N2 < 65536 ∧ N3 < 65536 := by have := HB4.out; omega
        obtain ⟨h, hh⟩ : ∃ h, headR x1 (x2 == 1) x3 x4 x5 x6 x7 k = h := ⟨_, rfl⟩
        have hkl : h.1.key.length = 68 := by rw [← hh]; exact hkl2
        have hG : RG x rb tb (gR h [] [] [] [] ⟨none, 0, none, 0, none, 0, none, 0⟩) s t w wr := by rw [← hh]; exact hG
        have HH := Lib.hid hh
        have hN : Blk wr nb 132 #[.int .i64 N0, .int .i64 N1, .int .i64 N2, .int .i64 N3] := hN
        have HG := Lib.hid (And.intro hG hN)
        obtain ⟨s10, rfl⟩ : ∃ y, y = s := ⟨_, rfl⟩
        clear hG hN hM HS HOk HB4 hh hkl2 cB
        go_upto_block 2 with (fail)
        go_cut [] from 87 to 114 (fun wx => ∃ (s : RS) (t : Nat) (l : List Wn) (A : Option Addr) (c : Nat), Hid (RG x rb tb (gR h l [] [] [] ⟨A, c, none, 0, none, 0, none, 0⟩) s t w wx ∧ Blk wx nb 132 #[.int .i64 N0, .int .i64 N1, .int .i64 N2, .int .i64 N3] ∧ Step (listP windowP N0) x.b s10 l s ∧ (∀ y ∈ l, WnOk y)))
        case first =>
          go_wp2_with fail
          go_loopw [11] (fun iv wx => ∃ (j : Nat), j ≤ N0 ∧ iv = .int .i64 j ∧ ∃ (s : RS) (t : Nat) (l : List Wn) (A : Option Addr) (c : Nat), Hid (l.length = j ∧ RG x rb tb (gR h l [] [] [] ⟨A, c, none, 0, none, 0, none, 0⟩) s t w wx ∧ Blk wx nb 132 #[.int .i64 N0, .int .i64 N1, .int .i64 N2, .int .i64 N3] ∧ Step (listP windowP j) x.b s10 l s ∧ (∀ y ∈ l, WnOk y))) (fun iv _ => N0 - (intOf iv).toNat)
          case atStart => exact ⟨0, by omega, rfl, _, _, [], none, 0, Lib.hid ⟨rfl, HG.out.1, HG.out.2, Step.ret _ _ _, fun y hy => by cases hy⟩⟩
          case round =>
            obtain ⟨j, hj, rfl, s, t, l, A, c, hh⟩ := hrel
            obtain ⟨hl, hG, hN, hS, hok⟩ := hh.out
            have HL := Lib.hid hl
            have HS := Lib.hid hS
            have HOk := Lib.hid hok
            have cB := hG.d.box.cell
            have cN := hN.cell
            clear hh hl hS hok
            by_cases hlt : j < N0
            · have hlk : decide ((j : Int) < (N0 : Int)) = true := decide_eq_true (by omega)
              rcases s with e | a
              · have hne : (errS (.error e) == 0) = false := by have := hG.d.ne e rfl; simpa [errS] using this
                have HGN := Lib.hid (And.intro hG hN)
                clear hG hN
                go_wp2_with fail
                go_meet
                exact ⟨_, _, l, A, c, Lib.hid ⟨HGN.out.1, HGN.out.2, HS.out.stop (by omega), HOk.out⟩⟩
              · have hne : (errS (.ok a) == 0) = true := rfl
                go_upto_region 26 with (fail)
                clear cN cB hne hlk
                have hbd : Below wr.heap.size wr wr.drew := (Below.refl _ _).drew
                have hG := hG.below HX.out hbd
                have hN := hN.kept hbd
                have hc := (gst_cells hG.box hkl).cW
                rw [show ((gR h l [] [] [] ⟨A, c, none, 0, none, 0, none, 0⟩)).1.ws.length = l.length from rfl, HL.out] at hc
                have hS1 : (fun W' : World => W'.cell? ⟨tb, 75, none⟩ = some (.slice A j c)) wr.drew := hc
                refine wp_region_u (S := fun W' : World => W'.cell? ⟨tb, 75, none⟩ = some (.slice A j c)) 14 (by kernel_rfl) ?_
                clear hbd hc
                generalize wr.drew = v0 at *
                refine wpAnyU_take (i := 0) (v := ?vrW0) rfl (by kernel_rfl) (by kernel_rfl) (by kernel_rfl) (fun _ _ _ h => h) (Or.inl ⟨by kernel_rfl, ?hyrW0⟩) hS1 ?restrW0
                case hyrW0 =>
                  intro w hSw
                  clear hSw
                  go_simp
                  first | done | with_reducible rfl
                (try simp only [List.getElem_toArray, List.getElem_cons_succ, List.getElem_cons_zero, Act.put, List.setIfInBounds_toArray, List.set_cons_zero, List.set_cons_succ])
                refine wpAnyU_take (i := 1) (v := ?vrW1) rfl (by kernel_rfl) (by kernel_rfl) (by kernel_rfl) (fun _ _ _ h => h) (Or.inl ⟨by kernel_rfl, ?hyrW1⟩) hS1 ?restrW1
                case hyrW1 =>
                  intro w hSw
                  (try dsimp only at hSw)
                  go_simp
                  first | done | with_reducible rfl
                (try simp only [List.getElem_toArray, List.getElem_cons_succ, List.getElem_cons_zero, Act.put, List.setIfInBounds_toArray, List.set_cons_zero, List.set_cons_succ])
                refine wpAnyU_take (i := 2) (v := ?vrW2) rfl (by kernel_rfl) (by kernel_rfl) (by kernel_rfl) (fun _ _ _ h => h) (Or.inl ⟨by kernel_rfl, ?hyrW2⟩) hS1 ?restrW2
                case hyrW2 =>
                  intro w hSw
                  clear hSw
                  go_simp
                  first | done | with_reducible rfl
                (try simp only [List.getElem_toArray, List.getElem_cons_succ, List.getElem_cons_zero, Act.put, List.setIfInBounds_toArray, List.set_cons_zero, List.set_cons_succ])
                refine wpAnyU_take (i := 4) (v := ?vrW4) rfl (by kernel_rfl) (by kernel_rfl) (by kernel_rfl) (fun _ _ _ h => h) (Or.inl ⟨by kernel_rfl, ?hyrW4⟩) hS1 ?restrW4
                case hyrW4 =>
                  intro w hSw
                  clear hSw
                  go_simp
                  first | done | with_reducible rfl
                (try simp only [List.getElem_toArray, List.getElem_cons_succ, List.getElem_cons_zero, Act.put, List.setIfInBounds_toArray, List.set_cons_zero, List.set_cons_succ])
                refine wpAnyU_take (i := 6) (v := ?vrW6) rfl (by kernel_rfl) (by kernel_rfl) (by kernel_rfl) (fun _ _ _ h => h) (Or.inl ⟨by kernel_rfl, ?hyrW6⟩) hS1 ?restrW6
                case hyrW6 =>
                  intro w hSw
                  clear hSw
                  go_simp
                  first | done | with_reducible rfl
                (try simp only [List.getElem_toArray, List.getElem_cons_succ, List.getElem_cons_zero, Act.put, List.setIfInBounds_toArray, List.set_cons_zero, List.set_cons_succ])
                refine wpAnyU_take (i := 8) (v := ?vrW8) rfl (by kernel_rfl) (by kernel_rfl) (by kernel_rfl) (fun _ _ _ h => h) (Or.inl ⟨by kernel_rfl, ?hyrW8⟩) hS1 ?restrW8
                case hyrW8 =>
                  intro w hSw
                  clear hSw
                  go_simp
                  first | done | with_reducible rfl
                (try simp only [List.getElem_toArray, List.getElem_cons_succ, List.getElem_cons_zero, Act.put, List.setIfInBounds_toArray, List.set_cons_zero, List.set_cons_succ])
                refine wpAnyU_call (i := 3) (by kernel_rfl) rfl (by kernel_rfl) fun K hK => ?_
                simp only [List.getElem_toArray, List.getElem_cons_succ, List.getElem_cons_zero]
                go_simp
                go_at_call 32
                refine (rwide_any x _ _ _ HX.out hG.d).mono ?_
                rintro e1 v1 ⟨hn, y0, u, sa0, ta, rfl, ⟨rfl, b0, k0⟩, hD, SA0⟩
                have hG := hG.call hn hD
                have hN := hN.apart hn hnm.2.2
                have hc := (gst_cells hG.box hkl).cW
                rw [show ((gR h l [] [] [] ⟨A, c, none, 0, none, 0, none, 0⟩)).1.ws.length = l.length from rfl, HL.out] at hc
                rw [pw8] at k0
                have hS1 : (fun W' : World => W'.cell? ⟨tb, 75, none⟩ = some (.slice A j c)) v1 := hc
                refine hK.out _ _ (fun _ => hS1) ?_
                clear hK K
                (try simp only [List.getElem_toArray, List.getElem_cons_succ, List.getElem_cons_zero, Act.put, List.setIfInBounds_toArray, List.set_cons_zero, List.set_cons_succ])
                clear hn hD hc
                have HSA0 := Lib.hid SA0
                clear SA0
                refine wpAnyU_call (i := 5) (by kernel_rfl) rfl (by kernel_rfl) fun K hK => ?_
                simp only [List.getElem_toArray, List.getElem_cons_succ, List.getElem_cons_zero]
                go_simp
                go_at_call 32
                refine (rwide_any x _ _ _ HX.out hG.d).mono ?_
                rintro e1 v2 ⟨hn, y1, u, sa1, ta, rfl, ⟨rfl, b1, k1⟩, hD, SA1⟩
                have hG := hG.call hn hD
                have hN := hN.apart hn hnm.2.2
                have hc := (gst_cells hG.box hkl).cW
                rw [show ((gR h l [] [] [] ⟨A, c, none, 0, none, 0, none, 0⟩)).1.ws.length = l.length from rfl, HL.out] at hc
                rw [pw8] at k1
                have hS1 : (fun W' : World => W'.cell? ⟨tb, 75, none⟩ = some (.slice A j c)) v2 := hc
                refine hK.out _ _ (fun _ => hS1) ?_
                clear hK K
                (try simp only [List.getElem_toArray, List.getElem_cons_succ, List.getElem_cons_zero, Act.put, List.setIfInBounds_toArray, List.set_cons_zero, List.set_cons_succ])
                clear hn hD hc
                have HSA1 := Lib.hid SA1
                clear SA1
                refine wpAnyU_call (i := 7) (by kernel_rfl) rfl (by kernel_rfl) fun K hK => ?_
                simp only [List.getElem_toArray, List.getElem_cons_succ, List.getElem_cons_zero]
                go_simp
                go_at_call 32
                refine (rwide_any x _ _ _ HX.out hG.d).mono ?_
                rintro e1 v3 ⟨hn, y2, u, sa2, ta, rfl, ⟨rfl, b2, k2⟩, hD, SA2⟩
                have hG := hG.call hn hD
                have hN := hN.apart hn hnm.2.2
                have hc := (gst_cells hG.box hkl).cW
                rw [show ((gR h l [] [] [] ⟨A, c, none, 0, none, 0, none, 0⟩)).1.ws.length = l.length from rfl, HL.out] at hc
                rw [pw8] at k2
                have hS1 : (fun W' : World => W'.cell? ⟨tb, 75, none⟩ = some (.slice A j c)) v3 := hc
                refine hK.out _ _ (fun _ => hS1) ?_
                clear hK K
                (try simp only [List.getElem_toArray, List.getElem_cons_succ, List.getElem_cons_zero, Act.put, List.setIfInBounds_toArray, List.set_cons_zero, List.set_cons_succ])
                clear hn hD hc
                have HSA2 := Lib.hid SA2
                clear SA2
                refine wpAnyU_call (i := 9) (by kernel_rfl) rfl (by kernel_rfl) fun K hK => ?_
                simp only [List.getElem_toArray, List.getElem_cons_succ, List.getElem_cons_zero]
                go_simp
                go_at_call 29
                refine (rnumber_any 4 7 144 (by decide) (by decide) (by decide) x _ _ _ HX.out hG.d).mono ?_
                rintro e1 v4 ⟨hn, y3, u, sa3, ta, rfl, ⟨rfl, b3, k3⟩, hD, SA3⟩
                have hG := hG.call hn hD
                have hN := hN.apart hn hnm.2.2
                have hc := (gst_cells hG.box hkl).cW
                rw [show ((gR h l [] [] [] ⟨A, c, none, 0, none, 0, none, 0⟩)).1.ws.length = l.length from rfl, HL.out] at hc
                rw [pw4] at k3
                have hS1 : (fun W' : World => W'.cell? ⟨tb, 75, none⟩ = some (.slice A j c)) v4 := hc
                refine hK.out _ _ (fun _ => hS1) ?_
                clear hK K
                (try simp only [List.getElem_toArray, List.getElem_cons_succ, List.getElem_cons_zero, Act.put, List.setIfInBounds_toArray, List.set_cons_zero, List.set_cons_succ])
                clear hn hD hc
                have HSA3 := Lib.hid SA3
                clear SA3
                have q3 : IntKind.i64.wrap y3 = y3 := IntWalk.i64_in _ (by omega)
                refine wpAnyU_take (i := 10) (v := ?vrW10) rfl (by kernel_rfl) (by kernel_rfl) (by kernel_rfl) (fun _ _ _ h => h) (Or.inl ⟨by kernel_rfl, ?hyrW10⟩) hS1 ?restrW10
                case hyrW10 =>
                  intro w hSw
                  clear hSw
                  go_simp
                  first | done | with_reducible rfl
                (try simp only [List.getElem_toArray, List.getElem_cons_succ, List.getElem_cons_zero, Act.put, List.setIfInBounds_toArray, List.set_cons_zero, List.set_cons_succ])
                refine wpAnyU_take (i := 11) (v := ?vrW11) rfl (by kernel_rfl) (by kernel_rfl) (by kernel_rfl) (fun _ _ _ h => h) (Or.inl ⟨by kernel_rfl, ?hyrW11⟩) hS1 ?restrW11
                case hyrW11 =>
                  intro w hSw
                  clear hSw
                  go_simp
                  first | done | with_reducible rfl
                (try simp only [List.getElem_toArray, List.getElem_cons_succ, List.getElem_cons_zero, Act.put, List.setIfInBounds_toArray, List.set_cons_zero, List.set_cons_succ])
                refine wpAnyU_call (i := 12) (by kernel_rfl) rfl (by kernel_rfl) fun K hK => ?_
                simp only [List.getElem_toArray, List.getElem_cons_succ, List.getElem_cons_zero]
                go_simp
                have hbB := bal (Below.refl v4.heap.size v4) (.cells #[.int .u64 y0, .int .u64 y1, .int .u64 y2, .int .i64 y3] 135)
                have hG := hG.below HX.out hbB
                have hN := hN.kept hbB
                have hRB := Rd.fresh v4 #[.int .u64 y0, .int .u64 y1, .int .u64 y2, .int .i64 y3] 135 1 4 _ rfl rfl
                have hc := (gst_cells hG.box hkl).cW
                rw [show ((gR h l [] [] [] ⟨A, c, none, 0, none, 0, none, 0⟩)).1.ws.length = l.length from rfl, HL.out] at hc
                refine hK.out _ _ (fun _ => hc) ?_
                clear hK K
                (try simp only [List.getElem_toArray, List.getElem_cons_succ, List.getElem_cons_zero, Act.put, List.setIfInBounds_toArray, List.set_cons_zero, List.set_cons_succ])
                generalize v4.alloc (.cells #[.int .u64 y0, .int .u64 y1, .int .u64 y2, .int .i64 y3] 135) = v5 at *
                have hown := hG.rows.rW
                rw [show ((gR h l [] [] [] ⟨A, c, none, 0, none, 0, none, 0⟩)).1.ws = l from rfl, HL.out] at hown
                have hNl := Lib.hid (show j + 1 ≤ maxLen by unfold maxLen; omega)
                have hwl := hG.near.size
                refine wpAnyU_call (i := 13) (by kernel_rfl) rfl (by kernel_rfl) fun K hK => ?_
                simp only [List.getElem_toArray, List.getElem_cons_succ, List.getElem_cons_zero]
                refine wp_app v5 elemW (.tmp 101) (.tmp 112) rfl w.heap.size (.slice A j c) j (l.flatMap encWn) ?hsW hown v5.heap.size (some ⟨v4.heap.size, 0, none⟩) 1 1 [.int .u64 y0, .int .u64 y1, .int .u64 y2, .int .i64 y3] ?hxW hRB (fun u hu => by simp only [List.mem_cons, List.not_mem_nil, or_false] at hu; rcases hu with rfl | rfl | rfl | rfl <;> rfl) hNl.out (by omega) hwl ?_
                case hsW => go_simp
                case hxW => go_simp
                intro v' v6 hown' hb6 hg6
                obtain ⟨A', c', rfl, _, _⟩ := own_slice hown'
                obtain ⟨hD6, hT6, hZ6, hn6⟩ := hG.grown HX.out hown (by decide) (by decide) hg6
                have hN6 : Blk v6 nb 132 #[.int .i64 N0, .int .i64 N1, .int .i64 N2, .int .i64 N3] := hN.same (hg6.block nb hN.lt (fun he => own_blk_ne hown hN (by decide) he))
                have hr6 : Rows4 w.heap.size (gR h (l ++ [(⟨y0, y1, y2, y3⟩ : Wn)]) [] [] [] ⟨A', c', none, 0, none, 0, none, 0⟩) v6 := by
                  have hlen : (l ++ [(⟨y0, y1, y2, y3⟩ : Wn)]).length = j + 1 := by rw [List.length_append, HL.out]; rfl
                  have hfl : (l ++ [(⟨y0, y1, y2, y3⟩ : Wn)]).flatMap encWn = l.flatMap encWn ++ [.int .u64 y0, .int .u64 y1, .int .u64 y2, .int .i64 y3] := by rw [List.flatMap_append]; rfl
                  constructor
                  · show World.ownsRow _ _ _ _ (.slice A' (l ++ [(⟨y0, y1, y2, y3⟩ : Wn)]).length c') (l ++ [(⟨y0, y1, y2, y3⟩ : Wn)]).length ((l ++ [(⟨y0, y1, y2, y3⟩ : Wn)]).flatMap encWn)
                    rw [hlen, hfl]; exact hown'
                  · exact own_grown hG.rows.rD hown (by decide) hg6
                  · exact own_grown hG.rows.rI hown (by decide) hg6
                  · exact own_grown hG.rows.rS hown (by decide) hg6
                have hc := (gst_cells hT6 hkl).cW
                rw [show ((gR h l [] [] [] ⟨A, c, none, 0, none, 0, none, 0⟩)).1.ws.length = l.length from rfl, HL.out] at hc
                refine hK.out _ _ (fun _ => hc) ?_
                clear hK K
                (try simp only [List.getElem_toArray, List.getElem_cons_succ, List.getElem_cons_zero, Act.put, List.setIfInBounds_toArray, List.set_cons_zero, List.set_cons_succ])
                refine wpAnyU_take (i := 14) (v := ?vrW14) rfl (by kernel_rfl) (by kernel_rfl) (by kernel_rfl) (fun _ _ _ h => h) (Or.inl ⟨by kernel_rfl, ?hyrW14⟩) hc ?restrW14
                case hyrW14 =>
                  intro w hSw
                  clear hSw
                  go_simp
                  first | done | with_reducible rfl
                (try simp only [List.getElem_toArray, List.getElem_cons_succ, List.getElem_cons_zero, Act.put, List.setIfInBounds_toArray, List.set_cons_zero, List.set_cons_succ])
                have cB6 := hT6.cell
                have fB6 := hT6.frozen
                refine wpAnyU_call (i := 15) (by kernel_rfl) rfl (by kernel_rfl) fun K hK => ?_
                simp only [List.getElem_toArray, List.getElem_cons_succ, List.getElem_cons_zero]
                go_simp
                refine hK.out _ _ (fun h => absurd h (by decide)) ?_
                clear hK K
                (try simp only [List.getElem_toArray, List.getElem_cons_succ, List.getElem_cons_zero, Act.put, List.setIfInBounds_toArray, List.set_cons_zero, List.set_cons_succ])
                refine wpAnyU_done (by kernel_rfl) ?_ _
                have hlen : (l ++ [(⟨y0, y1, y2, y3⟩ : Wn)]).length = j + 1 := by rw [List.length_append, HL.out]; rfl
                have hGF := Lib.hid (RG.push (R' := (gR h (l ++ [(⟨y0, y1, y2, y3⟩ : Wn)]) [] [] [] ⟨A', c', none, 0, none, 0, none, 0⟩)) hG HX.out hD6 hT6 hZ6 hn6 hr6 75 (.slice A' (j + 1) c') (gset75 hkl _ _ _ _ hlen))
                have hNF := Lib.hid (hN6.apart ((Near.refl (fun i => i = tb) v6).setCell (p := ⟨tb, 75, none⟩) rfl (.slice A' (j + 1) c')) (Ne.symm hnt.1))
                have HOk2 := Lib.hid (show ∀ y ∈ l ++ [(⟨y0, y1, y2, y3⟩ : Wn)], WnOk y from fun y hy => by
                  rcases List.mem_append.1 hy with hy | hy
                  · exact HOk.out y hy
                  · rw [List.mem_singleton] at hy
                    subst hy
                    exact ⟨⟨b0, k0⟩, ⟨b1, k1⟩, ⟨b2, k2⟩, by show inI64 y3; unfold inI64; omega⟩)
                have HLn := Lib.hid hlen
                clear hc hG hN hown hown' hb6 hg6 hD6 hT6 hZ6 hn6 hN6 hr6 cB6 fB6 hRB hbB hlen hwl hNl
                go_wp2_with fail
                go_roundw
                case rel =>
                  exact ⟨j + 1, by omega, by go_num, sa3, _, l ++ [(⟨y0, y1, y2, y3⟩ : Wn)], A', c', Lib.hid ⟨HLn.out, hGF.out, hNF.out, HS.out.list (HSA0.out.bnd (HSA1.out.bnd (HSA2.out.bnd (HSA3.out.bnd (Step.ret _ _ _))))), HOk2.out⟩⟩
                case measure => simp [intOf]; omega
            · have hlk : decide ((j : Int) < (N0 : Int)) = false := decide_eq_false (by omega)
              have hjn : j = N0 := by omega
              have HGN := Lib.hid (And.intro hG hN)
              clear hG hN
              go_wp2_with fail
              go_meet
              rw [hjn] at HS
              exact ⟨_, _, l, A, c, Lib.hid ⟨HGN.out.1, HGN.out.2, HS.out, HOk.out⟩⟩
        case rest =>
          obtain ⟨s11, t11, ws, AW, cW, hhW⟩ := hcut
          have HGW := Lib.hid (And.intro hhW.out.1 hhW.out.2.1)
          have HLW := Lib.hid hhW.out.2.2
          clear hhW
          go_upto_block 4 with (fail)
          go_cut [] from 115 to 139 (fun wx => ∃ (s : RS) (t : Nat) (l : List Dv) (A : Option Addr) (c : Nat), Hid (RG x rb tb (gR h ws l [] [] ⟨AW, cW, A, c, none, 0, none, 0⟩) s t w wx ∧ Blk wx nb 132 #[.int .i64 N0, .int .i64 N1, .int .i64 N2, .int .i64 N3] ∧ Step (listP devP N1) x.b s11 l s ∧ (∀ y ∈ l, DvOk y)))
          case first =>
            go_wp2_with fail
            go_loopw [12] (fun iv wx => ∃ (j : Nat), j ≤ N1 ∧ iv = .int .i64 j ∧ ∃ (s : RS) (t : Nat) (l : List Dv) (A : Option Addr) (c : Nat), Hid (l.length = j ∧ RG x rb tb (gR h ws l [] [] ⟨AW, cW, A, c, none, 0, none, 0⟩) s t w wx ∧ Blk wx nb 132 #[.int .i64 N0, .int .i64 N1, .int .i64 N2, .int .i64 N3] ∧ Step (listP devP j) x.b s11 l s ∧ (∀ y ∈ l, DvOk y))) (fun iv _ => N1 - (intOf iv).toNat)
            case atStart => exact ⟨0, by omega, rfl, _, _, [], none, 0, Lib.hid ⟨rfl, HGW.out.1, HGW.out.2, Step.ret _ _ _, fun y hy => by cases hy⟩⟩
            case round =>
              obtain ⟨j, hj, rfl, s, t, l, A, c, hh⟩ := hrel
              obtain ⟨hl, hG, hN, hS, hok⟩ := hh.out
              have HL := Lib.hid hl
              have HS := Lib.hid hS
              have HOk := Lib.hid hok
              have cB := hG.d.box.cell
              have cN := hN.cell
              clear hh hl hS hok
              by_cases hlt : j < N1
              · have hlk : decide ((j : Int) < (N1 : Int)) = true := decide_eq_true (by omega)
                rcases s with e | a
                · have hne : (errS (.error e) == 0) = false := by have := hG.d.ne e rfl; simpa [errS] using this
                  have HGN := Lib.hid (And.intro hG hN)
                  clear hG hN
                  go_wp2_with fail
                  go_meet
                  exact ⟨_, _, l, A, c, Lib.hid ⟨HGN.out.1, HGN.out.2, HS.out.stop (by omega), HOk.out⟩⟩
                · have hne : (errS (.ok a) == 0) = true := rfl
                  go_upto_region 30 with (fail)
                  clear cN cB hne hlk
                  have hbd : Below wr.heap.size wr wr.drew := (Below.refl _ _).drew
                  have hG := hG.below HX.out hbd
                  have hN := hN.kept hbd
                  have hc := (gst_cells hG.box hkl).cD
                  rw [show ((gR h ws l [] [] ⟨AW, cW, A, c, none, 0, none, 0⟩)).1.ds.length = l.length from rfl, HL.out] at hc
                  have hS1 : (fun W' : World => W'.cell? ⟨tb, 76, none⟩ = some (.slice A j c)) wr.drew := hc
                  refine wp_region_u (S := fun W' : World => W'.cell? ⟨tb, 76, none⟩ = some (.slice A j c)) 11 (by kernel_rfl) ?_
                  clear hbd hc
                  generalize wr.drew = v0 at *
                  refine wpAnyU_take (i := 0) (v := ?vrD0) rfl (by kernel_rfl) (by kernel_rfl) (by kernel_rfl) (fun _ _ _ h => h) (Or.inl ⟨by kernel_rfl, ?hyrD0⟩) hS1 ?restrD0
                  case hyrD0 =>
                    intro w hSw
                    clear hSw
                    go_simp
                    first | done | with_reducible rfl
                  (try simp only [List.getElem_toArray, List.getElem_cons_succ, List.getElem_cons_zero, Act.put, List.setIfInBounds_toArray, List.set_cons_zero, List.set_cons_succ])
                  refine wpAnyU_take (i := 1) (v := ?vrD1) rfl (by kernel_rfl) (by kernel_rfl) (by kernel_rfl) (fun _ _ _ h => h) (Or.inl ⟨by kernel_rfl, ?hyrD1⟩) hS1 ?restrD1
                  case hyrD1 =>
                    intro w hSw
                    (try dsimp only at hSw)
                    go_simp
                    first | done | with_reducible rfl
                  (try simp only [List.getElem_toArray, List.getElem_cons_succ, List.getElem_cons_zero, Act.put, List.setIfInBounds_toArray, List.set_cons_zero, List.set_cons_succ])
                  refine wpAnyU_take (i := 2) (v := ?vrD2) rfl (by kernel_rfl) (by kernel_rfl) (by kernel_rfl) (fun _ _ _ h => h) (Or.inl ⟨by kernel_rfl, ?hyrD2⟩) hS1 ?restrD2
                  case hyrD2 =>
                    intro w hSw
                    clear hSw
                    go_simp
                    first | done | with_reducible rfl
                  (try simp only [List.getElem_toArray, List.getElem_cons_succ, List.getElem_cons_zero, Act.put, List.setIfInBounds_toArray, List.set_cons_zero, List.set_cons_succ])
                  refine wpAnyU_take (i := 4) (v := ?vrD4) rfl (by kernel_rfl) (by kernel_rfl) (by kernel_rfl) (fun _ _ _ h => h) (Or.inl ⟨by kernel_rfl, ?hyrD4⟩) hS1 ?restrD4
                  case hyrD4 =>
                    intro w hSw
                    clear hSw
                    go_simp
                    first | done | with_reducible rfl
                  (try simp only [List.getElem_toArray, List.getElem_cons_succ, List.getElem_cons_zero, Act.put, List.setIfInBounds_toArray, List.set_cons_zero, List.set_cons_succ])
                  refine wpAnyU_take (i := 6) (v := ?vrD6) rfl (by kernel_rfl) (by kernel_rfl) (by kernel_rfl) (fun _ _ _ h => h) (Or.inl ⟨by kernel_rfl, ?hyrD6⟩) hS1 ?restrD6
                  case hyrD6 =>
                    intro w hSw
                    clear hSw
                    go_simp
                    first | done | with_reducible rfl
                  (try simp only [List.getElem_toArray, List.getElem_cons_succ, List.getElem_cons_zero, Act.put, List.setIfInBounds_toArray, List.set_cons_zero, List.set_cons_succ])
                  refine wpAnyU_call (i := 3) (by kernel_rfl) rfl (by kernel_rfl) fun K hK => ?_
                  simp only [List.getElem_toArray, List.getElem_cons_succ, List.getElem_cons_zero]
                  go_simp
                  go_at_call 32
                  refine (rwide_any x _ _ _ HX.out hG.d).mono ?_
                  rintro e1 v1 ⟨hn, y0, u, sa0, ta, rfl, ⟨rfl, b0, k0⟩, hD, SA0⟩
                  have hG := hG.call hn hD
                  have hN := hN.apart hn hnm.2.2
                  have hc := (gst_cells hG.box hkl).cD
                  rw [show ((gR h ws l [] [] ⟨AW, cW, A, c, none, 0, none, 0⟩)).1.ds.length = l.length from rfl, HL.out] at hc
                  rw [pw8] at k0
                  have hS1 : (fun W' : World => W'.cell? ⟨tb, 76, none⟩ = some (.slice A j c)) v1 := hc
                  refine hK.out _ _ (fun _ => hS1) ?_
                  clear hK K
                  (try simp only [List.getElem_toArray, List.getElem_cons_succ, List.getElem_cons_zero, Act.put, List.setIfInBounds_toArray, List.set_cons_zero, List.set_cons_succ])
                  clear hn hD hc
                  have HSA0 := Lib.hid SA0
                  clear SA0
                  refine wpAnyU_call (i := 5) (by kernel_rfl) rfl (by kernel_rfl) fun K hK => ?_
                  simp only [List.getElem_toArray, List.getElem_cons_succ, List.getElem_cons_zero]
                  go_simp
                  go_at_call 32
                  refine (rwide_any x _ _ _ HX.out hG.d).mono ?_
                  rintro e1 v2 ⟨hn, y1, u, sa1, ta, rfl, ⟨rfl, b1, k1⟩, hD, SA1⟩
                  have hG := hG.call hn hD
                  have hN := hN.apart hn hnm.2.2
                  have hc := (gst_cells hG.box hkl).cD
                  rw [show ((gR h ws l [] [] ⟨AW, cW, A, c, none, 0, none, 0⟩)).1.ds.length = l.length from rfl, HL.out] at hc
                  rw [pw8] at k1
                  have hS1 : (fun W' : World => W'.cell? ⟨tb, 76, none⟩ = some (.slice A j c)) v2 := hc
                  refine hK.out _ _ (fun _ => hS1) ?_
                  clear hK K
                  (try simp only [List.getElem_toArray, List.getElem_cons_succ, List.getElem_cons_zero, Act.put, List.setIfInBounds_toArray, List.set_cons_zero, List.set_cons_succ])
                  clear hn hD hc
                  have HSA1 := Lib.hid SA1
                  clear SA1
                  refine wpAnyU_call (i := 7) (by kernel_rfl) rfl (by kernel_rfl) fun K hK => ?_
                  simp only [List.getElem_toArray, List.getElem_cons_succ, List.getElem_cons_zero]
                  go_simp
                  go_at_call 32
                  refine (rwide_any x _ _ _ HX.out hG.d).mono ?_
                  rintro e1 v3 ⟨hn, y2, u, sa2, ta, rfl, ⟨rfl, b2, k2⟩, hD, SA2⟩
                  have hG := hG.call hn hD
                  have hN := hN.apart hn hnm.2.2
                  have hc := (gst_cells hG.box hkl).cD
                  rw [show ((gR h ws l [] [] ⟨AW, cW, A, c, none, 0, none, 0⟩)).1.ds.length = l.length from rfl, HL.out] at hc
                  rw [pw8] at k2
                  have hS1 : (fun W' : World => W'.cell? ⟨tb, 76, none⟩ = some (.slice A j c)) v3 := hc
                  refine hK.out _ _ (fun _ => hS1) ?_
                  clear hK K
                  (try simp only [List.getElem_toArray, List.getElem_cons_succ, List.getElem_cons_zero, Act.put, List.setIfInBounds_toArray, List.set_cons_zero, List.set_cons_succ])
                  clear hn hD hc
                  have HSA2 := Lib.hid SA2
                  clear SA2
                  refine wpAnyU_take (i := 8) (v := ?vrD8) rfl (by kernel_rfl) (by kernel_rfl) (by kernel_rfl) (fun _ _ _ h => h) (Or.inl ⟨by kernel_rfl, ?hyrD8⟩) hS1 ?restrD8
                  case hyrD8 =>
                    intro w hSw
                    clear hSw
                    go_simp
                    first | done | with_reducible rfl
                  (try simp only [List.getElem_toArray, List.getElem_cons_succ, List.getElem_cons_zero, Act.put, List.setIfInBounds_toArray, List.set_cons_zero, List.set_cons_succ])
                  refine wpAnyU_call (i := 9) (by kernel_rfl) rfl (by kernel_rfl) fun K hK => ?_
                  simp only [List.getElem_toArray, List.getElem_cons_succ, List.getElem_cons_zero]
                  go_simp
                  have hbB := bal (Below.refl v3.heap.size v3) (.cells #[.int .u64 y0, .int .u64 y1, .int .u64 y2] 137)
                  have hG := hG.below HX.out hbB
                  have hN := hN.kept hbB
                  have hRB := Rd.fresh v3 #[.int .u64 y0, .int .u64 y1, .int .u64 y2] 137 1 3 _ rfl rfl
                  have hc := (gst_cells hG.box hkl).cD
                  rw [show ((gR h ws l [] [] ⟨AW, cW, A, c, none, 0, none, 0⟩)).1.ds.length = l.length from rfl, HL.out] at hc
                  refine hK.out _ _ (fun _ => hc) ?_
                  clear hK K
                  (try simp only [List.getElem_toArray, List.getElem_cons_succ, List.getElem_cons_zero, Act.put, List.setIfInBounds_toArray, List.set_cons_zero, List.set_cons_succ])
                  generalize v3.alloc (.cells #[.int .u64 y0, .int .u64 y1, .int .u64 y2] 137) = v4 at *
                  have hown := hG.rows.rD
                  rw [show ((gR h ws l [] [] ⟨AW, cW, A, c, none, 0, none, 0⟩)).1.ds = l from rfl, HL.out] at hown
                  have hNl := Lib.hid (show j + 1 ≤ maxLen by unfold maxLen; omega)
                  have hwl := hG.near.size
                  refine wpAnyU_call (i := 10) (by kernel_rfl) rfl (by kernel_rfl) fun K hK => ?_
                  simp only [List.getElem_toArray, List.getElem_cons_succ, List.getElem_cons_zero]
                  refine wp_app v4 elemD (.tmp 129) (.tmp 137) rfl w.heap.size (.slice A j c) j (l.flatMap encDv) ?hsD hown v4.heap.size (some ⟨v3.heap.size, 0, none⟩) 1 1 [.int .u64 y0, .int .u64 y1, .int .u64 y2] ?hxD hRB (fun u hu => by simp only [List.mem_cons, List.not_mem_nil, or_false] at hu; rcases hu with rfl | rfl | rfl <;> rfl) hNl.out (by omega) hwl ?_
                  case hsD => go_simp
                  case hxD => go_simp
                  intro v' v5 hown' hb6 hg6
                  obtain ⟨A', c', rfl, _, _⟩ := own_slice hown'
                  obtain ⟨hD6, hT6, hZ6, hn6⟩ := hG.grown HX.out hown (by decide) (by decide) hg6
                  have hN6 : Blk v5 nb 132 #[.int .i64 N0, .int .i64 N1, .int .i64 N2, .int .i64 N3] := hN.same (hg6.block nb hN.lt (fun he => own_blk_ne hown hN (by decide) he))
                  have hr6 : Rows4 w.heap.size (gR h ws (l ++ [(⟨y0, y1, y2⟩ : Dv)]) [] [] ⟨AW, cW, A', c', none, 0, none, 0⟩) v5 := by
                    have hlen : (l ++ [(⟨y0, y1, y2⟩ : Dv)]).length = j + 1 := by rw [List.length_append, HL.out]; rfl
                    have hfl : (l ++ [(⟨y0, y1, y2⟩ : Dv)]).flatMap encDv = l.flatMap encDv ++ [.int .u64 y0, .int .u64 y1, .int .u64 y2] := by rw [List.flatMap_append]; rfl
                    constructor
                    · exact own_grown hG.rows.rW hown (by decide) hg6
                    · show World.ownsRow _ _ _ _ (.slice A' (l ++ [(⟨y0, y1, y2⟩ : Dv)]).length c') (l ++ [(⟨y0, y1, y2⟩ : Dv)]).length ((l ++ [(⟨y0, y1, y2⟩ : Dv)]).flatMap encDv)
                      rw [hlen, hfl]; exact hown'
                    · exact own_grown hG.rows.rI hown (by decide) hg6
                    · exact own_grown hG.rows.rS hown (by decide) hg6
                  have hc := (gst_cells hT6 hkl).cD
                  rw [show ((gR h ws l [] [] ⟨AW, cW, A, c, none, 0, none, 0⟩)).1.ds.length = l.length from rfl, HL.out] at hc
                  refine hK.out _ _ (fun _ => hc) ?_
                  clear hK K
                  (try simp only [List.getElem_toArray, List.getElem_cons_succ, List.getElem_cons_zero, Act.put, List.setIfInBounds_toArray, List.set_cons_zero, List.set_cons_succ])
                  refine wpAnyU_take (i := 11) (v := ?vrD11) rfl (by kernel_rfl) (by kernel_rfl) (by kernel_rfl) (fun _ _ _ h => h) (Or.inl ⟨by kernel_rfl, ?hyrD11⟩) hc ?restrD11
                  case hyrD11 =>
                    intro w hSw
                    clear hSw
                    go_simp
                    first | done | with_reducible rfl
                  (try simp only [List.getElem_toArray, List.getElem_cons_succ, List.getElem_cons_zero, Act.put, List.setIfInBounds_toArray, List.set_cons_zero, List.set_cons_succ])
                  have cB6 := hT6.cell
                  have fB6 := hT6.frozen
                  refine wpAnyU_call (i := 12) (by kernel_rfl) rfl (by kernel_rfl) fun K hK => ?_
                  simp only [List.getElem_toArray, List.getElem_cons_succ, List.getElem_cons_zero]
                  go_simp
                  refine hK.out _ _ (fun h => absurd h (by decide)) ?_
                  clear hK K
                  (try simp only [List.getElem_toArray, List.getElem_cons_succ, List.getElem_cons_zero, Act.put, List.setIfInBounds_toArray, List.set_cons_zero, List.set_cons_succ])
                  refine wpAnyU_done (by kernel_rfl) ?_ _
                  have hlen : (l ++ [(⟨y0, y1, y2⟩ : Dv)]).length = j + 1 := by rw [List.length_append, HL.out]; rfl
                  have hGF := Lib.hid (RG.push (R' := (gR h ws (l ++ [(⟨y0, y1, y2⟩ : Dv)]) [] [] ⟨AW, cW, A', c', none, 0, none, 0⟩)) hG HX.out hD6 hT6 hZ6 hn6 hr6 76 (.slice A' (j + 1) c') (gset76 hkl _ _ _ _ hlen))
                  have hNF := Lib.hid (hN6.apart ((Near.refl (fun i => i = tb) v5).setCell (p := ⟨tb, 76, none⟩) rfl (.slice A' (j + 1) c')) (Ne.symm hnt.1))
                  have HOk2 := Lib.hid (show ∀ y ∈ l ++ [(⟨y0, y1, y2⟩ : Dv)], DvOk y from fun y hy => by
                    rcases List.mem_append.1 hy with hy | hy
                    · exact HOk.out y hy
                    · rw [List.mem_singleton] at hy
                      subst hy
                      exact ⟨⟨b0, k0⟩, ⟨b1, k1⟩, b2, k2⟩)
                  have HLn := Lib.hid hlen
                  clear hc hG hN hown hown' hb6 hg6 hD6 hT6 hZ6 hn6 hN6 hr6 cB6 fB6 hRB hbB hlen hwl hNl
                  go_wp2_with fail
                  go_roundw
                  case rel =>
                    exact ⟨j + 1, by omega, by go_num, sa2, _, l ++ [(⟨y0, y1, y2⟩ : Dv)], A', c', Lib.hid ⟨HLn.out, hGF.out, hNF.out, HS.out.list (HSA0.out.bnd (HSA1.out.bnd (HSA2.out.bnd (Step.ret _ _ _)))), HOk2.out⟩⟩
                  case measure => simp [intOf]; omega
              · have hlk : decide ((j : Int) < (N1 : Int)) = false := decide_eq_false (by omega)
                have hjn : j = N1 := by omega
                have HGN := Lib.hid (And.intro hG hN)
                clear hG hN
                go_wp2_with fail
                go_meet
                rw [hjn] at HS
                exact ⟨_, _, l, A, c, Lib.hid ⟨HGN.out.1, HGN.out.2, HS.out, HOk.out⟩⟩
          case rest =>
            obtain ⟨s12, t12, ds, AD, cD, hhD⟩ := hcut
            have HGD := Lib.hid (And.intro hhD.out.1 hhD.out.2.1)
            have HLD := Lib.hid hhD.out.2.2
            clear hhD
            go_upto_block 6 with (fail)
            go_cut [] from 140 to 167 (fun wx => ∃ (s : RS) (t : Nat) (l : List Iq) (A : Option Addr) (c : Nat), Hid (RG x rb tb (gR h ws ds l [] ⟨AW, cW, AD, cD, A, c, none, 0⟩) s t w wx ∧ Blk wx nb 132 #[.int .i64 N0, .int .i64 N1, .int .i64 N2, .int .i64 N3] ∧ Step (listP irqP N2) x.b s12 l s ∧ (∀ y ∈ l, IqOk y)))
            case first =>
              go_wp2_with fail
              go_loopw [13] (fun iv wx => ∃ (j : Nat), j ≤ N2 ∧ iv = .int .i64 j ∧ ∃ (s : RS) (t : Nat) (l : List Iq) (A : Option Addr) (c : Nat), Hid (l.length = j ∧ RG x rb tb (gR h ws ds l [] ⟨AW, cW, AD, cD, A, c, none, 0⟩) s t w wx ∧ Blk wx nb 132 #[.int .i64 N0, .int .i64 N1, .int .i64 N2, .int .i64 N3] ∧ Step (listP irqP j) x.b s12 l s ∧ (∀ y ∈ l, IqOk y))) (fun iv _ => N2 - (intOf iv).toNat)
              case atStart => exact ⟨0, by omega, rfl, _, _, [], none, 0, Lib.hid ⟨rfl, HGD.out.1, HGD.out.2, Step.ret _ _ _, fun y hy => by cases hy⟩⟩
              case round =>
                obtain ⟨j, hj, rfl, s, t, l, A, c, hh⟩ := hrel
                obtain ⟨hl, hG, hN, hS, hok⟩ := hh.out
                have HL := Lib.hid hl
                have HS := Lib.hid hS
                have HOk := Lib.hid hok
                have cB := hG.d.box.cell
                have cN := hN.cell
                clear hh hl hS hok
                by_cases hlt : j < N2
                · have hlk : decide ((j : Int) < (N2 : Int)) = true := decide_eq_true (by omega)
                  rcases s with e | a
                  · have hne : (errS (.error e) == 0) = false := by have := hG.d.ne e rfl; simpa [errS] using this
                    have HGN := Lib.hid (And.intro hG hN)
                    clear hG hN
                    go_wp2_with fail
                    go_meet
                    exact ⟨_, _, l, A, c, Lib.hid ⟨HGN.out.1, HGN.out.2, HS.out.stop (by omega), HOk.out⟩⟩
                  · have hne : (errS (.ok a) == 0) = true := rfl
                    go_upto_region 34 with (fail)
                    clear cN cB hne hlk
                    have hbd : Below wr.heap.size wr wr.drew := (Below.refl _ _).drew
                    have hG := hG.below HX.out hbd
                    have hN := hN.kept hbd
                    have hc := (gst_cells hG.box hkl).cI
                    rw [show ((gR h ws ds l [] ⟨AW, cW, AD, cD, A, c, none, 0⟩)).1.qs.length = l.length from rfl, HL.out] at hc
                    have hS1 : (fun W' : World => W'.cell? ⟨tb, 77, none⟩ = some (.slice A j c)) wr.drew := hc
                    refine wp_region_u (S := fun W' : World => W'.cell? ⟨tb, 77, none⟩ = some (.slice A j c)) 14 (by kernel_rfl) ?_
                    clear hbd hc
                    generalize wr.drew = v0 at *
                    refine wpAnyU_take (i := 0) (v := ?vrI0) rfl (by kernel_rfl) (by kernel_rfl) (by kernel_rfl) (fun _ _ _ h => h) (Or.inl ⟨by kernel_rfl, ?hyrI0⟩) hS1 ?restrI0
                    case hyrI0 =>
                      intro w hSw
                      clear hSw
                      go_simp
                      first | done | with_reducible rfl
                    (try simp only [List.getElem_toArray, List.getElem_cons_succ, List.getElem_cons_zero, Act.put, List.setIfInBounds_toArray, List.set_cons_zero, List.set_cons_succ])
                    refine wpAnyU_take (i := 1) (v := ?vrI1) rfl (by kernel_rfl) (by kernel_rfl) (by kernel_rfl) (fun _ _ _ h => h) (Or.inl ⟨by kernel_rfl, ?hyrI1⟩) hS1 ?restrI1
                    case hyrI1 =>
                      intro w hSw
                      (try dsimp only at hSw)
                      go_simp
                      first | done | with_reducible rfl
                    (try simp only [List.getElem_toArray, List.getElem_cons_succ, List.getElem_cons_zero, Act.put, List.setIfInBounds_toArray, List.set_cons_zero, List.set_cons_succ])
                    refine wpAnyU_take (i := 2) (v := ?vrI2) rfl (by kernel_rfl) (by kernel_rfl) (by kernel_rfl) (fun _ _ _ h => h) (Or.inl ⟨by kernel_rfl, ?hyrI2⟩) hS1 ?restrI2
                    case hyrI2 =>
                      intro w hSw
                      clear hSw
                      go_simp
                      first | done | with_reducible rfl
                    (try simp only [List.getElem_toArray, List.getElem_cons_succ, List.getElem_cons_zero, Act.put, List.setIfInBounds_toArray, List.set_cons_zero, List.set_cons_succ])
                    refine wpAnyU_take (i := 5) (v := ?vrI5) rfl (by kernel_rfl) (by kernel_rfl) (by kernel_rfl) (fun _ _ _ h => h) (Or.inl ⟨by kernel_rfl, ?hyrI5⟩) hS1 ?restrI5
                    case hyrI5 =>
                      intro w hSw
                      clear hSw
                      go_simp
                      first | done | with_reducible rfl
                    (try simp only [List.getElem_toArray, List.getElem_cons_succ, List.getElem_cons_zero, Act.put, List.setIfInBounds_toArray, List.set_cons_zero, List.set_cons_succ])
                    refine wpAnyU_take (i := 8) (v := ?vrI8) rfl (by kernel_rfl) (by kernel_rfl) (by kernel_rfl) (fun _ _ _ h => h) (Or.inl ⟨by kernel_rfl, ?hyrI8⟩) hS1 ?restrI8
                    case hyrI8 =>
                      intro w hSw
                      clear hSw
                      go_simp
                      first | done | with_reducible rfl
                    (try simp only [List.getElem_toArray, List.getElem_cons_succ, List.getElem_cons_zero, Act.put, List.setIfInBounds_toArray, List.set_cons_zero, List.set_cons_succ])
                    refine wpAnyU_call (i := 3) (by kernel_rfl) rfl (by kernel_rfl) fun K hK => ?_
                    simp only [List.getElem_toArray, List.getElem_cons_succ, List.getElem_cons_zero]
                    go_simp
                    go_at_call 29
                    refine (rnumber_any 2 65535 144 (by decide) (by decide) (by decide) x _ _ _ HX.out hG.d).mono ?_
                    rintro e1 v1 ⟨hn, y0, u, sa0, ta, rfl, ⟨rfl, b0, k0⟩, hD, SA0⟩
                    have hG := hG.call hn hD
                    have hN := hN.apart hn hnm.2.2
                    have hc := (gst_cells hG.box hkl).cI
                    rw [show ((gR h ws ds l [] ⟨AW, cW, AD, cD, A, c, none, 0⟩)).1.qs.length = l.length from rfl, HL.out] at hc
                    rw [pw2] at k0
                    have hS1 : (fun W' : World => W'.cell? ⟨tb, 77, none⟩ = some (.slice A j c)) v1 := hc
                    refine hK.out _ _ (fun _ => hS1) ?_
                    clear hK K
                    (try simp only [List.getElem_toArray, List.getElem_cons_succ, List.getElem_cons_zero, Act.put, List.setIfInBounds_toArray, List.set_cons_zero, List.set_cons_succ])
                    clear hn hD hc
                    have HSA0 := Lib.hid SA0
                    clear SA0
                    have q0 : IntKind.i64.wrap y0 = y0 := IntWalk.i64_in _ (by omega)
                    refine wpAnyU_take (i := 4) (v := ?vrI4) rfl (by kernel_rfl) (by kernel_rfl) (by kernel_rfl) (fun _ _ _ h => h) (Or.inl ⟨by kernel_rfl, ?hyrI4⟩) hS1 ?restrI4
                    case hyrI4 =>
                      intro w hSw
                      clear hSw
                      go_simp
                      first | done | with_reducible rfl
                    (try simp only [List.getElem_toArray, List.getElem_cons_succ, List.getElem_cons_zero, Act.put, List.setIfInBounds_toArray, List.set_cons_zero, List.set_cons_succ])
                    refine wpAnyU_call (i := 6) (by kernel_rfl) rfl (by kernel_rfl) fun K hK => ?_
                    simp only [List.getElem_toArray, List.getElem_cons_succ, List.getElem_cons_zero]
                    go_simp
                    go_at_call 29
                    refine (rnumber_any 2 65535 144 (by decide) (by decide) (by decide) x _ _ _ HX.out hG.d).mono ?_
                    rintro e1 v2 ⟨hn, y1, u, sa1, ta, rfl, ⟨rfl, b1, k1⟩, hD, SA1⟩
                    have hG := hG.call hn hD
                    have hN := hN.apart hn hnm.2.2
                    have hc := (gst_cells hG.box hkl).cI
                    rw [show ((gR h ws ds l [] ⟨AW, cW, AD, cD, A, c, none, 0⟩)).1.qs.length = l.length from rfl, HL.out] at hc
                    rw [pw2] at k1
                    have hS1 : (fun W' : World => W'.cell? ⟨tb, 77, none⟩ = some (.slice A j c)) v2 := hc
                    refine hK.out _ _ (fun _ => hS1) ?_
                    clear hK K
                    (try simp only [List.getElem_toArray, List.getElem_cons_succ, List.getElem_cons_zero, Act.put, List.setIfInBounds_toArray, List.set_cons_zero, List.set_cons_succ])
                    clear hn hD hc
                    have HSA1 := Lib.hid SA1
                    clear SA1
                    have q1 : IntKind.i64.wrap y1 = y1 := IntWalk.i64_in _ (by omega)
                    refine wpAnyU_take (i := 7) (v := ?vrI7) rfl (by kernel_rfl) (by kernel_rfl) (by kernel_rfl) (fun _ _ _ h => h) (Or.inl ⟨by kernel_rfl, ?hyrI7⟩) hS1 ?restrI7
                    case hyrI7 =>
                      intro w hSw
                      clear hSw
                      go_simp
                      first | done | with_reducible rfl
                    (try simp only [List.getElem_toArray, List.getElem_cons_succ, List.getElem_cons_zero, Act.put, List.setIfInBounds_toArray, List.set_cons_zero, List.set_cons_succ])
                    refine wpAnyU_call (i := 9) (by kernel_rfl) rfl (by kernel_rfl) fun K hK => ?_
                    simp only [List.getElem_toArray, List.getElem_cons_succ, List.getElem_cons_zero]
                    go_simp
                    go_at_call 29
                    refine (rnumber_any 4 1 144 (by decide) (by decide) (by decide) x _ _ _ HX.out hG.d).mono ?_
                    rintro e1 v3 ⟨hn, y2, u, sa2, ta, rfl, ⟨rfl, b2, k2⟩, hD, SA2⟩
                    have hG := hG.call hn hD
                    have hN := hN.apart hn hnm.2.2
                    have hc := (gst_cells hG.box hkl).cI
                    rw [show ((gR h ws ds l [] ⟨AW, cW, AD, cD, A, c, none, 0⟩)).1.qs.length = l.length from rfl, HL.out] at hc
                    rw [pw4] at k2
                    have hS1 : (fun W' : World => W'.cell? ⟨tb, 77, none⟩ = some (.slice A j c)) v3 := hc
                    refine hK.out _ _ (fun _ => hS1) ?_
                    clear hK K
                    (try simp only [List.getElem_toArray, List.getElem_cons_succ, List.getElem_cons_zero, Act.put, List.setIfInBounds_toArray, List.set_cons_zero, List.set_cons_succ])
                    clear hn hD hc
                    have HSA2 := Lib.hid SA2
                    clear SA2
                    refine wpAnyU_take (i := 10) (v := ?vrI10) rfl (by kernel_rfl) (by kernel_rfl) (by kernel_rfl) (fun _ _ _ h => h) (Or.inl ⟨by kernel_rfl, ?hyrI10⟩) hS1 ?restrI10
                    case hyrI10 =>
                      intro w hSw
                      clear hSw
                      go_simp
                      first | done | with_reducible rfl
                    (try simp only [List.getElem_toArray, List.getElem_cons_succ, List.getElem_cons_zero, Act.put, List.setIfInBounds_toArray, List.set_cons_zero, List.set_cons_succ])
                    refine wpAnyU_take (i := 11) (v := ?vrI11) rfl (by kernel_rfl) (by kernel_rfl) (by kernel_rfl) (fun _ _ _ h => h) (Or.inl ⟨by kernel_rfl, ?hyrI11⟩) hS1 ?restrI11
                    case hyrI11 =>
                      intro w hSw
                      clear hSw
                      go_simp
                      first | done | with_reducible rfl
                    (try simp only [List.getElem_toArray, List.getElem_cons_succ, List.getElem_cons_zero, Act.put, List.setIfInBounds_toArray, List.set_cons_zero, List.set_cons_succ])
                    refine wpAnyU_call (i := 12) (by kernel_rfl) rfl (by kernel_rfl) fun K hK => ?_
                    simp only [List.getElem_toArray, List.getElem_cons_succ, List.getElem_cons_zero]
                    go_simp
                    have hbB := bal (Below.refl v3.heap.size v3) (.cells #[.int .i64 y0, .int .i64 y1, .bool (y2 == 1)] 139)
                    have hG := hG.below HX.out hbB
                    have hN := hN.kept hbB
                    have hRB := Rd.fresh v3 #[.int .i64 y0, .int .i64 y1, .bool (y2 == 1)] 139 1 3 _ rfl rfl
                    have hc := (gst_cells hG.box hkl).cI
                    rw [show ((gR h ws ds l [] ⟨AW, cW, AD, cD, A, c, none, 0⟩)).1.qs.length = l.length from rfl, HL.out] at hc
                    refine hK.out _ _ (fun _ => hc) ?_
                    clear hK K
                    (try simp only [List.getElem_toArray, List.getElem_cons_succ, List.getElem_cons_zero, Act.put, List.setIfInBounds_toArray, List.set_cons_zero, List.set_cons_succ])
                    generalize v3.alloc (.cells #[.int .i64 y0, .int .i64 y1, .bool (y2 == 1)] 139) = v4 at *
                    have hown := hG.rows.rI
                    rw [show ((gR h ws ds l [] ⟨AW, cW, AD, cD, A, c, none, 0⟩)).1.qs = l from rfl, HL.out] at hown
                    have hNl := Lib.hid (show j + 1 ≤ maxLen by unfold maxLen; omega)
                    have hwl := hG.near.size
                    refine wpAnyU_call (i := 13) (by kernel_rfl) rfl (by kernel_rfl) fun K hK => ?_
                    simp only [List.getElem_toArray, List.getElem_cons_succ, List.getElem_cons_zero]
                    refine wp_app v4 elemI (.tmp 154) (.tmp 165) rfl w.heap.size (.slice A j c) j (l.flatMap encIq) ?hsI hown v4.heap.size (some ⟨v3.heap.size, 0, none⟩) 1 1 [.int .i64 y0, .int .i64 y1, .bool (y2 == 1)] ?hxI hRB (fun u hu => by simp only [List.mem_cons, List.not_mem_nil, or_false] at hu; rcases hu with rfl | rfl | rfl <;> rfl) hNl.out (by omega) hwl ?_
                    case hsI => go_simp
                    case hxI => go_simp
                    intro v' v5 hown' hb6 hg6
                    obtain ⟨A', c', rfl, _, _⟩ := own_slice hown'
                    obtain ⟨hD6, hT6, hZ6, hn6⟩ := hG.grown HX.out hown (by decide) (by decide) hg6
                    have hN6 : Blk v5 nb 132 #[.int .i64 N0, .int .i64 N1, .int .i64 N2, .int .i64 N3] := hN.same (hg6.block nb hN.lt (fun he => own_blk_ne hown hN (by decide) he))
                    have hr6 : Rows4 w.heap.size (gR h ws ds (l ++ [(⟨y0, y1, y2 == 1⟩ : Iq)]) [] ⟨AW, cW, AD, cD, A', c', none, 0⟩) v5 := by
                      have hlen : (l ++ [(⟨y0, y1, y2 == 1⟩ : Iq)]).length = j + 1 := by rw [List.length_append, HL.out]; rfl
                      have hfl : (l ++ [(⟨y0, y1, y2 == 1⟩ : Iq)]).flatMap encIq = l.flatMap encIq ++ [.int .i64 y0, .int .i64 y1, .bool (y2 == 1)] := by rw [List.flatMap_append]; rfl
                      constructor
                      · exact own_grown hG.rows.rW hown (by decide) hg6
                      · exact own_grown hG.rows.rD hown (by decide) hg6
                      · show World.ownsRow _ _ _ _ (.slice A' (l ++ [(⟨y0, y1, y2 == 1⟩ : Iq)]).length c') (l ++ [(⟨y0, y1, y2 == 1⟩ : Iq)]).length ((l ++ [(⟨y0, y1, y2 == 1⟩ : Iq)]).flatMap encIq)
                        rw [hlen, hfl]; exact hown'
                      · exact own_grown hG.rows.rS hown (by decide) hg6
                    have hc := (gst_cells hT6 hkl).cI
                    rw [show ((gR h ws ds l [] ⟨AW, cW, AD, cD, A, c, none, 0⟩)).1.qs.length = l.length from rfl, HL.out] at hc
                    refine hK.out _ _ (fun _ => hc) ?_
                    clear hK K
                    (try simp only [List.getElem_toArray, List.getElem_cons_succ, List.getElem_cons_zero, Act.put, List.setIfInBounds_toArray, List.set_cons_zero, List.set_cons_succ])
                    refine wpAnyU_take (i := 14) (v := ?vrI14) rfl (by kernel_rfl) (by kernel_rfl) (by kernel_rfl) (fun _ _ _ h => h) (Or.inl ⟨by kernel_rfl, ?hyrI14⟩) hc ?restrI14
                    case hyrI14 =>
                      intro w hSw
                      clear hSw
                      go_simp
                      first | done | with_reducible rfl
                    (try simp only [List.getElem_toArray, List.getElem_cons_succ, List.getElem_cons_zero, Act.put, List.setIfInBounds_toArray, List.set_cons_zero, List.set_cons_succ])
                    have cB6 := hT6.cell
                    have fB6 := hT6.frozen
                    refine wpAnyU_call (i := 15) (by kernel_rfl) rfl (by kernel_rfl) fun K hK => ?_
                    simp only [List.getElem_toArray, List.getElem_cons_succ, List.getElem_cons_zero]
                    go_simp
                    refine hK.out _ _ (fun h => absurd h (by decide)) ?_
                    clear hK K
                    (try simp only [List.getElem_toArray, List.getElem_cons_succ, List.getElem_cons_zero, Act.put, List.setIfInBounds_toArray, List.set_cons_zero, List.set_cons_succ])
                    refine wpAnyU_done (by kernel_rfl) ?_ _
                    have hlen : (l ++ [(⟨y0, y1, y2 == 1⟩ : Iq)]).length = j + 1 := by rw [List.length_append, HL.out]; rfl
                    have hGF := Lib.hid (RG.push (R' := (gR h ws ds (l ++ [(⟨y0, y1, y2 == 1⟩ : Iq)]) [] ⟨AW, cW, AD, cD, A', c', none, 0⟩)) hG HX.out hD6 hT6 hZ6 hn6 hr6 77 (.slice A' (j + 1) c') (gset77 hkl _ _ _ _ hlen))
                    have hNF := Lib.hid (hN6.apart ((Near.refl (fun i => i = tb) v5).setCell (p := ⟨tb, 77, none⟩) rfl (.slice A' (j + 1) c')) (Ne.symm hnt.1))
                    have HOk2 := Lib.hid (show ∀ y ∈ l ++ [(⟨y0, y1, y2 == 1⟩ : Iq)], IqOk y from fun y hy => by
                      rcases List.mem_append.1 hy with hy | hy
                      · exact HOk.out y hy
                      · rw [List.mem_singleton] at hy
                        subst hy
                        exact ⟨by show inI64 y0; unfold inI64; omega, by show inI64 y1; unfold inI64; omega⟩)
                    have HLn := Lib.hid hlen
                    clear hc hG hN hown hown' hb6 hg6 hD6 hT6 hZ6 hn6 hN6 hr6 cB6 fB6 hRB hbB hlen hwl hNl
                    go_wp2_with fail
                    go_roundw
                    case rel =>
                      exact ⟨j + 1, by omega, by go_num, sa2, _, l ++ [(⟨y0, y1, y2 == 1⟩ : Iq)], A', c', Lib.hid ⟨HLn.out, hGF.out, hNF.out, HS.out.list (HSA0.out.bnd (HSA1.out.bnd (Step.bnd (HSA2.out.bnd (Step.ret _ _ _)) (Step.ret _ _ _)))), HOk2.out⟩⟩
                    case measure => simp [intOf]; omega
                · have hlk : decide ((j : Int) < (N2 : Int)) = false := decide_eq_false (by omega)
                  have hjn : j = N2 := by omega
                  have HGN := Lib.hid (And.intro hG hN)
                  clear hG hN
                  go_wp2_with fail
                  go_meet
                  rw [hjn] at HS
                  exact ⟨_, _, l, A, c, Lib.hid ⟨HGN.out.1, HGN.out.2, HS.out, HOk.out⟩⟩
            case rest =>
              obtain ⟨s13, t13, qs, AI, cI, hhI⟩ := hcut
              have HGI := Lib.hid (And.intro hhI.out.1 hhI.out.2.1)
              have HLI := Lib.hid hhI.out.2.2
              clear hhI
              go_upto_block 8 with (fail)
              go_cut [] from 168 to 188 (fun wx => ∃ (s : RS) (t : Nat) (l : List Int) (A : Option Addr) (c : Nat), Hid (RG x rb tb (gR h ws ds qs l ⟨AW, cW, AD, cD, AI, cI, A, c⟩) s t w wx ∧ Blk wx nb 132 #[.int .i64 N0, .int .i64 N1, .int .i64 N2, .int .i64 N3] ∧ Step (listP wordP N3) x.b s13 l s ∧ (∀ y ∈ l, inU32 y)))
              case first =>
                go_wp2_with fail
                go_loopw [14] (fun iv wx => ∃ (j : Nat), j ≤ N3 ∧ iv = .int .i64 j ∧ ∃ (s : RS) (t : Nat) (l : List Int) (A : Option Addr) (c : Nat), Hid (l.length = j ∧ RG x rb tb (gR h ws ds qs l ⟨AW, cW, AD, cD, AI, cI, A, c⟩) s t w wx ∧ Blk wx nb 132 #[.int .i64 N0, .int .i64 N1, .int .i64 N2, .int .i64 N3] ∧ Step (listP wordP j) x.b s13 l s ∧ (∀ y ∈ l, inU32 y))) (fun iv _ => N3 - (intOf iv).toNat)
                case atStart => exact ⟨0, by omega, rfl, _, _, [], none, 0, Lib.hid ⟨rfl, HGI.out.1, HGI.out.2, Step.ret _ _ _, fun y hy => by cases hy⟩⟩
                case round =>
                  obtain ⟨j, hj, rfl, s, t, l, A, c, hh⟩ := hrel
                  obtain ⟨hl, hG, hN, hS, hok⟩ := hh.out
                  have HL := Lib.hid hl
                  have HS := Lib.hid hS
                  have HOk := Lib.hid hok
                  have cB := hG.d.box.cell
                  have cN := hN.cell
                  clear hh hl hS hok
                  by_cases hlt : j < N3
                  · have hlk : decide ((j : Int) < (N3 : Int)) = true := decide_eq_true (by omega)
                    rcases s with e | a
                    · have hne : (errS (.error e) == 0) = false := by have := hG.d.ne e rfl; simpa [errS] using this
                      have HGN := Lib.hid (And.intro hG hN)
                      clear hG hN
                      go_wp2_with fail
                      go_meet
                      exact ⟨_, _, l, A, c, Lib.hid ⟨HGN.out.1, HGN.out.2, HS.out.stop (by omega), HOk.out⟩⟩
                    · have hne : (errS (.ok a) == 0) = true := rfl
                      go_upto_region 38 with (fail)
                      clear cN cB hne hlk
                      have hbd : Below wr.heap.size wr wr.drew := (Below.refl _ _).drew
                      have hG := hG.below HX.out hbd
                      have hN := hN.kept hbd
                      have hc := (gst_cells hG.box hkl).cS
                      rw [show ((gR h ws ds qs l ⟨AW, cW, AD, cD, AI, cI, A, c⟩)).1.ss.length = l.length from rfl, HL.out] at hc
                      have hS1 : (fun W' : World => W'.cell? ⟨tb, 78, none⟩ = some (.slice A j c)) wr.drew := hc
                      refine wp_region_u (S := fun W' : World => W'.cell? ⟨tb, 78, none⟩ = some (.slice A j c)) 7 (by kernel_rfl) ?_
                      clear hbd hc
                      generalize wr.drew = v0 at *
                      refine wpAnyU_take (i := 0) (v := ?vrS0) rfl (by kernel_rfl) (by kernel_rfl) (by kernel_rfl) (fun _ _ _ h => h) (Or.inl ⟨by kernel_rfl, ?hyrS0⟩) hS1 ?restrS0
                      case hyrS0 =>
                        intro w hSw
                        clear hSw
                        go_simp
                        first | done | with_reducible rfl
                      (try simp only [List.getElem_toArray, List.getElem_cons_succ, List.getElem_cons_zero, Act.put, List.setIfInBounds_toArray, List.set_cons_zero, List.set_cons_succ])
                      refine wpAnyU_take (i := 1) (v := ?vrS1) rfl (by kernel_rfl) (by kernel_rfl) (by kernel_rfl) (fun _ _ _ h => h) (Or.inl ⟨by kernel_rfl, ?hyrS1⟩) hS1 ?restrS1
                      case hyrS1 =>
                        intro w hSw
                        (try dsimp only at hSw)
                        go_simp
                        first | done | with_reducible rfl
                      (try simp only [List.getElem_toArray, List.getElem_cons_succ, List.getElem_cons_zero, Act.put, List.setIfInBounds_toArray, List.set_cons_zero, List.set_cons_succ])
                      refine wpAnyU_take (i := 2) (v := ?vrS2) rfl (by kernel_rfl) (by kernel_rfl) (by kernel_rfl) (fun _ _ _ h => h) (Or.inl ⟨by kernel_rfl, ?hyrS2⟩) hS1 ?restrS2
                      case hyrS2 =>
                        intro w hSw
                        clear hSw
                        go_simp
                        first | done | with_reducible rfl
                      (try simp only [List.getElem_toArray, List.getElem_cons_succ, List.getElem_cons_zero, Act.put, List.setIfInBounds_toArray, List.set_cons_zero, List.set_cons_succ])
                      refine wpAnyU_call (i := 3) (by kernel_rfl) rfl (by kernel_rfl) fun K hK => ?_
                      simp only [List.getElem_toArray, List.getElem_cons_succ, List.getElem_cons_zero]
                      go_simp
                      go_at_call 29
                      refine (rnumber_any 4 4294967295 144 (by decide) (by decide) (by decide) x _ _ _ HX.out hG.d).mono ?_
                      rintro e1 v1 ⟨hn, y0, u, sa0, ta, rfl, ⟨rfl, b0, k0⟩, hD, SA0⟩
                      have hG := hG.call hn hD
                      have hN := hN.apart hn hnm.2.2
                      have hc := (gst_cells hG.box hkl).cS
                      rw [show ((gR h ws ds qs l ⟨AW, cW, AD, cD, AI, cI, A, c⟩)).1.ss.length = l.length from rfl, HL.out] at hc
                      rw [pw4] at k0
                      have hS1 : (fun W' : World => W'.cell? ⟨tb, 78, none⟩ = some (.slice A j c)) v1 := hc
                      refine hK.out _ _ (fun _ => hS1) ?_
                      clear hK K
                      (try simp only [List.getElem_toArray, List.getElem_cons_succ, List.getElem_cons_zero, Act.put, List.setIfInBounds_toArray, List.set_cons_zero, List.set_cons_succ])
                      clear hn hD hc
                      have HSA0 := Lib.hid SA0
                      clear SA0
                      have q0 : IntKind.u32.wrap y0 = y0 := IntWalk.u32_in _ (by omega)
                      refine wpAnyU_take (i := 4) (v := ?vrS4) rfl (by kernel_rfl) (by kernel_rfl) (by kernel_rfl) (fun _ _ _ h => h) (Or.inl ⟨by kernel_rfl, ?hyrS4⟩) hS1 ?restrS4
                      case hyrS4 =>
                        intro w hSw
                        clear hSw
                        go_simp
                        first | done | with_reducible rfl
                      (try simp only [List.getElem_toArray, List.getElem_cons_succ, List.getElem_cons_zero, Act.put, List.setIfInBounds_toArray, List.set_cons_zero, List.set_cons_succ])
                      refine wpAnyU_call (i := 5) (by kernel_rfl) rfl (by kernel_rfl) fun K hK => ?_
                      simp only [List.getElem_toArray, List.getElem_cons_succ, List.getElem_cons_zero]
                      go_simp
                      have hbB := bal (Below.refl v1.heap.size v1) (.cells #[.int .u32 y0] 24)
                      have hG := hG.below HX.out hbB
                      have hN := hN.kept hbB
                      have hRB := Rd.fresh v1 #[.int .u32 y0] 24 1 1 _ rfl rfl
                      have hc := (gst_cells hG.box hkl).cS
                      rw [show ((gR h ws ds qs l ⟨AW, cW, AD, cD, AI, cI, A, c⟩)).1.ss.length = l.length from rfl, HL.out] at hc
                      refine hK.out _ _ (fun _ => hc) ?_
                      clear hK K
                      (try simp only [List.getElem_toArray, List.getElem_cons_succ, List.getElem_cons_zero, Act.put, List.setIfInBounds_toArray, List.set_cons_zero, List.set_cons_succ])
                      generalize v1.alloc (.cells #[.int .u32 y0] 24) = v2 at *
                      have hown := hG.rows.rS
                      rw [show ((gR h ws ds qs l ⟨AW, cW, AD, cD, AI, cI, A, c⟩)).1.ss = l from rfl, HL.out] at hown
                      have hNl := Lib.hid (show j + 1 ≤ maxLen by unfold maxLen; omega)
                      have hwl := hG.near.size
                      refine wpAnyU_call (i := 6) (by kernel_rfl) rfl (by kernel_rfl) fun K hK => ?_
                      simp only [List.getElem_toArray, List.getElem_cons_succ, List.getElem_cons_zero]
                      refine wp_app v2 elemS (.tmp 182) (.tmp 186) rfl w.heap.size (.slice A j c) j (l.flatMap encU32) ?hsS hown v2.heap.size (some ⟨v1.heap.size, 0, none⟩) 1 1 [.int .u32 y0] ?hxS hRB (fun u hu => by simp only [List.mem_cons, List.not_mem_nil, or_false] at hu; rcases hu with rfl <;> rfl) hNl.out (by omega) hwl ?_
                      case hsS => go_simp
                      case hxS => go_simp
                      intro v' v3 hown' hb6 hg6
                      obtain ⟨A', c', rfl, _, _⟩ := own_slice hown'
                      obtain ⟨hD6, hT6, hZ6, hn6⟩ := hG.grown HX.out hown (by decide) (by decide) hg6
                      have hN6 : Blk v3 nb 132 #[.int .i64 N0, .int .i64 N1, .int .i64 N2, .int .i64 N3] := hN.same (hg6.block nb hN.lt (fun he => own_blk_ne hown hN (by decide) he))
                      have hr6 : Rows4 w.heap.size (gR h ws ds qs (l ++ [y0]) ⟨AW, cW, AD, cD, AI, cI, A', c'⟩) v3 := by
                        have hlen : (l ++ [y0]).length = j + 1 := by rw [List.length_append, HL.out]; rfl
                        have hfl : (l ++ [y0]).flatMap encU32 = l.flatMap encU32 ++ [.int .u32 y0] := by rw [List.flatMap_append]; rfl
                        constructor
                        · exact own_grown hG.rows.rW hown (by decide) hg6
                        · exact own_grown hG.rows.rD hown (by decide) hg6
                        · exact own_grown hG.rows.rI hown (by decide) hg6
                        · show World.ownsRow _ _ _ _ (.slice A' (l ++ [y0]).length c') (l ++ [y0]).length ((l ++ [y0]).flatMap encU32)
                          rw [hlen, hfl]; exact hown'
                      have hc := (gst_cells hT6 hkl).cS
                      rw [show ((gR h ws ds qs l ⟨AW, cW, AD, cD, AI, cI, A, c⟩)).1.ss.length = l.length from rfl, HL.out] at hc
                      refine hK.out _ _ (fun _ => hc) ?_
                      clear hK K
                      (try simp only [List.getElem_toArray, List.getElem_cons_succ, List.getElem_cons_zero, Act.put, List.setIfInBounds_toArray, List.set_cons_zero, List.set_cons_succ])
                      refine wpAnyU_take (i := 7) (v := ?vrS7) rfl (by kernel_rfl) (by kernel_rfl) (by kernel_rfl) (fun _ _ _ h => h) (Or.inl ⟨by kernel_rfl, ?hyrS7⟩) hc ?restrS7
                      case hyrS7 =>
                        intro w hSw
                        clear hSw
                        go_simp
                        first | done | with_reducible rfl
                      (try simp only [List.getElem_toArray, List.getElem_cons_succ, List.getElem_cons_zero, Act.put, List.setIfInBounds_toArray, List.set_cons_zero, List.set_cons_succ])
                      have cB6 := hT6.cell
                      have fB6 := hT6.frozen
                      refine wpAnyU_call (i := 8) (by kernel_rfl) rfl (by kernel_rfl) fun K hK => ?_
                      simp only [List.getElem_toArray, List.getElem_cons_succ, List.getElem_cons_zero]
                      go_simp
                      refine hK.out _ _ (fun h => absurd h (by decide)) ?_
                      clear hK K
                      (try simp only [List.getElem_toArray, List.getElem_cons_succ, List.getElem_cons_zero, Act.put, List.setIfInBounds_toArray, List.set_cons_zero, List.set_cons_succ])
                      refine wpAnyU_done (by kernel_rfl) ?_ _
                      have hlen : (l ++ [y0]).length = j + 1 := by rw [List.length_append, HL.out]; rfl
                      have hGF := Lib.hid (RG.push (R' := (gR h ws ds qs (l ++ [y0]) ⟨AW, cW, AD, cD, AI, cI, A', c'⟩)) hG HX.out hD6 hT6 hZ6 hn6 hr6 78 (.slice A' (j + 1) c') (gset78 hkl _ _ _ _ hlen))
                      have hNF := Lib.hid (hN6.apart ((Near.refl (fun i => i = tb) v3).setCell (p := ⟨tb, 78, none⟩) rfl (.slice A' (j + 1) c')) (Ne.symm hnt.1))
                      have HOk2 := Lib.hid (show ∀ y ∈ l ++ [y0], inU32 y from fun y hy => by
                        rcases List.mem_append.1 hy with hy | hy
                        · exact HOk.out y hy
                        · rw [List.mem_singleton] at hy
                          subst hy
                          exact ⟨b0, k0⟩)
                      have HLn := Lib.hid hlen
                      clear hc hG hN hown hown' hb6 hg6 hD6 hT6 hZ6 hn6 hN6 hr6 cB6 fB6 hRB hbB hlen hwl hNl
                      go_wp2_with fail
                      go_roundw
                      case rel =>
                        exact ⟨j + 1, by omega, by go_num, sa0, _, l ++ [y0], A', c', Lib.hid ⟨HLn.out, hGF.out, hNF.out, HS.out.list (HSA0.out), HOk2.out⟩⟩
                      case measure => simp [intOf]; omega
                  · have hlk : decide ((j : Int) < (N3 : Int)) = false := decide_eq_false (by omega)
                    have hjn : j = N3 := by omega
                    have HGN := Lib.hid (And.intro hG hN)
                    clear hG hN
                    go_wp2_with fail
                    go_meet
                    rw [hjn] at HS
                    exact ⟨_, _, l, A, c, Lib.hid ⟨HGN.out.1, HGN.out.2, HS.out, HOk.out⟩⟩
              case rest =>
                obtain ⟨s14, t14, ss, AS, cS, hhS⟩ := hcut
                have HGS := Lib.hid (And.intro hhS.out.1 hhS.out.2.1)
                have HLS := Lib.hid hhS.out.2.2
                clear hhS
                have hh2 := HH.out
                have hG := HGS.out.1
                obtain ⟨R, hR⟩ : ∃ R : Gs × Gp, R = gR h ws ds qs ss ⟨AW, cW, AD, cD, AI, cI, AS, cS⟩ := ⟨_, rfl⟩
                have hlen : (gcells R).length = 79 := by rw [hR]; exact gcells_len hkl
                rw [← hR] at hG
                have hTr := blk_range hG.box
                have hZ := hG.res
                have hi79 : (Try.prog.info? 70).map (·.size) = some (gcells R).length := by rw [hlen]; kernel_rfl
                have hzs : Try.zeroCells70.size = 79 := by kernel_rfl
                have HR := Lib.hid hR
                have HG2 := Lib.hid hG
                clear hR hG hh2
                go_wp2_with (first
                  | (refine wpList_load_mid rfl 70 (.tmp 3) rfl tb 0 (by rfl) (gcells R) _ hTr Try.underlying70 rfl hi79 ?_)
                  | (refine wpList_store_blk rfl 70 (.tmp 2) (.tmp 189) rfl rb 0 (gcells R).toArray (by rfl) (by rfl) hZ (by rw [List.size_toArray, hlen, hzs]; decide) (by rw [List.size_toArray]; exact hi79) (gcells_one _) (setAt_all _ _ (by rw [hzs]; simpa using hlen)) ?_; intro v5 hZ5 hb5 hz5 hh5))
                have hn5 := near_only (hb5 _ (Nat.le_refl _)) hz5 hh5
                have hG := HG2.out
                have hrl := hG.rl
                have hD5 := hG.d.near HX.out hn5 (fun i hi => by omega)
                have hnm2 : (strOfNums x1).size ≤ maxLen := by
                  rw [strOfNums_size]
                  have := HNm.out.1
                  unfold maxLen
                  omega
                have hy3 := Y3.out
                have hy4 := Y4.out
                have hy5 := Y5.out
                have hy6 := Y6.out
                have hy7 := Y7.out
                rw [pw4] at hy3 hy4 hy5
                rw [pw8] at hy6 hy7
                obtain rfl := HH.out
                obtain rfl := HR.out
                have hR4 := hG.rows
                refine bodyPost_ret (v := .agg (gcells _).toArray) (results_cell1 rfl (by rfl) (blk_range (by simpa using hZ5)) Try.underlying70 rfl hi79) rfl ⟨hG.near.step hn5 (fun i hi => .inr (by omega)), _, _, s14, t14, rfl, ⟨_, rfl, rfl, ⟨hnm2, hy3, hy4, hy5, hy6, hy7, HKl.out.1, HKl.out.2, HLW.out.2, HLD.out.2, HLI.out.2, HLS.out.2, ⟨_, hgl, own_apart hR4.rW hG.res (by decide) hn5⟩, ⟨_, hgl, own_apart hR4.rD hG.res (by decide) hn5⟩, ⟨_, hgl, own_apart hR4.rI hG.res (by decide) hn5⟩, ⟨_, hgl, own_apart hR4.rS hG.res (by decide) hn5⟩⟩⟩, hD5, ?_⟩
                have hhead : Step headP x.b s0 (x1, (x2 == 1), x3, x4, x5, x6, x7) s7 := HT1.out.bnd (Step.bnd (T2.out.bnd (Step.ret _ _ _)) (T3.out.bnd (T4.out.bnd (T5.out.bnd (T6.out.bnd (T7.out.bnd (Step.ret _ _ _)))))))
                exact hhead.bnd (HS9.out.bnd (HSC.out.bnd (HLW.out.1.bnd (HLD.out.1.bnd (HLI.out.1.bnd (HLS.out.1.bnd (Step.ret _ _ _)))))))
      · simp at hl4
end Go.Proofs.Ytmhbpfclfffgkaa
