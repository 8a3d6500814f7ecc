/- Chapter 22, the routes of interrupts: the program's. -/
import Derived.Test.YtnhlcfkjhacedaaIrqN
import Derived.Test.YtnhlcfkjhacedaaIrqS
namespace Go.Proofs.Ytnhlcfkjhacedaa
set_option linter.unusedVariables false
open Go.RowKit Go.Shelf
attribute [local go_sem] Oper.semAt_some

theorem wpIn_name {F : Fence} {n : Nat} {P : Program} {c : Code} {Q : Exit → Act → World → Prop} {a : Act} {w : World} (h : ∀ w1, w1 = w → c.wpIn F n P Q a w1) : c.wpIn F n P Q a w := h w rfl
theorem ownFrom_near {β : Type} {B : Nat} {S : Nat → Prop} {w0 : World} (hB : w0.heap.size ≤ B) : OwnFrom B (fun (_ : β) W => Near S w0 W) :=
  fun _ X Y row hs hg hr => ⟨hg.os.trans hs.os, hg.tape.trans hs.tape, hg.output.trans hs.output, Nat.le_trans hs.size hg.size, fun k hk hS => (hg.block k (Nat.lt_of_lt_of_le hk hs.size) (fun e => by have := (hr k e.symm).1; omega)).trans (hs.block k hk hS)⟩
theorem own_row {β : Type} (n₀ : Nat) (e : TypeId) (size : Nat) (v : Value) (k : Nat) (f : β → List Value → Prop) : Own (fun s W => ∃ xs, f s xs ∧ W.ownsRow n₀ e size v k xs) := by
  rintro s X Y row ⟨xs, hf, hr⟩ hg hrow
  refine ⟨xs, hf, hr.kept hg ?_⟩
  rcases hr.2 with ⟨rfl, _⟩ | ⟨g, cap, cur, rfl, _, hgb, _⟩
  · exact .inl rfl
  · refine .inr fun e' => ?_
    obtain ⟨o, ho, hc⟩ := hrow g (by simpa [Value.ownBlock] using e'.symm)
    rw [hgb] at ho; cases ho; cases hc
theorem own_blk {β : Type} (g : Nat) (t : TypeId) (cs : Array Value) : Own (fun (_ : β) W => Blk W g t cs) := by
  rintro s X Y row h hg hrow
  refine h.grown hg fun e => ?_
  obtain ⟨o, ho, hc⟩ := hrow g e.symm
  rw [show X.heap[g]? = _ from h] at ho; cases ho; cases hc

/-- A range over an iterator whose loop variable lies in a box of its own: the frame behind 'assign' is fr x b, b the box. -/
theorem wpIn_rangeFunc_box {F : Fence} {n : Nat} {P : Program} {α : Type} {g : Operand} {ps : Array Tmp} {assign body : Code} {Q : Exit → Act → World → Prop} {a : Act} {w : World}
    (hro : F.round = none) (h1 : 1 ≤ n) {gf : Nat} {lb : Array Value} (hg : a.eval g = .func (.func gf) #[] lb) (hFg : F.fn gf) (eg : ∀ args w, (callFunc gf args).run P w = .ok (.enter gf args) w)
    {encs : α → Array Value} {Kp : World → World → Prop} {S Sp : List α → Prop} {N : Nat} {w0 : World} (hseq : SeqStopsK F (n - 1) P gf lb encs Kp S Sp N w0)
    (hKt : ∀ {A B C : World}, Kp A B → Kp B C → Kp A C) (hKb : ∀ (W : World) (l : Nat) (o o' : Obj), w.heap.size ≤ l → W.heap[l]? = some o → o.isCells = false → o.isWalk = false → Kp W (W.putObj l o')) (hb0 : RowKit.Below w0.heap.size w0 w) (hps : ∀ x, (encs x).size = ps.size)
    (I : List α → World → Prop) (Ix : Code → List α → World → Prop) (hI : OwnFrom w.heap.size I) (hIx : ∀ c, OwnFrom w.heap.size (Ix c)) (h0 : I [] w) (obj : α → Obj) (ho : ∀ x, (obj x).isCells = true) (fr : α → Nat → Act)
    (hassign : ∀ (l : Nat) (pre : List α) (x : α) (W : World) (K : Act → World → Prop), I pre W → (∀ b W', KeepsFrom w.heap.size W W' → Kp W W' → I pre W' → W'.heap[b]? = some (obj x) → K (fr x b) W') →
      assign.wpIn (F.inRound l) (n - 1 - 1) P (Exit.then K (fun _ _ _ => False)) { tmps := (ps.zip (encs x)).foldl (fun t (p, v) => t.setIfInBounds p v) a.tmps, defers := [] } W)
    (hbody : ∀ (l : Nat) (pre : List α) (x : α) (b : Nat) (W : World), I pre W → W.heap[b]? = some (obj x) → pre.length < N → body.wpIn (F.inRound l) (n - 1 - 1) P (ownPostG w.heap.size Kp I Ix (pre ++ [x]) W) (fr x b) W)
    (hdone : ∀ (D : Nat) (xs : List α) (W : World), w.heap.size ≤ D → S xs → I xs W → W.heap[D]? = some (.deferred (some [])) → Q .normal { a with defers := { target := .collected D, args := #[] } :: a.defers } W)
    (hstop : ∀ (D : Nat) (c : Code) (pre : List α) (W : World), w.heap.size ≤ D → Sp pre → Ix c pre W → W.heap[D]? = some (.deferred (some [])) → c.wpIn F n P Q { a with defers := { target := .collected D, args := #[] } :: a.defers } W) :
    (Code.rangeFunc g ps assign body).wpIn F n P Q a w :=
  wpIn_rangeFunc_ownH hro h1 hg hFg eg hseq hKt hKb hb0 hps I Ix hI hIx h0 (fun x a' W => ∃ b, a' = fr x b ∧ W.heap[b]? = some (obj x))
    (fun x a' s X Y row hs hg' hr => by
      obtain ⟨b, e, hb⟩ := hs
      refine ⟨b, e, (hg'.block b (Array.getElem?_eq_some_iff.1 hb).1 fun e' => ?_).trans hb⟩
      obtain ⟨_, o, hbo, hc⟩ := hr b e'.symm
      rw [hb] at hbo; cases hbo
      rw [ho x] at hc; cases hc)
    (fun l pre x W K hi hK => hassign l pre x W K hi fun b W' h1 h2 h3 h4 => hK _ _ h1 h2 h3 ⟨b, rfl, h4⟩)
    (fun l pre x a' W _ _ hi hA hl => by
      obtain ⟨b, rfl, hb⟩ := hA
      exact hbody l pre x b W hi hb hl)
    hdone hstop

theorem GOk.more {w : World} {B B' : Nat} {g : Gd} (h : GOk w B g) (hB : B ≤ B') : GOk w B' g :=
  ⟨h.len, h.one, h.c0, h.c1, h.cW, h.cD, h.cI, h.cS, h.li, h.ls, h.ri.more hB, h.rs.more hB, h.bs, h.mI, h.mS, h.mW, h.mD, h.mN⟩
/-- The table when so many entries have been given nobody. -/
def lpR (n k : Nat) : List Rt := List.replicate k mR ++ List.replicate (n - k) zR
theorem lpR_len {n k : Nat} (h : k ≤ n) : (lpR n k).length = n := by simp [lpR]; omega
theorem lpR_get {n k : Nat} (h : k < n) (h' : k < (lpR n k).length) : (lpR n k)[k] = zR := by
  simp [lpR, List.getElem_append_right]
theorem lpR_set {n k : Nat} (h : k < n) : (lpR n k).set k mR = lpR n (k + 1) := by
  unfold lpR
  obtain ⟨d, rfl⟩ : ∃ d, n = k + 1 + d := ⟨n - (k + 1), by omega⟩
  rw [show k + 1 + d - k = d + 1 by omega, show k + 1 + d - (k + 1) = d by omega, List.replicate_succ (n := d), List.replicate_succ' (n := k), List.set_append_right _ _ (by simp)]
  simp
set_option maxRecDepth 100000 in
set_option maxHeartbeats 8000000 in
theorem routes_in (n : Nat) (ver : Int) (A : Option Addr) (ng c : Nat) (A2 : Option Addr) (n2 c2 : Nat) (A3 : Option Addr) (c3 : Nat) (gs : List Gd) (st : List Bool) (w : World) (hn : n ≤ 1020) (hng : ng ≤ 20) (hl3 : st.length = ng)
    (hfew : ∀ k, k < ng → fewG (gs.getD k zG) = true) (hg : ∀ W, RowKit.Below w.heap.size w W → GsOk W w.heap.size ng gs) (hr : ∀ W, RowKit.Below w.heap.size w W → GRows W A ng gs) (hr3 : Rd w w.heap.size 1 A3 ng (st.flatMap encBl)) :
    CallsIn Fence.wide 5 Try.prog 16 #[.int .i64 n, .agg #[.int .u32 ver, .slice A ng c, .slice A2 n2 c2], .slice A3 ng c3] w (RouR (routesN n gs st ng) n w) := by
  have hro : Fence.wide.round = none := rfl
  have h1f : Fence.wide.fn 16 := trivial
  have h2f : Fence.wide.fn 33 := trivial
  have h3f : Fence.wide.fn 46 := trivial
  have h1 : 1 ≤ 5 := by omega
  obtain ⟨R, hR⟩ : ∃ R, routesN n gs st ng = R := ⟨_, rfl⟩
  rw [hR]
  have HRes := Lib.hid hR
  have HL3 := Lib.hid hl3
  have HG := Lib.hid hg
  have HF := Lib.hid hfew
  have HR := Lib.hid hr
  have HR3 := Lib.hid hr3
  have hmk := fun w => make_routes w n (by omega)
  have hcs : (madeCells #[Value.int .i64 0, .int .i64 0, .bool false] (n * 3)).size = n * 3 := size_madeCells _ _
  have HM := Lib.hid (made_routes n)
  generalize madeCells #[Value.int .i64 0, .int .i64 0, .bool false] (n * 3) = cur at *
  clear hR hl3 hg hfew hr hr3
  refine callsIn_of_wp_marks Try.func16 rfl h1f ?_ hro
  simp only [Try.ntmps16, List.size_toArray, List.length_cons, List.length_nil, Nat.reduceAdd, Nat.reduceSub, Array.replicate_succ, Array.replicate_zero, List.push_toArray, List.append_toArray, List.nil_append, List.cons_append]
  gi_wp2
  refine wpIn_name ?_
  intro w6 hw6
  obtain ⟨gl, hgl, hb6, ho6, hN6, hC6, hP6, hQ6, hL6, hs6⟩ : ∃ gl, gl = w.heap.size + 1 + 1 + 1 + 1 ∧ RowKit.Below w.heap.size w w6 ∧ w6.ownsRow w.heap.size 58 3 (.slice (some ⟨gl, 0, none⟩) n n) n ((List.replicate n zR).flatMap encR) ∧ Blk w6 w.heap.size 3 #[.int .i64 n] ∧ Blk w6 (w.heap.size + 1) 33 #[.int .u32 ver, .slice A ng c, .slice A2 n2 c2] ∧
      Blk w6 (w.heap.size + 1 + 1) 36 #[.slice none 0 0] ∧ Blk w6 (w.heap.size + 1 + 1 + 1) 37 #[.int .i64 0] ∧ Blk w6 (w.heap.size + 1 + 1 + 1 + 1 + 1) 36 #[.slice (some ⟨gl, 0, none⟩) n n] ∧ w6.heap.size = w.heap.size + 1 + 1 + 1 + 1 + 1 + 1 := by
    refine ⟨_, rfl, ?_, ?_, ?_, ?_, ?_, ?_, ?_, ?_⟩
    all_goals rw [hw6]
    · exact bal (bal (bal (bal (bal (bal (RowKit.Below.refl _ _) _) _) _) _) _) _
    · rw [← HM.out]
      have := own_made (w := (((w.alloc (.cells #[.int .i64 n] 3)).alloc (.cells #[.int .u32 ver, .slice A ng c, .slice A2 n2 c2] 33)).alloc (.cells #[.slice none 0 0] 36)).alloc (.cells #[.int .i64 0] 37)) (base := w.heap.size) (e := 58) (size := 3) (n := n) (cur := cur) (by simp; omega) (by unfold maxLen; omega) hcs
      simp only [World.size_alloc] at this
      exact this.alloc _
    · exact (((((Blk.new _ _ _).alloc _).alloc _).alloc _).alloc _).alloc _
    · exact ((((Blk.fresh _ _ _).alloc _).alloc _).alloc _).alloc _
    · exact (((Blk.fresh _ _ _).alloc _).alloc _).alloc _
    · exact ((Blk.fresh _ _ _).alloc _).alloc _
    · exact Blk.fresh _ _ _
    · simp
  clear hw6 hmk hcs HM
  have hgl1 : gl ≤ w.heap.size + 4 := by omega
  have hgl3 : w.heap.size + 4 ≤ gl := by omega
  clear hgl
  have HN6 := Lib.hid hN6
  have HC6 := Lib.hid hC6
  have HP6 := Lib.hid hP6
  have HQ6 := Lib.hid hQ6
  have HL6 := Lib.hid hL6
  clear hN6 hC6 hP6 hQ6 hL6
  gi_loopw [30] (fun i wr => ∃ k : Nat, k ≤ n ∧ i = .int .i64 k ∧ wr.ownsRow w.heap.size 58 3 (.slice (some ⟨gl, 0, none⟩) n n) n ((lpR n k).flatMap encR) ∧ Near (fun i => i = gl) w6 wr) (fun i _ => n - (intOf i).toNat)
  case atStart => exact ⟨0, by omega, rfl, by simpa [lpR] using ho6, Near.refl _ _⟩
  case round =>
    obtain ⟨k, hk, rfl, ho, hnr⟩ := hrel
    clear ho6
    have hcL := (HL6.out.same (hnr.block _ HL6.out.lt (by omega))).cell
    by_cases hlt : k < n
    · have hll := lpR_len hk
      have c0 := ho.cellAt (k * 3) (by omega)
      have e0 := flatMap_get (enc := encR) (s := 3) (fun _ => rfl) (lpR n k) k 0 (by omega) (by rw [hll]; exact hlt)
      rw [Nat.add_zero] at e0
      rw [e0, lpR_get hlt] at c0
      simp only [encR, zR, List.getElem?_cons_zero] at c0
      have hfz := ho.frozenAt
      have HO := Lib.hid (show (wr.setCell ⟨gl, k * 3, none⟩ (.int .i64 (-1))).ownsRow w.heap.size 58 3 (.slice (some ⟨gl, 0, none⟩) n n) n ((lpR n (k + 1)).flatMap encR) by
        have h3 := (ho.stored (k * 3) (.int .i64 (-1))).1
        rw [flatR_set1 _ k (by rw [hll]; exact hlt), lpR_get hlt] at h3
        rw [← lpR_set hlt]
        exact h3)
      have hgl2 := (own_lt ho (k := gl) (by simp [Value.ownBlock])).2
      clear e0 hll ho
      have hlL := (HL6.out.same (hnr.block _ HL6.out.lt (by omega))).lt
      gi_wp2
      go_roundw
      case rel => exact ⟨k + 1, by omega, by go_num, HO.out, hnr.setCell (p := ⟨gl, k * 3, none⟩) rfl _⟩
      case measure => simp [intOf]; omega
    · obtain rfl : k = n := by omega
      have ho7 : wr.ownsRow w.heap.size 58 3 (.slice (some ⟨gl, 0, none⟩) k k) k ((List.replicate k mR).flatMap encR) := by simpa [lpR] using ho
      have HO7 := Lib.hid ho7
      have hcC := (HC6.out.same (hnr.block _ HC6.out.lt (by omega))).cell
      clear ho ho7
      gi_wp2_with (gi_at_call 33; refine (named_in Fence.wide (5 - 1) h2f hro ver A ng c A2 n2 c2 A3 ng c3 _).mono ?_; rintro e w' ⟨rfl, rfl⟩)
      obtain ⟨w8, hw8⟩ : ∃ w8, (wr.alloc (.cells #[.int .u32 ver, .slice A ng c, .slice A2 n2 c2] 33)).alloc (.cells #[.slice A3 ng c3] 34) = w8 := ⟨_, rfl⟩
      have hn8 : Near (fun i => i = gl) w6 w8 := by rw [← hw8]; exact (hnr.alloc _).alloc _
      have hs8 : w8.heap.size = wr.heap.size + 1 + 1 := by rw [← hw8]; simp
      have hBC : Blk w8 wr.heap.size 33 #[.int .u32 ver, .slice A ng c, .slice A2 n2 c2] := by rw [← hw8]; exact (Blk.new _ _ _).alloc _
      have hBS : Blk w8 (wr.heap.size + 1) 34 #[.slice A3 ng c3] := by rw [← hw8]; exact Blk.fresh _ _ _
      have hO8 : w8.ownsRow w.heap.size 58 3 (.slice (some ⟨gl, 0, none⟩) k k) k ((List.replicate k mR).flatMap encR) := by rw [← hw8]; exact (HO7.out.alloc _).alloc _
      rw [hw8]
      have hzr := hnr.size
      have hb8 : RowKit.Below w.heap.size w w8 := hb6.trans (hn8.below (fun i h => by omega) hb6.size)
      have hKb : ∀ W, KpI gl w8.heap.size w8 W → RowKit.Below w.heap.size w W := fun W h => hb8.trans (h.below (fun i h => by omega) (by omega))
      have hseq : SeqStopsK Fence.wide (5 - 1) Try.prog 46 #[.pointer (some ⟨wr.heap.size, 0, none⟩), .pointer (some ⟨wr.heap.size + 1, 0, none⟩)] encX (KpI gl w8.heap.size) (fun ys => ys = namedK st gs ng) (fun pre => pre <+: namedK st gs ng) (namedK st gs ng).length w8 := by
        intro l J Jx W hW hJ hJx hY h0
        refine named1_in Fence.wide (5 - 1) h3f hro (by omega) l wr.heap.size (wr.heap.size + 1) gl w8.heap.size w8 (Nat.le_refl _) ver A ng c A2 n2 c2 A3 c3 gs st hng HL3.out ?_ ?_ HF.out ?_ ?_ ?_ J Jx ?_ hY W (Near.of_below _ hW) h0
        · intro W hW; exact hBC.same (hW.block _ hBC.lt (by rintro (h | h) <;> omega))
        · intro W hW; exact hBS.same (hW.block _ hBS.lt (by rintro (h | h) <;> omega))
        · intro W hW; exact fun k hk => (HG.out W (hKb W hW) k hk).more (by omega)
        · intro W hW; exact HR.out W (hKb W hW)
        · intro W hW; exact (HR3.out.below (hKb W hW)).more (by omega)
        · intro pre W o h; exact hJ pre W _ none h (World.grownBy_alloc W o none) (fun r e => by cases e)
      have HKB := Lib.hid hKb
      have HN8 := Lib.hid (HN6.out.same (hn8.block _ HN6.out.lt (by omega)))
      have HP8 := Lib.hid (HP6.out.same (hn8.block _ HP6.out.lt (by omega)))
      have HQ8 := Lib.hid (HQ6.out.same (hn8.block _ HQ6.out.lt (by omega)))
      have HL8 := Lib.hid (HL6.out.same (hn8.block _ HL6.out.lt (by omega)))
      have hlw : w.heap.size + 6 ≤ w8.heap.size := by omega
      clear hw8 hnr hn8 hs8 hBC hBS hzr hcL hcC HN6 HC6 HP6 HQ6 HL6 HO7 hb6 hs6 hKb
      refine' wpIn_rangeFunc_box hro h1 (gf := 46) (lb := #[.pointer (some ⟨wr.heap.size, 0, none⟩), .pointer (some ⟨wr.heap.size + 1, 0, none⟩)]) rfl h3f (enters_of Try.func46 (by kernel_rfl) rfl) hseq kpI_t kpI_b (RowKit.Below.refl _ _) (fun _ => rfl)
        (fun (pre : List (Nat × Iq)) W => (∃ xs, (∃ l', runR (List.replicate k mR) pre = some l' ∧ xs = l'.flatMap encR) ∧ W.ownsRow w.heap.size 58 3 (.slice (some ⟨gl, 0, none⟩) k k) k xs) ∧ Near (fun i => i = gl) w8 W)
        (fun c' (pre : List (Nat × Iq)) W => (c' = Code.ret ∧ runR (List.replicate k mR) pre = none) ∧ Blk W (w.heap.size + 1 + 1) 36 #[.slice none 0 0] ∧ Blk W (w.heap.size + 1 + 1 + 1) 37 #[.int .i64 220] ∧ RowKit.Below w.heap.size w W)
        (OwnFrom.and (Own.from (own_row _ _ _ _ _ _) _) (ownFrom_near (Nat.le_refl _)))
        (fun c' => OwnFrom.and (ownFrom_pure _ _) (OwnFrom.and (Own.from (own_blk _ _ _) _) (OwnFrom.and (Own.from (own_blk _ _ _) _) (ownFrom_below (Nat.le_refl _) (by omega)))))
        ⟨⟨_, ⟨_, rfl, rfl⟩, hO8⟩, Near.refl _ _⟩ (fun x => .cells #[.int .i64 x.2.num, .int .i64 x.2.cpu, .bool x.2.edge] 56) (fun _ => rfl) _ ?assign ?body ?done ?stop
      case assign =>
        rintro l pre x W K ⟨⟨xs, hf, hr⟩, hnW⟩ hK
        have HK := Lib.hid hK
        have HI := Lib.hid hf
        have HR := Lib.hid hr
        clear hK hf hr
        unfold encX
        gi_wp2
        have hK2 := HK.out W.heap.size (W.alloc (.cells #[.int .i64 x.2.num, .int .i64 x.2.cpu, .bool x.2.edge] 56)) ((KeepsOthers.alloc W _).from _) ((Near.refl _ _).alloc _) ⟨⟨xs, HI.out, HR.out.alloc _⟩, hnW.alloc _⟩ (Blk.new _ _ _)
        refine Eq.mp (congrArg (fun z => K z _) ?_) hK2
        generalize W.heap.size = b
        rfl
      case body =>
        rintro l pre ⟨g, ⟨qn, qc, qe⟩⟩ b W ⟨⟨xs, ⟨l', hl', rfl⟩, hr⟩, hnW⟩ hbk hlen
        have hB : Blk W b 56 #[.int .i64 qn, .int .i64 qc, .bool qe] := hbk
        have HRun := Lib.hid hl'
        have HLn := Lib.hid (show l'.length = k by rw [runR_len hl']; simp)
        have hN := HN8.out.same (hnW.block _ HN8.out.lt (by omega))
        have hP := HP8.out.same (hnW.block _ HP8.out.lt (by omega))
        have hQ := HQ8.out.same (hnW.block _ HQ8.out.lt (by omega))
        have hL := HL8.out.same (hnW.block _ HL8.out.lt (by omega))
        have hbW := HKB.out W (hnW.mono fun i h => .inl h)
        have hcB := hB.cell
        have hcN := hN.cell
        have hcL := hL.cell
        have hcP := hP.cell
        have hfP := hP.frozen
        have hcQ := hQ.cell
        have hfQ := hQ.frozen
        have HS := Lib.hid (show runR (List.replicate k mR) (pre ++ [(g, ⟨qn, qc, qe⟩)]) = stepR l' (g, ⟨qn, qc, qe⟩) by rw [runR_snoc, hl']; rfl)
        have HE := Lib.hid (show runR (List.replicate k mR) (pre ++ [(g, ⟨qn, qc, qe⟩)]) = none → ownPostG w8.heap.size (KpI gl w8.heap.size) (fun (pre : List (Nat × Iq)) W => (∃ xs, (∃ l', runR (List.replicate k mR) pre = some l' ∧ xs = l'.flatMap encR) ∧ W.ownsRow w.heap.size 58 3 (.slice (some ⟨gl, 0, none⟩) k k) k xs) ∧ Near (fun i => i = gl) w8 W)
          (fun c' (pre : List (Nat × Iq)) W => (c' = Code.ret ∧ runR (List.replicate k mR) pre = none) ∧ Blk W (w.heap.size + 1 + 1) 36 #[.slice none 0 0] ∧ Blk W (w.heap.size + 1 + 1 + 1) 37 #[.int .i64 220] ∧ RowKit.Below w.heap.size w W) (pre ++ [(g, ⟨qn, qc, qe⟩)]) W .ret { tmps := #[], defers := [] } ((W.setCell ⟨w.heap.size + 1 + 1, 0, none⟩ (.slice none 0 0)).setCell ⟨w.heap.size + 1 + 1 + 1, 0, none⟩ (.int .i64 220)) from fun h =>
          ⟨((KeepsOthers.setCell _ _ _).trans (KeepsOthers.setCell _ _ _)).from _, ⟨rfl, h⟩, Boxed.other (Boxed.set (.slice none 0 0) hP) (by omega) _, Boxed.set (.int .i64 220) (Boxed.other hQ (by omega) _), (hbW.setCell (by simp; omega) _).setCell (by simp; omega) _⟩)
        have HW := Lib.hid hbW
        clear hl' hbk hlen hN hP hQ hL hB hbW
        by_cases q1 : qn < 0
        · have HNo := Lib.hid (HE.out (by rw [HS.out, stepR, if_pos (.inl q1)]))
          gi_wp2
          exact HNo.out
        · by_cases q2 : (k : Int) ≤ qn
          · have HNo := Lib.hid (HE.out (by rw [HS.out, stepR, if_pos (.inr (.inl (by rw [HLn.out]; exact q2)))]))
            gi_wp2
            exact HNo.out
          · obtain ⟨j, rfl⟩ := Int.eq_ofNat_of_zero_le (show 0 ≤ qn by omega)
            have hj : j < k := by omega
            have c0 := hr.cellAt (j * 3) (by omega)
            have c1 := hr.cellAt (j * 3 + 1) (by omega)
            have c2' := hr.cellAt (j * 3 + 2) (by omega)
            have hj' : j < l'.length := by rw [HLn.out]; exact hj
            have e0 := flatMap_get (enc := encR) (s := 3) (fun _ => rfl) l' j 0 (by omega) hj'
            have e1 := flatMap_get (enc := encR) (s := 3) (fun _ => rfl) l' j 1 (by omega) hj'
            have e2 := flatMap_get (enc := encR) (s := 3) (fun _ => rfl) l' j 2 (by omega) hj'
            rw [Nat.add_zero] at e0
            rw [e0] at c0
            rw [e1] at c1
            rw [e2] at c2'
            have hgd : l'.getD j zR = l'[j] := by rw [List.getD_eq_getElem?_getD, List.getElem?_eq_getElem hj']; rfl
            simp only [encR, List.getElem?_cons_zero, List.getElem?_cons_succ] at c0 c1 c2'
            have hfz := hr.frozenAt
            have hHO := row_set3 HLn.out hr j hj ⟨g, qc, qe⟩
            have hSN : ∀ (h : ¬ (0 ≤ (l'[j]).own ∨ qc < 0 ∨ 32 ≤ qc)), stepR l' (g, ⟨(j : Int), qc, qe⟩) = some (l'.set j ⟨g, qc, qe⟩) := fun h => by
              rw [stepR, if_neg]
              · rfl
              · rintro (h1 | h1 | h1)
                · exact q1 h1
                · rw [HLn.out] at h1; exact q2 h1
                · rw [Int.toNat_natCast, hgd] at h1; exact h h1
            have hSE : ∀ (h : 0 ≤ (l'[j]).own ∨ qc < 0 ∨ 32 ≤ qc), stepR l' (g, ⟨(j : Int), qc, qe⟩) = none := fun h => by
              rw [stepR, if_pos (.inr (.inr (by rw [Int.toNat_natCast, hgd]; exact h)))]
            have hgl4 := (own_lt hr (k := gl) (by simp [Value.ownBlock])).2
            have HHO := Lib.hid hHO
            clear e0 e1 e2 hgd hr hHO
            generalize l'[j] = old at *
            by_cases q3 : 0 ≤ old.own
            · have HNo := Lib.hid (HE.out (by rw [HS.out, hSE (.inl q3)]))
              clear hSN hSE
              gi_wp2
              exact HNo.out
            · by_cases q4 : qc < 0
              · have HNo := Lib.hid (HE.out (by rw [HS.out, hSE (.inr (.inl q4))]))
                clear hSN hSE
                gi_wp2
                exact HNo.out
              · by_cases q5 : 32 ≤ qc
                · have HNo := Lib.hid (HE.out (by rw [HS.out, hSE (.inr (.inr q5))]))
                  clear hSN hSE
                  gi_wp2
                  exact HNo.out
                · have HY := Lib.hid (show runR (List.replicate k mR) (pre ++ [(g, ⟨(j : Int), qc, qe⟩)]) = some (l'.set j ⟨g, qc, qe⟩) by rw [HS.out, hSN (by omega)])
                  clear hSN hSE HE
                  gi_wp2
                  have hn3 : Near (fun i => i = gl) W (((W.setCell ⟨gl, j * 3, none⟩ (.int .i64 g)).setCell ⟨gl, j * 3 + 1, none⟩ (.int .i64 qc)).setCell ⟨gl, j * 3 + 2, none⟩ (.bool qe)) :=
                    (((Near.refl (fun i => i = gl) W).setCell (p := ⟨gl, j * 3, none⟩) rfl _).setCell (p := ⟨gl, j * 3 + 1, none⟩) rfl _).setCell (p := ⟨gl, j * 3 + 2, none⟩) rfl _
                  exact ⟨(((KeepsOthers.setCell _ _ _).trans (KeepsOthers.setCell _ _ _)).trans (KeepsOthers.setCell _ _ _)).from _, hn3.mono fun i h => .inl h, ⟨_, ⟨_, HY.out, rfl⟩, HHO.out⟩, hnW.trans hn3⟩
      case done =>
        rintro D ys W hD rfl ⟨⟨xs, ⟨l', hl', rfl⟩, hr⟩, hnW⟩ hK
        have HF2 := Lib.hid (show R = some l' by rw [← HRes.out]; exact hl')
        have HLn := Lib.hid (show l'.length = k by rw [runR_len hl']; simp)
        have hP := HP8.out.same (hnW.block _ HP8.out.lt (by omega))
        have hQ := HQ8.out.same (hnW.block _ HQ8.out.lt (by omega))
        have hL := HL8.out.same (hnW.block _ HL8.out.lt (by omega))
        have hbW := HKB.out W (hnW.mono fun i h => .inl h)
        have hcP := hP.cell
        have hfP := hP.frozen
        have hcQ := hQ.cell
        have hfQ := hQ.frozen
        have hcL := hL.cell
        have hK2 := ((KeepsOthers.setCell W ⟨w.heap.size + 1 + 1, 0, none⟩ (.slice (some ⟨gl, 0, none⟩) k k)).trans (KeepsOthers.setCell _ ⟨w.heap.size + 1 + 1 + 1, 0, none⟩ (.int .i64 0))).same D _ hK rfl
        have hP2 : Blk ((W.setCell ⟨w.heap.size + 1 + 1, 0, none⟩ (.slice (some ⟨gl, 0, none⟩) k k)).setCell ⟨w.heap.size + 1 + 1 + 1, 0, none⟩ (.int .i64 0)) (w.heap.size + 1 + 1) 36 #[.slice (some ⟨gl, 0, none⟩) k k] := Boxed.other (Boxed.set (.slice (some ⟨gl, 0, none⟩) k k) hP) (by omega) _
        have hQ2 : Blk ((W.setCell ⟨w.heap.size + 1 + 1, 0, none⟩ (.slice (some ⟨gl, 0, none⟩) k k)).setCell ⟨w.heap.size + 1 + 1 + 1, 0, none⟩ (.int .i64 0)) (w.heap.size + 1 + 1 + 1) 37 #[.int .i64 0] := Boxed.set (.int .i64 0) (Boxed.other hQ (by omega) _)
        have hb2 : RowKit.Below w.heap.size w ((W.setCell ⟨w.heap.size + 1 + 1, 0, none⟩ (.slice (some ⟨gl, 0, none⟩) k k)).setCell ⟨w.heap.size + 1 + 1 + 1, 0, none⟩ (.int .i64 0)) := (hbW.setCell (by simp; omega) _).setCell (by simp; omega) _
        have hr2 : ((W.setCell ⟨w.heap.size + 1 + 1, 0, none⟩ (.slice (some ⟨gl, 0, none⟩) k k)).setCell ⟨w.heap.size + 1 + 1 + 1, 0, none⟩ (.int .i64 0)).ownsRow w.heap.size 58 3 (.slice (some ⟨gl, 0, none⟩) k k) k (l'.flatMap encR) :=
          own_same hr fun i hi => by
            obtain rfl : gl = i := by simpa [Value.ownBlock] using hi
            exact (RowKit.Below.heap_setCell _ _ _ _ (by simp; omega)).trans (RowKit.Below.heap_setCell _ _ _ _ (by simp; omega))
        have HK2 := Lib.hid hK2
        have HP2 := Lib.hid hP2
        have HQ2 := Lib.hid hQ2
        have HB2 := Lib.hid hb2
        have HR2 := Lib.hid hr2
        have HD := Lib.hid hD
        clear hK2 hP2 hQ2 hb2 hr2 hD hK hl'
        gi_wp2
        refine ⟨by simp, .inl ⟨_, _, rfl, run_takeDeferred HK2.out, ?_⟩⟩
        have hD := HD.out
        have hK3 := grownBy_putObj' ((W.setCell ⟨w.heap.size + 1 + 1, 0, none⟩ (.slice (some ⟨gl, 0, none⟩) k k)).setCell ⟨w.heap.size + 1 + 1 + 1, 0, none⟩ (.int .i64 0)) D (.deferred none)
        have hc6 := ((HP2.out).grown hK3 (by simp; omega)).cell 0
        have hc7 := ((HQ2.out).grown hK3 (by simp; omega)).cell 0
        refine ⟨.tuple #[.slice (some ⟨gl, 0, none⟩) k k, .int .i64 0], ?_, ?_⟩
        · simp at hc6 hc7
          simp [results, Try.f16, go_sem, hc6, hc7]
        · rw [HF2.out]
          refine ⟨⟨_, _, rfl, HLn.out, Rd.of_own (ownsRow_putObj HR2.out _ HK2.out rfl)⟩, ?_⟩
          exact HB2.out.trans (belowK_b (w := w8) (by omega) _ D _ _ hD HK2.out rfl rfl)
      case stop =>
        rintro D c' pre W hD hpre ⟨⟨rfl, hno⟩, hP, hQ, hbW⟩ hK
        have HF2 := Lib.hid (show R = none by rw [← HRes.out]; exact runR_none hpre hno)
        have HK2 := Lib.hid hK
        have HD := Lib.hid hD
        have HP2 := Lib.hid hP
        have HQ2 := Lib.hid hQ
        clear hK hD hP hQ hno
        gi_wp2
        refine ⟨by simp, .inl ⟨_, _, rfl, run_takeDeferred HK2.out, ?_⟩⟩
        have hD := HD.out
        have hK3 := grownBy_putObj' W D (.deferred none)
        have hc6 := ((HP2.out).grown hK3 (by simp; omega)).cell 0
        have hc7 := ((HQ2.out).grown hK3 (by simp; omega)).cell 0
        refine ⟨.tuple #[.slice none 0 0, .int .i64 220], ?_, ?_⟩
        · simp at hc6 hc7
          simp [results, Try.f16, go_sem, hc6, hc7]
        · rw [HF2.out]
          refine ⟨rfl, ?_⟩
          exact hbW.trans (belowK_b (w := w8) (by omega) _ D _ _ hD HK2.out rfl rfl)

theorem routes_any (n : Nat) (ver : Int) (A : Option Addr) (ng c : Nat) (A2 : Option Addr) (n2 c2 : Nat) (A3 : Option Addr) (c3 : Nat) (gs : List Gd) (st : List Bool) (w : World) (hn : n ≤ 1020) (hng : ng ≤ 20) (hl3 : st.length = ng)
    (hfew : ∀ k, k < ng → fewG (gs.getD k zG) = true) (hg : ∀ W, RowKit.Below w.heap.size w W → GsOk W w.heap.size ng gs) (hr : ∀ W, RowKit.Below w.heap.size w W → GRows W A ng gs) (hr3 : Rd w w.heap.size 1 A3 ng (st.flatMap encBl)) :
    Calls Try.prog 16 #[.int .i64 n, .agg #[.int .u32 ver, .slice A ng c, .slice A2 n2 c2], .slice A3 ng c3] w (RouR (routesN n gs st ng) n w) :=
  callsIn_wide.1 (routes_in n ver A ng c A2 n2 c2 A3 c3 gs st w hn hng hl3 hfew hg hr hr3)
end Go.Proofs.Ytnhlcfkjhacedaa
