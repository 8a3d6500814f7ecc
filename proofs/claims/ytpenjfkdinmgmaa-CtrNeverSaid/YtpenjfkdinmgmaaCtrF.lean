/- Chapter 13: the record that counts: the program's, walked. -/
import Derived.Test.YtpenjfkdinmgmaaCtrE
import Derived.BigRegionIn
import Derived.RangeFuncRecord

namespace Go.Proofs.Ytpenjfkdinmgmaa
set_option linter.unusedVariables false
set_option linter.unusedSimpArgs false
open Go.RowKit Go.Shelf Go.Sort
attribute [local go_sem] Oper.semAt_some

/-- The best record so far, and the next one. -/
def stepB (s : Int × Int × Int) (r : Nat × Int × Int) : Option (Int × Int × Int) :=
  if s.1 < 0 ∨ s.2.1 < r.2.1 then some ((r.1 : Int), r.2.1, r.2.2) else if r.2.1 = s.2.1 ∧ r.2.2 ≠ s.2.2 then none else some s
def runB (l : List (Nat × Int × Int)) : Option (Int × Int × Int) := l.foldl (fun o r => o.bind fun s => stepB s r) (some (-1, 0, 0))
theorem runB_snoc (l : List (Nat × Int × Int)) (x : Nat × Int × Int) : runB (l ++ [x]) = (runB l).bind fun s => stepB s x := by simp [runB]
def endB (s : Int × Int × Int) : Rr := if s.1 < 0 then ⟨130, 0, 0, 0⟩ else finR s.1.toNat s.2.1 s.2.2
def finB : Option (Int × Int × Int) → Rr
  | none => ⟨130, 0, 0, 0⟩
  | some s => endB s
theorem runB_none {pre l : List (Nat × Int × Int)} (h : pre <+: l) (hn : runB pre = none) : runB l = none := by
  obtain ⟨t, rfl⟩ := h
  unfold runB at hn ⊢
  rw [List.foldl_append, hn]
  induction t with
  | nil => rfl
  | cons x t ih => exact ih
theorem pick_run (ws : List Int) (id : Nat) : finB (runB (recK ws id 2)) = pickR (ofW id (slW ws (8 * id))) (ofW id (slW ws (8 * id + 4))) := by
  have e : recK ws id 2 = oneR ws id 0 ++ oneR ws id 1 := rfl
  rw [e]
  unfold oneR
  simp only [Nat.mul_zero, Nat.add_zero, Nat.mul_one]
  generalize ofW id (slW ws (8 * id)) = ra
  generalize ofW id (slW ws (8 * id + 4)) = rb
  obtain ⟨xa, ya, fa⟩ := ra
  obtain ⟨xb, yb, fb⟩ := rb
  cases fa <;> cases fb
  · simp [runB, finB, endB, pick_ff]
  · simp [runB, finB, endB, stepB, pick_ft]
  · simp [runB, finB, endB, stepB, pick_tf]
  · by_cases h1 : xa = xb
    · by_cases h2 : ya = yb
      · rw [pick_same _ _ _ _ h1 h2]
        simp [runB, finB, endB, stepB, h1, h2]
      · rw [pick_ne _ _ _ _ h1 h2]
        have h3 : ¬ yb = ya := fun h => h2 h.symm
        simp [runB, finB, endB, stepB, h1, h3]
    · have h3 : ¬ xb = xa := fun h => h1 h.symm
      by_cases h2 : xa < xb
      · rw [pick_lt _ _ _ _ h1 h2]
        simp [runB, finB, endB, stepB, h2]
      · rw [pick_gt _ _ _ _ h1 h2]
        simp [runB, finB, endB, stepB, h2, h3]
def Rr.cs2 (r : Rr) : Value := .tuple #[.int .i64 r.at_, .agg #[.int .u32 r.q, .int .u32 r.v], .int .i64 r.err]
theorem own_bst {β : Type} (g1 g2 : Nat) (t1 t2 : TypeId) (f : β → Int × Int × Int → Prop) : Own (fun s W => ∃ b : Int × Int × Int, f s b ∧ Blk W g1 t1 #[.int .i64 b.1] ∧ Blk W g2 t2 #[.int .u32 b.2.1, .int .u32 b.2.2]) := by
  rintro s X Y row ⟨b, hf, h1, h2⟩ hg hrow
  refine ⟨b, hf, h1.grown hg fun e => ?_, h2.grown hg fun e => ?_⟩
  · obtain ⟨o, ho, hc⟩ := hrow g1 e.symm
    rw [show X.heap[g1]? = _ from h1] at ho; cases ho; cases hc
  · obtain ⟨o, ho, hc⟩ := hrow g2 e.symm
    rw [show X.heap[g2]? = _ from h2] at ho; cases ho; cases hc
theorem own_blk {β : Type} (g : Nat) (t : TypeId) (cs : Array Value) : Own (fun (_ : β) W => Blk W g t cs) := by
  rintro s X Y row h hg hrow
  refine h.grown hg fun e => ?_
  obtain ⟨o, ho, hc⟩ := hrow g e.symm
  rw [show X.heap[g]? = _ from h] at ho; cases ho; cases hc
theorem wpIn_name {F : Fence} {n : Nat} {P : Program} {c : Code} {Q : Exit → Act → World → Prop} {a : Act} {w : World} (h : ∀ w1, w1 = w → c.wpIn F n P Q a w1) : c.wpIn F n P Q a w := h w rfl

set_option maxHeartbeats 1000000 in
theorem records_in (v : Value) (id : Int) (hv : v.oneCell' = true) (w : World) :
    CallsIn Fence.wide 4 Try.prog 40 #[.agg #[v, .int .i64 id]] w fun e w' => e = .returned (.func (.func 46) #[] #[.pointer (some ⟨w.heap.size, 0, none⟩)]) ∧ w' = w.alloc (.cells #[v, .int .i64 id] 69) := by
  have hro : Fence.wide.round = none := rfl
  have hf : Fence.wide.fn 40 := trivial
  refine callsIn_of_wp Try.func40 rfl hf ?_ hro
  simp only [Try.ntmps40, List.size_toArray, List.length_cons, List.length_nil, Nat.reduceAdd, Nat.reduceSub, Array.replicate_succ, Array.replicate_zero, List.push_toArray, List.append_toArray, List.nil_append, List.cons_append]
  gi_wp2
  go_ret
  exact ⟨rfl, rfl⟩
theorem records_stops (Bn g : Nat) (base : Nat → Prop) (s : Stt) (id : Nat) (w0 : World) (h : Sto w0 base g s) (hu : U32s s.ws) (hid : id ≤ 100000) (hr : 8 * id + 8 ≤ s.ws.length)
    (w : World) (hb : Below w0.heap.size w0 w) (hB : Blk w Bn 69 #[.pointer (some ⟨g, 0, none⟩), .int .i64 id]) :
    SeqStopsK Fence.wide 4 Try.prog 46 #[.pointer (some ⟨Bn, 0, none⟩)] encR2 (KpC w0.heap.size Bn) (fun ys => ys = recK s.ws id 2) (fun pre => pre <+: recK s.ws id 2) 2 w := by
  intro l J Jx W hW hJ hJx hY h0
  exact records1_in l Bn g base s id w0 h hu hid hr J Jx (fun pre W W' hp hbW => hJ pre W W' none hp ⟨hbW.os, hbW.tape, hbW.output, hbW.size, fun k hk _ => hbW.block k hk⟩ (fun r e => by cases e)) hY W (hb.trans (hW.mono hb.size)) (hB.kept hW) h0

theorem keepsOthers_drew {A B : World} (h : KeepsOthers A B) : KeepsOthers A B.drew := ⟨h.size, h.same⟩
def NowI (w : World) (b c : Nat) (pre : List (Nat × Int × Int)) (W : World) : Prop :=
  (∃ s : Int × Int × Int, runB pre = some s ∧ Blk W c 3 #[.int .i64 s.1] ∧ Blk W (c + 1) 43 #[.int .u32 s.2.1, .int .u32 s.2.2]) ∧ Blk W (b + 1) 3 #[.int .i64 0] ∧ Blk W (b + 2) 43 #[.int .u32 0, .int .u32 0] ∧ Blk W (b + 3) 27 #[.int .i64 0] ∧ Below b w W
def NowX (w : World) (b : Nat) (c : Code) (pre : List (Nat × Int × Int)) (W : World) : Prop :=
  (c = Code.ret ∧ runB pre = none) ∧ Blk W (b + 1) 3 #[.int .i64 0] ∧ Blk W (b + 2) 43 #[.int .u32 0, .int .u32 0] ∧ Blk W (b + 3) 27 #[.int .i64 130] ∧ Below b w W
theorem nowI_own (w : World) (b c B : Nat) (hb : b ≤ B) (hw : b ≤ w.heap.size) : OwnFrom B (NowI w b c) :=
  OwnFrom.and (Own.from (own_bst _ _ _ _ _) _) (OwnFrom.and (Own.from (own_blk _ _ _) _) (OwnFrom.and (Own.from (own_blk _ _ _) _) (OwnFrom.and (Own.from (own_blk _ _ _) _) (ownFrom_below hw hb))))
theorem nowX_own (w : World) (b B : Nat) (hb : b ≤ B) (hw : b ≤ w.heap.size) (c : Code) : OwnFrom B (NowX w b c) :=
  OwnFrom.and (ownFrom_pure _ _) (OwnFrom.and (Own.from (own_blk _ _ _) _) (OwnFrom.and (Own.from (own_blk _ _ _) _) (OwnFrom.and (Own.from (own_blk _ _ _) _) (ownFrom_below hw hb))))
/-- A range over an iterator whose loop variable lies in a box of its own: the frame behind 'assign' is fr x b, b the box. -/
theorem wpIn_rangeFunc_box {F : Fence} {n : Nat} {P : Program} {α : Type} {g : Operand} {ps : Array Tmp} {assign body : Code} {Q : Exit → Act → World → Prop} {a : Act} {w : World}
    (hro : F.round = none) (h1 : 1 ≤ n) {gf : Nat} {lb : Array Value} (hg : a.eval g = .func (.func gf) #[] lb) (hFg : F.fn gf) (eg : ∀ args w, (callFunc gf args).run P w = .ok (.enter gf args) w)
    {encs : α → Array Value} {Kp : World → World → Prop} {S Sp : List α → Prop} {N : Nat} {w0 : World} (hseq : SeqStopsK F (n - 1) P gf lb encs Kp S Sp N w0)
    (hKt : ∀ {A B C : World}, Kp A B → Kp B C → Kp A C) (hKb : ∀ (W : World) (l : Nat) (o o' : Obj), w.heap.size ≤ l → W.heap[l]? = some o → o.isCells = false → o.isWalk = false → Kp W (W.putObj l o')) (hb0 : RowKit.Below w0.heap.size w0 w) (hps : ∀ x, (encs x).size = ps.size)
    (I : List α → World → Prop) (Ix : Code → List α → World → Prop) (hI : OwnFrom w.heap.size I) (hIx : ∀ c, OwnFrom w.heap.size (Ix c)) (h0 : I [] w) (obj : α → Obj) (ho : ∀ x, (obj x).isCells = true) (fr : α → Nat → Act)
    (hassign : ∀ (l : Nat) (pre : List α) (x : α) (W : World) (K : Act → World → Prop), I pre W → (∀ b W', KeepsFrom w.heap.size W W' → Kp W W' → I pre W' → W'.heap[b]? = some (obj x) → K (fr x b) W') →
      assign.wpIn (F.inRound l) (n - 1 - 1) P (Exit.then K (fun _ _ _ => False)) { tmps := (ps.zip (encs x)).foldl (fun t (p, v) => t.setIfInBounds p v) a.tmps, defers := [] } W)
    (hbody : ∀ (l : Nat) (pre : List α) (x : α) (b : Nat) (W : World), I pre W → W.heap[b]? = some (obj x) → pre.length < N → body.wpIn (F.inRound l) (n - 1 - 1) P (ownPostG w.heap.size Kp I Ix (pre ++ [x]) W) (fr x b) W)
    (hdone : ∀ (D : Nat) (xs : List α) (W : World), w.heap.size ≤ D → S xs → I xs W → W.heap[D]? = some (.deferred (some [])) → Q .normal { a with defers := { target := .collected D, args := #[] } :: a.defers } W)
    (hstop : ∀ (D : Nat) (c : Code) (pre : List α) (W : World), w.heap.size ≤ D → Sp pre → Ix c pre W → W.heap[D]? = some (.deferred (some [])) → c.wpIn F n P Q { a with defers := { target := .collected D, args := #[] } :: a.defers } W) :
    (Code.rangeFunc g ps assign body).wpIn F n P Q a w :=
  wpIn_rangeFunc_ownH hro h1 hg hFg eg hseq hKt hKb hb0 hps I Ix hI hIx h0 (fun x a' W => ∃ b, a' = fr x b ∧ W.heap[b]? = some (obj x))
    (fun x a' s X Y row hs hg' hr => by
      obtain ⟨b, e, hb⟩ := hs
      refine ⟨b, e, (hg'.block b (Array.getElem?_eq_some_iff.1 hb).1 fun e' => ?_).trans hb⟩
      obtain ⟨_, o, hbo, hc⟩ := hr b e'.symm
      rw [hb] at hbo; cases hbo
      rw [ho x] at hc; cases hc)
    (fun l pre x W K hi hK => hassign l pre x W K hi fun b W' h1 h2 h3 h4 => hK _ _ h1 h2 h3 ⟨b, rfl, h4⟩)
    (fun l pre x a' W _ _ hi hA hl => by
      obtain ⟨b, rfl, hb⟩ := hA
      exact hbody l pre x b W hi hb hl)
    hdone hstop

set_option maxRecDepth 100000 in
set_option maxHeartbeats 4000000 in
theorem now_in (g : Nat) (base : Nat → Prop) (s : Stt) (id : Nat) (w : World) (h : Sto w base g s) (hu : U32s s.ws) (hn : s.ws.length ≤ 100000) (hid : id < s.ws.length / 8) :
    CallsIn Fence.wide 5 Try.prog 27 #[.agg #[.pointer (some ⟨g, 0, none⟩), .int .i64 id]] w fun e W' => e = .returned (Rr.cs2 (finB (runB (recK s.ws id 2)))) ∧ Below w.heap.size w W' := by
  have hro : Fence.wide.round = none := rfl
  have h1f : Fence.wide.fn 27 := trivial
  have h2f : Fence.wide.fn 40 := trivial
  have h3f : Fence.wide.fn 46 := trivial
  have h1 : 1 ≤ 5 := by omega
  have HC := Lib.hid (fun W (hW : Below w.heap.size w W) => count_any g base s W (h.kept hW) hn)
  have HSt := Lib.hid (fun Bn W hb hB => records_stops Bn g base s id w h hu (by omega) (by omega) W hb hB)
  have i0 : ¬ (id : Int) < 0 := by omega
  have i1 : ¬ (((s.ws.length / 8 : Nat) : Int) ≤ (id : Int)) := by omega
  obtain ⟨R, hR⟩ : ∃ R, finB (runB (recK s.ws id 2)) = R := ⟨_, rfl⟩
  rw [hR]
  have HRes := Lib.hid hR
  generalize s.ws.length / 8 = cn at *
  clear hR h hu hn hid
  refine callsIn_of_wp_marks Try.func27 rfl h1f ?_ hro
  simp only [Try.ntmps27, List.size_toArray, List.length_cons, List.length_nil, Nat.reduceAdd, Nat.reduceSub, Array.replicate_succ, Array.replicate_zero, List.push_toArray, List.append_toArray, List.nil_append, List.cons_append]
  gi_wp2
  refine wpIn_name ?_
  intro w1 hw1
  obtain ⟨hb1, hA1, hK1, hQ1, hE1, hs1⟩ : RowKit.Below w.heap.size w w1 ∧ Blk w1 w.heap.size 69 #[.pointer (some ⟨g, 0, none⟩), .int .i64 id] ∧ Blk w1 (w.heap.size + 1) 3 #[.int .i64 0] ∧ Blk w1 (w.heap.size + 2) 43 #[.int .u32 0, .int .u32 0] ∧ Blk w1 (w.heap.size + 3) 27 #[.int .i64 0] ∧ w1.heap.size = w.heap.size + 4 := by
    refine ⟨?_, ?_, ?_, ?_, ?_, ?_⟩
    all_goals rw [hw1]
    · exact bal (bal (bal (bal (RowKit.Below.refl _ _) _) _) _) _
    · exact (((Blk.new _ _ _).alloc _).alloc _).alloc _
    · exact ((Blk.fresh _ _ _).alloc _).alloc _
    · exact (Blk.fresh _ _ _).alloc _
    · exact Blk.fresh _ _ _
    · simp
  clear hw1
  refine wpIn_wide.2 ?_
  refine wp_region_quiet_below (by kernel_rfl) (by kernel_rfl) ?_
  have e0 := blk_regrown hA1
  have d0 : decide ((id : Int) < 0) = false := decide_eq_false (by omega)
  have d1 : decide ((cn : Int) ≤ (id : Int)) = false := decide_eq_false (by omega)
  repeat (go_big_quiet_step ((go_at_call 16; exact regrown_same (HC.out _ (hb1.trans ((below_regrown w1 _ _).mono hb1.size))))))
  refine wpQuiet_nil ?_
  rintro w2 ⟨p2, rfl⟩
  have hx2 := below_regrown w1 p2.d p2.os
  generalize grow (redrawn w1 p2.d) p2.os = w2 at hx2 ⊢
  have hb2 : RowKit.Below w.heap.size w w2 := hb1.trans (hx2.mono hb1.size)
  have hA2 := hA1.kept hx2
  have hK2 := hK1.kept hx2
  have hQ2 := hQ1.kept hx2
  have hE2 := hE1.kept hx2
  have hz2 := hx2.size
  clear e0 d0 d1 hA1 hK1 hQ1 hE1 hb1 hx2 HC
  have cA2 := ((hA2.alloc (.cells #[.int .i64 (-1)] 3)).alloc (.cells #[.int .u32 0, .int .u32 0] 43)).cell
  obtain ⟨c, hc⟩ : ∃ c, w2.heap.size = c := ⟨_, rfl⟩
  obtain ⟨w8, hw8⟩ : ∃ w8, ((w2.alloc (.cells #[.int .i64 (-1)] 3)).alloc (.cells #[.int .u32 0, .int .u32 0] 43)).alloc (.cells #[.pointer (some ⟨g, 0, none⟩), .int .i64 id] 69) = w8 := ⟨_, rfl⟩
  have hN8 : Blk w8 c 3 #[.int .i64 (-1)] := by rw [← hw8, ← hc]; exact ((Blk.new _ _ _).alloc _).alloc _
  have hR8 : Blk w8 (c + 1) 43 #[.int .u32 0, .int .u32 0] := by rw [← hw8, ← hc]; exact (Blk.fresh _ _ _).alloc _
  have hB8 : Blk w8 (c + 2) 69 #[.pointer (some ⟨g, 0, none⟩), .int .i64 id] := by rw [← hw8, ← hc]; exact Blk.fresh _ _ _
  have hx8 : RowKit.Below w2.heap.size w2 w8 := by rw [← hw8]; exact bal (bal (bal (RowKit.Below.refl _ _) _) _) _
  have hs8 : w8.heap.size = c + 3 := by rw [← hw8, ← hc]; simp
  have hb8 := hb2.trans (hx8.mono hb2.size)
  have hK8 := hK2.kept hx8
  have hQ8 := hQ2.kept hx8
  have hE8 := hE2.kept hx8
  have hS8 := HSt.out (c + 2) w8 hb8 hB8
  have hwc : w.heap.size + 4 ≤ c := by omega
  gi_wp2_with (gi_at_call 40; refine (records_in _ _ rfl _).mono ?_; rintro e w' ⟨rfl, rfl⟩)
  (try rw [hw8])
  clear hx8 hw8 hA2 hK2 hQ2 hE2 hb2 cA2 hz2 hc HSt
  refine' wpIn_rangeFunc_box hro h1 (gf := 46) (lb := #[.pointer (some ⟨c + 2, 0, none⟩)]) rfl h3f (enters_of Try.func46 (by kernel_rfl) rfl) hS8 kpC_t (kpC_b (w := w8) (by omega) (by omega)) (RowKit.Below.refl _ _) (fun _ => rfl)
    (NowI w8 w.heap.size c) (NowX w8 w.heap.size) (nowI_own w8 w.heap.size c _ (by omega) (by omega)) (fun c' => nowX_own w8 w.heap.size _ (by omega) (by omega) c')
    ⟨⟨(-1, 0, 0), rfl, hN8, hR8⟩, hK8, hQ8, hE8, RowKit.Below.refl _ _⟩ (fun x => .cells #[.int .u32 x.2.1, .int .u32 x.2.2] 43) (fun _ => rfl) _ ?assign ?body ?done ?stop
  case assign =>
    rintro l pre x W K hI hK
    have HK := Lib.hid hK
    have HI := Lib.hid hI
    have hz := hI.2.2.2.2.size
    clear hK hI
    unfold encR2
    gi_wp2
    have hI := HI.out
    have hK2 := HK.out W.heap.size (W.alloc (.cells #[.int .u32 x.2.1, .int .u32 x.2.2] 43)) ((KeepsOthers.alloc W _).from _) (KpC.of_below (bal (RowKit.Below.refl _ _) _) (by omega) (by omega)) (OwnFrom.alloc (nowI_own w8 w.heap.size c (c + 3) (by omega) (by omega)) _ hI) (Blk.new _ _ _)
    refine Eq.mp (congrArg (fun z => K z _) ?_) hK2
    generalize W.heap.size = b
    rfl
  case body =>
    rintro l pre ⟨k, x, y⟩ b W ⟨⟨⟨at_, q, v⟩, hs, hN, hR⟩, hK, hQ, hE, hb⟩ hbk hlen
    have hB : Blk W b 43 #[.int .u32 x, .int .u32 y] := hbk
    have HS := Lib.hid (show runB (pre ++ [(k, x, y)]) = stepB (at_, q, v) (k, x, y) by rw [runB_snoc, hs]; rfl)
    have hz := hb.size
    rw [hs8] at hz
    clear hs8
    have cN := hN.cell
    have cR := hR.cell
    have cK := hK.cell
    have cQ := hQ.cell
    have cE := hE.cell
    have cB := hB.cell
    have fN := hN.frozen
    have fR := hR.frozen
    have fK := hK.frozen
    have fQ := hQ.frozen
    have fE := hE.frozen
    simp only at cN cR hN hR
    have hbc : b ≠ c := by
      rintro rfl
      have := Eq.trans (Eq.symm (show W.heap[b]? = _ from hB)) (show W.heap[b]? = _ from hN)
      simp at this
    have HT := Lib.hid (show stepB (at_, q, v) (k, x, y) = some ((k : Int), x, y) → ∀ a, ownPostG w8.heap.size (KpC w.heap.size (c + 2)) (NowI w8 w.heap.size c) (NowX w8 w.heap.size) (pre ++ [(k, x, y)]) W Exit.normal a (((W.setCell ⟨c, 0, none⟩ (.int .i64 k)).setCell ⟨c + 1, 0, none⟩ (.int .u32 x)).setCell ⟨c + 1, 1, none⟩ (.int .u32 y)).drew from fun h a => by
      have hb3 : RowKit.Below w.heap.size W (((W.setCell ⟨c, 0, none⟩ (.int .i64 k)).setCell ⟨c + 1, 0, none⟩ (.int .u32 x)).setCell ⟨c + 1, 1, none⟩ (.int .u32 y)).drew := ((((RowKit.Below.refl _ W).setCell (p := ⟨c, 0, none⟩) (by simp; omega) _).setCell (p := ⟨c + 1, 0, none⟩) (by simp; omega) _).setCell (p := ⟨c + 1, 1, none⟩) (by simp; omega) _).drew
      refine ⟨(keepsOthers_drew (((KeepsOthers.setCell _ _ _).trans (KeepsOthers.setCell _ _ _)).trans (KeepsOthers.setCell _ _ _))).from _, ⟨hb3, ?_⟩, ⟨_, HS.out.trans h, ?_, ?_⟩, ?_, ?_, ?_, hb.trans hb3⟩
      · exact ((RowKit.Below.heap_setCell _ _ _ _ (by simp)).trans (RowKit.Below.heap_setCell _ _ _ _ (by simp))).trans (RowKit.Below.heap_setCell _ _ _ _ (by simp))
      · exact (((hN.set_ 0 (.int .i64 k)).far (p := ⟨c + 1, 0, none⟩) (by simp) (.int .u32 x)).far (p := ⟨c + 1, 1, none⟩) (by simp) (.int .u32 y)).drew
      · exact (((hR.far (p := ⟨c, 0, none⟩) (by simp) (.int .i64 k)).set_ 0 (.int .u32 x)).set_ 1 (.int .u32 y)).drew
      · exact (((hK.far (p := ⟨c, 0, none⟩) (by simp; omega) (.int .i64 k)).far (p := ⟨c + 1, 0, none⟩) (by simp; omega) (.int .u32 x)).far (p := ⟨c + 1, 1, none⟩) (by simp; omega) (.int .u32 y)).drew
      · exact (((hQ.far (p := ⟨c, 0, none⟩) (by simp; omega) (.int .i64 k)).far (p := ⟨c + 1, 0, none⟩) (by simp; omega) (.int .u32 x)).far (p := ⟨c + 1, 1, none⟩) (by simp; omega) (.int .u32 y)).drew
      · exact (((hE.far (p := ⟨c, 0, none⟩) (by simp; omega) (.int .i64 k)).far (p := ⟨c + 1, 0, none⟩) (by simp; omega) (.int .u32 x)).far (p := ⟨c + 1, 1, none⟩) (by simp; omega) (.int .u32 y)).drew)
    have HM := Lib.hid (show stepB (at_, q, v) (k, x, y) = some (at_, q, v) → ∀ a, ownPostG w8.heap.size (KpC w.heap.size (c + 2)) (NowI w8 w.heap.size c) (NowX w8 w.heap.size) (pre ++ [(k, x, y)]) W Exit.normal a W from fun h a =>
      ⟨(KeepsOthers.refl _).from _, ⟨RowKit.Below.refl _ _, rfl⟩, ⟨_, HS.out.trans h, hN, hR⟩, hK, hQ, hE, hb⟩)
    have HX := Lib.hid (show stepB (at_, q, v) (k, x, y) = none → ∀ a, ownPostG w8.heap.size (KpC w.heap.size (c + 2)) (NowI w8 w.heap.size c) (NowX w8 w.heap.size) (pre ++ [(k, x, y)]) W Exit.ret a ((((W.setCell ⟨w.heap.size + 1, 0, none⟩ (.int .i64 0)).setCell ⟨w.heap.size + 1 + 1, 0, none⟩ (.int .u32 0)).setCell ⟨w.heap.size + 1 + 1, 1, none⟩ (.int .u32 0)).setCell ⟨w.heap.size + 1 + 1 + 1, 0, none⟩ (.int .i64 130)) from fun h a => by
      refine ⟨((((KeepsOthers.setCell _ _ _).trans (KeepsOthers.setCell _ _ _)).trans (KeepsOthers.setCell _ _ _)).trans (KeepsOthers.setCell _ _ _)).from _, ⟨rfl, HS.out.trans h⟩, ?_, ?_, ?_, ?_⟩
      · exact (((hK.set_ 0 (.int .i64 0)).far (p := ⟨w.heap.size + 1 + 1, 0, none⟩) (by simp) (.int .u32 0)).far (p := ⟨w.heap.size + 1 + 1, 1, none⟩) (by simp) (.int .u32 0)).far (p := ⟨w.heap.size + 1 + 1 + 1, 0, none⟩) (by simp) (.int .i64 130)
      · exact (((hQ.far (p := ⟨w.heap.size + 1, 0, none⟩) (by simp) (.int .i64 0)).set_ 0 (.int .u32 0)).set_ 1 (.int .u32 0)).far (p := ⟨w.heap.size + 1 + 1 + 1, 0, none⟩) (by simp) (.int .i64 130)
      · exact (((hE.far (p := ⟨w.heap.size + 1, 0, none⟩) (by simp) (.int .i64 0)).far (p := ⟨w.heap.size + 1 + 1, 0, none⟩) (by simp) (.int .u32 0)).far (p := ⟨w.heap.size + 1 + 1, 1, none⟩) (by simp) (.int .u32 0)).set_ 0 (.int .i64 130)
      · exact (((hb.setCell (p := ⟨w.heap.size + 1, 0, none⟩) (by show _ ≤ _ + _; omega) _).setCell (p := ⟨w.heap.size + 1 + 1, 0, none⟩) (by show _ ≤ _ + _; omega) _).setCell (p := ⟨w.heap.size + 1 + 1, 1, none⟩) (by show _ ≤ _ + _; omega) _).setCell (p := ⟨w.heap.size + 1 + 1 + 1, 0, none⟩) (by show _ ≤ _ + _; omega) _)
    by_cases q0 : at_ < 0
    · have HP := Lib.hid (HT.out (by rw [stepB, if_pos (.inl q0)]))
      clear HT HM HX HS hN hR hK hQ hE hB hbk hs
      gi_wp2
      gi_region
      all_goals gi_wp2
      all_goals exact HP.out _
    · by_cases q1 : q < x
      · have HP := Lib.hid (HT.out (by rw [stepB, if_pos (.inr q1)]))
        clear HT HM HX HS hN hR hK hQ hE hB hbk hs
        gi_wp2
        gi_region
        all_goals gi_wp2
        all_goals exact HP.out _
      · have q01 : ¬ (at_ < 0 ∨ q < x) := by omega
        by_cases q2 : x = q
        · by_cases q3 : y = v
          · subst q2
            subst q3
            have HP := Lib.hid (HM.out (by rw [stepB, if_neg q01, if_neg (fun h => h.2 rfl)]))
            clear HT HM HX HS hN hR hK hQ hE hB hbk hs
            gi_wp2
            exact HP.out _
          · subst q2
            have HP := Lib.hid (HX.out (by rw [stepB, if_neg q01, if_pos ⟨rfl, q3⟩]))
            clear HT HM HX HS hN hR hK hQ hE hB hbk hs
            gi_wp2
            exact HP.out _
        · have HP := Lib.hid (HM.out (by rw [stepB, if_neg q01, if_neg (fun h => q2 h.1)]))
          clear HT HM HX HS hN hR hK hQ hE hB hbk hs
          gi_wp2
          exact HP.out _
  case done =>
    rintro D ys W hD rfl ⟨⟨⟨at_, q, v⟩, hs, hN, hR⟩, hK, hQ, hE, hb⟩ hKD
    have HF := Lib.hid (show R = endB (at_, q, v) by rw [← HRes.out, hs]; rfl)
    have hbW := hb8.trans hb
    have hz := hb.size
    have cN := hN.cell
    have cR := hR.cell
    have cK := hK.cell
    have cQ := hQ.cell
    have cE := hE.cell
    have fN := hN.frozen
    have fR := hR.frozen
    have fK := hK.frozen
    have fQ := hQ.frozen
    have fE := hE.frozen
    simp only at cN cR hN hR
    have hDc : c + 3 ≤ D := by omega
    by_cases q0 : at_ < 0
    · have HF := Lib.hid (HF.out.trans (show endB (at_, q, v) = ⟨130, 0, 0, 0⟩ from if_pos q0))
      have HB2 := Lib.hid (show RowKit.Below w.heap.size w ((((W.setCell ⟨w.heap.size + 1, 0, none⟩ (.int .i64 0)).setCell ⟨w.heap.size + 1 + 1, 0, none⟩ (.int .u32 0)).setCell ⟨w.heap.size + 1 + 1, 1, none⟩ (.int .u32 0)).setCell ⟨w.heap.size + 1 + 1 + 1, 0, none⟩ (.int .i64 130)) from ((((hbW.setCell (p := ⟨w.heap.size + 1, 0, none⟩) (by show _ ≤ _ + _; omega) _).setCell (p := ⟨w.heap.size + 1 + 1, 0, none⟩) (by show _ ≤ _ + _; omega) _).setCell (p := ⟨w.heap.size + 1 + 1, 1, none⟩) (by show _ ≤ _ + _; omega) _).setCell (p := ⟨w.heap.size + 1 + 1 + 1, 0, none⟩) (by show _ ≤ _ + _; omega) _))
      have HK2 := Lib.hid (show Blk ((((W.setCell ⟨w.heap.size + 1, 0, none⟩ (.int .i64 0)).setCell ⟨w.heap.size + 1 + 1, 0, none⟩ (.int .u32 0)).setCell ⟨w.heap.size + 1 + 1, 1, none⟩ (.int .u32 0)).setCell ⟨w.heap.size + 1 + 1 + 1, 0, none⟩ (.int .i64 130)) (w.heap.size + 1) 3 #[.int .i64 0] from ((((hK.set_ 0 (.int .i64 0)).far (p := ⟨w.heap.size + 1 + 1, 0, none⟩) (by simp) (.int .u32 0)).far (p := ⟨w.heap.size + 1 + 1, 1, none⟩) (by simp) (.int .u32 0)).far (p := ⟨w.heap.size + 1 + 1 + 1, 0, none⟩) (by simp) (.int .i64 130)))
      have HQ2 := Lib.hid (show Blk ((((W.setCell ⟨w.heap.size + 1, 0, none⟩ (.int .i64 0)).setCell ⟨w.heap.size + 1 + 1, 0, none⟩ (.int .u32 0)).setCell ⟨w.heap.size + 1 + 1, 1, none⟩ (.int .u32 0)).setCell ⟨w.heap.size + 1 + 1 + 1, 0, none⟩ (.int .i64 130)) (w.heap.size + 1 + 1) 43 #[.int .u32 0, .int .u32 0] from ((((hQ.far (p := ⟨w.heap.size + 1, 0, none⟩) (by simp) (.int .i64 0)).set_ 0 (.int .u32 0)).set_ 1 (.int .u32 0)).far (p := ⟨w.heap.size + 1 + 1 + 1, 0, none⟩) (by simp) (.int .i64 130)))
      have HE2 := Lib.hid (show Blk ((((W.setCell ⟨w.heap.size + 1, 0, none⟩ (.int .i64 0)).setCell ⟨w.heap.size + 1 + 1, 0, none⟩ (.int .u32 0)).setCell ⟨w.heap.size + 1 + 1, 1, none⟩ (.int .u32 0)).setCell ⟨w.heap.size + 1 + 1 + 1, 0, none⟩ (.int .i64 130)) (w.heap.size + 1 + 1 + 1) 27 #[.int .i64 130] from ((((hE.far (p := ⟨w.heap.size + 1, 0, none⟩) (by simp) (.int .i64 0)).far (p := ⟨w.heap.size + 1 + 1, 0, none⟩) (by simp) (.int .u32 0)).far (p := ⟨w.heap.size + 1 + 1, 1, none⟩) (by simp) (.int .u32 0)).set_ 0 (.int .i64 130)))
      have HKD := Lib.hid (show (((((W.setCell ⟨w.heap.size + 1, 0, none⟩ (.int .i64 0)).setCell ⟨w.heap.size + 1 + 1, 0, none⟩ (.int .u32 0)).setCell ⟨w.heap.size + 1 + 1, 1, none⟩ (.int .u32 0)).setCell ⟨w.heap.size + 1 + 1 + 1, 0, none⟩ (.int .i64 130))).heap[D]? = some (.deferred (some [])) from ((((KeepsOthers.setCell _ _ _).trans (KeepsOthers.setCell _ _ _)).trans (KeepsOthers.setCell _ _ _)).trans (KeepsOthers.setCell _ _ _)).same D _ hKD rfl)
      have HD := Lib.hid hD
      clear hD hKD hK hQ hE hN hR hb hbW
      gi_wp2
      refine ⟨by simp, .inl ⟨_, _, rfl, run_takeDeferred HKD.out, ?_⟩⟩
      have hK3 := grownBy_putObj' ((((W.setCell ⟨w.heap.size + 1, 0, none⟩ (.int .i64 0)).setCell ⟨w.heap.size + 1 + 1, 0, none⟩ (.int .u32 0)).setCell ⟨w.heap.size + 1 + 1, 1, none⟩ (.int .u32 0)).setCell ⟨w.heap.size + 1 + 1 + 1, 0, none⟩ (.int .i64 130)) D (.deferred none)
      have c5 := ((HK2.out).grown hK3 (by simp; omega)).cell 0
      have c6 := ((HQ2.out).grown hK3 (by simp; omega)).cell 0
      have c7 := ((HQ2.out).grown hK3 (by simp; omega)).cell 1
      have c8 := ((HE2.out).grown hK3 (by simp; omega)).cell 0
      refine ⟨Rr.cs2 R, ?_, ?_⟩
      · rw [HF.out]
        simp at c5 c6 c7 c8
        simp [Rr.cs2, results, Try.f27, go_sem, c5, c6, c7, c8]
        (try omega)
      · exact ⟨rfl, HB2.out.trans (belowK_b (w := w8) (by omega) _ D _ _ HD.out HKD.out rfl rfl)⟩
    · have e0 : endB (at_, q, v) = finR at_.toNat q v := if_neg q0
      by_cases q1 : q = 4294967295
      · have HF := Lib.hid (HF.out.trans (e0.trans (fin_x _ q1)))
        have q1' : (q == 4294967295) = true := by rw [beq_iff_eq]; exact q1
        clear e0 q1
        have HB2 := Lib.hid (show RowKit.Below w.heap.size w ((((W.setCell ⟨w.heap.size + 1, 0, none⟩ (.int .i64 0)).setCell ⟨w.heap.size + 1 + 1, 0, none⟩ (.int .u32 0)).setCell ⟨w.heap.size + 1 + 1, 1, none⟩ (.int .u32 0)).setCell ⟨w.heap.size + 1 + 1 + 1, 0, none⟩ (.int .i64 131)) from ((((hbW.setCell (p := ⟨w.heap.size + 1, 0, none⟩) (by show _ ≤ _ + _; omega) _).setCell (p := ⟨w.heap.size + 1 + 1, 0, none⟩) (by show _ ≤ _ + _; omega) _).setCell (p := ⟨w.heap.size + 1 + 1, 1, none⟩) (by show _ ≤ _ + _; omega) _).setCell (p := ⟨w.heap.size + 1 + 1 + 1, 0, none⟩) (by show _ ≤ _ + _; omega) _))
        have HK2 := Lib.hid (show Blk ((((W.setCell ⟨w.heap.size + 1, 0, none⟩ (.int .i64 0)).setCell ⟨w.heap.size + 1 + 1, 0, none⟩ (.int .u32 0)).setCell ⟨w.heap.size + 1 + 1, 1, none⟩ (.int .u32 0)).setCell ⟨w.heap.size + 1 + 1 + 1, 0, none⟩ (.int .i64 131)) (w.heap.size + 1) 3 #[.int .i64 0] from ((((hK.set_ 0 (.int .i64 0)).far (p := ⟨w.heap.size + 1 + 1, 0, none⟩) (by simp) (.int .u32 0)).far (p := ⟨w.heap.size + 1 + 1, 1, none⟩) (by simp) (.int .u32 0)).far (p := ⟨w.heap.size + 1 + 1 + 1, 0, none⟩) (by simp) (.int .i64 131)))
        have HQ2 := Lib.hid (show Blk ((((W.setCell ⟨w.heap.size + 1, 0, none⟩ (.int .i64 0)).setCell ⟨w.heap.size + 1 + 1, 0, none⟩ (.int .u32 0)).setCell ⟨w.heap.size + 1 + 1, 1, none⟩ (.int .u32 0)).setCell ⟨w.heap.size + 1 + 1 + 1, 0, none⟩ (.int .i64 131)) (w.heap.size + 1 + 1) 43 #[.int .u32 0, .int .u32 0] from ((((hQ.far (p := ⟨w.heap.size + 1, 0, none⟩) (by simp) (.int .i64 0)).set_ 0 (.int .u32 0)).set_ 1 (.int .u32 0)).far (p := ⟨w.heap.size + 1 + 1 + 1, 0, none⟩) (by simp) (.int .i64 131)))
        have HE2 := Lib.hid (show Blk ((((W.setCell ⟨w.heap.size + 1, 0, none⟩ (.int .i64 0)).setCell ⟨w.heap.size + 1 + 1, 0, none⟩ (.int .u32 0)).setCell ⟨w.heap.size + 1 + 1, 1, none⟩ (.int .u32 0)).setCell ⟨w.heap.size + 1 + 1 + 1, 0, none⟩ (.int .i64 131)) (w.heap.size + 1 + 1 + 1) 27 #[.int .i64 131] from ((((hE.far (p := ⟨w.heap.size + 1, 0, none⟩) (by simp) (.int .i64 0)).far (p := ⟨w.heap.size + 1 + 1, 0, none⟩) (by simp) (.int .u32 0)).far (p := ⟨w.heap.size + 1 + 1, 1, none⟩) (by simp) (.int .u32 0)).set_ 0 (.int .i64 131)))
        have HKD := Lib.hid (show (((((W.setCell ⟨w.heap.size + 1, 0, none⟩ (.int .i64 0)).setCell ⟨w.heap.size + 1 + 1, 0, none⟩ (.int .u32 0)).setCell ⟨w.heap.size + 1 + 1, 1, none⟩ (.int .u32 0)).setCell ⟨w.heap.size + 1 + 1 + 1, 0, none⟩ (.int .i64 131))).heap[D]? = some (.deferred (some [])) from ((((KeepsOthers.setCell _ _ _).trans (KeepsOthers.setCell _ _ _)).trans (KeepsOthers.setCell _ _ _)).trans (KeepsOthers.setCell _ _ _)).same D _ hKD rfl)
        have HD := Lib.hid hD
        clear hD hKD hK hQ hE hN hR hb hbW
        gi_wp2
        refine ⟨by simp, .inl ⟨_, _, rfl, run_takeDeferred HKD.out, ?_⟩⟩
        have hK3 := grownBy_putObj' ((((W.setCell ⟨w.heap.size + 1, 0, none⟩ (.int .i64 0)).setCell ⟨w.heap.size + 1 + 1, 0, none⟩ (.int .u32 0)).setCell ⟨w.heap.size + 1 + 1, 1, none⟩ (.int .u32 0)).setCell ⟨w.heap.size + 1 + 1 + 1, 0, none⟩ (.int .i64 131)) D (.deferred none)
        have c5 := ((HK2.out).grown hK3 (by simp; omega)).cell 0
        have c6 := ((HQ2.out).grown hK3 (by simp; omega)).cell 0
        have c7 := ((HQ2.out).grown hK3 (by simp; omega)).cell 1
        have c8 := ((HE2.out).grown hK3 (by simp; omega)).cell 0
        refine ⟨Rr.cs2 R, ?_, ?_⟩
        · rw [HF.out]
          simp at c5 c6 c7 c8
          simp [Rr.cs2, results, Try.f27, go_sem, c5, c6, c7, c8]
          (try omega)
        · exact ⟨rfl, HB2.out.trans (belowK_b (w := w8) (by omega) _ D _ _ HD.out HKD.out rfl rfl)⟩
      · have q1' : (q == 4294967295) = false := by rw [beq_eq_false_iff_ne]; exact q1
        by_cases q2 : v = 4294967295
        · have HF := Lib.hid (HF.out.trans (e0.trans (fin_y _ q2)))
          have q2' : (v == 4294967295) = true := by rw [beq_iff_eq]; exact q2
          clear e0 q1 q2
          have HB2 := Lib.hid (show RowKit.Below w.heap.size w ((((W.setCell ⟨w.heap.size + 1, 0, none⟩ (.int .i64 0)).setCell ⟨w.heap.size + 1 + 1, 0, none⟩ (.int .u32 0)).setCell ⟨w.heap.size + 1 + 1, 1, none⟩ (.int .u32 0)).setCell ⟨w.heap.size + 1 + 1 + 1, 0, none⟩ (.int .i64 131)) from ((((hbW.setCell (p := ⟨w.heap.size + 1, 0, none⟩) (by show _ ≤ _ + _; omega) _).setCell (p := ⟨w.heap.size + 1 + 1, 0, none⟩) (by show _ ≤ _ + _; omega) _).setCell (p := ⟨w.heap.size + 1 + 1, 1, none⟩) (by show _ ≤ _ + _; omega) _).setCell (p := ⟨w.heap.size + 1 + 1 + 1, 0, none⟩) (by show _ ≤ _ + _; omega) _))
          have HK2 := Lib.hid (show Blk ((((W.setCell ⟨w.heap.size + 1, 0, none⟩ (.int .i64 0)).setCell ⟨w.heap.size + 1 + 1, 0, none⟩ (.int .u32 0)).setCell ⟨w.heap.size + 1 + 1, 1, none⟩ (.int .u32 0)).setCell ⟨w.heap.size + 1 + 1 + 1, 0, none⟩ (.int .i64 131)) (w.heap.size + 1) 3 #[.int .i64 0] from ((((hK.set_ 0 (.int .i64 0)).far (p := ⟨w.heap.size + 1 + 1, 0, none⟩) (by simp) (.int .u32 0)).far (p := ⟨w.heap.size + 1 + 1, 1, none⟩) (by simp) (.int .u32 0)).far (p := ⟨w.heap.size + 1 + 1 + 1, 0, none⟩) (by simp) (.int .i64 131)))
          have HQ2 := Lib.hid (show Blk ((((W.setCell ⟨w.heap.size + 1, 0, none⟩ (.int .i64 0)).setCell ⟨w.heap.size + 1 + 1, 0, none⟩ (.int .u32 0)).setCell ⟨w.heap.size + 1 + 1, 1, none⟩ (.int .u32 0)).setCell ⟨w.heap.size + 1 + 1 + 1, 0, none⟩ (.int .i64 131)) (w.heap.size + 1 + 1) 43 #[.int .u32 0, .int .u32 0] from ((((hQ.far (p := ⟨w.heap.size + 1, 0, none⟩) (by simp) (.int .i64 0)).set_ 0 (.int .u32 0)).set_ 1 (.int .u32 0)).far (p := ⟨w.heap.size + 1 + 1 + 1, 0, none⟩) (by simp) (.int .i64 131)))
          have HE2 := Lib.hid (show Blk ((((W.setCell ⟨w.heap.size + 1, 0, none⟩ (.int .i64 0)).setCell ⟨w.heap.size + 1 + 1, 0, none⟩ (.int .u32 0)).setCell ⟨w.heap.size + 1 + 1, 1, none⟩ (.int .u32 0)).setCell ⟨w.heap.size + 1 + 1 + 1, 0, none⟩ (.int .i64 131)) (w.heap.size + 1 + 1 + 1) 27 #[.int .i64 131] from ((((hE.far (p := ⟨w.heap.size + 1, 0, none⟩) (by simp) (.int .i64 0)).far (p := ⟨w.heap.size + 1 + 1, 0, none⟩) (by simp) (.int .u32 0)).far (p := ⟨w.heap.size + 1 + 1, 1, none⟩) (by simp) (.int .u32 0)).set_ 0 (.int .i64 131)))
          have HKD := Lib.hid (show (((((W.setCell ⟨w.heap.size + 1, 0, none⟩ (.int .i64 0)).setCell ⟨w.heap.size + 1 + 1, 0, none⟩ (.int .u32 0)).setCell ⟨w.heap.size + 1 + 1, 1, none⟩ (.int .u32 0)).setCell ⟨w.heap.size + 1 + 1 + 1, 0, none⟩ (.int .i64 131))).heap[D]? = some (.deferred (some [])) from ((((KeepsOthers.setCell _ _ _).trans (KeepsOthers.setCell _ _ _)).trans (KeepsOthers.setCell _ _ _)).trans (KeepsOthers.setCell _ _ _)).same D _ hKD rfl)
          have HD := Lib.hid hD
          clear hD hKD hK hQ hE hN hR hb hbW
          gi_wp2
          refine ⟨by simp, .inl ⟨_, _, rfl, run_takeDeferred HKD.out, ?_⟩⟩
          have hK3 := grownBy_putObj' ((((W.setCell ⟨w.heap.size + 1, 0, none⟩ (.int .i64 0)).setCell ⟨w.heap.size + 1 + 1, 0, none⟩ (.int .u32 0)).setCell ⟨w.heap.size + 1 + 1, 1, none⟩ (.int .u32 0)).setCell ⟨w.heap.size + 1 + 1 + 1, 0, none⟩ (.int .i64 131)) D (.deferred none)
          have c5 := ((HK2.out).grown hK3 (by simp; omega)).cell 0
          have c6 := ((HQ2.out).grown hK3 (by simp; omega)).cell 0
          have c7 := ((HQ2.out).grown hK3 (by simp; omega)).cell 1
          have c8 := ((HE2.out).grown hK3 (by simp; omega)).cell 0
          refine ⟨Rr.cs2 R, ?_, ?_⟩
          · rw [HF.out]
            simp at c5 c6 c7 c8
            simp [Rr.cs2, results, Try.f27, go_sem, c5, c6, c7, c8]
            (try omega)
          · exact ⟨rfl, HB2.out.trans (belowK_b (w := w8) (by omega) _ D _ _ HD.out HKD.out rfl rfl)⟩
        · have HF := Lib.hid (HF.out.trans (e0.trans (fin_n _ q1 q2)))
          have q2' : (v == 4294967295) = false := by rw [beq_eq_false_iff_ne]; exact q2
          clear q1 q2
          have ha : (at_.toNat : Int) = at_ := by omega
          clear e0
          have HB2 := Lib.hid (show RowKit.Below w.heap.size w ((((W.setCell ⟨w.heap.size + 1, 0, none⟩ (.int .i64 at_)).setCell ⟨w.heap.size + 1 + 1, 0, none⟩ (.int .u32 q)).setCell ⟨w.heap.size + 1 + 1, 1, none⟩ (.int .u32 v)).setCell ⟨w.heap.size + 1 + 1 + 1, 0, none⟩ (.int .i64 0)).drew from ((((hbW.setCell (p := ⟨w.heap.size + 1, 0, none⟩) (by show _ ≤ _ + _; omega) _).setCell (p := ⟨w.heap.size + 1 + 1, 0, none⟩) (by show _ ≤ _ + _; omega) _).setCell (p := ⟨w.heap.size + 1 + 1, 1, none⟩) (by show _ ≤ _ + _; omega) _).setCell (p := ⟨w.heap.size + 1 + 1 + 1, 0, none⟩) (by show _ ≤ _ + _; omega) _).drew)
          have HK2 := Lib.hid (show Blk ((((W.setCell ⟨w.heap.size + 1, 0, none⟩ (.int .i64 at_)).setCell ⟨w.heap.size + 1 + 1, 0, none⟩ (.int .u32 q)).setCell ⟨w.heap.size + 1 + 1, 1, none⟩ (.int .u32 v)).setCell ⟨w.heap.size + 1 + 1 + 1, 0, none⟩ (.int .i64 0)).drew (w.heap.size + 1) 3 #[.int .i64 at_] from ((((hK.set_ 0 (.int .i64 at_)).far (p := ⟨w.heap.size + 1 + 1, 0, none⟩) (by simp) (.int .u32 q)).far (p := ⟨w.heap.size + 1 + 1, 1, none⟩) (by simp) (.int .u32 v)).far (p := ⟨w.heap.size + 1 + 1 + 1, 0, none⟩) (by simp) (.int .i64 0)).drew)
          have HQ2 := Lib.hid (show Blk ((((W.setCell ⟨w.heap.size + 1, 0, none⟩ (.int .i64 at_)).setCell ⟨w.heap.size + 1 + 1, 0, none⟩ (.int .u32 q)).setCell ⟨w.heap.size + 1 + 1, 1, none⟩ (.int .u32 v)).setCell ⟨w.heap.size + 1 + 1 + 1, 0, none⟩ (.int .i64 0)).drew (w.heap.size + 1 + 1) 43 #[.int .u32 q, .int .u32 v] from ((((hQ.far (p := ⟨w.heap.size + 1, 0, none⟩) (by simp) (.int .i64 at_)).set_ 0 (.int .u32 q)).set_ 1 (.int .u32 v)).far (p := ⟨w.heap.size + 1 + 1 + 1, 0, none⟩) (by simp) (.int .i64 0)).drew)
          have HE2 := Lib.hid (show Blk ((((W.setCell ⟨w.heap.size + 1, 0, none⟩ (.int .i64 at_)).setCell ⟨w.heap.size + 1 + 1, 0, none⟩ (.int .u32 q)).setCell ⟨w.heap.size + 1 + 1, 1, none⟩ (.int .u32 v)).setCell ⟨w.heap.size + 1 + 1 + 1, 0, none⟩ (.int .i64 0)).drew (w.heap.size + 1 + 1 + 1) 27 #[.int .i64 0] from ((((hE.far (p := ⟨w.heap.size + 1, 0, none⟩) (by simp) (.int .i64 at_)).far (p := ⟨w.heap.size + 1 + 1, 0, none⟩) (by simp) (.int .u32 q)).far (p := ⟨w.heap.size + 1 + 1, 1, none⟩) (by simp) (.int .u32 v)).set_ 0 (.int .i64 0)).drew)
          have HKD := Lib.hid (show (((((W.setCell ⟨w.heap.size + 1, 0, none⟩ (.int .i64 at_)).setCell ⟨w.heap.size + 1 + 1, 0, none⟩ (.int .u32 q)).setCell ⟨w.heap.size + 1 + 1, 1, none⟩ (.int .u32 v)).setCell ⟨w.heap.size + 1 + 1 + 1, 0, none⟩ (.int .i64 0)).drew).heap[D]? = some (.deferred (some [])) from ((((KeepsOthers.setCell _ _ _).trans (KeepsOthers.setCell _ _ _)).trans (KeepsOthers.setCell _ _ _)).trans (KeepsOthers.setCell _ _ _)).same D _ hKD rfl)
          have HD := Lib.hid hD
          clear hD hKD hK hQ hE hN hR hb hbW
          gi_wp2
          gi_region
          all_goals gi_wp2
          all_goals
            refine ⟨by simp, .inl ⟨_, _, rfl, run_takeDeferred HKD.out, ?_⟩⟩
            have hK3 := grownBy_putObj' ((((W.setCell ⟨w.heap.size + 1, 0, none⟩ (.int .i64 at_)).setCell ⟨w.heap.size + 1 + 1, 0, none⟩ (.int .u32 q)).setCell ⟨w.heap.size + 1 + 1, 1, none⟩ (.int .u32 v)).setCell ⟨w.heap.size + 1 + 1 + 1, 0, none⟩ (.int .i64 0)).drew D (.deferred none)
            have c5 := ((HK2.out).grown hK3 (by simp; omega)).cell 0
            have c6 := ((HQ2.out).grown hK3 (by simp; omega)).cell 0
            have c7 := ((HQ2.out).grown hK3 (by simp; omega)).cell 1
            have c8 := ((HE2.out).grown hK3 (by simp; omega)).cell 0
            refine ⟨Rr.cs2 R, ?_, ?_⟩
            · rw [HF.out]
              simp at c5 c6 c7 c8
              simp [Rr.cs2, results, Try.f27, go_sem, c5, c6, c7, c8]
              (try omega)
            · exact ⟨rfl, HB2.out.trans (belowK_b (w := w8) (by omega) _ D _ _ HD.out HKD.out rfl rfl)⟩
  case stop =>
    rintro D c' pre W hD hpre ⟨⟨rfl, hno⟩, hK, hQ, hE, hb⟩ hKD
    have HF := Lib.hid (show R = ⟨130, 0, 0, 0⟩ by rw [← HRes.out, runB_none hpre hno]; rfl)
    have HB2 := Lib.hid (hb8.trans hb)
    have HK2 := Lib.hid hK
    have HQ2 := Lib.hid hQ
    have HE2 := Lib.hid hE
    have HKD := Lib.hid hKD
    have HD := Lib.hid hD
    have hDc : c + 3 ≤ D := by omega
    clear hD hKD hK hQ hE hb hno
    gi_wp2
    refine ⟨by simp, .inl ⟨_, _, rfl, run_takeDeferred HKD.out, ?_⟩⟩
    have hK3 := grownBy_putObj' W D (.deferred none)
    have c5 := ((HK2.out).grown hK3 (by simp; omega)).cell 0
    have c6 := ((HQ2.out).grown hK3 (by simp; omega)).cell 0
    have c7 := ((HQ2.out).grown hK3 (by simp; omega)).cell 1
    have c8 := ((HE2.out).grown hK3 (by simp; omega)).cell 0
    refine ⟨Rr.cs2 R, ?_, ?_⟩
    · rw [HF.out]
      simp at c5 c6 c7 c8
      simp [Rr.cs2, results, Try.f27, go_sem, c5, c6, c7, c8]
      (try omega)
    · exact ⟨rfl, HB2.out.trans (belowK_b (w := w8) (by omega) _ D _ _ HD.out HKD.out rfl rfl)⟩
end Go.Proofs.Ytpenjfkdinmgmaa
