/- Whether a node may be: the plain law; (*fdt.counts).may walked. -/
import Derived.Test.YtnkpaockginooaaNameA
import Derived.Test.YtnkpaockginooaaTreeF
import Derived.Test.YtnkpaockginooaaTreeR
namespace Go.Proofs.Ytnkpaockginooaa
set_option linter.unusedVariables false
set_option linter.unusedSimpArgs false
open Go.RowKit Go.Sort

abbrev ofN : ByteArray := ⟨#[44, 46, 95, 43, 45, 64]⟩
abbrev ofP : ByteArray := ⟨#[44, 46, 95, 43, 63, 35, 45]⟩
def prOk (p : Pr) : Bool := nameB p.1 ofP && decide (p.2.length ≤ 4096)
def nmOk (f : Nat) (nm : ByteArray) : Bool := if f = 7 then decide (nm.size = 0) else nameB nm ofN
def headOk (f : Nat) (t : Tr) (n p : Int) : Prop :=
  n + 1 ≤ 200 ∧ p + t.ps.length ≤ 1000 ∧ nmOk f t.nm = true ∧ t.ps.all prOk = true ∧ (t.ps.map (·.1)).Nodup ∧ t.ks.length ≤ 200
def kidsF (g : Tr → Int × Int → Option (Int × Int)) : List Tr → Int × Int → Option (Int × Int)
  | [], c => some c
  | k :: l, c => (g k c).bind (kidsF g l)
open Classical in
/-- Nodes and properties behind a node; f = 9 less how deep it lies. -/
noncomputable def mayF : Nat → Tr → Int × Int → Option (Int × Int)
  | 0, _, _ => none
  | f + 1, t, c => if headOk f t c.1 c.2 then (kidsF (mayF f) t.ks (c.1 + 1, c.2 + t.ps.length)).bind fun c' => if (t.ks.map Tr.nm).Nodup then some c' else none else none
theorem mayF_no {f : Nat} {t : Tr} {n p : Int} (h : ¬ headOk f t n p) : mayF (f + 1) t (n, p) = none := by
  unfold mayF
  rw [if_neg h]
theorem kidsF_app (g : Tr → Int × Int → Option (Int × Int)) : ∀ (l m : List Tr) (c : Int × Int), kidsF g (l ++ m) c = (kidsF g l c).bind (kidsF g m)
  | [], _, _ => rfl
  | k :: l, m, c => by
    simp only [List.cons_append, kidsF, Option.bind_assoc]
    congr 1
    funext c'
    exact kidsF_app g l m c'
theorem kidsF_le {g : Tr → Int × Int → Option (Int × Int)} (hg : ∀ t c c', g t c = some c' → 0 ≤ c.1 → 0 ≤ c.2 → c.1 ≤ c'.1 ∧ c.2 ≤ c'.2 ∧ c'.1 ≤ 200 ∧ c'.2 ≤ 1000) : ∀ (l : List Tr) (c c' : Int × Int), kidsF g l c = some c' → 0 ≤ c.1 → 0 ≤ c.2 → c.1 ≤ 200 → c.2 ≤ 1000 → c.1 ≤ c'.1 ∧ c.2 ≤ c'.2 ∧ c'.1 ≤ 200 ∧ c'.2 ≤ 1000
  | [], c, c', h, h0, h1, h2, h3 => by
    simp only [kidsF, Option.some.injEq] at h
    subst h
    exact ⟨Int.le_refl _, Int.le_refl _, h2, h3⟩
  | k :: l, c, c', h, h0, h1, h2, h3 => by
    simp only [kidsF, Option.bind_eq_some_iff] at h
    obtain ⟨d, hd, hl⟩ := h
    have a := hg k c d hd h0 h1
    have b := kidsF_le hg l d c' hl (by omega) (by omega) a.2.2.1 a.2.2.2
    omega
theorem mayF_le : ∀ (f : Nat) (t : Tr) (c c' : Int × Int), mayF f t c = some c' → 0 ≤ c.1 → 0 ≤ c.2 → c.1 ≤ c'.1 ∧ c.2 ≤ c'.2 ∧ c'.1 ≤ 200 ∧ c'.2 ≤ 1000
  | 0, _, _, _, h, _, _ => by simp [mayF] at h
  | f + 1, t, c, c', h, h0, h1 => by
    unfold mayF at h
    split at h
    · rename_i hh
      rw [Option.bind_eq_some_iff] at h
      obtain ⟨d, hd, h⟩ := h
      split at h
      · simp only [Option.some.injEq] at h
        subst h
        have a := kidsF_le (fun t c c' => mayF_le f t c c') t.ks _ d hd (by simp only; omega) (by simp only; omega) (by simp only; exact hh.1) (by simp only; exact hh.2.1)
        simp only at a
        omega
      · cases h
    · cases h
/-- What may answers. -/
def MayP (ty : TypeId) (f : Nat) (t : Tr) (n p : Int) (gc : Nat) (w : World) (e : Ending) (w' : World) : Prop :=
  ∃ b, e = .returned (.bool b) ∧ Near (fun i => i = gc) w w' ∧ b = (mayF f t (n, p)).isSome ∧ ∀ n' p', mayF f t (n, p) = some (n', p') → Blk w' gc ty #[.int .i64 n', .int .i64 p']
theorem MayP.no {ty : TypeId} {f : Nat} {t : Tr} {n p : Int} {gc : Nat} {w w' : World} (h : mayF f t (n, p) = none) (hn : Near (fun i => i = gc) w w') : MayP ty f t n p gc w (.returned (.bool false)) w' :=
  ⟨false, rfl, hn, by rw [h]; rfl, fun _ _ h' => by rw [h] at h'; cases h'⟩
theorem info_s : (Try.prog.info? 9).map (fun i => (i.zero, i.size, i.bytes)) = some (some (.string ⟨#[]⟩), 1, 16) := by kernel_rfl
theorem str_elem : ElemInfo Try.prog 158 9 1 16 := by
  obtain ⟨i, hi, hz, hs, hb⟩ := info_parts info_s
  exact ⟨Try.underlying158, ⟨i, _, hi, hz, hs, hb, rfl⟩, by decide⟩
theorem names_take {α : Type} (l : List α) (g : α → ByteArray) (j : Nat) (x : α) (h : l[j]? = some x) : ((l.take (j + 1)).map g).flatMap encS = ((l.take j).map g).flatMap encS ++ [.string (g x)] := by
  obtain ⟨hj, rfl⟩ := List.getElem?_eq_some_iff.1 h
  rw [List.take_succ_eq_append_getElem hj, List.map_append, List.flatMap_append]
  rfl
theorem near_from {B : Nat} {w w' : World} (h : Below B w w') : Near (fun i => B ≤ i) w w' := ⟨h.os, h.tape, h.output, h.size, fun i _ hn => h.block i (by omega)⟩
theorem kidsF_take (g : Tr → Int × Int → Option (Int × Int)) (l : List Tr) (j : Nat) (x : Tr) (c : Int × Int) (h : l[j]? = some x) : kidsF g (l.take (j + 1)) c = (kidsF g (l.take j) c).bind (g x) := by
  obtain ⟨hj, rfl⟩ := List.getElem?_eq_some_iff.1 h
  rw [List.take_succ_eq_append_getElem hj, kidsF_app]
  congr 1
  funext c'
  simp [kidsF]
theorem kidsF_none (g : Tr → Int × Int → Option (Int × Int)) (l : List Tr) (j : Nat) (c : Int × Int) (h : kidsF g (l.take j) c = none) : kidsF g l c = none := by
  rw [← List.take_append_drop j l, kidsF_app, h]
  rfl
theorem mayF_kids {f : Nat} {t : Tr} {n p : Int} (h : kidsF (mayF f) t.ks (n + 1, p + t.ps.length) = none) : mayF (f + 1) t (n, p) = none := by
  unfold mayF
  split
  · simp only [h, Option.bind_none]
  · rfl
theorem mayF_dup {f : Nat} {t : Tr} {n p : Int} (h : ¬ (t.ks.map Tr.nm).Nodup) : mayF (f + 1) t (n, p) = none := by
  unfold mayF
  split
  · rcases kidsF (mayF f) t.ks ((n, p).1 + 1, (n, p).2 + t.ps.length) with _ | c
    · rfl
    · simp [h]
  · rfl
theorem mayF_yes {f : Nat} {t : Tr} {n p : Int} {c : Int × Int} (hh : headOk f t n p) (h : kidsF (mayF f) t.ks (n + 1, p + t.ps.length) = some c) (hd : (t.ks.map Tr.nm).Nodup) : mayF (f + 1) t (n, p) = some c := by
  unfold mayF
  rw [if_pos hh]
  simp only [h, Option.bind_some]
  rw [if_pos hd]
set_option maxRecDepth 100000 in
set_option maxHeartbeats 4000000 in
theorem may_any : ∀ (f k : Nat) (t : Tr) (cs : List Value) (at_ n p : Int) (gc B : Nat) (w : World), f ≤ 8 → at_ = 9 - f → TrOk w B k t cs → LensF k t → B ≤ gc → Blk w gc 82 #[.int .i64 n, .int .i64 p] → 0 ≤ n → n ≤ 200 → 0 ≤ p → p ≤ 1000 →
    Calls Try.prog 40 #[.pointer (some ⟨gc, 0, none⟩), .agg cs.toArray, .int .i64 at_] w (MayP 82 f t n p gc w) := by
  intro f
  induction f with
  | zero =>
    intro k t cs at_ n p gc B w hf hat hT hL hBg hB hn0 hn2_ hp0 hp2
    cases k with
    | zero => exact hT.elim
    | succ k =>
      have HB := Lib.hid hB
      have hlt := hB.lt
      have HT := Lib.hid hT
      obtain ⟨h0, A1, c1, A2, c2, rowF, rowG, rfl, h2, h3, h4, h5, h6, h7, h8, h9⟩ := hT
      obtain ⟨l1, l2, l3, l4, l5⟩ := hL
      have HF := Lib.hid h6
      have HG := Lib.hid h7
      have HP := Lib.hid h8
      have HK := Lib.hid h9
      have HLp := Lib.hid l4
      have HLk := Lib.hid l5
      obtain ⟨np, hnp⟩ : ∃ np, t.ps.length = np := ⟨_, rfl⟩
      obtain ⟨nk, hnk⟩ : ∃ nk, t.ks.length = nk := ⟨_, rfl⟩
      obtain ⟨nm, hnm⟩ : ∃ nm, t.nm = nm := ⟨_, rfl⟩
      rw [hnp] at h2 HF l2 ⊢
      rw [hnk] at h4 HG l3 ⊢
      rw [hnm] at l1 ⊢
      have HNp := Lib.hid hnp
      have HNk := Lib.hid hnk
      have HNm := Lib.hid hnm
      have cB := (hB.alloc (.cells #[.string nm, .slice A1 np c1, .slice A2 nk c2] 25)).cell
      have fB := (hB.alloc (.cells #[.string nm, .slice A1 np c1, .slice A2 nk c2] 25)).frozen
      unfold maxLen at h3 h5
      clear h6 h7 h8 h9 h0 hB hnp hnk hnm l4 l5
      go_enter Try.func40, Try.ntmps40
      go_upto_region 2 with (fail)
      refine wp_name ?_
      intro w1 hw1
      have hB1 : Blk w1 gc 82 #[.int .i64 (n + 1), .int .i64 p] := by rw [hw1]; exact (HB.out.set_ 0 (.int .i64 (n + 1))).alloc _
      have hT1 : Blk w1 w.heap.size 25 #[.string nm, .slice A1 np c1, .slice A2 nk c2] := by rw [hw1]; exact Blk.fresh _ _ _ (by simp)
      have hn1 : Near (fun i => i = gc) w w1 := by rw [hw1]; exact (Near.setCell (Near.refl (fun i => i = gc) w) (p := ⟨gc, 0, none⟩) rfl (.int .i64 (n + 1))).alloc _
      clear hw1
      clear cB fB
      have cB := hB1.cell
      have fB := hB1.frozen
      have cT := hT1.cell
      have hrw : wrap64 (p + (np : Int)) = p + np := by unfold wrap64; omega
      go_region
      have hB2 := (hB1.set_ 1 (.int .i64 (p + np))).drew
      have hT2 := (hT1.far (p := ⟨gc, 1, none⟩) (by first | omega | (simp; omega) | (simp only; omega)) (.int .i64 (p + np))).drew
      have hn2 := (hn1.setCell (p := ⟨gc, 1, none⟩) rfl (.int .i64 (p + np))).drew
      generalize (w1.setCell ⟨gc, 1, none⟩ (.int .i64 (p + np))).drew = w2 at *
      clear cB fB cT hB1 hT1 hn1 hrw
      have cB := hB2.cell
      have cT := hT2.cell
      have e0 : decide (8 < at_) = true := decide_eq_true (by omega)
      go_wp2_with fail
      go_ret
      exact MayP.no rfl hn2
  | succ f ih =>
    intro k t cs at_ n p gc B w hf hat hT hL hBg hB hn0 hn2_ hp0 hp2
    cases k with
    | zero => exact hT.elim
    | succ k =>
      have IH := Lib.hid (ih k)
      clear ih
      have hatl : at_ ≤ 9 - ((f : Int) + 1) := by omega
      have hatg : 9 - ((f : Int) + 1) ≤ at_ := by omega
      clear hat
      have HB := Lib.hid hB
      have hlt := hB.lt
      have HT := Lib.hid hT
      obtain ⟨h0, A1, c1, A2, c2, rowF, rowG, rfl, h2, h3, h4, h5, h6, h7, h8, h9⟩ := hT
      obtain ⟨l1, l2, l3, l4, l5⟩ := hL
      have HF := Lib.hid h6
      have HG := Lib.hid h7
      have HP := Lib.hid h8
      have HK := Lib.hid h9
      have HLp := Lib.hid l4
      have HLk := Lib.hid l5
      obtain ⟨np, hnp⟩ : ∃ np, t.ps.length = np := ⟨_, rfl⟩
      obtain ⟨nk, hnk⟩ : ∃ nk, t.ks.length = nk := ⟨_, rfl⟩
      obtain ⟨nm, hnm⟩ : ∃ nm, t.nm = nm := ⟨_, rfl⟩
      rw [hnp] at h2 HF l2 ⊢
      rw [hnk] at h4 HG l3 ⊢
      rw [hnm] at l1 ⊢
      have HNp := Lib.hid hnp
      have HNk := Lib.hid hnk
      have HNm := Lib.hid hnm
      have cB := (hB.alloc (.cells #[.string nm, .slice A1 np c1, .slice A2 nk c2] 25)).cell
      have fB := (hB.alloc (.cells #[.string nm, .slice A1 np c1, .slice A2 nk c2] 25)).frozen
      unfold maxLen at h3 h5
      clear h6 h7 h8 h9 h0 hB hnp hnk hnm l4 l5
      go_enter Try.func40, Try.ntmps40
      go_upto_region 2 with (fail)
      refine wp_name ?_
      intro w1 hw1
      have hB1 : Blk w1 gc 82 #[.int .i64 (n + 1), .int .i64 p] := by rw [hw1]; exact (HB.out.set_ 0 (.int .i64 (n + 1))).alloc _
      have hT1 : Blk w1 w.heap.size 25 #[.string nm, .slice A1 np c1, .slice A2 nk c2] := by rw [hw1]; exact Blk.fresh _ _ _ (by simp)
      have hn1 : Near (fun i => i = gc) w w1 := by rw [hw1]; exact (Near.setCell (Near.refl (fun i => i = gc) w) (p := ⟨gc, 0, none⟩) rfl (.int .i64 (n + 1))).alloc _
      clear hw1
      clear cB fB
      have cB := hB1.cell
      have fB := hB1.frozen
      have cT := hT1.cell
      have hrw : wrap64 (p + (np : Int)) = p + np := by unfold wrap64; omega
      go_region
      have hB2 := (hB1.set_ 1 (.int .i64 (p + np))).drew
      have hT2 := (hT1.far (p := ⟨gc, 1, none⟩) (by first | omega | (simp; omega) | (simp only; omega)) (.int .i64 (p + np))).drew
      have hn2 := (hn1.setCell (p := ⟨gc, 1, none⟩) rfl (.int .i64 (p + np))).drew
      generalize (w1.setCell ⟨gc, 1, none⟩ (.int .i64 (p + np))).drew = w2 at *
      clear cB fB cT hB1 hT1 hn1 hrw
      have cB := hB2.cell
      have cT := hT2.cell
      have e0 : decide (8 < at_) = false := decide_eq_false (by omega)
      by_cases q1 : 200 < n + 1
      · skip
        go_wp2_with fail
        go_ret
        exact MayP.no (mayF_no fun h => absurd h.1 (by omega)) hn2
      · skip
        by_cases q2 : 1000 < p + np
        · skip
          go_wp2_with fail
          go_ret
          exact MayP.no (mayF_no fun h => absurd h.2.1 (by rw [HNp.out]; omega)) hn2
        · skip
          by_cases hf7 : f = 7
          · have HF7 := Lib.hid hf7
            have a1 : (at_ == 1) = true := by simp; omega
            have a2 : decide (1 < at_) = false := decide_eq_false (by omega)
            by_cases hz : nm.size = 0
            · have hnmo : nmOk f nm = true := by unfold nmOk; simp [hz, hf7]
              have HNo := Lib.hid hnmo
              clear hf7
              have hse : nm.toList.isEmpty = true := by
                rw [ByteArray.toList_eq, List.isEmpty_iff]
                exact List.eq_nil_of_length_eq_zero hz
              clear hnmo
              go_wp2_with fail
              have HN3 := Lib.hid hn2
              have HB3 := Lib.hid (Below.refl w2.heap.size w2)
              go_loopw [7, 66] (fun v i wr => ∃ j : Nat, j ≤ np ∧ i = .int .i64 j ∧ wr.ownsRow w2.heap.size 9 1 v j (((t.ps.take j).map (·.1)).flatMap encS) ∧ Hid (∀ q ∈ t.ps.take j, prOk q = true) ∧ Below w2.heap.size w2 wr) (fun _ i _ => np - (intOf i).toNat)
              case atStart => exact ⟨0, by omega, rfl, World.ownsRow_nil _ _ _ _, by simp [Hid], Below.refl _ _⟩
              case round =>
                obtain ⟨j, hj, rfl, hown, hq, hb⟩ := hrel
                have hbase := hb.size
                have hnr := HN3.out.trans (Near.of_below _ hb)
                have hBr : Below B w wr := hnr.below (fun i hi => by omega) (by omega)
                clear cT cB
                by_cases hlj : j < np
                · obtain ⟨pr, hpr⟩ : ∃ q, t.ps[j]? = some q := ⟨_, List.getElem?_eq_getElem (by rw [HNp.out]; exact hlj)⟩
                  obtain ⟨hps, hpb, Ap, cp, hfj, hcp1, hcp2, _⟩ := HP.out j pr hpr
                  obtain ⟨b1, o1, rfl, hbk, hc1⟩ := HF.out (by omega)
                  have x0 := (hBr.cell (p := ⟨b1, o1 + (j * 2 + 0), none⟩) hbk).trans (hc1 j hlj 0 (by omega))
                  have x1 := (hBr.cell (p := ⟨b1, o1 + (j * 2 + 1), none⟩) hbk).trans (hc1 j hlj 1 (by omega))
                  rw [hfj] at x0 x1
                  simp only [Nat.add_zero, ← Nat.add_assoc, List.getElem?_cons_zero, List.getElem?_cons_succ] at x0 x1
                  have hnt := names_take t.ps (·.1) j pr hpr
                  have HNT := Lib.hid hnt
                  have hmem := List.mem_of_getElem? hpr
                  have hln := (HLp.out _ hmem).1
                  have htk : t.ps.take (j + 1) = t.ps.take j ++ [pr] := by
                    obtain ⟨hj', rfl⟩ := List.getElem?_eq_some_iff.1 hpr
                    exact List.take_succ_eq_append_getElem hj'
                  have HTk := Lib.hid htk
                  have HMem := Lib.hid hmem
                  clear hc1 hfj hpr hnt htk hmem
                  obtain ⟨pn, pb⟩ := pr
                  simp only at x0 hln hps
                  have HLb := Lib.hid (rfl : pb.length = pb.length)
                  obtain ⟨pl, hpl⟩ : ∃ pl, pb.length = pl := ⟨_, rfl⟩
                  simp only at x1 hcp1 hcp2 hpb
                  rw [hpl] at x1 hcp1
                  have HPl := Lib.hid hpl
                  clear hpl hpb
                  unfold maxLen at hcp2
                  have hX := Blk.new wr 88 #[.string pn, .slice Ap pl cp]
                  have hbX := bal (Below.refl wr.heap.size wr) (.cells #[.string pn, .slice Ap pl cp] 88)
                  have hownX := hown.alloc (.cells #[.string pn, .slice Ap pl cp] 88)
                  have HNm2 := Lib.hid (fun w => named_any pn ofP w hln)
                  rcases hnp1 : nameB pn ofP with _ | _
                  · rw [hnp1] at HNm2
                    have HQ := Lib.hid hnp1
                    clear hnp1
                    go_wp2_with (go_at_call 86; refine (HNm2.out _).mono ?_; rintro e w5 ⟨rfl, hb5⟩)
                    go_ret
                    refine MayP.no (mayF_no fun hh => ?_) (hnr.trans (Near.of_below _ (hbX.trans (hb5.mono hbX.size))))
                    have := List.all_eq_true.1 hh.2.2.2.1 _ HMem.out
                    unfold prOk at this
                    simp only [HQ.out, Bool.false_and, Bool.false_eq_true] at this
                  · rw [hnp1] at HNm2
                    have HQ := Lib.hid hnp1
                    clear hnp1
                    by_cases z1 : 4096 < pl
                    · go_wp2_with (go_at_call 86; refine (HNm2.out _).mono ?_; rintro e w5 ⟨rfl, hb5⟩; have cX := (hX.kept hb5).cell)
                      go_ret
                      refine MayP.no (mayF_no fun hh => ?_) (hnr.trans (Near.of_below _ (hbX.trans (hb5.mono hbX.size))))
                      have := List.all_eq_true.1 hh.2.2.2.1 _ HMem.out
                      unfold prOk at this
                      simp only [HPl.out, Bool.and_eq_true, decide_eq_true_eq] at this
                      omega
                    · have HMx := Lib.hid (show j + 1 ≤ maxLen from by unfold maxLen; omega)
                      have HMy := Lib.hid (show (j + 1) * 16 ≤ 140737488355328 from by omega)
                      go_wp2_with (first
                        | (go_at_call 86; refine (HNm2.out _).mono ?_; rintro e w5 ⟨rfl, hb5⟩; have cX := (hX.kept hb5).cell; have hown5 := own_kept hownX hb5; have hz5 : w2.heap.size ≤ w5.heap.size := (by have := hb5.size; simp at this; omega); have hb6 := hb.trans ((hbX.trans (hb5.mono hbX.size)).mono hb.size))
                        | (at_builtin; refine wpList_app str_elem rfl (.tmp 80) (.tmp 83) rfl w2.heap.size (hown5.alloc _) rfl rfl (Rd.fresh _ _ _ 1 1 _ rfl) (by simp [Value.oneCell']) HMx.out HMy.out (by simp; omega) ?_; intro v7 w7 hown7 hb7 hgr7))
                      go_roundw
                      case rel =>
                        refine ⟨j + 1, by omega, by go_num, ?_, ?_, (bal hb6 _).trans hb7⟩
                        · rw [HNT.out]; exact hown7
                        · show ∀ q ∈ _, _
                          rw [HTk.out]
                          intro q hq'
                          rcases List.mem_append.1 hq' with h | h
                          · exact hq.out q h
                          · rw [List.mem_singleton] at h
                            subst h
                            unfold prOk
                            simp only [HQ.out, HPl.out, Bool.true_and, decide_eq_true_eq]
                            omega
                      case measure => simp [intOf]; omega
                · obtain rfl : j = np := by omega
                  have hall : t.ps.all prOk = true := by
                    rw [List.all_eq_true]
                    have := hq.out
                    rw [← HNp.out, List.take_length] at this
                    exact this
                  have HAll := Lib.hid hall
                  have etk : t.ps.take j = t.ps := by rw [← HNp.out, List.take_length]
                  rw [etk] at hown
                  clear hall etk hq
                  obtain ⟨A, c, rfl, _, hrd⟩ := own_slice hown
                  have HTw := Lib.hid (twice_any A j c (t.ps.map (·.1)) (by rw [List.length_map, HNp.out]) (by omega) (fun s hs => by
                    obtain ⟨q, hq', rfl⟩ := List.mem_map.1 hs
                    have := (HLp.out q hq').1
                    unfold maxLen
                    omega) wr hrd)
                  clear hrd hown
                  have cT := (hT2.kept (HB3.out.trans (hb.mono HB3.out.size))).cell
                  by_cases hnd : (t.ps.map (·.1)).Nodup
                  · have HNd := Lib.hid hnd
                    clear hnd
                    by_cases z2 : 200 < nk
                    · go_wp2_with (go_at_call 87; refine HTw.out.mono ?_; rintro e w5 ⟨b, rfl, hbn, hb5⟩; have hbf : b = false := (by rcases b with _ | _; exact rfl; exact absurd HNd.out (hbn.1 rfl)); subst hbf; clear hbn; have cT := (hT2.kept ((HB3.out.trans (hb.mono HB3.out.size)).trans (hb5.mono (Nat.le_trans HB3.out.size hb.size)))).cell)
                      go_ret
                      exact MayP.no (mayF_no fun hh => by
                        have := hh.2.2.2.2.2
                        rw [HNk.out] at this
                        omega) (hnr.trans (Near.of_below _ hb5))
                    · go_wp2_with (go_at_call 87; refine HTw.out.mono ?_; rintro e w5 ⟨b, rfl, hbn, hb5⟩; have hbf : b = false := (by rcases b with _ | _; exact rfl; exact absurd HNd.out (hbn.1 rfl)); subst hbf; clear hbn; have cT := (hT2.kept ((HB3.out.trans (hb.mono HB3.out.size)).trans (hb5.mono (Nat.le_trans HB3.out.size hb.size)))).cell)
                      have hb8 := (HB3.out.trans (hb.mono HB3.out.size)).trans (hb5.mono (Nat.le_trans HB3.out.size hb.size))
                      have hB5 := hB2.kept hb8
                      have hT5 := hT2.kept hb8
                      have hn5 := hnr.trans (Near.of_below _ hb5)
                      have hh : headOk f t n p := ⟨by omega, by rw [HNp.out]; omega, by rw [HNm.out]; exact HNo.out, HAll.out, HNd.out, by rw [HNk.out]; omega⟩
                      have HH := Lib.hid hh
                      clear hh cT HTw HNd HAll HN3 HB3 hb8 hb5 hb hnr hBr hT2 hB2 hn2
                      have hgc5 := hB5.lt
                      have hw5 := hn5.size
                      clear hbase
                      have cT := hT5.cell
                      go_loopw [8, 97] (fun v i wr => ∃ (j : Nat) (n' p' : Int), j ≤ nk ∧ i = .int .i64 j ∧ wr.ownsRow w5.heap.size 9 1 v j (((t.ks.take j).map Tr.nm).flatMap encS) ∧ Hid (kidsF (mayF f) (t.ks.take j) (n + 1, p + t.ps.length) = some (n', p')) ∧ Blk wr gc 82 #[.int .i64 n', .int .i64 p'] ∧ Near (fun i => i = gc) w5 wr) (fun _ i _ => nk - (intOf i).toNat)
                      case atStart => exact ⟨0, n + 1, _, by omega, rfl, World.ownsRow_nil _ _ _ _, by rw [HNp.out]; exact Lib.hid rfl, hB5, Near.refl _ _⟩
                      case round =>
                        obtain ⟨j, n', p', hj, rfl, hown, hkf, hBc, hnw⟩ := hrel
                        have hnr := hn5.trans hnw
                        have hBr : Below B w wr := hnr.below (fun i hi => by omega) (by omega)
                        have hle := kidsF_le (fun t c c' => mayF_le f t c c') _ _ _ hkf.out (by simp only; omega) (by simp only; omega) (by simp only; exact HH.out.1) (by simp only; exact HH.out.2.1)
                        simp only at hle
                        have hsz := hnw.size
                        clear cT
                        by_cases hlj : j < nk
                        · obtain ⟨kd, hkd⟩ : ∃ q, t.ks[j]? = some q := ⟨_, List.getElem?_eq_getElem (by rw [HNk.out]; exact hlj)⟩
                          have hK := HK.out j kd hkd
                          obtain ⟨b2, o2, rfl, hbk, hc2⟩ := HG.out (by omega)
                          have x0 := (hBr.cell (p := ⟨b2, o2 + (j * 3 + 0), none⟩) hbk).trans (hc2 j hlj 0 (by omega))
                          have x1 := (hBr.cell (p := ⟨b2, o2 + (j * 3 + 1), none⟩) hbk).trans (hc2 j hlj 1 (by omega))
                          have x2 := (hBr.cell (p := ⟨b2, o2 + (j * 3 + 2), none⟩) hbk).trans (hc2 j hlj 2 (by omega))
                          have hK2 := hK.below hBr
                          obtain ⟨K1, n1, cc1, K2, n2, cc2, hv⟩ : ∃ (K1 : Option Addr) (n1 cc1 : Nat) (K2 : Option Addr) (n2 cc2 : Nat), rowG j = [.string kd.nm, .slice K1 n1 cc1, .slice K2 n2 cc2] := by
                            cases k with
                            | zero => exact hK.elim
                            | succ k =>
                              obtain ⟨_, _, _, _, _, _, _, e, _⟩ := hK
                              exact ⟨_, _, _, _, _, _, e⟩
                          rw [hv] at x0 x1 x2 hK2
                          simp only [Nat.add_zero, ← Nat.add_assoc, List.getElem?_cons_zero, List.getElem?_cons_succ] at x0 x1 x2
                          have HKt := Lib.hid (kidsF_take (mayF f) t.ks j kd (n + 1, p + t.ps.length) hkd)
                          have HNT := Lib.hid (names_take t.ks Tr.nm j kd hkd)
                          have HLk2 := Lib.hid (HLk.out kd (List.mem_of_getElem? hkd))
                          obtain ⟨sn, hsn⟩ : ∃ sn, kd.nm = sn := ⟨_, rfl⟩
                          rw [hsn] at x0 hK2
                          have HSn := Lib.hid hsn
                          have HK2 := Lib.hid hK2
                          clear hc2 hK hkd hv hK2 hsn
                          have hX := Blk.new wr 25 #[.string sn, .slice K1 n1 cc1, .slice K2 n2 cc2]
                          have hbX := bal (Below.refl wr.heap.size wr) (.cells #[.string sn, .slice K1 n1 cc1, .slice K2 n2 cc2] 25)
                          have hownX := hown.alloc (.cells #[.string sn, .slice K1 n1 cc1, .slice K2 n2 cc2] 25)
                          have hnX := hnw.alloc (.cells #[.string sn, .slice K1 n1 cc1, .slice K2 n2 cc2] 25)
                          have hBX := hBc.alloc (.cells #[.string sn, .slice K1 n1 cc1, .slice K2 n2 cc2] 25)
                          have HC := Lib.hid (IH.out kd _ (at_ + 1) n' p' gc B _ (by omega) (by omega) (HK2.out.below (hbX.mono (by have := hnr.size; omega))) HLk2.out hBg hBX (by omega) (by omega) (by omega) (by omega))
                          clear hBX HK2 HLk2 hBc
                          have HMx := Lib.hid (show j + 1 ≤ maxLen from by unfold maxLen; omega)
                          have HMy := Lib.hid (show (j + 1) * 16 ≤ 140737488355328 from by omega)
                          have HNX := Lib.hid hnX
                          have HX := Lib.hid hX
                          have HO := Lib.hid hownX
                          have hlx : wr.heap.size < (wr.alloc (.cells #[.string sn, .slice K1 n1 cc1, .slice K2 n2 cc2] 25)).heap.size := by simp
                          clear hX hbX hownX hnX hown
                          rcases hm : mayF f kd (n', p') with _ | ⟨n2', p2'⟩
                          · have HM := Lib.hid hm
                            clear hm
                            go_wp2_with (go_at_call 40; refine HC.out.mono ?_; rintro e w6 ⟨b, rfl, hn6, hbq, _⟩; rw [HM.out] at hbq; have hbf : b = false := hbq; subst hbf; clear hbq)
                            go_ret
                            refine MayP.no (mayF_kids (kidsF_none _ _ (j + 1) _ ?_)) (hn5.trans (HNX.out.trans hn6))
                            rw [HKt.out, hkf.out, Option.bind_some, HM.out]
                          · have HM := Lib.hid hm
                            clear hm
                            go_wp2_with (first
                              | (go_at_call 40; refine HC.out.mono ?_; rintro e w6 ⟨b, rfl, hn6, hbq, hbk6⟩; rw [HM.out] at hbq; have hbf : b = true := hbq; subst hbf; clear hbq; have hB6 := hbk6 _ _ HM.out; have cX := (HX.out.same (hn6.block _ hlx (by omega))).cell; have ho6 := own_same HO.out (fun k hk => hn6.block k (own_lt HO.out hk).2 (by have := (own_lt HO.out hk).1; omega)); have hz6 : w5.heap.size ≤ w6.heap.size := (by have := hn6.size; omega); have hn7 := HNX.out.trans hn6)
                              | (at_builtin; refine wpList_app str_elem rfl (.tmp 107) (.tmp 110) rfl w5.heap.size (ho6.alloc _) rfl rfl (Rd.fresh _ _ _ 1 1 _ rfl) (by simp [Value.oneCell']) HMx.out HMy.out (by simp; omega) ?_; intro v7 w7 hown7 hb7 hgr7))
                            go_roundw
                            case rel =>
                              refine ⟨j + 1, n2', p2', by omega, by go_num, ?_, ?_, (hB6.alloc _).below hb7 hgc5, (hn7.alloc _).step (near_from hb7) (fun i hi => .inr hi)⟩
                              · rw [HNT.out, HSn.out]; exact hown7
                              · refine Lib.hid ?_
                                rw [HKt.out, hkf.out, Option.bind_some, HM.out]
                            case measure => simp [intOf]; omega
                        · obtain rfl : j = nk := by omega
                          have etk : t.ks.take j = t.ks := by rw [← HNk.out, List.take_length]
                          rw [etk] at hown hkf
                          obtain ⟨A, c, rfl, _, hrd⟩ := own_slice hown
                          have HTw := Lib.hid (twice_any A j c (t.ks.map Tr.nm) (by rw [List.length_map, HNk.out]) (by omega) (fun s hs => by
                            obtain ⟨q, hq', rfl⟩ := List.mem_map.1 hs
                            have hq2 := HLk.out q hq'
                            cases k with
                            | zero => exact hq2.elim
                            | succ k =>
                              have := hq2.1
                              unfold maxLen
                              omega) wr hrd)
                          clear hrd hown etk
                          have HBc := Lib.hid hBc
                          have HNr := Lib.hid hnr
                          clear hBc hnr hBr hnw
                          go_wp2_with (go_at_call 87; refine HTw.out.mono ?_; rintro e w6 ⟨b, rfl, hbn, hb6⟩)
                          go_ret
                          by_cases hd : (t.ks.map Tr.nm).Nodup
                          · have hbf : b = false := by rcases b with _ | _; exact rfl; exact absurd hd (hbn.1 rfl)
                            subst hbf
                            have hm := mayF_yes HH.out hkf.out hd
                            refine ⟨true, rfl, HNr.out.trans (Near.of_below _ hb6), by rw [hm]; rfl, fun n2 p2 h2 => ?_⟩
                            rw [hm] at h2
                            simp only [Option.some.injEq, Prod.mk.injEq] at h2
                            obtain ⟨rfl, rfl⟩ := h2
                            exact HBc.out.kept hb6
                          · have hbf : b = true := hbn.2 hd
                            subst hbf
                            exact MayP.no (mayF_dup hd) (HNr.out.trans (Near.of_below _ hb6))
                  · have HNd := Lib.hid hnd
                    clear hnd
                    go_wp2_with (go_at_call 87; refine HTw.out.mono ?_; rintro e w5 ⟨b, rfl, hbn, hb5⟩; have hbf : b = true := hbn.2 HNd.out; subst hbf; clear hbn)
                    go_ret
                    exact MayP.no (mayF_no fun hh => HNd.out hh.2.2.2.2.1) (hnr.trans (Near.of_below _ hb5))
            · clear hf7
              have hse : nm.toList.isEmpty = false := by
                rw [Bool.eq_false_iff]
                intro h
                rw [ByteArray.toList_eq, List.isEmpty_iff] at h
                exact hz (congrArg List.length h)
              go_wp2_with fail
              go_ret
              exact MayP.no (mayF_no fun h => by
                have := h.2.2.1
                rw [HNm.out] at this
                unfold nmOk at this
                simp [hz, HF7.out] at this) hn2
          · have a1 : (at_ == 1) = false := by simp; omega
            have a2 : decide (1 < at_) = true := decide_eq_true (by omega)
            have HNn := Lib.hid (fun w => named_any nm ofN w l1)
            rcases hnb : nameB nm ofN with _ | _
            · rw [hnb] at HNn
              have HQ := Lib.hid hnb
              clear hnb
              go_wp2_with (go_at_call 86; refine (HNn.out _).mono ?_; rintro e w3 ⟨rfl, hb3⟩)
              go_ret
              exact MayP.no (mayF_no fun h => by
                have := h.2.2.1
                rw [HNm.out] at this
                unfold nmOk at this
                rw [if_neg hf7, HQ.out] at this
                cases this) (hn2.trans (Near.of_below _ hb3))
            · rw [hnb] at HNn
              have hnmo : nmOk f nm = true := by unfold nmOk; rw [if_neg hf7]; exact hnb
              have HNo := Lib.hid hnmo
              clear hnb hnmo
              go_wp2_with (go_at_call 86; refine (HNn.out _).mono ?_; rintro e w3 ⟨rfl, hb3⟩; have cT := (hT2.kept hb3).cell)
              have HN3 := Lib.hid (hn2.trans (Near.of_below _ hb3))
              have HB3 := Lib.hid hb3
              clear hb3
              go_loopw [7, 66] (fun v i wr => ∃ j : Nat, j ≤ np ∧ i = .int .i64 j ∧ wr.ownsRow w3.heap.size 9 1 v j (((t.ps.take j).map (·.1)).flatMap encS) ∧ Hid (∀ q ∈ t.ps.take j, prOk q = true) ∧ Below w3.heap.size w3 wr) (fun _ i _ => np - (intOf i).toNat)
              case atStart => exact ⟨0, by omega, rfl, World.ownsRow_nil _ _ _ _, by simp [Hid], Below.refl _ _⟩
              case round =>
                obtain ⟨j, hj, rfl, hown, hq, hb⟩ := hrel
                have hbase := hb.size
                have hnr := HN3.out.trans (Near.of_below _ hb)
                have hBr : Below B w wr := hnr.below (fun i hi => by omega) (by omega)
                clear cT cB
                by_cases hlj : j < np
                · obtain ⟨pr, hpr⟩ : ∃ q, t.ps[j]? = some q := ⟨_, List.getElem?_eq_getElem (by rw [HNp.out]; exact hlj)⟩
                  obtain ⟨hps, hpb, Ap, cp, hfj, hcp1, hcp2, _⟩ := HP.out j pr hpr
                  obtain ⟨b1, o1, rfl, hbk, hc1⟩ := HF.out (by omega)
                  have x0 := (hBr.cell (p := ⟨b1, o1 + (j * 2 + 0), none⟩) hbk).trans (hc1 j hlj 0 (by omega))
                  have x1 := (hBr.cell (p := ⟨b1, o1 + (j * 2 + 1), none⟩) hbk).trans (hc1 j hlj 1 (by omega))
                  rw [hfj] at x0 x1
                  simp only [Nat.add_zero, ← Nat.add_assoc, List.getElem?_cons_zero, List.getElem?_cons_succ] at x0 x1
                  have hnt := names_take t.ps (·.1) j pr hpr
                  have HNT := Lib.hid hnt
                  have hmem := List.mem_of_getElem? hpr
                  have hln := (HLp.out _ hmem).1
                  have htk : t.ps.take (j + 1) = t.ps.take j ++ [pr] := by
                    obtain ⟨hj', rfl⟩ := List.getElem?_eq_some_iff.1 hpr
                    exact List.take_succ_eq_append_getElem hj'
                  have HTk := Lib.hid htk
                  have HMem := Lib.hid hmem
                  clear hc1 hfj hpr hnt htk hmem
                  obtain ⟨pn, pb⟩ := pr
                  simp only at x0 hln hps
                  have HLb := Lib.hid (rfl : pb.length = pb.length)
                  obtain ⟨pl, hpl⟩ : ∃ pl, pb.length = pl := ⟨_, rfl⟩
                  simp only at x1 hcp1 hcp2 hpb
                  rw [hpl] at x1 hcp1
                  have HPl := Lib.hid hpl
                  clear hpl hpb
                  unfold maxLen at hcp2
                  have hX := Blk.new wr 88 #[.string pn, .slice Ap pl cp]
                  have hbX := bal (Below.refl wr.heap.size wr) (.cells #[.string pn, .slice Ap pl cp] 88)
                  have hownX := hown.alloc (.cells #[.string pn, .slice Ap pl cp] 88)
                  have HNm2 := Lib.hid (fun w => named_any pn ofP w hln)
                  rcases hnp1 : nameB pn ofP with _ | _
                  · rw [hnp1] at HNm2
                    have HQ := Lib.hid hnp1
                    clear hnp1
                    go_wp2_with (go_at_call 86; refine (HNm2.out _).mono ?_; rintro e w5 ⟨rfl, hb5⟩)
                    go_ret
                    refine MayP.no (mayF_no fun hh => ?_) (hnr.trans (Near.of_below _ (hbX.trans (hb5.mono hbX.size))))
                    have := List.all_eq_true.1 hh.2.2.2.1 _ HMem.out
                    unfold prOk at this
                    simp only [HQ.out, Bool.false_and, Bool.false_eq_true] at this
                  · rw [hnp1] at HNm2
                    have HQ := Lib.hid hnp1
                    clear hnp1
                    by_cases z1 : 4096 < pl
                    · go_wp2_with (go_at_call 86; refine (HNm2.out _).mono ?_; rintro e w5 ⟨rfl, hb5⟩; have cX := (hX.kept hb5).cell)
                      go_ret
                      refine MayP.no (mayF_no fun hh => ?_) (hnr.trans (Near.of_below _ (hbX.trans (hb5.mono hbX.size))))
                      have := List.all_eq_true.1 hh.2.2.2.1 _ HMem.out
                      unfold prOk at this
                      simp only [HPl.out, Bool.and_eq_true, decide_eq_true_eq] at this
                      omega
                    · have HMx := Lib.hid (show j + 1 ≤ maxLen from by unfold maxLen; omega)
                      have HMy := Lib.hid (show (j + 1) * 16 ≤ 140737488355328 from by omega)
                      go_wp2_with (first
                        | (go_at_call 86; refine (HNm2.out _).mono ?_; rintro e w5 ⟨rfl, hb5⟩; have cX := (hX.kept hb5).cell; have hown5 := own_kept hownX hb5; have hz5 : w3.heap.size ≤ w5.heap.size := (by have := hb5.size; simp at this; omega); have hb6 := hb.trans ((hbX.trans (hb5.mono hbX.size)).mono hb.size))
                        | (at_builtin; refine wpList_app str_elem rfl (.tmp 80) (.tmp 83) rfl w3.heap.size (hown5.alloc _) rfl rfl (Rd.fresh _ _ _ 1 1 _ rfl) (by simp [Value.oneCell']) HMx.out HMy.out (by simp; omega) ?_; intro v7 w7 hown7 hb7 hgr7))
                      go_roundw
                      case rel =>
                        refine ⟨j + 1, by omega, by go_num, ?_, ?_, (bal hb6 _).trans hb7⟩
                        · rw [HNT.out]; exact hown7
                        · show ∀ q ∈ _, _
                          rw [HTk.out]
                          intro q hq'
                          rcases List.mem_append.1 hq' with h | h
                          · exact hq.out q h
                          · rw [List.mem_singleton] at h
                            subst h
                            unfold prOk
                            simp only [HQ.out, HPl.out, Bool.true_and, decide_eq_true_eq]
                            omega
                      case measure => simp [intOf]; omega
                · obtain rfl : j = np := by omega
                  have hall : t.ps.all prOk = true := by
                    rw [List.all_eq_true]
                    have := hq.out
                    rw [← HNp.out, List.take_length] at this
                    exact this
                  have HAll := Lib.hid hall
                  have etk : t.ps.take j = t.ps := by rw [← HNp.out, List.take_length]
                  rw [etk] at hown
                  clear hall etk hq
                  obtain ⟨A, c, rfl, _, hrd⟩ := own_slice hown
                  have HTw := Lib.hid (twice_any A j c (t.ps.map (·.1)) (by rw [List.length_map, HNp.out]) (by omega) (fun s hs => by
                    obtain ⟨q, hq', rfl⟩ := List.mem_map.1 hs
                    have := (HLp.out q hq').1
                    unfold maxLen
                    omega) wr hrd)
                  clear hrd hown
                  have cT := (hT2.kept (HB3.out.trans (hb.mono HB3.out.size))).cell
                  by_cases hnd : (t.ps.map (·.1)).Nodup
                  · have HNd := Lib.hid hnd
                    clear hnd
                    by_cases z2 : 200 < nk
                    · go_wp2_with (go_at_call 87; refine HTw.out.mono ?_; rintro e w5 ⟨b, rfl, hbn, hb5⟩; have hbf : b = false := (by rcases b with _ | _; exact rfl; exact absurd HNd.out (hbn.1 rfl)); subst hbf; clear hbn; have cT := (hT2.kept ((HB3.out.trans (hb.mono HB3.out.size)).trans (hb5.mono (Nat.le_trans HB3.out.size hb.size)))).cell)
                      go_ret
                      exact MayP.no (mayF_no fun hh => by
                        have := hh.2.2.2.2.2
                        rw [HNk.out] at this
                        omega) (hnr.trans (Near.of_below _ hb5))
                    · go_wp2_with (go_at_call 87; refine HTw.out.mono ?_; rintro e w5 ⟨b, rfl, hbn, hb5⟩; have hbf : b = false := (by rcases b with _ | _; exact rfl; exact absurd HNd.out (hbn.1 rfl)); subst hbf; clear hbn; have cT := (hT2.kept ((HB3.out.trans (hb.mono HB3.out.size)).trans (hb5.mono (Nat.le_trans HB3.out.size hb.size)))).cell)
                      have hb8 := (HB3.out.trans (hb.mono HB3.out.size)).trans (hb5.mono (Nat.le_trans HB3.out.size hb.size))
                      have hB5 := hB2.kept hb8
                      have hT5 := hT2.kept hb8
                      have hn5 := hnr.trans (Near.of_below _ hb5)
                      have hh : headOk f t n p := ⟨by omega, by rw [HNp.out]; omega, by rw [HNm.out]; exact HNo.out, HAll.out, HNd.out, by rw [HNk.out]; omega⟩
                      have HH := Lib.hid hh
                      clear hh cT HTw HNd HAll HN3 HB3 hb8 hb5 hb hnr hBr hT2 hB2 hn2
                      have hgc5 := hB5.lt
                      have hw5 := hn5.size
                      clear hbase
                      have cT := hT5.cell
                      go_loopw [8, 97] (fun v i wr => ∃ (j : Nat) (n' p' : Int), j ≤ nk ∧ i = .int .i64 j ∧ wr.ownsRow w5.heap.size 9 1 v j (((t.ks.take j).map Tr.nm).flatMap encS) ∧ Hid (kidsF (mayF f) (t.ks.take j) (n + 1, p + t.ps.length) = some (n', p')) ∧ Blk wr gc 82 #[.int .i64 n', .int .i64 p'] ∧ Near (fun i => i = gc) w5 wr) (fun _ i _ => nk - (intOf i).toNat)
                      case atStart => exact ⟨0, n + 1, _, by omega, rfl, World.ownsRow_nil _ _ _ _, by rw [HNp.out]; exact Lib.hid rfl, hB5, Near.refl _ _⟩
                      case round =>
                        obtain ⟨j, n', p', hj, rfl, hown, hkf, hBc, hnw⟩ := hrel
                        have hnr := hn5.trans hnw
                        have hBr : Below B w wr := hnr.below (fun i hi => by omega) (by omega)
                        have hle := kidsF_le (fun t c c' => mayF_le f t c c') _ _ _ hkf.out (by simp only; omega) (by simp only; omega) (by simp only; exact HH.out.1) (by simp only; exact HH.out.2.1)
                        simp only at hle
                        have hsz := hnw.size
                        clear cT
                        by_cases hlj : j < nk
                        · obtain ⟨kd, hkd⟩ : ∃ q, t.ks[j]? = some q := ⟨_, List.getElem?_eq_getElem (by rw [HNk.out]; exact hlj)⟩
                          have hK := HK.out j kd hkd
                          obtain ⟨b2, o2, rfl, hbk, hc2⟩ := HG.out (by omega)
                          have x0 := (hBr.cell (p := ⟨b2, o2 + (j * 3 + 0), none⟩) hbk).trans (hc2 j hlj 0 (by omega))
                          have x1 := (hBr.cell (p := ⟨b2, o2 + (j * 3 + 1), none⟩) hbk).trans (hc2 j hlj 1 (by omega))
                          have x2 := (hBr.cell (p := ⟨b2, o2 + (j * 3 + 2), none⟩) hbk).trans (hc2 j hlj 2 (by omega))
                          have hK2 := hK.below hBr
                          obtain ⟨K1, n1, cc1, K2, n2, cc2, hv⟩ : ∃ (K1 : Option Addr) (n1 cc1 : Nat) (K2 : Option Addr) (n2 cc2 : Nat), rowG j = [.string kd.nm, .slice K1 n1 cc1, .slice K2 n2 cc2] := by
                            cases k with
                            | zero => exact hK.elim
                            | succ k =>
                              obtain ⟨_, _, _, _, _, _, _, e, _⟩ := hK
                              exact ⟨_, _, _, _, _, _, e⟩
                          rw [hv] at x0 x1 x2 hK2
                          simp only [Nat.add_zero, ← Nat.add_assoc, List.getElem?_cons_zero, List.getElem?_cons_succ] at x0 x1 x2
                          have HKt := Lib.hid (kidsF_take (mayF f) t.ks j kd (n + 1, p + t.ps.length) hkd)
                          have HNT := Lib.hid (names_take t.ks Tr.nm j kd hkd)
                          have HLk2 := Lib.hid (HLk.out kd (List.mem_of_getElem? hkd))
                          obtain ⟨sn, hsn⟩ : ∃ sn, kd.nm = sn := ⟨_, rfl⟩
                          rw [hsn] at x0 hK2
                          have HSn := Lib.hid hsn
                          have HK2 := Lib.hid hK2
                          clear hc2 hK hkd hv hK2 hsn
                          have hX := Blk.new wr 25 #[.string sn, .slice K1 n1 cc1, .slice K2 n2 cc2]
                          have hbX := bal (Below.refl wr.heap.size wr) (.cells #[.string sn, .slice K1 n1 cc1, .slice K2 n2 cc2] 25)
                          have hownX := hown.alloc (.cells #[.string sn, .slice K1 n1 cc1, .slice K2 n2 cc2] 25)
                          have hnX := hnw.alloc (.cells #[.string sn, .slice K1 n1 cc1, .slice K2 n2 cc2] 25)
                          have hBX := hBc.alloc (.cells #[.string sn, .slice K1 n1 cc1, .slice K2 n2 cc2] 25)
                          have HC := Lib.hid (IH.out kd _ (at_ + 1) n' p' gc B _ (by omega) (by omega) (HK2.out.below (hbX.mono (by have := hnr.size; omega))) HLk2.out hBg hBX (by omega) (by omega) (by omega) (by omega))
                          clear hBX HK2 HLk2 hBc
                          have HMx := Lib.hid (show j + 1 ≤ maxLen from by unfold maxLen; omega)
                          have HMy := Lib.hid (show (j + 1) * 16 ≤ 140737488355328 from by omega)
                          have HNX := Lib.hid hnX
                          have HX := Lib.hid hX
                          have HO := Lib.hid hownX
                          have hlx : wr.heap.size < (wr.alloc (.cells #[.string sn, .slice K1 n1 cc1, .slice K2 n2 cc2] 25)).heap.size := by simp
                          clear hX hbX hownX hnX hown
                          rcases hm : mayF f kd (n', p') with _ | ⟨n2', p2'⟩
                          · have HM := Lib.hid hm
                            clear hm
                            go_wp2_with (go_at_call 40; refine HC.out.mono ?_; rintro e w6 ⟨b, rfl, hn6, hbq, _⟩; rw [HM.out] at hbq; have hbf : b = false := hbq; subst hbf; clear hbq)
                            go_ret
                            refine MayP.no (mayF_kids (kidsF_none _ _ (j + 1) _ ?_)) (hn5.trans (HNX.out.trans hn6))
                            rw [HKt.out, hkf.out, Option.bind_some, HM.out]
                          · have HM := Lib.hid hm
                            clear hm
                            go_wp2_with (first
                              | (go_at_call 40; refine HC.out.mono ?_; rintro e w6 ⟨b, rfl, hn6, hbq, hbk6⟩; rw [HM.out] at hbq; have hbf : b = true := hbq; subst hbf; clear hbq; have hB6 := hbk6 _ _ HM.out; have cX := (HX.out.same (hn6.block _ hlx (by omega))).cell; have ho6 := own_same HO.out (fun k hk => hn6.block k (own_lt HO.out hk).2 (by have := (own_lt HO.out hk).1; omega)); have hz6 : w5.heap.size ≤ w6.heap.size := (by have := hn6.size; omega); have hn7 := HNX.out.trans hn6)
                              | (at_builtin; refine wpList_app str_elem rfl (.tmp 107) (.tmp 110) rfl w5.heap.size (ho6.alloc _) rfl rfl (Rd.fresh _ _ _ 1 1 _ rfl) (by simp [Value.oneCell']) HMx.out HMy.out (by simp; omega) ?_; intro v7 w7 hown7 hb7 hgr7))
                            go_roundw
                            case rel =>
                              refine ⟨j + 1, n2', p2', by omega, by go_num, ?_, ?_, (hB6.alloc _).below hb7 hgc5, (hn7.alloc _).step (near_from hb7) (fun i hi => .inr hi)⟩
                              · rw [HNT.out, HSn.out]; exact hown7
                              · refine Lib.hid ?_
                                rw [HKt.out, hkf.out, Option.bind_some, HM.out]
                            case measure => simp [intOf]; omega
                        · obtain rfl : j = nk := by omega
                          have etk : t.ks.take j = t.ks := by rw [← HNk.out, List.take_length]
                          rw [etk] at hown hkf
                          obtain ⟨A, c, rfl, _, hrd⟩ := own_slice hown
                          have HTw := Lib.hid (twice_any A j c (t.ks.map Tr.nm) (by rw [List.length_map, HNk.out]) (by omega) (fun s hs => by
                            obtain ⟨q, hq', rfl⟩ := List.mem_map.1 hs
                            have hq2 := HLk.out q hq'
                            cases k with
                            | zero => exact hq2.elim
                            | succ k =>
                              have := hq2.1
                              unfold maxLen
                              omega) wr hrd)
                          clear hrd hown etk
                          have HBc := Lib.hid hBc
                          have HNr := Lib.hid hnr
                          clear hBc hnr hBr hnw
                          go_wp2_with (go_at_call 87; refine HTw.out.mono ?_; rintro e w6 ⟨b, rfl, hbn, hb6⟩)
                          go_ret
                          by_cases hd : (t.ks.map Tr.nm).Nodup
                          · have hbf : b = false := by rcases b with _ | _; exact rfl; exact absurd hd (hbn.1 rfl)
                            subst hbf
                            have hm := mayF_yes HH.out hkf.out hd
                            refine ⟨true, rfl, HNr.out.trans (Near.of_below _ hb6), by rw [hm]; rfl, fun n2 p2 h2 => ?_⟩
                            rw [hm] at h2
                            simp only [Option.some.injEq, Prod.mk.injEq] at h2
                            obtain ⟨rfl, rfl⟩ := h2
                            exact HBc.out.kept hb6
                          · have hbf : b = true := hbn.2 hd
                            subst hbf
                            exact MayP.no (mayF_dup hd) (HNr.out.trans (Near.of_below _ hb6))
                  · have HNd := Lib.hid hnd
                    clear hnd
                    go_wp2_with (go_at_call 87; refine HTw.out.mono ?_; rintro e w5 ⟨b, rfl, hbn, hb5⟩; have hbf : b = true := hbn.2 HNd.out; subst hbf; clear hbn)
                    go_ret
                    exact MayP.no (mayF_no fun hh => HNd.out hh.2.2.2.2.1) (hnr.trans (Near.of_below _ hb5))
end Go.Proofs.Ytnkpaockginooaa
namespace Go.Proofs.Ytnkpaockginooaa
set_option linter.unusedVariables false
set_option linter.unusedSimpArgs false
open Go.RowKit Go.Sort

/-- Whether a tree may be. -/
noncomputable def mayT (t : Tr) : Bool := (mayF 8 t (0, 0)).isSome
theorem check_any (k : Nat) (t : Tr) (cs : List Value) (w : World) (hT : TrOk w w.heap.size k t cs) (hL : LensF k t) : Calls Try.prog 17 #[.agg cs.toArray] w fun e w' => e = .returned (.bool (mayT t)) ∧ Below w.heap.size w w' := by
  obtain ⟨sn, K1, n1, cc1, K2, n2, cc2, hv⟩ : ∃ (sn : ByteArray) (K1 : Option Addr) (n1 cc1 : Nat) (K2 : Option Addr) (n2 cc2 : Nat), cs = [.string sn, .slice K1 n1 cc1, .slice K2 n2 cc2] := by
    cases k with
    | zero => exact hT.elim
    | succ k =>
      obtain ⟨_, _, _, _, _, _, _, e, _⟩ := hT
      exact ⟨_, _, _, _, _, _, _, e⟩
  subst hv
  have hB := Blk.new (w.alloc (.cells #[.string sn, .slice K1 n1 cc1, .slice K2 n2 cc2] 25)) 82 #[.int .i64 0, .int .i64 0]
  rw [World.size_alloc] at hB
  have hb := (bal (bal (Below.refl w.heap.size w) (.cells #[.string sn, .slice K1 n1 cc1, .slice K2 n2 cc2] 25)) (.cells #[.int .i64 0, .int .i64 0] 82))
  have HM := Lib.hid (may_any 8 k t _ 1 0 0 _ w.heap.size _ (by omega) (by rfl) (hT.below hb) hL (by omega) hB (by omega) (by omega) (by omega) (by omega))
  have HB := Lib.hid hb
  obtain ⟨r, hr⟩ : ∃ r, mayT t = r := ⟨_, rfl⟩
  rw [hr]
  have HR := Lib.hid hr
  clear hB hb hr hT hL
  go_enter Try.func17, Try.ntmps17
  go_wp2_with (go_at_call 40; refine HM.out.mono ?_; rintro e w3 ⟨b, rfl, hn3, hbq, _⟩; have hbr : b = r := (hbq.trans HR.out); subst hbr; clear hbq)
  go_ret
  exact ⟨rfl, HB.out.trans (hn3.below (fun i hi => by omega) (by simp; omega))⟩
end Go.Proofs.Ytnkpaockginooaa
