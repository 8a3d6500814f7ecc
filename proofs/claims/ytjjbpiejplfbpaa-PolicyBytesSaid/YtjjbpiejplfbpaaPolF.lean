/- Chapter 27: who starts: the program's and the document's. -/
import Derived.Test.YtjjbpiejplfbpaaConfW
import Derived.Test.YtjjbpiejplfbpaaAppR
import Derived.Deep.MidRow
import Derived.Deep.WholeRow
namespace Go.Proofs.Ytjjbpiejplfbpaa
set_option linter.unusedVariables false
open Go.RowKit Go.Sort

def encBl (b : Bool) : List Value := [.bool b]
theorem info_bool : (Try.prog.info? 4).map (fun i => (i.zero, i.size, i.bytes)) = some (some (.bool false), 1, 1) := by kernel_rfl
theorem bool_elem : ElemInfo Try.prog 30 4 1 1 := by
  obtain ⟨i, hi, hz, hs, hb⟩ := info_parts info_bool
  exact ⟨Try.underlying30, ⟨i, _, hi, hz, hs, hb, rfl⟩, by decide⟩
/-- A verdict: its cells; its error. -/
structure Vd where
  cs : List Value
  err : Int
structure VdOk (v : Vd) : Prop where
  len : v.cs.length = 35
  one : ∀ u ∈ v.cs, u.oneCell' = true
  c0 : v.cs[0]? = some (.int .i64 v.err)
def zVd : Vd := ⟨[], 0⟩
def zVc : Array Value := #[.int .i64 0, .int .u32 0] ++ Array.replicate 32 (.int .u8 0) ++ #[.slice none 0 0]
theorem info_vd : (Try.prog.info? 41).map (fun i => (i.zero, i.size)) = some (some (.agg zVc), 35) := by kernel_rfl
theorem zero_vd : ∃ Z : Array Value, Z.size = 35 ∧ (∀ w, (zeroValue 41).run Try.prog w = .ok (.agg Z) w) ∧ (Try.prog.info? 41).map (·.size) = some 35 :=
  ⟨zVc, by decide +kernel, (zero_of_info info_vd).1, (zero_of_info info_vd).2⟩
theorem store_vd {Z : Array Value} (hZ : Z.size = 35) (hi : (Try.prog.info? 41).map (·.size) = some 35) {cs : List Value} (hl : cs.length = 35) (h1 : ∀ u ∈ cs, u.oneCell' = true) (w : World) :
    (storeCells ⟨w.heap.size, 0, none⟩ cs 0).run Try.prog (w.alloc (.cells Z 41)) = .ok () (w.alloc (.cells cs.toArray 41)) := by
  have := run_storeCells_new (P := Try.prog) w 41 Z cs.toArray (by simpa [hl] using hi) (by simp [hl, hZ]) (all_oneCell_toArray h1)
  simpa using this
theorem cell_vd (w : World) (cs : List Value) (j : Nat) : (w.alloc (.cells cs.toArray 41)).cell? ⟨w.heap.size, j, none⟩ = cs[j]? := by
  rw [(Blk.new w 41 cs.toArray).cell j]; simp
/-- The verdicts' rows lie in w. -/
def VRows (w : World) (B : Nat) (A : Option Addr) (n : Nat) (vs : List Vd) : Prop := ∀ k, k < n → ∃ b o, A = some ⟨b, o, none⟩ ∧ b < B ∧ w.rangeAt b (o + k * 35) (vs.getD k zVd).cs
def VsOk (n : Nat) (vs : List Vd) : Prop := ∀ k, k < n → VdOk (vs.getD k zVd)
theorem VRows.below {w w' : World} {B B' : Nat} {A : Option Addr} {n : Nat} {vs : List Vd} (h : VRows w B A n vs) (hb : Below B w w') (hB : B ≤ B') : VRows w' B' A n vs := by
  intro k hk
  obtain ⟨b, o, hA, hlt, hr⟩ := h k hk
  exact ⟨b, o, hA, by omega, fun j v hv => (hb.cell (p := ⟨b, o + k * 35 + j, none⟩) hlt).trans (hr j v hv)⟩
/-- One that fails all. -/
def badN (vs : List Vd) (gs : List Gd) (k : Nat) : Bool := decide ((vs.getD k zVd).err ≠ 0) && (gs.getD k zG).mand
def fbK (vs : List Vd) (gs : List Gd) : Nat → Option Nat
  | 0 => none
  | k + 1 => match fbK vs gs k with
    | some g => some g
    | none => if badN vs gs k then some k else none
theorem fbK_none {vs : List Vd} {gs : List Gd} {k : Nat} (h : fbK vs gs k = none) : fbK vs gs (k + 1) = if badN vs gs k then some k else none := by
  rw [fbK, h]
theorem fbK_some {vs : List Vd} {gs : List Gd} {k g : Nat} (h : fbK vs gs k = some g) : ∀ d, fbK vs gs (k + d) = some g
  | 0 => h
  | d + 1 => by
    show (match fbK vs gs (k + d) with | some g => some g | none => _) = _
    rw [fbK_some h d]
theorem fbK_le {vs : List Vd} {gs : List Gd} {k g m : Nat} (h : fbK vs gs k = some g) (hk : k ≤ m) : fbK vs gs m = some g := by
  have := fbK_some h (m - k)
  rwa [Nat.add_sub_cancel' hk] at this
theorem fbK_lt {vs : List Vd} {gs : List Gd} {k g : Nat} (h : fbK vs gs k = some g) : g < k := by
  induction k with
  | zero => cases h
  | succ k ih =>
    unfold fbK at h
    split at h
    · rename_i g' hg'
      injection h with h; subst h
      have := ih hg'
      omega
    · split at h
      · injection h with h; omega
      · cases h
def okK (vs : List Vd) (k : Nat) : List Bool := (List.range k).map fun i => (vs.getD i zVd).err == 0
theorem okK_len (vs : List Vd) (k : Nat) : (okK vs k).length = k := by simp [okK]
theorem okK_step (vs : List Vd) (k : Nat) : okK vs (k + 1) = okK vs k ++ [(vs.getD k zVd).err == 0] := by simp [okK, List.range_succ]
theorem okK_get (vs : List Vd) (k i : Nat) (h : i < k) (h' : i < (okK vs k).length) : (okK vs k)[i] = ((vs.getD i zVd).err == 0) := by simp [okK]
theorem one_bl (l : List Bool) : ∀ u ∈ l.flatMap encBl, u.oneCell' = true := by
  intro u hu; obtain ⟨x, _, hx⟩ := List.mem_flatMap.1 hu; simp [encBl] at hx; subst hx; rfl

/-- What Decide hands back. -/
def DecR (R : Option Nat) (vs : List Vd) (n : Nat) (w : World) (e : Ending) (w' : World) : Prop :=
  (match R with
  | some g => e = .returned (.tuple #[.slice none 0 0, .int .i64 g, .int .i64 270])
  | none => ∃ A c, e = .returned (.tuple #[.slice A n c, .int .i64 0, .int .i64 0]) ∧ Rd w' w'.heap.size 1 A n ((okK vs n).flatMap encBl)) ∧ Below w.heap.size w w'

set_option maxHeartbeats 2000000 in
theorem decideBad_any (ver : Int) (A : Option Addr) (ng c : Nat) (A2 : Option Addr) (n2 c2 : Nat) (A3 : Option Addr) (n3 c3 : Nat) (w : World) (h : n3 ≠ ng) :
    Calls Try.prog 10 #[.agg #[.int .u32 ver, .slice A ng c, .slice A2 n2 c2], .slice A3 n3 c3] w fun e w' => e = .returned (.tuple #[.slice none 0 0, .int .i64 0, .int .i64 1]) ∧ Below w.heap.size w w' := by
  have e1 : ((n3 : Int) != (ng : Int)) = true := by rw [bne_iff_ne]; omega
  clear h
  go_enter Try.func10, Try.ntmps10
  go_wp2
  refine bodyPost_ret (v := .tuple #[.slice none 0 0, .int .i64 0, .int .i64 1]) (by simp [results, Try.results10, go_sem]) rfl ⟨rfl, bal (Below.refl _ _) _⟩
set_option maxHeartbeats 2000000 in
theorem refDecideBad_any (ver : Int) (A : Option Addr) (ng c : Nat) (A2 : Option Addr) (n2 c2 : Nat) (A3 : Option Addr) (n3 c3 : Nat) (w : World) (h : n3 ≠ ng) :
    Calls Try.prog 11 #[.agg #[.int .u32 ver, .slice A ng c, .slice A2 n2 c2], .slice A3 n3 c3] w fun e w' => e = .returned (.tuple #[.slice none 0 0, .int .i64 0, .int .i64 1]) ∧ Below w.heap.size w w' := by
  have e1 : ((n3 : Int) != (ng : Int)) = true := by rw [bne_iff_ne]; omega
  clear h
  go_enter Try.func11, Try.ntmps11
  go_wp2
  refine bodyPost_ret (v := .tuple #[.slice none 0 0, .int .i64 0, .int .i64 1]) (by simp [results, Try.results11, go_sem]) rfl ⟨rfl, bal (Below.refl _ _) _⟩

set_option maxRecDepth 100000 in
set_option maxHeartbeats 4000000 in
theorem decide_any (ver : Int) (A : Option Addr) (n c : Nat) (A2 : Option Addr) (n2 c2 : Nat) (A3 : Option Addr) (c3 : Nat) (gs : List Gd) (vs : List Vd) (w : World) (hn : n ≤ 1000)
    (hg : ∀ W, Below w.heap.size w W → GsOk W w.heap.size n gs) (hr : ∀ W, Below w.heap.size w W → GRows W A n gs) (hv : VsOk n vs) (hr3 : VRows w w.heap.size A3 n vs) :
    Calls Try.prog 10 #[.agg #[.int .u32 ver, .slice A n c, .slice A2 n2 c2], .slice A3 n c3] w (DecR (fbK vs gs n) vs n w) := by
  obtain ⟨R, hR⟩ : ∃ R, fbK vs gs n = R := ⟨_, rfl⟩
  rw [hR]
  have HRes := Lib.hid hR
  have HG := Lib.hid hg
  have HR := Lib.hid hr
  have HV := Lib.hid hv
  have HR3 := Lib.hid hr3
  clear hR hg hr hv hr3
  have hB0 := Blk.new w 26 #[.int .u32 ver, .slice A n c, .slice A2 n2 c2]
  go_enter Try.func10, Try.ntmps10
  go_wp2
  go_loopw [4, 17] (fun v i wr => ∃ k : Nat, k ≤ n ∧ i = .int .i64 k ∧ Hid (fbK vs gs k = none) ∧ ∃ A' c', v = .slice A' k c' ∧ wr.ownsRow (w.heap.size + 1) 4 1 (.slice A' k c') k ((okK vs k).flatMap encBl) ∧ Blk wr w.heap.size 26 #[.int .u32 ver, .slice A n c, .slice A2 n2 c2] ∧ Below w.heap.size w wr) (fun _ i _ => n - (intOf i).toNat)
  case atStart => exact ⟨0, by omega, rfl, Lib.hid rfl, none, 0, rfl, World.ownsRow_nil _ _ _ _, hB0, bal (Below.refl _ _) _⟩
  case round =>
    obtain ⟨k, hk, rfl, hno, A', c', rfl, ho, hB, hb⟩ := hrel
    clear hB0
    by_cases hlt : k < n
    · obtain ⟨b, o, rfl, hbb, hrg⟩ := HR.out wr hb k hlt
      have hgk := HG.out wr hb k hlt
      have d1 : wr.cell? ⟨b, o + k * 79 + 1, none⟩ = some (.bool (gs.getD k zG).mand) := hrg 1 _ hgk.c1
      obtain ⟨b3, o3, rfl, hb3, hrg3⟩ := HR3.out.below hb hb.size k hlt
      have hvk := HV.out k hlt
      have hst := fbK_none hno.out
      have hbd : badN vs gs k = (decide ((vs.getD k zVd).err ≠ 0) && (gs.getD k zG).mand) := rfl
      rw [hbd] at hst
      have HOk := Lib.hid (okK_step vs k)
      have HRg := Lib.hid hrg3
      have hlen := hvk.len
      have hc0 := hvk.c0
      have hone := hvk.one
      clear hrg hgk hrg3 hvk hbd
      generalize (gs.getD k zG).mand = md at *
      generalize vs.getD k zVd = v at *
      have HLn := Lib.hid hlen
      obtain ⟨Z, hZ, hz0, hZi⟩ := zero_vd
      have hst2 := store_vd hZ hZi hlen hone
      have hsz : v.cs.toArray.size = 35 := by simp [hlen]
      have e0 := cell_vd wr v.cs 0
      rw [hc0] at e0
      have hcB := hB.cell
      have hlB := hB.lt
      have hlb : b < wr.heap.size := hbb
      have HMx := Lib.hid (show k + 1 ≤ maxLen by unfold maxLen; omega)
      have HMy := Lib.hid (show (k + 1) * 1 ≤ 140737488355328 by omega)
      have hbz := hb.size
      clear hc0 hone hlen hZi
      by_cases herr : v.err = 0
      · have HN := Lib.hid (show fbK vs gs (k + 1) = none by rw [hst, herr]; rfl)
        have x1 : (v.err != 0) = false := by rw [bne_eq_false_iff_eq]; exact herr
        have x2 : (v.err == 0) = true := by rw [beq_iff_eq]; exact herr
        rw [x2] at HOk
        clear hst herr
        go_wp2_with (first
          | (refine wpList_load_mid rfl 41 (.tmp 20) rfl b3 (o3 + k * 35) (by rfl) v.cs _ HRg.out Try.underlying41 rfl (by rw [HLn.out]; kernel_rfl) ?_)
          | (at_builtin; refine wpList_app bool_elem rfl (.tmp 34) (.tmp 38) rfl (w.heap.size + 1) ((ho.alloc _).alloc _) rfl rfl (Rd.fresh _ _ _ 1 1 _ rfl) (by simp [Value.oneCell']) HMx.out HMy.out (by simp; omega) ?_; intro v5 w5 hown5 hb5 hgr; obtain ⟨A5, c5, rfl, _, _⟩ := own_slice hown5))
        go_roundw
        case rel =>
          refine ⟨k + 1, by omega, by go_num, HN, A5, c5, rfl, ?_, ((hB.alloc _).alloc _).below hb5 (by omega), (bal (bal hb _) _).trans (hb5.mono (by omega))⟩
          rw [HOk.out, List.flatMap_append]
          exact hown5
        case measure => simp [intOf]; omega
      · have x1 : (v.err != 0) = true := by rw [bne_iff_ne]; exact herr
        have x2 : (v.err == 0) = false := by rw [beq_eq_false_iff_ne]; exact herr
        rw [x2] at HOk
        cases md with
        | true =>
          have HF := Lib.hid (show R = some k by
            rw [← HRes.out]
            refine fbK_le (k := k + 1) ?_ (by omega)
            rw [hst, decide_eq_true herr]; rfl)
          clear hst herr
          go_wp2_with (refine wpList_load_mid rfl 41 (.tmp 20) rfl b3 (o3 + k * 35) (by rfl) v.cs _ HRg.out Try.underlying41 rfl (by rw [HLn.out]; kernel_rfl) ?_)
          refine bodyPost_ret (v := .tuple #[.slice none 0 0, .int .i64 k, .int .i64 270]) (by simp [results, Try.results10, go_sem]) rfl ?_
          rw [HF.out]
          exact ⟨rfl, bal hb _⟩
        | false =>
          have HN := Lib.hid (show fbK vs gs (k + 1) = none by rw [hst]; simp)
          clear hst herr
          go_wp2_with (first
            | (refine wpList_load_mid rfl 41 (.tmp 20) rfl b3 (o3 + k * 35) (by rfl) v.cs _ HRg.out Try.underlying41 rfl (by rw [HLn.out]; kernel_rfl) ?_)
            | (at_builtin; refine wpList_app bool_elem rfl (.tmp 34) (.tmp 38) rfl (w.heap.size + 1) ((ho.alloc _).alloc _) rfl rfl (Rd.fresh _ _ _ 1 1 _ rfl) (by simp [Value.oneCell']) HMx.out HMy.out (by simp; omega) ?_; intro v5 w5 hown5 hb5 hgr; obtain ⟨A5, c5, rfl, _, _⟩ := own_slice hown5))
          go_roundw
          case rel =>
            refine ⟨k + 1, by omega, by go_num, HN, A5, c5, rfl, ?_, ((hB.alloc _).alloc _).below hb5 (by omega), (bal (bal hb _) _).trans (hb5.mono (by omega))⟩
            rw [HOk.out, List.flatMap_append]
            exact hown5
          case measure => simp [intOf]; omega
    · obtain rfl : k = n := by omega
      have HF := Lib.hid (show R = none by rw [← HRes.out]; exact hno.out)
      have hr9 := Rd.of_own ho
      go_wp2
      refine bodyPost_ret (v := .tuple #[.slice A' k c', .int .i64 0, .int .i64 0]) (by simp [results, Try.results10, go_sem]) rfl ?_
      rw [HF.out]
      exact ⟨⟨A', c', rfl, hr9⟩, hb⟩

set_option maxRecDepth 100000 in
set_option maxHeartbeats 4000000 in
theorem refDecide_any (ver : Int) (A : Option Addr) (n c : Nat) (A2 : Option Addr) (n2 c2 : Nat) (A3 : Option Addr) (c3 : Nat) (gs : List Gd) (vs : List Vd) (w : World) (hn : n ≤ 1000)
    (hg : ∀ W, Below w.heap.size w W → GsOk W w.heap.size n gs) (hr : ∀ W, Below w.heap.size w W → GRows W A n gs) (hv : VsOk n vs) (hr3 : VRows w w.heap.size A3 n vs) :
    Calls Try.prog 11 #[.agg #[.int .u32 ver, .slice A n c, .slice A2 n2 c2], .slice A3 n c3] w (DecR (fbK vs gs n) vs n w) := by
  obtain ⟨R, hR⟩ : ∃ R, fbK vs gs n = R := ⟨_, rfl⟩
  rw [hR]
  have HRes := Lib.hid hR
  have HG := Lib.hid hg
  have HR := Lib.hid hr
  have HV := Lib.hid hv
  have HR3 := Lib.hid hr3
  clear hR hg hr hv hr3
  have hB0 := Blk.new w 26 #[.int .u32 ver, .slice A n c, .slice A2 n2 c2]
  go_enter Try.func11, Try.ntmps11
  go_wp2
  go_loopw [7, 17] (fun v i wr => ∃ k : Nat, k ≤ n ∧ i = .int .i64 k ∧ Hid (fbK vs gs k = none) ∧ ∃ A' c', v = .slice A' k c' ∧ wr.ownsRow (w.heap.size + 1) 4 1 (.slice A' k c') k ((okK vs k).flatMap encBl) ∧ Blk wr w.heap.size 26 #[.int .u32 ver, .slice A n c, .slice A2 n2 c2] ∧ Below w.heap.size w wr) (fun _ i _ => n - (intOf i).toNat)
  case atStart => exact ⟨0, by omega, rfl, Lib.hid rfl, none, 0, rfl, World.ownsRow_nil _ _ _ _, hB0, bal (Below.refl _ _) _⟩
  case round =>
    obtain ⟨k, hk, rfl, hno, A', c', rfl, ho, hB, hb⟩ := hrel
    clear hB0
    by_cases hlt : k < n
    · obtain ⟨b, o, rfl, hbb, hrg⟩ := HR.out wr hb k hlt
      have hgk := HG.out wr hb k hlt
      have d1 : wr.cell? ⟨b, o + k * 79 + 1, none⟩ = some (.bool (gs.getD k zG).mand) := hrg 1 _ hgk.c1
      obtain ⟨b3, o3, rfl, hb3, hrg3⟩ := HR3.out.below hb hb.size k hlt
      have hvk := HV.out k hlt
      have e0 : wr.cell? ⟨b3, o3 + k * 35, none⟩ = some (.int .i64 (vs.getD k zVd).err) := by have := hrg3 0 _ hvk.c0; simpa using this
      have hst := fbK_none hno.out
      have hbd : badN vs gs k = (decide ((vs.getD k zVd).err ≠ 0) && (gs.getD k zG).mand) := rfl
      rw [hbd] at hst
      have HOk := Lib.hid (okK_step vs k)
      clear hrg hgk hrg3 hvk hbd
      generalize (gs.getD k zG).mand = md at *
      generalize (vs.getD k zVd).err = ev at *
      have hcB := hB.cell
      have hlB := hB.lt
      have HMx := Lib.hid (show k + 1 ≤ maxLen by unfold maxLen; omega)
      have HMy := Lib.hid (show (k + 1) * 1 ≤ 140737488355328 by omega)
      have hbz := hb.size
      by_cases herr : ev = 0
      · have HN := Lib.hid (show fbK vs gs (k + 1) = none by rw [hst, herr]; rfl)
        have x1 : (ev != 0) = false := by rw [bne_eq_false_iff_eq]; exact herr
        have x2 : (ev == 0) = true := by rw [beq_iff_eq]; exact herr
        rw [x2] at HOk
        clear hst herr
        go_wp2_with (at_builtin; refine wpList_app bool_elem rfl (.tmp 35) (.tmp 42) rfl (w.heap.size + 1) (ho.alloc _) rfl rfl (Rd.fresh _ _ _ 1 1 _ rfl) (by simp [Value.oneCell']) HMx.out HMy.out (by simp; omega) ?_; intro v5 w5 hown5 hb5 hgr; obtain ⟨A5, c5, rfl, _, _⟩ := own_slice hown5)
        go_roundw
        case rel =>
          refine ⟨k + 1, by omega, by go_num, HN, A5, c5, rfl, ?_, (hB.alloc _).below hb5 (by omega), (bal hb _).trans (hb5.mono (by omega))⟩
          rw [HOk.out, List.flatMap_append]
          exact hown5
        case measure => simp [intOf]; omega
      · have x1 : (ev != 0) = true := by rw [bne_iff_ne]; exact herr
        have x2 : (ev == 0) = false := by rw [beq_eq_false_iff_ne]; exact herr
        rw [x2] at HOk
        cases md with
        | true =>
          have HF := Lib.hid (show R = some k by
            rw [← HRes.out]
            refine fbK_le (k := k + 1) ?_ (by omega)
            rw [hst, decide_eq_true herr]; rfl)
          clear hst herr
          go_wp2
          refine bodyPost_ret (v := .tuple #[.slice none 0 0, .int .i64 k, .int .i64 270]) (by simp [results, Try.results11, go_sem]) rfl ?_
          rw [HF.out]
          exact ⟨rfl, hb⟩
        | false =>
          have HN := Lib.hid (show fbK vs gs (k + 1) = none by rw [hst]; simp)
          clear hst herr
          go_wp2_with (at_builtin; refine wpList_app bool_elem rfl (.tmp 35) (.tmp 42) rfl (w.heap.size + 1) (ho.alloc _) rfl rfl (Rd.fresh _ _ _ 1 1 _ rfl) (by simp [Value.oneCell']) HMx.out HMy.out (by simp; omega) ?_; intro v5 w5 hown5 hb5 hgr; obtain ⟨A5, c5, rfl, _, _⟩ := own_slice hown5)
          go_roundw
          case rel =>
            refine ⟨k + 1, by omega, by go_num, HN, A5, c5, rfl, ?_, (hB.alloc _).below hb5 (by omega), (bal hb _).trans (hb5.mono (by omega))⟩
            rw [HOk.out, List.flatMap_append]
            exact hown5
          case measure => simp [intOf]; omega
    · obtain rfl : k = n := by omega
      have HF := Lib.hid (show R = none by rw [← HRes.out]; exact hno.out)
      have hr9 := Rd.of_own ho
      go_wp2
      refine bodyPost_ret (v := .tuple #[.slice A' k c', .int .i64 0, .int .i64 0]) (by simp [results, Try.results11, go_sem]) rfl ?_
      rw [HF.out]
      exact ⟨⟨A', c', rfl, hr9⟩, hb⟩
end Go.Proofs.Ytjjbpiejplfbpaa
