/- Chapter 22, the registers of a distributor: the plain law; the program's and the document's. -/
import Derived.Test.YtnhlcfkjhacedaaIrqA
import Derived.Test.YtnhlcfkjhacedaaBytes
import Derived.Test.YtnhlcfkjhacedaaNear
import Derived.Laws.BitsAllLaws
import Derived.Deep.CutRange
import Derived.Deep.RegionLaw
import Derived.Deep.RegionHeld3
namespace Go.Proofs.Ytnhlcfkjhacedaa
set_option linter.unusedVariables false
open Go.RowKit Go.Sort

def encU (x : Int) : List Value := [.int .u32 x]
theorem info_u32 : (Try.prog.info? 22).map (fun i => (i.zero, i.size, i.bytes)) = some (some (.int .u32 0), 1, 4) := by kernel_rfl
theorem make_u (w : World) (n : Nat) (h : n ≤ 100000) :
    (Instr.makeSlice 44 (.int .i64 (n : Int)) (.int .i64 (n : Int))).run Try.prog w = .ok (.slice (some ⟨w.heap.size, 0, none⟩) n n) (w.alloc (.cells (madeCells #[.int .u32 0] (n * 1)) 22)) := by
  obtain ⟨i, hi, hz, hs, hb⟩ := info_parts info_u32
  have := run_make (P := Try.prog) w 44 22 i _ Try.underlying44 hi hz .i64 .i64 n n (by omega) (by omega) (by rw [hb]; omega) (by omega)
  rw [hs] at this
  simpa [Value.cells] using this
theorem made1 (v : Value) (n : Nat) : (madeCells #[v] (n * 1)).toList = List.replicate n v := by
  rw [Nat.mul_one]
  induction n with
  | zero => simp [madeCells]
  | succ n ih =>
    rw [List.replicate_succ', ← ih]
    simp [madeCells, List.range_succ, Nat.mod_one]
theorem or_u32 (a b : Int) (ha : 0 ≤ a ∧ a < 4294967296) (hb : 0 ≤ b ∧ b < 4294967296) : 0 ≤ bits .or .u32 a b ∧ bits .or .u32 a b < 4294967296 := by
  rw [u32_or a b ha.1 ha.2 hb.1 hb.2]
  have := Nat.or_lt_two_pow (n := 32) (x := a.toNat) (y := b.toNat) (by omega) (by omega)
  omega
theorem or0_u32 (a : Int) (ha : 0 ≤ a ∧ a < 4294967296) : bits .or .u32 a 0 = a := by
  rw [u32_or a 0 ha.1 ha.2 (by omega) (by omega)]
  simp
  omega
theorem or0_u8 (a : Int) (ha : 0 ≤ a ∧ a < 256) : bits .or .u8 0 a = a := by
  rw [u8_or 0 a (by omega) (by omega) ha.1 ha.2]
  simp
  omega
def WordsOk (l : List Int) : Prop := ∀ x ∈ l, 0 ≤ x ∧ x < 4294967296
theorem getD_ok {l : List Int} (h : WordsOk l) (i : Nat) : 0 ≤ l.getD i 0 ∧ l.getD i 0 < 4294967296 := by
  rw [List.getD_eq_getElem?_getD]
  rcases Nat.lt_or_ge i l.length with h1 | h1
  · rw [List.getElem?_eq_getElem h1]; exact h _ (List.getElem_mem h1)
  · rw [List.getElem?_eq_none h1]; simp
def orAt (xs : List Int) (i : Nat) (v : Int) : List Int := xs.set i (bits .or .u32 (xs.getD i 0) v)
theorem orAt_len (xs : List Int) (i : Nat) (v : Int) : (orAt xs i v).length = xs.length := by simp [orAt]
theorem orAt_ok {xs : List Int} (h : WordsOk xs) (i : Nat) {v : Int} (hv : 0 ≤ v ∧ v < 4294967296) : WordsOk (orAt xs i v) := by
  intro x hx
  rcases List.mem_or_eq_of_mem_set hx with h1 | rfl
  · exact h x h1
  · exact or_u32 _ _ (getD_ok h i) hv
theorem orAt_zero {xs : List Int} (h : WordsOk xs) (i : Nat) : orAt xs i 0 = xs := by
  unfold orAt
  rw [or0_u32 _ (getD_ok h i)]
  rcases Nat.lt_or_ge i xs.length with h1 | h1
  · rw [List.getD_eq_getElem?_getD, List.getElem?_eq_getElem h1]; simp
  · exact List.set_eq_of_length_le h1
/-- The fields of routes with an owner, so many to a register. -/
def layN (each width : Nat) (f : Rt → Int) (l : List Rt) (m : Nat) : Nat → List Int
  | 0 => List.replicate m 0
  | k + 1 => if 0 ≤ (l.getD k zR).own then orAt (layN each width f l m k) (k / each) (IntKind.u32.wrap (f (l.getD k zR) * 2 ^ (width * (k % each)))) else layN each width f l m k
theorem wrap_u32_ok (x : Int) : 0 ≤ IntKind.u32.wrap x ∧ IntKind.u32.wrap x < 4294967296 := by
  rw [IntKind.wrap_u32']
  exact ⟨Int.emod_nonneg _ (by decide), Int.emod_lt_of_pos _ (by decide)⟩
theorem layN_ok (each width : Nat) (f : Rt → Int) (l : List Rt) (m : Nat) : ∀ k, (layN each width f l m k).length = m ∧ WordsOk (layN each width f l m k)
  | 0 => ⟨by simp [layN], fun x hx => by
      have := List.eq_of_mem_replicate hx
      subst this; decide⟩
  | k + 1 => by
    have ih := layN_ok each width f l m k
    unfold layN
    split
    · exact ⟨by rw [orAt_len, ih.1], orAt_ok ih.2 _ (wrap_u32_ok _)⟩
    · exact ih
def fOne (_ : Rt) : Int := 1
def fEdge (r : Rt) : Int := if r.edge then 2 else 0
def fTell (r : Rt) : Int := if 0 ≤ r.cpu ∧ r.cpu < 8 then 2 ^ r.cpu.toNat else 0

set_option maxHeartbeats 1000000 in
theorem gic1_any (r : Rt) (w : World) : Calls Try.prog 35 #[.agg #[.int .i64 r.own, .int .i64 r.cpu, .bool r.edge]] w fun e w' => e = .returned (.int .u32 (fOne r)) ∧ Below w.heap.size w w' := by
  go_enter Try.func35, Try.ntmps35
  go_wp2
  go_ret
  exact ⟨rfl, bal (Below.refl _ _) _⟩
set_option maxHeartbeats 1000000 in
theorem gic3_any (r : Rt) (w : World) : Calls Try.prog 38 #[.agg #[.int .i64 r.own, .int .i64 r.cpu, .bool r.edge]] w fun e w' => e = .returned (.int .u32 (fEdge r)) ∧ Below w.heap.size w w' := by
  obtain ⟨own, cpu, edge⟩ := r
  cases edge
  all_goals
    go_enter Try.func38, Try.ntmps38
    go_wp2
    go_ret
    exact ⟨rfl, bal (Below.refl _ _) _⟩
set_option maxHeartbeats 1000000 in
theorem gic2_any (r : Rt) (w : World) : Calls Try.prog 37 #[.agg #[.int .i64 r.own, .int .i64 r.cpu, .bool r.edge]] w fun e w' => e = .returned (.int .u8 (fTell r)) ∧ Below w.heap.size w w' := by
  obtain ⟨own, cpu, edge⟩ := r
  by_cases h : 0 ≤ cpu ∧ cpu < 8
  · obtain ⟨h0, h1⟩ := h
    obtain ⟨n, rfl⟩ := Int.eq_ofNat_of_zero_le h0
    have e : fTell ⟨own, n, edge⟩ = IntKind.u8.wrap (1 * 2 ^ n) := by
      unfold fTell
      simp only
      rw [if_pos ⟨h0, h1⟩, Int.toNat_natCast]
      obtain ⟨m, hm⟩ : ∃ m : Fin 8, m.val = n := ⟨⟨n, by omega⟩, rfl⟩
      subst hm
      revert m
      decide +kernel
    rw [e]
    clear e
    simp only
    go_enter Try.func37, Try.ntmps37
    go_wp2
    go_ret
    exact ⟨(show Ending.returned (.int .u8 ((2:Int) ^ n % 256)) = _ by rw [Int.one_mul, IntKind.wrap_u8']), bal (Below.refl _ _) _⟩
  · have e : fTell ⟨own, cpu, edge⟩ = 0 := by unfold fTell; simp only; rw [if_neg h]
    rw [e]
    clear e
    rcases (show cpu < 0 ∨ (0 ≤ cpu ∧ 8 ≤ cpu) by omega) with h | ⟨h, h'⟩
    all_goals
      go_enter Try.func37, Try.ntmps37
      go_wp2
      go_ret
      exact ⟨rfl, bal (Below.refl _ _) _⟩

theorem rep_encU (m : Nat) : (List.replicate m (0 : Int)).flatMap encU = List.replicate m (.int .u32 0) := by
  induction m with
  | zero => rfl
  | succ m ih => rw [List.replicate_succ, List.flatMap_cons, ih]; rfl
theorem flatU_set : ∀ (l : List Int) (j : Nat) (u : Int), (l.flatMap encU).set j (.int .u32 u) = (l.set j u).flatMap encU
  | [], _, _ => by simp
  | v :: l, 0, _ => by simp [encU]
  | v :: l, j + 1, u => by
    have ih := flatU_set l j u
    simp only [List.flatMap_cons, List.set_cons_succ]
    rw [← ih]
    rfl

set_option maxRecDepth 100000 in
set_option maxHeartbeats 4000000 in
theorem layOne_any (A : Option Addr) (n c : Nat) (l : List Rt) (w : World) (hl : l.length = n) (hn : n ≤ 100000) (hr : Rd w w.heap.size 3 A n (l.flatMap encR)) :
    Calls Try.prog 34 #[.slice A n c, .int .i64 1, .int .i64 32, .func (.func 35) #[] #[]] w fun e w' => ∃ A' c', e = .returned (.slice A' ((n + 31) / 32) c') ∧ Rd w' w'.heap.size 1 A' ((n + 31) / 32) ((layN 32 1 fOne l ((n + 31) / 32) n).flatMap encU) ∧ Below w.heap.size w w' := by
  have HL := Lib.hid hl
  have HR := Lib.hid hr
  clear hl hr
  obtain ⟨m, hm⟩ : ∃ m, (n + 31) / 32 = m := ⟨_, rfl⟩
  rw [hm]
  have HM := Lib.hid hm
  have hm1 : n ≤ 32 * m := by omega
  have hm2 : m ≤ 100000 := by omega
  have hmi : ((n : Int) + 32 - 1) / 32 = (m : Int) := by omega
  clear hm
  have hmk := fun w => make_u w m hm2
  have hcs : (madeCells #[Value.int .u32 0] (m * 1)).size = m := by rw [size_madeCells]; omega
  have HX := Lib.hid (made1 (.int .u32 0) m)
  generalize madeCells #[Value.int .u32 0] (m * 1) = cur at *
  go_enter Try.func34, Try.ntmps34
  go_wp2
  have ho0 := own_made (w := w) (base := w.heap.size) (e := 22) (size := 1) (n := m) (cur := cur) (Nat.le_refl _) (by unfold maxLen; omega) (by omega)
  rw [HX.out] at ho0
  have HO0 := Lib.hid ho0
  have hb0 := bal (Below.refl w.heap.size w) (.cells cur 22)
  clear hmk hcs HX ho0 hmi
  go_loopw [26] (fun i wr => ∃ k : Nat, k ≤ n ∧ i = .int .i64 k ∧ wr.ownsRow w.heap.size 22 1 (.slice (some ⟨w.heap.size, 0, none⟩) m m) m ((layN 32 1 fOne l m k).flatMap encU) ∧ Below w.heap.size w wr) (fun i _ => n - (intOf i).toNat)
  case atStart => exact ⟨0, by omega, rfl, by rw [layN, rep_encU]; exact HO0.out, hb0⟩
  case round =>
    obtain ⟨k, hk, rfl, ho, hb⟩ := hrel
    clear HO0 hb0
    by_cases hlt : k < n
    · have hlt' : k < l.length := by rw [HL.out]; exact hlt
      obtain ⟨b, o, rfl, hbb, hc⟩ := (HR.out.below hb).row (fun _ => rfl) hlt' HL.out
      have d0 := hc 0 (by omega)
      have d1 := hc 1 (by omega)
      have d2 := hc 2 (by omega)
      simp only [encR, Nat.add_zero, List.getElem?_cons_zero, List.getElem?_cons_succ] at d0 d1 d2
      have hgd : l.getD k zR = l[k] := by rw [List.getD_eq_getElem?_getD, List.getElem?_eq_getElem hlt']; rfl
      have hst : layN 32 1 fOne l m (k + 1) = if 0 ≤ (l[k]).own then orAt (layN 32 1 fOne l m k) (k / 32) (IntKind.u32.wrap (fOne l[k] * 2 ^ (1 * (k % 32)))) else layN 32 1 fOne l m k := by rw [layN, hgd]
      obtain ⟨xl, xo⟩ := layN_ok 32 1 fOne l m k
      clear hc hgd
      have HF := Lib.hid (fun W => gic1_any l[k] W)
      generalize fOne l[k] = fv at *
      generalize l[k] = r at *
      generalize layN 32 1 fOne l m k = xs at *
      obtain ⟨own, cpu, edge⟩ := r
      simp only at *
      by_cases hw : 0 ≤ own
      · rw [if_pos hw] at hst
        have hkm : k / 32 < m := by omega
        have c0 := ho.cellAt (k / 32) (by omega)
        have e0 := flatMap_get (enc := encU) (s := 1) (fun _ => rfl) xs (k / 32) 0 (by omega) (by omega)
        rw [Nat.mul_one, Nat.add_zero] at e0
        rw [e0] at c0
        simp only [encU, List.getElem?_cons_zero] at c0
        have hxd : xs.getD (k / 32) 0 = xs[k / 32]'(by omega) := by rw [List.getD_eq_getElem?_getD, List.getElem?_eq_getElem (by omega)]; rfl
        have hfz := ho.frozenAt
        unfold orAt at hst
        rw [hxd] at hst
        have HOk := Lib.hid (fun u => flatU_set xs (k / 32) u)
        have HN := Lib.hid hst
        clear hst hxd e0
        generalize (xs[k / 32]'(by omega)) = old at *
        go_wp2
        refine wp_name ?_
        intro w2 hw2
        have hb2 : RowKit.Below wr.heap.size wr w2 := by rw [hw2]; exact bal (Below.refl _ _) _
        have hB2 : Blk w2 wr.heap.size 58 #[.int .i64 own, .int .i64 cpu, .bool edge] := by rw [hw2]; exact Blk.new _ _ _
        clear hw2
        have hgl := (own_lt ho (k := w.heap.size) (by simp [Value.ownBlock])).2
        have c2' := (hb2.cell (p := ⟨w.heap.size, k / 32, none⟩) hgl).trans c0
        have ec := fun d os => ((below_regrown w2 d os).cell (p := ⟨w.heap.size, k / 32, none⟩) (Nat.lt_of_lt_of_le hgl hb2.size)).trans c2'
        have eb := blk_regrown hB2
        have q1 : (k : Int).tdiv 32 = ((k / 32 : Nat) : Int) := by rw [Int.tdiv_eq_ediv_of_nonneg (by omega)]; omega
        have q2 : (k : Int).tmod 32 = ((k % 32 : Nat) : Int) := by rw [Int.tmod_eq_emod_of_nonneg (by omega)]; omega
        have q3 : IntKind.i64.wrap ((k / 32 : Nat) : Int) = ((k / 32 : Nat) : Int) := IntWalk.i64_in _ (by omega)
        have q4 : IntKind.i64.wrap ((k % 32 : Nat) : Int) = ((k % 32 : Nat) : Int) := IntWalk.i64_in _ (by omega)
        have q6 : IntKind.i64.wrap (1 * ((k % 32 : Nat) : Int)) = 1 * ((k % 32 : Nat) : Int) := IntWalk.i64_in _ (by omega)
        have q7 : 0 ≤ 1 * ((k % 32 : Nat) : Int) := by omega
        have q8 : (1 * ((k % 32 : Nat) : Int)).toNat = 1 * (k % 32) := by omega
        have q9 : min (1 * (k % 32)) 32 = 1 * (k % 32) := by omega
        have q5 : 1 * (k % 32) ≤ 31 := by omega
        have HF2 := Lib.hid (fun (d : Nat) (os : Array Obj) => HF.out (grow (redrawn w2 d) os))
        clear c0
        generalize k / 32 = kd at *
        generalize k % 32 = km at *
        refine wp_region_tail_below 16 (by kernel_rfl) (by kernel_rfl) ?_
        simp only [List.take_succ_cons, List.take_zero, List.drop_succ_cons, List.drop_zero]
        repeat (quiet_step ((go_at_call 35; exact regrown (HF2.out _ _))))
        refine wpQuiet_nil ?_
        rintro w3 ⟨p, rfl⟩
        have hb3 := below_regrown w2 p.d p.os
        have hb23 := hb2.trans (hb3.mono hb2.size)
        clear ec eb HF2
        generalize grow (redrawn w2 p.d) p.os = w3 at *
        have ho3 := own_kept ho hb23
        have hf3 := ho3.frozenAt
        have c3 := (hb3.cell (p := ⟨w.heap.size, kd, none⟩) (Nat.lt_of_lt_of_le hgl hb2.size)).trans c2'
        have HS := Lib.hid (fun u => (ho3.stored kd (.int .u32 u)).1)
        have hbw3 := hb.trans (hb23.mono hb.size)
        clear hB2 c2' hfz
        go_wp2
        go_roundw
        case rel => exact ⟨k + 1, by omega, by go_num, by rw [HN.out, ← HOk.out]; first | exact HS.out _ | (have := HS.out (bits .or .u32 old (IntKind.u32.wrap (fv * 2 ^ (1 * km)))); simpa using this) | (have := HS.out (bits .or .u32 old (IntKind.u32.wrap (fv * 2 ^ (1 * km)))); simpa [IntKind.wrap_u32'] using this), hbw3.setCell (by simp) _⟩
        case measure => simp [intOf]; omega
      · rw [if_neg hw] at hst
        have HN := Lib.hid hst
        clear hst
        go_wp2
        go_roundw
        case rel => exact ⟨k + 1, by omega, by go_num, by rw [HN.out]; exact ho.alloc _, bal hb _⟩
        case measure => simp [intOf]; omega
    · obtain rfl : k = n := by omega
      have hr9 := Rd.of_own ho
      go_wp2
      go_ret
      exact ⟨_, _, rfl, hr9, hb⟩
set_option maxRecDepth 100000 in
set_option maxHeartbeats 4000000 in
theorem layEdge_any (A : Option Addr) (n c : Nat) (l : List Rt) (w : World) (hl : l.length = n) (hn : n ≤ 100000) (hr : Rd w w.heap.size 3 A n (l.flatMap encR)) :
    Calls Try.prog 34 #[.slice A n c, .int .i64 2, .int .i64 32, .func (.func 38) #[] #[]] w fun e w' => ∃ A' c', e = .returned (.slice A' ((n + 15) / 16) c') ∧ Rd w' w'.heap.size 1 A' ((n + 15) / 16) ((layN 16 2 fEdge l ((n + 15) / 16) n).flatMap encU) ∧ Below w.heap.size w w' := by
  have HL := Lib.hid hl
  have HR := Lib.hid hr
  clear hl hr
  obtain ⟨m, hm⟩ : ∃ m, (n + 15) / 16 = m := ⟨_, rfl⟩
  rw [hm]
  have HM := Lib.hid hm
  have hm1 : n ≤ 16 * m := by omega
  have hm2 : m ≤ 100000 := by omega
  have hmi : ((n : Int) + 16 - 1) / 16 = (m : Int) := by omega
  clear hm
  have hmk := fun w => make_u w m hm2
  have hcs : (madeCells #[Value.int .u32 0] (m * 1)).size = m := by rw [size_madeCells]; omega
  have HX := Lib.hid (made1 (.int .u32 0) m)
  generalize madeCells #[Value.int .u32 0] (m * 1) = cur at *
  go_enter Try.func34, Try.ntmps34
  go_wp2
  have ho0 := own_made (w := w) (base := w.heap.size) (e := 22) (size := 1) (n := m) (cur := cur) (Nat.le_refl _) (by unfold maxLen; omega) (by omega)
  rw [HX.out] at ho0
  have HO0 := Lib.hid ho0
  have hb0 := bal (Below.refl w.heap.size w) (.cells cur 22)
  clear hmk hcs HX ho0 hmi
  go_loopw [26] (fun i wr => ∃ k : Nat, k ≤ n ∧ i = .int .i64 k ∧ wr.ownsRow w.heap.size 22 1 (.slice (some ⟨w.heap.size, 0, none⟩) m m) m ((layN 16 2 fEdge l m k).flatMap encU) ∧ Below w.heap.size w wr) (fun i _ => n - (intOf i).toNat)
  case atStart => exact ⟨0, by omega, rfl, by rw [layN, rep_encU]; exact HO0.out, hb0⟩
  case round =>
    obtain ⟨k, hk, rfl, ho, hb⟩ := hrel
    clear HO0 hb0
    by_cases hlt : k < n
    · have hlt' : k < l.length := by rw [HL.out]; exact hlt
      obtain ⟨b, o, rfl, hbb, hc⟩ := (HR.out.below hb).row (fun _ => rfl) hlt' HL.out
      have d0 := hc 0 (by omega)
      have d1 := hc 1 (by omega)
      have d2 := hc 2 (by omega)
      simp only [encR, Nat.add_zero, List.getElem?_cons_zero, List.getElem?_cons_succ] at d0 d1 d2
      have hgd : l.getD k zR = l[k] := by rw [List.getD_eq_getElem?_getD, List.getElem?_eq_getElem hlt']; rfl
      have hst : layN 16 2 fEdge l m (k + 1) = if 0 ≤ (l[k]).own then orAt (layN 16 2 fEdge l m k) (k / 16) (IntKind.u32.wrap (fEdge l[k] * 2 ^ (2 * (k % 16)))) else layN 16 2 fEdge l m k := by rw [layN, hgd]
      obtain ⟨xl, xo⟩ := layN_ok 16 2 fEdge l m k
      clear hc hgd
      have HF := Lib.hid (fun W => gic3_any l[k] W)
      generalize fEdge l[k] = fv at *
      generalize l[k] = r at *
      generalize layN 16 2 fEdge l m k = xs at *
      obtain ⟨own, cpu, edge⟩ := r
      simp only at *
      by_cases hw : 0 ≤ own
      · rw [if_pos hw] at hst
        have hkm : k / 16 < m := by omega
        have c0 := ho.cellAt (k / 16) (by omega)
        have e0 := flatMap_get (enc := encU) (s := 1) (fun _ => rfl) xs (k / 16) 0 (by omega) (by omega)
        rw [Nat.mul_one, Nat.add_zero] at e0
        rw [e0] at c0
        simp only [encU, List.getElem?_cons_zero] at c0
        have hxd : xs.getD (k / 16) 0 = xs[k / 16]'(by omega) := by rw [List.getD_eq_getElem?_getD, List.getElem?_eq_getElem (by omega)]; rfl
        have hfz := ho.frozenAt
        unfold orAt at hst
        rw [hxd] at hst
        have HOk := Lib.hid (fun u => flatU_set xs (k / 16) u)
        have HN := Lib.hid hst
        clear hst hxd e0
        generalize (xs[k / 16]'(by omega)) = old at *
        go_wp2
        refine wp_name ?_
        intro w2 hw2
        have hb2 : RowKit.Below wr.heap.size wr w2 := by rw [hw2]; exact bal (Below.refl _ _) _
        have hB2 : Blk w2 wr.heap.size 58 #[.int .i64 own, .int .i64 cpu, .bool edge] := by rw [hw2]; exact Blk.new _ _ _
        clear hw2
        have hgl := (own_lt ho (k := w.heap.size) (by simp [Value.ownBlock])).2
        have c2' := (hb2.cell (p := ⟨w.heap.size, k / 16, none⟩) hgl).trans c0
        have ec := fun d os => ((below_regrown w2 d os).cell (p := ⟨w.heap.size, k / 16, none⟩) (Nat.lt_of_lt_of_le hgl hb2.size)).trans c2'
        have eb := blk_regrown hB2
        have q1 : (k : Int).tdiv 16 = ((k / 16 : Nat) : Int) := by rw [Int.tdiv_eq_ediv_of_nonneg (by omega)]; omega
        have q2 : (k : Int).tmod 16 = ((k % 16 : Nat) : Int) := by rw [Int.tmod_eq_emod_of_nonneg (by omega)]; omega
        have q3 : IntKind.i64.wrap ((k / 16 : Nat) : Int) = ((k / 16 : Nat) : Int) := IntWalk.i64_in _ (by omega)
        have q4 : IntKind.i64.wrap ((k % 16 : Nat) : Int) = ((k % 16 : Nat) : Int) := IntWalk.i64_in _ (by omega)
        have q6 : IntKind.i64.wrap (2 * ((k % 16 : Nat) : Int)) = 2 * ((k % 16 : Nat) : Int) := IntWalk.i64_in _ (by omega)
        have q7 : 0 ≤ 2 * ((k % 16 : Nat) : Int) := by omega
        have q8 : (2 * ((k % 16 : Nat) : Int)).toNat = 2 * (k % 16) := by omega
        have q9 : min (2 * (k % 16)) 32 = 2 * (k % 16) := by omega
        have q5 : 2 * (k % 16) ≤ 31 := by omega
        have HF2 := Lib.hid (fun (d : Nat) (os : Array Obj) => HF.out (grow (redrawn w2 d) os))
        clear c0
        generalize k / 16 = kd at *
        generalize k % 16 = km at *
        refine wp_region_tail_below 16 (by kernel_rfl) (by kernel_rfl) ?_
        simp only [List.take_succ_cons, List.take_zero, List.drop_succ_cons, List.drop_zero]
        repeat (quiet_step ((go_at_call 38; exact regrown (HF2.out _ _))))
        refine wpQuiet_nil ?_
        rintro w3 ⟨p, rfl⟩
        have hb3 := below_regrown w2 p.d p.os
        have hb23 := hb2.trans (hb3.mono hb2.size)
        clear ec eb HF2
        generalize grow (redrawn w2 p.d) p.os = w3 at *
        have ho3 := own_kept ho hb23
        have hf3 := ho3.frozenAt
        have c3 := (hb3.cell (p := ⟨w.heap.size, kd, none⟩) (Nat.lt_of_lt_of_le hgl hb2.size)).trans c2'
        have HS := Lib.hid (fun u => (ho3.stored kd (.int .u32 u)).1)
        have hbw3 := hb.trans (hb23.mono hb.size)
        clear hB2 c2' hfz
        go_wp2
        go_roundw
        case rel => exact ⟨k + 1, by omega, by go_num, by rw [HN.out, ← HOk.out]; first | exact HS.out _ | (have := HS.out (bits .or .u32 old (IntKind.u32.wrap (fv * 2 ^ (2 * km)))); simpa using this) | (have := HS.out (bits .or .u32 old (IntKind.u32.wrap (fv * 2 ^ (2 * km)))); simpa [IntKind.wrap_u32'] using this), hbw3.setCell (by simp) _⟩
        case measure => simp [intOf]; omega
      · rw [if_neg hw] at hst
        have HN := Lib.hid hst
        clear hst
        go_wp2
        go_roundw
        case rel => exact ⟨k + 1, by omega, by go_num, by rw [HN.out]; exact ho.alloc _, bal hb _⟩
        case measure => simp [intOf]; omega
    · obtain rfl : k = n := by omega
      have hr9 := Rd.of_own ho
      go_wp2
      go_ret
      exact ⟨_, _, rfl, hr9, hb⟩
end Go.Proofs.Ytnhlcfkjhacedaa
