/- Chapter 13: Format: the program's and the document's, walked. -/
import Derived.Test.YtpenjfkdinmgmaaCtrM
import Derived.Laws.CopyOwn
namespace Go.Proofs.Ytpenjfkdinmgmaa
set_option linter.unusedVariables false
set_option linter.unusedSimpArgs false
open Go.RowKit Go.Sort


theorem wp_copy_own {P : Program} {w : World} {o : Oper} {a : Act} {K : Act → World → Prop} {Q : Exit → Act → World → Prop} (d s : Operand) (dT sT : TypeId)
    (ho : o.op = .call { callee := .builtin .copy, args := #[d, s], argTypes := #[dT, sT] }) (elem : TypeId) (hu : P.underlying dT = some (.slice elem)) (hsz : (P.info? elem).map (·.size) = some 1)
    (g off dLen dCap : Nat) (ad : Addr) (sLen sCap : Nat) (hd : a.eval d = .slice (some ⟨g, off, none⟩) dLen dCap) (hs : a.eval s = .slice (some ad) sLen sCap)
    (cur : Array Value) (t : TypeId) (hg : Blk w g t cur) (cs : List Value) (hn : cs.length = Nat.min sLen dLen)
    (hsrc : ∀ j v, cs[j]? = some v → w.cell? (ad.add j) = some v) (hfit : off + cs.length ≤ cur.size) (h1 : ∀ v ∈ cs, v.oneCell' = true)
    (h : ∀ w', Blk w' g t (splice cur.toList off cs).toArray → Near (fun i => i = g) w w' → K (a.put o.dst (goInt cs.length)) w') : o.wp P a w K Q := by
  have hrun := run_copy_row (P := P) w dT sT o.type elem g off dLen dCap ad sLen sCap cur t cs hu hsz hg hn hsrc hfit h1
  unfold Oper.wp
  simp [execOp, ho, resolve, invoke, builtin, hd, hs, hrun, Result.andThen]
  exact h _ (show (w.setRow g _).heap[g]? = _ by simpa [splice] using setRow_heap w g _ _ t _ hg) ⟨rfl, rfl, rfl, by simp [World.setRow], fun k hk hne => setRow_other w g k _ hne⟩
theorem make_u (w : World) (n : Nat) (h : n ≤ 100000) :
    (Instr.makeSlice 22 (.int .i64 (n : Int)) (.int .i64 (n : Int))).run Try.prog w = .ok (.slice (some ⟨w.heap.size, 0, none⟩) n n) (w.alloc (.cells (madeCells #[.int .u32 0] (n * 1)) 23)) := by
  obtain ⟨i, hi, hz, hs, hb⟩ := info_parts info_u32
  have := run_make (P := Try.prog) w 22 23 i _ Try.underlying22 hi hz .i64 .i64 n n (by omega) (by omega) (by rw [hb]; omega) (by omega)
  rw [hs] at this
  simpa [Value.cells] using this
theorem made1 (v : Value) (n : Nat) : (madeCells #[v] (n * 1)).toList = List.replicate n v := by
  rw [Nat.mul_one]
  induction n with
  | zero => simp [madeCells]
  | succ n ih =>
    rw [List.replicate_succ', ← ih]
    simp [madeCells, List.range_succ, Nat.mod_one]

/-- The words of a fresh counter, and of many. -/
def fmt1 (id v : Int) : List Int := [3282393660, 1, v, checkN id 1 v, 0, 0, 0, 0]
def fmtN : Nat → List Int → List Int
  | _, [] => []
  | i, v :: l => fmt1 i v ++ fmtN (i + 1) l
theorem fmtN_app : ∀ (l l2 : List Int) (i : Nat), fmtN i (l ++ l2) = fmtN i l ++ fmtN (i + l.length) l2
  | [], l2, i => by simp [fmtN]
  | v :: l, l2, i => by
    rw [List.cons_append, fmtN, fmtN_app l l2 (i + 1), fmtN, List.append_assoc, List.length_cons, show i + 1 + l.length = i + (l.length + 1) by omega]
theorem fmtN_len : ∀ (l : List Int) (i : Nat), (fmtN i l).length = 8 * l.length
  | [], _ => rfl
  | v :: l, i => by rw [fmtN, List.length_append, fmtN_len l]; simp [fmt1]; omega
theorem fmtN_take {l : List Int} {k : Nat} {v : Int} (h : l[k]? = some v) : fmtN 0 (l.take (k + 1)) = fmtN 0 (l.take k) ++ fmt1 k v := by
  obtain ⟨hk, hv⟩ := List.getElem?_eq_some_iff.1 h
  rw [List.take_succ_eq_append_getElem hk, fmtN_app, hv]
  have : (l.take k).length = k := by rw [List.length_take]; omega
  rw [this]
  simp [fmtN]
def fmtS (l : List Int) (k : Nat) : List Int := fmtN 0 (l.take k) ++ List.replicate (8 * (l.length - k)) 0
theorem fmtS_len (l : List Int) (k : Nat) (h : k ≤ l.length) : (fmtS l k).length = 8 * l.length := by
  unfold fmtS
  rw [List.length_append, fmtN_len, List.length_take, List.length_replicate]; omega
theorem flatU_map (l : List Int) : l.flatMap encU = l.map (Value.int .u32) := by
  induction l with
  | nil => rfl
  | cons x l ih => simp [encU, ih]
theorem fmtS_step {l : List Int} {k : Nat} {v : Int} (h : l[k]? = some v) : splice ((fmtS l k).flatMap encU) (8 * k) [.int .u32 3282393660, .int .u32 1, .int .u32 v, .int .u32 (checkN k 1 v)] = (fmtS l (k + 1)).flatMap encU := by
  obtain ⟨hk, hv⟩ := List.getElem?_eq_some_iff.1 h
  simp only [flatU_map]
  unfold fmtS
  rw [fmtN_take h]
  have hl : ((fmtN 0 (l.take k)).map (Value.int .u32)).length = 8 * k := by rw [List.length_map, fmtN_len, List.length_take]; omega
  obtain ⟨d, hd⟩ : ∃ d, l.length = k + 1 + d := ⟨l.length - (k + 1), by omega⟩
  rw [hd, show 8 * (k + 1 + d - k) = 4 + (4 + 8 * d) by omega, show 8 * (k + 1 + d - (k + 1)) = 8 * d by omega, ← List.replicate_append_replicate, ← List.replicate_append_replicate]
  unfold splice
  simp only [List.map_append, List.map_replicate]
  rw [List.take_left' hl, ← List.append_assoc _ (List.replicate 4 _), List.drop_left' (by rw [List.length_append, hl]; simp)]
  simp [fmt1]
theorem fmtS_zero (l : List Int) : fmtS l 0 = List.replicate (8 * l.length) 0 := by simp [fmtS, fmtN]
theorem fmtS_all (l : List Int) : fmtS l l.length = fmtN 0 l := by simp [fmtS]
set_option maxRecDepth 100000 in
set_option maxHeartbeats 4000000 in
theorem format_any (A : Option Addr) (n c : Nat) (l : List Int) (w : World) (hl : l.length = n) (hn : n ≤ 1000) (hu : U32s l) (hr : Rd w w.heap.size 1 A n (l.flatMap encU)) :
    Calls Try.prog 13 #[.slice A n c] w fun e w' => ∃ v, e = .returned v ∧ w'.ownsRow w.heap.size 23 1 v (8 * n) ((fmtN 0 l).flatMap encU) ∧ Below w.heap.size w w' := by
  have HL := Lib.hid hl
  have HR := Lib.hid hr
  have HU := Lib.hid hu
  have hmk : ∀ w, (Instr.makeSlice 22 (.int .i64 (8 * (n : Int))) (.int .i64 (8 * (n : Int)))).run Try.prog w = .ok (.slice (some ⟨w.heap.size, 0, none⟩) (8 * n) (8 * n)) (w.alloc (.cells (madeCells #[.int .u32 0] (8 * n * 1)) 23)) := fun w => by
    have := make_u w (8 * n) (by omega)
    simpa using this
  have HM := Lib.hid (made1 (.int .u32 0) (8 * n))
  generalize madeCells #[Value.int .u32 0] (8 * n * 1) = cur at *
  clear hl hr hu
  go_enter Try.func13, Try.ntmps13
  go_wp2
  refine wp_name ?_
  intro w1 hw1
  have hB1 : Blk w1 w.heap.size 23 ((fmtS l 0).flatMap encU).toArray := by
    rw [hw1, fmtS_zero, HL.out, show ((List.replicate (8 * n) (0 : Int)).flatMap encU).toArray = cur by rw [← Array.toList_inj, HM.out, flatU_map, List.map_replicate]]
    exact Blk.new _ _ _
  have hb1 : RowKit.Below w.heap.size w w1 := by rw [hw1]; exact bal (Below.refl _ _) _
  clear hw1 hmk HM
  go_loopw [4, 5, 6, 13] (fun _ _ _ i wr => ∃ k : Nat, k ≤ n ∧ i = .int .i64 k ∧ Hid (Blk wr w.heap.size 23 ((fmtS l k).flatMap encU).toArray) ∧ Below w.heap.size w wr) (fun _ _ _ i _ => n - (intOf i).toNat)
  case atStart => exact ⟨0, by omega, rfl, hB1, hb1⟩
  case round =>
    obtain ⟨k, hk, rfl, HB, hb⟩ := hrel
    clear hB1 hb1
    by_cases hlt : k < n
    · obtain ⟨b1, o1, rfl, hbk, hc1⟩ := (HR.out.below hb).row (fun _ => rfl) (k := k) (by rw [HL.out]; exact hlt) HL.out
      have d0 := hc1 0 (by omega)
      simp only [encU, Nat.add_zero, Nat.mul_one, List.getElem?_cons_zero] at d0
      have hg : l[k]? = some (l[k]'(by rw [HL.out]; exact hlt)) := List.getElem?_eq_getElem _
      have hvr := HU.out _ (List.getElem_mem (l := l) (n := k) (by rw [HL.out]; exact hlt))
      have HStep := Lib.hid (fmtS_step hg)
      clear hc1 hg
      generalize l[k]'(by rw [HL.out]; exact hlt) = v at *
      have HW := Lib.hid (fun W => words_any k 1 v (by decide) (by decide) hvr.1 hvr.2 W)
      go_upto_region 6 with (go_at_call 32; refine (HW.out _).mono ?_; rintro e w2 ⟨rfl, hb2⟩)
      have hz1 := hb2.size
      have hzB := HB.out.lt
      refine wp_name ?_
      intro w3 hw3
      have hB3 : Blk w3 w.heap.size 23 ((fmtS l k).flatMap encU).toArray := by rw [hw3]; exact (HB.out.kept hb2).alloc _
      have hN3 : Blk w3 w2.heap.size 73 #[.int .u32 3282393660, .int .u32 1, .int .u32 v, .int .u32 (checkN k 1 v)] := by rw [hw3]; exact Blk.new _ _ _
      have hb3 : RowKit.Below w.heap.size w w3 := by rw [hw3]; exact bal' (hb.trans (hb2.mono hb.size)) _ (by have := hb.size; omega)
      clear hw3
      have hS1 : (fun W' : World => True) w3.drew := trivial
      refine wp_region_held_drew (S := fun W' : World => True) (by kernel_rfl) hS1 (fun hHeld => ?_)
      clear hHeld
      have hw8 : IntKind.i64.wrap (8 * (k : Int)) = 8 * (k : Int) := IntWalk.i64_in _ (by omega)
      have ht8 : (8 * (k : Int)).toNat = 8 * k := by omega
      have h7 : ¬ 8 * n = 8 * k := by omega
      have h8 : 0 ≤ 8 * (k : Int) := by omega
      have h9 : (8 * (k : Int)) ≤ 8 * (n : Int) := by omega
      refine wpAnyH_take (i := 0) (v := ?va0) rfl (by kernel_rfl) (by kernel_rfl) (by kernel_rfl) (fun _ _ _ h => h) (Or.inl ⟨by kernel_rfl, ?hya0⟩) hS1 ?resta0
      case hya0 =>
        intro w hSw
        clear hSw
        go_simp
        first | done | with_reducible rfl
      (try simp only [List.getElem_toArray, List.getElem_cons_succ, List.getElem_cons_zero, Act.put, List.setIfInBounds_toArray, List.set_cons_zero, List.set_cons_succ])
      refine wpAnyH_take (i := 1) (v := ?va1) rfl (by kernel_rfl) (by kernel_rfl) (by kernel_rfl) (fun _ _ _ h => h) (Or.inl ⟨by kernel_rfl, ?hya1⟩) hS1 ?resta1
      case hya1 =>
        intro w hSw
        clear hSw
        go_simp
        first | done | with_reducible rfl
      (try simp only [List.getElem_toArray, List.getElem_cons_succ, List.getElem_cons_zero, Act.put, List.setIfInBounds_toArray, List.set_cons_zero, List.set_cons_succ])
      refine wpAnyH_take (i := 2) (v := ?va2) rfl (by kernel_rfl) (by kernel_rfl) (by kernel_rfl) (fun _ _ _ h => h) (Or.inl ⟨by kernel_rfl, ?hya2⟩) hS1 ?resta2
      case hya2 =>
        intro w hSw
        clear hSw
        go_simp
        first | done | with_reducible rfl
      (try simp only [List.getElem_toArray, List.getElem_cons_succ, List.getElem_cons_zero, Act.put, List.setIfInBounds_toArray, List.set_cons_zero, List.set_cons_succ])
      refine wpAnyH_take (i := 4) (v := ?va4) rfl (by kernel_rfl) (by kernel_rfl) (by kernel_rfl) (fun _ _ _ h => h) (Or.inl ⟨by kernel_rfl, ?hya4⟩) hS1 ?resta4
      case hya4 =>
        intro w hSw
        clear hSw
        go_simp
        first | done | with_reducible rfl
      (try simp only [List.getElem_toArray, List.getElem_cons_succ, List.getElem_cons_zero, Act.put, List.setIfInBounds_toArray, List.set_cons_zero, List.set_cons_succ])
      refine wpAnyH_take (i := 3) (v := ?va3) rfl (by kernel_rfl) (by kernel_rfl) (by kernel_rfl) (fun _ _ _ h => h) (Or.inl ⟨by kernel_rfl, ?hya3⟩) hS1 ?resta3
      case hya3 =>
        intro w hSw
        clear hSw
        go_simp
        first | done | with_reducible rfl
      (try simp only [List.getElem_toArray, List.getElem_cons_succ, List.getElem_cons_zero, Act.put, List.setIfInBounds_toArray, List.set_cons_zero, List.set_cons_succ])
      have HB3 := Lib.hid hB3.drew
      have HN3 := Lib.hid hN3.drew
      have HS2 := Lib.hid hb3.drew
      clear hB3 hN3 hb3 hS1
      have hcl : ((fmtS l k).flatMap encU).length = 8 * n := by rw [flatU_map, List.length_map, fmtS_len l k (by rw [HL.out]; exact hk), HL.out]
      have HCl := Lib.hid hcl
      clear hcl h7 h8 h9 hw8 ht8
      refine wpAnyH_call (i := 5) (by kernel_rfl) rfl (by kernel_rfl) fun K hK => ?_
      refine wp_copy_own (.tmp 25) (.tmp 26) _ _ rfl 23 Try.underlying22 (by kernel_rfl) w.heap.size (8 * k) _ _ ⟨w2.heap.size, 0, none⟩ 4 4 rfl rfl _ _ HB3.out [.int .u32 3282393660, .int .u32 1, .int .u32 v, .int .u32 (checkN k 1 v)] (by show 4 = Nat.min 4 _; exact (Nat.min_eq_left (by omega)).symm) (fun j u hj => by rw [show ((⟨w2.heap.size, 0, none⟩ : Addr).add j) = ⟨w2.heap.size, j, none⟩ by cases j <;> simp [Addr.add], HN3.out.cell j]; simpa using hj) (by have := HCl.out; show 8 * k + 4 ≤ ((fmtS l k).flatMap encU).toArray.size; rw [List.size_toArray, this]; omega) (by intro u hu; simp at hu; rcases hu with rfl | rfl | rfl | rfl <;> rfl) ?_
      intro w4 hB4 hn4
      have hb4 : RowKit.Below w.heap.size w w4 := HS2.out.trans (hn4.below (fun i hi => by omega) HS2.out.size)
      have HB4 := Lib.hid (show Blk w4 w.heap.size 23 ((fmtS l (k + 1)).flatMap encU).toArray by rw [← HStep.out]; simpa using hB4)
      refine hK.out _ _ trivial ?_
      clear hK K hB4
      (try simp only [List.getElem_toArray, List.getElem_cons_succ, List.getElem_cons_zero, Act.put, List.setIfInBounds_toArray, List.set_cons_zero, List.set_cons_succ])
      refine wpAnyH_done (by kernel_rfl) ?_ _
      go_wp2
      go_roundw
      case rel => exact ⟨k + 1, by omega, by go_num, HB4, hb4⟩
      case measure => simp [intOf]; omega
    · obtain rfl : k = n := by omega
      have hO : wr.ownsRow w.heap.size 23 1 (.slice (some ⟨w.heap.size, 0, none⟩) (8 * k) (8 * k)) (8 * k) ((fmtN 0 l).flatMap encU) := by
        have e := fmtS_all l
        rw [HL.out] at e
        have hB := HB.out
        rw [e] at hB
        have hlen : ((fmtN 0 l).flatMap encU).length = 8 * k := by rw [flatU_map, List.length_map, fmtN_len, HL.out]
        exact ⟨by omega, .inr ⟨_, _, _, rfl, Nat.le_refl _, hB, Nat.le_refl _, by unfold maxLen; omega, by rw [List.size_toArray, hlen]; omega, by simp only [Nat.mul_one]; exact List.take_of_length_le (by rw [hlen]; exact Nat.le_refl _)⟩⟩
      have HO := Lib.hid hO
      clear hO
      go_wp2
      go_ret
      exact ⟨_, rfl, HO.out, hb⟩
set_option maxRecDepth 100000 in
set_option maxHeartbeats 4000000 in
theorem rformat_any (A : Option Addr) (n c : Nat) (l : List Int) (w : World) (hl : l.length = n) (hn : n ≤ 1000) (hu : U32s l) (hr : Rd w w.heap.size 1 A n (l.flatMap encU)) :
    Calls Try.prog 15 #[.slice A n c] w fun e w' => ∃ v, e = .returned v ∧ w'.ownsRow w.heap.size 23 1 v (8 * n) ((fmtN 0 l).flatMap encU) ∧ Below w.heap.size w w' := by
  have HL := Lib.hid hl
  have HR := Lib.hid hr
  have HU := Lib.hid hu
  clear hl hr hu
  go_enter Try.func15, Try.ntmps15
  go_wp2
  go_loopw [3, 4, 5, 6, 9] (fun v _ _ _ i wr => ∃ k : Nat, k ≤ n ∧ i = .int .i64 k ∧ wr.ownsRow w.heap.size 23 1 v (8 * k) ((fmtN 0 (l.take k)).flatMap encU) ∧ Below w.heap.size w wr) (fun _ _ _ _ i _ => n - (intOf i).toNat)
  case atStart => exact ⟨0, by omega, rfl, by simpa [fmtN] using World.ownsRow_nil _ _ _ _, Below.refl _ _⟩
  case round =>
    obtain ⟨k, hk, rfl, ho, hb⟩ := hrel
    by_cases hlt : k < n
    · obtain ⟨b1, o1, rfl, hbk, hc1⟩ := (HR.out.below hb).row (fun _ => rfl) (k := k) (by rw [HL.out]; exact hlt) HL.out
      have d0 := hc1 0 (by omega)
      simp only [encU, Nat.add_zero, Nat.mul_one, List.getElem?_cons_zero] at d0
      have hg : l[k]? = some (l[k]'(by rw [HL.out]; exact hlt)) := List.getElem?_eq_getElem _
      have hvr := HU.out _ (List.getElem_mem (l := l) (n := k) (by rw [HL.out]; exact hlt))
      have HStep := Lib.hid (fmtN_take hg)
      clear hc1 hg
      generalize l[k]'(by rw [HL.out]; exact hlt) = v at *
      have HW := Lib.hid (fun W => refWords_any k 1 v (by decide) (by decide) hvr.1 hvr.2 W)
      go_upto_region 6 with (go_at_call 33; refine (HW.out _).mono ?_; rintro e w2 ⟨rfl, hb2⟩)
      have hz1 := hb2.size
      have hzb := hb.size
      have ho2 := (own_kept ho hb2).alloc (.cells #[.int .u32 3282393660, .int .u32 1, .int .u32 v, .int .u32 (checkN k 1 v)] 73)
      have hN2 := Blk.new w2 73 #[.int .u32 3282393660, .int .u32 1, .int .u32 v, .int .u32 (checkN k 1 v)]
      have hb3 : RowKit.Below w.heap.size w (w2.alloc (.cells #[.int .u32 3282393660, .int .u32 1, .int .u32 v, .int .u32 (checkN k 1 v)] 73)) := bal' (hb.trans (hb2.mono hzb)) _ (by omega)
      have cN := hN2.cell
      generalize w2.alloc (.cells #[.int .u32 3282393660, .int .u32 1, .int .u32 v, .int .u32 (checkN k 1 v)] 73) = w3 at *
      have hz3 := hb3.size
      go_wp2_with (at_builtin; refine wpList_app u32_elem rfl (.tmp 18) (.tmp 27) rfl w.heap.size (ho2.alloc _) rfl rfl (Rd.fresh _ _ _ 8 1 _ rfl) (by simp [Value.oneCell']) (by simp [maxLen]; omega) (by omega) (by simp; omega) ?_; intro v' w' hown' hb' _)
      go_roundw
      case rel => exact ⟨k + 1, by omega, by go_num, by rw [HStep.out, List.flatMap_append]; exact hown', (hb3.alloc hz3 _).trans hb'⟩
      case measure => simp [intOf]; omega
    · obtain rfl : k = n := by omega
      have HA := Lib.hid (show l.take k = l from List.take_of_length_le (by rw [HL.out]; exact Nat.le_refl _))
      rw [HA.out] at ho
      go_wp2
      go_ret
      exact ⟨_, rfl, ho, hb⟩
end Go.Proofs.Ytpenjfkdinmgmaa
