/- Chapter 14: is a key's first number a height's? Walked. -/
import Derived.Test.YtmhbpfclfffgkaaCfS
import Derived.Test.YtmhbpfclfffgkaaCfB
import Derived.Test.YtmhbpfclfffgkaaParts
namespace Go.Proofs.Ytmhbpfclfffgkaa
set_option linter.unusedVariables false
set_option linter.unusedSimpArgs false
open Go.RowKit Go.Sort

def zKey : List Value := .int .u32 0 :: List.replicate 64 (.int .u8 0)
theorem info_key : (Try.prog.info? 129).map (fun i => (i.zero, i.size, i.bytes)) = some (some (.agg zKey.toArray), 65, 68) := by kernel_rfl
def hgtB (x : Int) : Int := if x = 1 then 10 else if x = 2 then 16 else if x = 3 then 20 else 0
def hgtOk (x : Int) : Bool := decide (x = 1) || decide (x = 2) || decide (x = 3)
set_option maxHeartbeats 1000000 in
theorem height_any (x : Int) (w : World) : Calls Try.prog 130 #[.int .u32 x] w fun e w' => e = .returned (.tuple #[.int .i64 (hgtB x), .bool (hgtOk x)]) ∧ w = w' := by
  by_cases h1 : x = 1
  · subst h1
    go_enter Try.func130, Try.ntmps130
    go_wp2
    go_ret2
    exact ⟨rfl, rfl⟩
  by_cases h2 : x = 2
  · subst h2
    go_enter Try.func130, Try.ntmps130
    go_wp2
    go_ret2
    exact ⟨rfl, rfl⟩
  by_cases h3 : x = 3
  · subst h3
    go_enter Try.func130, Try.ntmps130
    go_wp2
    go_ret2
    exact ⟨rfl, rfl⟩
  have e1 : (x == 1) = false := by simp [h1]
  have e2 : (x == 2) = false := by simp [h2]
  have e3 : (x == 3) = false := by simp [h3]
  have hv : hgtB x = 0 := by simp [hgtB, h1, h2, h3]
  have hb : hgtOk x = false := by simp [hgtOk, h1, h2, h3]
  rw [hv, hb]
  clear h1 h2 h3 hv hb
  go_enter Try.func130, Try.ntmps130
  go_wp2
  go_ret2
  exact ⟨rfl, rfl⟩
set_option maxHeartbeats 1000000 in
theorem cut32_any (gb b o n c : Nat) (w : World) (hB : Blk w gb 22 #[.slice (some ⟨b, o, none⟩) n c]) (h1 : 32 ≤ n) (h2 : n ≤ c) (h3 : c ≤ maxLen) :
    Calls Try.prog 141 #[.int .i64 32, .pointer (some ⟨gb, 0, none⟩)] w fun e w' => e = .returned (.slice (some ⟨b, o, none⟩) 32 c) ∧ Blk w' gb 22 #[.slice (if c = 32 then some ⟨b, o, none⟩ else some ⟨b, o + 32, none⟩) (n - 32) (c - 32)] ∧ Near (fun i => i = gb) w w' := by
  have cB := hB.cell
  have fB := hB.frozen
  have q1 : (32 : Int) ≤ (c : Int) := by omega
  have q2 : (32 : Int) ≤ (n : Int) := by omega
  have q3 : (n : Int) ≤ (c : Int) := by omega
  by_cases hc : c = 32
  · subst hc
    obtain rfl : n = 32 := by omega
    go_enter Try.func141, Try.ntmps141
    go_wp2
    go_ret
    refine ⟨rfl, ?_, (Near.refl (fun i => i = gb) w).setCell (p := ⟨gb, 0, none⟩) rfl _⟩
    have := hB.set_ 0 (.slice (some ⟨b, o, none⟩) 0 0)
    simpa using this
  · rw [if_neg hc]
    go_enter Try.func141, Try.ntmps141
    go_wp2
    go_ret
    refine ⟨rfl, ?_, (Near.refl (fun i => i = gb) w).setCell (p := ⟨gb, 0, none⟩) rfl _⟩
    have := hB.set_ 0 (.slice (some ⟨b, o + 32, none⟩) (n - 32) (c - 32))
    simpa using this
theorem cutter_any (A : Option Addr) (n c : Nat) (w : World) : Calls Try.prog 131 #[.slice A n c] w fun e w' => e = .returned (.func (.func 141) #[] #[.pointer (some ⟨w.heap.size, 0, none⟩)]) ∧ w.alloc (.cells #[.slice A n c] 22) = w' := by
  go_enter Try.func131, Try.ntmps131
  go_wp2
  go_ret
  exact ⟨rfl, rfl⟩
theorem rd_range {w : World} {B n b o : Nat} {l : List Int} (h : Rd w B 1 (some ⟨b, o, none⟩) n (l.flatMap encB)) (hn : 0 < n) : w.rangeAt b o (l.flatMap encB) := by
  obtain ⟨b', o', e, _, hc⟩ := h.2 hn
  simp only [Option.some.injEq, Addr.mk.injEq, and_true] at e
  obtain ⟨rfl, rfl⟩ := e
  exact hc
theorem range_regrown {w : World} {b o : Nat} {cs : List Value} (h : w.rangeAt b o cs) (hb : b < w.heap.size) : ∀ W, (∃ p : Regrown, W = grow (redrawn w p.d) p.os) → W.rangeAt b o cs := by
  rintro W ⟨p, rfl⟩
  intro j v hv
  exact ((below_regrown w p.d p.os).cell (p := ⟨b, o + j, none⟩) hb).trans (h j v hv)
theorem arrayAt_node (w : World) (b o c : Nat) : (Instr.arrayAt 127 (.slice (some ⟨b, o, none⟩) 32 c)).run Try.prog w = .ok (.pointer (some ⟨b, o, none⟩)) w := by
  unfold Instr.arrayAt
  simp [go_sem]
theorem list2 (n : Nat) (l : List Value) (h : l.length = n) : ∃ f : Nat → Value, l = (List.range n).map f := ⟨_, list_ofV n l h⟩
set_option maxRecDepth 100000 in
theorem build_key (W : World) (x : Int) (a b : List Value) (ha : a.length = 32) (hb : b.length = 32) : (Instr.build 129 #[(0, .int .u32 x), (1, .agg a.toArray), (2, .agg b.toArray)]).run Try.prog W = .ok (.agg (Value.int .u32 x :: (a ++ b)).toArray) W := by
  obtain ⟨f, rfl⟩ := list2 32 a ha
  obtain ⟨g, rfl⟩ := list2 32 b hb
  exact run_build W _ _ _ (by kernel_rfl)
theorem setAt_all (new : List Value) (cs : Array Value) (h : new.length = cs.size) : setAt cs 0 new = new.toArray := by
  have := setAt_parts new cs.toList [] [] (by simpa using h)
  simpa using this
theorem key_result {w : World} {tmps : Array Value} {g : Nat} {cs : List Value} (hB : Blk w g 129 cs.toArray) (hl : cs.length = 65) (ha : tmps.getD 2 undef = .pointer (some ⟨g, 0, none⟩)) : (results Try.f110 tmps).run Try.prog w = .ok (.tuple #[.agg cs.toArray, tmps.getD 3 undef]) w :=
  results_cell_tmp rfl ha (fun j v hv => by rw [Nat.zero_add, hB.cell j]; simpa using hv) Try.underlying129 rfl (by rw [hl]; kernel_rfl)
theorem build_key0 (W : World) : (Instr.build 129 #[]).run Try.prog W = .ok (.agg zKey.toArray) W := run_build W _ _ _ (by kernel_rfl)
theorem keyB_eq (l : List Int) : hgtOk (numB ((l.drop 0).take 4)) = keyB l := rfl
set_option maxRecDepth 100000 in
set_option maxHeartbeats 2000000 in
theorem keyOf_any (b o c : Nat) (l : List Int) (w : World) (hl : l.length = 68) (hok : BytesOk l) (hc : 68 ≤ c) (hc2 : c ≤ maxLen) (hr : Rd w w.heap.size 1 (some ⟨b, o, none⟩) 68 (l.flatMap encB)) :
    Calls Try.prog 110 #[.slice (some ⟨b, o, none⟩) 68 c] w fun e w' => ∃ K : List Value, K.length = 65 ∧ (∀ u ∈ K, u.oneCell' = true) ∧ e = .returned (.tuple #[.agg K.toArray, .int .i64 (if keyB l then 0 else 80)]) ∧ Below w.heap.size w w' := by
  obtain ⟨x, hx⟩ : ∃ x, numB ((l.drop 0).take 4) = x := ⟨_, rfl⟩
  have hk := keyB_eq l
  rw [hx] at hk
  rw [← hk]
  obtain ⟨i, hi, hz, hsz, hby⟩ := info_parts info_key
  have HBe := Lib.hid (fun W (hW : Below w.heap.size w W) => be32_yes (some ⟨b, o, none⟩) 68 c l 0 W hl hok (by decide) (by decide) ((hr.below hW).more hW.size))
  rw [hx] at HBe
  have hZ0 := Blk.new w 129 Try.zeroCells129
  have hb0 := bal (Below.refl w.heap.size w) (.cells Try.zeroCells129 129)
  have hzs : Try.zeroCells129.size = 65 := by kernel_rfl
  have hz0 : (w.alloc (.cells Try.zeroCells129 129)).heap.size = w.heap.size + 1 := by simp
  cases hok1 : hgtOk x with
  | false =>
    go_enter Try.func110, Try.ntmps110
    go_upto_region 1 with (fail)
    have HBe0 := Lib.hid (HBe _ hb0)
    generalize w.alloc (.cells Try.zeroCells129 129) = w1 at *
    generalize Try.zeroCells129 = zc at *
    have HH := Lib.hid (height_any x w1)
    rw [hok1] at HH
    clear hx hk HBe
    go_upto_region 4 with (first
      | (go_at_call 129; refine HBe0.out.mono ?_; rintro e1 w5 ⟨rfl, rfl⟩)
      | (go_at_call 130; refine HH.out.mono ?_; rintro e1 w5 ⟨rfl, rfl⟩))
    have HBu := Lib.hid (fun W => build_key0 W)
    go_wp2_with (first
      | (refine wpList_built rfl 129 #[] rfl (vals := #[]) (by simp) (HBu.out _) ?_)
      | (refine wpList_store_blk rfl 129 (.tmp 2) (.tmp 28) rfl w.heap.size 0 zKey.toArray (by rfl) (by rfl) hZ0 (by rw [hzs]; decide) (by kernel_rfl) (by kernel_rfl) (setAt_all zKey zc (by rw [hzs]; decide)) ?_; intro w2 hZ2 hb2 hz2 _))
    refine bodyPost_ret (v := .tuple #[.agg zKey.toArray, .int .i64 80]) (key_result hZ2 (by rfl) rfl) rfl ⟨zKey, by rfl, List.all_eq_true.1 (show zKey.all (·.oneCell') = true by kernel_rfl), rfl, hb0.trans (hb2 _ (Nat.le_refl _))⟩
  | true =>
    have f1 : ¬ c = 4 := by omega
    have f2 : (4 : Int) ≤ (c : Int) := by omega
    have f3 : (68 : Int) ≤ (c : Int) := by omega
    go_enter Try.func110, Try.ntmps110
    go_upto_region 1 with (fail)
    have HBe0 := Lib.hid (HBe _ hb0)
    generalize w.alloc (.cells Try.zeroCells129 129) = w1 at *
    generalize Try.zeroCells129 = zc at *
    have HH := Lib.hid (height_any x w1)
    rw [hok1] at HH
    clear hx hk HBe
    have HCu := Lib.hid (cutter_any (some ⟨b, o + 4, none⟩) 64 (c - 4) w1)
    go_upto_region 6 with (first
      | (go_at_call 129; refine HBe0.out.mono ?_; rintro e1 w5 ⟨rfl, rfl⟩)
      | (go_at_call 130; refine HH.out.mono ?_; rintro e1 w5 ⟨rfl, rfl⟩)
      | (go_at_call 131; refine HCu.out.mono ?_; rintro e1 w5 ⟨rfl, rfl⟩))
    have hG := Blk.new w1 22 #[.slice (some ⟨b, o + 4, none⟩) 64 (c - 4)]
    have hZ1 := hZ0.alloc (.cells #[.slice (some ⟨b, o + 4, none⟩) 64 (c - 4)] 22)
    have hb1 := bal hb0 (.cells #[.slice (some ⟨b, o + 4, none⟩) 64 (c - 4)] 22)
    rw [hz0] at hG
    generalize hw2 : w1.alloc (.cells #[.slice (some ⟨b, o + 4, none⟩) 64 (c - 4)] 22) = w2 at *
    have HC1 := Lib.hid (cut32_any (w.heap.size + 1) b (o + 4) 64 (c - 4) w2 hG (by decide) (by omega) (by omega))
    rw [if_neg (by omega)] at HC1
    have hz2 : w2.heap.size = w1.heap.size + 1 := by rw [← hw2]; simp
    have hbw : b < w.heap.size := by obtain ⟨_, _, e, h, _⟩ := hr.2 (by decide); simp at e; omega
    clear hw2
    have HC2 := Lib.hid (fun W (hG : Blk W (w.heap.size + 1) 22 #[.slice (some ⟨b, o + 4 + 32, none⟩) (64 - 32) (c - 4 - 32)]) => cut32_any (w.heap.size + 1) b (o + 4 + 32) 32 (c - 4 - 32) W hG (by decide) (by omega) (by omega))
    go_upto_region 7 with (first
      | (go_at_call 141; first
        | (refine HC1.out.mono ?_; rintro e1 w3 ⟨rfl, hG3, hn3⟩; clear HC1)
        | (refine (HC2.out _ hG3).mono ?_; rintro e1 w4 ⟨rfl, hG4, hn4⟩)))
    have hZ4 := (hZ1.apart hn3 (by omega)).apart hn4 (by omega)
    have hb4 : Below w.heap.size w w4 := (hb1.trans (hn3.below (fun i hi => by omega) (by omega))).trans (hn4.below (fun i hi => by omega) (by have := hn3.size; omega))
    have hra := range_regrown (rd_range (Rd.sub (hr.below hb4) hl (a := 4) (m := 32) (by decide)) (by decide)) (Nat.lt_of_lt_of_le hbw hb4.size)
    have hrb := range_regrown (rd_range (Rd.sub (hr.below hb4) hl (a := 36) (m := 32) (by decide)) (by decide)) (Nat.lt_of_lt_of_le hbw hb4.size)
    rw [show o + 36 = o + 4 + 32 by omega] at hrb
    have hla : (((l.drop 4).take 32).flatMap encB).length = 32 := by rw [flatB_len, List.length_take, List.length_drop, hl]; decide
    have hlb : (((l.drop 36).take 32).flatMap encB).length = 32 := by rw [flatB_len, List.length_take, List.length_drop, hl]; decide
    have h1a := one_b ((l.drop 4).take 32)
    have h1b := one_b ((l.drop 36).take 32)
    generalize ((l.drop 4).take 32).flatMap encB = ka at *
    generalize ((l.drop 36).take 32).flatMap encB = kb at *
    have HAr := fun (W : World) (o' c' : Nat) => arrayAt_node W b o' c'
    refine wp_region_tail_below 7 (by kernel_rfl) (by kernel_rfl) ?_
    simp only [List.take_succ_cons, List.take_zero, List.drop_succ_cons, List.drop_zero]
    quiet_step ((fail))
    quiet_step ((fail))
    quiet_step ((fail))
    refine wpQuiet_load 127 (.tmp 38) rfl b (o + 4) (by rfl) ka _ hra Try.underlying127 rfl (by rw [hla]; kernel_rfl) (by kernel_rfl) ?_
    quiet_step ((fail))
    quiet_step ((fail))
    refine wpQuiet_load 127 (.tmp 41) rfl b (o + 4 + 32) (by rfl) kb _ hrb Try.underlying127 rfl (by rw [hlb]; kernel_rfl) (by kernel_rfl) ?_
    refine wpQuiet_nil ?_
    rintro w5 ⟨p, rfl⟩
    have hb5 := below_regrown w4 p.d p.os
    have hZ5 := hZ4.kept hb5
    have hb50 := hb4.trans (hb5.mono hb4.size)
    generalize grow (redrawn w4 p.d) p.os = w5 at *
    have hKl : (Value.int .u32 x :: (ka ++ kb)).length = 65 := by rw [List.length_cons, List.length_append, hla, hlb]
    have hK1 : (Value.int .u32 x :: (ka ++ kb)).toArray.all (·.oneCell') = true := by
      simp only [List.all_toArray, List.all_cons, List.all_append, Bool.and_eq_true, List.all_eq_true]
      exact ⟨rfl, h1a, h1b⟩
    have HBu := Lib.hid (fun W => build_key W x ka kb hla hlb)
    go_wp2_with (first
      | (refine wpList_built rfl 129 #[(0, .tmp 36), (1, .tmp 39), (2, .tmp 42)] rfl (vals := #[(0, .int .u32 x), (1, .agg ka.toArray), (2, .agg kb.toArray)]) (by go_simp) (HBu.out _) ?_)
      | (refine wpList_store_blk rfl 129 (.tmp 2) (.tmp 43) rfl w.heap.size 0 (Value.int .u32 x :: (ka ++ kb)).toArray (by rfl) (by rfl) hZ5 (by rw [hzs, List.size_toArray, hKl]; decide) (by rw [List.size_toArray, hKl]; kernel_rfl) hK1 (setAt_all _ zc (by rw [hzs]; exact hKl)) ?_; intro w6 hZ6 hb6 hz6 _))
    refine bodyPost_ret (v := .tuple #[.agg (Value.int .u32 x :: (ka ++ kb)).toArray, .int .i64 0]) (key_result hZ6 hKl rfl) rfl ⟨_, hKl, List.all_eq_true.1 (by rwa [List.all_toArray] at hK1), rfl, hb50.trans (hb6 _ (Nat.le_refl _))⟩
set_option maxRecDepth 100000 in
set_option maxHeartbeats 2000000 in
theorem keyed_any (l : List Int) (w : World) (hl : l.length = 68) (hok : BytesOk l) : Calls Try.prog 81 #[.agg (l.flatMap encB).toArray] w fun e w' => e = .returned (.bool (keyB l)) ∧ Below w.heap.size w w' := by
  have hb0 := bal (Below.refl w.heap.size w) (.cells (l.flatMap encB).toArray 64)
  have hr0 : Rd (w.alloc (.cells (l.flatMap encB).toArray 64)) (w.alloc (.cells (l.flatMap encB).toArray 64)).heap.size 1 (some ⟨w.heap.size, 0, none⟩) 68 (l.flatMap encB) := by
    have := Rd.fresh w (l.flatMap encB).toArray 64 68 1 w.heap.size (by rw [List.size_toArray, flatB_len, hl]) rfl
    simpa using this
  go_enter Try.func81, Try.ntmps81
  go_upto_region 1 with (fail)
  have HK := Lib.hid (keyOf_any w.heap.size 0 68 l _ hl hok (by decide) (by decide) hr0)
  generalize w.alloc (.cells (l.flatMap encB).toArray 64) = w1 at *
  go_wp2_with (first
    | (go_at_call 110; refine HK.out.mono ?_; rintro e1 w2 ⟨K, hKl, hK1, rfl, hb2⟩; have hZ := Blk.new w2 129 Try.zeroCells129; have hb3 := bal (hb0.trans (hb2.mono hb0.size)) (.cells Try.zeroCells129 129); have hKa : K.toArray.all (·.oneCell') = true := (by rw [List.all_toArray]; exact List.all_eq_true.2 hK1); have hi : (Try.prog.info? 129).map (·.size) = some K.toArray.size := (by rw [List.size_toArray, hKl]; kernel_rfl))
    | (refine wpList_store_blk rfl 129 (.tmp 3) (.tmp 8) rfl w2.heap.size 0 K.toArray (by rfl) (by rfl) hZ (by rw [show Try.zeroCells129.size = 65 by kernel_rfl, List.size_toArray, hKl]; decide) hi hKa rfl ?_; intro w6 hZ6 hb6 hz6 _))
  all_goals
    go_ret
    exact ⟨rfl, hb3.trans (hb6 _ (Nat.le_trans hb0.size hb2.size))⟩
end Go.Proofs.Ytmhbpfclfffgkaa
