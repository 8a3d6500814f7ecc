/- Chapter 14: the document's keys (portreeveref04.KeyOf); walked. -/
import Derived.Test.YtmhbpfclfffgkaaCfW
import Derived.Test.YtmhbpfclfffgkaaRefW
namespace Go.Proofs.Ytmhbpfclfffgkaa
set_option linter.unusedVariables false
set_option linter.unusedSimpArgs false
open Go.RowKit Go.Sort

set_option maxHeartbeats 1000000 in
theorem rheight_any (x : Int) (w : World) : Calls Try.prog 108 #[.int .u32 x] w fun e w' => e = .returned (.tuple #[.int .i64 (hgtB x), .bool (hgtOk x)]) ∧ w = w' := by
  by_cases h1 : x = 1
  · subst h1
    go_enter Try.func108, Try.ntmps108
    go_wp2
    go_ret2
    exact ⟨rfl, rfl⟩
  by_cases h2 : x = 2
  · subst h2
    go_enter Try.func108, Try.ntmps108
    go_wp2
    go_ret2
    exact ⟨rfl, rfl⟩
  by_cases h3 : x = 3
  · subst h3
    go_enter Try.func108, Try.ntmps108
    go_wp2
    go_ret2
    exact ⟨rfl, rfl⟩
  have e1 : (x == 1) = false := by simp [h1]
  have e2 : (x == 2) = false := by simp [h2]
  have e3 : (x == 3) = false := by simp [h3]
  have hv : hgtB x = 0 := by simp [hgtB, h1, h2, h3]
  have hb : hgtOk x = false := by simp [hgtOk, h1, h2, h3]
  rw [hv, hb]
  clear h1 h2 h3 hv hb
  go_enter Try.func108, Try.ntmps108
  go_wp2
  go_ret2
  exact ⟨rfl, rfl⟩
theorem rkey_result {w : World} {tmps : Array Value} {g : Nat} {cs : List Value} (hB : Blk w g 129 cs.toArray) (hl : cs.length = 65) (ha : tmps.getD 2 undef = .pointer (some ⟨g, 0, none⟩)) : (results Try.f71 tmps).run Try.prog w = .ok (.tuple #[.agg cs.toArray, tmps.getD 3 undef]) w :=
  results_cell_tmp rfl ha (fun j v hv => by rw [Nat.zero_add, hB.cell j]; simpa using hv) Try.underlying129 rfl (by rw [hl]; kernel_rfl)
set_option maxRecDepth 100000 in
set_option maxHeartbeats 2000000 in
theorem rkeyOf_any (b o c : Nat) (l : List Int) (w : World) (hl : l.length = 68) (hok : BytesOk l) (hc : 68 ≤ c) (hc2 : c ≤ maxLen) (hr : Rd w w.heap.size 1 (some ⟨b, o, none⟩) 68 (l.flatMap encB)) :
    Calls Try.prog 71 #[.slice (some ⟨b, o, none⟩) 68 c] w fun e w' => ∃ K : List Value, K.length = 65 ∧ (∀ u ∈ K, u.oneCell' = true) ∧ e = .returned (.tuple #[.agg K.toArray, .int .i64 (if keyB l then 0 else 80)]) ∧ Below w.heap.size w w' := by
  have hx32 : numB ((l.drop 0).take 4) % 4294967296 = numB ((l.drop 0).take 4) := by
    have := numB_bd 4 ((l.drop 0).take 4) (by rw [List.length_take, List.length_drop, hl]; rfl) (fun x hx => hok x (List.mem_of_mem_drop (List.mem_of_mem_take hx)))
    exact Int.emod_eq_of_lt this.1 this.2
  obtain ⟨x, hx⟩ : ∃ x, numB ((l.drop 0).take 4) = x := ⟨_, rfl⟩
  have hk := keyB_eq l
  rw [hx] at hk hx32
  rw [← hk]
  have hw32 : IntKind.u32.wrap x = x := by unfold IntKind.wrap; simp only [show IntKind.u32.signed = false from rfl, Bool.false_and, Bool.false_eq_true, if_false]; exact hx32
  have HBe := Lib.hid (fun W (hW : Below w.heap.size w W) => refNumber_yes (some ⟨b, o, none⟩) 68 c 4 l 0 false W hl hok (by decide) (by decide) (by decide) ((hr.below hW).more hW.size))
  have hsq : seqN l 0 4 false = (l.drop 0).take 4 := rfl
  rw [hsq, hx] at HBe
  have hZ0 := Blk.new w 129 Try.zeroCells129
  have hb0 := bal (Below.refl w.heap.size w) (.cells Try.zeroCells129 129)
  have hzs : Try.zeroCells129.size = 65 := by kernel_rfl
  have hz0 : (w.alloc (.cells Try.zeroCells129 129)).heap.size = w.heap.size + 1 := by simp
  clear hsq
  cases hok1 : hgtOk x with
  | false =>
    go_enter Try.func71, Try.ntmps71
    go_upto_region 1 with (fail)
    have HBe0 := Lib.hid (HBe.out _ hb0)
    generalize w.alloc (.cells Try.zeroCells129 129) = w1 at *
    generalize Try.zeroCells129 = zc at *
    have HH := Lib.hid (rheight_any x w1)
    rw [hok1] at HH
    clear hx hk HBe
    go_upto_region 4 with (first
      | (go_at_call 68; refine HBe0.out.mono ?_; rintro e1 w5 ⟨rfl, rfl⟩)
      | (go_at_call 108; refine HH.out.mono ?_; rintro e1 w5 ⟨rfl, rfl⟩))
    have HBu := Lib.hid (fun W => build_key0 W)
    go_wp2_with (first
      | (refine wpList_built rfl 129 #[] rfl (vals := #[]) (by simp) (HBu.out _) ?_)
      | (refine wpList_store_blk rfl 129 (.tmp 2) (.tmp 26) rfl w.heap.size 0 zKey.toArray (by rfl) (by rfl) hZ0 (by rw [hzs]; decide) (by kernel_rfl) (by kernel_rfl) (setAt_all zKey zc (by rw [hzs]; decide)) ?_; intro w2 hZ2 hb2 hz2 _))
    refine bodyPost_ret (v := .tuple #[.agg zKey.toArray, .int .i64 80]) (rkey_result hZ2 (by rfl) rfl) rfl ⟨zKey, by rfl, List.all_eq_true.1 (show zKey.all (·.oneCell') = true by kernel_rfl), rfl, hb0.trans (hb2 _ (Nat.le_refl _))⟩
  | true =>
    have f1 : ¬ c = 4 := by omega
    have f2 : (36 : Int) ≤ (c : Int) := by omega
    have f3 : (68 : Int) ≤ (c : Int) := by omega
    have f4 : ¬ c = 36 := by omega
    go_enter Try.func71, Try.ntmps71
    go_upto_region 1 with (fail)
    have HBe0 := Lib.hid (HBe.out _ hb0)
    generalize w.alloc (.cells Try.zeroCells129 129) = w1 at *
    generalize Try.zeroCells129 = zc at *
    have HH := Lib.hid (rheight_any x w1)
    rw [hok1] at HH
    clear hx hk HBe
    go_upto_region 5 with (first
      | (go_at_call 68; refine HBe0.out.mono ?_; rintro e1 w5 ⟨rfl, rfl⟩)
      | (go_at_call 108; refine HH.out.mono ?_; rintro e1 w5 ⟨rfl, rfl⟩))
    have hbw : b < w.heap.size := by obtain ⟨_, _, e, h, _⟩ := hr.2 (by decide); simp at e; omega
    have hra := range_regrown (rd_range (Rd.sub (hr.below hb0) hl (a := 4) (m := 32) (by decide)) (by decide)) (Nat.lt_of_lt_of_le hbw hb0.size)
    have hrb := range_regrown (rd_range (Rd.sub (hr.below hb0) hl (a := 36) (m := 32) (by decide)) (by decide)) (Nat.lt_of_lt_of_le hbw hb0.size)
    have hla : (((l.drop 4).take 32).flatMap encB).length = 32 := by rw [flatB_len, List.length_take, List.length_drop, hl]; decide
    have hlb : (((l.drop 36).take 32).flatMap encB).length = 32 := by rw [flatB_len, List.length_take, List.length_drop, hl]; decide
    have h1a := one_b ((l.drop 4).take 32)
    have h1b := one_b ((l.drop 36).take 32)
    generalize ((l.drop 4).take 32).flatMap encB = ka at *
    generalize ((l.drop 36).take 32).flatMap encB = kb at *
    have HAr := fun (W : World) (o' c' : Nat) => arrayAt_node W b o' c'
    refine wp_region_tail_below 10 (by kernel_rfl) (by kernel_rfl) ?_
    simp only [List.take_succ_cons, List.take_zero, List.drop_succ_cons, List.drop_zero]
    iterate 5 (quiet_step ((fail)))
    refine wpQuiet_load 127 (.tmp 31) rfl b (o + 4) (by rfl) ka _ hra Try.underlying127 rfl (by rw [hla]; kernel_rfl) (by kernel_rfl) ?_
    iterate 3 (quiet_step ((fail)))
    refine wpQuiet_load 127 (.tmp 35) rfl b (o + 36) (by rfl) kb _ hrb Try.underlying127 rfl (by rw [hlb]; kernel_rfl) (by kernel_rfl) ?_
    refine wpQuiet_nil ?_
    rintro w5 ⟨p, rfl⟩
    have hb5 := below_regrown w1 p.d p.os
    have hZ5 := hZ0.kept hb5
    have hb50 := hb0.trans (hb5.mono hb0.size)
    generalize grow (redrawn w1 p.d) p.os = w5 at *
    have hKl : (Value.int .u32 x :: (ka ++ kb)).length = 65 := by rw [List.length_cons, List.length_append, hla, hlb]
    have hK1 : (Value.int .u32 x :: (ka ++ kb)).toArray.all (·.oneCell') = true := by
      simp only [List.all_toArray, List.all_cons, List.all_append, Bool.and_eq_true, List.all_eq_true]
      exact ⟨rfl, h1a, h1b⟩
    have HBu := Lib.hid (fun W => build_key W x ka kb hla hlb)
    go_wp2_with (first
      | (refine wpList_built rfl 129 #[(0, .tmp 28), (1, .tmp 32), (2, .tmp 36)] rfl (vals := #[(0, .int .u32 x), (1, .agg ka.toArray), (2, .agg kb.toArray)]) (by go_simp <;> exact hw32) (HBu.out _) ?_)
      | (refine wpList_store_blk rfl 129 (.tmp 2) (.tmp 37) rfl w.heap.size 0 (Value.int .u32 x :: (ka ++ kb)).toArray (by rfl) (by rfl) hZ5 (by rw [hzs, List.size_toArray, hKl]; decide) (by rw [List.size_toArray, hKl]; kernel_rfl) hK1 (setAt_all _ zc (by rw [hzs]; exact hKl)) ?_; intro w6 hZ6 hb6 hz6 _))
    refine bodyPost_ret (v := .tuple #[.agg (Value.int .u32 x :: (ka ++ kb)).toArray, .int .i64 0]) (rkey_result hZ6 hKl rfl) rfl ⟨_, hKl, List.all_eq_true.1 (by rwa [List.all_toArray] at hK1), rfl, hb50.trans (hb6 _ (Nat.le_refl _))⟩
end Go.Proofs.Ytmhbpfclfffgkaa
