/- Chapter 3: the primes: walked. -/
import Derived.Test.YtjcklmhkdpbbdaaDoorShaX
import Derived.WalkMore
import Derived.Deep.LoopGhost
namespace Go.Proofs.YtjcklmhkdpbbdaaDoor
set_option linter.unusedVariables false
set_option linter.unusedSimpArgs false
open Go.RowKit Go.Sort

def Pl : List Nat := [2, 3, 5, 7, 11, 13, 17, 19, 23, 29, 31, 37, 41, 43, 47, 53, 59, 61, 67, 71, 73, 79, 83, 89, 97, 101, 103, 107, 109, 113, 127, 131, 137, 139, 149, 151, 157, 163, 167, 173, 179, 181, 191, 193, 197, 199, 211, 223, 227, 229, 233, 239, 241, 251, 257, 263, 269, 271, 277, 281, 283, 293, 307, 311]
def pr (i : Nat) : Nat := Pl.getD i 0
def cnt (p : Nat) : Nat := (Pl.filter fun q => decide (q < p)).length
def isP (p : Nat) : Bool := Pl.contains p
def okN (p j : Nat) : Bool := (List.range j).all fun k => decide (pr k * pr k ≤ p) && (p % pr k != 0)
def allB (p d : Nat) : Bool := (List.range (d - 2)).all fun k => p % (k + 2) != 0
theorem pl_len : Pl.length = 64 := by decide +kernel
theorem pr_ck1 : ((List.range 312).all fun p => decide (p < 2) || (List.range (cnt p + 1)).all fun j => !(okN p j && (j == cnt p || decide (p < pr j * pr j))) || isP p) = true := by decide +kernel
theorem pr_ck2 : ((List.range 312).all fun p => decide (p < 2) || (List.range (cnt p)).all fun j => !(p % pr j == 0) || !isP p) = true := by decide +kernel
theorem pr_ck3 : ((List.range 312).all fun p => decide (p < 2) || (List.range 20).all fun d => decide (d < 2) || decide (d * d ≤ p) || decide (p < (d - 1) * (d - 1)) || (allB p d == isP p)) = true := by decide +kernel
theorem pr_ck4 : ((List.range 312).all fun p => (cnt (p + 1) == cnt p + (if isP p then 1 else 0)) && (!isP p || pr (cnt p) == p) && (decide (cnt p ≤ 64)) && (decide (p = 311) || decide (cnt (p + 1) ≤ 63))) = true := by decide +kernel
theorem pr_bd : ((List.range 64).all fun i => decide (2 ≤ pr i) && decide (pr i ≤ 311)) = true := by decide +kernel
theorem all_range {n : Nat} {f : Nat → Bool} (h : (List.range n).all f = true) {k : Nat} (hk : k < n) : f k = true := List.all_eq_true.1 h k (List.mem_range.2 hk)
theorem pr_le {i : Nat} (h : i < 64) : 2 ≤ pr i ∧ pr i ≤ 311 := by
  have := all_range pr_bd h
  simpa using this
theorem pr1 {p j : Nat} (hp : p < 312) (h2 : 2 ≤ p) (hj : j ≤ cnt p) (ho : okN p j = true) (hc : j = cnt p ∨ p < pr j * pr j) : isP p = true := by
  have h := all_range pr_ck1 hp
  rw [decide_eq_false (by omega), Bool.false_or] at h
  have h3 := all_range h (show j < cnt p + 1 by omega)
  rw [ho] at h3
  rcases hc with hc | hc
  · rw [show (j == cnt p) = true by rw [beq_iff_eq]; exact hc] at h3; simpa using h3
  · rw [decide_eq_true hc] at h3; simpa using h3
theorem pr2 {p j : Nat} (hp : p < 312) (h2 : 2 ≤ p) (hj : j < cnt p) (hm : p % pr j = 0) : isP p = false := by
  have h := all_range pr_ck2 hp
  rw [decide_eq_false (by omega), Bool.false_or] at h
  have h3 := all_range h hj
  rw [hm] at h3
  simpa using h3
theorem pr3 {p d : Nat} (hp : p < 312) (h2 : 2 ≤ p) (hd : d < 20) (hd2 : 2 ≤ d) (hm : p < d * d) (hm2 : (d - 1) * (d - 1) ≤ p) : allB p d = isP p := by
  have h := all_range pr_ck3 hp
  rw [decide_eq_false (by omega), Bool.false_or] at h
  have h3 := all_range h hd
  rw [decide_eq_false (by omega), decide_eq_false (by omega), decide_eq_false (by omega)] at h3
  simpa using h3
theorem pr4 {p : Nat} (hp : p < 312) : cnt (p + 1) = cnt p + (if isP p then 1 else 0) ∧ (isP p = true → pr (cnt p) = p) ∧ cnt p ≤ 64 ∧ (p = 311 ∨ cnt (p + 1) ≤ 63) := by
  have h := all_range pr_ck4 hp
  simp only [Bool.and_eq_true, beq_iff_eq, Bool.or_eq_true, Bool.not_eq_true', decide_eq_true_eq] at h
  refine ⟨h.1.1.1, fun hi => ?_, h.1.2, h.2⟩
  rcases h.1.1.2 with h5 | h5
  · rw [hi] at h5; cases h5
  · exact h5
theorem okN_succ (p j : Nat) : okN p (j + 1) = (okN p j && (decide (pr j * pr j ≤ p) && (p % pr j != 0))) := by
  unfold okN; rw [List.range_succ, List.all_append]; simp
theorem allB_succ {p d : Nat} (h : 2 ≤ d) : allB p (d + 1) = (allB p d && (p % d != 0)) := by
  unfold allB
  rw [show d + 1 - 2 = (d - 2) + 1 by omega, List.range_succ, List.all_append]
  simp [show d - 2 + 2 = d by omega]

def padP (n : Nat) : Array Value := ((List.range 64).map fun j => Value.int .i64 (if j < n then (pr j : Int) else 0)).toArray
theorem padP_size (n : Nat) : (padP n).size = 64 := by simp [padP]
theorem padP_at {n j : Nat} (h : j < n) (hj : j < 64) : (padP n)[j]? = some (.int .i64 (pr j : Int)) := by
  simp [padP, hj, h]
theorem padP_set {n : Nat} (h : n < 64) : (padP n).setIfInBounds n (.int .i64 (pr n : Int)) = padP (n + 1) := by
  apply Array.ext_getElem?
  intro j
  unfold padP
  rw [Array.getElem?_setIfInBounds]
  by_cases hj : j < 64
  · by_cases e : n = j
    · subst e; simp [h]
    · rw [if_neg e]
      simp [hj, show (j < n + 1) = (j < n) by simp; omega]
  · by_cases e : n = j
    · omega
    · rw [if_neg e]; simp [hj]
theorem padP_zero : padP 0 = Array.replicate 64 (.int .i64 0) := by kernel_rfl
theorem info_64 : (Tryd.prog.info? 94).map (fun i => (i.zero, i.size)) = some (some (.agg (Array.replicate 64 (.int .i64 0))), 64) := by kernel_rfl
set_option maxRecDepth 100000 in
set_option maxHeartbeats 4000000 in
theorem shaPrime_in (i : Nat) (hi : i < 64) (w : World) :
    Calls Tryd.prog 41 #[.int .i64 i] w fun e w' => e = .returned (.int .i64 (pr i)) ∧ Below w.heap.size w w' := by
  have hz := (zero_of_info info_64).1
  have h63 : (i : Int) ≤ 63 := by omega
  have HI0 : Hid (Blk (w.alloc (.cells (Array.replicate 64 (.int .i64 0)) 94)) w.heap.size 94 (padP 0) ∧ RowKit.Below w.heap.size w (w.alloc (.cells (Array.replicate 64 (.int .i64 0)) 94))) := Lib.hid ⟨by rw [padP_zero]; exact Blk.new _ _ _, bal (Below.refl _ _) _⟩
  go_enter Tryd.func41, Tryd.ntmps41
  go_wp2
  go_step3
  go_wp2
  go_step3
  go_wp2
  go_loopw [4, 5] (fun a b wr => ∃ n p : Nat, n ≤ i ∧ 2 ≤ p ∧ p ≤ 311 ∧ a = .int .i64 n ∧ b = .int .i64 p ∧ n = cnt p ∧ Hid (Blk wr w.heap.size 94 (padP n) ∧ RowKit.Below w.heap.size w wr)) (fun _ b _ => 400 - (intOf b).toNat)
  case atStart => exact ⟨0, 2, by omega, by omega, by omega, rfl, rfl, by decide +kernel, HI0⟩
  case round =>
    obtain ⟨n, p, hni, hp2, hp3, rfl, rfl, hn, HI⟩ := hrel
    have HN := Lib.hid hn
    clear HI0 hz hn
    have n64 : (n : Int) ≤ 64 := by omega
    go_upto_region 8 with (fail)
    go_loop [19] (fun a => ∃ j : Nat, j ≤ n ∧ a = .int .i64 j ∧ Hid (okN p j = true)) (fun a => n - (intOf a).toNat)
    case atStart => exact ⟨0, by omega, rfl, Lib.hid rfl⟩
    case round =>
      obtain ⟨j, hj, rfl, HO⟩ := hrel
      by_cases hlt : j < n
      · have cj := (HI.out.1.cell j).trans (padP_at hlt (by omega))
        have hq := pr_le (show j < 64 by omega)
        have HS := Lib.hid (okN_succ p j)
        have H1 := Lib.hid (fun hc => pr1 (show p < 312 by omega) hp2 (show j ≤ cnt p by rw [← HN.out]; omega) HO.out (.inr hc))
        have H2 := Lib.hid (fun hm => pr2 (show p < 312 by omega) hp2 (show j < cnt p by rw [← HN.out]; omega) hm)
        generalize pr j = q at *
        obtain ⟨qq, hqq⟩ : ∃ qq, qq = q * q := ⟨_, rfl⟩
        have hqb : qq ≤ 311 * 311 := by rw [hqq]; exact Nat.mul_le_mul hq.2 hq.2
        have f1 : IntKind.i64.wrap ((q : Int) * (q : Int)) = (qq : Int) := by rw [nmul, ← hqq]; exact IntWalk.i64_in _ (by omega)
        have f1' : (q : Int) * (q : Int) = (qq : Int) := by rw [nmul, ← hqq]
        rw [← hqq] at H1 HS
        obtain ⟨r, hr⟩ : ∃ r, r = p % q := ⟨_, rfl⟩
        have f2 : (p : Int) % (q : Int) = (r : Int) := by rw [hr]; exact (Int.natCast_emod p q).symm
        have f3 : (p : Int).tmod (q : Int) = (r : Int) := by rw [Int.tmod_eq_emod_of_nonneg (by omega)]; exact f2
        rw [← hr] at H2 HS
        have q0 : ¬ (q : Int) = 0 := by omega
        have q1 : ((q : Int) == 0) = false := by rw [beq_eq_false_iff_ne]; exact q0
        obtain ⟨hq1, hq2⟩ := hq
        clear hqq hr
        by_cases hc : p < qq
        · have HP := Lib.hid (H1.out hc)
          have hcI : (p : Int) < (qq : Int) := by omega
          clear H1 H2 HS
          go_upto_region 13 with (fail)
          clear cj f1 f1' f2 f3 q0 q1 hq1 hq2 hqb hcI hc hlt
          have hi := pr4 (show p < 312 by omega)
          have hpn : pr n = p := by rw [HN.out]; exact hi.2.1 HP.out
          have hn64 : n < 64 := by omega
          have HBs : Hid (Blk (wr.setCell ⟨w.heap.size, n, none⟩ (.int .i64 (p : Int))) w.heap.size 94 (padP (n + 1))) := Lib.hid (by
            have := HI.out.1.set_ n (.int .i64 (p : Int))
            rw [← hpn, padP_set hn64] at this
            rw [← hpn]; exact this)
          have HBb : Hid (RowKit.Below w.heap.size w (wr.setCell ⟨w.heap.size, n, none⟩ (.int .i64 (p : Int)))) := Lib.hid (HI.out.2.setCell (p := ⟨w.heap.size, n, none⟩) (Nat.le_refl _) _)
          have hcn : ∃ u, wr.cell? ⟨w.heap.size, n, none⟩ = some u := by
            rw [HI.out.1.cell]; exact ⟨_, Array.getElem?_eq_getElem (by rw [padP_size]; exact hn64)⟩
          obtain ⟨u0, cn⟩ := hcn
          have fn := HI.out.1.frozen n
          have HC : Hid (cnt (p + 1) = n + 1 ∧ (p = 311 → n + 1 = 64)) := Lib.hid (by rw [hi.1, HP.out, HN.out]; refine ⟨rfl, fun h => ?_⟩; rw [h]; decide +kernel)
          have HQ := Lib.hid hpn
          have n64I : (n : Int) < 64 := by omega
          clear hi hpn HI HO HP HN
          by_cases hni : n = i
          · have hniI : ((n : Int) == (i : Int)) = true := by rw [beq_iff_eq]; omega
            have HR : Hid (p = pr i) := Lib.hid (by rw [← HQ.out, hni])
            clear hni
            go_wp2
            go_ret
            exact ⟨by rw [HR.out]; rfl, HBb.out⟩
          · have hniI : ((n : Int) == (i : Int)) = false := by rw [beq_eq_false_iff_ne]; omega
            go_wp2
            go_roundw
            case rel => exact ⟨n + 1, p + 1, by omega, by omega, by have := HC.out; omega, by go_num, by go_num, HC.out.1.symm, Lib.hid ⟨HBs.out, HBb.out⟩⟩
            case measure => simp [intOf]; omega
        · have hcI : ¬ (p : Int) < (qq : Int) := by omega
          by_cases hr0 : r = 0
          · have HP := Lib.hid (H2.out hr0)
            have hr0I : ((r : Int) == 0) = true := by rw [beq_iff_eq]; omega
            have HC : Hid (n = cnt (p + 1) ∧ p + 1 ≤ 311) := Lib.hid (by
              have hi4 := pr4 (show p < 312 by omega)
              have e : cnt (p + 1) = cnt p := by rw [hi4.1, HP.out]; simp
              refine ⟨by rw [e]; exact HN.out, ?_⟩
              rcases Nat.lt_or_ge p 311 with h | h
              · omega
              · have : p = 311 := by omega
                have h5 : isP 311 = true := by decide +kernel
                rw [this] at HP
                have := HP.out
                rw [h5] at this; cases this)
            have HI2 := HI
            clear H1 H2 HS hr0 hc HN
            go_wp2
            go_roundw
            case rel => exact ⟨n, p + 1, hni, by omega, HC.out.2, rfl, by go_num, HC.out.1, HI2⟩
            case measure => simp [intOf]; omega
          · have hr0I : ((r : Int) == 0) = false := by rw [beq_eq_false_iff_ne]; omega
            have HON := Lib.hid (show okN p (j + 1) = true by rw [HS.out, HO.out, decide_eq_true (show qq ≤ p by omega)]; simpa using hr0)
            clear H1 H2 HS hr0 hc
            go_wp2
            go_round
            case rel => exact ⟨j + 1, by omega, by go_num, HON⟩
            case measure => simp [intOf]; omega
      · have HP := Lib.hid (pr1 (show p < 312 by omega) hp2 (show j ≤ cnt p by rw [← HN.out]; omega) HO.out (.inl (by rw [← HN.out]; omega)))
        have hjn : j = n := by omega
        have hltI : ¬ (j : Int) < (n : Int) := by omega
        clear hjn
        go_upto_region 13 with (fail)
        clear hltI hlt
        have hi := pr4 (show p < 312 by omega)
        have hpn : pr n = p := by rw [HN.out]; exact hi.2.1 HP.out
        have hn64 : n < 64 := by omega
        have HBs : Hid (Blk (wr.setCell ⟨w.heap.size, n, none⟩ (.int .i64 (p : Int))) w.heap.size 94 (padP (n + 1))) := Lib.hid (by
          have := HI.out.1.set_ n (.int .i64 (p : Int))
          rw [← hpn, padP_set hn64] at this
          rw [← hpn]; exact this)
        have HBb : Hid (RowKit.Below w.heap.size w (wr.setCell ⟨w.heap.size, n, none⟩ (.int .i64 (p : Int)))) := Lib.hid (HI.out.2.setCell (p := ⟨w.heap.size, n, none⟩) (Nat.le_refl _) _)
        have hcn : ∃ u, wr.cell? ⟨w.heap.size, n, none⟩ = some u := by
          rw [HI.out.1.cell]; exact ⟨_, Array.getElem?_eq_getElem (by rw [padP_size]; exact hn64)⟩
        obtain ⟨u0, cn⟩ := hcn
        have fn := HI.out.1.frozen n
        have HC : Hid (cnt (p + 1) = n + 1 ∧ (p = 311 → n + 1 = 64)) := Lib.hid (by rw [hi.1, HP.out, HN.out]; refine ⟨rfl, fun h => ?_⟩; rw [h]; decide +kernel)
        have HQ := Lib.hid hpn
        have n64I : (n : Int) < 64 := by omega
        clear hi hpn HI HO HP HN
        by_cases hni : n = i
        · have hniI : ((n : Int) == (i : Int)) = true := by rw [beq_iff_eq]; omega
          have HR : Hid (p = pr i) := Lib.hid (by rw [← HQ.out, hni])
          clear hni
          go_wp2
          go_ret
          exact ⟨by rw [HR.out]; rfl, HBb.out⟩
        · have hniI : ((n : Int) == (i : Int)) = false := by rw [beq_eq_false_iff_ne]; omega
          go_wp2
          go_roundw
          case rel => exact ⟨n + 1, p + 1, by omega, by omega, by have := HC.out; omega, by go_num, by go_num, HC.out.1.symm, Lib.hid ⟨HBs.out, HBb.out⟩⟩
          case measure => simp [intOf]; omega
end Go.Proofs.YtjcklmhkdpbbdaaDoor
