/- Chapter 27: the chapter's example. -/
import Derived.Test.YtjjbpiejplfbpaaPolE
import Derived.Test.YtjjbpiejplfbpaaPolF
namespace Go.Proofs.Ytjjbpiejplfbpaa
set_option linter.unusedVariables false
open Go.RowKit Go.Sort

def m0 : Mf := ⟨0, 0, 0, 0, 0, List.replicate 64 0, none, 0, 0, [], none, 0, 0, []⟩
def m0cs : Array Value := #[.int .u32 0, .int .u64 0, .int .u64 0, .int .u64 0, .int .i64 0] ++ Array.replicate 64 (.int .u8 0) ++ #[.slice none 0 0, .slice none 0 0]
theorem m0cs_eq : m0cs = m0.cs.toArray := by kernel_rfl
theorem info_mf : (Try.prog.info? 55).map (fun i => (i.zero, i.size)) = some (some (.agg m0cs), 71) := by kernel_rfl
theorem m0_ok (w : World) : MfOk w w.heap.size m0 :=
  ⟨by decide, by decide, by decide, by decide, rfl, by intro x hx; have := List.eq_of_mem_replicate hx; subst this; decide, rfl, by intro r hr; simp [m0] at hr, Rd.nil, rfl, by intro r hr; simp [m0] at hr, Rd.nil⟩
theorem m0_put : mputOk m0 = true := by decide +kernel
theorem m0_len : (mBytes m0).length = 108 := by decide +kernel

def gzM : Array Value := zGc.setIfInBounds 1 (.bool true)
def vzE : Array Value := zVc.setIfInBounds 0 (.int .i64 260)
def gdM : Gd := ⟨gzM.toList, ByteArray.empty, true, none, 0, 0, none, 0, 0, none, 0, 0, none, 0, 0, [], []⟩
def vdE : Vd := ⟨vzE.toList, 260⟩
theorem gdM_ok {w : World} {B : Nat} : GOk w B gdM := by
  refine ⟨by decide +kernel, ?_, rfl, rfl, rfl, rfl, rfl, rfl, rfl, rfl, Rd.nil, Rd.nil, by simp [gdM], by decide, by decide, by decide, by decide, by decide⟩
  have : gzM.toList.all (·.oneCell') = true := by decide +kernel
  exact List.all_eq_true.1 this
theorem vdE_ok : VdOk vdE := by
  refine ⟨by decide +kernel, ?_, rfl⟩
  have : vzE.toList.all (·.oneCell') = true := by decide +kernel
  exact List.all_eq_true.1 this
theorem fb_example : fbK [vdE] [gdM] 1 = some 0 := rfl
theorem decide_example (w : World) (E1 E2 : Array Value) (h1 : E1 = gzM) (h2 : E2 = vzE) (W : World) (hW : W = (w.alloc (.cells E1 49)).alloc (.cells E2 41)) :
    Calls Try.prog 10 #[.agg #[.int .u32 0, .slice (some ⟨w.heap.size, 0, none⟩) 1 1, .slice none 0 0], .slice (some ⟨w.heap.size + 1, 0, none⟩) 1 1] W fun e w' => e = .returned (.tuple #[.slice none 0 0, .int .i64 0, .int .i64 270]) ∧ Below w.heap.size w w' := by
  subst h1 h2
  have hsW : W.heap.size = w.heap.size + 1 + 1 := by rw [hW]; simp
  have hbW : RowKit.Below w.heap.size w W := by rw [hW]; exact bal (bal (Below.refl _ _) _) _
  have hG : Blk W w.heap.size 49 gzM := by rw [hW]; exact (Blk.new _ _ _).alloc _
  have hV : Blk W (w.heap.size + 1) 41 vzE := by rw [hW]; exact Blk.fresh _ _ _
  have := decide_any 0 (some ⟨w.heap.size, 0, none⟩) 1 1 none 0 0 (some ⟨w.heap.size + 1, 0, none⟩) 1 [gdM] [vdE] W (by decide)
    (fun W' h k hk => by obtain rfl : k = 0 := by omega
                         exact gdM_ok)
    (fun W' h k hk => by obtain rfl : k = 0 := by omega
                         refine ⟨_, 0, rfl, Nat.lt_of_lt_of_le (by omega) h.size, fun j v hv => ?_⟩
                         rw [Nat.zero_mul, Nat.zero_add, (hG.kept h).cell j]
                         have hv2 : gzM.toList[j]? = some v := hv
                         simpa using hv2)
    (fun k hk => by obtain rfl : k = 0 := by omega
                    exact vdE_ok)
    (fun k hk => by obtain rfl : k = 0 := by omega
                    refine ⟨_, 0, rfl, by omega, fun j v hv => ?_⟩
                    rw [Nat.zero_mul, Nat.zero_add, hV.cell j]
                    have hv2 : vzE.toList[j]? = some v := hv
                    simpa using hv2)
  rw [fb_example] at this
  exact this.mono fun e w' h => ⟨h.1, hbW.trans (h.2.mono hbW.size)⟩
theorem put_example (w : World) : Calls Try.prog 15 #[.agg m0cs] w fun e w' => (∃ A c, e = .returned (.tuple #[.slice A 108 c, .int .i64 0])) ∧ Below w.heap.size w w' := by
  have h := mput_any m0 w (m0_ok w) (by decide) (by decide)
  rw [← m0cs_eq] at h
  refine h.mono fun e w' ⟨hres, hb⟩ => ⟨?_, hb⟩
  rcases hres with ⟨_, A, c, he, _⟩ | ⟨hn, _⟩
  · rw [m0_len] at he; exact ⟨A, c, he⟩
  · rw [m0_put] at hn; cases hn

set_option maxRecDepth 100000 in
set_option maxHeartbeats 4000000 in
theorem awake27_any (w : World) :
    Calls Try.prog 8 #[] w fun e w' => e = .returned (.bool true) ∧ Below w.heap.size w w' := by
  have hz0 := (zero_of_info info_guest).1
  have hz1 := (zero_of_info info_vd).1
  have hz2 := (zero_of_info info_mf).1
  have hsz : zGc.size = 79 := by decide +kernel
  have hsz1 : zVc.size = 35 := by decide +kernel
  have hsz2 : m0cs.size = 71 := by decide +kernel
  go_enter Try.func8, Try.ntmps8
  go_wp2_with (first
    | (go_at_call 10; refine (decide_example w _ _ (by kernel_rfl) (by kernel_rfl) _ rfl).mono ?_; rintro e w1 ⟨rfl, hb1⟩)
    | (go_at_call 15; refine (put_example _).mono ?_; rintro e w2 ⟨⟨A, c, rfl⟩, hb2⟩))
  go_ret
  exact ⟨rfl, hb1.trans (hb2.mono hb1.size)⟩
end Go.Proofs.Ytjjbpiejplfbpaa
