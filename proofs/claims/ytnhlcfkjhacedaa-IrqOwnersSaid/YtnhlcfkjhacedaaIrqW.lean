/- Chapter 22: the chapter's example. -/
import Derived.Test.YtnhlcfkjhacedaaIrqR
import Derived.Test.YtnhlcfkjhacedaaIrqO
import Derived.Test.YtnhlcfkjhacedaaIrqH
namespace Go.Proofs.Ytnhlcfkjhacedaa
set_option linter.unusedVariables false
open Go.RowKit Go.Sort

/-- The cells of a guest that has interrupts and nothing else. -/
def gz (v : Value) : Array Value := zGc.setIfInBounds 77 v
def gdX (g : Nat) : Gd := ⟨(gz (.slice (some ⟨g, 0, none⟩) 1 1)).toList, ByteArray.empty, false, none, 0, 0, none, 0, 0, some ⟨g, 0, none⟩, 1, 1, none, 0, 0, [⟨33, 1, false⟩], []⟩
theorem gz_size (v : Value) : (gz v).size = 79 := by
  unfold gz
  rw [Array.size_setIfInBounds]
  decide +kernel
theorem gz_one (v : Value) (hv : v.oneCell' = true) : ∀ u ∈ (gz v).toList, u.oneCell' = true := by
  intro u hu
  unfold gz at hu
  rw [Array.toList_setIfInBounds] at hu
  rcases List.mem_or_eq_of_mem_set hu with h | rfl
  · have : zGc.toList.all (·.oneCell') = true := by decide +kernel
    exact List.all_eq_true.1 this u h
  · exact hv
theorem gdX_ok {w : World} {B g : Nat} (hg : g < B) (h : Blk w g 56 #[.int .i64 33, .int .i64 1, .bool false]) : GOk w B (gdX g) := by
  refine ⟨by simpa [gdX] using gz_size _, gz_one _ rfl, rfl, rfl, rfl, rfl, ?_, rfl, rfl, rfl, ?_, Rd.nil, by simp [gdX], by simp [gdX], by simp [gdX], by simp [gdX], by simp [gdX], by simp [gdX]⟩
  · show (gz _).toList[77]? = _
    unfold gz
    rw [Array.toList_setIfInBounds, List.getElem?_set_self (by decide +kernel)]
    rfl
  · exact ⟨rfl, fun _ => ⟨g, 0, rfl, hg, fun j u hu => by rw [Nat.zero_add, h.cell j]; simpa [gdX, encIq] using hu⟩⟩
def RL : List Rt := (List.replicate 64 mR).set 33 ⟨0, 1, false⟩
theorem routesX (g : Nat) : routesN 64 [gdX g] [true] 1 = some RL := by
  show runR (List.replicate 64 mR) ([] ++ [(0, ⟨33, 1, false⟩)]) = _
  decide +kernel

theorem routes_example (w : World) (E : Array Value) (hE : E = gz (.slice (some ⟨w.heap.size, 0, none⟩) 1 1)) (W : World)
    (hW : W = (((w.alloc (.cells #[.int .i64 33, .int .i64 1, .bool false] 56)).alloc (.cells E 54)).alloc (.cells #[.int .u32 0, .slice (some ⟨w.heap.size + 1, 0, none⟩) 1 1, .slice none 0 0] 33)).alloc (.cells #[.bool true] 4)) :
    Calls Try.prog 16 #[.int .i64 64, .agg #[.int .u32 0, .slice (some ⟨w.heap.size + 1, 0, none⟩) 1 1, .slice none 0 0], .slice (some ⟨w.heap.size + 1 + 1 + 1, 0, none⟩) 1 1] W fun e w' => ∃ A c, e = .returned (.tuple #[.slice A 64 c, .int .i64 0]) ∧ Rd w' w'.heap.size 3 A 64 (RL.flatMap encR) ∧ RowKit.Below w.heap.size w w' := by
  subst hE
  have hsW : W.heap.size = w.heap.size + 1 + 1 + 1 + 1 := by rw [hW]; simp
  have hbW : RowKit.Below w.heap.size w W := by rw [hW]; exact bal (bal (bal (bal (Below.refl _ _) _) _) _) _
  have hI : Blk W w.heap.size 56 #[.int .i64 33, .int .i64 1, .bool false] := by rw [hW]; exact (((Blk.new _ _ _).alloc _).alloc _).alloc _
  have hG : Blk W (w.heap.size + 1) 54 (gz (.slice (some ⟨w.heap.size, 0, none⟩) 1 1)) := by rw [hW]; exact ((Blk.fresh _ _ _).alloc _).alloc _
  have hB : Blk W (w.heap.size + 1 + 1 + 1) 4 #[.bool true] := by rw [hW]; exact Blk.fresh _ _ _
  have := routes_any 64 0 (some ⟨w.heap.size + 1, 0, none⟩) 1 1 none 0 0 (some ⟨w.heap.size + 1 + 1 + 1, 0, none⟩) 1 [gdX w.heap.size] [true] W (by decide) (by decide) rfl
    (fun k hk => by obtain rfl : k = 0 := by omega
                    rfl)
    (fun W' h k hk => by obtain rfl : k = 0 := by omega
                         exact gdX_ok (by omega) (hI.kept h))
    (fun W' h k hk => by obtain rfl : k = 0 := by omega
                         refine ⟨_, 0, rfl, Nat.lt_of_lt_of_le (by omega) h.size, fun j v hv => ?_⟩
                         rw [Nat.zero_mul, Nat.zero_add, (hG.kept h).cell j]
                         have hv2 : (gz (.slice (some ⟨w.heap.size, 0, none⟩) 1 1)).toList[j]? = some v := hv
                         simpa using hv2)
    ⟨rfl, fun _ => ⟨_, 0, rfl, by omega, fun j u hu => by rw [Nat.zero_add, hB.cell j]; simpa [encBl] using hu⟩⟩
  rw [routesX] at this
  refine this.mono fun e w' h => ?_
  obtain ⟨h1, hb⟩ := h
  obtain ⟨A, c, he, _, hr⟩ := h1
  exact ⟨A, c, he, hr, hbW.trans (hb.mono hbW.size)⟩

theorem RL_ok : rputOk RL = true := by decide +kernel
theorem RL_b0 : (rBytes RL)[132]? = some 1 := by decide +kernel
theorem RL_b1 : (rBytes RL)[133]? = some 1 := by decide +kernel
theorem RL_on : (layN 32 1 fOne RL 2 64)[1]? = some 2 := by decide +kernel
theorem flat1 {enc : Int → List Value} {f : Int → Value} (he : ∀ x, enc x = [f x]) {l : List Int} {k : Nat} {v : Int} (hv : l[k]? = some v) : (l.flatMap enc)[k]? = some (f v) := by
  obtain ⟨hk, e⟩ := List.getElem?_eq_some_iff.1 hv
  have := flatMap_get (enc := enc) (s := 1) (fun x => by rw [he]; rfl) l k 0 (by omega) hk
  rw [Nat.mul_one, Nat.add_zero] at this
  rw [this, he]
  simp [e]

set_option maxRecDepth 100000 in
set_option maxHeartbeats 4000000 in
theorem awake22_any (w : World) :
    Calls Try.prog 14 #[] w fun e w' => e = .returned (.bool true) ∧ Below w.heap.size w w' := by
  have hz0 := (zero_of_info info_guest).1
  have hsz : zGc.size = 79 := by decide +kernel
  have HP := Lib.hid (fun A c W (h : Rd W W.heap.size 3 A 64 (RL.flatMap encR)) => rput_any A 64 c RL W rfl (by decide) h)
  have HG := Lib.hid (fun A c W (h : Rd W W.heap.size 3 A 64 (RL.flatMap encR)) => gic_any A 64 c RL W rfl (by decide) h)
  go_enter Try.func14, Try.ntmps14
  go_wp2_with (first
    | (go_at_call 16; refine (routes_example w _ (by kernel_rfl) _ rfl).mono ?_; rintro e w1 ⟨A, c, rfl, hr1, hb1⟩)
    | (go_at_call 26; refine (HP.out _ _ _ hr1).mono ?_; rintro e w2 ⟨hres, hb2⟩; obtain ⟨_, A2, c2, rfl, hown2⟩ | ⟨hn, _⟩ := hres; rotate_left; (exfalso; rw [RL_ok] at hn; cases hn); have hr2 := (hr1.below hb2).more hb2.size; have hb12 := hb1.trans (hb2.mono hb1.size))
    | (go_at_call 19; refine (HG.out _ _ _ hr2).mono ?_; rintro e w3 ⟨A3, c3, A4, c4, A5, c5, rfl, hr3, hr4, hr5, hb3⟩; have hb13 := hb12.trans (hb3.mono hb12.size); obtain ⟨b3, o3, rfl, hbb3, hc3⟩ := hr3.cells (by decide); have e1 : w3.cell? ⟨b3, o3 + 1, none⟩ = some (.int .u32 2) := (hc3 1 (by decide)).trans (flat1 (fun _ => rfl) RL_on); obtain ⟨b2, o2, rfl, hbb2, hc2⟩ := ((Rd.of_own hown2).below hb3).cells (by decide); have e2 : w3.cell? ⟨b2, o2 + 132, none⟩ = some (.int .u8 1) := (hc2 132 (by decide)).trans (flat1 (fun _ => rfl) RL_b0); have e3 : w3.cell? ⟨b2, o2 + 133, none⟩ = some (.int .u8 1) := (hc2 133 (by decide)).trans (flat1 (fun _ => rfl) RL_b1); clear hc2 hc3))
  go_ret
  exact ⟨rfl, hb13⟩
end Go.Proofs.Ytnhlcfkjhacedaa
