/- Device trees: the empty one put; chapter 24's example. -/
import Derived.Test.YtnkpaockginooaaTreeH
namespace Go.Proofs.Ytnkpaockginooaa
set_option linter.unusedVariables false
set_option linter.unusedSimpArgs false
open Go.RowKit Go.Sort


theorem node0_e0 : node0 ⟨#[]⟩ = [0, 0, 0, 1, 0, 0, 0, 0, 0, 0, 0, 2] := by decide +kernel
theorem be9 : ([9] : List Int).flatMap (bytesN 4 false) = [0, 0, 0, 9] := by decide +kernel
/-- The empty tree's header, and the whole. -/
def head0 : List Int := [3490578157, 72, 56, 72, 40, 17, 16, 0, 0, 16]
def put0 : List Int := head0.flatMap (bytesN 4 false) ++ List.replicate 16 0 ++ [0, 0, 0, 1, 0, 0, 0, 0, 0, 0, 0, 2, 0, 0, 0, 9]
def put0' : List Int := head0.flatMap (bytesN 4 false) ++ (List.replicate 16 0 ++ ([0, 0, 0, 1, 0, 0, 0, 0, 0, 0, 0, 2, 0, 0, 0, 9] ++ ([] ++ [])))
theorem cat4 (w7 : World) (A7 A4 : Option Addr) (c7 c4 : Nat) (Z : Array Value) (hZ : Z.toList = (List.replicate 16 (0 : Int)).flatMap encB) (base : Nat) (h8 : w7.ownsRow base 5 1 (.slice A7 40 c7) 40 ((head0.flatMap (bytesN 4 false)).flatMap encB))
    (h9 : w7.ownsRow base 5 1 (.slice A4 16 c4) 16 (([0, 0, 0, 1, 0, 0, 0, 0, 0, 0, 0, 2, 0, 0, 0, 9] : List Int).flatMap encB)) :
    Calls Try.prog 37 #[.slice (some ⟨w7.heap.size + 1, 0, none⟩) 4 4] ((w7.alloc (.cells Z 5)).alloc (.cells #[.slice A7 40 c7, .slice (some ⟨w7.heap.size, 0, none⟩) 16 16, .slice A4 16 c4, .slice none 0 0] 28)).drew fun e w' =>
      ∃ A c, e = .returned (.slice A 72 c) ∧ w'.ownsRow w7.heap.size 5 1 (.slice A 72 c) 72 (put0.flatMap encB) ∧ Below w7.heap.size w7 w' := by
  have hb1 := bal (Below.refl w7.heap.size w7) (.cells Z 5)
  have hb2 := (bal hb1 (.cells #[.slice A7 40 c7, .slice (some ⟨w7.heap.size, 0, none⟩) 16 16, .slice A4 16 c4, .slice none 0 0] 28)).drew
  have hx2 := (bal (Below.refl _ (w7.alloc (.cells Z 5))) (.cells #[.slice A7 40 c7, .slice (some ⟨w7.heap.size, 0, none⟩) 16 16, .slice A4 16 c4, .slice none 0 0] 28)).drew
  have hZs : Z.size = 16 * 1 := by rw [← Array.length_toList, hZ]; rfl
  have hrz := ((Rd.fresh w7 Z 5 16 1 w7.heap.size hZs).below hx2).more hx2.size
  rw [hZ] at hrz
  have hr := (Rd.fresh (w7.alloc (.cells Z 5)) #[.slice A7 40 c7, .slice (some ⟨w7.heap.size, 0, none⟩) 16 16, .slice A4 16 c4, .slice none 0 0] 28 4 1 (w7.heap.size + 1) rfl).below (Below.refl _ _).drew
  have := cat_any (some ⟨w7.heap.size + 1, 0, none⟩) 4 4 [⟨A7, 40, c7, head0.flatMap (bytesN 4 false)⟩, ⟨some ⟨w7.heap.size, 0, none⟩, 16, 16, List.replicate 16 0⟩, ⟨A4, 16, c4, [0, 0, 0, 1, 0, 0, 0, 0, 0, 0, 0, 2, 0, 0, 0, 9]⟩, ⟨none, 0, 0, []⟩] _ rfl (by decide) hr
    (fun p hp => by
      simp only [List.mem_cons, List.not_mem_nil, or_false] at hp
      rcases hp with rfl | rfl | rfl | rfl
      · exact ⟨(by decide +kernel : (head0.flatMap (bytesN 4 false)).length = 40), ((Rd.of_own h8).below hb2).more hb2.size⟩
      · exact ⟨(by decide : (List.replicate 16 (0 : Int)).length = 16), hrz⟩
      · exact ⟨(rfl : ([0, 0, 0, 1, 0, 0, 0, 0, 0, 0, 0, 2, 0, 0, 0, 9] : List Int).length = 16), ((Rd.of_own h9).below hb2).more hb2.size⟩
      · exact ⟨rfl, Rd.nil⟩) (N := 72) (show put0'.length = 72 by decide +kernel) (by decide)
  refine this.mono ?_
  rintro e w' ⟨A, c, rfl, hown, hb⟩
  refine ⟨A, c, rfl, ?_, hb2.trans (hb.mono hb2.size)⟩
  have e1 : catN [⟨A7, 40, c7, head0.flatMap (bytesN 4 false)⟩, ⟨some ⟨w7.heap.size, 0, none⟩, 16, 16, List.replicate 16 0⟩, ⟨A4, 16, c4, [0, 0, 0, 1, 0, 0, 0, 0, 0, 0, 0, 2, 0, 0, 0, 9]⟩, ⟨none, 0, 0, []⟩] = put0 := by simp [catN, put0]
  rw [e1] at hown
  exact hown.mono hb2.size
set_option maxRecDepth 100000 in
set_option maxHeartbeats 2000000 in
theorem put_zero (w : World) : Calls Try.prog 15 #[.agg #[.string ⟨#[]⟩, .slice none 0 0, .slice none 0 0]] w fun e w' => ∃ A c, e = .returned (.tuple #[.slice A 72 c, .int .i64 0]) ∧ w'.ownsRow w.heap.size 5 1 (.slice A 72 c) 72 (put0.flatMap encB) ∧ Below w.heap.size w w' := by
  have hmm := @run_makeMap Try.prog
  go_enter Try.func15, Try.ntmps15
  go_upto_region 3 with (go_at_call 17; refine (check_zero _).mono ?_; rintro e w1 ⟨rfl, hb1⟩)
  have hz1 := hb1.size
  simp only [World.size_alloc] at hz1
  have hT1 := (Blk.new w 25 #[.string ⟨#[]⟩, .slice none 0 0, .slice none 0 0]).kept hb1
  have hb2 : RowKit.Below w.heap.size w w1 := (bal (Below.refl w.heap.size w) _).trans (hb1.mono (by simp))
  clear hb1
  go_upto_region 4 with (fail)
  refine wp_name ?_
  intro w2 hw2
  obtain ⟨hB2, hT2, hb3, hz2⟩ : Blk w2 (w1.heap.size + 1) 70 #[.slice none 0 0, .slice none 0 0, .map (some w1.heap.size)] ∧ Blk w2 w.heap.size 25 #[.string ⟨#[]⟩, .slice none 0 0, .slice none 0 0] ∧ RowKit.Below w.heap.size w w2 ∧ w2.heap.size = w1.heap.size + 2 := by
    refine ⟨?_, ?_, ?_, ?_⟩
    all_goals rw [hw2]
    · exact Blk.fresh _ _ _
    · exact (hT1.alloc _).alloc _
    · exact bal' (bal' hb2 _ (by omega)) _ (by simp; omega)
    · simp
  clear hw2 hb2 hT1
  have cT := hT2.cell
  go_upto_region 5 with (go_at_call 35; refine (node0_any (w1.heap.size + 1) ⟨#[]⟩ _ _ w2 hB2 (by decide)).mono ?_; rintro e w3 ⟨rfl, A3, c3, hB3, hown3, hn3⟩)
  rw [node0_e0] at hB3 hown3
  simp only [List.length_cons, List.length_nil, Nat.zero_add, Nat.reduceAdd] at hB3 hown3
  generalize hG : w1.heap.size + 1 = G at *
  have hz3 := hn3.size
  have HF9 := Lib.hid (four_any G 0 70 #[.slice A3 12 c3, .slice none 0 0, .map (some w1.heap.size)] A3 (some ⟨w3.heap.size, 0, none⟩) 12 c3 1 1 [0, 0, 0, 1, 0, 0, 0, 0, 0, 0, 0, 2] [9] (w3.alloc (.cells #[.int .u32 9] 44)) (hB3.alloc _) rfl rfl rfl (by decide) (by decide) (by decide) (Rd.of_own (hown3.alloc _)) (Rd.fresh w3 #[.int .u32 9] 44 1 1 _ rfl))
  go_upto_region 6 with (go_at_call 36; refine HF9.out.mono ?_; rintro e w4 ⟨rfl, A4, c4, hB4, hown4, hn4⟩)
  rw [be9] at hown4
  have hB5 : Blk w4 G 70 #[.slice A4 16 c4, .slice none 0 0, .map (some w1.heap.size)] := hB4
  have hown5 : w4.ownsRow w.heap.size 5 1 (.slice A4 16 c4) 16 (([0, 0, 0, 1, 0, 0, 0, 0, 0, 0, 0, 2, 0, 0, 0, 9] : List Int).flatMap encB) := by
    have : w4.ownsRow _ 5 1 (.slice A4 16 c4) 16 (([0, 0, 0, 1, 0, 0, 0, 0, 0, 0, 0, 2, 0, 0, 0, 9] : List Int).flatMap encB) := hown4
    exact this.mono (by simp; omega)
  have hz4 := hn4.size
  have hb5 : RowKit.Below w.heap.size w w4 := ((hb3.trans (hn3.below (B := w.heap.size) (fun i hi => by omega) (by omega))).trans (bal (Below.refl _ _) (.cells #[.int .u32 9] 44) |>.mono (by omega))).trans (hn4.below (B := w.heap.size) (fun i hi => by omega) (by simp; omega))
  clear hB4 hown4 hB3 hown3 hB2 hT2 cT HF9 hn4 hn3 hb3
  have cB := hB5.cell
  go_upto_region 11 with (fail)
  have hH := Blk.new w4 68 #[.slice none 0 0]
  have hB6 := hB5.alloc (.cells #[.slice none 0 0] 68)
  have hown6 := hown5.alloc (.cells #[.slice none 0 0] 68)
  have hb6 := bal' hb5 (.cells #[.slice none 0 0] 68) hb5.size
  have hHz : w4.heap.size < (w4.alloc (.cells #[.slice none 0 0] 68)).heap.size := by simp
  have hGH : G < w4.heap.size := hB5.lt
  have hwH : w.heap.size ≤ w4.heap.size := hb5.size
  clear hB5 hown5 hb5 cB
  generalize w4.alloc (.cells #[.slice none 0 0] 68) = w6 at *
  generalize w4.heap.size = H at *
  have HF10 := Lib.hid (fun W (hW : Below w6.heap.size w6 W) (b : Nat) (hr : Rd W W.heap.size 1 (some ⟨b, 0, none⟩) 10 (head0.flatMap encU32)) => four_any H 0 68 #[.slice none 0 0] none (some ⟨b, 0, none⟩) 0 0 10 10 [] head0 W (hH.kept hW) rfl rfl rfl (by decide) (by decide) (by decide) Rd.nil hr)
  have cB := hB6.cell
  have u72 : IntKind.u32.wrap 72 = 72 := rfl
  have u0 : IntKind.u32.wrap 0 = 0 := rfl
  have u16 : IntKind.u32.wrap 16 = 16 := rfl
  have HX := Lib.hid (show Below w6.heap.size w6 (w6.alloc (.cells #[.int .u32 3490578157, .int .u32 72, .int .u32 56, .int .u32 72, .int .u32 40, .int .u32 17, .int .u32 16, .int .u32 0, .int .u32 0, .int .u32 16] 44)).drew from (bal (Below.refl _ _) _).drew)
  have HXr := Lib.hid (show Rd (w6.alloc (.cells #[.int .u32 3490578157, .int .u32 72, .int .u32 56, .int .u32 72, .int .u32 40, .int .u32 17, .int .u32 16, .int .u32 0, .int .u32 0, .int .u32 16] 44)).drew (w6.alloc (.cells #[.int .u32 3490578157, .int .u32 72, .int .u32 56, .int .u32 72, .int .u32 40, .int .u32 17, .int .u32 16, .int .u32 0, .int .u32 0, .int .u32 16] 44)).drew.heap.size 1 (some ⟨w6.heap.size, 0, none⟩) 10 (head0.flatMap encU32) from (Rd.fresh w6 #[.int .u32 3490578157, .int .u32 72, .int .u32 56, .int .u32 72, .int .u32 40, .int .u32 17, .int .u32 16, .int .u32 0, .int .u32 0, .int .u32 16] 44 10 1 _ rfl).below (Below.refl _ _).drew)
  go_region_law (go_simp; (go_at_call 36; refine (HF10.out _ HX.out _ HXr.out).mono ?_; rintro e w7 ⟨rfl, A7, c7, hB7, hown7, hn7⟩))
  · skip
    have hB8 : Blk w7 H 68 #[.slice A7 40 c7] := hB7
    have hz6 := HX.out.size
    have hz7 := hn7.size
    have hxx := HX.out
    have hown8 : w7.ownsRow w.heap.size 5 1 (.slice A7 40 c7) 40 ((head0.flatMap (bytesN 4 false)).flatMap encB) := by
      have : w7.ownsRow _ 5 1 (.slice A7 40 c7) 40 ((head0.flatMap (bytesN 4 false)).flatMap encB) := hown7
      exact this.mono (by omega)
    have hB9 := (hB6.kept hxx).same (hn7.block _ (hB6.kept hxx).lt (by omega))
    have hown9 := own_same (own_kept hown6 hxx) fun i hi => hn7.block i (own_lt (own_kept hown6 hxx) hi).2 (fun e => by
      have := own_blk_ne (own_kept hown6 hxx) (hH.kept hxx) (by decide)
      apply this
      rw [hi, e])
    have hb9 := (hb6.trans (hxx.mono hb6.size)).trans (hn7.below (B := w.heap.size) (fun i hi => by omega) (Nat.le_trans hb6.size hz6))
    clear hB7 hown7 hn7 hxx HX HXr HF10
    clear cB
    have cB := hB9.cell
    have cH := hB8.cell
    have hG7 := hB9.lt
    have hH7 := hB8.lt
    obtain ⟨Z, hZ, hmk⟩ : ∃ Z : Array Value, Hid (Z.toList = (List.replicate 16 (0 : Int)).flatMap encB) ∧ ∀ W, (Instr.makeSlice 28 (.int .i64 16) (.int .i64 16)).run Try.prog W = .ok (.slice (some ⟨W.heap.size, 0, none⟩) 16 16) (W.alloc (.cells Z 5)) :=
      ⟨_, Lib.hid (by kernel_rfl), fun W => make_b W 16 16 (by decide) (by decide)⟩
    go_upto_region 12 with (fail)
    have HCat := Lib.hid (cat4 w7 A7 A4 c7 c4 Z hZ.out _ hown8 hown9)
    have hBG := hB9
    have hBH := hB8
    clear hown8 hown9 hB8 hB9
    have hS1 : (fun W' : World => (∀ i, W'.cell? ⟨G, i, none⟩ = (#[.slice A4 16 c4, .slice none 0 0, .map (some w1.heap.size)] : Array Value)[i]?) ∧ (∀ i, W'.cell? ⟨H, i, none⟩ = (#[.slice A7 40 c7] : Array Value)[i]?)) w7.drew := ⟨hBG.drew.cell, hBH.drew.cell⟩
    refine wp_region_held_drew (S := fun W' : World => (∀ i, W'.cell? ⟨G, i, none⟩ = (#[.slice A4 16 c4, .slice none 0 0, .map (some w1.heap.size)] : Array Value)[i]?) ∧ (∀ i, W'.cell? ⟨H, i, none⟩ = (#[.slice A7 40 c7] : Array Value)[i]?)) (by kernel_rfl) hS1 (fun hHeld => ?_)
    clear hHeld
    refine wpAnyH_take (i := 0) (v := ?va0) rfl (by kernel_rfl) (by kernel_rfl) (by kernel_rfl) (fun _ _ _ h => h) (Or.inl ⟨by kernel_rfl, ?hya0⟩) hS1 ?resta0
    case hya0 =>
      intro w hSw
      clear hSw
      go_simp
      first | done | with_reducible rfl
    (try simp only [List.getElem_toArray, List.getElem_cons_succ, List.getElem_cons_zero, Act.put, List.setIfInBounds_toArray, List.set_cons_zero, List.set_cons_succ])
    refine wpAnyH_take (i := 1) (v := ?va1) rfl (by kernel_rfl) (by kernel_rfl) (by kernel_rfl) (fun _ _ _ h => h) (Or.inl ⟨by kernel_rfl, ?hya1⟩) hS1 ?resta1
    case hya1 =>
      intro w hSw
      obtain ⟨hSa, hSb⟩ := hSw
      go_simp
      first | done | with_reducible rfl
    (try simp only [List.getElem_toArray, List.getElem_cons_succ, List.getElem_cons_zero, Act.put, List.setIfInBounds_toArray, List.set_cons_zero, List.set_cons_succ])
    refine wpAnyH_take (i := 3) (v := ?va3) rfl (by kernel_rfl) (by kernel_rfl) (by kernel_rfl) (fun _ _ _ h => h) (Or.inl ⟨by kernel_rfl, ?hya3⟩) hS1 ?resta3
    case hya3 =>
      intro w hSw
      clear hSw
      go_simp
      first | done | with_reducible rfl
    (try simp only [List.getElem_toArray, List.getElem_cons_succ, List.getElem_cons_zero, Act.put, List.setIfInBounds_toArray, List.set_cons_zero, List.set_cons_succ])
    refine wpAnyH_take (i := 4) (v := ?va4) rfl (by kernel_rfl) (by kernel_rfl) (by kernel_rfl) (fun _ _ _ h => h) (Or.inl ⟨by kernel_rfl, ?hya4⟩) hS1 ?resta4
    case hya4 =>
      intro w hSw
      clear hSw
      go_simp
      first | done | with_reducible rfl
    (try simp only [List.getElem_toArray, List.getElem_cons_succ, List.getElem_cons_zero, Act.put, List.setIfInBounds_toArray, List.set_cons_zero, List.set_cons_succ])
    refine wpAnyH_take (i := 5) (v := ?va5) rfl (by kernel_rfl) (by kernel_rfl) (by kernel_rfl) (fun _ _ _ h => h) (Or.inl ⟨by kernel_rfl, ?hya5⟩) hS1 ?resta5
    case hya5 =>
      intro w hSw
      clear hSw
      go_simp
      first | done | with_reducible rfl
    (try simp only [List.getElem_toArray, List.getElem_cons_succ, List.getElem_cons_zero, Act.put, List.setIfInBounds_toArray, List.set_cons_zero, List.set_cons_succ])
    refine wpAnyH_take (i := 6) (v := ?va6) rfl (by kernel_rfl) (by kernel_rfl) (by kernel_rfl) (fun _ _ _ h => h) (Or.inl ⟨by kernel_rfl, ?hya6⟩) hS1 ?resta6
    case hya6 =>
      intro w hSw
      clear hSw
      go_simp
      first | done | with_reducible rfl
    (try simp only [List.getElem_toArray, List.getElem_cons_succ, List.getElem_cons_zero, Act.put, List.setIfInBounds_toArray, List.set_cons_zero, List.set_cons_succ])
    refine wpAnyH_take (i := 7) (v := ?va7) rfl (by kernel_rfl) (by kernel_rfl) (by kernel_rfl) (fun _ _ _ h => h) (Or.inl ⟨by kernel_rfl, ?hya7⟩) hS1 ?resta7
    case hya7 =>
      intro w hSw
      obtain ⟨hSa, hSb⟩ := hSw
      go_simp
      first | done | with_reducible rfl
    (try simp only [List.getElem_toArray, List.getElem_cons_succ, List.getElem_cons_zero, Act.put, List.setIfInBounds_toArray, List.set_cons_zero, List.set_cons_succ])
    refine wpAnyH_take (i := 8) (v := ?va8) rfl (by kernel_rfl) (by kernel_rfl) (by kernel_rfl) (fun _ _ _ h => h) (Or.inl ⟨by kernel_rfl, ?hya8⟩) hS1 ?resta8
    case hya8 =>
      intro w hSw
      clear hSw
      go_simp
      first | done | with_reducible rfl
    (try simp only [List.getElem_toArray, List.getElem_cons_succ, List.getElem_cons_zero, Act.put, List.setIfInBounds_toArray, List.set_cons_zero, List.set_cons_succ])
    refine wpAnyH_take (i := 9) (v := ?va9) rfl (by kernel_rfl) (by kernel_rfl) (by kernel_rfl) (fun _ _ _ h => h) (Or.inl ⟨by kernel_rfl, ?hya9⟩) hS1 ?resta9
    case hya9 =>
      intro w hSw
      clear hSw
      go_simp
      first | done | with_reducible rfl
    (try simp only [List.getElem_toArray, List.getElem_cons_succ, List.getElem_cons_zero, Act.put, List.setIfInBounds_toArray, List.set_cons_zero, List.set_cons_succ])
    refine wpAnyH_take (i := 10) (v := ?va10) rfl (by kernel_rfl) (by kernel_rfl) (by kernel_rfl) (fun _ _ _ h => h) (Or.inl ⟨by kernel_rfl, ?hya10⟩) hS1 ?resta10
    case hya10 =>
      intro w hSw
      clear hSw
      go_simp
      first | done | with_reducible rfl
    (try simp only [List.getElem_toArray, List.getElem_cons_succ, List.getElem_cons_zero, Act.put, List.setIfInBounds_toArray, List.set_cons_zero, List.set_cons_succ])
    refine wpAnyH_take (i := 11) (v := ?va11) rfl (by kernel_rfl) (by kernel_rfl) (by kernel_rfl) (fun _ _ _ h => h) (Or.inl ⟨by kernel_rfl, ?hya11⟩) hS1 ?resta11
    case hya11 =>
      intro w hSw
      obtain ⟨hSa, hSb⟩ := hSw
      go_simp
      first | done | with_reducible rfl
    (try simp only [List.getElem_toArray, List.getElem_cons_succ, List.getElem_cons_zero, Act.put, List.setIfInBounds_toArray, List.set_cons_zero, List.set_cons_succ])
    refine wpAnyH_call (i := 2) (by kernel_rfl) rfl (by kernel_rfl) fun K hK => ?_
    simp only [List.getElem_toArray, List.getElem_cons_succ, List.getElem_cons_zero]
    go_simp
    have hS2 : (fun W' : World => (∀ i, W'.cell? ⟨G, i, none⟩ = (#[.slice A4 16 c4, .slice none 0 0, .map (some w1.heap.size)] : Array Value)[i]?) ∧ (∀ i, W'.cell? ⟨H, i, none⟩ = (#[.slice A7 40 c7] : Array Value)[i]?)) (w7.alloc (.cells Z 5)).drew := ⟨(hBG.alloc _).drew.cell, (hBH.alloc _).drew.cell⟩
    refine hK.out _ _ hS2 ?_
    clear hK K
    (try simp only [List.getElem_toArray, List.getElem_cons_succ, List.getElem_cons_zero, Act.put, List.setIfInBounds_toArray, List.set_cons_zero, List.set_cons_succ])
    refine wpAnyH_call (i := 12) (by kernel_rfl) rfl (by kernel_rfl) fun K hK => ?_
    simp only [List.getElem_toArray, List.getElem_cons_succ, List.getElem_cons_zero]
    go_simp
    have hS3 : (fun W' : World => (∀ i, W'.cell? ⟨G, i, none⟩ = (#[.slice A4 16 c4, .slice none 0 0, .map (some w1.heap.size)] : Array Value)[i]?) ∧ (∀ i, W'.cell? ⟨H, i, none⟩ = (#[.slice A7 40 c7] : Array Value)[i]?)) ((w7.alloc (.cells Z 5)).alloc (.cells #[.slice A7 40 c7, .slice (some ⟨w7.heap.size, 0, none⟩) 16 16, .slice A4 16 c4, .slice none 0 0] 28)).drew := ⟨((hBG.alloc _).alloc _).drew.cell, ((hBH.alloc _).alloc _).drew.cell⟩
    refine hK.out _ _ hS3 ?_
    clear hK K
    (try simp only [List.getElem_toArray, List.getElem_cons_succ, List.getElem_cons_zero, Act.put, List.setIfInBounds_toArray, List.set_cons_zero, List.set_cons_succ])
    refine wpAnyH_call (i := 13) (by kernel_rfl) rfl (by kernel_rfl) fun K hK => ?_
    simp only [List.getElem_toArray, List.getElem_cons_succ, List.getElem_cons_zero]
    go_simp
    go_at_call 37
    refine HCat.out.mono ?_
    rintro e w8 ⟨A8, c8, rfl, hown10, hb10⟩
    have hS4 : (fun W' : World => (∀ i, W'.cell? ⟨G, i, none⟩ = (#[.slice A4 16 c4, .slice none 0 0, .map (some w1.heap.size)] : Array Value)[i]?) ∧ (∀ i, W'.cell? ⟨H, i, none⟩ = (#[.slice A7 40 c7] : Array Value)[i]?)) w8 := ⟨(hBG.kept hb10).cell, (hBH.kept hb10).cell⟩
    refine hK.out _ _ hS4 ?_
    clear hK K
    (try simp only [List.getElem_toArray, List.getElem_cons_succ, List.getElem_cons_zero, Act.put, List.setIfInBounds_toArray, List.set_cons_zero, List.set_cons_succ])
    refine wpAnyH_take (i := 14) (v := ?va14) rfl (by kernel_rfl) (by kernel_rfl) (by kernel_rfl) (fun _ _ _ h => h) (Or.inl ⟨by kernel_rfl, ?hya14⟩) hS4 ?resta14
    case hya14 =>
      intro w hSw
      clear hSw
      go_simp
      first | done | with_reducible rfl
    (try simp only [List.getElem_toArray, List.getElem_cons_succ, List.getElem_cons_zero, Act.put, List.setIfInBounds_toArray, List.set_cons_zero, List.set_cons_succ])
    refine wpAnyH_take (i := 15) (v := ?va15) rfl (by kernel_rfl) (by kernel_rfl) (by kernel_rfl) (fun _ _ _ h => h) (Or.inl ⟨by kernel_rfl, ?hya15⟩) hS4 ?resta15
    case hya15 =>
      intro w hSw
      clear hSw
      go_simp
      first | done | with_reducible rfl
    (try simp only [List.getElem_toArray, List.getElem_cons_succ, List.getElem_cons_zero, Act.put, List.setIfInBounds_toArray, List.set_cons_zero, List.set_cons_succ])
    refine wpAnyH_done (by kernel_rfl) ?_ _
    clear hS1 hS2 hS3 hS4
    have HO := Lib.hid hown10
    have HB := Lib.hid hb10
    clear hown10 hb10
    go_wp2_with fail
    exact bodyPost_ret (v := .tuple #[.slice A8 72 c8, .int .i64 0]) (by simp [results, Try.results15, go_sem]) rfl ⟨A8, c8, rfl, HO.out.mono hb9.size, hb9.trans (HB.out.mono hb9.size)⟩
  · skip
    have hB8 : Blk w7 H 68 #[.slice A7 40 c7] := hB7
    have hz6 := HX.out.size
    have hz7 := hn7.size
    have hxx := HX.out
    have hown8 : w7.ownsRow w.heap.size 5 1 (.slice A7 40 c7) 40 ((head0.flatMap (bytesN 4 false)).flatMap encB) := by
      have : w7.ownsRow _ 5 1 (.slice A7 40 c7) 40 ((head0.flatMap (bytesN 4 false)).flatMap encB) := hown7
      exact this.mono (by omega)
    have hB9 := (hB6.kept hxx).same (hn7.block _ (hB6.kept hxx).lt (by omega))
    have hown9 := own_same (own_kept hown6 hxx) fun i hi => hn7.block i (own_lt (own_kept hown6 hxx) hi).2 (fun e => by
      have := own_blk_ne (own_kept hown6 hxx) (hH.kept hxx) (by decide)
      apply this
      rw [hi, e])
    have hb9 := (hb6.trans (hxx.mono hb6.size)).trans (hn7.below (B := w.heap.size) (fun i hi => by omega) (Nat.le_trans hb6.size hz6))
    clear hB7 hown7 hn7 hxx HX HXr HF10
    clear cB
    have cB := hB9.cell
    have cH := hB8.cell
    have hG7 := hB9.lt
    have hH7 := hB8.lt
    obtain ⟨Z, hZ, hmk⟩ : ∃ Z : Array Value, Hid (Z.toList = (List.replicate 16 (0 : Int)).flatMap encB) ∧ ∀ W, (Instr.makeSlice 28 (.int .i64 16) (.int .i64 16)).run Try.prog W = .ok (.slice (some ⟨W.heap.size, 0, none⟩) 16 16) (W.alloc (.cells Z 5)) :=
      ⟨_, Lib.hid (by kernel_rfl), fun W => make_b W 16 16 (by decide) (by decide)⟩
    go_upto_region 12 with (fail)
    have HCat := Lib.hid (cat4 w7 A7 A4 c7 c4 Z hZ.out _ hown8 hown9)
    have hBG := hB9
    have hBH := hB8
    clear hown8 hown9 hB8 hB9
    have hS1 : (fun W' : World => (∀ i, W'.cell? ⟨G, i, none⟩ = (#[.slice A4 16 c4, .slice none 0 0, .map (some w1.heap.size)] : Array Value)[i]?) ∧ (∀ i, W'.cell? ⟨H, i, none⟩ = (#[.slice A7 40 c7] : Array Value)[i]?)) w7.drew := ⟨hBG.drew.cell, hBH.drew.cell⟩
    refine wp_region_held_drew (S := fun W' : World => (∀ i, W'.cell? ⟨G, i, none⟩ = (#[.slice A4 16 c4, .slice none 0 0, .map (some w1.heap.size)] : Array Value)[i]?) ∧ (∀ i, W'.cell? ⟨H, i, none⟩ = (#[.slice A7 40 c7] : Array Value)[i]?)) (by kernel_rfl) hS1 (fun hHeld => ?_)
    clear hHeld
    refine wpAnyH_take (i := 0) (v := ?vb0) rfl (by kernel_rfl) (by kernel_rfl) (by kernel_rfl) (fun _ _ _ h => h) (Or.inl ⟨by kernel_rfl, ?hyb0⟩) hS1 ?restb0
    case hyb0 =>
      intro w hSw
      clear hSw
      go_simp
      first | done | with_reducible rfl
    (try simp only [List.getElem_toArray, List.getElem_cons_succ, List.getElem_cons_zero, Act.put, List.setIfInBounds_toArray, List.set_cons_zero, List.set_cons_succ])
    refine wpAnyH_take (i := 1) (v := ?vb1) rfl (by kernel_rfl) (by kernel_rfl) (by kernel_rfl) (fun _ _ _ h => h) (Or.inl ⟨by kernel_rfl, ?hyb1⟩) hS1 ?restb1
    case hyb1 =>
      intro w hSw
      obtain ⟨hSa, hSb⟩ := hSw
      go_simp
      first | done | with_reducible rfl
    (try simp only [List.getElem_toArray, List.getElem_cons_succ, List.getElem_cons_zero, Act.put, List.setIfInBounds_toArray, List.set_cons_zero, List.set_cons_succ])
    refine wpAnyH_take (i := 3) (v := ?vb3) rfl (by kernel_rfl) (by kernel_rfl) (by kernel_rfl) (fun _ _ _ h => h) (Or.inl ⟨by kernel_rfl, ?hyb3⟩) hS1 ?restb3
    case hyb3 =>
      intro w hSw
      clear hSw
      go_simp
      first | done | with_reducible rfl
    (try simp only [List.getElem_toArray, List.getElem_cons_succ, List.getElem_cons_zero, Act.put, List.setIfInBounds_toArray, List.set_cons_zero, List.set_cons_succ])
    refine wpAnyH_take (i := 4) (v := ?vb4) rfl (by kernel_rfl) (by kernel_rfl) (by kernel_rfl) (fun _ _ _ h => h) (Or.inl ⟨by kernel_rfl, ?hyb4⟩) hS1 ?restb4
    case hyb4 =>
      intro w hSw
      clear hSw
      go_simp
      first | done | with_reducible rfl
    (try simp only [List.getElem_toArray, List.getElem_cons_succ, List.getElem_cons_zero, Act.put, List.setIfInBounds_toArray, List.set_cons_zero, List.set_cons_succ])
    refine wpAnyH_take (i := 5) (v := ?vb5) rfl (by kernel_rfl) (by kernel_rfl) (by kernel_rfl) (fun _ _ _ h => h) (Or.inl ⟨by kernel_rfl, ?hyb5⟩) hS1 ?restb5
    case hyb5 =>
      intro w hSw
      clear hSw
      go_simp
      first | done | with_reducible rfl
    (try simp only [List.getElem_toArray, List.getElem_cons_succ, List.getElem_cons_zero, Act.put, List.setIfInBounds_toArray, List.set_cons_zero, List.set_cons_succ])
    refine wpAnyH_take (i := 6) (v := ?vb6) rfl (by kernel_rfl) (by kernel_rfl) (by kernel_rfl) (fun _ _ _ h => h) (Or.inl ⟨by kernel_rfl, ?hyb6⟩) hS1 ?restb6
    case hyb6 =>
      intro w hSw
      clear hSw
      go_simp
      first | done | with_reducible rfl
    (try simp only [List.getElem_toArray, List.getElem_cons_succ, List.getElem_cons_zero, Act.put, List.setIfInBounds_toArray, List.set_cons_zero, List.set_cons_succ])
    refine wpAnyH_take (i := 7) (v := ?vb7) rfl (by kernel_rfl) (by kernel_rfl) (by kernel_rfl) (fun _ _ _ h => h) (Or.inl ⟨by kernel_rfl, ?hyb7⟩) hS1 ?restb7
    case hyb7 =>
      intro w hSw
      obtain ⟨hSa, hSb⟩ := hSw
      go_simp
      first | done | with_reducible rfl
    (try simp only [List.getElem_toArray, List.getElem_cons_succ, List.getElem_cons_zero, Act.put, List.setIfInBounds_toArray, List.set_cons_zero, List.set_cons_succ])
    refine wpAnyH_take (i := 8) (v := ?vb8) rfl (by kernel_rfl) (by kernel_rfl) (by kernel_rfl) (fun _ _ _ h => h) (Or.inl ⟨by kernel_rfl, ?hyb8⟩) hS1 ?restb8
    case hyb8 =>
      intro w hSw
      clear hSw
      go_simp
      first | done | with_reducible rfl
    (try simp only [List.getElem_toArray, List.getElem_cons_succ, List.getElem_cons_zero, Act.put, List.setIfInBounds_toArray, List.set_cons_zero, List.set_cons_succ])
    refine wpAnyH_take (i := 9) (v := ?vb9) rfl (by kernel_rfl) (by kernel_rfl) (by kernel_rfl) (fun _ _ _ h => h) (Or.inl ⟨by kernel_rfl, ?hyb9⟩) hS1 ?restb9
    case hyb9 =>
      intro w hSw
      clear hSw
      go_simp
      first | done | with_reducible rfl
    (try simp only [List.getElem_toArray, List.getElem_cons_succ, List.getElem_cons_zero, Act.put, List.setIfInBounds_toArray, List.set_cons_zero, List.set_cons_succ])
    refine wpAnyH_take (i := 10) (v := ?vb10) rfl (by kernel_rfl) (by kernel_rfl) (by kernel_rfl) (fun _ _ _ h => h) (Or.inl ⟨by kernel_rfl, ?hyb10⟩) hS1 ?restb10
    case hyb10 =>
      intro w hSw
      clear hSw
      go_simp
      first | done | with_reducible rfl
    (try simp only [List.getElem_toArray, List.getElem_cons_succ, List.getElem_cons_zero, Act.put, List.setIfInBounds_toArray, List.set_cons_zero, List.set_cons_succ])
    refine wpAnyH_take (i := 11) (v := ?vb11) rfl (by kernel_rfl) (by kernel_rfl) (by kernel_rfl) (fun _ _ _ h => h) (Or.inl ⟨by kernel_rfl, ?hyb11⟩) hS1 ?restb11
    case hyb11 =>
      intro w hSw
      obtain ⟨hSa, hSb⟩ := hSw
      go_simp
      first | done | with_reducible rfl
    (try simp only [List.getElem_toArray, List.getElem_cons_succ, List.getElem_cons_zero, Act.put, List.setIfInBounds_toArray, List.set_cons_zero, List.set_cons_succ])
    refine wpAnyH_call (i := 2) (by kernel_rfl) rfl (by kernel_rfl) fun K hK => ?_
    simp only [List.getElem_toArray, List.getElem_cons_succ, List.getElem_cons_zero]
    go_simp
    have hS2 : (fun W' : World => (∀ i, W'.cell? ⟨G, i, none⟩ = (#[.slice A4 16 c4, .slice none 0 0, .map (some w1.heap.size)] : Array Value)[i]?) ∧ (∀ i, W'.cell? ⟨H, i, none⟩ = (#[.slice A7 40 c7] : Array Value)[i]?)) (w7.alloc (.cells Z 5)).drew := ⟨(hBG.alloc _).drew.cell, (hBH.alloc _).drew.cell⟩
    refine hK.out _ _ hS2 ?_
    clear hK K
    (try simp only [List.getElem_toArray, List.getElem_cons_succ, List.getElem_cons_zero, Act.put, List.setIfInBounds_toArray, List.set_cons_zero, List.set_cons_succ])
    refine wpAnyH_call (i := 12) (by kernel_rfl) rfl (by kernel_rfl) fun K hK => ?_
    simp only [List.getElem_toArray, List.getElem_cons_succ, List.getElem_cons_zero]
    go_simp
    have hS3 : (fun W' : World => (∀ i, W'.cell? ⟨G, i, none⟩ = (#[.slice A4 16 c4, .slice none 0 0, .map (some w1.heap.size)] : Array Value)[i]?) ∧ (∀ i, W'.cell? ⟨H, i, none⟩ = (#[.slice A7 40 c7] : Array Value)[i]?)) ((w7.alloc (.cells Z 5)).alloc (.cells #[.slice A7 40 c7, .slice (some ⟨w7.heap.size, 0, none⟩) 16 16, .slice A4 16 c4, .slice none 0 0] 28)).drew := ⟨((hBG.alloc _).alloc _).drew.cell, ((hBH.alloc _).alloc _).drew.cell⟩
    refine hK.out _ _ hS3 ?_
    clear hK K
    (try simp only [List.getElem_toArray, List.getElem_cons_succ, List.getElem_cons_zero, Act.put, List.setIfInBounds_toArray, List.set_cons_zero, List.set_cons_succ])
    refine wpAnyH_call (i := 13) (by kernel_rfl) rfl (by kernel_rfl) fun K hK => ?_
    simp only [List.getElem_toArray, List.getElem_cons_succ, List.getElem_cons_zero]
    go_simp
    go_at_call 37
    refine HCat.out.mono ?_
    rintro e w8 ⟨A8, c8, rfl, hown10, hb10⟩
    have hS4 : (fun W' : World => (∀ i, W'.cell? ⟨G, i, none⟩ = (#[.slice A4 16 c4, .slice none 0 0, .map (some w1.heap.size)] : Array Value)[i]?) ∧ (∀ i, W'.cell? ⟨H, i, none⟩ = (#[.slice A7 40 c7] : Array Value)[i]?)) w8 := ⟨(hBG.kept hb10).cell, (hBH.kept hb10).cell⟩
    refine hK.out _ _ hS4 ?_
    clear hK K
    (try simp only [List.getElem_toArray, List.getElem_cons_succ, List.getElem_cons_zero, Act.put, List.setIfInBounds_toArray, List.set_cons_zero, List.set_cons_succ])
    refine wpAnyH_take (i := 14) (v := ?vb14) rfl (by kernel_rfl) (by kernel_rfl) (by kernel_rfl) (fun _ _ _ h => h) (Or.inl ⟨by kernel_rfl, ?hyb14⟩) hS4 ?restb14
    case hyb14 =>
      intro w hSw
      clear hSw
      go_simp
      first | done | with_reducible rfl
    (try simp only [List.getElem_toArray, List.getElem_cons_succ, List.getElem_cons_zero, Act.put, List.setIfInBounds_toArray, List.set_cons_zero, List.set_cons_succ])
    refine wpAnyH_take (i := 15) (v := ?vb15) rfl (by kernel_rfl) (by kernel_rfl) (by kernel_rfl) (fun _ _ _ h => h) (Or.inl ⟨by kernel_rfl, ?hyb15⟩) hS4 ?restb15
    case hyb15 =>
      intro w hSw
      clear hSw
      go_simp
      first | done | with_reducible rfl
    (try simp only [List.getElem_toArray, List.getElem_cons_succ, List.getElem_cons_zero, Act.put, List.setIfInBounds_toArray, List.set_cons_zero, List.set_cons_succ])
    refine wpAnyH_done (by kernel_rfl) ?_ _
    clear hS1 hS2 hS3 hS4
    have HO := Lib.hid hown10
    have HB := Lib.hid hb10
    clear hown10 hb10
    go_wp2_with fail
    exact bodyPost_ret (v := .tuple #[.slice A8 72 c8, .int .i64 0]) (by simp [results, Try.results15, go_sem]) rfl ⟨A8, c8, rfl, HO.out.mono hb9.size, hb9.trans (HB.out.mono hb9.size)⟩
end Go.Proofs.Ytnkpaockginooaa
