/- Chapter 3: a hash that is made, written to, told, cloned: walked. -/
import Derived.Test.YtjcklmhkdpbbdaaDoorShaO
namespace Go.Proofs.YtjcklmhkdpbbdaaDoor
set_option linter.unusedVariables false
set_option linter.unusedSimpArgs false
open Go.RowKit Go.Sort Go.ChangeShapes

/-- Block g holds a hash that has taken l in. -/
def HashAt (w : World) (g : Nat) (l : List Int) : Prop := 2 ≤ g ∧ ∃ h sm, Rep vI l h sm ∧ Blk w g 49 (stCs h sm (l.length : Int) ++ [Value.int .i64 1]).toArray
theorem HashAt.same {w w' : World} {g : Nat} {l : List Int} (h : HashAt w g l) (e : w'.heap[g]? = w.heap[g]?) : HashAt w' g l := by
  obtain ⟨h2, a, b, c, d⟩ := h
  exact ⟨h2, a, b, c, d.same e⟩
theorem HashAt.kept {w w' : World} {g : Nat} {l : List Int} (h : HashAt w g l) (hb : Below w.heap.size w w') : HashAt w' g l := by
  obtain ⟨h2, a, b, c, d⟩ := h
  exact ⟨h2, a, b, c, d.kept hb⟩
theorem HashAt.lt {w : World} {g : Nat} {l : List Int} (h : HashAt w g l) : g < w.heap.size := by
  obtain ⟨h2, a, b, c, d⟩ := h
  exact d.lt
theorem stCs_made {h : V8} {sm : List Int} {n : Int} {x : Value} (hl : sm.length = 64) : (stCs h sm n ++ [x]).toArray[73]? = some x := by
  have hl2 : (stCs h sm n).length = 73 := by have := stCs_len (h := h) (n := n) (tl := []) hl; simpa using this
  rw [List.getElem?_toArray, List.getElem?_append_right (by omega), hl2]
  rfl
theorem HashAt.c73 {w : World} {g : Nat} {l : List Int} (h : HashAt w g l) : w.cell? ⟨g, 73, none⟩ = some (.int .i64 1) := by
  obtain ⟨h2, a, b, c, d⟩ := h
  exact (d.cell 73).trans (stCs_made c.ln)
theorem HashAt.c72 {w : World} {g : Nat} {l : List Int} (h : HashAt w g l) : w.cell? ⟨g, 72, none⟩ = some (.int .u64 (l.length : Int)) := by
  obtain ⟨h2, a, b, c, d⟩ := h
  exact (d.cell 72).trans (stCs_n c.ln)
theorem hok_yes (g : Nat) (w : World) (hc : w.cell? ⟨g, 73, none⟩ = some (.int .i64 1)) :
    Calls Tryd.prog 59 #[.pointer (some ⟨g, 0, none⟩)] w fun e w' => e = .returned (.bool true) ∧ w = w' := by
  go_enter Tryd.func59, Tryd.ntmps59
  go_wp2
  go_ret
  exact ⟨rfl, rfl⟩
theorem hok_zero (g : Nat) (w : World) (hc : w.cell? ⟨g, 73, none⟩ = some (.int .i64 0)) :
    Calls Tryd.prog 59 #[.pointer (some ⟨g, 0, none⟩)] w fun e w' => e = .returned (.bool false) ∧ w = w' := by
  go_enter Tryd.func59, Tryd.ntmps59
  go_wp2
  go_ret
  exact ⟨rfl, rfl⟩
theorem hok_nil (w : World) :
    Calls Tryd.prog 59 #[.pointer none] w fun e w' => e = .returned (.bool false) ∧ w = w' := by
  go_enter Tryd.func59, Tryd.ntmps59
  go_wp2
  go_ret
  exact ⟨rfl, rfl⟩
theorem hlen_yes (g : Nat) (l : List Int) (w : World) (h : HashAt w g l) :
    Calls Tryd.prog 26 #[.pointer (some ⟨g, 0, none⟩)] w fun e w' => e = .returned (.int .u64 (l.length : Int)) ∧ w = w' := by
  have c73 := h.c73
  have c72 := h.c72
  clear h
  generalize (l.length : Int) = n at *
  go_enter Tryd.func26, Tryd.ntmps26
  go_wp2_with (go_at_call 59; refine (hok_yes g _ c73).mono ?_; rintro e w1 ⟨rfl, rfl⟩)
  go_ret
  exact ⟨rfl, rfl⟩
theorem hlen_zero (g : Nat) (w : World) (hc : w.cell? ⟨g, 73, none⟩ = some (.int .i64 0)) :
    Calls Tryd.prog 26 #[.pointer (some ⟨g, 0, none⟩)] w fun e w' => e = .returned (.int .u64 0) ∧ w = w' := by
  go_enter Tryd.func26, Tryd.ntmps26
  go_wp2_with (go_at_call 59; refine (hok_zero g _ hc).mono ?_; rintro e w1 ⟨rfl, rfl⟩)
  go_ret
  exact ⟨rfl, rfl⟩
theorem hclone_zero (g : Nat) (w : World) (hc : w.cell? ⟨g, 73, none⟩ = some (.int .i64 0)) :
    Calls Tryd.prog 27 #[.pointer (some ⟨g, 0, none⟩)] w fun e w' => e = .returned (.pointer none) ∧ w = w' := by
  go_enter Tryd.func27, Tryd.ntmps27
  go_wp2_with (go_at_call 59; refine (hok_zero g _ hc).mono ?_; rintro e w1 ⟨rfl, rfl⟩)
  go_ret
  exact ⟨rfl, rfl⟩
theorem hclone_nil (w : World) :
    Calls Tryd.prog 27 #[.pointer none] w fun e w' => e = .returned (.pointer none) ∧ w = w' := by
  go_enter Tryd.func27, Tryd.ntmps27
  go_wp2_with (go_at_call 59; refine (hok_nil _).mono ?_; rintro e w1 ⟨rfl, rfl⟩)
  go_ret
  exact ⟨rfl, rfl⟩
theorem hwrite_zero (g : Nat) (w : World) (v : Value) (hc : w.cell? ⟨g, 73, none⟩ = some (.int .i64 0)) :
    Calls Tryd.prog 24 #[.pointer (some ⟨g, 0, none⟩), v] w fun e w' => e = .returned (.tuple #[]) ∧ w = w' := by
  go_enter Tryd.func24, Tryd.ntmps24
  go_wp2_with (go_at_call 59; refine (hok_zero g _ hc).mono ?_; rintro e w1 ⟨rfl, rfl⟩)
  exact bodyPost_end (results_none rfl _ _ _) rfl ⟨rfl, rfl⟩
theorem hwrite_nil (w : World) (v : Value) :
    Calls Tryd.prog 24 #[.pointer none, v] w fun e w' => e = .returned (.tuple #[]) ∧ w = w' := by
  go_enter Tryd.func24, Tryd.ntmps24
  go_wp2_with (go_at_call 59; refine (hok_nil _).mono ?_; rintro e w1 ⟨rfl, rfl⟩)
  exact bodyPost_end (results_none rfl _ _ _) rfl ⟨rfl, rfl⟩
theorem hwrite_yes (g : Nat) (l b : List Int) (A : Option Addr) (m c : Nat) (w : World) (h : HashAt w g l) (hsz : l.length + m ≤ 100000000000) (hT : Tabs w)
    (hl : b.length = m) (hok : BytesOk b) (hr : Rd w w.heap.size 1 A m (b.flatMap encB)) (hne : 0 < m → ∀ ad, A = some ad → ad.block ≠ g) (hmc : m ≤ c) :
    Calls Tryd.prog 24 #[.pointer (some ⟨g, 0, none⟩), .slice A m c] w fun e w' => e = .returned (.tuple #[]) ∧ HashAt w' g (l ++ b) ∧ Near (fun i => i = g) w w' := by
  have c73 := h.c73
  obtain ⟨hg, a, sm, hR, hB⟩ := h
  have HW := Lib.hid (write_any vI g 49 [.int .i64 1] a sm l b A m c w hR (by omega) hT hg hB hl hok hr hne hmc)
  have HC : Hid (∀ h' sm' w', Rep vI (l ++ b) h' sm' → Blk w' g 49 (stCs h' sm' ((l.length + m : Nat) : Int) ++ [Value.int .i64 1]).toArray → HashAt w' g (l ++ b)) := Lib.hid fun h' sm' w' a b' => ⟨hg, h', sm', a, by rw [List.length_append, hl]; exact b'⟩
  clear hR hB hsz hT hg hl hok hr hne hmc
  go_enter Tryd.func24, Tryd.ntmps24
  go_wp2_with (first
    | (go_at_call 59; refine (hok_yes g _ c73).mono ?_; rintro e w1 ⟨rfl, rfl⟩)
    | (go_at_call 51; refine HW.out.mono ?_; rintro e w1 ⟨rfl, h', sm', h1, h2, h3⟩))
  exact bodyPost_end (results_none rfl _ _ _) rfl ⟨rfl, HC.out _ _ _ h1 h2, h3⟩
def hs0 : List Value := st0 ++ [Value.int .i64 1]
theorem build_hs0 (w : World) : (Instr.build 49 #[(0, .agg st0.toArray), (1, .int .i64 1)]).run Tryd.prog w = .ok (.agg hs0.toArray) w := run_build w _ _ _ (by kernel_rfl)
set_option maxRecDepth 100000 in
theorem hnew_any (w : World) (hT : Tabs w) :
    Calls Tryd.prog 23 #[] w fun e w' => e = .returned (.pointer (some ⟨w.heap.size, 0, none⟩)) ∧ HashAt w' w.heap.size [] ∧ Below w.heap.size w w' := by
  have hs2 := hT.size
  have HF := Lib.hid hT.rangeF
  have HB := Lib.hid (build_st0 w)
  have HB2 := Lib.hid (build_hs0 w)
  have HE : Hid (HashAt (w.alloc (.cells hs0.toArray 49)) w.heap.size [] ∧ RowKit.Below w.heap.size w (w.alloc (.cells hs0.toArray 49))) := Lib.hid
    ⟨⟨hs2, vI, List.replicate 64 0, Rep.nil vI (by simp) (fun x hx => by rw [List.eq_of_mem_replicate hx]; decide), Blk.new _ _ _⟩, bal (Below.refl _ _) _⟩
  have hCl : vI.cs.length = 8 := rfl
  obtain ⟨S0, hS0⟩ : ∃ x, st0 = x := ⟨_, rfl⟩
  obtain ⟨S1, hS1⟩ : ∃ x, hs0 = x := ⟨_, rfl⟩
  obtain ⟨C0, hC0⟩ : ∃ x, vI.cs = x := ⟨_, rfl⟩
  have hsz : hs0.toArray.size = 74 := by simp [hs0, st0_len]
  rw [hS0] at HB HB2
  rw [hS1] at HE HB2 hsz
  rw [hC0] at HB HF hCl
  have HCl := Lib.hid hCl
  clear hT hS0 hS1 hC0 hCl
  go_enter Tryd.func23, Tryd.ntmps23
  go_upto_region 1 with (fail)
  refine wp_region_lit ?_
  refine wpList_load_mid rfl 35 (.global 0) rfl 0 0 (by rfl) C0 _ HF.out Tryd.underlying35 rfl (by rw [HCl.out]; kernel_rfl) ?_
  refine wpList_built rfl 47 #[(0, .tmp 1)] rfl (vals := #[(0, .agg C0.toArray)]) (by go_simp) HB.out ?_
  refine wpList_built rfl 49 #[(0, .tmp 2), (1, .const (.int .i64 1))] rfl (vals := #[(0, .agg S0.toArray), (1, .int .i64 1)]) (by go_simp) HB2.out ?_
  go_wp2
  go_ret
  exact ⟨rfl, HE.out⟩
theorem build_node0 (w : World) : (Instr.build 26 #[]).run Tryd.prog w = .ok (.agg (Array.replicate 32 (.int .u8 0))) w := run_build w _ _ _ (by kernel_rfl)
set_option maxRecDepth 100000 in
theorem hsum_nil (w : World) :
    Calls Tryd.prog 25 #[.pointer none] w fun e w' => e = .returned (.agg ((List.replicate 32 (0 : Int)).flatMap encB).toArray) ∧ Below w.heap.size w w' := by
  have hzn := (zero_of_info info_node).1
  have HBu := Lib.hid (fun W => build_node0 W)
  have HB := Lib.hid (Blk.new w 26 (Array.replicate 32 (.int .u8 0)))
  have Hb := Lib.hid (bal (Below.refl w.heap.size w) (.cells (Array.replicate 32 (.int .u8 0)) 26))
  have HZ := Lib.hid (show (Array.replicate 32 (Value.int .u8 0)) = ((List.replicate 32 (0 : Int)).flatMap encB).toArray by kernel_rfl)
  obtain ⟨ob, hob⟩ : ∃ x, List.replicate 32 (0 : Int) = x := ⟨_, rfl⟩
  have HOl := Lib.hid (show ob.length = 32 by rw [← hob]; simp)
  rw [hob] at HZ ⊢
  have HLn := Lib.hid (show (ob.flatMap encB).length = 32 by rw [flatB_len, HOl.out])
  rw [HZ.out] at HBu
  clear hob
  go_enter Tryd.func25, Tryd.ntmps25
  go_upto_region 2 with (go_at_call 59; refine (hok_nil _).mono ?_; rintro e w1 ⟨rfl, rfl⟩)
  refine wp_region_lit ?_
  refine wpList_built rfl 26 #[] rfl (vals := #[]) (by simp) (HBu.out _) ?_
  go_wp2_with (refine wpList_store_node rfl (.tmp 2) (.tmp 7) rfl w.heap.size ob HOl.out (by rfl) (by rfl) HB.out (by simp) ?_; intro w6 hB6 hbl6 hz6 hh6)
  exact bodyPost_ret (res_cell1 rfl (b := w.heap.size) (o := 0) (cs := ob.flatMap encB) rfl hB6.range Tryd.underlying26 rfl (by rw [HLn.out]; kernel_rfl)) rfl ⟨rfl, Hb.out.trans (hbl6 _ (Nat.le_refl _))⟩
theorem HashAt.rangeSt {w : World} {g : Nat} {l : List Int} {h : V8} {sm : List Int} {x : List Value} (hB : Blk w g 49 (stCs h sm (l.length : Int) ++ x).toArray) : w.rangeAt g 0 (stCs h sm (l.length : Int)) := by
  intro j u hu
  rw [Nat.zero_add, hB.cell j, List.getElem?_toArray, List.getElem?_append_left (List.getElem?_eq_some_iff.1 hu).1]
  exact hu
theorem stCs_one {h : V8} {sm : List Int} {n : Int} : ∀ u ∈ stCs h sm n, u.oneCell' = true := by
  intro u hu
  unfold stCs at hu
  rcases List.mem_append.1 hu with hu | hu
  · exact V8.one h u hu
  · rcases List.mem_append.1 hu with hu | hu
    · exact one_b sm u hu
    · obtain rfl := List.mem_singleton.1 hu; rfl
set_option maxRecDepth 100000 in
set_option maxHeartbeats 2000000 in
theorem hsum_yes (g : Nat) (l : List Int) (w : World) (h : HashAt w g l) (hsz : l.length ≤ 100000000000) (hT : Tabs w) :
    Calls Tryd.prog 25 #[.pointer (some ⟨g, 0, none⟩)] w fun e w' => e = .returned (.agg ((sumB l).flatMap encB).toArray) ∧ Below w.heap.size w w' := by
  have c73 := h.c73
  have hgl := h.lt
  obtain ⟨hg, a, sm, hR, hB⟩ := h
  have hzn := (zero_of_info info_node).1
  obtain ⟨Z0, hZs, hz0⟩ : ∃ Z0 : Array Value, Z0.size = 73 ∧ ∀ w, (zeroValue 47).run Tryd.prog w = .ok (.agg Z0) w := ⟨_, by simp, (zero_of_info info_st0).1⟩
  have hcl : (stCs a sm (l.length : Int)).length = 73 := by have := stCs_len (h := a) (n := (l.length : Int)) (tl := []) hR.ln; simpa using this
  have hst := store_new (P := Tryd.prog) (T := 47) (s := 73) (Z := Z0) hZs (by kernel_rfl) hcl (stCs_one (h := a) (sm := sm) (n := (l.length : Int))) (w.alloc (.cells (Array.replicate 32 (.int .u8 0)) 26))
  rw [World.size_alloc] at hst
  have hb0 := bal (Below.refl w.heap.size w) (.cells (Array.replicate 32 (.int .u8 0)) 26)
  have hb1 := bal' hb0 (.cells (stCs a sm (l.length : Int)).toArray 47) hb0.size
  have HF := Lib.hid (HashAt.rangeSt (hB.kept hb0))
  have HN := Lib.hid ((Blk.new w 26 (Array.replicate 32 (.int .u8 0))).alloc (.cells (stCs a sm (l.length : Int)).toArray 47))
  have HE := Lib.hid (end_any vI (w.heap.size + 1) 47 [] a sm l ((w.alloc (.cells (Array.replicate 32 (.int .u8 0)) 26)).alloc (.cells (stCs a sm (l.length : Int)).toArray 47)) hR (by omega) (hT.kept hb1) (by omega) (by rw [List.append_nil]; exact Blk.fresh _ _ _))
  have Hb1 := Lib.hid hb1
  have HCl := Lib.hid hcl
  have hasz : (stCs a sm (l.length : Int)).toArray.size = 73 := by rw [List.size_toArray, hcl]
  generalize stCs a sm (l.length : Int) = C0 at *
  obtain ⟨ob, hob⟩ : ∃ x, outB (sumV vI l) = x := ⟨_, rfl⟩
  have HOl := Lib.hid (show ob.length = 32 by rw [← hob]; exact outB_len _)
  have HLn := Lib.hid (show (ob.flatMap encB).length = 32 by rw [flatB_len, HOl.out])
  have HOb := Lib.hid (show sumB l = ob from hob)
  rw [hob] at HE
  clear hob hR hB hb0 hb1 hT hcl
  go_enter Tryd.func25, Tryd.ntmps25
  go_upto_region 3 with (go_at_call 59; refine (hok_yes g _ (by first | exact c73 | (rw [World.cell?_alloc_lt _ _ _ (by simpa using hgl)]; exact c73))).mono ?_; rintro e w1 ⟨rfl, rfl⟩)
  go_wp2_with (first
    | (refine wpList_load_mid rfl 47 (.tmp 10) rfl g 0 (by rfl) C0 _ HF.out Tryd.underlying47 rfl (by rw [HCl.out]; kernel_rfl) ?_)
    | (go_at_call 52; refine HE.out.mono ?_; rintro e w2 ⟨rfl, hn2⟩; have hZ2 := HN.out.same (hn2.block _ HN.out.lt (by omega)))
    | (refine wpList_store_node rfl (.tmp 2) (.tmp 12) rfl w.heap.size ob HOl.out (by rfl) (by rfl) hZ2 (by simp) ?_; intro w6 hB6 hbl6 hz6 hh6))
  have hbw : RowKit.Below w.heap.size w w2 := (Near.of_below (fun i => i = w.heap.size + 1) Hb1.out).trans hn2 |>.below (fun i hi => by omega) (Nat.le_refl _)
  exact bodyPost_ret (res_cell1 rfl (b := w.heap.size) (o := 0) (cs := ob.flatMap encB) rfl hB6.range Tryd.underlying26 rfl (by rw [HLn.out]; kernel_rfl)) rfl ⟨by rw [HOb.out], hbw.trans (hbl6 _ (Nat.le_refl _))⟩
theorem info_h0 : (Tryd.prog.info? 49).map (fun i => (i.zero, i.size)) = some (some (.agg (Array.replicate 8 (.int .u32 0) ++ Array.replicate 64 (.int .u8 0) ++ #[.int .u64 0, .int .i64 0])), 74) := by kernel_rfl
set_option maxRecDepth 100000 in
set_option maxHeartbeats 2000000 in
theorem hclone_yes (g : Nat) (l : List Int) (w : World) (h : HashAt w g l) :
    Calls Tryd.prog 27 #[.pointer (some ⟨g, 0, none⟩)] w fun e w' => e = .returned (.pointer (some ⟨w.heap.size, 0, none⟩)) ∧ HashAt w' w.heap.size l ∧ Below w.heap.size w w' := by
  have c73 := h.c73
  have hgl := h.lt
  obtain ⟨hg, a, sm, hR, hB⟩ := h
  obtain ⟨Z0, hZs, hz0⟩ : ∃ Z0 : Array Value, Z0.size = 74 ∧ ∀ w, (zeroValue 49).run Tryd.prog w = .ok (.agg Z0) w := ⟨_, by simp, (zero_of_info info_h0).1⟩
  have hcl : (stCs a sm (l.length : Int) ++ [Value.int .i64 1]).length = 74 := stCs_len hR.ln
  have hst := store_new (P := Tryd.prog) (T := 49) (s := 74) (Z := Z0) hZs (by kernel_rfl) hcl (fun u hu => (List.mem_append.1 hu).elim (stCs_one (h := a) (sm := sm) (n := (l.length : Int)) u) (fun hu => by obtain rfl := List.mem_singleton.1 hu; rfl)) w
  have HF := Lib.hid hB.range
  have HR : Hid (HashAt (w.alloc (.cells (stCs a sm (l.length : Int) ++ [Value.int .i64 1]).toArray 49)) w.heap.size l ∧ RowKit.Below w.heap.size w (w.alloc (.cells (stCs a sm (l.length : Int) ++ [Value.int .i64 1]).toArray 49))) := Lib.hid ⟨⟨by omega, a, sm, hR, Blk.new _ _ _⟩, bal (Below.refl _ _) _⟩
  have HCl := Lib.hid hcl
  have hasz : (stCs a sm (l.length : Int) ++ [Value.int .i64 1]).toArray.size = 74 := by rw [List.size_toArray, hcl]
  generalize stCs a sm (l.length : Int) ++ [Value.int .i64 1] = C0 at *
  clear hR hB hcl
  go_enter Tryd.func27, Tryd.ntmps27
  go_wp2_with (first
    | (go_at_call 59; refine (hok_yes g _ c73).mono ?_; rintro e w1 ⟨rfl, rfl⟩)
    | (refine wpList_load_mid rfl 49 (.tmp 8) rfl g 0 (by rfl) C0 _ HF.out Tryd.underlying49 rfl (by rw [HCl.out]; kernel_rfl) ?_))
  go_ret
  exact ⟨rfl, HR.out⟩
end Go.Proofs.YtjcklmhkdpbbdaaDoor
