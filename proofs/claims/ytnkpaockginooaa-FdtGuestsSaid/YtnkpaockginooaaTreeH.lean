/- Device trees: a node without properties and kids put; walked. -/
import Derived.Test.YtnkpaockginooaaTreeF
import Derived.Deep.Onto
namespace Go.Proofs.Ytnkpaockginooaa
set_option linter.unusedVariables false
set_option linter.unusedSimpArgs false
open Go.RowKit Go.Sort
theorem wpOp_do {P : Program} {ops : Array Oper} {Q : Exit → Act → World → Prop} {md : Region.Mode} {S : World → Prop} {i : Nat} {o : Oper} {f : Nat} {listed : Array Bool} {a : Act} {w : World} (ho : ops[i]? = some o) (hw : Region.wanted o (yielded ops a.tmps) = true)
    (h : ∀ K : Act → World → Prop, Hid (∀ a' w', S w' → wpAnyH P md ops Q S f (listed.setIfInBounds i true) a' w' → K a' w') → o.wp P a w K Q) : wpOp P ops Q i (fun a' w' => S w' ∧ wpAnyH P md ops Q S f (listed.setIfInBounds i true) a' w') a w := by
  unfold wpOp
  rw [ho]
  simp only [hw, if_true]
  exact .inl (h _ (Lib.hid fun a' w' h1 h2 => ⟨h1, h2⟩))

theorem StrRow.low {w : World} {base base' g cap n : Nat} {bs : List Int} (h : StrRow w base g cap n bs) (hb : base' ≤ base) : StrRow w base' g cap n bs := by
  obtain ⟨cur, fz, h1, h2, h3, h4, h5, h6, h7, h8⟩ := h
  exact ⟨cur, fz, h1, h2, h3, h4, h5, h6, h7, by omega⟩
/-- The bytes of such a node. -/
def node0 (nm : ByteArray) : List Int := fillN ([0, 0, 0, 1] ++ (strB nm ++ [0])) ++ [0, 0, 0, 2]
theorem be1 : ([1] : List Int).flatMap (bytesN 4 false) = [0, 0, 0, 1] := by decide +kernel
theorem be2 : ([2] : List Int).flatMap (bytesN 4 false) = [0, 0, 0, 2] := by decide +kernel
set_option maxRecDepth 100000 in
set_option maxHeartbeats 2000000 in
theorem node0_any (g : Nat) (nm : ByteArray) (T M : Value) (w : World) (hB : Blk w g 70 #[.slice none 0 0, T, M]) (hnm : nm.size ≤ 1000) :
    Calls Try.prog 35 #[.pointer (some ⟨g, 0, none⟩), .agg #[.string nm, .slice none 0 0, .slice none 0 0]] w fun e w' => e = .returned (.tuple #[]) ∧ ∃ A c, Blk w' g 70 #[.slice A (node0 nm).length c, T, M] ∧
      w'.ownsRow w.heap.size 5 1 (.slice A (node0 nm).length c) (node0 nm).length ((node0 nm).flatMap encB) ∧ Near (fun i => i = g) w w' := by
  have hlt := hB.lt
  have HB := Lib.hid hB
  have hnm2 : nm.size ≤ 50000000 := by omega
  have hb0 := bal (bal (Below.refl w.heap.size w) (.cells #[.string nm, .slice none 0 0, .slice none 0 0] 25)) (.cells #[.int .u32 1] 44)
  have HF := Lib.hid (four_any g 0 70 #[.slice none 0 0, T, M] none (some ⟨w.heap.size + 1, 0, none⟩) 0 0 1 1 [] [1] _ (hB.kept hb0) rfl rfl rfl (by decide) (by decide) (by decide) Rd.nil (Rd.fresh (w.alloc (.cells #[.string nm, .slice none 0 0, .slice none 0 0] 25)) #[.int .u32 1] 44 1 1 _ rfl))
  have HB0 := Lib.hid hb0
  clear hB hb0
  go_enter Try.func35, Try.ntmps35
  go_upto_region 2 with (go_at_call 36; refine HF.out.mono ?_; rintro e w1 ⟨rfl, A1, c1, hB1, hown1, hn1⟩)
  have hz1 := hn1.size
  simp only [World.size_alloc] at hz1
  have hB2 : Blk w1 g 70 #[.slice A1 4 c1, T, M] := hB1
  have hown2 : w1.ownsRow (w.heap.size + 2) 5 1 (.slice A1 4 c1) 4 (([0, 0, 0, 1] : List Int).flatMap encB) := by
    have := hown1
    rw [be1] at this
    simpa using this
  have hT2 : Blk w1 w.heap.size 25 #[.string nm, .slice none 0 0, .slice none 0 0] := ((Blk.new w _ _).alloc _).same (hn1.block _ (by simp; omega) (by omega))
  have hn2 : Near (fun i => i = g) w w1 := (Near.of_below (fun i => i = g) HB0.out).trans hn1
  have hz2 : w.heap.size + 2 ≤ w1.heap.size := by omega
  clear hB1 hown1 hn1 HF
  generalize hww : w1 = w2 at *
  clear hww
  have hS1 : (fun W' : World => ∀ i, W'.cell? ⟨w.heap.size, i, none⟩ = (#[.string nm, .slice none 0 0, .slice none 0 0] : Array Value)[i]?) w2.drew := hT2.drew.cell
  refine wp_region_held_drew (S := fun W' : World => ∀ i, W'.cell? ⟨w.heap.size, i, none⟩ = (#[.string nm, .slice none 0 0, .slice none 0 0] : Array Value)[i]?) (by kernel_rfl) hS1 (fun hHeld => ?_)
  clear hHeld
  refine wpAnyH_take (i := 0) (v := ?va0) rfl (by kernel_rfl) (by kernel_rfl) (by kernel_rfl) (fun _ _ _ h => h) (Or.inl ⟨by kernel_rfl, ?hya0⟩) hS1 ?resta0
  case hya0 =>
    intro w hSw
    clear hSw
    go_simp
    first | done | with_reducible rfl
  (try simp only [List.getElem_toArray, List.getElem_cons_succ, List.getElem_cons_zero, Act.put, List.setIfInBounds_toArray, List.set_cons_zero, List.set_cons_succ])
  refine wpAnyH_take (i := 1) (v := ?va1) rfl (by kernel_rfl) (by kernel_rfl) (by kernel_rfl) (fun _ _ _ h => h) (Or.inl ⟨by kernel_rfl, ?hya1⟩) hS1 ?resta1
  case hya1 =>
    intro w hSw
    clear hSw
    go_simp
    first | done | with_reducible rfl
  (try simp only [List.getElem_toArray, List.getElem_cons_succ, List.getElem_cons_zero, Act.put, List.setIfInBounds_toArray, List.set_cons_zero, List.set_cons_succ])
  refine wpAnyH_take (i := 2) (v := ?va2) rfl (by kernel_rfl) (by kernel_rfl) (by kernel_rfl) (fun _ _ _ h => h) (Or.inl ⟨by kernel_rfl, ?hya2⟩) hS1 ?resta2
  case hya2 =>
    intro w hSw
    clear hSw
    go_simp
    first | done | with_reducible rfl
  (try simp only [List.getElem_toArray, List.getElem_cons_succ, List.getElem_cons_zero, Act.put, List.setIfInBounds_toArray, List.set_cons_zero, List.set_cons_succ])
  refine wpAnyH_take (i := 3) (v := ?va3) rfl (by kernel_rfl) (by kernel_rfl) (by kernel_rfl) (fun _ _ _ h => h) (Or.inl ⟨by kernel_rfl, ?hya3⟩) hS1 ?resta3
  case hya3 =>
    intro w hSw
    clear hSw
    go_simp
    first | done | with_reducible rfl
  (try simp only [List.getElem_toArray, List.getElem_cons_succ, List.getElem_cons_zero, Act.put, List.setIfInBounds_toArray, List.set_cons_zero, List.set_cons_succ])
  refine wpAnyH_take (i := 4) (v := ?va4) rfl (by kernel_rfl) (by kernel_rfl) (by kernel_rfl) (fun _ _ _ h => h) (Or.inl ⟨by kernel_rfl, ?hya4⟩) hS1 ?resta4
  case hya4 =>
    intro w hSw
    (try dsimp only at hSw)
    go_simp
    first | done | with_reducible rfl
  (try simp only [List.getElem_toArray, List.getElem_cons_succ, List.getElem_cons_zero, Act.put, List.setIfInBounds_toArray, List.set_cons_zero, List.set_cons_succ])
  have hcv := fun W => (conv_row W nm (by unfold maxLen; omega)).1
  refine wpAnyH_all (rs := [5, 6]) (by kernel_rfl) (by simp) fun j hj => ?_
  have hj2 : j = 5 ∨ j = 6 := by simpa using hj
  clear hj
  rcases hj2 with rfl | rfl
  · refine wpOp_do rfl (by kernel_rfl) fun K hK => ?_
    simp only [List.getElem_toArray, List.getElem_cons_succ, List.getElem_cons_zero]
    go_simp
    obtain ⟨_, hrow5, hb5⟩ := conv_row w2.drew nm (by unfold maxLen; omega)
    have hb5' : Below w2.heap.size w2 (Lib.bytesWorld w2.drew 5 nm) := (Below.refl _ w2).drew.trans hb5
    have hS5 : (fun W' : World => ∀ i, W'.cell? ⟨w.heap.size, i, none⟩ = (#[.string nm, .slice none 0 0, .slice none 0 0] : Array Value)[i]?) (Lib.bytesWorld w2.drew 5 nm) := (hT2.kept hb5').cell
    refine hK.out _ _ hS5 ?_
    clear hK K
    (try simp only [List.getElem_toArray, List.getElem_cons_succ, List.getElem_cons_zero, Act.put, List.setIfInBounds_toArray, List.set_cons_zero, List.set_cons_succ])
    generalize hgc : grownCap w2.drew nm.size 0 5 = gc at *
    have hz5 := hb5'.size
    have hsz5 : (Lib.bytesWorld w2.drew 5 nm).heap.size = w2.heap.size + 1 := Lib.bytesWorld_size w2.drew 5 nm
    generalize Lib.bytesWorld w2.drew 5 nm = w5 at *
    refine wpAnyH_call (i := 6) (by kernel_rfl) rfl (by kernel_rfl) fun K hK => ?_
    simp only [List.getElem_toArray, List.getElem_cons_succ, List.getElem_cons_zero]
    go_simp
    have hx6 := bal (Below.refl w5.heap.size w5) (.cells #[.int .u8 0] 5)
    have hb6 := bal hb5' (.cells #[.int .u8 0] 5)
    have hsrc6 : (w5.alloc (.cells #[.int .u8 0] 5)).cell? ⟨w2.heap.size + 1, 0, none⟩ = some (.int .u8 0) := by
      rw [← hsz5]
      exact (Blk.new w5 5 #[.int .u8 0]).cell 0
    have hrow6 := hrow5.kept (w' := w5.alloc (.cells #[.int .u8 0] 5)) (hx6.block _ (by show w2.heap.size < _; omega))
    have hS6 : (fun W' : World => ∀ i, W'.cell? ⟨w.heap.size, i, none⟩ = (#[.string nm, .slice none 0 0, .slice none 0 0] : Array Value)[i]?) (w5.alloc (.cells #[.int .u8 0] 5)) := (hT2.kept hb6).cell
    refine hK.out _ _ hS6 ?_
    clear hK K
    (try simp only [List.getElem_toArray, List.getElem_cons_succ, List.getElem_cons_zero, Act.put, List.setIfInBounds_toArray, List.set_cons_zero, List.set_cons_succ])
    refine wpAnyH_call (i := 7) (by kernel_rfl) rfl (by kernel_rfl) fun K hK => ?_
    obtain ⟨A7, c7, w7, hr7, hc7a, hc7b, hrd7, hb7, _⟩ := run_app0 (w5.alloc (.cells #[.int .u8 0] 5)) 28 w2.heap.size w2.heap.size gc nm.size 1 ⟨w2.heap.size + 1, 0, none⟩ (strB nm) 0 hrow6 hsrc6 hnm2 hb6.size
    refine Lib.wp_append_run _ (.tmp 18) (.tmp 19) _ _ rfl (.slice (some ⟨w2.heap.size, 0, none⟩) nm.size gc) (.slice (some ⟨w2.heap.size + 1, 0, none⟩) 1 1) rfl rfl _ _ hr7 ?_
    have hb8 := hb6.trans hb7
    have hT7 := hT2.kept hb8
    have hS7 : (fun W' : World => ∀ i, W'.cell? ⟨w.heap.size, i, none⟩ = (#[.string nm, .slice none 0 0, .slice none 0 0] : Array Value)[i]?) w7 := hT7.cell
    refine hK.out _ _ hS7 ?_
    clear hK K
    (try simp only [List.getElem_toArray, List.getElem_cons_succ, List.getElem_cons_zero, Act.put, List.setIfInBounds_toArray, List.set_cons_zero, List.set_cons_succ])
    refine wpAnyH_call (i := 8) (by kernel_rfl) rfl (by kernel_rfl) fun K hK => ?_
    simp only [List.getElem_toArray, List.getElem_cons_succ, List.getElem_cons_zero]
    go_simp
    go_at_call 80
    refine (fill_any g 0 70 _ _ (w.heap.size + 2) 4 A7 (nm.size + 1) c7 [0, 0, 0, 1] (strB nm ++ [0]) _ (hB2.kept hb8) rfl (by decide) rfl (by simp [strB_len]) (by omega) (Nat.le_trans hz2 hb8.size) (own_kept hown2 hb8) (by simpa [strB_len] using hrd7)).mono ?_
    rintro e w9 ⟨rfl, v9, hB9, hown9, hn9⟩
    have hT9 := hT7.same (hn9.block _ hT7.lt (by omega))
    have hS9 : (fun W' : World => ∀ i, W'.cell? ⟨w.heap.size, i, none⟩ = (#[.string nm, .slice none 0 0, .slice none 0 0] : Array Value)[i]?) w9 := hT9.cell
    refine hK.out _ _ hS9 ?_
    clear hK K
    (try simp only [List.getElem_toArray, List.getElem_cons_succ, List.getElem_cons_zero, Act.put, List.setIfInBounds_toArray, List.set_cons_zero, List.set_cons_succ])
    refine wpAnyH_done (by kernel_rfl) ?_ _
    obtain ⟨A9, c9, rfl, _, _⟩ := own_slice hown9
    have hB10 : Blk w9 g 70 #[.slice A9 (fillN ([0, 0, 0, 1] ++ (strB nm ++ [0]))).length c9, T, M] := hB9
    have hnT : Near (fun i => i = g) w w9 := (hn2.trans ((Near.of_below (fun i => i = g) hb8))).step hn9 (fun i hi => by omega)
    have hz9 : w.heap.size + 2 ≤ w9.heap.size := by have := hn9.size; have := hb8.size; omega
    clear hB9 hn9 hS1 hS7 hS9 hT7 hb7 hb8 hr7 hrd7
    have HFl := Lib.hid (show (fillN ([0, 0, 0, 1] ++ (strB nm ++ [0]))).length ≤ 2000 by rw [fillN_len]; simp [strB_len]; omega)
    have HNd := Lib.hid (show node0 nm = fillN ([0, 0, 0, 1] ++ (strB nm ++ [0])) ++ [0, 0, 0, 2] from rfl)
    generalize fillN ([0, 0, 0, 1] ++ (strB nm ++ [0])) = F at *
    have HF2 := Lib.hid (fun W (hW : Below w9.heap.size w9 W) => four_any g 0 70 #[.slice A9 F.length c9, T, M] A9 (some ⟨W.heap.size, 0, none⟩) F.length c9 1 1 F [2] (W.alloc (.cells #[.int .u32 2] 44)) ((hB10.kept hW).alloc _) rfl rfl rfl (Nat.le_trans HFl.out (by decide)) (by decide) (by decide) (Rd.of_own ((own_kept hown9 hW).alloc _)) (Rd.fresh W #[.int .u32 2] 44 1 1 _ rfl))
    have hz10 := hB10.lt
    clear hown9 hB10
    have cT := hT9.cell
    go_wp2_with fail
    go_loopw [25] (fun i wr => i = .int .i64 0 ∧ Below w9.heap.size w9 wr) (fun i _ => 0)
    case atStart => exact ⟨rfl, Below.refl _ _⟩
    case round =>
      clear cT
      obtain ⟨rfl, hb⟩ := hrel
      have cT := (hT9.kept hb).cell
      go_wp2_with fail
      go_loopw [52] (fun i wr => i = .int .i64 0 ∧ Below w9.heap.size w9 wr) (fun i _ => 0)
      case atStart => exact ⟨rfl, hb⟩
      case round =>
        clear cT hb
        obtain ⟨rfl, hb⟩ := hrel
        have cT := (hT9.kept hb).cell
        go_wp2_with (go_at_call 36; refine (HF2.out _ hb).mono ?_; rintro e w10 ⟨rfl, A10, c10, hB11, hown11, hn11⟩)
        go_end0
        have hz11 := hb.size
        refine ⟨rfl, A10, c10, ?_, ?_, ?_⟩
        · rw [HNd.out]
          simpa using hB11
        · rw [HNd.out]
          have := hown11
          rw [be2] at this
          simpa using this.mono (show w.heap.size ≤ _ by simp; omega)
        · exact (hnT.trans (Near.of_below (fun i => i = g) (bal hb (.cells #[.int .u32 2] 44)))).trans hn11
  · refine wpOp_do rfl (by kernel_rfl) fun K hK => ?_
    simp only [List.getElem_toArray, List.getElem_cons_succ, List.getElem_cons_zero]
    go_simp
    have hb4 := (bal (Below.refl w2.heap.size w2) (.cells #[.int .u8 0] 5)).drew
    have hsrc4 := (Blk.new w2 5 #[.int .u8 0]).drew
    have hsz4 : (w2.alloc (.cells #[.int .u8 0] 5)).drew.heap.size = w2.heap.size + 1 := by simp
    have hS4 : (fun W' : World => ∀ i, W'.cell? ⟨w.heap.size, i, none⟩ = (#[.string nm, .slice none 0 0, .slice none 0 0] : Array Value)[i]?) (w2.alloc (.cells #[.int .u8 0] 5)).drew := (hT2.kept hb4).cell
    refine hK.out _ _ hS4 ?_
    clear hK K
    (try simp only [List.getElem_toArray, List.getElem_cons_succ, List.getElem_cons_zero, Act.put, List.setIfInBounds_toArray, List.set_cons_zero, List.set_cons_succ])
    generalize (w2.alloc (.cells #[.int .u8 0] 5)).drew = w4 at *
    refine wpAnyH_call (i := 5) (by kernel_rfl) rfl (by kernel_rfl) fun K hK => ?_
    simp only [List.getElem_toArray, List.getElem_cons_succ, List.getElem_cons_zero]
    go_simp
    obtain ⟨_, hrow5, hb5⟩ := conv_row w4 nm (by unfold maxLen; omega)
    have hb6 : Below w2.heap.size w2 (Lib.bytesWorld w4 5 nm) := hb4.trans (hb5.mono hb4.size)
    have hsrc6 : (Lib.bytesWorld w4 5 nm).cell? ⟨w2.heap.size, 0, none⟩ = some (.int .u8 0) := (hsrc4.kept hb5).cell 0
    have hrow6 := hrow5.low (show w2.heap.size ≤ w4.heap.size by omega)
    rw [hsz4] at hrow6
    have hS6 : (fun W' : World => ∀ i, W'.cell? ⟨w.heap.size, i, none⟩ = (#[.string nm, .slice none 0 0, .slice none 0 0] : Array Value)[i]?) (Lib.bytesWorld w4 5 nm) := (hT2.kept hb6).cell
    refine hK.out _ _ hS6 ?_
    clear hK K
    (try simp only [List.getElem_toArray, List.getElem_cons_succ, List.getElem_cons_zero, Act.put, List.setIfInBounds_toArray, List.set_cons_zero, List.set_cons_succ])
    generalize grownCap w4 nm.size 0 5 = gc at *
    generalize Lib.bytesWorld w4 5 nm = w6 at *
    refine wpAnyH_call (i := 7) (by kernel_rfl) rfl (by kernel_rfl) fun K hK => ?_
    obtain ⟨A7, c7, w7, hr7, hc7a, hc7b, hrd7, hb7, _⟩ := run_app0 w6 28 w2.heap.size (w2.heap.size + 1) gc nm.size 1 ⟨w2.heap.size, 0, none⟩ (strB nm) 0 hrow6 hsrc6 hnm2 hb6.size
    refine Lib.wp_append_run _ (.tmp 18) (.tmp 19) _ _ rfl (.slice (some ⟨(w2.heap.size + 1), 0, none⟩) nm.size gc) (.slice (some ⟨w2.heap.size, 0, none⟩) 1 1) rfl rfl _ _ hr7 ?_
    have hb8 := hb6.trans hb7
    have hT7 := hT2.kept hb8
    have hS7 : (fun W' : World => ∀ i, W'.cell? ⟨w.heap.size, i, none⟩ = (#[.string nm, .slice none 0 0, .slice none 0 0] : Array Value)[i]?) w7 := hT7.cell
    refine hK.out _ _ hS7 ?_
    clear hK K
    (try simp only [List.getElem_toArray, List.getElem_cons_succ, List.getElem_cons_zero, Act.put, List.setIfInBounds_toArray, List.set_cons_zero, List.set_cons_succ])
    refine wpAnyH_call (i := 8) (by kernel_rfl) rfl (by kernel_rfl) fun K hK => ?_
    simp only [List.getElem_toArray, List.getElem_cons_succ, List.getElem_cons_zero]
    go_simp
    go_at_call 80
    refine (fill_any g 0 70 _ _ (w.heap.size + 2) 4 A7 (nm.size + 1) c7 [0, 0, 0, 1] (strB nm ++ [0]) _ (hB2.kept hb8) rfl (by decide) rfl (by simp [strB_len]) (by omega) (Nat.le_trans hz2 hb8.size) (own_kept hown2 hb8) (by simpa [strB_len] using hrd7)).mono ?_
    rintro e w9 ⟨rfl, v9, hB9, hown9, hn9⟩
    have hT9 := hT7.same (hn9.block _ hT7.lt (by omega))
    have hS9 : (fun W' : World => ∀ i, W'.cell? ⟨w.heap.size, i, none⟩ = (#[.string nm, .slice none 0 0, .slice none 0 0] : Array Value)[i]?) w9 := hT9.cell
    refine hK.out _ _ hS9 ?_
    clear hK K
    (try simp only [List.getElem_toArray, List.getElem_cons_succ, List.getElem_cons_zero, Act.put, List.setIfInBounds_toArray, List.set_cons_zero, List.set_cons_succ])
    refine wpAnyH_done (by kernel_rfl) ?_ _
    obtain ⟨A9, c9, rfl, _, _⟩ := own_slice hown9
    have hB10 : Blk w9 g 70 #[.slice A9 (fillN ([0, 0, 0, 1] ++ (strB nm ++ [0]))).length c9, T, M] := hB9
    have hnT : Near (fun i => i = g) w w9 := (hn2.trans ((Near.of_below (fun i => i = g) hb8))).step hn9 (fun i hi => by omega)
    have hz9 : w.heap.size + 2 ≤ w9.heap.size := by have := hn9.size; have := hb8.size; omega
    clear hB9 hn9 hS1 hS7 hS9 hT7 hb7 hb8 hr7 hrd7
    have HFl := Lib.hid (show (fillN ([0, 0, 0, 1] ++ (strB nm ++ [0]))).length ≤ 2000 by rw [fillN_len]; simp [strB_len]; omega)
    have HNd := Lib.hid (show node0 nm = fillN ([0, 0, 0, 1] ++ (strB nm ++ [0])) ++ [0, 0, 0, 2] from rfl)
    generalize fillN ([0, 0, 0, 1] ++ (strB nm ++ [0])) = F at *
    have HF2 := Lib.hid (fun W (hW : Below w9.heap.size w9 W) => four_any g 0 70 #[.slice A9 F.length c9, T, M] A9 (some ⟨W.heap.size, 0, none⟩) F.length c9 1 1 F [2] (W.alloc (.cells #[.int .u32 2] 44)) ((hB10.kept hW).alloc _) rfl rfl rfl (Nat.le_trans HFl.out (by decide)) (by decide) (by decide) (Rd.of_own ((own_kept hown9 hW).alloc _)) (Rd.fresh W #[.int .u32 2] 44 1 1 _ rfl))
    have hz10 := hB10.lt
    clear hown9 hB10
    have cT := hT9.cell
    go_wp2_with fail
    go_loopw [25] (fun i wr => i = .int .i64 0 ∧ Below w9.heap.size w9 wr) (fun i _ => 0)
    case atStart => exact ⟨rfl, Below.refl _ _⟩
    case round =>
      clear cT
      obtain ⟨rfl, hb⟩ := hrel
      have cT := (hT9.kept hb).cell
      go_wp2_with fail
      go_loopw [52] (fun i wr => i = .int .i64 0 ∧ Below w9.heap.size w9 wr) (fun i _ => 0)
      case atStart => exact ⟨rfl, hb⟩
      case round =>
        clear cT hb
        obtain ⟨rfl, hb⟩ := hrel
        have cT := (hT9.kept hb).cell
        go_wp2_with (go_at_call 36; refine (HF2.out _ hb).mono ?_; rintro e w10 ⟨rfl, A10, c10, hB11, hown11, hn11⟩)
        go_end0
        have hz11 := hb.size
        refine ⟨rfl, A10, c10, ?_, ?_, ?_⟩
        · rw [HNd.out]
          simpa using hB11
        · rw [HNd.out]
          have := hown11
          rw [be2] at this
          simpa using this.mono (show w.heap.size ≤ _ by simp; omega)
        · exact (hnT.trans (Near.of_below (fun i => i = g) (bal hb (.cells #[.int .u32 2] 44)))).trans hn11
end Go.Proofs.Ytnkpaockginooaa
