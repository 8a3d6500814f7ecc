/- Chapter 25: a log that is made, added to, told: walked. -/
import Derived.Test.YtjcklmhkdpbbdaaDoorMeasY
import Derived.Lib.SliceRun
namespace Go.Proofs.YtjcklmhkdpbbdaaDoor
set_option linter.unusedVariables false
set_option linter.unusedSimpArgs false
open Go.RowKit Go.Sort


theorem one_rcs (l : List Rc) : ∀ u ∈ l.flatMap Rc.cs, u.oneCell' = true := by
  intro u hu; obtain ⟨x, _, hx⟩ := List.mem_flatMap.1 hu; exact Rc.one x u hx
set_option maxHeartbeats 1000000 in
theorem clone_rec (A : Option Addr) (n c : Nat) (xs : List Value) (w : World) (hr : Rd w w.heap.size 35 A n xs) (h1 : ∀ u ∈ xs, u.oneCell' = true) (hn : n ≤ 1000) :
    Calls Tryd.prog 62 #[.slice A n c] w fun e w' => ∃ v', e = .returned v' ∧ w'.ownsRow w.heap.size 61 35 v' n xs ∧ Below w.heap.size w w' := by
  have q : ∀ (w : World) (a : Option Addr) (n c n' c' : Nat), (binOp .eql 51 (.slice a n c) (.slice none n' c')).run Tryd.prog w = .ok (.bool a.isNone) w := fun w a n c n' c' => Lib.run_eql_slice_nil w _ _ a n c n' c' Tryd.underlying51
  rcases A with _ | ad
  · have h0 : n = 0 := by
      rcases Nat.eq_zero_or_pos n with h | h
      · exact h
      · obtain ⟨b, off, h, _⟩ := hr.2 h; cases h
    subst h0
    have hx : xs = [] := List.eq_nil_of_length_eq_zero (by simpa using hr.1)
    subst hx
    clear hr h1
    go_enter Tryd.func62, Tryd.ntmps62
    go_wp2
    go_ret
    exact ⟨_, rfl, World.ownsRow_nil _ _ _ _, Below.refl _ _⟩
  · have hnm : 0 + n ≤ maxLen := by unfold maxLen; omega
    go_enter Tryd.func62, Tryd.ntmps62
    go_wp2_with (at_builtin; refine wpList_app rec_elem rfl (.tmp 5) (.tmp 6) rfl w.heap.size (World.ownsRow_made w #[] 0 (Nat.le_refl _) (Nat.zero_le _) rfl) rfl rfl (hr.alloc (Nat.le_refl _) _) h1 hnm (by omega) (by simp) ?_; intro v1 w1 hown hb1 _)
    go_ret
    exact ⟨_, rfl, by simpa using hown, ((Below.refl _ w).alloc (Nat.le_refl _) _).trans hb1⟩

/-- Block g holds a log of the records l, its list v. -/
structure LogAt (w : World) (g : Nat) (l : List Rc) (v : Value) : Prop where
  two : 2 ≤ g
  ok : RcsOk l
  blk : Blk w g 58 ((onR reg0 l).flatMap encB ++ [v, .int .i64 1]).toArray
  own : w.ownsRow (g + 1) 61 35 v l.length (l.flatMap Rc.cs)
theorem logCell {rg : List Int} (h : rg.length = 64) (v x : Value) : (rg.flatMap encB ++ [v, x]).toArray[64]? = some v ∧ (rg.flatMap encB ++ [v, x]).toArray[65]? = some x := by
  have hl : (rg.flatMap encB).length = 64 := by rw [flatB_len, h]
  constructor
  · rw [List.getElem?_toArray, List.getElem?_append_right (by omega), hl]; rfl
  · rw [List.getElem?_toArray, List.getElem?_append_right (by omega), hl]; rfl
theorem LogAt.c64 {w : World} {g : Nat} {l : List Rc} {v : Value} (h : LogAt w g l v) : w.cell? ⟨g, 64, none⟩ = some v := (h.blk.cell 64).trans (logCell (reg0_ok.on l).len _ _).1
theorem LogAt.c65 {w : World} {g : Nat} {l : List Rc} {v : Value} (h : LogAt w g l v) : w.cell? ⟨g, 65, none⟩ = some (.int .i64 1) := (h.blk.cell 65).trans (logCell (reg0_ok.on l).len _ _).2
theorem LogAt.lt {w : World} {g : Nat} {l : List Rc} {v : Value} (h : LogAt w g l v) : g < w.heap.size := h.blk.lt
theorem LogAt.kept {w w' : World} {g : Nat} {l : List Rc} {v : Value} (h : LogAt w g l v) (hb : Below w.heap.size w w') : LogAt w' g l v := ⟨h.two, h.ok, h.blk.kept hb, own_kept h.own hb⟩
theorem LogAt.drew {w : World} {g : Nat} {l : List Rc} {v : Value} (h : LogAt w g l v) : LogAt w.drew g l v := h.kept (Below.refl _ _).drew
theorem lok_yes (g : Nat) (w : World) (hc : w.cell? ⟨g, 65, none⟩ = some (.int .i64 1)) :
    Calls Tryd.prog 60 #[.pointer (some ⟨g, 0, none⟩)] w fun e w' => e = .returned (.bool true) ∧ w = w' := by
  go_enter Tryd.func60, Tryd.ntmps60
  go_wp2
  go_ret
  exact ⟨rfl, rfl⟩
theorem lok_zero (g : Nat) (w : World) (hc : w.cell? ⟨g, 65, none⟩ = some (.int .i64 0)) :
    Calls Tryd.prog 60 #[.pointer (some ⟨g, 0, none⟩)] w fun e w' => e = .returned (.bool false) ∧ w = w' := by
  go_enter Tryd.func60, Tryd.ntmps60
  go_wp2
  go_ret
  exact ⟨rfl, rfl⟩
theorem lok_nil (w : World) :
    Calls Tryd.prog 60 #[.pointer none] w fun e w' => e = .returned (.bool false) ∧ w = w' := by
  go_enter Tryd.func60, Tryd.ntmps60
  go_wp2
  go_ret
  exact ⟨rfl, rfl⟩
def zlog (x : Int) : Array Value := Array.replicate 64 (.int .u8 0) ++ #[.slice none 0 0, .int .i64 x]
theorem build_log1 (w : World) : (Instr.build 58 #[(2, .int .i64 1)]).run Tryd.prog w = .ok (.agg (zlog 1)) w := run_build w _ _ _ (by kernel_rfl)
theorem build_log0 (w : World) : (Instr.build 58 #[]).run Tryd.prog w = .ok (.agg (zlog 0)) w := run_build w _ _ _ (by kernel_rfl)
theorem lnew_any (w : World) (hz : 2 ≤ w.heap.size) :
    Calls Tryd.prog 29 #[] w fun e w' => e = .returned (.pointer (some ⟨w.heap.size, 0, none⟩)) ∧ LogAt w' w.heap.size [] (.slice none 0 0) ∧ Below w.heap.size w w' := by
  have HB := Lib.hid (build_log1 w)
  have HE : Hid (LogAt (w.alloc (.cells (zlog 1) 58)) w.heap.size [] (.slice none 0 0) ∧ RowKit.Below w.heap.size w (w.alloc (.cells (zlog 1) 58))) := Lib.hid
    ⟨⟨hz, (fun _ h => by cases h), by
      rw [show ((onR reg0 []).flatMap encB ++ [Value.slice none 0 0, .int .i64 1]).toArray = zlog 1 by kernel_rfl]; exact Blk.new _ _ _, World.ownsRow_nil _ _ _ _⟩, bal (Below.refl _ _) _⟩
  have hsz : (zlog 1).size = 66 := by kernel_rfl
  generalize zlog 1 = Z at *
  go_enter Tryd.func29, Tryd.ntmps29
  go_upto_region 1 with (fail)
  refine wp_region_lit ?_
  refine wpList_built rfl 58 #[(2, .const (.int .i64 1))] rfl (vals := #[(2, .int .i64 1)]) (by go_simp) HB.out ?_
  go_wp2
  go_ret
  exact ⟨rfl, HE.out⟩
set_option maxHeartbeats 1000000 in
theorem ladd_zero (g : Nat) (r : Rc) (w : World) (hr : RcOk r) (hc : w.cell? ⟨g, 65, none⟩ = some (.int .i64 0)) (hg : g < w.heap.size) :
    Calls Tryd.prog 30 #[.pointer (some ⟨g, 0, none⟩), .agg r.cs.toArray] w fun e w' => e = .returned (.tuple #[]) ∧ Below w.heap.size w w' := by
  have hsz : r.cs.toArray.size = 35 := by simp [Rc.len hr]
  have Hb := Lib.hid (bal (Below.refl w.heap.size w) (.cells r.cs.toArray 61))
  have hc1 : (w.alloc (.cells r.cs.toArray 61)).cell? ⟨g, 65, none⟩ = some (.int .i64 0) := (World.cell?_alloc_lt _ _ _ hg).trans hc
  go_enter Tryd.func30, Tryd.ntmps30
  go_wp2_with (go_at_call 60; refine (lok_zero g _ hc1).mono ?_; rintro e w1 ⟨rfl, rfl⟩)
  exact bodyPost_end (results_none rfl _ _ _) rfl ⟨rfl, Hb.out⟩
set_option maxHeartbeats 1000000 in
theorem ladd_nil (r : Rc) (w : World) (hr : RcOk r) :
    Calls Tryd.prog 30 #[.pointer none, .agg r.cs.toArray] w fun e w' => e = .returned (.tuple #[]) ∧ Below w.heap.size w w' := by
  have hsz : r.cs.toArray.size = 35 := by simp [Rc.len hr]
  have Hb := Lib.hid (bal (Below.refl w.heap.size w) (.cells r.cs.toArray 61))
  go_enter Tryd.func30, Tryd.ntmps30
  go_wp2_with (go_at_call 60; refine (lok_nil _).mono ?_; rintro e w1 ⟨rfl, rfl⟩)
  exact bodyPost_end (results_none rfl _ _ _) rfl ⟨rfl, Hb.out⟩
set_option maxHeartbeats 1000000 in
theorem lrecs_yes (g : Nat) (l : List Rc) (v : Value) (w : World) (h : LogAt w g l v) (hn : l.length ≤ 1000) :
    Calls Tryd.prog 34 #[.pointer (some ⟨g, 0, none⟩)] w fun e w' => ∃ A c, e = .returned (.slice A l.length c) ∧ w'.ownsRow w.heap.size 61 35 (.slice A l.length c) l.length (l.flatMap Rc.cs) ∧ Below w.heap.size w w' := by
  have c65 := h.c65
  have c64 := h.c64
  obtain ⟨A, c, rfl, _, hr⟩ := own_slice h.own
  have HC := Lib.hid (clone_rec A l.length c (l.flatMap Rc.cs) w hr (one_rcs l) hn)
  clear h hr
  generalize l.length = n at *
  go_enter Tryd.func34, Tryd.ntmps34
  go_wp2_with (first
    | (go_at_call 60; refine (lok_yes g _ c65).mono ?_; rintro e w1 ⟨rfl, rfl⟩)
    | (go_at_call 62; refine HC.out.mono ?_; rintro e w2 ⟨v2, rfl, hown2, hb2⟩; obtain ⟨A2, c2, rfl, _, _⟩ := own_slice hown2))
  go_ret
  exact ⟨A2, c2, rfl, hown2, hb2⟩
theorem lrecs_zero (g : Nat) (w : World) (hc : w.cell? ⟨g, 65, none⟩ = some (.int .i64 0)) :
    Calls Tryd.prog 34 #[.pointer (some ⟨g, 0, none⟩)] w fun e w' => e = .returned (.slice none 0 0) ∧ w = w' := by
  go_enter Tryd.func34, Tryd.ntmps34
  go_wp2_with (go_at_call 60; refine (lok_zero g _ hc).mono ?_; rintro e w1 ⟨rfl, rfl⟩)
  go_ret
  exact ⟨rfl, rfl⟩
theorem LogAt.rangeR {w : World} {g : Nat} {l : List Rc} {v : Value} (h : LogAt w g l v) : w.rangeAt g 0 ((onR reg0 l).flatMap encB) := by
  intro j u hu
  rw [Nat.zero_add, h.blk.cell j, List.getElem?_toArray, List.getElem?_append_left (List.getElem?_eq_some_iff.1 hu).1]
  exact hu
set_option maxRecDepth 100000 in
set_option maxHeartbeats 1000000 in
theorem lregs_yes (g : Nat) (l : List Rc) (v : Value) (w : World) (h : LogAt w g l v) :
    Calls Tryd.prog 31 #[.pointer (some ⟨g, 0, none⟩)] w fun e w' => e = .returned (.agg ((onR reg0 l).flatMap encB).toArray) ∧ Below w.heap.size w w' := by
  have hz2 := (zero_of_info info_2n).1
  have hb0 := bal (Below.refl w.heap.size w) (.cells (Array.replicate 64 (.int .u8 0)) 54)
  have h1 := h.kept hb0
  have c65 := h1.c65
  have HRg := Lib.hid h1.rangeR
  have HZ := Lib.hid (Blk.new w 54 (Array.replicate 64 (.int .u8 0)))
  have HOl := Lib.hid (reg0_ok.on l).len
  have Hb0 := Lib.hid hb0
  clear h h1 hb0
  generalize onR reg0 l = ob at *
  have HLn := Lib.hid (show (ob.flatMap encB).length = 64 by rw [flatB_len, HOl.out])
  go_enter Tryd.func31, Tryd.ntmps31
  go_wp2_with (first
    | (go_at_call 60; refine (lok_yes g _ c65).mono ?_; rintro e w1 ⟨rfl, rfl⟩)
    | (refine wpList_load_mid rfl 54 (.tmp 10) rfl g 0 (by rfl) (ob.flatMap encB) _ HRg.out Tryd.underlying54 rfl (by rw [HLn.out]; kernel_rfl) ?_)
    | (refine wpList_store_regs rfl (.tmp 2) (.tmp 11) rfl w.heap.size ob HOl.out (by rfl) (by rfl) HZ.out (by simp) ?_; intro w6 hB6 hbl6 hz6 hh6))
  exact bodyPost_ret (res_cell1 rfl (b := w.heap.size) (o := 0) (cs := ob.flatMap encB) rfl hB6.range Tryd.underlying54 rfl (by rw [HLn.out]; kernel_rfl)) rfl ⟨rfl, Hb0.out.trans (hbl6 _ (Nat.le_refl _))⟩
theorem build_regs0 (w : World) : (Instr.build 54 #[]).run Tryd.prog w = .ok (.agg (reg0.flatMap encB).toArray) w := run_build w _ _ _ (by kernel_rfl)
set_option maxRecDepth 100000 in
set_option maxHeartbeats 1000000 in
theorem lregs_nil (w : World) :
    Calls Tryd.prog 31 #[.pointer none] w fun e w' => e = .returned (.agg (reg0.flatMap encB).toArray) ∧ Below w.heap.size w w' := by
  have hz2 := (zero_of_info info_2n).1
  have Hb0 := Lib.hid (bal (Below.refl w.heap.size w) (.cells (Array.replicate 64 (.int .u8 0)) 54))
  have HZ := Lib.hid (Blk.new w 54 (Array.replicate 64 (.int .u8 0)))
  have HOl := Lib.hid reg0_ok.len
  have HBu := Lib.hid build_regs0
  generalize reg0 = ob at *
  have HLn := Lib.hid (show (ob.flatMap encB).length = 64 by rw [flatB_len, HOl.out])
  go_enter Tryd.func31, Tryd.ntmps31
  go_upto_region 2 with (go_at_call 60; refine (lok_nil _).mono ?_; rintro e w1 ⟨rfl, rfl⟩)
  refine wp_region_lit ?_
  refine wpList_built rfl 54 #[] rfl (vals := #[]) (by simp) (HBu.out _) ?_
  go_wp2_with (refine wpList_store_regs rfl (.tmp 2) (.tmp 6) rfl w.heap.size ob HOl.out (by rfl) (by rfl) HZ.out (by simp) ?_; intro w6 hB6 hbl6 hz6 hh6)
  exact bodyPost_ret (res_cell1 rfl (b := w.heap.size) (o := 0) (cs := ob.flatMap encB) rfl hB6.range Tryd.underlying54 rfl (by rw [HLn.out]; kernel_rfl)) rfl ⟨rfl, Hb0.out.trans (hbl6 _ (Nat.le_refl _))⟩
set_option maxRecDepth 100000 in
set_option maxHeartbeats 1000000 in
theorem refFold_any (A : Option Addr) (n c : Nat) (l : List Rc) (w : World) (hl : l.length = n) (hn : n ≤ 1000000) (h0 : RcsOk l) (hr : Rd w w.heap.size 35 A n (l.flatMap Rc.cs)) :
    Calls Tryd.prog 32 #[.slice A n c] w fun e w' => e = .returned (.agg ((onR reg0 l).flatMap encB).toArray) ∧ Below w.heap.size w w' := by
  have hz2 := (zero_of_info info_2n).1
  have hb0 := bal (Below.refl w.heap.size w) (.cells (Array.replicate 64 (.int .u8 0)) 54)
  have HO := Lib.hid (refOn_any reg0 A n c l (w.alloc (.cells (Array.replicate 64 (.int .u8 0)) 54)) reg0_ok hl hn h0 ((hr.below hb0).more hb0.size))
  have HZ := Lib.hid (Blk.new w 54 (Array.replicate 64 (.int .u8 0)))
  have HOl := Lib.hid (reg0_ok.on l).len
  have HBu := Lib.hid build_regs0
  have Hb0 := Lib.hid hb0
  clear hl h0 hr hb0
  generalize onR reg0 l = ob at *
  generalize reg0 = oz at *
  have HLn := Lib.hid (show (ob.flatMap encB).length = 64 by rw [flatB_len, HOl.out])
  go_enter Tryd.func32, Tryd.ntmps32
  go_upto_region 1 with (fail)
  refine wp_region_lit ?_
  refine wpList_built rfl 54 #[] rfl (vals := #[]) (by simp) (HBu.out _) ?_
  go_wp2_with (first
    | (go_at_call 38; refine HO.out.mono ?_; rintro e w2 ⟨rfl, hb2⟩; have hZ2 := HZ.out.kept hb2)
    | (refine wpList_store_regs rfl (.tmp 2) (.tmp 5) rfl w.heap.size ob HOl.out (by rfl) (by rfl) hZ2 (by simp) ?_; intro w6 hB6 hbl6 hz6 hh6))
  exact bodyPost_ret (res_cell1 rfl (b := w.heap.size) (o := 0) (cs := ob.flatMap encB) rfl hB6.range Tryd.underlying54 rfl (by rw [HLn.out]; kernel_rfl)) rfl ⟨rfl, (Hb0.out.trans (hb2.mono Hb0.out.size)).trans (hbl6 _ (Nat.le_refl _))⟩
end Go.Proofs.YtjcklmhkdpbbdaaDoor
namespace Go.Proofs.YtjcklmhkdpbbdaaDoor
set_option linter.unusedVariables false
set_option linter.unusedSimpArgs false
open Go.RowKit Go.Sort

theorem wpOp_do {P : Program} {ops : Array Oper} {Q : Exit → Act → World → Prop} {md : Region.Mode} {S : World → Prop} {i : Nat} {o : Oper} {f : Nat} {listed : Array Bool} {a : Act} {w : World} (ho : ops[i]? = some o) (hw : Region.wanted o (yielded ops a.tmps) = true)
    (h : ∀ K : Act → World → Prop, Hid (∀ a' w', S w' → wpAnyH P md ops Q S f (listed.setIfInBounds i true) a' w' → K a' w') → o.wp P a w K Q) : wpOp P ops Q i (fun a' w' => S w' ∧ wpAnyH P md ops Q S f (listed.setIfInBounds i true) a' w') a w := by
  unfold wpOp
  rw [ho]
  simp only [hw, if_true]
  exact .inl (h _ (Lib.hid fun a' w' h1 h2 => ⟨h1, h2⟩))
theorem wp_built_slice {P : Program} {o : Oper} {a : Act} {w w' : World} {K : Act → World → Prop} {Q : Exit → Act → World → Prop} (ty : TypeId) (len : Nat) (parts : Array (Nat × Operand)) (ho : o.op = .buildSlice ty len parts)
    {vals : Array (Nat × Value)} (hv : (parts.map fun (i, x) => (i, a.eval x)) = vals) {V : Value} (hr : (Instr.buildSlice ty len vals).run P w = .ok V w') (h : K (a.put o.dst V) w') : o.wp P a w K Q := by
  unfold Oper.wp execOp
  simp only [ho, hv, Sem.run_bind, Sem.run_pure, Result.andThen_ok, hr]
  exact h
theorem own_nearG {w w' : World} {g : Nat} {e : TypeId} {size n : Nat} {v : Value} {xs : List Value} (h : w.ownsRow (g + 1) e size v n xs) (hb : Near (fun i => i = g) w w') : w'.ownsRow (g + 1) e size v n xs :=
  own_same h fun k hk => hb.block k (own_lt h hk).2 (by have := (own_lt h hk).1; omega)
theorem logSet {rg : List Int} (h : rg.length = 64) (v x v' : Value) : (rg.flatMap encB ++ [v, x]).toArray.setIfInBounds 64 v' = (rg.flatMap encB ++ [v', x]).toArray := by
  have hl : (rg.flatMap encB).length = 64 := by rw [flatB_len, h]
  rw [List.setIfInBounds_toArray, List.set_append_right _ _ (by omega), hl]
  rfl
set_option maxRecDepth 100000 in
set_option maxHeartbeats 2000000 in
theorem ladd_yes (g : Nat) (l : List Rc) (v : Value) (r : Rc) (w : World) (hr : RcOk r) (h : LogAt w g l v) (hT : Tabs w) (hn : l.length ≤ 1000) :
    Calls Tryd.prog 30 #[.pointer (some ⟨g, 0, none⟩), .agg r.cs.toArray] w fun e w' => e = .returned (.tuple #[]) ∧ (∃ v', LogAt w' g (l ++ [r]) v') ∧ Near (fun i => i = g ∨ v.ownBlock = some i) w w' := by
  have hsz : r.cs.toArray.size = 35 := by simp [Rc.len hr]
  have hfl : r.cs.length = 35 := Rc.len hr
  have hb0 := bal (Below.refl w.heap.size w) (.cells r.cs.toArray 61)
  have h1 := h.kept hb0
  have HB0 := Lib.hid (Blk.new w 61 r.cs.toArray)
  have c65 := h1.c65
  have HLn := Lib.hid (Rc.len hr)
  have HOk := Lib.hid hr
  have H1 := Lib.hid h1
  have HB := Lib.hid hb0
  have hgl := h.lt
  have HLt := Lib.hid (fun k hk => (World.ownsRow.lt h.own k hk).2)
  have Hok := Lib.hid h.ok
  have h2 := h.two
  have HX := Lib.hid (extend_any g 58 [v, .int .i64 1] (onR reg0 l) r (w.alloc (.cells r.cs.toArray 61)).drew hr (reg0_ok.on l) h1.drew.blk ((hT.kept hb0).drew))
  rw [← onR_snoc] at HX
  have HSl := Lib.hid (fun W => slice_rec W r.cs (Rc.len hr))
  have HMx := Lib.hid (show l.length + 1 ≤ maxLen by unfold maxLen; omega)
  have HMy := Lib.hid (show (l.length + 1) * 56 ≤ 140737488355328 by omega)
  clear h h1 hT hb0 hr
  go_enter Tryd.func30, Tryd.ntmps30
  go_upto_region 2 with (go_at_call 60; refine (lok_yes g _ c65).mono ?_; rintro e w1 ⟨rfl, rfl⟩)
  have hS1 : (fun w' : World => w'.rangeAt w.heap.size 0 r.cs) (w.alloc (.cells r.cs.toArray 61)).drew := HB0.out.range
  refine wp_region_held_drew (S := fun w' : World => w'.rangeAt w.heap.size 0 r.cs) (by kernel_rfl) hS1 (fun hHeld => ?_)
  clear hHeld
  refine wpAnyH_take (i := 0) (v := ?va0) rfl (by kernel_rfl) (by kernel_rfl) (by kernel_rfl) (fun _ _ _ h => h) (Or.inl ⟨by kernel_rfl, ?hya0⟩) hS1 ?resta0
  case hya0 =>
    intro w hSw
    clear hSw
    go_simp
    first | done | with_reducible rfl
  (try simp only [Act.put, List.setIfInBounds_toArray, List.set_cons_zero, List.set_cons_succ])
  refine wpAnyH_take (i := 1) (v := ?va1) rfl (by kernel_rfl) (by kernel_rfl) (by kernel_rfl) (fun _ _ _ h => h) (Or.inl ⟨by kernel_rfl, ?hya1⟩) hS1 ?resta1
  case hya1 =>
    intro w hSw
    clear hSw
    go_simp
    first | done | with_reducible rfl
  (try simp only [Act.put, List.setIfInBounds_toArray, List.set_cons_zero, List.set_cons_succ])
  refine wpAnyH_take (i := 2) (v := ?va2) rfl (by kernel_rfl) (by kernel_rfl) (by kernel_rfl) (fun _ _ _ h => h) (Or.inl ⟨by kernel_rfl, ?hya2⟩) hS1 ?resta2
  case hya2 =>
    intro w hSw
    clear hSw
    go_simp
    first | done | with_reducible rfl
  (try simp only [Act.put, List.setIfInBounds_toArray, List.set_cons_zero, List.set_cons_succ])
  refine wpAnyH_take (i := 3) (v := .agg r.cs.toArray) rfl (by kernel_rfl) (by kernel_rfl) (by kernel_rfl) (fun _ _ _ h => h) ?hla hS1 ?_
  case hla =>
    refine Or.inl ⟨by kernel_rfl, fun w1 hSw => ?_⟩
    refine exec_load_mid 61 (.tmp 3) rfl w.heap.size 0 ?hxa r.cs _ hSw Tryd.underlying61 rfl (by rw [HLn.out]; kernel_rfl)
    case hxa => go_simp
  (try simp only [Act.put, List.setIfInBounds_toArray, List.set_cons_zero, List.set_cons_succ])
  refine wpAnyH_call (i := 4) (by kernel_rfl) rfl (by kernel_rfl) fun K hK => ?_
  simp only [List.getElem_toArray, List.getElem_cons_succ, List.getElem_cons_zero]
  go_simp
  go_at_call 61
  refine HX.out.mono ?_
  rintro e w2 ⟨rfl, hB2, hn2⟩
  have hBx2 : Blk w2 w.heap.size 61 r.cs.toArray := HB0.out.drew.same (hn2.block _ HB0.out.drew.lt (by omega))
  refine hK.out _ _ hBx2.range ?_
  clear hK K
  (try simp only [Act.put, List.setIfInBounds_toArray, List.set_cons_zero, List.set_cons_succ])
  refine wpAnyH_done (by kernel_rfl) ?_ _
  have hown2 := own_nearG H1.out.drew.own hn2
  have hnw2 : Near (fun i => i = g ∨ v.ownBlock = some i) w w2 := (Near.of_below _ HB.out.drew).trans (hn2.mono fun i hi => .inl hi)
  have c64 := (hB2.cell 64).trans (logCell (reg0_ok.on (l ++ [r])).len _ _).1
  clear HX hS1 hn2 c65
  go_wp2
  have hS2 : (fun w' : World => w'.rangeAt w.heap.size 0 r.cs) w2.drew := hBx2.range
  have c64 := (hB2.drew.cell 64).trans (logCell (reg0_ok.on (l ++ [r])).len _ _).1
  refine wp_region_held_drew (S := fun w' : World => w'.rangeAt w.heap.size 0 r.cs) (by kernel_rfl) hS2 (fun hHeld => ?_)
  clear hHeld
  refine wpAnyH_take (i := 0) (v := ?vb0) rfl (by kernel_rfl) (by kernel_rfl) (by kernel_rfl) (fun _ _ _ h => h) (Or.inl ⟨by kernel_rfl, ?hyb0⟩) hS2 ?restb0
  case hyb0 =>
    intro w hSw
    clear hSw
    go_simp
    first | done | with_reducible rfl
  (try simp only [Act.put, List.setIfInBounds_toArray, List.set_cons_zero, List.set_cons_succ])
  refine wpAnyH_take (i := 1) (v := ?vb1) rfl (by kernel_rfl) (by kernel_rfl) (by kernel_rfl) (fun _ _ _ h => h) (Or.inl ⟨by kernel_rfl, ?hyb1⟩) hS2 ?restb1
  case hyb1 =>
    intro w hSw
    clear hSw
    go_simp
    first | done | with_reducible rfl
  (try simp only [Act.put, List.setIfInBounds_toArray, List.set_cons_zero, List.set_cons_succ])
  refine wpAnyH_take (i := 2) (v := ?vb2) rfl (by kernel_rfl) (by kernel_rfl) (by kernel_rfl) (fun _ _ _ h => h) (Or.inl ⟨by kernel_rfl, ?hyb2⟩) hS2 ?restb2
  case hyb2 =>
    intro w hSw
    clear hSw
    go_simp
    first | done | with_reducible rfl
  (try simp only [Act.put, List.setIfInBounds_toArray, List.set_cons_zero, List.set_cons_succ])
  refine wpAnyH_take (i := 3) (v := ?vb3) rfl (by kernel_rfl) (by kernel_rfl) (by kernel_rfl) (fun _ _ _ h => h) (Or.inl ⟨by kernel_rfl, ?hyb3⟩) hS2 ?restb3
  case hyb3 =>
    intro w hSw
    clear hSw
    go_simp
    first | done | with_reducible rfl
  (try simp only [Act.put, List.setIfInBounds_toArray, List.set_cons_zero, List.set_cons_succ])
  refine wpAnyH_take (i := 5) (v := .agg r.cs.toArray) rfl (by kernel_rfl) (by kernel_rfl) (by kernel_rfl) (fun _ _ _ h => h) ?hlb hS2 ?_
  case hlb =>
    refine Or.inl ⟨by kernel_rfl, fun w1 hSw => ?_⟩
    refine exec_load_mid 61 (.tmp 3) rfl w.heap.size 0 ?hxb r.cs _ hSw Tryd.underlying61 rfl (by rw [HLn.out]; kernel_rfl)
    case hxb => go_simp
  (try simp only [Act.put, List.setIfInBounds_toArray, List.set_cons_zero, List.set_cons_succ])
  refine wpAnyH_all (rs := [4, 6]) (by kernel_rfl) (by simp) fun j hj => ?_
  have hj2 : j = 4 ∨ j = 6 := by simpa using hj
  clear hj
  rcases hj2 with rfl | rfl
  · refine wpOp_do rfl (by kernel_rfl) fun K hK => ?_
    simp only [List.getElem_toArray, List.getElem_cons_succ, List.getElem_cons_zero]
    go_simp
    refine hK.out _ _ hS2 ?_
    clear hK K
    (try simp only [Act.put, List.setIfInBounds_toArray, List.set_cons_zero, List.set_cons_succ])
    refine wpAnyH_call (i := 6) (by kernel_rfl) rfl (by kernel_rfl) fun K hK => ?_
    simp only [List.getElem_toArray, List.getElem_cons_succ, List.getElem_cons_zero]
    refine wp_built_slice 51 1 #[(0, .tmp 16)] rfl (vals := #[(0, .agg r.cs.toArray)]) ?hva (HSl.out _) ?_
    case hva => go_simp
    have hB3 := hB2.drew.alloc (.cells r.cs.toArray 61)
    have hBx3 := hBx2.drew.alloc (.cells r.cs.toArray 61)
    have hown3 := (own_kept hown2 (Below.refl _ _).drew).alloc (.cells r.cs.toArray 61)
    refine hK.out _ _ hBx3.range ?_
    clear hK K
    (try simp only [Act.put, List.setIfInBounds_toArray, List.set_cons_zero, List.set_cons_succ])
    refine wpAnyH_call (i := 7) (by kernel_rfl) rfl (by kernel_rfl) fun K hK => ?_
    simp only [List.getElem_toArray, List.getElem_cons_succ, List.getElem_cons_zero]
    refine wp_app _ rec_elem (.tmp 15) (.tmp 17) rfl (g + 1) _ l.length _ ?hvbb hown3 _ _ 1 1 _ ?hvcb (Rd.fresh w2.drew r.cs.toArray 61 1 35 w2.drew.heap.size (by rw [hsz])) (Rc.one r) HMx.out HMy.out ?hvdb ?_
    case hvbb => go_simp
    case hvcb => go_simp
    case hvdb => exact Nat.succ_le_of_lt hB3.lt
    intro v5 w5 hown5 hb5 hgr
    have hB5 := hB3.below hb5 (by omega)
    have hBx5 := hBx3.same (hgr.block _ hBx3.lt (fun he => by
      have h1 := HLt.out _ he.symm
      omega))
    obtain ⟨A5, c5, rfl, _, _⟩ := own_slice hown5
    refine hK.out _ _ hBx5.range ?_
    clear hK K
    (try simp only [Act.put, List.setIfInBounds_toArray, List.set_cons_zero, List.set_cons_succ])
    have hS5 : (fun w' : World => w'.rangeAt w.heap.size 0 r.cs) w5 := hBx5.range
    refine wpAnyH_take (i := 8) (v := ?vb8) rfl (by kernel_rfl) (by kernel_rfl) (by kernel_rfl) (fun _ _ _ h => h) (Or.inl ⟨by kernel_rfl, ?hyb8⟩) hS5 ?restb8
    case hyb8 =>
      intro w hSw
      clear hSw
      go_simp
      first | done | with_reducible rfl
    (try simp only [Act.put, List.setIfInBounds_toArray, List.set_cons_zero, List.set_cons_succ])
    refine wpAnyH_take (i := 9) (v := ?vb9) rfl (by kernel_rfl) (by kernel_rfl) (by kernel_rfl) (fun _ _ _ h => h) (Or.inl ⟨by kernel_rfl, ?hyb9⟩) hS5 ?restb9
    case hyb9 =>
      intro w hSw
      clear hSw
      go_simp
      first | done | with_reducible rfl
    (try simp only [Act.put, List.setIfInBounds_toArray, List.set_cons_zero, List.set_cons_succ])
    refine wpAnyH_call (i := 10) (by kernel_rfl) rfl (by kernel_rfl) fun K hK => ?_
    simp only [List.getElem_toArray, List.getElem_cons_succ, List.getElem_cons_zero]
    have c64 := (hB5.cell 64).trans (logCell (reg0_ok.on (l ++ [r])).len _ _).1
    have f64 := hB5.frozen 64
    go_simp
    have hB6 := hB5.set_ 64 (.slice A5 (l.length + 1) c5)
    rw [logSet (reg0_ok.on (l ++ [r])).len] at hB6
    have hO6 : (w5.setCell ⟨g, 64, none⟩ (.slice A5 (l.length + 1) c5)).ownsRow (g + 1) 61 35 (.slice A5 (l.length + 1) c5) (l.length + 1) (l.flatMap Rc.cs ++ r.cs) :=
      own_same hown5 fun k hk => Below.heap_setCell _ _ _ _ (by have := (own_lt hown5 hk).1; simp; omega)
    have hN6 : Near (fun i => i = g ∨ v.ownBlock = some i) w (w5.setCell ⟨g, 64, none⟩ (.slice A5 (l.length + 1) c5)) :=
      (((hnw2.drew).alloc (.cells r.cs.toArray 61)).grown hgr (fun k hk => .inr hk)).setCell (p := ⟨g, 64, none⟩) (.inl rfl) _
    refine hK.out _ _ (hBx5.far (p := ⟨g, 64, none⟩) (by simp; omega) _).range ?_
    clear hK K
    (try simp only [Act.put, List.setIfInBounds_toArray, List.set_cons_zero, List.set_cons_succ])
    refine wpAnyH_done (by kernel_rfl) ?_ _
    have HF : Hid (LogAt (w5.setCell ⟨g, 64, none⟩ (.slice A5 (l.length + 1) c5)) g (l ++ [r]) (.slice A5 (l.length + 1) c5) ∧ Near (fun i => i = g ∨ v.ownBlock = some i) w (w5.setCell ⟨g, 64, none⟩ (.slice A5 (l.length + 1) c5))) :=
      Lib.hid ⟨⟨h2, fun x hx => (List.mem_append.1 hx).elim (Hok.out x) (fun hx => by obtain rfl := List.mem_singleton.1 hx; exact HOk.out), hB6, by rw [List.length_append, List.flatMap_append, List.flatMap_cons, List.flatMap_nil, List.append_nil]; exact hO6⟩, hN6⟩
    clear hB6 hO6 hN6 hS5 hBx5 hB5 hown5 hb5 hgr c64 f64
    go_wp2
    exact bodyPost_end (results_none rfl _ _ _) rfl ⟨rfl, ⟨_, HF.out.1⟩, HF.out.2⟩
  · refine wpOp_do rfl (by kernel_rfl) fun K hK => ?_
    simp only [List.getElem_toArray, List.getElem_cons_succ, List.getElem_cons_zero]
    refine wp_built_slice 51 1 #[(0, .tmp 16)] rfl (vals := #[(0, .agg r.cs.toArray)]) ?hvz (HSl.out _) ?_
    case hvz => go_simp
    have hB3 := hB2.drew.alloc (.cells r.cs.toArray 61)
    have hBx3 := hBx2.drew.alloc (.cells r.cs.toArray 61)
    have hown3 := (own_kept hown2 (Below.refl _ _).drew).alloc (.cells r.cs.toArray 61)
    refine hK.out _ _ hBx3.range ?_
    clear hK K
    (try simp only [Act.put, List.setIfInBounds_toArray, List.set_cons_zero, List.set_cons_succ])
    have c64z : (w2.alloc (.cells r.cs.toArray 61)).cell? ⟨g, 64, none⟩ = some v := ((hB2.alloc (.cells r.cs.toArray 61)).cell 64).trans (logCell (reg0_ok.on (l ++ [r])).len _ _).1
    refine wpAnyH_call (i := 4) (by kernel_rfl) rfl (by kernel_rfl) fun K hK => ?_
    simp only [List.getElem_toArray, List.getElem_cons_succ, List.getElem_cons_zero]
    go_simp
    refine hK.out _ _ hBx3.range ?_
    clear hK K
    (try simp only [Act.put, List.setIfInBounds_toArray, List.set_cons_zero, List.set_cons_succ])
    refine wpAnyH_call (i := 7) (by kernel_rfl) rfl (by kernel_rfl) fun K hK => ?_
    simp only [List.getElem_toArray, List.getElem_cons_succ, List.getElem_cons_zero]
    refine wp_app _ rec_elem (.tmp 15) (.tmp 17) rfl (g + 1) _ l.length _ ?hvbc hown3 _ _ 1 1 _ ?hvcc (Rd.fresh w2.drew r.cs.toArray 61 1 35 w2.drew.heap.size (by rw [hsz])) (Rc.one r) HMx.out HMy.out ?hvdc ?_
    case hvbc => go_simp
    case hvcc => go_simp
    case hvdc => exact Nat.succ_le_of_lt hB3.lt
    intro v5 w5 hown5 hb5 hgr
    have hB5 := hB3.below hb5 (by omega)
    have hBx5 := hBx3.same (hgr.block _ hBx3.lt (fun he => by
      have h1 := HLt.out _ he.symm
      omega))
    obtain ⟨A5, c5, rfl, _, _⟩ := own_slice hown5
    refine hK.out _ _ hBx5.range ?_
    clear hK K
    (try simp only [Act.put, List.setIfInBounds_toArray, List.set_cons_zero, List.set_cons_succ])
    have hS5 : (fun w' : World => w'.rangeAt w.heap.size 0 r.cs) w5 := hBx5.range
    refine wpAnyH_take (i := 8) (v := ?vc8) rfl (by kernel_rfl) (by kernel_rfl) (by kernel_rfl) (fun _ _ _ h => h) (Or.inl ⟨by kernel_rfl, ?hyc8⟩) hS5 ?restc8
    case hyc8 =>
      intro w hSw
      clear hSw
      go_simp
      first | done | with_reducible rfl
    (try simp only [Act.put, List.setIfInBounds_toArray, List.set_cons_zero, List.set_cons_succ])
    refine wpAnyH_take (i := 9) (v := ?vc9) rfl (by kernel_rfl) (by kernel_rfl) (by kernel_rfl) (fun _ _ _ h => h) (Or.inl ⟨by kernel_rfl, ?hyc9⟩) hS5 ?restc9
    case hyc9 =>
      intro w hSw
      clear hSw
      go_simp
      first | done | with_reducible rfl
    (try simp only [Act.put, List.setIfInBounds_toArray, List.set_cons_zero, List.set_cons_succ])
    refine wpAnyH_call (i := 10) (by kernel_rfl) rfl (by kernel_rfl) fun K hK => ?_
    simp only [List.getElem_toArray, List.getElem_cons_succ, List.getElem_cons_zero]
    have c64 := (hB5.cell 64).trans (logCell (reg0_ok.on (l ++ [r])).len _ _).1
    have f64 := hB5.frozen 64
    go_simp
    have hB6 := hB5.set_ 64 (.slice A5 (l.length + 1) c5)
    rw [logSet (reg0_ok.on (l ++ [r])).len] at hB6
    have hO6 : (w5.setCell ⟨g, 64, none⟩ (.slice A5 (l.length + 1) c5)).ownsRow (g + 1) 61 35 (.slice A5 (l.length + 1) c5) (l.length + 1) (l.flatMap Rc.cs ++ r.cs) :=
      own_same hown5 fun k hk => Below.heap_setCell _ _ _ _ (by have := (own_lt hown5 hk).1; simp; omega)
    have hN6 : Near (fun i => i = g ∨ v.ownBlock = some i) w (w5.setCell ⟨g, 64, none⟩ (.slice A5 (l.length + 1) c5)) :=
      (((hnw2.drew).alloc (.cells r.cs.toArray 61)).grown hgr (fun k hk => .inr hk)).setCell (p := ⟨g, 64, none⟩) (.inl rfl) _
    refine hK.out _ _ (hBx5.far (p := ⟨g, 64, none⟩) (by simp; omega) _).range ?_
    clear hK K
    (try simp only [Act.put, List.setIfInBounds_toArray, List.set_cons_zero, List.set_cons_succ])
    refine wpAnyH_done (by kernel_rfl) ?_ _
    have HF : Hid (LogAt (w5.setCell ⟨g, 64, none⟩ (.slice A5 (l.length + 1) c5)) g (l ++ [r]) (.slice A5 (l.length + 1) c5) ∧ Near (fun i => i = g ∨ v.ownBlock = some i) w (w5.setCell ⟨g, 64, none⟩ (.slice A5 (l.length + 1) c5))) :=
      Lib.hid ⟨⟨h2, fun x hx => (List.mem_append.1 hx).elim (Hok.out x) (fun hx => by obtain rfl := List.mem_singleton.1 hx; exact HOk.out), hB6, by rw [List.length_append, List.flatMap_append, List.flatMap_cons, List.flatMap_nil, List.append_nil]; exact hO6⟩, hN6⟩
    clear hB6 hO6 hN6 hS5 hBx5 hB5 hown5 hb5 hgr c64 f64
    go_wp2
    exact bodyPost_end (results_none rfl _ _ _) rfl ⟨rfl, ⟨_, HF.out.1⟩, HF.out.2⟩
end Go.Proofs.YtjcklmhkdpbbdaaDoor
namespace Go.Proofs.YtjcklmhkdpbbdaaDoor
set_option linter.unusedVariables false
set_option linter.unusedSimpArgs false
open Go.RowKit Go.Sort

def rcE : Rc := ⟨1, 0, 0, List.replicate 32 0⟩
theorem rcE_ok : RcOk rcE := ⟨by simp [rcE], fun x hx => by rw [List.eq_of_mem_replicate hx]; decide⟩
def sumE : List Int := [105, 47, 231, 102, 12, 63, 135, 31, 234, 235, 172, 9, 218, 154, 78, 63, 16, 2, 182, 82, 91, 19, 132, 115, 246, 211, 49, 230, 25, 137, 58, 158]
theorem on_example : onR reg0 [rcE] = sumE ++ List.replicate 32 0 := by decide +kernel
theorem sumE_len : sumE.length = 32 := rfl
theorem node_lit0 : ((List.replicate 32 (0 : Int)).flatMap encB).toArray = #[Value.int .u8 0, Value.int .u8 0, Value.int .u8 0, Value.int .u8 0, Value.int .u8 0, Value.int .u8 0, Value.int .u8 0, Value.int .u8 0, Value.int .u8 0, Value.int .u8 0, Value.int .u8 0, Value.int .u8 0, Value.int .u8 0, Value.int .u8 0, Value.int .u8 0, Value.int .u8 0, Value.int .u8 0, Value.int .u8 0, Value.int .u8 0, Value.int .u8 0, Value.int .u8 0, Value.int .u8 0, Value.int .u8 0, Value.int .u8 0, Value.int .u8 0, Value.int .u8 0, Value.int .u8 0, Value.int .u8 0, Value.int .u8 0, Value.int .u8 0, Value.int .u8 0, Value.int .u8 0] := by kernel_rfl
theorem build_rcE (w : World) : (Instr.build 61 #[(0, .int .i64 1)]).run Tryd.prog w = .ok (.agg rcE.cs.toArray) w := run_build w _ _ _ (by kernel_rfl)
theorem idx_node0 (w : World) : (Instr.index 54 (.agg ((sumE ++ List.replicate 32 0).flatMap encB).toArray) (.int .i64 0)).run Tryd.prog w = .ok (.agg (sumE.flatMap encB).toArray) w := by kernel_rfl
theorem idx_node1 (w : World) : (Instr.index 54 (.agg ((sumE ++ List.replicate 32 0).flatMap encB).toArray) (.int .i64 1)).run Tryd.prog w = .ok (.agg ((List.replicate 32 (0 : Int)).flatMap encB).toArray) w := by kernel_rfl
theorem neqE (w : World) : (binOp .neq 26 (.agg (sumE.flatMap encB).toArray) (.agg ((List.replicate 32 (0 : Int)).flatMap encB).toArray)).run Tryd.prog w = .ok (.bool true) w := by
  have := neq_flat w flat_node (by kernel_rfl) (by decide) (by kernel_rfl) (flatk_b 32 sumE sumE_len) (flatk_b 32 (List.replicate 32 (0 : Int)) (by simp))
  rw [show eqLeaves (sumE.flatMap encB) ((List.replicate 32 (0 : Int)).flatMap encB) = false by decide +kernel] at this
  exact this
set_option maxRecDepth 100000 in
set_option maxHeartbeats 2000000 in
theorem awake25_any (w : World) (hT : Tabs w) : Calls Tryd.prog 28 #[] w fun e w' => e = .returned (.bool true) ∧ Below w.heap.size w w' := by
  have HP := Lib.hid (putLog_any none 0 0 [] w rfl (by decide) (fun _ h => by cases h) Rd.nil)
  have HT := Lib.hid hT
  have hs2 := hT.size
  have HBu := Lib.hid build_rcE
  have h0 := fun W => idx_node0 W
  have h1 := fun W => idx_node1 W
  have hne := fun W => neqE W
  have heq := fun W => eq_node (l := List.replicate 32 (0 : Int)) (by simp) W
  rw [node_lit0] at h1 hne heq
  have HA := Lib.hid (fun g v W (h : LogAt W g [] v) hT => ladd_yes g [] v rcE W rcE_ok h hT (by decide))
  have HR := Lib.hid (fun g v W (h : LogAt W g [rcE] v) => lrecs_yes g [rcE] v W h (by decide))
  have HG := Lib.hid (fun g v W (h : LogAt W g [rcE] v) => lregs_yes g [rcE] v W h)
  rw [on_example] at HG
  rw [show ([] : List Rc) ++ [rcE] = [rcE] from rfl] at HA
  generalize ((sumE ++ List.replicate 32 0).flatMap encB).toArray = C at *
  generalize (sumE.flatMap encB).toArray = S at *
  generalize rcE = r at *
  clear hT
  go_enter Tryd.func28, Tryd.ntmps28
  go_upto_region 5 with (first
    | (go_at_call 47; refine HP.out.mono ?_; rintro e w1 ⟨⟨_, A1, c1, rfl, _⟩ | ⟨h, _⟩, hb1⟩)
    | (go_at_call 29; refine (lnew_any _ (Nat.le_trans hs2 hb1.size)).mono ?_; rintro e w2 ⟨rfl, hL2, hb2⟩))
  have HB2 := Lib.hid (hb1.trans (hb2.mono hb1.size))
  have HL2 := Lib.hid hL2
  have HW1 := Lib.hid hb1.size
  clear hb1 hb2 hL2 HP
  go_upto_region 6 with (first
    | (refine wpList_built rfl 61 #[(0, .const (.int .i64 1))] rfl (vals := #[(0, .int .i64 1)]) (by go_simp) (HBu.out _) ?_)
    | (go_at_call 30; refine (HA.out _ _ _ HL2.out (HT.out.kept HB2.out)).mono ?_; rintro e w3 ⟨rfl, ⟨v3, hL3⟩, hn3⟩))
  have HB3 : Hid (RowKit.Below w.heap.size w w3) := Lib.hid ((Near.of_below _ HB2.out).trans hn3 |>.below (fun i hi => by
    have := HW1.out
    rcases hi with rfl | hi
    · omega
    · simp [Value.ownBlock] at hi) (Nat.le_refl _))
  have HL3 := Lib.hid hL3
  clear hn3 hL3 HA HBu
  generalize w1.heap.size = g at *
  go_wp2_with (first
    | (go_at_call 34; (with_reducible refine (HR.out _ _ _ HL3.out).mono ?_); rintro e w4 ⟨A4, c4, rfl, _, hb4⟩)
    | (go_at_call 31; (with_reducible refine (HG.out _ _ _ (HL3.out.kept hb4)).mono ?_); rintro e w5 ⟨rfl, hb5⟩; have hb5 := hb4.trans (hb5.mono hb4.size))
    | (go_at_call 31; (with_reducible refine (HG.out _ _ _ (HL3.out.kept hb5)).mono ?_); rintro e w6 ⟨rfl, hb6⟩; have hb6 := hb5.trans (hb6.mono hb5.size)))
  go_ret
  exact ⟨rfl, HB3.out.trans (hb6.mono HB3.out.size)⟩
end Go.Proofs.YtjcklmhkdpbbdaaDoor
