/- Chapter 14: the writer's guests; walked. -/
import Derived.Test.YtmhbpfclfffgkaaCfWs
import Derived.Test.YtmhbpfclfffgkaaCfY
import Derived.Lib.BufferWrite
namespace Go.Proofs.Ytmhbpfclfffgkaa
set_option linter.unusedVariables false
set_option linter.unusedSimpArgs false
open Go.RowKit Go.Sort


/-- The writer on its way, a guest's box beside it. -/
structure GWr (B gw gx : Nat) (g : Gs × Gp) (bs : List Int) (w0 w : World) : Prop where
  st : WSt B gw bs w
  box : Blk w gx 70 (gcells g).toArray
  wrt : Wrt B gw w0 w
  ne : gx ≠ gw
  le : B ≤ w.heap.size
section
variable {B gw gx : Nat} {g : Gs × Gp} {bs bs' : List Int} {w0 w w' : World}
theorem GWr.below (h : GWr B gw gx g bs w0 w) (hb : Below w.heap.size w w') : GWr B gw gx g bs w0 w' := ⟨h.st.below hb, h.box.kept hb, h.wrt.trans (Wrt.of_below hb h.le), h.ne, Nat.le_trans h.le hb.size⟩
theorem GWr.step (h : GWr B gw gx g bs w0 w) (hs : WSt B gw bs' w') (hw : Wrt B gw w w') : GWr B gw gx g bs' w0 w' := ⟨hs, h.box.wrt hw (by decide) h.ne, h.wrt.trans hw, h.ne, Nat.le_trans h.le hw.size⟩
end
theorem GWr.apart {B gw gx nb : Nat} {g : Gs × Gp} {bs : List Int} {w0 w w' : World} {T : TypeId} {cs : Array Value} (h : GWr B gw gx g bs w0 w) (hn : Near (fun i => i = nb) w w') (hT : Blk w nb T cs) (hB : B ≤ nb) (h1 : nb ≠ gw) (h2 : nb ≠ gx) (hw : w0.heap.size ≤ nb) (hu : T ≠ 5) : GWr B gw gx g bs w0 w' := by
  obtain ⟨⟨hBg, A, c, hBx, hown⟩, hbox, hwrt, hne, hle⟩ := h
  refine ⟨⟨hBg, A, c, hBx.apart hn (fun e => h1 e.symm), own_same hown fun k hk => hn.block k (own_lt hown hk).2 (fun e => ?_)⟩, hbox.apart hn (fun e => h2 e.symm), ?_, hne, Nat.le_trans hle hn.size⟩
  · subst e
    exact own_blk_ne hown hT (fun e => hu e.symm) hk.symm
  · exact ⟨hn.os.trans hwrt.os, hn.tape.trans hwrt.tape, hn.output.trans hwrt.output, Nat.le_trans hwrt.size hn.size,
      fun i hi => (hn.block i (by omega) (by omega)).trans (hwrt.low i hi), fun i cs T f hc hT hg => by
        have hi := (Array.getElem?_eq_some_iff.1 hc).1
        exact (hn.block i (Nat.lt_of_lt_of_le hi hwrt.size) (by omega)).trans (hwrt.keep i cs T f hc hT hg)⟩
theorem WSt.stored {B gw n : Nat} {bs nf : List Int} {w : World} {u A' : Option Addr} {m c c' : Nat} (hB : B ≤ gw) (hx : Blk w gw 90 #[.slice u m c]) (hown : w.ownsRow B 5 1 (.slice A' (bs.length + n) c') (bs.length + n) (bs.flatMap encB ++ nf.flatMap encB)) (hl : nf.length = n) : WSt B gw (bs ++ nf) (w.setCell ⟨gw, 0, none⟩ (.slice A' (bs.length + n) c')) := by
  subst hl
  have h1 := hx.set_ 0 (.slice A' (bs.length + nf.length) c')
  refine ⟨hB, A', c', ?_, ?_⟩
  · rw [List.length_append]; simpa using h1
  · rw [List.length_append, List.flatMap_append]
    exact own_same hown fun k hk => Below.heap_setCell _ _ _ _ (by
      intro e
      have e : k = gw := e
      subst e
      exact own_blk_ne hown hx (by decide) hk.symm)
theorem gerr1 {g : Gs} (h : nameN (strB g.nm) = false) : gErr g = 143 := by unfold gErr; rw [if_pos h]
theorem gerr2 {g : Gs} (h : nameN (strB g.nm) = true) (h2 : keyB g.key = false) : gErr g = 144 := by unfold gErr; rw [if_neg (by rw [h]; decide), if_pos h2]
theorem gerr3 {g : Gs} (h : nameN (strB g.nm) = true) (h2 : keyB g.key = true) (h3 : cntOk g = false) : gErr g = 142 := by unfold gErr; rw [if_neg (by rw [h]; decide), if_neg (by rw [h2]; decide), if_pos h3]
theorem gerr4 {g : Gs} (h : nameN (strB g.nm) = true) (h2 : keyB g.key = true) (h3 : cntOk g = true) (h4 : g.ws.all wnOk = false) : gErr g = 144 := by unfold gErr; rw [if_neg (by rw [h]; decide), if_neg (by rw [h2]; decide), if_neg (by rw [h3]; decide), if_pos h4]
theorem gerr5 {g : Gs} (h : nameN (strB g.nm) = true) (h2 : keyB g.key = true) (h3 : cntOk g = true) (h4 : g.ws.all wnOk = true) (h5 : g.qs.all iqOk = false) : gErr g = 144 := by unfold gErr; rw [if_neg (by rw [h]; decide), if_neg (by rw [h2]; decide), if_neg (by rw [h3]; decide), if_neg (by rw [h4]; decide), if_pos h5]
theorem gerr0 {g : Gs} (h : nameN (strB g.nm) = true) (h2 : keyB g.key = true) (h3 : cntOk g = true) (h4 : g.ws.all wnOk = true) (h5 : g.qs.all iqOk = true) : gErr g = 0 := by unfold gErr; rw [if_neg (by rw [h]; decide), if_neg (by rw [h2]; decide), if_neg (by rw [h3]; decide), if_neg (by rw [h4]; decide), if_neg (by rw [h5]; decide)]
theorem byteCells_strB (s : ByteArray) : Lib.byteCells s.data.toList = (strB s).flatMap encB := by
  rw [flatB_map]
  unfold Lib.byteCells strB
  rw [List.map_map]
  rfl
theorem copy_name (w : World) (ty : TypeId) (nb : Nat) (nm : ByteArray) (hB : Blk w nb 149 #[.int .u8 0, .int .u8 0, .int .u8 0, .int .u8 0, .int .u8 0, .int .u8 0, .int .u8 0, .int .u8 0, .int .u8 0, .int .u8 0, .int .u8 0, .int .u8 0, .int .u8 0, .int .u8 0, .int .u8 0, .int .u8 0]) (h : nm.size ≤ 16) :
    (Builtin.copy_ #[22, 9] ty #[.slice (some ⟨nb, 0, none⟩) 16 16, .string nm]).run Try.prog w = .ok (goInt nm.size) (w.setRow nb ((nameF nm).flatMap encB).toArray) := by
  obtain ⟨i, hi, hz, hs, hb⟩ := info_parts info_u8
  have := Lib.run_copy_row_string (P := Try.prog) w 22 9 ty 5 nb 0 16 16 nm _ 149 Try.underlying22 (by rw [hi]; exact congrArg some hs) hB h (by simp; omega)
  rw [this]
  have e : (#[.int .u8 0, .int .u8 0, .int .u8 0, .int .u8 0, .int .u8 0, .int .u8 0, .int .u8 0, .int .u8 0, .int .u8 0, .int .u8 0, .int .u8 0, .int .u8 0, .int .u8 0, .int .u8 0, .int .u8 0, .int .u8 0] : Array Value).toList = List.replicate 16 (.int .u8 0) := rfl
  rw [byteCells_strB, e, List.take_zero, List.nil_append, Nat.zero_add, List.drop_replicate, nameF, List.flatMap_append, flatB_zeros]
theorem wpList_copy_at {P : Program} {ops : Array Oper} {rest : List Oper} {o : Oper} {a : Act} {w w' : World} {Q : Exit → Act → World → Prop} (hgd : o.guard = none) (d x : Operand) (dT sT : TypeId) (ho : o.op = .call { callee := .builtin .copy, args := #[d, x], argTypes := #[dT, sT] })
    {vd vx r : Value} (hd : a.eval d = vd) (hx : a.eval x = vx) (hr : (Builtin.copy_ #[dT, sT] o.type #[vd, vx]).run P w = .ok r w') (h : wpList P ops Q rest (a.put o.dst r) w') : wpList P ops Q (o :: rest) a w :=
  wpList_plain hgd fun _ hK => by
    unfold Oper.wp execOp
    simp only [ho, resolve, invoke, builtin, Sem.run_bind, Sem.run_pure, Result.andThen_ok, List.map_toArray, List.map_cons, List.map_nil, hd, hx, hr]
    exact hK _ _ h
set_option maxRecDepth 100000 in
set_option maxHeartbeats 8000000 in
theorem wguest_any (B gw : Nat) (bs : List Int) (g : Gs × Gp) (w : World) (hS : WSt B gw bs w) (hB : B ≤ w.heap.size) (hG : GsR w B g) (hm : bs.length ≤ 50000) (hf : g.1.ws.length ≤ 20 ∧ g.1.ds.length ≤ 20 ∧ g.1.qs.length ≤ 70 ∧ g.1.ss.length ≤ 40 ∧ g.1.nm.size ≤ 100) :
    Calls Try.prog 45 #[.pointer (some ⟨gw, 0, none⟩), .agg (gcells g).toArray] w fun e w' => Wrt B gw w w' ∧ ((gErr g.1 ≠ 0 ∧ e = thrownC 0 (gErr g.1)) ∨ (gErr g.1 = 0 ∧ e = .returned (.tuple #[]) ∧ WSt B gw (bs ++ gB g.1) w')) := by
  have hgl : gw < w.heap.size := by obtain ⟨_, _, _, h, _⟩ := hS; exact h.lt
  have hb0 := bal (Below.refl w.heap.size w) (.cells (gcells g).toArray 70)
  have hW0 : GWr B gw w.heap.size g bs w (w.alloc (.cells (gcells g).toArray 70)) := ⟨hS.below hb0, Blk.new w 70 (gcells g).toArray, Wrt.of_below hb0 hB, by omega, Nat.le_trans hB hb0.size⟩
  have HG := Lib.hid hG
  have HF := Lib.hid hf
  have hkl := hG.kl
  have cX := (gst_cells hW0.box hkl).c0
  have HN := Lib.hid (name_any g.1.nm (w.alloc (.cells (gcells g).toArray 70)) (by have := hf.2.2.2.2; omega))
  clear hS hG hf
  go_enter Try.func45, Try.ntmps45
  go_upto_region 1 with (fail)
  obtain ⟨gx, hgx⟩ : ∃ gx, w.heap.size = gx := ⟨_, rfl⟩
  rw [hgx] at hW0 cX ⊢
  generalize w.alloc (.cells (gcells g).toArray 70) = w1 at *
  cases hnm : nameN (strB g.1.nm)
  case false =>
    rw [hnm] at HN
    have he := gerr1 hnm
    have HE := Lib.hid he
    clear he hnm
    go_wp2_with (first
      | (go_at_call 18; refine HN.out.mono ?_; rintro e w2 ⟨rfl, hb2⟩)
      | (go_at_call 42; refine (must_no _ _ _).mono ?_; rintro e1 w7 ⟨rfl, rfl⟩))
    exact ⟨rfl, (hW0.below hb2).wrt, .inl ⟨by rw [HE.out]; decide, by rw [HE.out]⟩⟩
  rw [hnm] at HN
  have hn16 : g.1.nm.size ≤ 16 := by
    have h := hnm
    unfold nameN at h
    simp only [Bool.and_eq_true, decide_eq_true_eq, strB_len] at h
    exact h.2
  have HNm := Lib.hid hnm
  clear hnm
  go_upto_region 3 with (first
    | (go_at_call 18; refine HN.out.mono ?_; rintro e w2 ⟨rfl, hb2⟩)
    | (go_at_call 42; refine (must_yes _ _ _).mono ?_; rintro e1 w7 ⟨rfl, rfl⟩))
  have hW2 := hW0.below hb2
  have hZ := Blk.new w2 149 #[.int .u8 0, .int .u8 0, .int .u8 0, .int .u8 0, .int .u8 0, .int .u8 0, .int .u8 0, .int .u8 0, .int .u8 0, .int .u8 0, .int .u8 0, .int .u8 0, .int .u8 0, .int .u8 0, .int .u8 0, .int .u8 0]
  have hW3 := hW2.below (bal (Below.refl w2.heap.size w2) (.cells #[.int .u8 0, .int .u8 0, .int .u8 0, .int .u8 0, .int .u8 0, .int .u8 0, .int .u8 0, .int .u8 0, .int .u8 0, .int .u8 0, .int .u8 0, .int .u8 0, .int .u8 0, .int .u8 0, .int .u8 0, .int .u8 0] 149))
  have hzn : (w2.alloc (.cells #[.int .u8 0, .int .u8 0, .int .u8 0, .int .u8 0, .int .u8 0, .int .u8 0, .int .u8 0, .int .u8 0, .int .u8 0, .int .u8 0, .int .u8 0, .int .u8 0, .int .u8 0, .int .u8 0, .int .u8 0, .int .u8 0] 149)).heap.size = w2.heap.size + 1 := by simp
  have hz2 : w2.heap.size ≠ gw := by have := hb2.size; have := hW0.box.lt; omega
  have hz3 : w2.heap.size ≠ gx := by have := hb2.size; have := hW0.box.lt; omega
  obtain ⟨nb, hnb⟩ : ∃ nb, w2.heap.size = nb := ⟨_, rfl⟩
  have hnB : B ≤ nb := by rw [← hnb]; exact hW2.le
  have hnw : w.heap.size ≤ nb := by rw [← hnb]; exact hW2.wrt.size
  rw [hnb] at hZ hz2 hz3 hzn ⊢
  generalize w2.alloc (.cells #[.int .u8 0, .int .u8 0, .int .u8 0, .int .u8 0, .int .u8 0, .int .u8 0, .int .u8 0, .int .u8 0, .int .u8 0, .int .u8 0, .int .u8 0, .int .u8 0, .int .u8 0, .int .u8 0, .int .u8 0, .int .u8 0] 149) = w3 at *
  have hcX := blk_regrown hW3.box
  have hc0 : ∀ (d : Nat) (os : Array Obj), (grow (redrawn w3 d) os).cell? ⟨gx, 0, none⟩ = some (.string g.1.nm) := fun d os => (hcX d os 0).trans (by simp [gcells])
  clear hcX
  refine wp_region_tail_below 3 (by kernel_rfl) (by kernel_rfl) ?_
  simp only [List.take_succ_cons, List.take_zero, List.drop_succ_cons, List.drop_zero]
  repeat (quiet_step ((fail)))
  refine wpQuiet_nil ?_
  rintro w4 ⟨q, rfl⟩
  have hb4 := below_regrown w3 q.d q.os
  have hZ4 := hZ.kept hb4
  have hW4 := hW3.below hb4
  generalize grow (redrawn w3 q.d) q.os = w4 at *
  have hcp := copy_name w4 3 nb g.1.nm hZ4 hn16
  refine wpList_copy_at rfl (.tmp 15) (.tmp 17) 22 9 rfl rfl rfl hcp ?_
  have hnear : Near (fun i => i = nb) w4 (w4.setRow nb ((nameF g.1.nm).flatMap encB).toArray) := ⟨rfl, rfl, rfl, by simp, fun i _ hi => setRow_other w4 nb i _ hi⟩
  have hZ5 : Blk (w4.setRow nb ((nameF g.1.nm).flatMap encB).toArray) nb 149 ((nameF g.1.nm).flatMap encB).toArray := setRow_heap w4 nb _ _ _ (0, 0) hZ4
  have hW5 := hW4.apart hnear hZ4 hnB hz2 hz3 hnw (by decide)
  have hnl := nameF_len hn16
  generalize hnf : nameF g.1.nm = nf at *
  have HNf := Lib.hid hnf
  generalize w4.setRow nb (nf.flatMap encB).toArray = w5 at *
  clear hcp hnear hc0 hZ hZ4 hb4 hnf hzn
  -- the name's bytes
  have hRd : Rd w5.drew w5.drew.heap.size 1 (some ⟨nb, 0, none⟩) 16 (nf.flatMap encB) := by
    refine ⟨by rw [flatB_len, hnl], fun _ => ⟨nb, 0, rfl, hZ5.lt, fun j u hu => ?_⟩⟩
    rw [Nat.zero_add]
    exact (hZ5.drew.cell j).trans (by simpa using hu)
  obtain ⟨_, A, c, hBx, hown⟩ := hW5.st
  go_upto_region 4 with (fail)
  have cB5 := hBx.drew.cell
  refine wp_region_held_drew (S := fun W' : World => True) (by kernel_rfl) trivial (fun hHeld => ?_)
  clear hHeld
  refine wpAnyH_take (i := 0) (v := ?va0) rfl (by kernel_rfl) (by kernel_rfl) (by kernel_rfl) (fun _ _ _ h => h) (Or.inl ⟨by kernel_rfl, ?hya0⟩) trivial ?resta0
  case hya0 =>
    intro w hSw
    clear hSw
    go_simp
    first | done | with_reducible rfl
  (try simp only [List.getElem_toArray, List.getElem_cons_succ, List.getElem_cons_zero, Act.put, List.setIfInBounds_toArray, List.set_cons_zero, List.set_cons_succ])
  refine wpAnyH_take (i := 1) (v := ?va1) rfl (by kernel_rfl) (by kernel_rfl) (by kernel_rfl) (fun _ _ _ h => h) (Or.inl ⟨by kernel_rfl, ?hya1⟩) trivial ?resta1
  case hya1 =>
    intro w hSw
    clear hSw
    go_simp
    first | done | with_reducible rfl
  (try simp only [List.getElem_toArray, List.getElem_cons_succ, List.getElem_cons_zero, Act.put, List.setIfInBounds_toArray, List.set_cons_zero, List.set_cons_succ])
  refine wpAnyH_take (i := 2) (v := ?va2) rfl (by kernel_rfl) (by kernel_rfl) (by kernel_rfl) (fun _ _ _ h => h) (Or.inl ⟨by kernel_rfl, ?hya2⟩) trivial ?resta2
  case hya2 =>
    intro w hSw
    clear hSw
    go_simp
    first | done | with_reducible rfl
  (try simp only [List.getElem_toArray, List.getElem_cons_succ, List.getElem_cons_zero, Act.put, List.setIfInBounds_toArray, List.set_cons_zero, List.set_cons_succ])
  refine wpAnyH_take (i := 3) (v := ?va3) rfl (by kernel_rfl) (by kernel_rfl) (by kernel_rfl) (fun _ _ _ h => h) (Or.inl ⟨by kernel_rfl, ?hya3⟩) trivial ?resta3
  case hya3 =>
    intro w hSw
    clear hSw
    go_simp
    first | done | with_reducible rfl
  (try simp only [List.getElem_toArray, List.getElem_cons_succ, List.getElem_cons_zero, Act.put, List.setIfInBounds_toArray, List.set_cons_zero, List.set_cons_succ])
  refine wpAnyH_take (i := 5) (v := ?va5) rfl (by kernel_rfl) (by kernel_rfl) (by kernel_rfl) (fun _ _ _ h => h) (Or.inl ⟨by kernel_rfl, ?hya5⟩) trivial ?resta5
  case hya5 =>
    intro w hSw
    clear hSw
    go_simp
    first | done | with_reducible rfl
  (try simp only [List.getElem_toArray, List.getElem_cons_succ, List.getElem_cons_zero, Act.put, List.setIfInBounds_toArray, List.set_cons_zero, List.set_cons_succ])
  refine wpAnyH_call (i := 4) (by kernel_rfl) rfl (by kernel_rfl) fun K hK => ?_
  simp only [List.getElem_toArray, List.getElem_cons_succ, List.getElem_cons_zero]
  go_simp
  refine hK.out _ _ trivial ?_
  clear hK K
  (try simp only [List.getElem_toArray, List.getElem_cons_succ, List.getElem_cons_zero, Act.put, List.setIfInBounds_toArray, List.set_cons_zero, List.set_cons_succ])
  refine wpAnyH_call (i := 6) (by kernel_rfl) rfl (by kernel_rfl) fun K hK => ?_
  simp only [List.getElem_toArray, List.getElem_cons_succ, List.getElem_cons_zero]
  refine wp_app w5.drew u8_elem (.tmp 23) (.tmp 24) rfl B _ _ _ rfl hown _ _ _ _ _ rfl hRd (one_b _) (by unfold maxLen; omega) (by omega) hW5.le ?_
  intro v' w6 hown' hb6 hg6
  obtain ⟨A', c', rfl, _, _⟩ := own_slice hown'
  have hBx6 := hBx.drew.grown hg6 (fun e => own_blk_ne hown hBx (by decide) e)
  refine hK.out _ _ trivial ?_
  clear hK K
  (try simp only [List.getElem_toArray, List.getElem_cons_succ, List.getElem_cons_zero, Act.put, List.setIfInBounds_toArray, List.set_cons_zero, List.set_cons_succ])
  refine wpAnyH_take (i := 7) (v := ?va7) rfl (by kernel_rfl) (by kernel_rfl) (by kernel_rfl) (fun _ _ _ h => h) (Or.inl ⟨by kernel_rfl, ?hya7⟩) trivial ?resta7
  case hya7 =>
    intro w hSw
    clear hSw
    go_simp
    first | done | with_reducible rfl
  (try simp only [List.getElem_toArray, List.getElem_cons_succ, List.getElem_cons_zero, Act.put, List.setIfInBounds_toArray, List.set_cons_zero, List.set_cons_succ])
  refine wpAnyH_take (i := 8) (v := ?va8) rfl (by kernel_rfl) (by kernel_rfl) (by kernel_rfl) (fun _ _ _ h => h) (Or.inl ⟨by kernel_rfl, ?hya8⟩) trivial ?resta8
  case hya8 =>
    intro w hSw
    clear hSw
    go_simp
    first | done | with_reducible rfl
  (try simp only [List.getElem_toArray, List.getElem_cons_succ, List.getElem_cons_zero, Act.put, List.setIfInBounds_toArray, List.set_cons_zero, List.set_cons_succ])
  have cB6 := hBx6.cell
  have fB6 := hBx6.frozen
  clear cB5
  refine wpAnyH_call (i := 9) (by kernel_rfl) rfl (by kernel_rfl) fun K hK => ?_
  simp only [List.getElem_toArray, List.getElem_cons_succ, List.getElem_cons_zero]
  go_simp
  refine hK.out _ _ trivial ?_
  clear hK K
  (try simp only [List.getElem_toArray, List.getElem_cons_succ, List.getElem_cons_zero, Act.put, List.setIfInBounds_toArray, List.set_cons_zero, List.set_cons_succ])
  refine wpAnyH_done (by kernel_rfl) ?_ _
  have hdr : Below w5.heap.size w5 w5.drew := (Below.refl _ _).drew
  have hrow : w5.drew.ownsRow B 5 1 (.slice A bs.length c) bs.length (bs.flatMap encB) := hown
  have hst7 : WSt B gw (bs ++ nf) (w6.setCell ⟨gw, 0, none⟩ (.slice A' (bs.length + 16) c')) := WSt.stored hW5.st.1 hBx6 hown' hnl
  have hwr7 : Wrt B gw w5 (w6.setCell ⟨gw, 0, none⟩ (.slice A' (bs.length + 16) c')) := ((Wrt.of_below hdr hW5.le).grown hrow (Nat.le_refl _) hg6 hW5.le).set hW5.st.1 0 _
  have hW7 := hW5.step hst7 hwr7
  clear hst7 hwr7 hrow hdr hBx6 cB6 fB6 hown' hb6 hg6 hRd hown hBx hZ5
  generalize w6.setCell ⟨gw, 0, none⟩ (.slice A' (bs.length + 16) c') = w7 at *
  -- the flags
  have hin4 : ∀ x ∈ [truthN g.1.mand, g.1.off, g.1.len, g.1.cpus], 0 ≤ x ∧ x < 4294967296 := by
    intro x hx
    simp only [List.mem_cons, List.not_mem_nil, or_false] at hx
    rcases hx with rfl | rfl | rfl | rfl
    · cases g.1.mand <;> decide
    · exact HG.out.off
    · exact HG.out.len
    · exact HG.out.cpus
  go_upto_region 5 with (fail)
  have hc7 := gst_cells hW7.box hkl
  have hS1 : (fun W' : World => W'.cell? ⟨gx, 1, none⟩ = some (.bool g.1.mand) ∧ W'.cell? ⟨gx, 2, none⟩ = some (.int .u32 g.1.off) ∧ W'.cell? ⟨gx, 3, none⟩ = some (.int .u32 g.1.len) ∧ W'.cell? ⟨gx, 4, none⟩ = some (.int .u32 g.1.cpus)) w7.drew := ⟨hc7.c1, hc7.c2, hc7.c3, hc7.c4⟩
  refine wp_region_held_drew (S := fun W' : World => W'.cell? ⟨gx, 1, none⟩ = some (.bool g.1.mand) ∧ W'.cell? ⟨gx, 2, none⟩ = some (.int .u32 g.1.off) ∧ W'.cell? ⟨gx, 3, none⟩ = some (.int .u32 g.1.len) ∧ W'.cell? ⟨gx, 4, none⟩ = some (.int .u32 g.1.cpus)) (by kernel_rfl) hS1 (fun hHeld => ?_)
  clear hHeld
  refine wpAnyH_take (i := 0) (v := ?vb0) rfl (by kernel_rfl) (by kernel_rfl) (by kernel_rfl) (fun _ _ _ h => h) (Or.inl ⟨by kernel_rfl, ?hyb0⟩) hS1 ?restb0
  case hyb0 =>
    intro w hSw
    clear hSw
    go_simp
    first | done | with_reducible rfl
  (try simp only [List.getElem_toArray, List.getElem_cons_succ, List.getElem_cons_zero, Act.put, List.setIfInBounds_toArray, List.set_cons_zero, List.set_cons_succ])
  refine wpAnyH_take (i := 1) (v := ?vb1) rfl (by kernel_rfl) (by kernel_rfl) (by kernel_rfl) (fun _ _ _ h => h) (Or.inl ⟨by kernel_rfl, ?hyb1⟩) hS1 ?restb1
  case hyb1 =>
    intro w hSw
    clear hSw
    go_simp
    first | done | with_reducible rfl
  (try simp only [List.getElem_toArray, List.getElem_cons_succ, List.getElem_cons_zero, Act.put, List.setIfInBounds_toArray, List.set_cons_zero, List.set_cons_succ])
  refine wpAnyH_take (i := 2) (v := ?vb2) rfl (by kernel_rfl) (by kernel_rfl) (by kernel_rfl) (fun _ _ _ h => h) (Or.inl ⟨by kernel_rfl, ?hyb2⟩) hS1 ?restb2
  case hyb2 =>
    intro w hSw
    (try dsimp only at hSw)
    go_simp
    first | done | with_reducible rfl
  (try simp only [List.getElem_toArray, List.getElem_cons_succ, List.getElem_cons_zero, Act.put, List.setIfInBounds_toArray, List.set_cons_zero, List.set_cons_succ])
  refine wpAnyH_take (i := 4) (v := ?vb4) rfl (by kernel_rfl) (by kernel_rfl) (by kernel_rfl) (fun _ _ _ h => h) (Or.inl ⟨by kernel_rfl, ?hyb4⟩) hS1 ?restb4
  case hyb4 =>
    intro w hSw
    clear hSw
    go_simp
    first | done | with_reducible rfl
  (try simp only [List.getElem_toArray, List.getElem_cons_succ, List.getElem_cons_zero, Act.put, List.setIfInBounds_toArray, List.set_cons_zero, List.set_cons_succ])
  refine wpAnyH_take (i := 5) (v := ?vb5) rfl (by kernel_rfl) (by kernel_rfl) (by kernel_rfl) (fun _ _ _ h => h) (Or.inl ⟨by kernel_rfl, ?hyb5⟩) hS1 ?restb5
  case hyb5 =>
    intro w hSw
    (try dsimp only at hSw)
    go_simp
    first | done | with_reducible rfl
  (try simp only [List.getElem_toArray, List.getElem_cons_succ, List.getElem_cons_zero, Act.put, List.setIfInBounds_toArray, List.set_cons_zero, List.set_cons_succ])
  refine wpAnyH_take (i := 6) (v := ?vb6) rfl (by kernel_rfl) (by kernel_rfl) (by kernel_rfl) (fun _ _ _ h => h) (Or.inl ⟨by kernel_rfl, ?hyb6⟩) hS1 ?restb6
  case hyb6 =>
    intro w hSw
    clear hSw
    go_simp
    first | done | with_reducible rfl
  (try simp only [List.getElem_toArray, List.getElem_cons_succ, List.getElem_cons_zero, Act.put, List.setIfInBounds_toArray, List.set_cons_zero, List.set_cons_succ])
  refine wpAnyH_take (i := 7) (v := ?vb7) rfl (by kernel_rfl) (by kernel_rfl) (by kernel_rfl) (fun _ _ _ h => h) (Or.inl ⟨by kernel_rfl, ?hyb7⟩) hS1 ?restb7
  case hyb7 =>
    intro w hSw
    (try dsimp only at hSw)
    go_simp
    first | done | with_reducible rfl
  (try simp only [List.getElem_toArray, List.getElem_cons_succ, List.getElem_cons_zero, Act.put, List.setIfInBounds_toArray, List.set_cons_zero, List.set_cons_succ])
  refine wpAnyH_take (i := 8) (v := ?vb8) rfl (by kernel_rfl) (by kernel_rfl) (by kernel_rfl) (fun _ _ _ h => h) (Or.inl ⟨by kernel_rfl, ?hyb8⟩) hS1 ?restb8
  case hyb8 =>
    intro w hSw
    clear hSw
    go_simp
    first | done | with_reducible rfl
  (try simp only [List.getElem_toArray, List.getElem_cons_succ, List.getElem_cons_zero, Act.put, List.setIfInBounds_toArray, List.set_cons_zero, List.set_cons_succ])
  refine wpAnyH_take (i := 9) (v := ?vb9) rfl (by kernel_rfl) (by kernel_rfl) (by kernel_rfl) (fun _ _ _ h => h) (Or.inl ⟨by kernel_rfl, ?hyb9⟩) hS1 ?restb9
  case hyb9 =>
    intro w hSw
    (try dsimp only at hSw)
    go_simp
    first | done | with_reducible rfl
  (try simp only [List.getElem_toArray, List.getElem_cons_succ, List.getElem_cons_zero, Act.put, List.setIfInBounds_toArray, List.set_cons_zero, List.set_cons_succ])
  refine wpAnyH_call (i := 3) (by kernel_rfl) rfl (by kernel_rfl) fun K hK => ?_
  simp only [List.getElem_toArray, List.getElem_cons_succ, List.getElem_cons_zero]
  go_simp
  go_at_call 80
  refine (truth_any _ _).mono ?_
  rintro e1 wt ⟨rfl, rfl⟩
  refine hK.out _ _ hS1 ?_
  clear hK K
  (try simp only [List.getElem_toArray, List.getElem_cons_succ, List.getElem_cons_zero, Act.put, List.setIfInBounds_toArray, List.set_cons_zero, List.set_cons_succ])
  refine wpAnyH_call (i := 10) (by kernel_rfl) rfl (by kernel_rfl) fun K hK => ?_
  simp only [List.getElem_toArray, List.getElem_cons_succ, List.getElem_cons_zero]
  go_simp
  have hb8 : Below w7.heap.size w7 (w7.alloc (.cells #[.int .u32 (truthN g.1.mand), .int .u32 g.1.off, .int .u32 g.1.len, .int .u32 g.1.cpus] 24)).drew := (bal (Below.refl _ _) _).drew
  have hW8 := hW7.below hb8
  have hc8 := gst_cells hW8.box hkl
  have hR8 : Rd (w7.alloc (.cells #[.int .u32 (truthN g.1.mand), .int .u32 g.1.off, .int .u32 g.1.len, .int .u32 g.1.cpus] 24)).drew (w7.alloc (.cells #[.int .u32 (truthN g.1.mand), .int .u32 g.1.off, .int .u32 g.1.len, .int .u32 g.1.cpus] 24)).drew.heap.size 1 (some ⟨w7.heap.size, 0, none⟩) 4 ([truthN g.1.mand, g.1.off, g.1.len, g.1.cpus].flatMap encU32) := Rd.drew (Rd.fresh w7 #[.int .u32 (truthN g.1.mand), .int .u32 g.1.off, .int .u32 g.1.len, .int .u32 g.1.cpus] 24 4 1 _ rfl rfl)
  refine hK.out _ _ ⟨hc8.c1, hc8.c2, hc8.c3, hc8.c4⟩ ?_
  clear hK K
  (try simp only [List.getElem_toArray, List.getElem_cons_succ, List.getElem_cons_zero, Act.put, List.setIfInBounds_toArray, List.set_cons_zero, List.set_cons_succ])
  generalize (w7.alloc (.cells #[.int .u32 (truthN g.1.mand), .int .u32 g.1.off, .int .u32 g.1.len, .int .u32 g.1.cpus] 24)).drew = w8 at *
  refine wpAnyH_call (i := 11) (by kernel_rfl) rfl (by kernel_rfl) fun K hK => ?_
  simp only [List.getElem_toArray, List.getElem_cons_succ, List.getElem_cons_zero]
  go_simp
  go_at_call 43
  refine (wfour_any B gw (bs ++ nf) [truthN g.1.mand, g.1.off, g.1.len, g.1.cpus] _ 4 4 w8 hW8.st rfl (by rw [List.length_append]; omega) (by decide) hin4 hR8).mono ?_
  rintro e1 w9 ⟨rfl, hst9, hwr9⟩
  have hW9 := hW8.step hst9 hwr9
  have hc9 := gst_cells hW9.box hkl
  refine hK.out _ _ ⟨hc9.c1, hc9.c2, hc9.c3, hc9.c4⟩ ?_
  clear hK K
  (try simp only [List.getElem_toArray, List.getElem_cons_succ, List.getElem_cons_zero, Act.put, List.setIfInBounds_toArray, List.set_cons_zero, List.set_cons_succ])
  refine wpAnyH_done (by kernel_rfl) ?_ _
  clear hc7 hS1 hb8 hW8 hc8 hR8 hst9 hwr9 hin4
  obtain ⟨b1, hb1⟩ : ∃ b, (bs ++ nf) ++ [truthN g.1.mand, g.1.off, g.1.len, g.1.cpus].flatMap (bytesN 4 false) = b := ⟨_, rfl⟩
  have hl1 : b1.length = bs.length + 32 := by rw [← hb1]; simp only [List.length_append, bytesNl_len, hnl, List.length_cons, List.length_nil]
  have HL1 := Lib.hid hl1
  clear hl1
  rw [hb1] at hW9
  have c5 := hc9.c5
  have c6 := hc9.c6
  have hb10 := bal (Below.refl w9.heap.size w9) (.cells #[.int .u64 g.1.entry, .int .u64 g.1.dtb] 61)
  have hW10 := hW9.below hb10
  have hR10 := Rd.fresh w9 #[.int .u64 g.1.entry, .int .u64 g.1.dtb] 61 2 1 _ rfl rfl
  have H10 := Lib.hid (weight_any B gw b1 [g.1.entry, g.1.dtb] _ 2 2 _ hW10.st rfl (by have := HL1.out; omega) (by decide) (by
    intro x hx
    simp only [List.mem_cons, List.not_mem_nil, or_false] at hx
    rcases hx with rfl | rfl
    · exact HG.out.entry
    · exact HG.out.dtb) hR10)
  go_upto_region 7 with (go_at_call 46; refine H10.out.mono ?_; rintro e1 w11 ⟨rfl, hst11, hwr11⟩)
  have hW11 := hW10.step hst11 hwr11
  clear hb10 hW10 hR10 H10 hst11 hwr11 hc9 c5 c6 hW9
  obtain ⟨b2, hb2'⟩ : ∃ b, b1 ++ [g.1.entry, g.1.dtb].flatMap (bytesN 8 false) = b := ⟨_, rfl⟩
  have hl2 : b2.length = bs.length + 48 := by rw [← hb2']; simp only [List.length_append, bytesNl_len, HL1.out, List.length_cons, List.length_nil]
  have HL2 := Lib.hid hl2
  clear hl2
  rw [hb2'] at hW11
  -- the key
  have hTk := (gst_cells hW11.box hkl).key
  have hik : (Try.prog.info? 64).map (·.size) = some (g.1.key.flatMap encB).length := by rw [flatB_len, hkl]; kernel_rfl
  have HK := Lib.hid (keyed_any g.1.key w11 hkl HG.out.kb)
  cases hky : keyB g.1.key
  case false =>
    rw [hky] at HK
    have he := gerr2 HNm.out hky
    have HE := Lib.hid he
    clear he hky
    go_wp2_with (first
      | (refine wpList_load_mid rfl 64 (.tmp 47) rfl gx 7 (by rfl) (g.1.key.flatMap encB) _ hTk Try.underlying64 rfl hik ?_)
      | (go_at_call 81; refine HK.out.mono ?_; rintro e1 w12 ⟨rfl, hb12⟩)
      | (go_at_call 42; refine (must_no _ _ _).mono ?_; rintro e1 w13 ⟨rfl, rfl⟩))
    exact ⟨rfl, (hW11.below hb12).wrt, .inl ⟨by rw [HE.out]; decide, by rw [HE.out]⟩⟩
  rw [hky] at HK
  have HKy := Lib.hid hky
  clear hky
  go_upto_region 8 with (first
    | (refine wpList_load_mid rfl 64 (.tmp 47) rfl gx 7 (by rfl) (g.1.key.flatMap encB) _ hTk Try.underlying64 rfl hik ?_)
    | (go_at_call 81; refine HK.out.mono ?_; rintro e1 w12 ⟨rfl, hb12⟩)
    | (go_at_call 42; refine (must_yes _ _ _).mono ?_; rintro e1 w13 ⟨rfl, rfl⟩))
  have hW12 := hW11.below hb12
  clear hTk hik HK hb12 hW11
  have hgk := (gst_cells hW12.box hkl).key
  have hRd : Rd w12.drew w12.drew.heap.size 1 (some ⟨gx, 7, none⟩) 68 (g.1.key.flatMap encB) := ⟨by rw [flatB_len, hkl], fun _ => ⟨gx, 7, rfl, hW12.box.lt, hgk⟩⟩
  obtain ⟨_, A, c, hBx, hown⟩ := hW12.st
  have cB5 := hBx.drew.cell
  refine wp_region_held_drew (S := fun W' : World => True) (by kernel_rfl) trivial (fun hHeld => ?_)
  clear hHeld
  refine wpAnyH_take (i := 0) (v := ?vc0) rfl (by kernel_rfl) (by kernel_rfl) (by kernel_rfl) (fun _ _ _ h => h) (Or.inl ⟨by kernel_rfl, ?hyc0⟩) trivial ?restc0
  case hyc0 =>
    intro w hSw
    clear hSw
    go_simp
    first | done | with_reducible rfl
  (try simp only [List.getElem_toArray, List.getElem_cons_succ, List.getElem_cons_zero, Act.put, List.setIfInBounds_toArray, List.set_cons_zero, List.set_cons_succ])
  refine wpAnyH_take (i := 1) (v := ?vc1) rfl (by kernel_rfl) (by kernel_rfl) (by kernel_rfl) (fun _ _ _ h => h) (Or.inl ⟨by kernel_rfl, ?hyc1⟩) trivial ?restc1
  case hyc1 =>
    intro w hSw
    clear hSw
    go_simp
    first | done | with_reducible rfl
  (try simp only [List.getElem_toArray, List.getElem_cons_succ, List.getElem_cons_zero, Act.put, List.setIfInBounds_toArray, List.set_cons_zero, List.set_cons_succ])
  refine wpAnyH_take (i := 2) (v := ?vc2) rfl (by kernel_rfl) (by kernel_rfl) (by kernel_rfl) (fun _ _ _ h => h) (Or.inl ⟨by kernel_rfl, ?hyc2⟩) trivial ?restc2
  case hyc2 =>
    intro w hSw
    clear hSw
    go_simp
    first | done | with_reducible rfl
  (try simp only [List.getElem_toArray, List.getElem_cons_succ, List.getElem_cons_zero, Act.put, List.setIfInBounds_toArray, List.set_cons_zero, List.set_cons_succ])
  refine wpAnyH_take (i := 3) (v := ?vc3) rfl (by kernel_rfl) (by kernel_rfl) (by kernel_rfl) (fun _ _ _ h => h) (Or.inl ⟨by kernel_rfl, ?hyc3⟩) trivial ?restc3
  case hyc3 =>
    intro w hSw
    clear hSw
    go_simp
    first | done | with_reducible rfl
  (try simp only [List.getElem_toArray, List.getElem_cons_succ, List.getElem_cons_zero, Act.put, List.setIfInBounds_toArray, List.set_cons_zero, List.set_cons_succ])
  refine wpAnyH_take (i := 5) (v := ?vc5) rfl (by kernel_rfl) (by kernel_rfl) (by kernel_rfl) (fun _ _ _ h => h) (Or.inl ⟨by kernel_rfl, ?hyc5⟩) trivial ?restc5
  case hyc5 =>
    intro w hSw
    clear hSw
    go_simp
    first | done | with_reducible rfl
  (try simp only [List.getElem_toArray, List.getElem_cons_succ, List.getElem_cons_zero, Act.put, List.setIfInBounds_toArray, List.set_cons_zero, List.set_cons_succ])
  refine wpAnyH_take (i := 6) (v := ?vc6) rfl (by kernel_rfl) (by kernel_rfl) (by kernel_rfl) (fun _ _ _ h => h) (Or.inl ⟨by kernel_rfl, ?hyc6⟩) trivial ?restc6
  case hyc6 =>
    intro w hSw
    clear hSw
    go_simp
    first | done | with_reducible rfl
  (try simp only [List.getElem_toArray, List.getElem_cons_succ, List.getElem_cons_zero, Act.put, List.setIfInBounds_toArray, List.set_cons_zero, List.set_cons_succ])
  refine wpAnyH_call (i := 4) (by kernel_rfl) rfl (by kernel_rfl) fun K hK => ?_
  simp only [List.getElem_toArray, List.getElem_cons_succ, List.getElem_cons_zero]
  go_simp
  refine hK.out _ _ trivial ?_
  clear hK K
  (try simp only [List.getElem_toArray, List.getElem_cons_succ, List.getElem_cons_zero, Act.put, List.setIfInBounds_toArray, List.set_cons_zero, List.set_cons_succ])
  refine wpAnyH_call (i := 7) (by kernel_rfl) rfl (by kernel_rfl) fun K hK => ?_
  simp only [List.getElem_toArray, List.getElem_cons_succ, List.getElem_cons_zero]
  refine wp_app w12.drew u8_elem (.tmp 55) (.tmp 57) rfl B (.slice A b2.length c) b2.length (b2.flatMap encB) ?hs8 hown w12.drew.heap.size (some ⟨gx, 7, none⟩) 68 68 (g.1.key.flatMap encB) ?hx8 hRd (one_b _) (by have := HL2.out; unfold maxLen; omega) (by have := HL2.out; omega) hW12.le ?_
  case hs8 => go_simp
  case hx8 => go_simp
  intro v' w6 hown' hb6 hg6
  obtain ⟨A', c', rfl, _, _⟩ := own_slice hown'
  have hBx6 := hBx.drew.grown hg6 (fun e => own_blk_ne hown hBx (by decide) e)
  refine hK.out _ _ trivial ?_
  clear hK K
  (try simp only [List.getElem_toArray, List.getElem_cons_succ, List.getElem_cons_zero, Act.put, List.setIfInBounds_toArray, List.set_cons_zero, List.set_cons_succ])
  refine wpAnyH_take (i := 8) (v := ?vc8) rfl (by kernel_rfl) (by kernel_rfl) (by kernel_rfl) (fun _ _ _ h => h) (Or.inl ⟨by kernel_rfl, ?hyc8⟩) trivial ?restc8
  case hyc8 =>
    intro w hSw
    clear hSw
    go_simp
    first | done | with_reducible rfl
  (try simp only [List.getElem_toArray, List.getElem_cons_succ, List.getElem_cons_zero, Act.put, List.setIfInBounds_toArray, List.set_cons_zero, List.set_cons_succ])
  refine wpAnyH_take (i := 9) (v := ?vc9) rfl (by kernel_rfl) (by kernel_rfl) (by kernel_rfl) (fun _ _ _ h => h) (Or.inl ⟨by kernel_rfl, ?hyc9⟩) trivial ?restc9
  case hyc9 =>
    intro w hSw
    clear hSw
    go_simp
    first | done | with_reducible rfl
  (try simp only [List.getElem_toArray, List.getElem_cons_succ, List.getElem_cons_zero, Act.put, List.setIfInBounds_toArray, List.set_cons_zero, List.set_cons_succ])
  have cB6 := hBx6.cell
  have fB6 := hBx6.frozen
  clear cB5
  refine wpAnyH_call (i := 10) (by kernel_rfl) rfl (by kernel_rfl) fun K hK => ?_
  simp only [List.getElem_toArray, List.getElem_cons_succ, List.getElem_cons_zero]
  go_simp
  refine hK.out _ _ trivial ?_
  clear hK K
  (try simp only [List.getElem_toArray, List.getElem_cons_succ, List.getElem_cons_zero, Act.put, List.setIfInBounds_toArray, List.set_cons_zero, List.set_cons_succ])
  refine wpAnyH_done (by kernel_rfl) ?_ _
  have hdr : Below w12.heap.size w12 w12.drew := (Below.refl _ _).drew
  have hrow : w12.drew.ownsRow B 5 1 (.slice A b2.length c) b2.length (b2.flatMap encB) := hown
  have hst7 : WSt B gw (b2 ++ g.1.key) (w6.setCell ⟨gw, 0, none⟩ (.slice A' (b2.length + 68) c')) := WSt.stored hW12.st.1 hBx6 hown' hkl
  have hwr7 : Wrt B gw w12 (w6.setCell ⟨gw, 0, none⟩ (.slice A' (b2.length + 68) c')) := ((Wrt.of_below hdr hW12.le).grown hrow (Nat.le_refl _) hg6 hW12.le).set hW12.st.1 0 _
  have hW13 := hW12.step hst7 hwr7
  clear hst7 hwr7 hrow hdr hBx6 cB6 fB6 hown' hb6 hg6 hRd hown hBx hgk hW12
  generalize w6.setCell ⟨gw, 0, none⟩ (.slice A' (b2.length + 68) c') = w13 at *
  obtain ⟨b3, hb3'⟩ : ∃ b, b2 ++ g.1.key = b := ⟨_, rfl⟩
  have hl3 : b3.length = bs.length + 116 := by rw [← hb3', List.length_append, HL2.out, hkl]
  rw [hb3'] at hW13
  have hgh : b3 = bs ++ gHd g.1 := by rw [← hb3', ← hb2', ← hb1, ← HNf.out]; simp only [gHd, List.append_assoc]
  have HL3 := Lib.hid hl3
  have HGh := Lib.hid hgh
  clear hl3 hb1 hb2' hb3' hgh hnl
  go_upto_region 9 with (fail)
  obtain ⟨-, -, -, -, -, -, -, cW, cD, cI, cS, -⟩ := gst_cells hW13.box hkl
  by_cases z1 : 1 ≤ g.1.ws.length
  case neg =>
    have e1 : decide ((1 : Int) ≤ (g.1.ws.length : Int)) = false := decide_eq_false (by omega)
    have he := gerr3 HNm.out HKy.out (by unfold cntOk; rw [decide_eq_false z1]; simp)
    have HE := Lib.hid he
    clear he z1
    go_wp2_with (go_at_call 42; refine (must_no _ _ _).mono ?_; rintro e1 w14 ⟨rfl, rfl⟩)
    exact ⟨rfl, hW13.wrt, .inl ⟨by rw [HE.out]; decide, by rw [HE.out]⟩⟩
  have e1 : decide ((1 : Int) ≤ (g.1.ws.length : Int)) = true := decide_eq_true (by omega)
  by_cases z2 : g.1.ws.length ≤ 16
  case neg =>
    have e2 : decide ((g.1.ws.length : Int) ≤ 16) = false := decide_eq_false (by omega)
    have he := gerr3 HNm.out HKy.out (by unfold cntOk; rw [decide_eq_false z2]; simp)
    have HE := Lib.hid he
    clear he z2
    go_wp2_with (go_at_call 42; refine (must_no _ _ _).mono ?_; rintro e1 w14 ⟨rfl, rfl⟩)
    exact ⟨rfl, hW13.wrt, .inl ⟨by rw [HE.out]; decide, by rw [HE.out]⟩⟩
  have e2 : decide ((g.1.ws.length : Int) ≤ 16) = true := decide_eq_true (by omega)
  by_cases z3 : g.1.ds.length ≤ 16
  case neg =>
    have e3 : decide ((g.1.ds.length : Int) ≤ 16) = false := decide_eq_false (by omega)
    have he := gerr3 HNm.out HKy.out (by unfold cntOk; rw [decide_eq_false z3]; simp)
    have HE := Lib.hid he
    clear he z3
    go_wp2_with (go_at_call 42; refine (must_no _ _ _).mono ?_; rintro e1 w14 ⟨rfl, rfl⟩)
    exact ⟨rfl, hW13.wrt, .inl ⟨by rw [HE.out]; decide, by rw [HE.out]⟩⟩
  have e3 : decide ((g.1.ds.length : Int) ≤ 16) = true := decide_eq_true (by omega)
  go_upto_region 10 with (go_at_call 42; refine (must_yes _ _ _).mono ?_; rintro e1 w14 ⟨rfl, rfl⟩)
  by_cases z4 : g.1.qs.length ≤ 64
  case neg =>
    have e4 : decide ((g.1.qs.length : Int) ≤ 64) = false := decide_eq_false (by omega)
    have he := gerr3 HNm.out HKy.out (by unfold cntOk; rw [decide_eq_false z4]; simp)
    have HE := Lib.hid he
    clear he z4
    go_wp2_with (go_at_call 42; refine (must_no _ _ _).mono ?_; rintro e1 w14 ⟨rfl, rfl⟩)
    exact ⟨rfl, hW13.wrt, .inl ⟨by rw [HE.out]; decide, by rw [HE.out]⟩⟩
  have e4 : decide ((g.1.qs.length : Int) ≤ 64) = true := decide_eq_true (by omega)
  by_cases z5 : g.1.ss.length ≤ 32
  case neg =>
    have e5 : decide ((g.1.ss.length : Int) ≤ 32) = false := decide_eq_false (by omega)
    have he := gerr3 HNm.out HKy.out (by unfold cntOk; rw [decide_eq_false z5]; simp)
    have HE := Lib.hid he
    clear he z5
    go_wp2_with (go_at_call 42; refine (must_no _ _ _).mono ?_; rintro e1 w14 ⟨rfl, rfl⟩)
    exact ⟨rfl, hW13.wrt, .inl ⟨by rw [HE.out]; decide, by rw [HE.out]⟩⟩
  have e5 : decide ((g.1.ss.length : Int) ≤ 32) = true := decide_eq_true (by omega)
  have hcnt : cntOk g.1 = true := by unfold cntOk; simp only [Bool.and_eq_true, decide_eq_true_eq]; exact ⟨⟨⟨⟨z1, z2⟩, z3⟩, z4⟩, z5⟩
  go_upto_region 11 with (go_at_call 42; refine (must_yes _ _ _).mono ?_; rintro e1 w14 ⟨rfl, rfl⟩)
  have hb14 := bal (Below.refl w13.heap.size w13) (.cells #[.int .i64 g.1.ws.length, .int .i64 g.1.ds.length, .int .i64 g.1.qs.length, .int .i64 g.1.ss.length] 3)
  have hW14 := hW13.below hb14
  have hR14 := Rd.fresh w13 #[.int .i64 g.1.ws.length, .int .i64 g.1.ds.length, .int .i64 g.1.qs.length, .int .i64 g.1.ss.length] 3 4 1 _ rfl rfl
  have H14 := Lib.hid (wtwo_any B gw b3 (lenL g.1) _ 4 4 _ hW14.st rfl (by have := HL3.out; omega) (by decide) (by
    intro x hx
    simp only [lenL, List.mem_cons, List.not_mem_nil, or_false] at hx
    rcases hx with rfl | rfl | rfl | rfl <;> omega) (.inr ⟨w13.heap.size, 0, _, 3, (0, 0), rfl, heap_alloc_new w13 _, by decide, by have := hW13.st; obtain ⟨_, _, _, h, _⟩ := this; have := h.lt; omega⟩) hR14)
  go_upto_region 12 with (go_at_call 44; refine H14.out.mono ?_; rintro e1 w15 ⟨rfl, hst15, hwr15⟩)
  have hW15 := hW14.step hst15 hwr15
  obtain ⟨b4, hb4'⟩ : ∃ b, b3 ++ (lenL g.1).flatMap (bytesN 2 false) = b := ⟨_, rfl⟩
  have hl4 : b4.length = bs.length + 124 := by rw [← hb4']; simp only [List.length_append, bytesNl_len, HL3.out, lenL, List.length_cons, List.length_nil]
  rw [hb4'] at hW15
  have HL4 := Lib.hid hl4
  have HB4 := Lib.hid hb4'
  have HC := Lib.hid hcnt
  have hZ := Lib.hid (show g.1.ws.length ≤ 16 ∧ g.1.ds.length ≤ 16 ∧ g.1.qs.length ≤ 64 ∧ g.1.ss.length ≤ 32 from ⟨z2, z3, z4, z5⟩)
  obtain ⟨-, -, -, -, -, -, -, cW, -, -, -, -⟩ := gst_cells hW15.box hkl
  clear hb14 hW14 hR14 H14 hst15 hwr15 hW13 cD cI cS e1 e2 e3 e4 e5 z1 z2 z3 z4 z5 hcnt hl4 hb4'
  have hnW := hZ.out.1
  have hW15h := Lib.hid hW15
  clear hW15
  obtain ⟨nW, hnWe⟩ : ∃ n, g.1.ws.length = n := ⟨_, rfl⟩
  rw [hnWe] at cW hnW
  have HnW := Lib.hid hnWe
  clear hnWe
  go_wp2_with fail
  clear cW
  go_loopw [6, 107] (fun _ iv wr => ∃ k : Nat, k ≤ nW ∧ iv = .int .i64 k ∧ Hid ((g.1.ws.take k).all wnOk = true ∧ GWr B gw gx g (b4 ++ (g.1.ws.take k).flatMap wnB) w wr)) (fun _ iv _ => nW - (intOf iv).toNat)
  case atStart => exact ⟨0, by omega, rfl, Lib.hid ⟨rfl, by simpa using hW15h.out⟩⟩
  case round =>
    obtain ⟨k, hk, rfl, hh⟩ := hrel
    by_cases hlt : k < nW
    · have hq : decide ((k : Int) < (nW : Int)) = true := decide_eq_true (by omega)
      have hkl2 : k < g.1.ws.length := by rw [HnW.out]; exact hlt
      have hWr := hh.out.2
      obtain ⟨b0, o0, hA, hb0', hrow⟩ := (HG.out.rW.below hWr.wrt.below).row (enc := encWn) (fun _ => rfl) hkl2 rfl
      have d0 := hrow 0 (by decide)
      have d1 := hrow 1 (by decide)
      have d2 := hrow 2 (by decide)
      have d3 := hrow 3 (by decide)
      simp only [encWn, List.getElem?_cons_zero, List.getElem?_cons_succ, Nat.add_zero] at d0 d1 d2 d3
      have hxo := HG.out.oW _ (List.getElem_mem hkl2)
      have htk : (g.1.ws.take (k + 1)).flatMap wnB = (g.1.ws.take k).flatMap wnB ++ wnB g.1.ws[k] := by rw [List.take_succ_eq_append_getElem hkl2, List.flatMap_append]; simp
      have hta : (g.1.ws.take (k + 1)).all wnOk = ((g.1.ws.take k).all wnOk && wnOk g.1.ws[k]) := by rw [List.take_succ_eq_append_getElem hkl2, List.all_append]; simp
      have hlen : (b4 ++ (g.1.ws.take k).flatMap wnB).length ≤ 51000 := by rw [List.length_append, HL4.out, flat_len wnB_len, List.length_take]; omega
      have hbad : wnOk g.1.ws[k] = false → gErr g.1 = 144 := fun h => gerr4 HNm.out HKy.out HC.out (by rw [← Bool.not_eq_true, List.all_eq_true]; intro h2; have := h2 _ (List.getElem_mem hkl2); rw [h] at this; cases this)
      have HTk := Lib.hid htk
      have HTa := Lib.hid hta
      have HBad := Lib.hid hbad
      have hgw : gw < wr.heap.size := by obtain ⟨_, _, _, h, _⟩ := hWr.st; exact h.lt
      generalize g.1.ws[k] = x at *
      generalize hbk : b4 ++ (g.1.ws.take k).flatMap wnB = bk at *
      have HBk := Lib.hid hbk
      clear hbk
      obtain ⟨xi, xp, xs, xm⟩ := x
      have hHall := Lib.hid hh.out.1
      simp only at d0 d1 d2 d3
      rw [hA]
      clear hh htk hta hbad hrow hA
      have hbA := bal (Below.refl wr.heap.size wr) (.cells #[.int .u64 xi, .int .u64 xp, .int .u64 xs, .int .i64 xm] 135)
      have hXA := Blk.new wr 135 #[.int .u64 xi, .int .u64 xp, .int .u64 xs, .int .i64 xm]
      have hzA : (wr.alloc (.cells #[.int .u64 xi, .int .u64 xp, .int .u64 xs, .int .i64 xm] 135)).heap.size = wr.heap.size + 1 := by simp
      have hbB := bal' hbA (.cells #[.int .u64 xi, .int .u64 xp, .int .u64 xs] 61) (by simp)
      have hWB := hWr.below hbB
      have hXB := hXA.alloc (.cells #[.int .u64 xi, .int .u64 xp, .int .u64 xs] 61)
      have hRB := Rd.fresh (wr.alloc (.cells #[.int .u64 xi, .int .u64 xp, .int .u64 xs, .int .i64 xm] 135)) #[.int .u64 xi, .int .u64 xp, .int .u64 xs] 61 3 1 (wr.heap.size + 1) rfl (by simp)
      have HB8 := Lib.hid (weight_any B gw bk [xi, xp, xs] _ 3 3 _ hWB.st rfl (by omega) (by decide) (by
        intro x hx
        simp only [List.mem_cons, List.not_mem_nil, or_false] at hx
        rcases hx with rfl | rfl | rfl
        · exact hxo.1
        · exact hxo.2.1
        · exact hxo.2.2.1) hRB)
      have cA := hXA.cell
      go_upto_region 15 with (fail)
      have HXB := Lib.hid hXB
      have HWB := Lib.hid hWB
      clear d0 d1 d2 d3 hbA hbB hXB hWB hRB hzA
      go_upto_region 16 with (go_at_call 46; refine HB8.out.mono ?_; rintro e1 wC ⟨rfl, hstC, hwrC⟩)
      have hXC := HXB.out.wrt hwrC (by decide) (by omega)
      have hWC := HWB.out.step hstC hwrC
      have cC := hXC.cell
      clear cA HB8 HXB HWB hstC hwrC hXA
      have hgwC : gw < wC.heap.size := by obtain ⟨_, _, _, h, _⟩ := hWC.st; exact h.lt
      generalize wr.heap.size = xb at *
      by_cases hpm : inB xm 7 = true
      case neg =>
        rw [Bool.not_eq_true] at hpm
        have HE := Lib.hid (HBad.out hpm)
        have HSm := Lib.hid (small_no xm 7 wC (by intro h; unfold inB at hpm; rw [decide_eq_true h.1, decide_eq_true h.2] at hpm; cases hpm))
        clear hpm
        go_wp2_with (go_at_call 47; refine HSm.out.mono ?_; rintro e1 wD ⟨rfl, rfl⟩)
        exact ⟨rfl, hWC.wrt, .inl ⟨by rw [HE.out]; decide, by rw [HE.out]⟩⟩
      have hp7 : 0 ≤ xm ∧ xm ≤ 7 := by unfold inB at hpm; simpa using hpm
      have HSm := Lib.hid (small_yes xm 7 wC hp7.1 hp7.2)
      have HPm := Lib.hid hpm
      clear hpm
      have hu32 : IntKind.u32.wrap xm = xm := by rw [IntKind.wrap_u32']; omega
      have hbD := bal (Below.refl wC.heap.size wC) (.cells #[.int .u32 xm] 24)
      have hWD := hWC.below hbD
      have hRD := Rd.fresh wC #[.int .u32 xm] 24 1 1 _ rfl rfl
      have HD4 := Lib.hid (wfour_any B gw _ [xm] _ 1 1 _ hWD.st rfl (by rw [List.length_append, bytesNl_len]; simp only [List.length_cons, List.length_nil]; omega) (by decide) (by
        intro x hx
        simp only [List.mem_cons, List.not_mem_nil, or_false] at hx
        subst hx; omega) hRD)
      have HWD := Lib.hid hWD
      clear hbD hWD hRD
      go_wp2_with (first
        | (go_at_call 47; refine HSm.out.mono ?_; rintro e1 wD ⟨rfl, rfl⟩)
        | (go_at_call 43; refine HD4.out.mono ?_; rintro e1 wE ⟨rfl, hstE, hwrE⟩))
      go_roundw
      case rel =>
        refine ⟨k + 1, by omega, by go_num, Lib.hid ⟨by rw [HTa.out, hHall.out]; exact HPm.out, ?_⟩⟩
        rw [HTk.out, ← List.append_assoc, HBk.out]
        have h := HWD.out.step hstE hwrE
        rw [List.append_assoc] at h
        exact h
      case measure => simp [intOf]; omega
    · obtain rfl : k = nW := by omega
      have hq : decide ((k : Int) < (k : Int)) = false := decide_eq_false (by omega)
      obtain ⟨hall, hWr⟩ := hh.out
      rw [List.take_of_length_le (by rw [HnW.out]; exact Nat.le_refl _)] at hall hWr
      have HAllW := Lib.hid hall
      obtain ⟨-, -, -, -, -, -, -, -, cD, -, -, -⟩ := gst_cells hWr.box hkl
      obtain ⟨b5, hb5'⟩ : ∃ b, b4 ++ g.1.ws.flatMap wnB = b := ⟨_, rfl⟩
      have HL5 := Lib.hid (show b5.length ≤ bs.length + 124 + 28 * 16 by rw [← hb5', List.length_append, HL4.out, flat_len wnB_len, HnW.out]; omega)
      rw [hb5'] at hWr
      have HB5 := Lib.hid hb5'
      have hW15h := Lib.hid hWr
      clear hall hh hWr hb5' hlt
      obtain ⟨nD, hnDe⟩ : ∃ n, g.1.ds.length = n := ⟨_, rfl⟩
      have hnD := hZ.out.2.1
      rw [hnDe] at cD hnD
      have HnD := Lib.hid hnDe
      clear hnDe
      go_upto_region 18 with (fail)
      clear hq
      go_wp2_with fail
      clear cD
      go_loopw [8, 131] (fun _ iv wr => ∃ k : Nat, k ≤ nD ∧ iv = .int .i64 k ∧ Hid (GWr B gw gx g (b5 ++ (g.1.ds.take k).flatMap dvB) w wr)) (fun _ iv _ => nD - (intOf iv).toNat)
      case atStart => exact ⟨0, by omega, rfl, Lib.hid (by simpa using hW15h.out)⟩
      case round =>
        obtain ⟨k, hk, rfl, hh⟩ := hrel
        by_cases hlt : k < nD
        · have hq : decide ((k : Int) < (nD : Int)) = true := decide_eq_true (by omega)
          have hkl2 : k < g.1.ds.length := by rw [HnD.out]; exact hlt
          have hWr := hh.out
          obtain ⟨b0, o0, hA, hb0', hrow⟩ := (HG.out.rD.below hWr.wrt.below).row (enc := encDv) (fun _ => rfl) hkl2 rfl
          have d0 := hrow 0 (by decide)
          have d1 := hrow 1 (by decide)
          have d2 := hrow 2 (by decide)
          simp only [encDv, List.getElem?_cons_zero, List.getElem?_cons_succ, Nat.add_zero] at d0 d1 d2
          have hxo := HG.out.oD _ (List.getElem_mem hkl2)
          have htk : (g.1.ds.take (k + 1)).flatMap dvB = (g.1.ds.take k).flatMap dvB ++ dvB g.1.ds[k] := by rw [List.take_succ_eq_append_getElem hkl2, List.flatMap_append]; simp
          have hlen : (b5 ++ (g.1.ds.take k).flatMap dvB).length ≤ 52000 := by have := HL5.out; rw [List.length_append, flat_len dvB_len, List.length_take]; omega
          have HTk := Lib.hid htk
          generalize g.1.ds[k] = x at *
          generalize hbk : b5 ++ (g.1.ds.take k).flatMap dvB = bk at *
          have HBk := Lib.hid hbk
          clear hbk
          obtain ⟨xi, xp, xs⟩ := x
          simp only at d0 d1 d2
          rw [hA]
          clear hh htk hrow hA
          have hbA := bal (Below.refl wr.heap.size wr) (.cells #[.int .u64 xi, .int .u64 xp, .int .u64 xs] 137)
          have hXA := Blk.new wr 137 #[.int .u64 xi, .int .u64 xp, .int .u64 xs]
          have hbB := bal' hbA (.cells #[.int .u64 xi, .int .u64 xp, .int .u64 xs] 61) (by simp)
          have hWB := hWr.below hbB
          have hRB := Rd.fresh (wr.alloc (.cells #[.int .u64 xi, .int .u64 xp, .int .u64 xs] 137)) #[.int .u64 xi, .int .u64 xp, .int .u64 xs] 61 3 1 (wr.heap.size + 1) rfl (by simp)
          have HB8 := Lib.hid (weight_any B gw bk [xi, xp, xs] _ 3 3 _ hWB.st rfl (by omega) (by decide) (by
            intro x hx
            simp only [List.mem_cons, List.not_mem_nil, or_false] at hx
            rcases hx with rfl | rfl | rfl
            · exact hxo.1
            · exact hxo.2.1
            · exact hxo.2.2) hRB)
          have cA := hXA.cell
          have HWB := Lib.hid hWB
          clear hbA hbB hWB hRB
          go_wp2_with (go_at_call 46; refine HB8.out.mono ?_; rintro e1 wC ⟨rfl, hstC, hwrC⟩)
          go_roundw
          case rel =>
            refine ⟨k + 1, by omega, by go_num, Lib.hid ?_⟩
            rw [HTk.out, ← List.append_assoc, HBk.out]
            exact HWB.out.step hstC hwrC
          case measure => simp [intOf]; omega
        · obtain rfl : k = nD := by omega
          have hq : decide ((k : Int) < (k : Int)) = false := decide_eq_false (by omega)
          have hWr := hh.out
          rw [List.take_of_length_le (by rw [HnD.out]; exact Nat.le_refl _)] at hWr
          obtain ⟨-, -, -, -, -, -, -, -, -, cI, -, -⟩ := gst_cells hWr.box hkl
          obtain ⟨b6, hb6'⟩ : ∃ b, b5 ++ g.1.ds.flatMap dvB = b := ⟨_, rfl⟩
          have HL6 := Lib.hid (show b6.length ≤ bs.length + 124 + 28 * 16 + 24 * 16 by have := HL5.out; rw [← hb6', List.length_append, flat_len dvB_len, HnD.out]; omega)
          rw [hb6'] at hWr
          have HB6 := Lib.hid hb6'
          have hW15h := Lib.hid hWr
          clear hh hWr hb6' hlt
          obtain ⟨nQ, hnQe⟩ : ∃ n, g.1.qs.length = n := ⟨_, rfl⟩
          have hnQ := hZ.out.2.2.1
          rw [hnQe] at cI hnQ
          have HnQ := Lib.hid hnQe
          clear hnQe
          go_upto_region 23 with (fail)
          clear hq
          go_wp2_with fail
          clear cI
          go_loopw [10, 148] (fun _ iv wr => ∃ k : Nat, k ≤ nQ ∧ iv = .int .i64 k ∧ Hid ((g.1.qs.take k).all iqOk = true ∧ GWr B gw gx g (b6 ++ (g.1.qs.take k).flatMap iqB) w wr)) (fun _ iv _ => nQ - (intOf iv).toNat)
          case atStart => exact ⟨0, by omega, rfl, Lib.hid ⟨rfl, by simpa using hW15h.out⟩⟩
          case round =>
            obtain ⟨k, hk, rfl, hh⟩ := hrel
            by_cases hlt : k < nQ
            · have hq : decide ((k : Int) < (nQ : Int)) = true := decide_eq_true (by omega)
              have hkl2 : k < g.1.qs.length := by rw [HnQ.out]; exact hlt
              have hWr := hh.out.2
              obtain ⟨b0, o0, hA, hb0', hrow⟩ := (HG.out.rI.below hWr.wrt.below).row (enc := encIq) (fun _ => rfl) hkl2 rfl
              have d0 := hrow 0 (by decide)
              have d1 := hrow 1 (by decide)
              have d2 := hrow 2 (by decide)
              simp only [encIq, List.getElem?_cons_zero, List.getElem?_cons_succ, Nat.add_zero] at d0 d1 d2
              have htk : (g.1.qs.take (k + 1)).flatMap iqB = (g.1.qs.take k).flatMap iqB ++ iqB g.1.qs[k] := by rw [List.take_succ_eq_append_getElem hkl2, List.flatMap_append]; simp
              have hta : (g.1.qs.take (k + 1)).all iqOk = ((g.1.qs.take k).all iqOk && iqOk g.1.qs[k]) := by rw [List.take_succ_eq_append_getElem hkl2, List.all_append]; simp
              have hlen : (b6 ++ (g.1.qs.take k).flatMap iqB).length ≤ 53000 := by have := HL6.out; rw [List.length_append, flat_len iqB_len, List.length_take]; omega
              have hbad : iqOk g.1.qs[k] = false → gErr g.1 = 144 := fun h => gerr5 HNm.out HKy.out HC.out HAllW.out (by rw [← Bool.not_eq_true, List.all_eq_true]; intro h2; have := h2 _ (List.getElem_mem hkl2); rw [h] at this; cases this)
              have HTk := Lib.hid htk
              have HTa := Lib.hid hta
              have HBad := Lib.hid hbad
              have hHall := Lib.hid hh.out.1
              have hgw : gw < wr.heap.size := by obtain ⟨_, _, _, h, _⟩ := hWr.st; exact h.lt
              generalize g.1.qs[k] = x at *
              generalize hbk : b6 ++ (g.1.qs.take k).flatMap iqB = bk at *
              have HBk := Lib.hid hbk
              clear hbk
              obtain ⟨xn, xc, xe⟩ := x
              simp only at d0 d1 d2
              rw [hA]
              clear hh htk hta hbad hrow hA
              have hbA := bal (Below.refl wr.heap.size wr) (.cells #[.int .i64 xn, .int .i64 xc, .bool xe] 139)
              have hXA := Blk.new wr 139 #[.int .i64 xn, .int .i64 xc, .bool xe]
              have hWA := hWr.below hbA
              obtain ⟨xb, hxb⟩ : ∃ b, wr.heap.size = b := ⟨_, rfl⟩
              go_upto_region 26 with (fail)
              rw [hxb] at hXA hgw
              generalize wr.alloc (.cells #[.int .i64 xn, .int .i64 xc, .bool xe] 139) = wA at *
              clear d0 d1 d2 hbA hxb hWr
              have hS1 : (fun W' : World => ∀ i, W'.cell? ⟨xb, i, none⟩ = (#[.int .i64 xn, .int .i64 xc, .bool xe] : Array Value)[i]?) wA.drew := hXA.drew.cell
              refine wp_region_held_drew (S := fun W' : World => ∀ i, W'.cell? ⟨xb, i, none⟩ = (#[.int .i64 xn, .int .i64 xc, .bool xe] : Array Value)[i]?) (by kernel_rfl) hS1 (fun hHeld => ?_)
              clear hHeld
              refine wpAnyH_take (i := 0) (v := ?vq0) rfl (by kernel_rfl) (by kernel_rfl) (by kernel_rfl) (fun _ _ _ h => h) (Or.inl ⟨by kernel_rfl, ?hyq0⟩) hS1 ?restq0
              case hyq0 =>
                intro w hSw
                clear hSw
                go_simp
                first | done | with_reducible rfl
              (try simp only [List.getElem_toArray, List.getElem_cons_succ, List.getElem_cons_zero, Act.put, List.setIfInBounds_toArray, List.set_cons_zero, List.set_cons_succ])
              refine wpAnyH_take (i := 1) (v := ?vq1) rfl (by kernel_rfl) (by kernel_rfl) (by kernel_rfl) (fun _ _ _ h => h) (Or.inl ⟨by kernel_rfl, ?hyq1⟩) hS1 ?restq1
              case hyq1 =>
                intro w hSw
                clear hSw
                go_simp
                first | done | with_reducible rfl
              (try simp only [List.getElem_toArray, List.getElem_cons_succ, List.getElem_cons_zero, Act.put, List.setIfInBounds_toArray, List.set_cons_zero, List.set_cons_succ])
              refine wpAnyH_take (i := 2) (v := ?vq2) rfl (by kernel_rfl) (by kernel_rfl) (by kernel_rfl) (fun _ _ _ h => h) (Or.inl ⟨by kernel_rfl, ?hyq2⟩) hS1 ?restq2
              case hyq2 =>
                intro w hSw
                (try dsimp only at hSw)
                go_simp
                first | done | with_reducible rfl
              (try simp only [List.getElem_toArray, List.getElem_cons_succ, List.getElem_cons_zero, Act.put, List.setIfInBounds_toArray, List.set_cons_zero, List.set_cons_succ])
              refine wpAnyH_take (i := 4) (v := ?vq4) rfl (by kernel_rfl) (by kernel_rfl) (by kernel_rfl) (fun _ _ _ h => h) (Or.inl ⟨by kernel_rfl, ?hyq4⟩) hS1 ?restq4
              case hyq4 =>
                intro w hSw
                clear hSw
                go_simp
                first | done | with_reducible rfl
              (try simp only [List.getElem_toArray, List.getElem_cons_succ, List.getElem_cons_zero, Act.put, List.setIfInBounds_toArray, List.set_cons_zero, List.set_cons_succ])
              refine wpAnyH_take (i := 5) (v := ?vq5) rfl (by kernel_rfl) (by kernel_rfl) (by kernel_rfl) (fun _ _ _ h => h) (Or.inl ⟨by kernel_rfl, ?hyq5⟩) hS1 ?restq5
              case hyq5 =>
                intro w hSw
                (try dsimp only at hSw)
                go_simp
                first | done | with_reducible rfl
              (try simp only [List.getElem_toArray, List.getElem_cons_succ, List.getElem_cons_zero, Act.put, List.setIfInBounds_toArray, List.set_cons_zero, List.set_cons_succ])
              refine wpAnyH_call (i := 3) (by kernel_rfl) rfl (by kernel_rfl) fun K hK => ?_
              simp only [List.getElem_toArray, List.getElem_cons_succ, List.getElem_cons_zero]
              go_simp
              by_cases hbn : inB xn 65535 = true
              case neg =>
                rw [Bool.not_eq_true] at hbn
                have HE := Lib.hid (HBad.out (by unfold iqOk; rw [hbn]; rfl))
                go_at_call 47
                refine (small_no xn 65535 _ (by intro h; unfold inB at hbn; rw [decide_eq_true h.1, decide_eq_true h.2] at hbn; cases hbn)).mono ?_
                rintro e1 wD ⟨rfl, rfl⟩
                dsimp only [thrownC]
                go_wp2_with fail
                exact ⟨rfl, (hWA.below (Below.refl _ _).drew).wrt, .inl ⟨by rw [HE.out]; decide, by rw [HE.out]⟩⟩
              have hpn : 0 ≤ xn ∧ xn ≤ 65535 := by unfold inB at hbn; simpa using hbn
              go_at_call 47
              refine (small_yes xn 65535 _ hpn.1 hpn.2).mono ?_
              rintro e1 wD ⟨rfl, rfl⟩
              refine hK.out _ _ hS1 ?_
              clear hK K
              (try simp only [List.getElem_toArray, List.getElem_cons_succ, List.getElem_cons_zero, Act.put, List.setIfInBounds_toArray, List.set_cons_zero, List.set_cons_succ])
              refine wpAnyH_call (i := 6) (by kernel_rfl) rfl (by kernel_rfl) fun K hK => ?_
              simp only [List.getElem_toArray, List.getElem_cons_succ, List.getElem_cons_zero]
              go_simp
              by_cases hbc : inB xc 65535 = true
              case neg =>
                rw [Bool.not_eq_true] at hbc
                have HE := Lib.hid (HBad.out (by unfold iqOk; rw [hbn, hbc]; rfl))
                go_at_call 47
                refine (small_no xc 65535 _ (by intro h; unfold inB at hbc; rw [decide_eq_true h.1, decide_eq_true h.2] at hbc; cases hbc)).mono ?_
                rintro e1 wD ⟨rfl, rfl⟩
                dsimp only [thrownC]
                go_wp2_with fail
                exact ⟨rfl, (hWA.below (Below.refl _ _).drew).wrt, .inl ⟨by rw [HE.out]; decide, by rw [HE.out]⟩⟩
              have hpc : 0 ≤ xc ∧ xc ≤ 65535 := by unfold inB at hbc; simpa using hbc
              go_at_call 47
              refine (small_yes xc 65535 _ hpc.1 hpc.2).mono ?_
              rintro e1 wD ⟨rfl, rfl⟩
              refine hK.out _ _ hS1 ?_
              clear hK K
              (try simp only [List.getElem_toArray, List.getElem_cons_succ, List.getElem_cons_zero, Act.put, List.setIfInBounds_toArray, List.set_cons_zero, List.set_cons_succ])
              refine wpAnyH_call (i := 7) (by kernel_rfl) rfl (by kernel_rfl) fun K hK => ?_
              simp only [List.getElem_toArray, List.getElem_cons_succ, List.getElem_cons_zero]
              go_simp
              have hbB : Below wA.heap.size wA (wA.alloc (.cells #[.int .i64 xn, .int .i64 xc] 3)).drew := (bal (Below.refl _ _) _).drew
              have hXB := hXA.kept hbB
              have hWB := hWA.below hbB
              have hRB : Rd (wA.alloc (.cells #[.int .i64 xn, .int .i64 xc] 3)).drew (wA.alloc (.cells #[.int .i64 xn, .int .i64 xc] 3)).drew.heap.size 1 (some ⟨wA.heap.size, 0, none⟩) 2 ([xn, xc].flatMap encI) := Rd.drew (Rd.fresh wA #[.int .i64 xn, .int .i64 xc] 3 2 1 _ rfl rfl)
              have hnI : ((wA.alloc (.cells #[.int .i64 xn, .int .i64 xc] 3)).drew).heap[wA.heap.size]? = some (.cells #[.int .i64 xn, .int .i64 xc] 3 (0, 0)) := heap_alloc_new wA _
              have hgA : gw < wA.heap.size := by obtain ⟨_, _, _, h, _⟩ := hWA.st; exact h.lt
              have hxA := hXA.lt
              have hS2 : (fun W' : World => ∀ i, W'.cell? ⟨xb, i, none⟩ = (#[.int .i64 xn, .int .i64 xc, .bool xe] : Array Value)[i]?) ((wA.alloc (.cells #[.int .i64 xn, .int .i64 xc] 3)).drew) := hXB.cell
              refine hK.out _ _ hS2 ?_
              clear hK K
              (try simp only [List.getElem_toArray, List.getElem_cons_succ, List.getElem_cons_zero, Act.put, List.setIfInBounds_toArray, List.set_cons_zero, List.set_cons_succ])
              generalize (wA.alloc (.cells #[.int .i64 xn, .int .i64 xc] 3)).drew = wB at *
              refine wpAnyH_call (i := 8) (by kernel_rfl) rfl (by kernel_rfl) fun K hK => ?_
              simp only [List.getElem_toArray, List.getElem_cons_succ, List.getElem_cons_zero]
              go_simp
              go_at_call 44
              refine (wtwo_any B gw bk [xn, xc] _ 2 2 wB hWB.st rfl (by omega) (by decide) (by
                intro x hx
                simp only [List.mem_cons, List.not_mem_nil, or_false] at hx
                rcases hx with rfl | rfl
                · exact hpn
                · exact hpc) (.inr ⟨wA.heap.size, 0, _, 3, (0, 0), rfl, hnI, by decide, by omega⟩) hRB).mono ?_
              rintro e1 wC ⟨rfl, hstC, hwrC⟩
              have hXC := hXB.wrt hwrC (by decide) (by omega)
              have hWC := hWB.step hstC hwrC
              refine hK.out _ _ hXC.cell ?_
              clear hK K
              (try simp only [List.getElem_toArray, List.getElem_cons_succ, List.getElem_cons_zero, Act.put, List.setIfInBounds_toArray, List.set_cons_zero, List.set_cons_succ])
              refine wpAnyH_done (by kernel_rfl) ?_ _
              have HIq := Lib.hid (show iqOk ⟨xn, xc, xe⟩ = true by unfold iqOk; simp only; rw [hbn, hbc]; rfl)
              clear hS1 hS2 hbB hXB hWB hRB hnI hgA hxA hstC hwrC hWA hXA hbn hbc
              have cC := hXC.cell
              have hbD := bal (Below.refl wC.heap.size wC) (.cells #[.int .u32 (truthN xe)] 24)
              have hWD := hWC.below hbD
              have hRD := Rd.fresh wC #[.int .u32 (truthN xe)] 24 1 1 _ rfl rfl
              have HD4 := Lib.hid (wfour_any B gw _ [truthN xe] _ 1 1 _ hWD.st rfl (by rw [List.length_append, bytesNl_len]; simp only [List.length_cons, List.length_nil]; omega) (by decide) (by
                intro x hx
                simp only [List.mem_cons, List.not_mem_nil, or_false] at hx
                subst hx
                cases xe <;> decide) hRD)
              have HWD := Lib.hid hWD
              clear hbD hWD hRD
              go_wp2_with (first
                | (go_at_call 80; refine (truth_any _ _).mono ?_; rintro e1 wt ⟨rfl, rfl⟩)
                | (go_at_call 43; refine HD4.out.mono ?_; rintro e1 wE ⟨rfl, hstE, hwrE⟩))
              go_roundw
              case rel =>
                refine ⟨k + 1, by omega, by go_num, Lib.hid ⟨by rw [HTa.out, hHall.out]; exact HIq.out, ?_⟩⟩
                rw [HTk.out, ← List.append_assoc, HBk.out]
                have h := HWD.out.step hstE hwrE
                rw [List.append_assoc] at h
                exact h
              case measure => simp [intOf]; omega
            · obtain rfl : k = nQ := by omega
              have hq : decide ((k : Int) < (k : Int)) = false := decide_eq_false (by omega)
              obtain ⟨hall, hWr⟩ := hh.out
              rw [List.take_of_length_le (by rw [HnQ.out]; exact Nat.le_refl _)] at hall hWr
              obtain ⟨-, -, -, -, -, -, -, -, -, -, cS, -⟩ := gst_cells hWr.box hkl
              obtain ⟨b7, hb7'⟩ : ∃ b, b6 ++ g.1.qs.flatMap iqB = b := ⟨_, rfl⟩
              have hl7 : b7.length ≤ bs.length + 124 + 28 * 16 + 24 * 16 + 8 * 64 := by have := HL6.out; rw [← hb7', List.length_append, flat_len iqB_len, HnQ.out]; omega
              rw [hb7'] at hWr
              have hE0 := gerr0 HNm.out HKy.out HC.out HAllW.out hall
              have hfin : bs ++ gB g.1 = b7 ++ g.1.ss.flatMap (bytesN 4 false) := by
                rw [← hb7', ← HB6.out, ← HB5.out, ← HB4.out, HGh.out]
                simp only [gB, List.append_assoc]
              have H4 := Lib.hid (wfour_any B gw b7 g.1.ss g.2.AS g.1.ss.length g.2.cS wr hWr.st rfl (by omega) (by have := hZ.out.2.2.2; omega) HG.out.oS ((HG.out.rS.below hWr.wrt.below).more hWr.le))
              rw [← hfin] at H4
              have HE0 := Lib.hid hE0
              have HWr := Lib.hid hWr
              clear hall hh hWr hb7' hlt hl7 hE0 hfin
              go_wp2_with (go_at_call 43; refine H4.out.mono ?_; rintro e1 wE ⟨rfl, hstE, hwrE⟩)
              exact bodyPost_end (results_none rfl _ _ _) rfl ⟨HWr.out.wrt.trans hwrE, .inr ⟨HE0.out, rfl, hstE⟩⟩
end Go.Proofs.Ytmhbpfclfffgkaa
