/- The document's node ((*portreeveref22.flat).node), walked: its head. -/
import Derived.Test.YtnkpaockginooaaPutF
import Derived.Test.YtnkpaockginooaaPutD
namespace Go.Proofs.Ytnkpaockginooaa
set_option linter.unusedVariables false
set_option linter.unusedSimpArgs false
open Go.RowKit Go.Sort Go.Maps Go.WideShapes Go.ChangeShapes
theorem below_grown {base size n : Nat} {e : TypeId} {v : Value} {xs : List Value} {w w' : World} (hown : w.ownsRow base e size v n xs) (hg : w.grownBy w' v.ownBlock) (hbase : base ≤ w.heap.size) : Below base w w' := (Below.refl _ _).grown hg hbase (fun k hk => (hown.lt k hk).1)
/-- A string appended, and what stands where. -/
theorem run_apps (w : World) (base : Nat) (ty : TypeId) (v : Value) (n : Nat) (bs : List Int) (hown : w.ownsRow base 5 1 v n (bs.flatMap encB)) (s : ByteArray) (h63 : n + s.size ≤ 100000000) (hbase : base ≤ w.heap.size) :
    ∃ v' w', (Builtin.append_ #[28, 9] ty #[v, .string s]).run Try.prog w = .ok v' w' ∧ w'.ownsRow base 5 1 v' (n + s.size) ((bs ++ strB s).flatMap encB) ∧ Below base w w' ∧ w.grownBy w' v.ownBlock := by
  obtain ⟨i, hi, hz, hsz, hb⟩ := info_parts info_u8
  obtain ⟨v', w', hrun, h2, h3, _⟩ := run_appsL (P := Try.prog) w base 28 9 ty 5 i Try.underlying28 Try.underlying9 hi hz hsz hb v n _ hown s (by unfold maxLen; omega) (by omega) hbase
  refine ⟨v', w', hrun, ?_, below_grown hown h3 hbase, h3⟩
  rw [List.flatMap_append, ← strCells_eq]
  exact h2
theorem run_appb (w : World) (base : Nat) (ty : TypeId) (v : Value) (n : Nat) (bs : List Int) (hown : w.ownsRow base 5 1 v n (bs.flatMap encB)) (A : Option Addr) (m c : Nat) (l : List Int) (hr : Rd w w.heap.size 1 A m (l.flatMap encB)) (h63 : n + m ≤ 100000000) (hbase : base ≤ w.heap.size) :
    ∃ v' w', (Builtin.append_ #[28, 28] ty #[v, .slice A m c]).run Try.prog w = .ok v' w' ∧ w'.ownsRow base 5 1 v' (n + m) ((bs ++ l).flatMap encB) ∧ Below base w w' := by
  obtain ⟨v', w', hrun, h2, h3, _⟩ := run_app (P := Try.prog) w u8_elem base ty v n _ hown _ A m c _ hr (one_b l) (by unfold maxLen; omega) (by omega) hbase
  refine ⟨v', w', hrun, ?_, h3⟩
  rw [List.flatMap_append]
  exact h2
theorem fstb_set {w w4 : World} {S : Nat → Prop} {g bb : Nat} {st : WS} {v4 : Value} {l : List Int} (h : FStB w S g st bb) (hb : Below bb w w4) (hown : w4.ownsRow bb 5 1 v4 l.length (l.flatMap encB)) :
    FStB (w4.setCell ⟨g, 0, none⟩ v4) S g ⟨l, st.x, st.n⟩ bb ∧ Near (fun i => i = g ∨ bb ≤ i) w (w4.setCell ⟨g, 0, none⟩ v4) := by
  obtain ⟨vb, vx, vn, h1, h2, h3, h5, h7, h9, h10⟩ := h
  have hB4 := h1.same (hb.block g (h9 g h7))
  have hk : ∀ {e : TypeId} {size n : Nat} {v : Value} {xs : List Value}, OwnS w S e size v n xs → OwnS w4 S e size v n xs := fun h => ⟨own_same h.1 fun k hk => hb.block k (h9 k (h.2 k hk)), h.2⟩
  refine ⟨⟨v4, vx, vn, hB4.set_ 0 v4, ?_, (hk h3).set ⟨g, 0, none⟩ (own_blk_ne (hk h3).1 hB4 (by decide)) v4, (hk h5).set ⟨g, 0, none⟩ (own_blk_ne (hk h5).1 hB4 (by decide)) v4, h7, h9, by simpa using Nat.le_trans h10 hb.size⟩, ?_⟩
  · exact own_same hown fun k hk => Below.heap_setCell _ _ _ _ (fun e => own_blk_ne hown hB4 (by decide) (by rw [hk]; simp at e; rw [e]))
  · exact Near.setCell ⟨hb.os, hb.tape, hb.output, hb.size, fun k hk hn => hb.block k (by
      rcases Nat.lt_or_ge k bb with h | h
      · exact h
      · exact absurd (.inr h) hn)⟩ (p := ⟨g, 0, none⟩) (.inl rfl) v4
theorem FOut.of_b {w w1 : World} {S : Nat → Prop} {g bb : Nat} {st : WS} (h : FStB w1 S g st bb) (hn : Near S w w1) (hbb : w.heap.size ≤ bb) : FOut S g st w w1 := ⟨_, h.st, hn, fun i hi => by
  rcases hi.1 with h | h
  · exact .inl h
  · exact .inr (by omega)⟩
theorem FOut.trans {S S1 : Nat → Prop} {g : Nat} {st2 : WS} {w w1 w2 : World} (hn : Near S w w1) (hs : ∀ i, S1 i → S i ∨ w.heap.size ≤ i) (h : FOut S1 g st2 w1 w2) : FOut S g st2 w w2 := by
  obtain ⟨S2, h1, h2, h3⟩ := h
  have := hn.size
  exact ⟨S2, h1, hn.step h2 hs, fun i hi => by
    rcases h3 i hi with h | h
    · exact hs i h
    · exact .inr (by omega)⟩
theorem textS_any (st : WS) (b' : List Int) (s : ByteArray) : textS ⟨b', st.x, st.n⟩ s = (⟨b', (textS st s).1.x, (textS st s).1.n⟩, (textS st s).2) := by
  unfold textS
  simp only
  split <;> rfl
/-- No name's place lies behind the texts. -/
def PlB (st : WS) : Prop := ∀ q ∈ st.n, q.2 ≤ st.x.length
theorem textS_plb {st : WS} (h : PlB st) (s : ByteArray) : PlB (textS st s).1 ∧ (textS st s).2 ≤ st.x.length := by
  unfold textS
  split
  · rename_i p hp
    exact ⟨h, h _ (lookN_mem _ _ _ hp)⟩
  · refine ⟨fun q hq => ?_, Nat.le_refl _⟩
    simp only [List.mem_append, List.mem_singleton, List.length_append] at hq ⊢
    rcases hq with hq | rfl
    · have := h q hq
      omega
    · simp only
      omega
theorem propS_plb {st : WS} (h : PlB st) (p : Pr) : PlB (propS st p) := (textS_plb h p.1).1
theorem propsS_plb : ∀ (l : List Pr) {st : WS}, PlB st → PlB (l.foldl propS st)
  | [], _, h => h
  | p :: l, _, h => propsS_plb l (propS_plb h p)
theorem nodeS_plb : ∀ (f : Nat) (t : Tr) {st : WS}, PlB st → PlB (nodeS f t st)
  | 0, _, _, h => h
  | f + 1, t, st, h => by
    have hk : ∀ (l : List Tr) {s : WS}, PlB s → PlB (l.foldl (fun s k => nodeS f k s) s) := fun l => by
      induction l with
      | nil => exact fun h => h
      | cons k l ih => exact fun h => ih (nodeS_plb f k h)
    rw [nodeS_succ]
    exact hk t.ks (propsS_plb t.ps (st := headS t.nm st) h)
theorem kidsS_plb (f : Nat) : ∀ (l : List Tr) {s : WS}, PlB s → PlB (l.foldl (fun s k => nodeS f k s) s)
  | [], _, h => h
  | k :: l, _, h => kidsS_plb f l (nodeS_plb f k h)
/-- A number put, as a step. -/
theorem ffour_out (g : Nat) (st : WS) (S : Nat → Prop) (x : Int) (w : World) (hw : FSt w S g st) (hm : st.b.length ≤ 100000000) (hx0 : 0 ≤ x) (hx1 : x < 4294967296) :
    Calls Try.prog 39 #[.pointer (some ⟨g, 0, none⟩), .int .i64 x] w fun e w' => e = .returned (.tuple #[]) ∧ FOut S g ⟨st.b ++ bytesN 4 false x, st.x, st.n⟩ w w' := by
  refine (ffour_any g st S x w hw hm hx0 hx1).mono ?_
  rintro e w1 ⟨rfl, h1, h2⟩
  exact ⟨rfl, FOut.of_b h1 h2 (Nat.le_refl _)⟩
theorem cell_same {w w' : World} {b : Nat} (h : w'.heap[b]? = w.heap[b]?) (o : Nat) : w'.cell? ⟨b, o, none⟩ = w.cell? ⟨b, o, none⟩ := by
  unfold World.cell?
  simp only [h]
set_option maxRecDepth 100000 in
set_option maxHeartbeats 2000000 in
theorem fnode_any : ∀ (f k : Nat) (t : Tr) (cs : List Value) (n p n' p' : Int) (o g B : Nat) (S : Nat → Prop) (st : WS) (w : World), TrOk w B k t cs → mayF f t (n, p) = some (n', p') → 0 ≤ n → 0 ≤ p → BdO st n p o → PlB st → FSt w S g st → (∀ i, S i → B ≤ i) → B ≤ w.heap.size →
    Calls Try.prog 38 #[.pointer (some ⟨g, 0, none⟩), .agg cs.toArray] w fun e w' => e = .returned (.tuple #[]) ∧ FOut S g (nodeS f t st) w w' := by
  intro f
  induction f with
  | zero =>
    intro k t cs n p n' p' o g B S st w hT hm
    simp [mayF] at hm
  | succ f ih =>
    intro k t cs n p n' p' o g B S st w hT hm hn0 hp0 hbd hpl0 hw hSB hBw
    cases k with
    | zero => exact hT.elim
    | succ k =>
      have IH := Lib.hid (ih k)
      have HInv := Lib.hid (mayF_inv hm)
      have hle := mayF_le _ _ _ _ hm hn0 hp0
      obtain ⟨h0, A1, c1, A2, c2, rowF, rowG, rfl, h2, h3, h4, h5, h6, h7, h8, h9⟩ := hT
      have HF := Lib.hid h6
      have HG := Lib.hid h7
      have HP := Lib.hid h8
      have HK := Lib.hid h9
      obtain ⟨np, hnp⟩ : ∃ np, t.ps.length = np := ⟨_, rfl⟩
      obtain ⟨nk, hnk⟩ : ∃ nk, t.ks.length = nk := ⟨_, rfl⟩
      obtain ⟨nm, hnm⟩ : ∃ nm, t.nm = nm := ⟨_, rfl⟩
      rw [hnp] at h2 HF ⊢
      rw [hnk] at h4 HG ⊢
      rw [hnm] at h0 ⊢
      have HNp := Lib.hid hnp
      have HNk := Lib.hid hnk
      have HNm := Lib.hid hnm
      have hnm1 : nm.size ≤ 31 := by have := nmOk_len HInv.out.1.2.2.1; rwa [hnm] at this
      have HB0 := Lib.hid hbd
      have HPL := Lib.hid hpl0
      clear hpl0
      have hh1 := HInv.out.1.1
      have hh2 := HInv.out.1.2.1
      simp only at hh1 hh2
      rw [hnp] at hh2
      have HBs := Lib.hid (show st.b.length ≤ 5000000 by
        have := hbd.1
        omega)
      have HSg := Lib.hid (show S g by obtain ⟨_, _, _, _, _, _, _, _, h, _⟩ := hw; exact h)
      have HSb := Lib.hid (show ∀ i, S i → i < w.heap.size by obtain ⟨_, _, _, _, _, _, _, _, _, h⟩ := hw; exact h)
      unfold maxLen at h3 h5
      have hTt := Blk.new w 25 #[.string nm, .slice A1 np c1, .slice A2 nk c2]
      have hbt := bal (Below.refl w.heap.size w) (.cells #[.string nm, .slice A1 np c1, .slice A2 nk c2] 25)
      have hzt : (w.alloc (.cells #[.string nm, .slice A1 np c1, .slice A2 nk c2] 25)).heap.size = w.heap.size + 1 := by simp
      have hwt := hw.kept hbt
      clear hm h6 h7 h8 h9 hnp hnk hnm hbd ih
      go_enter Try.func38, Try.ntmps38
      go_upto_region 1 with (fail)
      have HBt := Lib.hid hbt
      clear hbt
      generalize hb0 : w.heap.size = b0 at *
      have HBz := Lib.hid hb0
      clear hb0
      generalize w.alloc (.cells #[.string nm, .slice A1 np c1, .slice A2 nk c2] 25) = wt at *
      have HZt := Lib.hid hzt
      clear hzt
      have HTk := Lib.hid (fun W (h : Near S wt W) => hTt.same (h.block b0 hTt.lt (fun h => absurd (HSb.out _ h) (Nat.lt_irrefl _))))
      have HBl := Lib.hid (fun W (h : Near S wt W) => (HBt.out.mono hBw).trans (h.below hSB (by have := HZt.out; omega)))
      have HF1 := Lib.hid (ffour_any g st S 1 wt hwt (by have := HBs.out; omega) (by decide) (by decide))
      have hgb : g < b0 := HSb.out _ HSg.out
      go_upto_region 2 with (go_at_call 39; refine HF1.out.mono ?_; rintro e w2 ⟨rfl, hw2, hn2⟩)
      rw [HZt.out] at hw2
      have hz2 := hn2.size
      rw [HZt.out] at hz2
      have HW2 := Lib.hid hw2
      have HN2 := Lib.hid hn2
      obtain ⟨vb, vx, vn, hB, hob, hox, hon, _, _, _⟩ := hw2
      have HGk := Lib.hid (fun W (h : Below (b0 + 1) w2 W) => hB.same (h.block g (by omega)))
      have HTb := Lib.hid (fun W (h : Below (b0 + 1) w2 W) => (HTk.out _ hn2).same (h.block b0 (by omega)))
      obtain ⟨Ab, cb, rfl, _, _⟩ := own_slice hob
      obtain ⟨nb, hnb⟩ : ∃ n, (st.b ++ bytesN 4 false 1).length = n := ⟨_, rfl⟩
      have HNb := Lib.hid hnb
      have hnbs : nb ≤ 6000000 := by
        have := HBs.out
        rw [List.length_append, bytesN_len] at hnb
        omega
      simp only [hnb] at hB hob HGk
      clear hnb hox hon hn2 HF1
      have HAp := Lib.hid (fun W (h : Below w2.heap.size w2 W) => run_apps W (b0 + 1) 28 (.slice Ab nb cb) nb (st.b ++ bytesN 4 false 1) (own_kept hob h) nm (by omega) (by have := h.size; omega))
      have hTw := HTb.out _ (Below.refl _ _)
      have hS1 : (fun W' : World => ∀ i, W'.cell? ⟨b0, i, none⟩ = (#[.string nm, .slice A1 np c1, .slice A2 nk c2] : Array Value)[i]?) w2.drew := hTw.drew.cell
      refine wp_region_held_drew (S := fun W' : World => ∀ i, W'.cell? ⟨b0, i, none⟩ = (#[.string nm, .slice A1 np c1, .slice A2 nk c2] : Array Value)[i]?) (by kernel_rfl) hS1 (fun hHeld => ?_)
      clear hHeld
      refine wpAnyH_take (i := 0) (v := ?va0) rfl (by kernel_rfl) (by kernel_rfl) (by kernel_rfl) (fun _ _ _ h => h) (Or.inl ⟨by kernel_rfl, ?hya0⟩) hS1 ?resta0
      case hya0 =>
        intro w hSw
        clear hSw
        go_simp
        first | done | with_reducible rfl
      (try simp only [List.getElem_toArray, List.getElem_cons_succ, List.getElem_cons_zero, Act.put, List.setIfInBounds_toArray, List.set_cons_zero, List.set_cons_succ])
      refine wpAnyH_take (i := 1) (v := ?va1) rfl (by kernel_rfl) (by kernel_rfl) (by kernel_rfl) (fun _ _ _ h => h) (Or.inl ⟨by kernel_rfl, ?hya1⟩) hS1 ?resta1
      case hya1 =>
        intro w hSw
        clear hSw
        go_simp
        first | done | with_reducible rfl
      (try simp only [List.getElem_toArray, List.getElem_cons_succ, List.getElem_cons_zero, Act.put, List.setIfInBounds_toArray, List.set_cons_zero, List.set_cons_succ])
      refine wpAnyH_take (i := 2) (v := ?va2) rfl (by kernel_rfl) (by kernel_rfl) (by kernel_rfl) (fun _ _ _ h => h) (Or.inl ⟨by kernel_rfl, ?hya2⟩) hS1 ?resta2
      case hya2 =>
        intro w hSw
        clear hSw
        go_simp
        first | done | with_reducible rfl
      (try simp only [List.getElem_toArray, List.getElem_cons_succ, List.getElem_cons_zero, Act.put, List.setIfInBounds_toArray, List.set_cons_zero, List.set_cons_succ])
      refine wpAnyH_take (i := 3) (v := ?va3) rfl (by kernel_rfl) (by kernel_rfl) (by kernel_rfl) (fun _ _ _ h => h) (Or.inl ⟨by kernel_rfl, ?hya3⟩) hS1 ?resta3
      case hya3 =>
        intro w hSw
        clear hSw
        go_simp
        first | done | with_reducible rfl
      (try simp only [List.getElem_toArray, List.getElem_cons_succ, List.getElem_cons_zero, Act.put, List.setIfInBounds_toArray, List.set_cons_zero, List.set_cons_succ])
      refine wpAnyH_take (i := 5) (v := ?va5) rfl (by kernel_rfl) (by kernel_rfl) (by kernel_rfl) (fun _ _ _ h => h) (Or.inl ⟨by kernel_rfl, ?hya5⟩) hS1 ?resta5
      case hya5 =>
        intro w hSw
        clear hSw
        go_simp
        first | done | with_reducible rfl
      (try simp only [List.getElem_toArray, List.getElem_cons_succ, List.getElem_cons_zero, Act.put, List.setIfInBounds_toArray, List.set_cons_zero, List.set_cons_succ])
      refine wpAnyH_take (i := 6) (v := ?va6) rfl (by kernel_rfl) (by kernel_rfl) (by kernel_rfl) (fun _ _ _ h => h) (Or.inl ⟨by kernel_rfl, ?hya6⟩) hS1 ?resta6
      case hya6 =>
        intro w hSw
        (try dsimp only at hSw)
        go_simp
        first | done | with_reducible rfl
      (try simp only [List.getElem_toArray, List.getElem_cons_succ, List.getElem_cons_zero, Act.put, List.setIfInBounds_toArray, List.set_cons_zero, List.set_cons_succ])
      refine wpAnyH_all (rs := [4, 8]) (by kernel_rfl) (by simp) fun j hj => ?_
      have hj2 : j = 4 ∨ j = 8 := by simpa using hj
      clear hj
      rcases hj2 with rfl | rfl
      · refine wpOp_do rfl (by kernel_rfl) fun K hK => ?_
        simp only [List.getElem_toArray, List.getElem_cons_succ, List.getElem_cons_zero]
        have cB := hB.cell
        go_simp
        refine hK.out _ _ hS1 ?_
        clear hK K
        (try simp only [List.getElem_toArray, List.getElem_cons_succ, List.getElem_cons_zero, Act.put, List.setIfInBounds_toArray, List.set_cons_zero, List.set_cons_succ])
        refine wpAnyH_all (rs := [7, 8]) (by kernel_rfl) (by simp) fun j hj => ?_
        have hj2 : j = 7 ∨ j = 8 := by simpa using hj
        clear hj
        rcases hj2 with rfl | rfl
        · refine wpOp_do rfl (by kernel_rfl) fun K hK => ?_
          obtain ⟨v7, w7, hr7, hown7, hb7, hg7⟩ := HAp.out w2.drew (Below.refl _ _).drew
          refine Lib.wp_append_run _ (.tmp 15) (.tmp 17) _ _ rfl (.slice Ab nb cb) (.string nm) rfl rfl _ _ hr7 ?_
          have hb7w : Below (b0 + 1) w2 w7 := (Below.refl _ _).drew.trans hb7
          have hS7 : (fun W' : World => ∀ i, W'.cell? ⟨b0, i, none⟩ = (#[.string nm, .slice A1 np c1, .slice A2 nk c2] : Array Value)[i]?) w7 := (HTb.out _ hb7w).cell
          obtain ⟨A7, c7, hv7, _, _⟩ := own_slice hown7
          subst hv7
          refine hK.out _ _ hS7 ?_
          clear hK K
          (try simp only [List.getElem_toArray, List.getElem_cons_succ, List.getElem_cons_zero, Act.put, List.setIfInBounds_toArray, List.set_cons_zero, List.set_cons_succ])
          refine wpAnyH_call (i := 8) (by kernel_rfl) rfl (by kernel_rfl) fun K hK => ?_
          simp only [List.getElem_toArray, List.getElem_cons_succ, List.getElem_cons_zero]
          go_simp
          have hb8w : Below (b0 + 1) w2 (w7.alloc (.cells #[.int .u8 0] 5)) := bal' hb7w _ (by have := hb7w.size; omega)
          have hS8 : (fun W' : World => ∀ i, W'.cell? ⟨b0, i, none⟩ = (#[.string nm, .slice A1 np c1, .slice A2 nk c2] : Array Value)[i]?) (w7.alloc (.cells #[.int .u8 0] 5)) := (HTb.out _ hb8w).cell
          refine hK.out _ _ hS8 ?_
          clear hK K
          (try simp only [List.getElem_toArray, List.getElem_cons_succ, List.getElem_cons_zero, Act.put, List.setIfInBounds_toArray, List.set_cons_zero, List.set_cons_succ])
          refine wpAnyH_call (i := 9) (by kernel_rfl) rfl (by kernel_rfl) fun K hK => ?_
          simp only [List.getElem_toArray, List.getElem_cons_succ, List.getElem_cons_zero]
          obtain ⟨v9, w9, hr9, hown9, hb9⟩ := run_appb (w7.alloc (.cells #[.int .u8 0] 5)) (b0 + 1) 28 (.slice A7 (nb + nm.size) c7) (nb + nm.size) (st.b ++ bytesN 4 false 1 ++ strB nm) (own_kept hown7 (bal (Below.refl _ _) _)) (some ⟨w7.heap.size, 0, none⟩) 1 1 [0] (Rd.fresh w7 #[.int .u8 0] 5 1 1 w7.heap.size rfl rfl) (by omega) (by have := hb8w.size; omega)
          refine Lib.wp_append_run _ (.tmp 18) (.tmp 19) _ _ rfl (.slice A7 (nb + nm.size) c7) (.slice (some ⟨w7.heap.size, 0, none⟩) 1 1) rfl rfl _ _ hr9 ?_
          have hbw9 := hb8w.trans hb9
          have hS9 : (fun W' : World => ∀ i, W'.cell? ⟨b0, i, none⟩ = (#[.string nm, .slice A1 np c1, .slice A2 nk c2] : Array Value)[i]?) w9 := (HTb.out _ hbw9).cell
          refine hK.out _ _ hS9 ?_
          clear hK K
          (try simp only [List.getElem_toArray, List.getElem_cons_succ, List.getElem_cons_zero, Act.put, List.setIfInBounds_toArray, List.set_cons_zero, List.set_cons_succ])
          have elen := Lib.hid (show nb + nm.size + 1 = ((st.b ++ bytesN 4 false 1 ++ strB nm) ++ [0]).length by rw [← HNb.out]; simp only [List.length_append, strB_len, List.length_cons, List.length_nil])
          obtain ⟨hF9, hn9⟩ := fstb_set (l := (st.b ++ bytesN 4 false 1 ++ strB nm) ++ [0]) HW2.out hbw9 (v4 := v9) (by rw [← elen.out]; exact hown9)
          have cB9 := (HGk.out _ hbw9).cell
          have fB9 := (HGk.out _ hbw9).frozen
          obtain ⟨A9, c9, hv9, _, _⟩ := own_slice hown9
          subst hv9
          refine wpAnyH_call (i := 10) (by kernel_rfl) rfl (by kernel_rfl) fun K hK => ?_
          simp only [List.getElem_toArray, List.getElem_cons_succ, List.getElem_cons_zero]
          go_simp
          refine hK.out _ _ hS9 ?_
          clear hK K
          (try simp only [List.getElem_toArray, List.getElem_cons_succ, List.getElem_cons_zero, Act.put, List.setIfInBounds_toArray, List.set_cons_zero, List.set_cons_succ])
          refine wpAnyH_call (i := 11) (by kernel_rfl) rfl (by kernel_rfl) fun K hK => ?_
          simp only [List.getElem_toArray, List.getElem_cons_succ, List.getElem_cons_zero]
          go_simp
          refine hK.out _ _ hS9 ?_
          clear hK K
          (try simp only [List.getElem_toArray, List.getElem_cons_succ, List.getElem_cons_zero, Act.put, List.setIfInBounds_toArray, List.set_cons_zero, List.set_cons_succ])
          refine wpAnyH_call (i := 12) (by kernel_rfl) rfl (by kernel_rfl) fun K hK => ?_
          simp only [List.getElem_toArray, List.getElem_cons_succ, List.getElem_cons_zero]
          go_simp
          have hS12 : (fun W' : World => ∀ i, W'.cell? ⟨b0, i, none⟩ = (#[.string nm, .slice A1 np c1, .slice A2 nk c2] : Array Value)[i]?) (w9.setCell ⟨g, 0, none⟩ (.slice A9 (nb + nm.size + 1) c9)) := ((HTb.out _ hbw9).same (Below.heap_setCell _ _ _ _ (by simp; omega))).cell
          refine hK.out _ _ hS12 ?_
          clear hK K
          (try simp only [List.getElem_toArray, List.getElem_cons_succ, List.getElem_cons_zero, Act.put, List.setIfInBounds_toArray, List.set_cons_zero, List.set_cons_succ])
          refine wpAnyH_done (by kernel_rfl) ?_ _
          have hnE : Near S wt (w9.setCell ⟨g, 0, none⟩ (.slice A9 (nb + nm.size + 1) c9)) := HN2.out.step hn9 (fun i hi => by
            rcases hi with h | h
            · exact .inl (by rw [h]; exact HSg.out)
            · exact .inr (by have := HZt.out; omega))
          generalize w9.setCell ⟨g, 0, none⟩ (.slice A9 (nb + nm.size + 1) c9) = wE at *
          have HFl := Lib.hid (ffill_any g (b0 + 1) _ S wE hF9 (by rw [← elen.out]; omega))
          have HNE := Lib.hid hnE
          clear hS1 hS9 hS12 cB9 fB9 hn9 hbw9 hown9 hb9 hF9 hnE HW2 HN2 HGk HTb HAp hob hB
          go_upto_region 4 with (go_at_call 83; refine HFl.out.mono ?_; rintro e wf ⟨rfl, hwf, hnf⟩)
          have hnF : Near S wt wf := HNE.out.step hnf (fun i hi => by
            rcases hi with h | h
            · exact .inl (by rw [h]; exact HSg.out)
            · exact .inr (by have := HZt.out; omega))
          have HW9 := Lib.hid (show FOut S g (headS nm st) wt wf by
            have := FOut.of_b hwf hnF (by have := HZt.out; omega)
            unfold headS
            rw [be4_one, ← List.append_assoc]
            exact this)
          have cT := (HTk.out wf hnF).cell
          clear hwf hnf hnF HFl HNE
          go_wp2_with fail
          go_loopw [28] (fun i wr => ∃ j : Nat, j ≤ np ∧ i = .int .i64 j ∧ FOut S g ((t.ps.take j).foldl propS (headS nm st)) wt wr) (fun i _ => np - (intOf i).toNat)
          case atStart => exact ⟨0, by omega, rfl, HW9.out⟩
          case round =>
            clear HW9 cT
            obtain ⟨j, hj, rfl, S1, hw1, hn1, hs1⟩ := hrel
            have hBr := HBl.out _ hn1
            by_cases hlj : j < np
            · obtain ⟨pr, hpr⟩ : ∃ q, t.ps[j]? = some q := ⟨_, List.getElem?_eq_getElem (by rw [HNp.out]; exact hlj)⟩
              obtain ⟨hps, hpb, Ap, cp, hfj, hcp1, hcp2, hprd⟩ := HP.out j pr hpr
              obtain ⟨b1, o1, rfl, hbk, hc1⟩ := HF.out (by omega)
              have x0 := (hBr.cell (p := ⟨b1, o1 + (j * 2 + 0), none⟩) hbk).trans (hc1 j hlj 0 (by omega))
              have x1 := (hBr.cell (p := ⟨b1, o1 + (j * 2 + 1), none⟩) hbk).trans (hc1 j hlj 1 (by omega))
              rw [hfj] at x0 x1
              simp only [Nat.add_zero, ← Nat.add_assoc, List.getElem?_cons_zero, List.getElem?_cons_succ] at x0 x1
              have hok := prOk_bd (List.all_eq_true.1 HInv.out.1.2.2.2.1 _ (List.mem_of_getElem? hpr))
              have HFt := Lib.hid (foldl_take propS t.ps (headS nm st) j pr hpr)
              have HB1 := Lib.hid (show BdO ((t.ps.take j).foldl propS (headS nm st)) (n + 1) (p + j) (o + 1) by
                have := propsS_bdo (t.ps.take j) (headS_bdo HB0.out hnm1) (fun q hq => List.all_eq_true.1 HInv.out.1.2.2.2.1 q (List.mem_of_mem_take hq))
                rw [List.length_take, HNp.out, Nat.min_eq_left hj] at this
                exact this)
              clear hc1 hfj hpr
              obtain ⟨pn, pb⟩ := pr
              simp only at x0 hps hok
              obtain ⟨pl, hpl⟩ : ∃ pl, pb.length = pl := ⟨_, rfl⟩
              simp only at x1 hcp1 hcp2 hpb hprd
              rw [hpl] at x1 hcp1 hok hprd
              have HPl := Lib.hid hpl
              have HPr := Lib.hid hprd
              obtain ⟨st1, hst1⟩ : ∃ st1, (t.ps.take j).foldl propS (headS nm st) = st1 := ⟨_, rfl⟩
              have HPl1 := Lib.hid (propsS_plb (t.ps.take j) (st := headS nm st) HPL.out)
              rw [hst1] at hw1 HFt HB1 HPl1
              have hbd1 := HB1.out
              have hbb1 : st1.b.length ≤ 5000000 := by have := hbd1.1; omega
              have S1b : ∀ i, S1 i → i < wr.heap.size := by obtain ⟨_, _, _, _, _, _, _, _, _, h⟩ := hw1; exact h
              have S1g : S1 g := by obtain ⟨_, _, _, _, _, _, _, _, h, _⟩ := hw1; exact h
              have hzr := hn1.size
              have hpl4 : pl ≤ 4096 := hok.2
              have hpn4 : pn.size ≤ 31 := hok.1
              have hX := Blk.new wr 88 #[.string pn, .slice Ap pl cp]
              have hbX := bal (Below.refl wr.heap.size wr) (.cells #[.string pn, .slice Ap pl cp] 88)
              have hwx := hw1.kept hbX
              have hnx := hn1.trans (Near.of_below S hbX)
              have hzx : (wr.alloc (.cells #[.string pn, .slice Ap pl cp] 88)).heap.size = wr.heap.size + 1 := by simp
              have HZx := Lib.hid hzx
              have HS1b := Lib.hid S1b
              have HS1g := Lib.hid S1g
              have HSs := Lib.hid hs1
              clear hpl hpb hprd hst1 hw1 S1b S1g hs1 hn1 hbd1 hok hzx hbX hBr
              unfold maxLen at hcp2
              go_upto_region 7 with (fail)
              clear x0 x1
              generalize wr.alloc (.cells #[.string pn, .slice Ap pl cp] 88) = wx at *
              have HXk := Lib.hid (fun W (h : Near S1 wx W) => hX.same (h.block _ hX.lt (fun h => absurd (HS1b.out _ h) (Nat.lt_irrefl _))))
              have HNx := Lib.hid hnx
              have HC7 := Lib.hid (ffour_out g st1 S1 3 wx hwx (by omega) (by decide) (by decide))
              clear hX hnx hwx
              go_upto_region 8 with (go_at_call 39; refine HC7.out.mono ?_; rintro e w7 ⟨rfl, S7, hw7, hn7, hs7⟩)
              have cX := (HXk.out _ hn7).cell
              have HC8 := Lib.hid (ffour_out g _ S7 pl w7 hw7 (by simp only [List.length_append, bytesN_len]; omega) (by omega) (by omega))
              clear hw7 HC7
              go_upto_region 9 with (go_at_call 39; refine HC8.out.mono ?_; rintro e w8 ⟨rfl, hw8⟩)
              obtain ⟨S8, hw8, hn8, hs8⟩ := FOut.trans hn7 hs7 hw8
              clear cX HC8 hn7 hs7
              have cX := (HXk.out _ hn8).cell
              have HC9 := Lib.hid (ftext_any g _ pn S8 w8 hw8 (by omega) (by simp only; have := HB1.out.2.1; omega) (by simp only; have := HB1.out.2.2; omega))
              clear hw8
              rw [textS_any st1] at HC9
              obtain ⟨pc, hpc⟩ : ∃ pc, (textS st1 pn).2 = pc := ⟨_, rfl⟩
              have hpcb : pc < 4294967296 := by
                have h1 := (textS_plb HPl1.out pn).2
                have h2 := HB1.out.2.1
                rw [hpc] at h1
                omega
              have HPc := Lib.hid hpc
              rw [hpc] at HC9
              clear hpc
              go_upto_region 10 with (go_at_call 84; refine HC9.out.mono ?_; rintro e w9 ⟨rfl, hw9⟩)
              obtain ⟨S9, hw9, hn9, hs9⟩ := FOut.trans hn8 hs8 hw9
              clear cX HC9 hn8 hs8
              have HC10 := Lib.hid (ffour_any g _ S9 pc w9 hw9 (by simp only [List.length_append, bytesN_len]; omega) (by omega) (by omega))
              clear hw9
              go_upto_region 11 with (go_at_call 39; refine HC10.out.mono ?_; rintro e w10 ⟨rfl, hw10, hn10⟩)
              have hn10 : Near S1 wx w10 := hn9.step hn10 (fun i hi => hs9 i hi)
              have hzw9 := hn9.size
              have hzw10 := hn10.size
              have HW10 := Lib.hid hw10
              have HN10 := Lib.hid hn10
              have HS9 := Lib.hid hs9
              have hzx := HZx.out
              have hX10 := HXk.out _ hn10
              obtain ⟨vb, vx, vn, hB, hob, _, _, hg9, hb9, hz9⟩ := hw10
              have hgw9 : g < w9.heap.size := hb9 _ hg9
              have hxw9 : wr.heap.size < w9.heap.size := by omega
              obtain ⟨Ab, cb, rfl, _, _⟩ := own_slice hob
              obtain ⟨bs10, hbs⟩ : ∃ l, l = ((st1.b ++ bytesN 4 false 3) ++ bytesN 4 false pl) ++ bytesN 4 false pc := ⟨_, rfl⟩
              have hob2 : w10.ownsRow w9.heap.size 5 1 (.slice Ab bs10.length cb) bs10.length (bs10.flatMap encB) := by rw [hbs]; exact hob
              have hB2 : Blk w10 g 77 #[.slice Ab bs10.length cb, vx, vn] := by rw [hbs]; exact hB
              have hbl : bs10.length ≤ 6000000 := by rw [hbs]; simp only [List.length_append, bytesN_len]; omega
              have HBs10 := Lib.hid hbs
              obtain ⟨nb, hnb⟩ : ∃ n, bs10.length = n := ⟨_, rfl⟩
              have HNb2 := Lib.hid hnb
              rw [hnb] at hob2 hB2 hbl
              have hBl10 := HBl.out _ (HNx.out.step hn10 (fun i hi => by
                rcases HSs.out i hi with h | h
                · exact .inl h
                · exact .inr h))
              have hrd10 : Rd w10 w10.heap.size 1 Ap pl (pb.flatMap encB) := (HPr.out.below hBl10).more (by have := HZt.out; have := hn9.size; omega)
              obtain ⟨v11, w11, hr11, hown11, hb11⟩ := run_appb w10.drew w9.heap.size 28 (.slice Ab nb cb) nb bs10 (own_kept hob2 (Below.refl _ _).drew) Ap pl cp pb (hrd10.below (Below.refl _ _).drew) (by omega) hz9
              have hb11' : Below w9.heap.size w10 w11 := (Below.refl _ w10).drew.trans hb11
              obtain ⟨A11, c11, hv11, _, _⟩ := own_slice hown11
              subst hv11
              have hX11 := hX10.same (hb11'.block _ hxw9)
              have hB11 := hB2.same (hb11'.block g hgw9)
              have hrow11 : w11.ownsRow w9.heap.size 5 1 (.slice A11 (nb + pl) c11) (bs10 ++ pb).length ((bs10 ++ pb).flatMap encB) := by
                rw [List.length_append, HNb2.out, HPl.out]
                exact hown11
              obtain ⟨hF12, hn12⟩ := fstb_set (l := bs10 ++ pb) HW10.out hb11' hrow11
              clear hn9 hs9 hob hB hbs hnb
              have hS1 : (fun W' : World => ∀ i, W'.cell? ⟨wr.heap.size, i, none⟩ = (#[.string pn, .slice Ap pl cp] : Array Value)[i]?) w10.drew := hX10.drew.cell
              refine wp_region_held_drew (S := fun W' : World => ∀ i, W'.cell? ⟨wr.heap.size, i, none⟩ = (#[.string pn, .slice Ap pl cp] : Array Value)[i]?) (by kernel_rfl) hS1 (fun hHeld => ?_)
              clear hHeld
              refine wpAnyH_take (i := 0) (v := ?vxb0) rfl (by kernel_rfl) (by kernel_rfl) (by kernel_rfl) (fun _ _ _ h => h) (Or.inl ⟨by kernel_rfl, ?hyxb0⟩) hS1 ?restxb0
              case hyxb0 =>
                intro w hSw
                clear hSw
                go_simp
                first | done | with_reducible rfl
              (try simp only [List.getElem_toArray, List.getElem_cons_succ, List.getElem_cons_zero, Act.put, List.setIfInBounds_toArray, List.set_cons_zero, List.set_cons_succ])
              refine wpAnyH_take (i := 1) (v := ?vxb1) rfl (by kernel_rfl) (by kernel_rfl) (by kernel_rfl) (fun _ _ _ h => h) (Or.inl ⟨by kernel_rfl, ?hyxb1⟩) hS1 ?restxb1
              case hyxb1 =>
                intro w hSw
                clear hSw
                go_simp
                first | done | with_reducible rfl
              (try simp only [List.getElem_toArray, List.getElem_cons_succ, List.getElem_cons_zero, Act.put, List.setIfInBounds_toArray, List.set_cons_zero, List.set_cons_succ])
              refine wpAnyH_take (i := 2) (v := ?vxb2) rfl (by kernel_rfl) (by kernel_rfl) (by kernel_rfl) (fun _ _ _ h => h) (Or.inl ⟨by kernel_rfl, ?hyxb2⟩) hS1 ?restxb2
              case hyxb2 =>
                intro w hSw
                clear hSw
                go_simp
                first | done | with_reducible rfl
              (try simp only [List.getElem_toArray, List.getElem_cons_succ, List.getElem_cons_zero, Act.put, List.setIfInBounds_toArray, List.set_cons_zero, List.set_cons_succ])
              refine wpAnyH_take (i := 3) (v := ?vxb3) rfl (by kernel_rfl) (by kernel_rfl) (by kernel_rfl) (fun _ _ _ h => h) (Or.inl ⟨by kernel_rfl, ?hyxb3⟩) hS1 ?restxb3
              case hyxb3 =>
                intro w hSw
                clear hSw
                go_simp
                first | done | with_reducible rfl
              (try simp only [List.getElem_toArray, List.getElem_cons_succ, List.getElem_cons_zero, Act.put, List.setIfInBounds_toArray, List.set_cons_zero, List.set_cons_succ])
              refine wpAnyH_take (i := 5) (v := ?vxb5) rfl (by kernel_rfl) (by kernel_rfl) (by kernel_rfl) (fun _ _ _ h => h) (Or.inl ⟨by kernel_rfl, ?hyxb5⟩) hS1 ?restxb5
              case hyxb5 =>
                intro w hSw
                clear hSw
                go_simp
                first | done | with_reducible rfl
              (try simp only [List.getElem_toArray, List.getElem_cons_succ, List.getElem_cons_zero, Act.put, List.setIfInBounds_toArray, List.set_cons_zero, List.set_cons_succ])
              refine wpAnyH_take (i := 6) (v := ?vxb6) rfl (by kernel_rfl) (by kernel_rfl) (by kernel_rfl) (fun _ _ _ h => h) (Or.inl ⟨by kernel_rfl, ?hyxb6⟩) hS1 ?restxb6
              case hyxb6 =>
                intro w hSw
                (try dsimp only at hSw)
                go_simp
                first | done | with_reducible rfl
              (try simp only [List.getElem_toArray, List.getElem_cons_succ, List.getElem_cons_zero, Act.put, List.setIfInBounds_toArray, List.set_cons_zero, List.set_cons_succ])
              have cB10 := hB2.cell
              refine wpAnyH_call (i := 4) (by kernel_rfl) rfl (by kernel_rfl) fun K hK => ?_
              simp only [List.getElem_toArray, List.getElem_cons_succ, List.getElem_cons_zero]
              go_simp
              refine hK.out _ _ hS1 ?_
              clear hK K
              (try simp only [List.getElem_toArray, List.getElem_cons_succ, List.getElem_cons_zero, Act.put, List.setIfInBounds_toArray, List.set_cons_zero, List.set_cons_succ])
              refine wpAnyH_call (i := 7) (by kernel_rfl) rfl (by kernel_rfl) fun K hK => ?_
              simp only [List.getElem_toArray, List.getElem_cons_succ, List.getElem_cons_zero]
              refine Lib.wp_append_run _ (.tmp 50) (.tmp 52) _ _ rfl (.slice Ab nb cb) (.slice Ap pl cp) rfl rfl _ _ hr11 ?_
              have hS11 : (fun W' : World => ∀ i, W'.cell? ⟨wr.heap.size, i, none⟩ = (#[.string pn, .slice Ap pl cp] : Array Value)[i]?) w11 := hX11.cell
              refine hK.out _ _ hS11 ?_
              clear hK K
              (try simp only [List.getElem_toArray, List.getElem_cons_succ, List.getElem_cons_zero, Act.put, List.setIfInBounds_toArray, List.set_cons_zero, List.set_cons_succ])
              have cB11 := hB11.cell
              have fB11 := hB11.frozen
              refine wpAnyH_call (i := 8) (by kernel_rfl) rfl (by kernel_rfl) fun K hK => ?_
              simp only [List.getElem_toArray, List.getElem_cons_succ, List.getElem_cons_zero]
              go_simp
              refine hK.out _ _ hS11 ?_
              clear hK K
              (try simp only [List.getElem_toArray, List.getElem_cons_succ, List.getElem_cons_zero, Act.put, List.setIfInBounds_toArray, List.set_cons_zero, List.set_cons_succ])
              refine wpAnyH_call (i := 9) (by kernel_rfl) rfl (by kernel_rfl) fun K hK => ?_
              simp only [List.getElem_toArray, List.getElem_cons_succ, List.getElem_cons_zero]
              go_simp
              refine hK.out _ _ hS11 ?_
              clear hK K
              (try simp only [List.getElem_toArray, List.getElem_cons_succ, List.getElem_cons_zero, Act.put, List.setIfInBounds_toArray, List.set_cons_zero, List.set_cons_succ])
              refine wpAnyH_call (i := 10) (by kernel_rfl) rfl (by kernel_rfl) fun K hK => ?_
              simp only [List.getElem_toArray, List.getElem_cons_succ, List.getElem_cons_zero]
              go_simp
              have hS12 : (fun W' : World => ∀ i, W'.cell? ⟨wr.heap.size, i, none⟩ = (#[.string pn, .slice Ap pl cp] : Array Value)[i]?) (w11.setCell ⟨g, 0, none⟩ (.slice A11 (nb + pl) c11)) := (hX11.same (Below.heap_setCell _ _ _ _ (by have := HS1b.out _ HS1g.out; simp; omega))).cell
              refine hK.out _ _ hS12 ?_
              clear hK K
              (try simp only [List.getElem_toArray, List.getElem_cons_succ, List.getElem_cons_zero, Act.put, List.setIfInBounds_toArray, List.set_cons_zero, List.set_cons_succ])
              refine wpAnyH_done (by kernel_rfl) ?_ _
              clear hS1 hS11 hS12 hX10 hX11 hB2 hB11 cB10 cB11 fB11 hr11 hown11 hrow11 hrd10 hb11 hb11' hBl10 hob2
              generalize w11.setCell ⟨g, 0, none⟩ (.slice A11 (nb + pl) c11) = w12 at *
              have HF13 := Lib.hid (ffill_any g w9.heap.size _ S9 w12 hF12 (by rw [List.length_append, HNb2.out, HPl.out]; omega))
              have HN12 := Lib.hid (HN10.out.step hn12 (fun i hi => by
                rcases hi with h | h
                · exact .inl (by rw [h]; exact HS1g.out)
                · exact .inr (by omega)))
              clear hF12 hn12
              go_upto_region 13 with (go_at_call 83; refine HF13.out.mono ?_; rintro e w13 ⟨rfl, hw13, hn13⟩)
              have hn14 : Near S1 wx w13 := HN12.out.step hn13 (fun i hi => by
                rcases hi with h | h
                · exact .inl (by rw [h]; exact HS1g.out)
                · exact .inr (by omega))
              have hst : FSt w13 (fun i => (S9 i ∨ w9.heap.size ≤ i) ∧ i < w13.heap.size) g (propS st1 (pn, pb)) := by
                have := hw13.st
                unfold propS
                simp only [HPc.out, HPl.out, be4_cons, be4_one]
                rw [HBs10.out] at this
                simp only [List.append_assoc] at this ⊢
                exact this
              have HOut := Lib.hid (show FOut S g ((t.ps.take (j + 1)).foldl propS (headS nm st)) wt w13 from by
                rw [HFt.out]
                refine ⟨_, hst, HNx.out.step hn14 (fun i hi => HSs.out i hi), fun i hi => ?_⟩
                rcases hi.1 with h | h
                · rcases HS9.out i h with h | h
                  · exact HSs.out i h
                  · exact .inr (by omega)
                · exact .inr (by omega))
              clear hst hn14 hn13 hw13 HF13
              go_wp2_with fail
              go_roundw
              case rel => exact ⟨j + 1, by omega, by go_num, HOut.out⟩
              case measure => simp [intOf]; omega
            · obtain rfl : j = np := by omega
              have etk : t.ps.take j = t.ps := by rw [← HNp.out, List.take_length]
              rw [etk] at hw1
              obtain ⟨stp, hstp⟩ : ∃ stp, t.ps.foldl propS (headS nm st) = stp := ⟨_, rfl⟩
              rw [hstp] at hw1
              have HBp : Hid (BdO stp (n + 1) (p + j) (o + 1)) := Lib.hid (by
                have := propsS_bdo t.ps (headS_bdo HB0.out hnm1) (fun q hq => List.all_eq_true.1 HInv.out.1.2.2.2.1 q hq)
                rw [HNp.out, hstp] at this
                exact this)
              have HPp : Hid (PlB stp) := Lib.hid (by
                rw [← hstp]
                exact propsS_plb t.ps (st := headS nm st) HPL.out)
              have HSp := Lib.hid hstp
              have cT := (HTk.out _ hn1).cell
              have HWp := Lib.hid (show FOut S g stp wt wr from ⟨S1, hw1, hn1, hs1⟩)
              clear hw1 hn1 hs1 hstp etk hBr
              go_wp2_with fail
              go_loopw [62] (fun i wr => ∃ j2 : Nat, j2 ≤ nk ∧ i = .int .i64 j2 ∧ FOut S g ((t.ks.take j2).foldl (fun s k => nodeS f k s) stp) wt wr) (fun i _ => nk - (intOf i).toNat)
              case atStart => exact ⟨0, by omega, rfl, HWp.out⟩
              case round =>
                clear cT
                obtain ⟨j2, hj2, rfl, S2, hw2, hn2, hs2⟩ := hrel
                have hBr := HBl.out _ hn2
                by_cases hlk : j2 < nk
                · obtain ⟨kd, hkd⟩ : ∃ q, t.ks[j2]? = some q := ⟨_, List.getElem?_eq_getElem (by rw [HNk.out]; exact hlk)⟩
                  have hK := HK.out j2 kd hkd
                  obtain ⟨b2, o2, rfl, hbk, hc2⟩ := HG.out (by omega)
                  have x0 := (hBr.cell (p := ⟨b2, o2 + (j2 * 3 + 0), none⟩) hbk).trans (hc2 j2 hlk 0 (by omega))
                  have x1 := (hBr.cell (p := ⟨b2, o2 + (j2 * 3 + 1), none⟩) hbk).trans (hc2 j2 hlk 1 (by omega))
                  have x2 := (hBr.cell (p := ⟨b2, o2 + (j2 * 3 + 2), none⟩) hbk).trans (hc2 j2 hlk 2 (by omega))
                  have hK2 := hK.below hBr
                  obtain ⟨sn, K1, n1, cc1, K2, n2, cc2, hv⟩ : ∃ (sn : ByteArray) (K1 : Option Addr) (n1 cc1 : Nat) (K2 : Option Addr) (n2 cc2 : Nat), rowG j2 = [.string sn, .slice K1 n1 cc1, .slice K2 n2 cc2] := by
                    cases k with
                    | zero => exact hK.elim
                    | succ k =>
                      obtain ⟨_, _, _, _, _, _, _, e, _⟩ := hK
                      exact ⟨_, _, _, _, _, _, _, e⟩
                  rw [hv] at x0 x1 x2 hK2
                  simp only [Nat.add_zero, ← Nat.add_assoc, List.getElem?_cons_zero, List.getElem?_cons_succ] at x0 x1 x2
                  have HFt := Lib.hid (foldl_take (fun s k => nodeS f k s) t.ks stp j2 kd hkd)
                  obtain ⟨⟨nq, pq⟩, hkf⟩ : ∃ c, kidsF (mayF f) (t.ks.take j2) (n + 1, p + t.ps.length) = some c := by
                    rcases h : kidsF (mayF f) (t.ks.take j2) (n + 1, p + t.ps.length) with _ | c
                    · have := HInv.out.2.1
                      rw [kidsF_none _ _ j2 _ h] at this
                      cases this
                    · exact ⟨c, rfl⟩
                  obtain ⟨⟨nq2, pq2⟩, hkm⟩ : ∃ c, mayF f kd (nq, pq) = some c := by
                    rcases h : mayF f kd (nq, pq) with _ | c
                    · have h1 := kidsF_take (mayF f) t.ks j2 kd (n + 1, p + t.ps.length) hkd
                      rw [hkf, Option.bind_some, h] at h1
                      have := HInv.out.2.1
                      rw [kidsF_none _ _ (j2 + 1) _ h1] at this
                      cases this
                    · exact ⟨c, rfl⟩
                  have hge := kidsF_le (fun t c c' => mayF_le f t c c') _ _ _ hkf (by simp only; omega) (by simp only; omega) (by simp only; omega) (by simp only; rw [HNp.out]; omega)
                  simp only at hge
                  have hbk2 := kidsS_bdo (o := o + 1) (fun t c c' st => nodeS_bdo f (o + 1) t c c' st) (t.ks.take j2) (n + 1, p + t.ps.length) (nq, pq) stp hkf (by rw [HNp.out]; exact HBp.out)
                  have hpl2 := kidsS_plb f (t.ks.take j2) HPp.out
                  obtain ⟨st2, hst2⟩ : ∃ st2, (t.ks.take j2).foldl (fun s k => nodeS f k s) stp = st2 := ⟨_, rfl⟩
                  rw [hst2] at hw2 HFt hbk2 hpl2
                  have hbX := bal (Below.refl wr.heap.size wr) (.cells #[.string sn, .slice K1 n1 cc1, .slice K2 n2 cc2] 25)
                  have hzr := hn2.size
                  have S2B : ∀ i, S2 i → B ≤ i := fun i hi => by
                    rcases hs2 i hi with h | h
                    · exact hSB i h
                    · have := HZt.out
                      omega
                  have HC := Lib.hid (IH.out kd _ nq pq nq2 pq2 (o + 1) g B S2 st2 _ (hK2.below (hbX.mono (by have := HZt.out; omega))) hkm (by omega) (by omega) hbk2 hpl2 (hw2.kept hbX) S2B (by have := HZt.out; simp; omega))
                  have HN2 := Lib.hid (hn2.alloc (.cells #[.string sn, .slice K1 n1 cc1, .slice K2 n2 cc2] 25))
                  have HS2 := Lib.hid hs2
                  clear hc2 hK hkd hv hK2 hkf hkm hbk2 hst2 hw2 hn2 hs2 hbX S2B hpl2
                  go_wp2_with (go_at_call 38; refine HC.out.mono ?_; rintro e w6 ⟨rfl, hw6⟩)
                  go_roundw
                  case rel =>
                    refine ⟨j2 + 1, by omega, by go_num, ?_⟩
                    rw [HFt.out]
                    obtain ⟨S3, hw7, hn7, hs7⟩ := hw6
                    refine ⟨S3, hw7, HN2.out.step hn7 (fun i hi => HS2.out i hi), fun i hi => ?_⟩
                    rcases hs7 i hi with h | h
                    · exact HS2.out i h
                    · refine .inr ?_
                      simp at h
                      omega
                  case measure => simp [intOf]; omega
                · obtain rfl : j2 = nk := by omega
                  have etk : t.ks.take j2 = t.ks := by rw [← HNk.out, List.take_length]
                  rw [etk] at hw2
                  have hkf := HInv.out.2.1
                  rw [HNp.out] at hkf
                  have hbk2 := kidsS_bdo (o := o + 1) (fun t c c' st => nodeS_bdo f (o + 1) t c c' st) t.ks _ _ stp hkf HBp.out
                  obtain ⟨st2, hst2⟩ : ∃ st2, t.ks.foldl (fun s k => nodeS f k s) stp = st2 := ⟨_, rfl⟩
                  rw [hst2] at hw2 hbk2
                  have HEnd := Lib.hid (show nodeS (f + 1) t st = ⟨st2.b ++ bytesN 4 false 2, st2.x, st2.n⟩ by rw [nodeS_succ, HNm.out, HSp.out, hst2, be4_one])
                  have hb8 := hbk2.1
                  simp only at hb8
                  have HF8 := Lib.hid (ffour_out g st2 S2 2 wr hw2 (by omega) (by decide) (by decide))
                  have HN2 := Lib.hid hn2
                  have hzr := hn2.size
                  have HS2 := Lib.hid hs2
                  clear hw2 hn2 hs2 hbk2 hst2 hb8 hkf etk hBr
                  go_wp2_with (go_at_call 39; refine HF8.out.mono ?_; rintro e w6 ⟨rfl, hw6⟩)
                  go_end0
                  rw [HEnd.out]
                  refine ⟨rfl, ?_⟩
                  have h1 := FOut.trans HN2.out HS2.out hw6
                  have h2 : Near S w wt := Near.of_below S (by have := HBt.out; rw [HBz.out]; exact this)
                  obtain ⟨S3, h3, h4, h5⟩ := h1
                  refine ⟨S3, h3, h2.trans h4, fun i hi => ?_⟩
                  rcases h5 i hi with h | h
                  · exact .inl h
                  · exact .inr (by rw [HBz.out]; have := HZt.out; omega)
        · refine wpOp_do rfl (by kernel_rfl) fun K hK => ?_
          simp only [List.getElem_toArray, List.getElem_cons_succ, List.getElem_cons_zero]
          go_simp
          have hbz : Below w2.heap.size w2 (w2.alloc (.cells #[.int .u8 0] 5)).drew := (bal (Below.refl _ _) _).drew
          have hrz : Rd (w2.alloc (.cells #[.int .u8 0] 5)).drew (w2.alloc (.cells #[.int .u8 0] 5)).drew.heap.size 1 (some ⟨w2.heap.size, 0, none⟩) 1 #[Value.int .u8 0].toList := (Rd.fresh w2 #[.int .u8 0] 5 1 1 w2.heap.size rfl rfl).below (Below.refl _ _).drew
          have hS8 : (fun W' : World => ∀ i, W'.cell? ⟨b0, i, none⟩ = (#[.string nm, .slice A1 np c1, .slice A2 nk c2] : Array Value)[i]?) (w2.alloc (.cells #[.int .u8 0] 5)).drew := (HTb.out _ (hbz.mono hz2)).cell
          refine hK.out _ _ hS8 ?_
          clear hK K
          (try simp only [List.getElem_toArray, List.getElem_cons_succ, List.getElem_cons_zero, Act.put, List.setIfInBounds_toArray, List.set_cons_zero, List.set_cons_succ])
          generalize (w2.alloc (.cells #[.int .u8 0] 5)).drew = wz at *
          obtain ⟨v7, w7, hr7, hown7, hb7, hg7⟩ := HAp.out wz hbz
          refine wpAnyH_call (i := 7) (by kernel_rfl) rfl (by kernel_rfl) fun K hK => ?_
          simp only [List.getElem_toArray, List.getElem_cons_succ, List.getElem_cons_zero]
          refine Lib.wp_append_run _ (.tmp 15) (.tmp 17) _ _ rfl (.slice Ab nb cb) (.string nm) rfl rfl _ _ hr7 ?_
          have hb7w : Below (b0 + 1) w2 w7 := (hbz.mono hz2).trans hb7
          have hS7 : (fun W' : World => ∀ i, W'.cell? ⟨b0, i, none⟩ = (#[.string nm, .slice A1 np c1, .slice A2 nk c2] : Array Value)[i]?) w7 := (HTb.out _ hb7w).cell
          obtain ⟨A7, c7, hv7, _, _⟩ := own_slice hown7
          subst hv7
          refine hK.out _ _ hS7 ?_
          clear hK K
          (try simp only [List.getElem_toArray, List.getElem_cons_succ, List.getElem_cons_zero, Act.put, List.setIfInBounds_toArray, List.set_cons_zero, List.set_cons_succ])
          have hrd7 : Rd w7 w7.heap.size 1 (some ⟨w2.heap.size, 0, none⟩) 1 (([0] : List Int).flatMap encB) := by
            obtain ⟨r1, r2⟩ := hrz
            refine ⟨r1, fun h => ?_⟩
            obtain ⟨b, off, e, hb, hc⟩ := r2 h
            simp only [Option.some.injEq, Addr.mk.injEq, and_true] at e
            obtain ⟨rfl, rfl⟩ := e
            have hkeep : w7.heap[w2.heap.size]? = wz.heap[w2.heap.size]? := hg7.block _ hb (fun e => by
              have := (own_lt hob e.symm).2
              omega)
            exact ⟨_, _, rfl, Nat.lt_of_lt_of_le hb hg7.size, fun j u hj => (cell_same hkeep _).trans (hc j u hj)⟩
          refine wpAnyH_call (i := 9) (by kernel_rfl) rfl (by kernel_rfl) fun K hK => ?_
          simp only [List.getElem_toArray, List.getElem_cons_succ, List.getElem_cons_zero]
          obtain ⟨v9, w9, hr9, hown9, hb9⟩ := run_appb w7 (b0 + 1) 28 (.slice A7 (nb + nm.size) c7) (nb + nm.size) (st.b ++ bytesN 4 false 1 ++ strB nm) hown7 (some ⟨w2.heap.size, 0, none⟩) 1 1 [0] hrd7 (by omega) (by have := hb7w.size; omega)
          refine Lib.wp_append_run _ (.tmp 18) (.tmp 19) _ _ rfl (.slice A7 (nb + nm.size) c7) (.slice (some ⟨w2.heap.size, 0, none⟩) 1 1) rfl rfl _ _ hr9 ?_
          have hbw9 := hb7w.trans hb9
          have hS9 : (fun W' : World => ∀ i, W'.cell? ⟨b0, i, none⟩ = (#[.string nm, .slice A1 np c1, .slice A2 nk c2] : Array Value)[i]?) w9 := (HTb.out _ hbw9).cell
          refine hK.out _ _ hS9 ?_
          clear hK K
          (try simp only [List.getElem_toArray, List.getElem_cons_succ, List.getElem_cons_zero, Act.put, List.setIfInBounds_toArray, List.set_cons_zero, List.set_cons_succ])
          have elen := Lib.hid (show nb + nm.size + 1 = ((st.b ++ bytesN 4 false 1 ++ strB nm) ++ [0]).length by rw [← HNb.out]; simp only [List.length_append, strB_len, List.length_cons, List.length_nil])
          obtain ⟨hF9, hn9⟩ := fstb_set (l := (st.b ++ bytesN 4 false 1 ++ strB nm) ++ [0]) HW2.out hbw9 (v4 := v9) (by rw [← elen.out]; exact hown9)
          have cB9 := (HGk.out _ hbw9).cell
          have fB9 := (HGk.out _ hbw9).frozen
          obtain ⟨A9, c9, hv9, _, _⟩ := own_slice hown9
          subst hv9
          refine wpAnyH_call (i := 10) (by kernel_rfl) rfl (by kernel_rfl) fun K hK => ?_
          simp only [List.getElem_toArray, List.getElem_cons_succ, List.getElem_cons_zero]
          go_simp
          refine hK.out _ _ hS9 ?_
          clear hK K
          (try simp only [List.getElem_toArray, List.getElem_cons_succ, List.getElem_cons_zero, Act.put, List.setIfInBounds_toArray, List.set_cons_zero, List.set_cons_succ])
          refine wpAnyH_call (i := 11) (by kernel_rfl) rfl (by kernel_rfl) fun K hK => ?_
          simp only [List.getElem_toArray, List.getElem_cons_succ, List.getElem_cons_zero]
          go_simp
          refine hK.out _ _ hS9 ?_
          clear hK K
          (try simp only [List.getElem_toArray, List.getElem_cons_succ, List.getElem_cons_zero, Act.put, List.setIfInBounds_toArray, List.set_cons_zero, List.set_cons_succ])
          refine wpAnyH_call (i := 12) (by kernel_rfl) rfl (by kernel_rfl) fun K hK => ?_
          simp only [List.getElem_toArray, List.getElem_cons_succ, List.getElem_cons_zero]
          go_simp
          have hS12 : (fun W' : World => ∀ i, W'.cell? ⟨b0, i, none⟩ = (#[.string nm, .slice A1 np c1, .slice A2 nk c2] : Array Value)[i]?) (w9.setCell ⟨g, 0, none⟩ (.slice A9 (nb + nm.size + 1) c9)) := ((HTb.out _ hbw9).same (Below.heap_setCell _ _ _ _ (by simp; omega))).cell
          refine hK.out _ _ hS12 ?_
          clear hK K
          (try simp only [List.getElem_toArray, List.getElem_cons_succ, List.getElem_cons_zero, Act.put, List.setIfInBounds_toArray, List.set_cons_zero, List.set_cons_succ])
          refine wpAnyH_done (by kernel_rfl) ?_ _
          have hnE : Near S wt (w9.setCell ⟨g, 0, none⟩ (.slice A9 (nb + nm.size + 1) c9)) := HN2.out.step hn9 (fun i hi => by
            rcases hi with h | h
            · exact .inl (by rw [h]; exact HSg.out)
            · exact .inr (by have := HZt.out; omega))
          generalize w9.setCell ⟨g, 0, none⟩ (.slice A9 (nb + nm.size + 1) c9) = wE at *
          have HFl := Lib.hid (ffill_any g (b0 + 1) _ S wE hF9 (by rw [← elen.out]; omega))
          have HNE := Lib.hid hnE
          clear hS1 hS9 hS12 cB9 fB9 hn9 hbw9 hown9 hb9 hF9 hnE HW2 HN2 HGk HTb HAp hob hB
          go_upto_region 4 with (go_at_call 83; refine HFl.out.mono ?_; rintro e wf ⟨rfl, hwf, hnf⟩)
          have hnF : Near S wt wf := HNE.out.step hnf (fun i hi => by
            rcases hi with h | h
            · exact .inl (by rw [h]; exact HSg.out)
            · exact .inr (by have := HZt.out; omega))
          have HW9 := Lib.hid (show FOut S g (headS nm st) wt wf by
            have := FOut.of_b hwf hnF (by have := HZt.out; omega)
            unfold headS
            rw [be4_one, ← List.append_assoc]
            exact this)
          have cT := (HTk.out wf hnF).cell
          clear hwf hnf hnF HFl HNE
          go_wp2_with fail
          go_loopw [28] (fun i wr => ∃ j : Nat, j ≤ np ∧ i = .int .i64 j ∧ FOut S g ((t.ps.take j).foldl propS (headS nm st)) wt wr) (fun i _ => np - (intOf i).toNat)
          case atStart => exact ⟨0, by omega, rfl, HW9.out⟩
          case round =>
            clear HW9 cT
            obtain ⟨j, hj, rfl, S1, hw1, hn1, hs1⟩ := hrel
            have hBr := HBl.out _ hn1
            by_cases hlj : j < np
            · obtain ⟨pr, hpr⟩ : ∃ q, t.ps[j]? = some q := ⟨_, List.getElem?_eq_getElem (by rw [HNp.out]; exact hlj)⟩
              obtain ⟨hps, hpb, Ap, cp, hfj, hcp1, hcp2, hprd⟩ := HP.out j pr hpr
              obtain ⟨b1, o1, rfl, hbk, hc1⟩ := HF.out (by omega)
              have x0 := (hBr.cell (p := ⟨b1, o1 + (j * 2 + 0), none⟩) hbk).trans (hc1 j hlj 0 (by omega))
              have x1 := (hBr.cell (p := ⟨b1, o1 + (j * 2 + 1), none⟩) hbk).trans (hc1 j hlj 1 (by omega))
              rw [hfj] at x0 x1
              simp only [Nat.add_zero, ← Nat.add_assoc, List.getElem?_cons_zero, List.getElem?_cons_succ] at x0 x1
              have hok := prOk_bd (List.all_eq_true.1 HInv.out.1.2.2.2.1 _ (List.mem_of_getElem? hpr))
              have HFt := Lib.hid (foldl_take propS t.ps (headS nm st) j pr hpr)
              have HB1 := Lib.hid (show BdO ((t.ps.take j).foldl propS (headS nm st)) (n + 1) (p + j) (o + 1) by
                have := propsS_bdo (t.ps.take j) (headS_bdo HB0.out hnm1) (fun q hq => List.all_eq_true.1 HInv.out.1.2.2.2.1 q (List.mem_of_mem_take hq))
                rw [List.length_take, HNp.out, Nat.min_eq_left hj] at this
                exact this)
              clear hc1 hfj hpr
              obtain ⟨pn, pb⟩ := pr
              simp only at x0 hps hok
              obtain ⟨pl, hpl⟩ : ∃ pl, pb.length = pl := ⟨_, rfl⟩
              simp only at x1 hcp1 hcp2 hpb hprd
              rw [hpl] at x1 hcp1 hok hprd
              have HPl := Lib.hid hpl
              have HPr := Lib.hid hprd
              obtain ⟨st1, hst1⟩ : ∃ st1, (t.ps.take j).foldl propS (headS nm st) = st1 := ⟨_, rfl⟩
              have HPl1 := Lib.hid (propsS_plb (t.ps.take j) (st := headS nm st) HPL.out)
              rw [hst1] at hw1 HFt HB1 HPl1
              have hbd1 := HB1.out
              have hbb1 : st1.b.length ≤ 5000000 := by have := hbd1.1; omega
              have S1b : ∀ i, S1 i → i < wr.heap.size := by obtain ⟨_, _, _, _, _, _, _, _, _, h⟩ := hw1; exact h
              have S1g : S1 g := by obtain ⟨_, _, _, _, _, _, _, _, h, _⟩ := hw1; exact h
              have hzr := hn1.size
              have hpl4 : pl ≤ 4096 := hok.2
              have hpn4 : pn.size ≤ 31 := hok.1
              have hX := Blk.new wr 88 #[.string pn, .slice Ap pl cp]
              have hbX := bal (Below.refl wr.heap.size wr) (.cells #[.string pn, .slice Ap pl cp] 88)
              have hwx := hw1.kept hbX
              have hnx := hn1.trans (Near.of_below S hbX)
              have hzx : (wr.alloc (.cells #[.string pn, .slice Ap pl cp] 88)).heap.size = wr.heap.size + 1 := by simp
              have HZx := Lib.hid hzx
              have HS1b := Lib.hid S1b
              have HS1g := Lib.hid S1g
              have HSs := Lib.hid hs1
              clear hpl hpb hprd hst1 hw1 S1b S1g hs1 hn1 hbd1 hok hzx hbX hBr
              unfold maxLen at hcp2
              go_upto_region 7 with (fail)
              clear x0 x1
              generalize wr.alloc (.cells #[.string pn, .slice Ap pl cp] 88) = wx at *
              have HXk := Lib.hid (fun W (h : Near S1 wx W) => hX.same (h.block _ hX.lt (fun h => absurd (HS1b.out _ h) (Nat.lt_irrefl _))))
              have HNx := Lib.hid hnx
              have HC7 := Lib.hid (ffour_out g st1 S1 3 wx hwx (by omega) (by decide) (by decide))
              clear hX hnx hwx
              go_upto_region 8 with (go_at_call 39; refine HC7.out.mono ?_; rintro e w7 ⟨rfl, S7, hw7, hn7, hs7⟩)
              have cX := (HXk.out _ hn7).cell
              have HC8 := Lib.hid (ffour_out g _ S7 pl w7 hw7 (by simp only [List.length_append, bytesN_len]; omega) (by omega) (by omega))
              clear hw7 HC7
              go_upto_region 9 with (go_at_call 39; refine HC8.out.mono ?_; rintro e w8 ⟨rfl, hw8⟩)
              obtain ⟨S8, hw8, hn8, hs8⟩ := FOut.trans hn7 hs7 hw8
              clear cX HC8 hn7 hs7
              have cX := (HXk.out _ hn8).cell
              have HC9 := Lib.hid (ftext_any g _ pn S8 w8 hw8 (by omega) (by simp only; have := HB1.out.2.1; omega) (by simp only; have := HB1.out.2.2; omega))
              clear hw8
              rw [textS_any st1] at HC9
              obtain ⟨pc, hpc⟩ : ∃ pc, (textS st1 pn).2 = pc := ⟨_, rfl⟩
              have hpcb : pc < 4294967296 := by
                have h1 := (textS_plb HPl1.out pn).2
                have h2 := HB1.out.2.1
                rw [hpc] at h1
                omega
              have HPc := Lib.hid hpc
              rw [hpc] at HC9
              clear hpc
              go_upto_region 10 with (go_at_call 84; refine HC9.out.mono ?_; rintro e w9 ⟨rfl, hw9⟩)
              obtain ⟨S9, hw9, hn9, hs9⟩ := FOut.trans hn8 hs8 hw9
              clear cX HC9 hn8 hs8
              have HC10 := Lib.hid (ffour_any g _ S9 pc w9 hw9 (by simp only [List.length_append, bytesN_len]; omega) (by omega) (by omega))
              clear hw9
              go_upto_region 11 with (go_at_call 39; refine HC10.out.mono ?_; rintro e w10 ⟨rfl, hw10, hn10⟩)
              have hn10 : Near S1 wx w10 := hn9.step hn10 (fun i hi => hs9 i hi)
              have hzw9 := hn9.size
              have hzw10 := hn10.size
              have HW10 := Lib.hid hw10
              have HN10 := Lib.hid hn10
              have HS9 := Lib.hid hs9
              have hzx := HZx.out
              have hX10 := HXk.out _ hn10
              obtain ⟨vb, vx, vn, hB, hob, _, _, hg9, hb9, hz9⟩ := hw10
              have hgw9 : g < w9.heap.size := hb9 _ hg9
              have hxw9 : wr.heap.size < w9.heap.size := by omega
              obtain ⟨Ab, cb, rfl, _, _⟩ := own_slice hob
              obtain ⟨bs10, hbs⟩ : ∃ l, l = ((st1.b ++ bytesN 4 false 3) ++ bytesN 4 false pl) ++ bytesN 4 false pc := ⟨_, rfl⟩
              have hob2 : w10.ownsRow w9.heap.size 5 1 (.slice Ab bs10.length cb) bs10.length (bs10.flatMap encB) := by rw [hbs]; exact hob
              have hB2 : Blk w10 g 77 #[.slice Ab bs10.length cb, vx, vn] := by rw [hbs]; exact hB
              have hbl : bs10.length ≤ 6000000 := by rw [hbs]; simp only [List.length_append, bytesN_len]; omega
              have HBs10 := Lib.hid hbs
              obtain ⟨nb, hnb⟩ : ∃ n, bs10.length = n := ⟨_, rfl⟩
              have HNb2 := Lib.hid hnb
              rw [hnb] at hob2 hB2 hbl
              have hBl10 := HBl.out _ (HNx.out.step hn10 (fun i hi => by
                rcases HSs.out i hi with h | h
                · exact .inl h
                · exact .inr h))
              have hrd10 : Rd w10 w10.heap.size 1 Ap pl (pb.flatMap encB) := (HPr.out.below hBl10).more (by have := HZt.out; have := hn9.size; omega)
              obtain ⟨v11, w11, hr11, hown11, hb11⟩ := run_appb w10.drew w9.heap.size 28 (.slice Ab nb cb) nb bs10 (own_kept hob2 (Below.refl _ _).drew) Ap pl cp pb (hrd10.below (Below.refl _ _).drew) (by omega) hz9
              have hb11' : Below w9.heap.size w10 w11 := (Below.refl _ w10).drew.trans hb11
              obtain ⟨A11, c11, hv11, _, _⟩ := own_slice hown11
              subst hv11
              have hX11 := hX10.same (hb11'.block _ hxw9)
              have hB11 := hB2.same (hb11'.block g hgw9)
              have hrow11 : w11.ownsRow w9.heap.size 5 1 (.slice A11 (nb + pl) c11) (bs10 ++ pb).length ((bs10 ++ pb).flatMap encB) := by
                rw [List.length_append, HNb2.out, HPl.out]
                exact hown11
              obtain ⟨hF12, hn12⟩ := fstb_set (l := bs10 ++ pb) HW10.out hb11' hrow11
              clear hn9 hs9 hob hB hbs hnb
              have hS1 : (fun W' : World => ∀ i, W'.cell? ⟨wr.heap.size, i, none⟩ = (#[.string pn, .slice Ap pl cp] : Array Value)[i]?) w10.drew := hX10.drew.cell
              refine wp_region_held_drew (S := fun W' : World => ∀ i, W'.cell? ⟨wr.heap.size, i, none⟩ = (#[.string pn, .slice Ap pl cp] : Array Value)[i]?) (by kernel_rfl) hS1 (fun hHeld => ?_)
              clear hHeld
              refine wpAnyH_take (i := 0) (v := ?vyb0) rfl (by kernel_rfl) (by kernel_rfl) (by kernel_rfl) (fun _ _ _ h => h) (Or.inl ⟨by kernel_rfl, ?hyyb0⟩) hS1 ?restyb0
              case hyyb0 =>
                intro w hSw
                clear hSw
                go_simp
                first | done | with_reducible rfl
              (try simp only [List.getElem_toArray, List.getElem_cons_succ, List.getElem_cons_zero, Act.put, List.setIfInBounds_toArray, List.set_cons_zero, List.set_cons_succ])
              refine wpAnyH_take (i := 1) (v := ?vyb1) rfl (by kernel_rfl) (by kernel_rfl) (by kernel_rfl) (fun _ _ _ h => h) (Or.inl ⟨by kernel_rfl, ?hyyb1⟩) hS1 ?restyb1
              case hyyb1 =>
                intro w hSw
                clear hSw
                go_simp
                first | done | with_reducible rfl
              (try simp only [List.getElem_toArray, List.getElem_cons_succ, List.getElem_cons_zero, Act.put, List.setIfInBounds_toArray, List.set_cons_zero, List.set_cons_succ])
              refine wpAnyH_take (i := 2) (v := ?vyb2) rfl (by kernel_rfl) (by kernel_rfl) (by kernel_rfl) (fun _ _ _ h => h) (Or.inl ⟨by kernel_rfl, ?hyyb2⟩) hS1 ?restyb2
              case hyyb2 =>
                intro w hSw
                clear hSw
                go_simp
                first | done | with_reducible rfl
              (try simp only [List.getElem_toArray, List.getElem_cons_succ, List.getElem_cons_zero, Act.put, List.setIfInBounds_toArray, List.set_cons_zero, List.set_cons_succ])
              refine wpAnyH_take (i := 3) (v := ?vyb3) rfl (by kernel_rfl) (by kernel_rfl) (by kernel_rfl) (fun _ _ _ h => h) (Or.inl ⟨by kernel_rfl, ?hyyb3⟩) hS1 ?restyb3
              case hyyb3 =>
                intro w hSw
                clear hSw
                go_simp
                first | done | with_reducible rfl
              (try simp only [List.getElem_toArray, List.getElem_cons_succ, List.getElem_cons_zero, Act.put, List.setIfInBounds_toArray, List.set_cons_zero, List.set_cons_succ])
              refine wpAnyH_take (i := 5) (v := ?vyb5) rfl (by kernel_rfl) (by kernel_rfl) (by kernel_rfl) (fun _ _ _ h => h) (Or.inl ⟨by kernel_rfl, ?hyyb5⟩) hS1 ?restyb5
              case hyyb5 =>
                intro w hSw
                clear hSw
                go_simp
                first | done | with_reducible rfl
              (try simp only [List.getElem_toArray, List.getElem_cons_succ, List.getElem_cons_zero, Act.put, List.setIfInBounds_toArray, List.set_cons_zero, List.set_cons_succ])
              refine wpAnyH_take (i := 6) (v := ?vyb6) rfl (by kernel_rfl) (by kernel_rfl) (by kernel_rfl) (fun _ _ _ h => h) (Or.inl ⟨by kernel_rfl, ?hyyb6⟩) hS1 ?restyb6
              case hyyb6 =>
                intro w hSw
                (try dsimp only at hSw)
                go_simp
                first | done | with_reducible rfl
              (try simp only [List.getElem_toArray, List.getElem_cons_succ, List.getElem_cons_zero, Act.put, List.setIfInBounds_toArray, List.set_cons_zero, List.set_cons_succ])
              have cB10 := hB2.cell
              refine wpAnyH_call (i := 4) (by kernel_rfl) rfl (by kernel_rfl) fun K hK => ?_
              simp only [List.getElem_toArray, List.getElem_cons_succ, List.getElem_cons_zero]
              go_simp
              refine hK.out _ _ hS1 ?_
              clear hK K
              (try simp only [List.getElem_toArray, List.getElem_cons_succ, List.getElem_cons_zero, Act.put, List.setIfInBounds_toArray, List.set_cons_zero, List.set_cons_succ])
              refine wpAnyH_call (i := 7) (by kernel_rfl) rfl (by kernel_rfl) fun K hK => ?_
              simp only [List.getElem_toArray, List.getElem_cons_succ, List.getElem_cons_zero]
              refine Lib.wp_append_run _ (.tmp 50) (.tmp 52) _ _ rfl (.slice Ab nb cb) (.slice Ap pl cp) rfl rfl _ _ hr11 ?_
              have hS11 : (fun W' : World => ∀ i, W'.cell? ⟨wr.heap.size, i, none⟩ = (#[.string pn, .slice Ap pl cp] : Array Value)[i]?) w11 := hX11.cell
              refine hK.out _ _ hS11 ?_
              clear hK K
              (try simp only [List.getElem_toArray, List.getElem_cons_succ, List.getElem_cons_zero, Act.put, List.setIfInBounds_toArray, List.set_cons_zero, List.set_cons_succ])
              have cB11 := hB11.cell
              have fB11 := hB11.frozen
              refine wpAnyH_call (i := 8) (by kernel_rfl) rfl (by kernel_rfl) fun K hK => ?_
              simp only [List.getElem_toArray, List.getElem_cons_succ, List.getElem_cons_zero]
              go_simp
              refine hK.out _ _ hS11 ?_
              clear hK K
              (try simp only [List.getElem_toArray, List.getElem_cons_succ, List.getElem_cons_zero, Act.put, List.setIfInBounds_toArray, List.set_cons_zero, List.set_cons_succ])
              refine wpAnyH_call (i := 9) (by kernel_rfl) rfl (by kernel_rfl) fun K hK => ?_
              simp only [List.getElem_toArray, List.getElem_cons_succ, List.getElem_cons_zero]
              go_simp
              refine hK.out _ _ hS11 ?_
              clear hK K
              (try simp only [List.getElem_toArray, List.getElem_cons_succ, List.getElem_cons_zero, Act.put, List.setIfInBounds_toArray, List.set_cons_zero, List.set_cons_succ])
              refine wpAnyH_call (i := 10) (by kernel_rfl) rfl (by kernel_rfl) fun K hK => ?_
              simp only [List.getElem_toArray, List.getElem_cons_succ, List.getElem_cons_zero]
              go_simp
              have hS12 : (fun W' : World => ∀ i, W'.cell? ⟨wr.heap.size, i, none⟩ = (#[.string pn, .slice Ap pl cp] : Array Value)[i]?) (w11.setCell ⟨g, 0, none⟩ (.slice A11 (nb + pl) c11)) := (hX11.same (Below.heap_setCell _ _ _ _ (by have := HS1b.out _ HS1g.out; simp; omega))).cell
              refine hK.out _ _ hS12 ?_
              clear hK K
              (try simp only [List.getElem_toArray, List.getElem_cons_succ, List.getElem_cons_zero, Act.put, List.setIfInBounds_toArray, List.set_cons_zero, List.set_cons_succ])
              refine wpAnyH_done (by kernel_rfl) ?_ _
              clear hS1 hS11 hS12 hX10 hX11 hB2 hB11 cB10 cB11 fB11 hr11 hown11 hrow11 hrd10 hb11 hb11' hBl10 hob2
              generalize w11.setCell ⟨g, 0, none⟩ (.slice A11 (nb + pl) c11) = w12 at *
              have HF13 := Lib.hid (ffill_any g w9.heap.size _ S9 w12 hF12 (by rw [List.length_append, HNb2.out, HPl.out]; omega))
              have HN12 := Lib.hid (HN10.out.step hn12 (fun i hi => by
                rcases hi with h | h
                · exact .inl (by rw [h]; exact HS1g.out)
                · exact .inr (by omega)))
              clear hF12 hn12
              go_upto_region 13 with (go_at_call 83; refine HF13.out.mono ?_; rintro e w13 ⟨rfl, hw13, hn13⟩)
              have hn14 : Near S1 wx w13 := HN12.out.step hn13 (fun i hi => by
                rcases hi with h | h
                · exact .inl (by rw [h]; exact HS1g.out)
                · exact .inr (by omega))
              have hst : FSt w13 (fun i => (S9 i ∨ w9.heap.size ≤ i) ∧ i < w13.heap.size) g (propS st1 (pn, pb)) := by
                have := hw13.st
                unfold propS
                simp only [HPc.out, HPl.out, be4_cons, be4_one]
                rw [HBs10.out] at this
                simp only [List.append_assoc] at this ⊢
                exact this
              have HOut := Lib.hid (show FOut S g ((t.ps.take (j + 1)).foldl propS (headS nm st)) wt w13 from by
                rw [HFt.out]
                refine ⟨_, hst, HNx.out.step hn14 (fun i hi => HSs.out i hi), fun i hi => ?_⟩
                rcases hi.1 with h | h
                · rcases HS9.out i h with h | h
                  · exact HSs.out i h
                  · exact .inr (by omega)
                · exact .inr (by omega))
              clear hst hn14 hn13 hw13 HF13
              go_wp2_with fail
              go_roundw
              case rel => exact ⟨j + 1, by omega, by go_num, HOut.out⟩
              case measure => simp [intOf]; omega
            · obtain rfl : j = np := by omega
              have etk : t.ps.take j = t.ps := by rw [← HNp.out, List.take_length]
              rw [etk] at hw1
              obtain ⟨stp, hstp⟩ : ∃ stp, t.ps.foldl propS (headS nm st) = stp := ⟨_, rfl⟩
              rw [hstp] at hw1
              have HBp : Hid (BdO stp (n + 1) (p + j) (o + 1)) := Lib.hid (by
                have := propsS_bdo t.ps (headS_bdo HB0.out hnm1) (fun q hq => List.all_eq_true.1 HInv.out.1.2.2.2.1 q hq)
                rw [HNp.out, hstp] at this
                exact this)
              have HPp : Hid (PlB stp) := Lib.hid (by
                rw [← hstp]
                exact propsS_plb t.ps (st := headS nm st) HPL.out)
              have HSp := Lib.hid hstp
              have cT := (HTk.out _ hn1).cell
              have HWp := Lib.hid (show FOut S g stp wt wr from ⟨S1, hw1, hn1, hs1⟩)
              clear hw1 hn1 hs1 hstp etk hBr
              go_wp2_with fail
              go_loopw [62] (fun i wr => ∃ j2 : Nat, j2 ≤ nk ∧ i = .int .i64 j2 ∧ FOut S g ((t.ks.take j2).foldl (fun s k => nodeS f k s) stp) wt wr) (fun i _ => nk - (intOf i).toNat)
              case atStart => exact ⟨0, by omega, rfl, HWp.out⟩
              case round =>
                clear cT
                obtain ⟨j2, hj2, rfl, S2, hw2, hn2, hs2⟩ := hrel
                have hBr := HBl.out _ hn2
                by_cases hlk : j2 < nk
                · obtain ⟨kd, hkd⟩ : ∃ q, t.ks[j2]? = some q := ⟨_, List.getElem?_eq_getElem (by rw [HNk.out]; exact hlk)⟩
                  have hK := HK.out j2 kd hkd
                  obtain ⟨b2, o2, rfl, hbk, hc2⟩ := HG.out (by omega)
                  have x0 := (hBr.cell (p := ⟨b2, o2 + (j2 * 3 + 0), none⟩) hbk).trans (hc2 j2 hlk 0 (by omega))
                  have x1 := (hBr.cell (p := ⟨b2, o2 + (j2 * 3 + 1), none⟩) hbk).trans (hc2 j2 hlk 1 (by omega))
                  have x2 := (hBr.cell (p := ⟨b2, o2 + (j2 * 3 + 2), none⟩) hbk).trans (hc2 j2 hlk 2 (by omega))
                  have hK2 := hK.below hBr
                  obtain ⟨sn, K1, n1, cc1, K2, n2, cc2, hv⟩ : ∃ (sn : ByteArray) (K1 : Option Addr) (n1 cc1 : Nat) (K2 : Option Addr) (n2 cc2 : Nat), rowG j2 = [.string sn, .slice K1 n1 cc1, .slice K2 n2 cc2] := by
                    cases k with
                    | zero => exact hK.elim
                    | succ k =>
                      obtain ⟨_, _, _, _, _, _, _, e, _⟩ := hK
                      exact ⟨_, _, _, _, _, _, _, e⟩
                  rw [hv] at x0 x1 x2 hK2
                  simp only [Nat.add_zero, ← Nat.add_assoc, List.getElem?_cons_zero, List.getElem?_cons_succ] at x0 x1 x2
                  have HFt := Lib.hid (foldl_take (fun s k => nodeS f k s) t.ks stp j2 kd hkd)
                  obtain ⟨⟨nq, pq⟩, hkf⟩ : ∃ c, kidsF (mayF f) (t.ks.take j2) (n + 1, p + t.ps.length) = some c := by
                    rcases h : kidsF (mayF f) (t.ks.take j2) (n + 1, p + t.ps.length) with _ | c
                    · have := HInv.out.2.1
                      rw [kidsF_none _ _ j2 _ h] at this
                      cases this
                    · exact ⟨c, rfl⟩
                  obtain ⟨⟨nq2, pq2⟩, hkm⟩ : ∃ c, mayF f kd (nq, pq) = some c := by
                    rcases h : mayF f kd (nq, pq) with _ | c
                    · have h1 := kidsF_take (mayF f) t.ks j2 kd (n + 1, p + t.ps.length) hkd
                      rw [hkf, Option.bind_some, h] at h1
                      have := HInv.out.2.1
                      rw [kidsF_none _ _ (j2 + 1) _ h1] at this
                      cases this
                    · exact ⟨c, rfl⟩
                  have hge := kidsF_le (fun t c c' => mayF_le f t c c') _ _ _ hkf (by simp only; omega) (by simp only; omega) (by simp only; omega) (by simp only; rw [HNp.out]; omega)
                  simp only at hge
                  have hbk2 := kidsS_bdo (o := o + 1) (fun t c c' st => nodeS_bdo f (o + 1) t c c' st) (t.ks.take j2) (n + 1, p + t.ps.length) (nq, pq) stp hkf (by rw [HNp.out]; exact HBp.out)
                  have hpl2 := kidsS_plb f (t.ks.take j2) HPp.out
                  obtain ⟨st2, hst2⟩ : ∃ st2, (t.ks.take j2).foldl (fun s k => nodeS f k s) stp = st2 := ⟨_, rfl⟩
                  rw [hst2] at hw2 HFt hbk2 hpl2
                  have hbX := bal (Below.refl wr.heap.size wr) (.cells #[.string sn, .slice K1 n1 cc1, .slice K2 n2 cc2] 25)
                  have hzr := hn2.size
                  have S2B : ∀ i, S2 i → B ≤ i := fun i hi => by
                    rcases hs2 i hi with h | h
                    · exact hSB i h
                    · have := HZt.out
                      omega
                  have HC := Lib.hid (IH.out kd _ nq pq nq2 pq2 (o + 1) g B S2 st2 _ (hK2.below (hbX.mono (by have := HZt.out; omega))) hkm (by omega) (by omega) hbk2 hpl2 (hw2.kept hbX) S2B (by have := HZt.out; simp; omega))
                  have HN2 := Lib.hid (hn2.alloc (.cells #[.string sn, .slice K1 n1 cc1, .slice K2 n2 cc2] 25))
                  have HS2 := Lib.hid hs2
                  clear hc2 hK hkd hv hK2 hkf hkm hbk2 hst2 hw2 hn2 hs2 hbX S2B hpl2
                  go_wp2_with (go_at_call 38; refine HC.out.mono ?_; rintro e w6 ⟨rfl, hw6⟩)
                  go_roundw
                  case rel =>
                    refine ⟨j2 + 1, by omega, by go_num, ?_⟩
                    rw [HFt.out]
                    obtain ⟨S3, hw7, hn7, hs7⟩ := hw6
                    refine ⟨S3, hw7, HN2.out.step hn7 (fun i hi => HS2.out i hi), fun i hi => ?_⟩
                    rcases hs7 i hi with h | h
                    · exact HS2.out i h
                    · refine .inr ?_
                      simp at h
                      omega
                  case measure => simp [intOf]; omega
                · obtain rfl : j2 = nk := by omega
                  have etk : t.ks.take j2 = t.ks := by rw [← HNk.out, List.take_length]
                  rw [etk] at hw2
                  have hkf := HInv.out.2.1
                  rw [HNp.out] at hkf
                  have hbk2 := kidsS_bdo (o := o + 1) (fun t c c' st => nodeS_bdo f (o + 1) t c c' st) t.ks _ _ stp hkf HBp.out
                  obtain ⟨st2, hst2⟩ : ∃ st2, t.ks.foldl (fun s k => nodeS f k s) stp = st2 := ⟨_, rfl⟩
                  rw [hst2] at hw2 hbk2
                  have HEnd := Lib.hid (show nodeS (f + 1) t st = ⟨st2.b ++ bytesN 4 false 2, st2.x, st2.n⟩ by rw [nodeS_succ, HNm.out, HSp.out, hst2, be4_one])
                  have hb8 := hbk2.1
                  simp only at hb8
                  have HF8 := Lib.hid (ffour_out g st2 S2 2 wr hw2 (by omega) (by decide) (by decide))
                  have HN2 := Lib.hid hn2
                  have hzr := hn2.size
                  have HS2 := Lib.hid hs2
                  clear hw2 hn2 hs2 hbk2 hst2 hb8 hkf etk hBr
                  go_wp2_with (go_at_call 39; refine HF8.out.mono ?_; rintro e w6 ⟨rfl, hw6⟩)
                  go_end0
                  rw [HEnd.out]
                  refine ⟨rfl, ?_⟩
                  have h1 := FOut.trans HN2.out HS2.out hw6
                  have h2 : Near S w wt := Near.of_below S (by have := HBt.out; rw [HBz.out]; exact this)
                  obtain ⟨S3, h3, h4, h5⟩ := h1
                  refine ⟨S3, h3, h2.trans h4, fun i hi => ?_⟩
                  rcases h5 i hi with h | h
                  · exact .inl h
                  · exact .inr (by rw [HBz.out]; have := HZt.out; omega)
      · refine wpOp_do rfl (by kernel_rfl) fun K hK => ?_
        simp only [List.getElem_toArray, List.getElem_cons_succ, List.getElem_cons_zero]
        go_simp
        have hbz : Below w2.heap.size w2 (w2.alloc (.cells #[.int .u8 0] 5)).drew := (bal (Below.refl _ _) _).drew
        have hrz : Rd (w2.alloc (.cells #[.int .u8 0] 5)).drew (w2.alloc (.cells #[.int .u8 0] 5)).drew.heap.size 1 (some ⟨w2.heap.size, 0, none⟩) 1 #[Value.int .u8 0].toList := (Rd.fresh w2 #[.int .u8 0] 5 1 1 w2.heap.size rfl rfl).below (Below.refl _ _).drew
        have hS8 : (fun W' : World => ∀ i, W'.cell? ⟨b0, i, none⟩ = (#[.string nm, .slice A1 np c1, .slice A2 nk c2] : Array Value)[i]?) (w2.alloc (.cells #[.int .u8 0] 5)).drew := (HTb.out _ (hbz.mono hz2)).cell
        refine hK.out _ _ hS8 ?_
        clear hK K
        (try simp only [List.getElem_toArray, List.getElem_cons_succ, List.getElem_cons_zero, Act.put, List.setIfInBounds_toArray, List.set_cons_zero, List.set_cons_succ])
        generalize (w2.alloc (.cells #[.int .u8 0] 5)).drew = wz at *
        have cB := (HGk.out _ (hbz.mono hz2)).cell
        refine wpAnyH_call (i := 4) (by kernel_rfl) rfl (by kernel_rfl) fun K hK => ?_
        simp only [List.getElem_toArray, List.getElem_cons_succ, List.getElem_cons_zero]
        go_simp
        refine hK.out _ _ hS8 ?_
        clear hK K
        (try simp only [List.getElem_toArray, List.getElem_cons_succ, List.getElem_cons_zero, Act.put, List.setIfInBounds_toArray, List.set_cons_zero, List.set_cons_succ])
        obtain ⟨v7, w7, hr7, hown7, hb7, hg7⟩ := HAp.out wz hbz
        refine wpAnyH_call (i := 7) (by kernel_rfl) rfl (by kernel_rfl) fun K hK => ?_
        simp only [List.getElem_toArray, List.getElem_cons_succ, List.getElem_cons_zero]
        refine Lib.wp_append_run _ (.tmp 15) (.tmp 17) _ _ rfl (.slice Ab nb cb) (.string nm) rfl rfl _ _ hr7 ?_
        have hb7w : Below (b0 + 1) w2 w7 := (hbz.mono hz2).trans hb7
        have hS7 : (fun W' : World => ∀ i, W'.cell? ⟨b0, i, none⟩ = (#[.string nm, .slice A1 np c1, .slice A2 nk c2] : Array Value)[i]?) w7 := (HTb.out _ hb7w).cell
        obtain ⟨A7, c7, hv7, _, _⟩ := own_slice hown7
        subst hv7
        refine hK.out _ _ hS7 ?_
        clear hK K
        (try simp only [List.getElem_toArray, List.getElem_cons_succ, List.getElem_cons_zero, Act.put, List.setIfInBounds_toArray, List.set_cons_zero, List.set_cons_succ])
        have hrd7 : Rd w7 w7.heap.size 1 (some ⟨w2.heap.size, 0, none⟩) 1 (([0] : List Int).flatMap encB) := by
          obtain ⟨r1, r2⟩ := hrz
          refine ⟨r1, fun h => ?_⟩
          obtain ⟨b, off, e, hb, hc⟩ := r2 h
          simp only [Option.some.injEq, Addr.mk.injEq, and_true] at e
          obtain ⟨rfl, rfl⟩ := e
          have hkeep : w7.heap[w2.heap.size]? = wz.heap[w2.heap.size]? := hg7.block _ hb (fun e => by
            have := (own_lt hob e.symm).2
            omega)
          exact ⟨_, _, rfl, Nat.lt_of_lt_of_le hb hg7.size, fun j u hj => (cell_same hkeep _).trans (hc j u hj)⟩
        refine wpAnyH_call (i := 9) (by kernel_rfl) rfl (by kernel_rfl) fun K hK => ?_
        simp only [List.getElem_toArray, List.getElem_cons_succ, List.getElem_cons_zero]
        obtain ⟨v9, w9, hr9, hown9, hb9⟩ := run_appb w7 (b0 + 1) 28 (.slice A7 (nb + nm.size) c7) (nb + nm.size) (st.b ++ bytesN 4 false 1 ++ strB nm) hown7 (some ⟨w2.heap.size, 0, none⟩) 1 1 [0] hrd7 (by omega) (by have := hb7w.size; omega)
        refine Lib.wp_append_run _ (.tmp 18) (.tmp 19) _ _ rfl (.slice A7 (nb + nm.size) c7) (.slice (some ⟨w2.heap.size, 0, none⟩) 1 1) rfl rfl _ _ hr9 ?_
        have hbw9 := hb7w.trans hb9
        have hS9 : (fun W' : World => ∀ i, W'.cell? ⟨b0, i, none⟩ = (#[.string nm, .slice A1 np c1, .slice A2 nk c2] : Array Value)[i]?) w9 := (HTb.out _ hbw9).cell
        refine hK.out _ _ hS9 ?_
        clear hK K
        (try simp only [List.getElem_toArray, List.getElem_cons_succ, List.getElem_cons_zero, Act.put, List.setIfInBounds_toArray, List.set_cons_zero, List.set_cons_succ])
        have elen := Lib.hid (show nb + nm.size + 1 = ((st.b ++ bytesN 4 false 1 ++ strB nm) ++ [0]).length by rw [← HNb.out]; simp only [List.length_append, strB_len, List.length_cons, List.length_nil])
        obtain ⟨hF9, hn9⟩ := fstb_set (l := (st.b ++ bytesN 4 false 1 ++ strB nm) ++ [0]) HW2.out hbw9 (v4 := v9) (by rw [← elen.out]; exact hown9)
        have cB9 := (HGk.out _ hbw9).cell
        have fB9 := (HGk.out _ hbw9).frozen
        obtain ⟨A9, c9, hv9, _, _⟩ := own_slice hown9
        subst hv9
        refine wpAnyH_call (i := 10) (by kernel_rfl) rfl (by kernel_rfl) fun K hK => ?_
        simp only [List.getElem_toArray, List.getElem_cons_succ, List.getElem_cons_zero]
        go_simp
        refine hK.out _ _ hS9 ?_
        clear hK K
        (try simp only [List.getElem_toArray, List.getElem_cons_succ, List.getElem_cons_zero, Act.put, List.setIfInBounds_toArray, List.set_cons_zero, List.set_cons_succ])
        refine wpAnyH_call (i := 11) (by kernel_rfl) rfl (by kernel_rfl) fun K hK => ?_
        simp only [List.getElem_toArray, List.getElem_cons_succ, List.getElem_cons_zero]
        go_simp
        refine hK.out _ _ hS9 ?_
        clear hK K
        (try simp only [List.getElem_toArray, List.getElem_cons_succ, List.getElem_cons_zero, Act.put, List.setIfInBounds_toArray, List.set_cons_zero, List.set_cons_succ])
        refine wpAnyH_call (i := 12) (by kernel_rfl) rfl (by kernel_rfl) fun K hK => ?_
        simp only [List.getElem_toArray, List.getElem_cons_succ, List.getElem_cons_zero]
        go_simp
        have hS12 : (fun W' : World => ∀ i, W'.cell? ⟨b0, i, none⟩ = (#[.string nm, .slice A1 np c1, .slice A2 nk c2] : Array Value)[i]?) (w9.setCell ⟨g, 0, none⟩ (.slice A9 (nb + nm.size + 1) c9)) := ((HTb.out _ hbw9).same (Below.heap_setCell _ _ _ _ (by simp; omega))).cell
        refine hK.out _ _ hS12 ?_
        clear hK K
        (try simp only [List.getElem_toArray, List.getElem_cons_succ, List.getElem_cons_zero, Act.put, List.setIfInBounds_toArray, List.set_cons_zero, List.set_cons_succ])
        refine wpAnyH_done (by kernel_rfl) ?_ _
        have hnE : Near S wt (w9.setCell ⟨g, 0, none⟩ (.slice A9 (nb + nm.size + 1) c9)) := HN2.out.step hn9 (fun i hi => by
          rcases hi with h | h
          · exact .inl (by rw [h]; exact HSg.out)
          · exact .inr (by have := HZt.out; omega))
        generalize w9.setCell ⟨g, 0, none⟩ (.slice A9 (nb + nm.size + 1) c9) = wE at *
        have HFl := Lib.hid (ffill_any g (b0 + 1) _ S wE hF9 (by rw [← elen.out]; omega))
        have HNE := Lib.hid hnE
        clear hS1 hS9 hS12 cB9 fB9 hn9 hbw9 hown9 hb9 hF9 hnE HW2 HN2 HGk HTb HAp hob hB
        go_upto_region 4 with (go_at_call 83; refine HFl.out.mono ?_; rintro e wf ⟨rfl, hwf, hnf⟩)
        have hnF : Near S wt wf := HNE.out.step hnf (fun i hi => by
          rcases hi with h | h
          · exact .inl (by rw [h]; exact HSg.out)
          · exact .inr (by have := HZt.out; omega))
        have HW9 := Lib.hid (show FOut S g (headS nm st) wt wf by
          have := FOut.of_b hwf hnF (by have := HZt.out; omega)
          unfold headS
          rw [be4_one, ← List.append_assoc]
          exact this)
        have cT := (HTk.out wf hnF).cell
        clear hwf hnf hnF HFl HNE
        go_wp2_with fail
        go_loopw [28] (fun i wr => ∃ j : Nat, j ≤ np ∧ i = .int .i64 j ∧ FOut S g ((t.ps.take j).foldl propS (headS nm st)) wt wr) (fun i _ => np - (intOf i).toNat)
        case atStart => exact ⟨0, by omega, rfl, HW9.out⟩
        case round =>
          clear HW9 cT
          obtain ⟨j, hj, rfl, S1, hw1, hn1, hs1⟩ := hrel
          have hBr := HBl.out _ hn1
          by_cases hlj : j < np
          · obtain ⟨pr, hpr⟩ : ∃ q, t.ps[j]? = some q := ⟨_, List.getElem?_eq_getElem (by rw [HNp.out]; exact hlj)⟩
            obtain ⟨hps, hpb, Ap, cp, hfj, hcp1, hcp2, hprd⟩ := HP.out j pr hpr
            obtain ⟨b1, o1, rfl, hbk, hc1⟩ := HF.out (by omega)
            have x0 := (hBr.cell (p := ⟨b1, o1 + (j * 2 + 0), none⟩) hbk).trans (hc1 j hlj 0 (by omega))
            have x1 := (hBr.cell (p := ⟨b1, o1 + (j * 2 + 1), none⟩) hbk).trans (hc1 j hlj 1 (by omega))
            rw [hfj] at x0 x1
            simp only [Nat.add_zero, ← Nat.add_assoc, List.getElem?_cons_zero, List.getElem?_cons_succ] at x0 x1
            have hok := prOk_bd (List.all_eq_true.1 HInv.out.1.2.2.2.1 _ (List.mem_of_getElem? hpr))
            have HFt := Lib.hid (foldl_take propS t.ps (headS nm st) j pr hpr)
            have HB1 := Lib.hid (show BdO ((t.ps.take j).foldl propS (headS nm st)) (n + 1) (p + j) (o + 1) by
              have := propsS_bdo (t.ps.take j) (headS_bdo HB0.out hnm1) (fun q hq => List.all_eq_true.1 HInv.out.1.2.2.2.1 q (List.mem_of_mem_take hq))
              rw [List.length_take, HNp.out, Nat.min_eq_left hj] at this
              exact this)
            clear hc1 hfj hpr
            obtain ⟨pn, pb⟩ := pr
            simp only at x0 hps hok
            obtain ⟨pl, hpl⟩ : ∃ pl, pb.length = pl := ⟨_, rfl⟩
            simp only at x1 hcp1 hcp2 hpb hprd
            rw [hpl] at x1 hcp1 hok hprd
            have HPl := Lib.hid hpl
            have HPr := Lib.hid hprd
            obtain ⟨st1, hst1⟩ : ∃ st1, (t.ps.take j).foldl propS (headS nm st) = st1 := ⟨_, rfl⟩
            have HPl1 := Lib.hid (propsS_plb (t.ps.take j) (st := headS nm st) HPL.out)
            rw [hst1] at hw1 HFt HB1 HPl1
            have hbd1 := HB1.out
            have hbb1 : st1.b.length ≤ 5000000 := by have := hbd1.1; omega
            have S1b : ∀ i, S1 i → i < wr.heap.size := by obtain ⟨_, _, _, _, _, _, _, _, _, h⟩ := hw1; exact h
            have S1g : S1 g := by obtain ⟨_, _, _, _, _, _, _, _, h, _⟩ := hw1; exact h
            have hzr := hn1.size
            have hpl4 : pl ≤ 4096 := hok.2
            have hpn4 : pn.size ≤ 31 := hok.1
            have hX := Blk.new wr 88 #[.string pn, .slice Ap pl cp]
            have hbX := bal (Below.refl wr.heap.size wr) (.cells #[.string pn, .slice Ap pl cp] 88)
            have hwx := hw1.kept hbX
            have hnx := hn1.trans (Near.of_below S hbX)
            have hzx : (wr.alloc (.cells #[.string pn, .slice Ap pl cp] 88)).heap.size = wr.heap.size + 1 := by simp
            have HZx := Lib.hid hzx
            have HS1b := Lib.hid S1b
            have HS1g := Lib.hid S1g
            have HSs := Lib.hid hs1
            clear hpl hpb hprd hst1 hw1 S1b S1g hs1 hn1 hbd1 hok hzx hbX hBr
            unfold maxLen at hcp2
            go_upto_region 7 with (fail)
            clear x0 x1
            generalize wr.alloc (.cells #[.string pn, .slice Ap pl cp] 88) = wx at *
            have HXk := Lib.hid (fun W (h : Near S1 wx W) => hX.same (h.block _ hX.lt (fun h => absurd (HS1b.out _ h) (Nat.lt_irrefl _))))
            have HNx := Lib.hid hnx
            have HC7 := Lib.hid (ffour_out g st1 S1 3 wx hwx (by omega) (by decide) (by decide))
            clear hX hnx hwx
            go_upto_region 8 with (go_at_call 39; refine HC7.out.mono ?_; rintro e w7 ⟨rfl, S7, hw7, hn7, hs7⟩)
            have cX := (HXk.out _ hn7).cell
            have HC8 := Lib.hid (ffour_out g _ S7 pl w7 hw7 (by simp only [List.length_append, bytesN_len]; omega) (by omega) (by omega))
            clear hw7 HC7
            go_upto_region 9 with (go_at_call 39; refine HC8.out.mono ?_; rintro e w8 ⟨rfl, hw8⟩)
            obtain ⟨S8, hw8, hn8, hs8⟩ := FOut.trans hn7 hs7 hw8
            clear cX HC8 hn7 hs7
            have cX := (HXk.out _ hn8).cell
            have HC9 := Lib.hid (ftext_any g _ pn S8 w8 hw8 (by omega) (by simp only; have := HB1.out.2.1; omega) (by simp only; have := HB1.out.2.2; omega))
            clear hw8
            rw [textS_any st1] at HC9
            obtain ⟨pc, hpc⟩ : ∃ pc, (textS st1 pn).2 = pc := ⟨_, rfl⟩
            have hpcb : pc < 4294967296 := by
              have h1 := (textS_plb HPl1.out pn).2
              have h2 := HB1.out.2.1
              rw [hpc] at h1
              omega
            have HPc := Lib.hid hpc
            rw [hpc] at HC9
            clear hpc
            go_upto_region 10 with (go_at_call 84; refine HC9.out.mono ?_; rintro e w9 ⟨rfl, hw9⟩)
            obtain ⟨S9, hw9, hn9, hs9⟩ := FOut.trans hn8 hs8 hw9
            clear cX HC9 hn8 hs8
            have HC10 := Lib.hid (ffour_any g _ S9 pc w9 hw9 (by simp only [List.length_append, bytesN_len]; omega) (by omega) (by omega))
            clear hw9
            go_upto_region 11 with (go_at_call 39; refine HC10.out.mono ?_; rintro e w10 ⟨rfl, hw10, hn10⟩)
            have hn10 : Near S1 wx w10 := hn9.step hn10 (fun i hi => hs9 i hi)
            have hzw9 := hn9.size
            have hzw10 := hn10.size
            have HW10 := Lib.hid hw10
            have HN10 := Lib.hid hn10
            have HS9 := Lib.hid hs9
            have hzx := HZx.out
            have hX10 := HXk.out _ hn10
            obtain ⟨vb, vx, vn, hB, hob, _, _, hg9, hb9, hz9⟩ := hw10
            have hgw9 : g < w9.heap.size := hb9 _ hg9
            have hxw9 : wr.heap.size < w9.heap.size := by omega
            obtain ⟨Ab, cb, rfl, _, _⟩ := own_slice hob
            obtain ⟨bs10, hbs⟩ : ∃ l, l = ((st1.b ++ bytesN 4 false 3) ++ bytesN 4 false pl) ++ bytesN 4 false pc := ⟨_, rfl⟩
            have hob2 : w10.ownsRow w9.heap.size 5 1 (.slice Ab bs10.length cb) bs10.length (bs10.flatMap encB) := by rw [hbs]; exact hob
            have hB2 : Blk w10 g 77 #[.slice Ab bs10.length cb, vx, vn] := by rw [hbs]; exact hB
            have hbl : bs10.length ≤ 6000000 := by rw [hbs]; simp only [List.length_append, bytesN_len]; omega
            have HBs10 := Lib.hid hbs
            obtain ⟨nb, hnb⟩ : ∃ n, bs10.length = n := ⟨_, rfl⟩
            have HNb2 := Lib.hid hnb
            rw [hnb] at hob2 hB2 hbl
            have hBl10 := HBl.out _ (HNx.out.step hn10 (fun i hi => by
              rcases HSs.out i hi with h | h
              · exact .inl h
              · exact .inr h))
            have hrd10 : Rd w10 w10.heap.size 1 Ap pl (pb.flatMap encB) := (HPr.out.below hBl10).more (by have := HZt.out; have := hn9.size; omega)
            obtain ⟨v11, w11, hr11, hown11, hb11⟩ := run_appb w10.drew w9.heap.size 28 (.slice Ab nb cb) nb bs10 (own_kept hob2 (Below.refl _ _).drew) Ap pl cp pb (hrd10.below (Below.refl _ _).drew) (by omega) hz9
            have hb11' : Below w9.heap.size w10 w11 := (Below.refl _ w10).drew.trans hb11
            obtain ⟨A11, c11, hv11, _, _⟩ := own_slice hown11
            subst hv11
            have hX11 := hX10.same (hb11'.block _ hxw9)
            have hB11 := hB2.same (hb11'.block g hgw9)
            have hrow11 : w11.ownsRow w9.heap.size 5 1 (.slice A11 (nb + pl) c11) (bs10 ++ pb).length ((bs10 ++ pb).flatMap encB) := by
              rw [List.length_append, HNb2.out, HPl.out]
              exact hown11
            obtain ⟨hF12, hn12⟩ := fstb_set (l := bs10 ++ pb) HW10.out hb11' hrow11
            clear hn9 hs9 hob hB hbs hnb
            have hS1 : (fun W' : World => ∀ i, W'.cell? ⟨wr.heap.size, i, none⟩ = (#[.string pn, .slice Ap pl cp] : Array Value)[i]?) w10.drew := hX10.drew.cell
            refine wp_region_held_drew (S := fun W' : World => ∀ i, W'.cell? ⟨wr.heap.size, i, none⟩ = (#[.string pn, .slice Ap pl cp] : Array Value)[i]?) (by kernel_rfl) hS1 (fun hHeld => ?_)
            clear hHeld
            refine wpAnyH_take (i := 0) (v := ?vzb0) rfl (by kernel_rfl) (by kernel_rfl) (by kernel_rfl) (fun _ _ _ h => h) (Or.inl ⟨by kernel_rfl, ?hyzb0⟩) hS1 ?restzb0
            case hyzb0 =>
              intro w hSw
              clear hSw
              go_simp
              first | done | with_reducible rfl
            (try simp only [List.getElem_toArray, List.getElem_cons_succ, List.getElem_cons_zero, Act.put, List.setIfInBounds_toArray, List.set_cons_zero, List.set_cons_succ])
            refine wpAnyH_take (i := 1) (v := ?vzb1) rfl (by kernel_rfl) (by kernel_rfl) (by kernel_rfl) (fun _ _ _ h => h) (Or.inl ⟨by kernel_rfl, ?hyzb1⟩) hS1 ?restzb1
            case hyzb1 =>
              intro w hSw
              clear hSw
              go_simp
              first | done | with_reducible rfl
            (try simp only [List.getElem_toArray, List.getElem_cons_succ, List.getElem_cons_zero, Act.put, List.setIfInBounds_toArray, List.set_cons_zero, List.set_cons_succ])
            refine wpAnyH_take (i := 2) (v := ?vzb2) rfl (by kernel_rfl) (by kernel_rfl) (by kernel_rfl) (fun _ _ _ h => h) (Or.inl ⟨by kernel_rfl, ?hyzb2⟩) hS1 ?restzb2
            case hyzb2 =>
              intro w hSw
              clear hSw
              go_simp
              first | done | with_reducible rfl
            (try simp only [List.getElem_toArray, List.getElem_cons_succ, List.getElem_cons_zero, Act.put, List.setIfInBounds_toArray, List.set_cons_zero, List.set_cons_succ])
            refine wpAnyH_take (i := 3) (v := ?vzb3) rfl (by kernel_rfl) (by kernel_rfl) (by kernel_rfl) (fun _ _ _ h => h) (Or.inl ⟨by kernel_rfl, ?hyzb3⟩) hS1 ?restzb3
            case hyzb3 =>
              intro w hSw
              clear hSw
              go_simp
              first | done | with_reducible rfl
            (try simp only [List.getElem_toArray, List.getElem_cons_succ, List.getElem_cons_zero, Act.put, List.setIfInBounds_toArray, List.set_cons_zero, List.set_cons_succ])
            refine wpAnyH_take (i := 5) (v := ?vzb5) rfl (by kernel_rfl) (by kernel_rfl) (by kernel_rfl) (fun _ _ _ h => h) (Or.inl ⟨by kernel_rfl, ?hyzb5⟩) hS1 ?restzb5
            case hyzb5 =>
              intro w hSw
              clear hSw
              go_simp
              first | done | with_reducible rfl
            (try simp only [List.getElem_toArray, List.getElem_cons_succ, List.getElem_cons_zero, Act.put, List.setIfInBounds_toArray, List.set_cons_zero, List.set_cons_succ])
            refine wpAnyH_take (i := 6) (v := ?vzb6) rfl (by kernel_rfl) (by kernel_rfl) (by kernel_rfl) (fun _ _ _ h => h) (Or.inl ⟨by kernel_rfl, ?hyzb6⟩) hS1 ?restzb6
            case hyzb6 =>
              intro w hSw
              (try dsimp only at hSw)
              go_simp
              first | done | with_reducible rfl
            (try simp only [List.getElem_toArray, List.getElem_cons_succ, List.getElem_cons_zero, Act.put, List.setIfInBounds_toArray, List.set_cons_zero, List.set_cons_succ])
            have cB10 := hB2.cell
            refine wpAnyH_call (i := 4) (by kernel_rfl) rfl (by kernel_rfl) fun K hK => ?_
            simp only [List.getElem_toArray, List.getElem_cons_succ, List.getElem_cons_zero]
            go_simp
            refine hK.out _ _ hS1 ?_
            clear hK K
            (try simp only [List.getElem_toArray, List.getElem_cons_succ, List.getElem_cons_zero, Act.put, List.setIfInBounds_toArray, List.set_cons_zero, List.set_cons_succ])
            refine wpAnyH_call (i := 7) (by kernel_rfl) rfl (by kernel_rfl) fun K hK => ?_
            simp only [List.getElem_toArray, List.getElem_cons_succ, List.getElem_cons_zero]
            refine Lib.wp_append_run _ (.tmp 50) (.tmp 52) _ _ rfl (.slice Ab nb cb) (.slice Ap pl cp) rfl rfl _ _ hr11 ?_
            have hS11 : (fun W' : World => ∀ i, W'.cell? ⟨wr.heap.size, i, none⟩ = (#[.string pn, .slice Ap pl cp] : Array Value)[i]?) w11 := hX11.cell
            refine hK.out _ _ hS11 ?_
            clear hK K
            (try simp only [List.getElem_toArray, List.getElem_cons_succ, List.getElem_cons_zero, Act.put, List.setIfInBounds_toArray, List.set_cons_zero, List.set_cons_succ])
            have cB11 := hB11.cell
            have fB11 := hB11.frozen
            refine wpAnyH_call (i := 8) (by kernel_rfl) rfl (by kernel_rfl) fun K hK => ?_
            simp only [List.getElem_toArray, List.getElem_cons_succ, List.getElem_cons_zero]
            go_simp
            refine hK.out _ _ hS11 ?_
            clear hK K
            (try simp only [List.getElem_toArray, List.getElem_cons_succ, List.getElem_cons_zero, Act.put, List.setIfInBounds_toArray, List.set_cons_zero, List.set_cons_succ])
            refine wpAnyH_call (i := 9) (by kernel_rfl) rfl (by kernel_rfl) fun K hK => ?_
            simp only [List.getElem_toArray, List.getElem_cons_succ, List.getElem_cons_zero]
            go_simp
            refine hK.out _ _ hS11 ?_
            clear hK K
            (try simp only [List.getElem_toArray, List.getElem_cons_succ, List.getElem_cons_zero, Act.put, List.setIfInBounds_toArray, List.set_cons_zero, List.set_cons_succ])
            refine wpAnyH_call (i := 10) (by kernel_rfl) rfl (by kernel_rfl) fun K hK => ?_
            simp only [List.getElem_toArray, List.getElem_cons_succ, List.getElem_cons_zero]
            go_simp
            have hS12 : (fun W' : World => ∀ i, W'.cell? ⟨wr.heap.size, i, none⟩ = (#[.string pn, .slice Ap pl cp] : Array Value)[i]?) (w11.setCell ⟨g, 0, none⟩ (.slice A11 (nb + pl) c11)) := (hX11.same (Below.heap_setCell _ _ _ _ (by have := HS1b.out _ HS1g.out; simp; omega))).cell
            refine hK.out _ _ hS12 ?_
            clear hK K
            (try simp only [List.getElem_toArray, List.getElem_cons_succ, List.getElem_cons_zero, Act.put, List.setIfInBounds_toArray, List.set_cons_zero, List.set_cons_succ])
            refine wpAnyH_done (by kernel_rfl) ?_ _
            clear hS1 hS11 hS12 hX10 hX11 hB2 hB11 cB10 cB11 fB11 hr11 hown11 hrow11 hrd10 hb11 hb11' hBl10 hob2
            generalize w11.setCell ⟨g, 0, none⟩ (.slice A11 (nb + pl) c11) = w12 at *
            have HF13 := Lib.hid (ffill_any g w9.heap.size _ S9 w12 hF12 (by rw [List.length_append, HNb2.out, HPl.out]; omega))
            have HN12 := Lib.hid (HN10.out.step hn12 (fun i hi => by
              rcases hi with h | h
              · exact .inl (by rw [h]; exact HS1g.out)
              · exact .inr (by omega)))
            clear hF12 hn12
            go_upto_region 13 with (go_at_call 83; refine HF13.out.mono ?_; rintro e w13 ⟨rfl, hw13, hn13⟩)
            have hn14 : Near S1 wx w13 := HN12.out.step hn13 (fun i hi => by
              rcases hi with h | h
              · exact .inl (by rw [h]; exact HS1g.out)
              · exact .inr (by omega))
            have hst : FSt w13 (fun i => (S9 i ∨ w9.heap.size ≤ i) ∧ i < w13.heap.size) g (propS st1 (pn, pb)) := by
              have := hw13.st
              unfold propS
              simp only [HPc.out, HPl.out, be4_cons, be4_one]
              rw [HBs10.out] at this
              simp only [List.append_assoc] at this ⊢
              exact this
            have HOut := Lib.hid (show FOut S g ((t.ps.take (j + 1)).foldl propS (headS nm st)) wt w13 from by
              rw [HFt.out]
              refine ⟨_, hst, HNx.out.step hn14 (fun i hi => HSs.out i hi), fun i hi => ?_⟩
              rcases hi.1 with h | h
              · rcases HS9.out i h with h | h
                · exact HSs.out i h
                · exact .inr (by omega)
              · exact .inr (by omega))
            clear hst hn14 hn13 hw13 HF13
            go_wp2_with fail
            go_roundw
            case rel => exact ⟨j + 1, by omega, by go_num, HOut.out⟩
            case measure => simp [intOf]; omega
          · obtain rfl : j = np := by omega
            have etk : t.ps.take j = t.ps := by rw [← HNp.out, List.take_length]
            rw [etk] at hw1
            obtain ⟨stp, hstp⟩ : ∃ stp, t.ps.foldl propS (headS nm st) = stp := ⟨_, rfl⟩
            rw [hstp] at hw1
            have HBp : Hid (BdO stp (n + 1) (p + j) (o + 1)) := Lib.hid (by
              have := propsS_bdo t.ps (headS_bdo HB0.out hnm1) (fun q hq => List.all_eq_true.1 HInv.out.1.2.2.2.1 q hq)
              rw [HNp.out, hstp] at this
              exact this)
            have HPp : Hid (PlB stp) := Lib.hid (by
              rw [← hstp]
              exact propsS_plb t.ps (st := headS nm st) HPL.out)
            have HSp := Lib.hid hstp
            have cT := (HTk.out _ hn1).cell
            have HWp := Lib.hid (show FOut S g stp wt wr from ⟨S1, hw1, hn1, hs1⟩)
            clear hw1 hn1 hs1 hstp etk hBr
            go_wp2_with fail
            go_loopw [62] (fun i wr => ∃ j2 : Nat, j2 ≤ nk ∧ i = .int .i64 j2 ∧ FOut S g ((t.ks.take j2).foldl (fun s k => nodeS f k s) stp) wt wr) (fun i _ => nk - (intOf i).toNat)
            case atStart => exact ⟨0, by omega, rfl, HWp.out⟩
            case round =>
              clear cT
              obtain ⟨j2, hj2, rfl, S2, hw2, hn2, hs2⟩ := hrel
              have hBr := HBl.out _ hn2
              by_cases hlk : j2 < nk
              · obtain ⟨kd, hkd⟩ : ∃ q, t.ks[j2]? = some q := ⟨_, List.getElem?_eq_getElem (by rw [HNk.out]; exact hlk)⟩
                have hK := HK.out j2 kd hkd
                obtain ⟨b2, o2, rfl, hbk, hc2⟩ := HG.out (by omega)
                have x0 := (hBr.cell (p := ⟨b2, o2 + (j2 * 3 + 0), none⟩) hbk).trans (hc2 j2 hlk 0 (by omega))
                have x1 := (hBr.cell (p := ⟨b2, o2 + (j2 * 3 + 1), none⟩) hbk).trans (hc2 j2 hlk 1 (by omega))
                have x2 := (hBr.cell (p := ⟨b2, o2 + (j2 * 3 + 2), none⟩) hbk).trans (hc2 j2 hlk 2 (by omega))
                have hK2 := hK.below hBr
                obtain ⟨sn, K1, n1, cc1, K2, n2, cc2, hv⟩ : ∃ (sn : ByteArray) (K1 : Option Addr) (n1 cc1 : Nat) (K2 : Option Addr) (n2 cc2 : Nat), rowG j2 = [.string sn, .slice K1 n1 cc1, .slice K2 n2 cc2] := by
                  cases k with
                  | zero => exact hK.elim
                  | succ k =>
                    obtain ⟨_, _, _, _, _, _, _, e, _⟩ := hK
                    exact ⟨_, _, _, _, _, _, _, e⟩
                rw [hv] at x0 x1 x2 hK2
                simp only [Nat.add_zero, ← Nat.add_assoc, List.getElem?_cons_zero, List.getElem?_cons_succ] at x0 x1 x2
                have HFt := Lib.hid (foldl_take (fun s k => nodeS f k s) t.ks stp j2 kd hkd)
                obtain ⟨⟨nq, pq⟩, hkf⟩ : ∃ c, kidsF (mayF f) (t.ks.take j2) (n + 1, p + t.ps.length) = some c := by
                  rcases h : kidsF (mayF f) (t.ks.take j2) (n + 1, p + t.ps.length) with _ | c
                  · have := HInv.out.2.1
                    rw [kidsF_none _ _ j2 _ h] at this
                    cases this
                  · exact ⟨c, rfl⟩
                obtain ⟨⟨nq2, pq2⟩, hkm⟩ : ∃ c, mayF f kd (nq, pq) = some c := by
                  rcases h : mayF f kd (nq, pq) with _ | c
                  · have h1 := kidsF_take (mayF f) t.ks j2 kd (n + 1, p + t.ps.length) hkd
                    rw [hkf, Option.bind_some, h] at h1
                    have := HInv.out.2.1
                    rw [kidsF_none _ _ (j2 + 1) _ h1] at this
                    cases this
                  · exact ⟨c, rfl⟩
                have hge := kidsF_le (fun t c c' => mayF_le f t c c') _ _ _ hkf (by simp only; omega) (by simp only; omega) (by simp only; omega) (by simp only; rw [HNp.out]; omega)
                simp only at hge
                have hbk2 := kidsS_bdo (o := o + 1) (fun t c c' st => nodeS_bdo f (o + 1) t c c' st) (t.ks.take j2) (n + 1, p + t.ps.length) (nq, pq) stp hkf (by rw [HNp.out]; exact HBp.out)
                have hpl2 := kidsS_plb f (t.ks.take j2) HPp.out
                obtain ⟨st2, hst2⟩ : ∃ st2, (t.ks.take j2).foldl (fun s k => nodeS f k s) stp = st2 := ⟨_, rfl⟩
                rw [hst2] at hw2 HFt hbk2 hpl2
                have hbX := bal (Below.refl wr.heap.size wr) (.cells #[.string sn, .slice K1 n1 cc1, .slice K2 n2 cc2] 25)
                have hzr := hn2.size
                have S2B : ∀ i, S2 i → B ≤ i := fun i hi => by
                  rcases hs2 i hi with h | h
                  · exact hSB i h
                  · have := HZt.out
                    omega
                have HC := Lib.hid (IH.out kd _ nq pq nq2 pq2 (o + 1) g B S2 st2 _ (hK2.below (hbX.mono (by have := HZt.out; omega))) hkm (by omega) (by omega) hbk2 hpl2 (hw2.kept hbX) S2B (by have := HZt.out; simp; omega))
                have HN2 := Lib.hid (hn2.alloc (.cells #[.string sn, .slice K1 n1 cc1, .slice K2 n2 cc2] 25))
                have HS2 := Lib.hid hs2
                clear hc2 hK hkd hv hK2 hkf hkm hbk2 hst2 hw2 hn2 hs2 hbX S2B hpl2
                go_wp2_with (go_at_call 38; refine HC.out.mono ?_; rintro e w6 ⟨rfl, hw6⟩)
                go_roundw
                case rel =>
                  refine ⟨j2 + 1, by omega, by go_num, ?_⟩
                  rw [HFt.out]
                  obtain ⟨S3, hw7, hn7, hs7⟩ := hw6
                  refine ⟨S3, hw7, HN2.out.step hn7 (fun i hi => HS2.out i hi), fun i hi => ?_⟩
                  rcases hs7 i hi with h | h
                  · exact HS2.out i h
                  · refine .inr ?_
                    simp at h
                    omega
                case measure => simp [intOf]; omega
              · obtain rfl : j2 = nk := by omega
                have etk : t.ks.take j2 = t.ks := by rw [← HNk.out, List.take_length]
                rw [etk] at hw2
                have hkf := HInv.out.2.1
                rw [HNp.out] at hkf
                have hbk2 := kidsS_bdo (o := o + 1) (fun t c c' st => nodeS_bdo f (o + 1) t c c' st) t.ks _ _ stp hkf HBp.out
                obtain ⟨st2, hst2⟩ : ∃ st2, t.ks.foldl (fun s k => nodeS f k s) stp = st2 := ⟨_, rfl⟩
                rw [hst2] at hw2 hbk2
                have HEnd := Lib.hid (show nodeS (f + 1) t st = ⟨st2.b ++ bytesN 4 false 2, st2.x, st2.n⟩ by rw [nodeS_succ, HNm.out, HSp.out, hst2, be4_one])
                have hb8 := hbk2.1
                simp only at hb8
                have HF8 := Lib.hid (ffour_out g st2 S2 2 wr hw2 (by omega) (by decide) (by decide))
                have HN2 := Lib.hid hn2
                have hzr := hn2.size
                have HS2 := Lib.hid hs2
                clear hw2 hn2 hs2 hbk2 hst2 hb8 hkf etk hBr
                go_wp2_with (go_at_call 39; refine HF8.out.mono ?_; rintro e w6 ⟨rfl, hw6⟩)
                go_end0
                rw [HEnd.out]
                refine ⟨rfl, ?_⟩
                have h1 := FOut.trans HN2.out HS2.out hw6
                have h2 : Near S w wt := Near.of_below S (by have := HBt.out; rw [HBz.out]; exact this)
                obtain ⟨S3, h3, h4, h5⟩ := h1
                refine ⟨S3, h3, h2.trans h4, fun i hi => ?_⟩
                rcases h5 i hi with h | h
                · exact .inl h
                · exact .inr (by rw [HBz.out]; have := HZt.out; omega)
end Go.Proofs.Ytnkpaockginooaa
