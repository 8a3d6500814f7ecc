/- The reader's node, walked. -/
import Derived.Test.YtnkpaockginooaaOfC
import Derived.Test.YtnkpaockginooaaTreeH
import Derived.Test.YtnkpaockginooaaPutF
namespace Go.Proofs.Ytnkpaockginooaa
set_option linter.unusedVariables false
set_option linter.unusedSimpArgs false
open Go.RowKit Go.Sort
def atC : Option Value → Nat
  | some (.int _ n) => n.toNat
  | _ => 0
/-- Where a node is read: what holds at each turn. -/
structure Mid (r : Rdr) (b x nm : List Int) (d B base bt br : Nat) (F0 : Option (List Pr × List Tr × Nat × Nat)) (f : Nat) (ps : List Pr) (ks : List Tr) (a l : Nat) (vps vks : Value) (w0 wr : World) : Prop where
  spec : itemsP (nodeP b x d) b x f ps ks a l = F0
  fuel : b.length + 1 ≤ f + a
  few : ps.length + ks.length + f ≤ b.length + 1
  apos : a ≤ b.length + 3
  lfew : l ≤ 1000
  box : Blk wr bt 25 #[.string (strOfNums nm), vps, vks]
  res : Blk wr br 25 #[.string ⟨#[]⟩, .slice none 0 0, .slice none 0 0]
  ps : OwnPs wr base ps vps
  ks : OwnTs wr (fun i => i < base ∨ vps.ownBlock = some i) base ks vks
  rdr : Blk wr r.g 135 (r.cs a l)
  near : Near (fun i => i = r.g) w0 wr
  size : base ≤ wr.heap.size
set_option maxRecDepth 100000 in
set_option maxHeartbeats 4000000 in
theorem rnode_any : ∀ (d : Nat) (r : Rdr) (b x : List Int) (B a l : Nat) (at_ : Int) (w : World), d ≤ 8 → at_ = 9 - d → RdRows w r b x B → Blk w r.g 135 (r.cs a l) → B ≤ r.g → a ≤ 30000 → l ≤ 1000 →
    Calls Try.prog 65 #[.pointer (some ⟨r.g, 0, none⟩), .int .i64 at_] w (RNode r b x d a l w) := by
  intro d
  induction d with
  | zero =>
    intro r b x B a l at_ w hd hat hR hB hBg ha hl
    have hgl := hB.lt
    have HN := Lib.hid (show nodeP b x 0 a l = none from rfl)
    obtain ⟨g, Ab, nb, cb, Ax, nx, cx⟩ := r
    simp only [Rdr.cs] at hB hBg hgl ⊢
    have cB := (hB.alloc (.cells #[.string ⟨#[]⟩, .slice none 0 0, .slice none 0 0] 25)).cell
    have fB := (hB.alloc (.cells #[.string ⟨#[]⟩, .slice none 0 0, .slice none 0 0] 25)).frozen
    have e0 : decide (at_ ≤ 8) = false := decide_eq_false (by omega)
    go_enter Try.func65, Try.ntmps65
    go_wp2_with (go_at_call 63; refine (must_no _).mono ?_; rintro e w1 ⟨rfl, rfl⟩)
    refine ⟨rfl, RNode.no HN.out ?_⟩
    exact ((Near.refl (fun i => i = g) w).setCell (p := ⟨g, 3, none⟩) rfl _).alloc _
  | succ d ih =>
    intro r b x B a l at_ w hd hat hR hB hBg ha hl
    have IH := Lib.hid ih
    have hgl := hB.lt
    have HBw := Lib.hid hB
    have HRw := Lib.hid hR
    have hatl : at_ ≤ 9 - ((d : Int) + 1) := by omega
    have hatg : 9 - ((d : Int) + 1) ≤ at_ := by omega
    clear hat ih
    have e0 : decide (at_ ≤ 8) = true := decide_eq_true (by omega)
    obtain ⟨g, Ab, nb, cb, Ax, nx, cx⟩ := r
    simp only [Rdr.cs] at hB hBg hgl ⊢
    have cB := (hB.alloc (.cells #[.string ⟨#[]⟩, .slice none 0 0, .slice none 0 0] 25)).cell
    have fB := (hB.alloc (.cells #[.string ⟨#[]⟩, .slice none 0 0, .slice none 0 0] 25)).frozen
    go_enter Try.func65, Try.ntmps65
    by_cases hl0 : l = 0
    · subst hl0
      have cB2 := ((hB.set_ 3 (.int .i64 (-1))).alloc (.cells #[.string ⟨#[]⟩, .slice none 0 0, .slice none 0 0] 25)).cell
      go_wp2_with (go_at_call 63; refine (must_no _).mono ?_; rintro e w1 ⟨rfl, rfl⟩)
      refine ⟨rfl, RNode.no nodeP_zero ?_⟩
      exact ((Near.refl (fun i => i = g) w).setCell (p := ⟨g, 3, none⟩) rfl _).alloc _
    · have e1 : decide ((1 : Int) ≤ (l : Int)) = true := decide_eq_true (by omega)
      have cB2 := ((hB.set_ 3 (.int .i64 ((l : Int) - 1))).alloc (.cells #[.string ⟨#[]⟩, .slice none 0 0, .slice none 0 0] 25)).cell
      go_upto_region 3 with (go_at_call 63; refine (must_yes _).mono ?_; rintro e w1 ⟨rfl, rfl⟩)
      refine wp_name ?_
      intro w1 hw1
      have hl1 : ((l - 1 : Nat) : Int) = (l : Int) - 1 := by omega
      obtain ⟨hB1, hR1, hn1, hz1⟩ : Blk w1 g 135 #[.slice Ab nb cb, .slice Ax nx cx, .int .i64 a, .int .i64 ((l - 1 : Nat) : Int)] ∧ Blk w1 w.heap.size 25 #[.string ⟨#[]⟩, .slice none 0 0, .slice none 0 0] ∧ Near (fun i => i = g) w w1 ∧ w1.heap.size = w.heap.size + 1 := by
        rw [hw1, hl1]
        refine ⟨(hB.set_ 3 (.int .i64 ((l : Int) - 1))).alloc _, ?_, ((Near.refl (fun i => i = g) w).setCell (p := ⟨g, 3, none⟩) rfl _).alloc _, by simp⟩
        exact Blk.fresh _ _ _ (by simp)
      have HZ1 := Lib.hid hz1
      have hzw1 : w.heap.size < w1.heap.size := by omega
      clear hz1
      have hbl1 : Below B w w1 := hn1.below (fun i hi => by omega) (by omega)
      have hR1' := hR.below hbl1
      generalize hL : l - 1 = l1 at *
      have HL := Lib.hid hL
      clear hw1 cB fB cB2 hB hL hl1 e1
      obtain ⟨hb, hx, ob, ox, mb, mx, hcb, hcx, rb, rx⟩ := id hR1'
      simp only at hb hx mb mx hcb hcx rb rx
      have HRd := Lib.hid hR1'
      have hS1 : (fun W' : World => ∀ i, W'.cell? ⟨g, i, none⟩ = (#[.slice Ab nb cb, .slice Ax nx cx, .int .i64 a, .int .i64 l1] : Array Value)[i]?) w1.drew := hB1.drew.cell
      refine wp_region_held_drew (S := fun W' : World => ∀ i, W'.cell? ⟨g, i, none⟩ = (#[.slice Ab nb cb, .slice Ax nx cx, .int .i64 a, .int .i64 l1] : Array Value)[i]?) (by kernel_rfl) hS1 (fun hHeld => ?_)
      clear hHeld
      refine wpAnyH_take (i := 0) (v := ?va0) rfl (by kernel_rfl) (by kernel_rfl) (by kernel_rfl) (fun _ _ _ h => h) (Or.inl ⟨by kernel_rfl, ?hya0⟩) hS1 ?resta0
      case hya0 =>
        intro w hSw
        clear hSw
        go_simp
        first | done | with_reducible rfl
      (try simp only [List.getElem_toArray, List.getElem_cons_succ, List.getElem_cons_zero, Act.put, List.setIfInBounds_toArray, List.set_cons_zero, List.set_cons_succ])
      refine wpAnyH_take (i := 1) (v := ?va1) rfl (by kernel_rfl) (by kernel_rfl) (by kernel_rfl) (fun _ _ _ h => h) (Or.inl ⟨by kernel_rfl, ?hya1⟩) hS1 ?resta1
      case hya1 =>
        intro w hSw
        clear hSw
        go_simp
        first | done | with_reducible rfl
      (try simp only [List.getElem_toArray, List.getElem_cons_succ, List.getElem_cons_zero, Act.put, List.setIfInBounds_toArray, List.set_cons_zero, List.set_cons_succ])
      refine wpAnyH_take (i := 2) (v := ?va2) rfl (by kernel_rfl) (by kernel_rfl) (by kernel_rfl) (fun _ _ _ h => h) (Or.inl ⟨by kernel_rfl, ?hya2⟩) hS1 ?resta2
      case hya2 =>
        intro w hSw
        clear hSw
        go_simp
        first | done | with_reducible rfl
      (try simp only [List.getElem_toArray, List.getElem_cons_succ, List.getElem_cons_zero, Act.put, List.setIfInBounds_toArray, List.set_cons_zero, List.set_cons_succ])
      refine wpAnyH_take (i := 3) (v := ?va3) rfl (by kernel_rfl) (by kernel_rfl) (by kernel_rfl) (fun _ _ _ h => h) (Or.inl ⟨by kernel_rfl, ?hya3⟩) hS1 ?resta3
      case hya3 =>
        intro w hSw
        (try dsimp only at hSw)
        go_simp
        first | done | with_reducible rfl
      (try simp only [List.getElem_toArray, List.getElem_cons_succ, List.getElem_cons_zero, Act.put, List.setIfInBounds_toArray, List.set_cons_zero, List.set_cons_succ])
      refine wpAnyH_take (i := 4) (v := ?va4) rfl (by kernel_rfl) (by kernel_rfl) (by kernel_rfl) (fun _ _ _ h => h) (Or.inl ⟨by kernel_rfl, ?hya4⟩) hS1 ?resta4
      case hya4 =>
        intro w hSw
        clear hSw
        go_simp
        first | done | with_reducible rfl
      (try simp only [List.getElem_toArray, List.getElem_cons_succ, List.getElem_cons_zero, Act.put, List.setIfInBounds_toArray, List.set_cons_zero, List.set_cons_succ])
      refine wpAnyH_take (i := 5) (v := ?va5) rfl (by kernel_rfl) (by kernel_rfl) (by kernel_rfl) (fun _ _ _ h => h) (Or.inl ⟨by kernel_rfl, ?hya5⟩) hS1 ?resta5
      case hya5 =>
        intro w hSw
        clear hSw
        go_simp
        first | done | with_reducible rfl
      (try simp only [List.getElem_toArray, List.getElem_cons_succ, List.getElem_cons_zero, Act.put, List.setIfInBounds_toArray, List.set_cons_zero, List.set_cons_succ])
      refine wpAnyH_take (i := 6) (v := ?va6) rfl (by kernel_rfl) (by kernel_rfl) (by kernel_rfl) (fun _ _ _ h => h) (Or.inl ⟨by kernel_rfl, ?hya6⟩) hS1 ?resta6
      case hya6 =>
        intro w hSw
        clear hSw
        go_simp
        first | done | with_reducible rfl
      (try simp only [List.getElem_toArray, List.getElem_cons_succ, List.getElem_cons_zero, Act.put, List.setIfInBounds_toArray, List.set_cons_zero, List.set_cons_succ])
      refine wpAnyH_take (i := 7) (v := ?va7) rfl (by kernel_rfl) (by kernel_rfl) (by kernel_rfl) (fun _ _ _ h => h) (Or.inl ⟨by kernel_rfl, ?hya7⟩) hS1 ?resta7
      case hya7 =>
        intro w hSw
        (try dsimp only at hSw)
        go_simp
        first | done | with_reducible rfl
      (try simp only [List.getElem_toArray, List.getElem_cons_succ, List.getElem_cons_zero, Act.put, List.setIfInBounds_toArray, List.set_cons_zero, List.set_cons_succ])
      rcases htx : txt b a with _ | nm
      · have HNo := Lib.hid (nodeP_txt (x := x) (d := d) (l := l) htx)
        refine wpAnyH_all (rs := [8, 10]) (by kernel_rfl) (by simp) fun j hj => ?_
        have hj2 : j = 8 ∨ j = 10 := by simpa using hj
        clear hj
        rcases hj2 with rfl | rfl
        · refine wpOp_do rfl (by kernel_rfl) fun K hK => ?_
          simp only [List.getElem_toArray, List.getElem_cons_succ, List.getElem_cons_zero]
          go_simp
          go_at_call 94
          refine (text_no Ab nb cb b a w1.drew hb mb (by omega) hcb ((rb.more (show B ≤ w1.heap.size by omega)).below (Below.refl _ _).drew) htx).mono ?_
          rintro e w2 ⟨rfl, rfl⟩
          exact ⟨rfl, RNode.no HNo.out (hn1.trans (Near.of_below _ (Below.refl _ _).drew))⟩
        · refine wpOp_do rfl (by kernel_rfl) fun K hK => ?_
          simp only [List.getElem_toArray, List.getElem_cons_succ, List.getElem_cons_zero]
          go_simp
          have hbz : Below w1.heap.size w1 (w1.alloc (.cells #[.string ⟨#[]⟩, .slice none 0 0, .slice none 0 0] 25)).drew := (bal (Below.refl _ _) _).drew
          have hS2 : (fun W' : World => ∀ i, W'.cell? ⟨g, i, none⟩ = (#[.slice Ab nb cb, .slice Ax nx cx, .int .i64 a, .int .i64 l1] : Array Value)[i]?) (w1.alloc (.cells #[.string ⟨#[]⟩, .slice none 0 0, .slice none 0 0] 25)).drew := (hB1.kept hbz).cell
          refine hK.out _ _ hS2 ?_
          clear hK K
          (try simp only [List.getElem_toArray, List.getElem_cons_succ, List.getElem_cons_zero, Act.put, List.setIfInBounds_toArray, List.set_cons_zero, List.set_cons_succ])
          refine wpAnyH_call (i := 8) (by kernel_rfl) rfl (by kernel_rfl) fun K hK => ?_
          simp only [List.getElem_toArray, List.getElem_cons_succ, List.getElem_cons_zero]
          go_simp
          go_at_call 94
          refine (text_no Ab nb cb b a _ hb mb (by omega) hcb (((rb.more (show B ≤ w1.heap.size by omega)).below hbz).more hbz.size) htx).mono ?_
          rintro e w2 ⟨rfl, rfl⟩
          exact ⟨rfl, RNode.no HNo.out (hn1.trans (Near.of_below _ hbz))⟩
      · have HTx := Lib.hid (fun W (hW : Below w1.heap.size w1 W) => text_yes Ab nb cb b nm a W hb mb hcb (((rb.more (show B ≤ w1.heap.size by omega)).below hW).more hW.size) htx)
        have hnl := (txt_some htx).2
        have HNy := Lib.hid (fun ps ks a' l' hi => nodeP_some (x := x) (d := d) (ps := ps) (ks := ks) (a' := a') (l' := l') hl0 htx hi)
        have HNn := Lib.hid (fun hi => nodeP_none (x := x) (d := d) hl0 htx hi)
        rw [HL.out] at HNy HNn
        obtain ⟨sn, hsn⟩ : ∃ sn, strOfNums nm = sn := ⟨_, rfl⟩
        rw [hsn] at HTx
        have HSn := Lib.hid hsn
        have hsz : nm.length = sn.size := by rw [← hsn, strOfNums_size]
        obtain ⟨a0, ha0⟩ : ∃ a0, a + up4 (nm.length + 1) = a0 := ⟨_, rfl⟩
        have HA0 := Lib.hid ha0
        have ha0b : a0 ≤ b.length + 3 := by rw [← ha0]; unfold up4; omega
        rw [ha0] at HNy HNn
        obtain ⟨F0, hF0⟩ : ∃ F0, itemsP (nodeP b x d) b x (b.length + 1) [] [] a0 l1 = F0 := ⟨_, rfl⟩
        rw [hF0] at HNn
        have HF0 := Lib.hid hF0
        have hbz : Below w1.heap.size w1 (w1.alloc (.cells #[.string ⟨#[]⟩, .slice none 0 0, .slice none 0 0] 25)).drew := (bal (Below.refl _ _) _).drew
        have hS2 : (fun W' : World => ∀ i, W'.cell? ⟨g, i, none⟩ = (#[.slice Ab nb cb, .slice Ax nx cx, .int .i64 a, .int .i64 l1] : Array Value)[i]?) (w1.alloc (.cells #[.string ⟨#[]⟩, .slice none 0 0, .slice none 0 0] 25)).drew := (hB1.kept hbz).cell
        have hTz := (Blk.new w1 25 #[.string ⟨#[]⟩, .slice none 0 0, .slice none 0 0]).drew
        have hBz := hB1.kept hbz
        have hRz := hR1.kept hbz
        have hnz := hn1.trans (Near.of_below _ hbz)
        have hzz : (w1.alloc (.cells #[.string ⟨#[]⟩, .slice none 0 0, .slice none 0 0] 25)).drew.heap.size = w1.heap.size + 1 := by simp
        clear hsn hF0 ha0 htx
        have hgz : g < w1.heap.size := hB1.lt
        refine wpAnyH_all (rs := [8, 10]) (by kernel_rfl) (by simp) fun j hj => ?_
        have hj2 : j = 8 ∨ j = 10 := by simpa using hj
        clear hj
        rcases hj2 with rfl | rfl
        · refine wpOp_do rfl (by kernel_rfl) fun K hK => ?_
          simp only [List.getElem_toArray, List.getElem_cons_succ, List.getElem_cons_zero]
          go_simp
          go_at_call 94
          refine (HTx.out _ (Below.refl _ _).drew).mono ?_
          rintro e w2 ⟨rfl, rfl⟩
          refine hK.out _ _ hS1 ?_
          clear hK K
          (try simp only [List.getElem_toArray, List.getElem_cons_succ, List.getElem_cons_zero, Act.put, List.setIfInBounds_toArray, List.set_cons_zero, List.set_cons_succ])
          refine wpAnyH_take (i := 9) (v := ?vb9) rfl (by kernel_rfl) (by kernel_rfl) (by kernel_rfl) (fun _ _ _ h => h) (Or.inl ⟨by kernel_rfl, ?hyb9⟩) hS1 ?restb9
          case hyb9 =>
            intro w hSw
            clear hSw
            go_simp
            first | done | with_reducible rfl
          (try simp only [List.getElem_toArray, List.getElem_cons_succ, List.getElem_cons_zero, Act.put, List.setIfInBounds_toArray, List.set_cons_zero, List.set_cons_succ])
          refine wpAnyH_call (i := 10) (by kernel_rfl) rfl (by kernel_rfl) fun K hK => ?_
          simp only [List.getElem_toArray, List.getElem_cons_succ, List.getElem_cons_zero]
          go_simp
          refine hK.out _ _ hS2 ?_
          clear hK K
          (try simp only [List.getElem_toArray, List.getElem_cons_succ, List.getElem_cons_zero, Act.put, List.setIfInBounds_toArray, List.set_cons_zero, List.set_cons_succ])
          generalize (w1.alloc (.cells #[.string ⟨#[]⟩, .slice none 0 0, .slice none 0 0] 25)).drew = wz at *
          have cTz := hTz.cell
          have fTz := hTz.frozen
          refine wpAnyH_call (i := 11) (by kernel_rfl) rfl (by kernel_rfl) fun K hK => ?_
          simp only [List.getElem_toArray, List.getElem_cons_succ, List.getElem_cons_zero]
          go_simp
          have hTt : Blk (((wz.setCell ⟨w1.heap.size, 0, none⟩ (.string sn)).setCell ⟨w1.heap.size, 1, none⟩ (.slice none 0 0)).setCell ⟨w1.heap.size, 2, none⟩ (.slice none 0 0)) w1.heap.size 25 #[.string sn, .slice none 0 0, .slice none 0 0] := ((hTz.set_ 0 (.string sn)).set_ 1 (.slice none 0 0)).set_ 2 (.slice none 0 0)
          have hBt : Blk (((wz.setCell ⟨w1.heap.size, 0, none⟩ (.string sn)).setCell ⟨w1.heap.size, 1, none⟩ (.slice none 0 0)).setCell ⟨w1.heap.size, 2, none⟩ (.slice none 0 0)) g 135 #[.slice Ab nb cb, .slice Ax nx cx, .int .i64 a, .int .i64 l1] := ((hBz.far (p := ⟨w1.heap.size, 0, none⟩) (by show g ≠ w1.heap.size; omega) _).far (p := ⟨w1.heap.size, 1, none⟩) (by show g ≠ w1.heap.size; omega) _).far (p := ⟨w1.heap.size, 2, none⟩) (by show g ≠ w1.heap.size; omega) _
          have hRt : Blk (((wz.setCell ⟨w1.heap.size, 0, none⟩ (.string sn)).setCell ⟨w1.heap.size, 1, none⟩ (.slice none 0 0)).setCell ⟨w1.heap.size, 2, none⟩ (.slice none 0 0)) w.heap.size 25 #[.string ⟨#[]⟩, .slice none 0 0, .slice none 0 0] := ((hRz.far (p := ⟨w1.heap.size, 0, none⟩) (by show w.heap.size ≠ w1.heap.size; omega) _).far (p := ⟨w1.heap.size, 1, none⟩) (by show w.heap.size ≠ w1.heap.size; omega) _).far (p := ⟨w1.heap.size, 2, none⟩) (by show w.heap.size ≠ w1.heap.size; omega) _
          have hnt : Near (fun i => i = g) w (((wz.setCell ⟨w1.heap.size, 0, none⟩ (.string sn)).setCell ⟨w1.heap.size, 1, none⟩ (.slice none 0 0)).setCell ⟨w1.heap.size, 2, none⟩ (.slice none 0 0)) := hnz.step ((((Near.refl (fun i => i = w1.heap.size) wz).setCell (p := ⟨w1.heap.size, 0, none⟩) rfl _).setCell (p := ⟨w1.heap.size, 1, none⟩) rfl _).setCell (p := ⟨w1.heap.size, 2, none⟩) rfl _) (fun i hi => .inr (by omega))
          have hS3 : (fun W' : World => ∀ i, W'.cell? ⟨g, i, none⟩ = (#[.slice Ab nb cb, .slice Ax nx cx, .int .i64 a, .int .i64 l1] : Array Value)[i]?) (((wz.setCell ⟨w1.heap.size, 0, none⟩ (.string sn)).setCell ⟨w1.heap.size, 1, none⟩ (.slice none 0 0)).setCell ⟨w1.heap.size, 2, none⟩ (.slice none 0 0)) := hBt.cell
          refine hK.out _ _ hS3 ?_
          clear hK K
          (try simp only [List.getElem_toArray, List.getElem_cons_succ, List.getElem_cons_zero, Act.put, List.setIfInBounds_toArray, List.set_cons_zero, List.set_cons_succ])
          refine wpAnyH_done (by kernel_rfl) ?_ _
          have hzt : (((wz.setCell ⟨w1.heap.size, 0, none⟩ (.string sn)).setCell ⟨w1.heap.size, 1, none⟩ (.slice none 0 0)).setCell ⟨w1.heap.size, 2, none⟩ (.slice none 0 0)).heap.size = w1.heap.size + 1 := by simp; exact hzz
          clear hS1 hS2 hS3 hTz hBz hRz hnz cTz fTz hbz hzz hn1 hB1 hR1 HTx
          generalize ((wz.setCell ⟨w1.heap.size, 0, none⟩ (.string sn)).setCell ⟨w1.heap.size, 1, none⟩ (.slice none 0 0)).setCell ⟨w1.heap.size, 2, none⟩ (.slice none 0 0) = wt at *
          have HZt := Lib.hid hzt
          clear hzt
          generalize hbt : w1.heap.size = bt at *
          have HBt := Lib.hid hbt
          clear hbt
          have hm : ((nm.length + 1 : Nat) : Int) = (sn.size : Int) + 1 := by rw [hsz]; omega
          have HUp := Lib.hid (up_yes ⟨g, Ab, nb, cb, Ax, nx, cx⟩ a (nm.length + 1) l1 wt hBt (by show a + (nm.length + 1) ≤ nb; omega) mb)
          rw [hm, HA0.out] at HUp
          simp only [Rdr.cs] at HUp
          have cT := hTt.cell
          have hss : sn.size ≤ 20000 := by omega
          clear hm
          go_wp2_with (go_at_call 95; refine HUp.out.mono ?_; rintro e wu ⟨rfl, hBu, hnu⟩)
          have hTu := hTt.same (hnu.block bt hTt.lt (by omega))
          have hRu := hRt.same (hnu.block w.heap.size hRt.lt (by omega))
          have hnwu := hnt.trans hnu
          have hzu := hnu.size
          have HM0 := Lib.hid (show Mid ⟨g, Ab, nb, cb, Ax, nx, cx⟩ b x nm d B (bt + 1) bt w.heap.size F0 (b.length + 1) [] [] a0 l1 (.slice none 0 0) (.slice none 0 0) w wu from
            ⟨HF0.out, by omega, by simp, ha0b, by have := HL.out; omega, by rw [HSn.out]; exact hTu, hRu, OwnPs.nil _ _, OwnTs.nil _ _ _, hBu, hnwu, by have := HZt.out; omega⟩)
          clear hTt hBt hRt hnt hTu hRu hBu hnwu hnu HUp cT
          go_loopw [] (fun wr => ∃ (f : Nat) (ps : List Pr) (ks : List Tr) (a2 l2 : Nat) (vps vks : Value), Mid ⟨g, Ab, nb, cb, Ax, nx, cx⟩ b x nm d B (bt + 1) bt w.heap.size F0 f ps ks a2 l2 vps vks w wr) (fun wr => 50000 - atC (wr.cell? ⟨g, 2, none⟩))
          case atStart => exact ⟨_, _, _, _, _, _, _, HM0.out⟩
          case round =>
            clear HM0
            obtain ⟨f, ps, ks, a2, l2, vps, vks, hM⟩ := hrel
            have hB := hM.rdr
            simp only [Rdr.cs] at hB
            have cB := hB.cell
            have hbl : Below B w wr := hM.near.below (fun i hi => by have hi : i = g := hi; omega) (by omega)
            have hR := HRw.out.below hbl
            have hzr := hM.size
            have hap := hM.apos
            have hBr : B ≤ wr.heap.size := by omega
            by_cases h4 : a2 + 4 ≤ b.length
            · obtain ⟨y, hyy⟩ : ∃ y, numB ((b.drop a2).take 4) = y := ⟨_, rfl⟩
              have hy4 := four4_yes h4
              have hn4 := numB4 ob a2
              obtain ⟨a3, ha3⟩ : ∃ a3, a2 + 4 = a3 := ⟨_, rfl⟩
              have HF5 := four_yes ⟨g, Ab, nb, cb, Ax, nx, cx⟩ b x B a2 l2 wr hR hM.rdr hBr h4
              rw [hyy, ha3] at HF5
              rw [hyy] at hy4 hn4
              simp only [Rdr.cs] at HF5
              have HF5 := Lib.hid HF5
              have HY4 := Lib.hid hy4
              have HA3 := Lib.hid ha3
              have ha3b : a3 ≤ b.length := by omega
              clear hyy hy4 ha3 hB
              have HM := Lib.hid hM
              by_cases y3 : y = 3
              · subst y3
                clear hM
                obtain ⟨b1, o1, hAb, _, _⟩ := rb.2 (by omega)
                subst hAb
                go_upto_region 8 with (go_at_call 64; refine HF5.out.mono ?_; rintro e w5 ⟨rfl, hB5, hn5⟩)
                have hn5 : Near (fun i => i = g) wr w5 := hn5
                have hbl5 : Below B wr w5 := hn5.below (fun i hi => by omega) hBr
                have hR5 := hR.below hbl5
                have hz5 := hn5.size
                clear HF5
                by_cases h8 : a3 + 4 ≤ b.length
                · obtain ⟨n, hnn⟩ : ∃ y, numB ((b.drop a3).take 4) = y := ⟨_, rfl⟩
                  have hy8 := four4_yes h8
                  have hn8 := numB4 ob a3
                  obtain ⟨a4, ha4⟩ : ∃ a4, a3 + 4 = a4 := ⟨_, rfl⟩
                  have HF8 := four_yes ⟨g, some ⟨b1, o1, none⟩, nb, cb, Ax, nx, cx⟩ b x B a3 l2 w5 hR5 hB5 (by omega) h8
                  rw [hnn, ha4] at HF8
                  rw [hnn, ← HA3.out] at hy8
                  rw [hnn] at hn8
                  simp only [Rdr.cs] at HF8
                  have HF8 := Lib.hid HF8
                  have HY8 := Lib.hid hy8
                  have HA4 := Lib.hid ha4
                  have ha4b : a4 ≤ b.length := by omega
                  obtain ⟨N, hN⟩ := Int.eq_ofNat_of_zero_le hn8.1
                  have HNn2 := Lib.hid hN
                  subst hN
                  clear hnn hy8 ha4
                  go_upto_region 9 with (go_at_call 64; refine HF8.out.mono ?_; rintro e w8 ⟨rfl, hB8, hn8'⟩)
                  have hn8x : Near (fun i => i = g) wr w8 := hn5.trans hn8'
                  have hbl8 : Below B wr w8 := hn8x.below (fun i hi => by omega) hBr
                  have hR8 := hR.below hbl8
                  have hz8 := hn8x.size
                  clear HF8 hB5 hn5 hn8' hbl5 hR5 hz5
                  have hS1 : (fun W' : World => W'.cell? ⟨g, 1, none⟩ = some (.slice Ax nx cx)) w8.drew := hB8.drew.cell 1
                  refine wp_region_held_drew (S := fun W' : World => W'.cell? ⟨g, 1, none⟩ = some (.slice Ax nx cx)) (by kernel_rfl) hS1 (fun hHeld => ?_)
                  clear hHeld
                  refine wpAnyH_take (i := 0) (v := ?vxd0) rfl (by kernel_rfl) (by kernel_rfl) (by kernel_rfl) (fun _ _ _ h => h) (Or.inl ⟨by kernel_rfl, ?hyxd0⟩) hS1 ?restxd0
                  case hyxd0 =>
                    intro w hSw
                    clear hSw
                    go_simp
                    first | done | with_reducible rfl
                  (try simp only [List.getElem_toArray, List.getElem_cons_succ, List.getElem_cons_zero, Act.put, List.setIfInBounds_toArray, List.set_cons_zero, List.set_cons_succ])
                  refine wpAnyH_take (i := 1) (v := ?vxd1) rfl (by kernel_rfl) (by kernel_rfl) (by kernel_rfl) (fun _ _ _ h => h) (Or.inl ⟨by kernel_rfl, ?hyxd1⟩) hS1 ?restxd1
                  case hyxd1 =>
                    intro w hSw
                    clear hSw
                    go_simp
                    first | done | with_reducible rfl
                  (try simp only [List.getElem_toArray, List.getElem_cons_succ, List.getElem_cons_zero, Act.put, List.setIfInBounds_toArray, List.set_cons_zero, List.set_cons_succ])
                  refine wpAnyH_take (i := 2) (v := ?vxd2) rfl (by kernel_rfl) (by kernel_rfl) (by kernel_rfl) (fun _ _ _ h => h) (Or.inl ⟨by kernel_rfl, ?hyxd2⟩) hS1 ?restxd2
                  case hyxd2 =>
                    intro w hSw
                    clear hSw
                    go_simp
                    first | done | with_reducible rfl
                  (try simp only [List.getElem_toArray, List.getElem_cons_succ, List.getElem_cons_zero, Act.put, List.setIfInBounds_toArray, List.set_cons_zero, List.set_cons_succ])
                  refine wpAnyH_take (i := 3) (v := ?vxd3) rfl (by kernel_rfl) (by kernel_rfl) (by kernel_rfl) (fun _ _ _ h => h) (Or.inl ⟨by kernel_rfl, ?hyxd3⟩) hS1 ?restxd3
                  case hyxd3 =>
                    intro w hSw
                    (try dsimp only at hSw)
                    go_simp
                    first | done | with_reducible rfl
                  (try simp only [List.getElem_toArray, List.getElem_cons_succ, List.getElem_cons_zero, Act.put, List.setIfInBounds_toArray, List.set_cons_zero, List.set_cons_succ])
                  refine wpAnyH_take (i := 4) (v := ?vxd4) rfl (by kernel_rfl) (by kernel_rfl) (by kernel_rfl) (fun _ _ _ h => h) (Or.inl ⟨by kernel_rfl, ?hyxd4⟩) hS1 ?restxd4
                  case hyxd4 =>
                    intro w hSw
                    clear hSw
                    go_simp
                    first | done | with_reducible rfl
                  (try simp only [List.getElem_toArray, List.getElem_cons_succ, List.getElem_cons_zero, Act.put, List.setIfInBounds_toArray, List.set_cons_zero, List.set_cons_succ])
                  have hb8d : Below B w8 w8.drew := (Below.refl _ _).drew
                  by_cases h12 : a4 + 4 ≤ b.length
                  · obtain ⟨pl, hpp⟩ : ∃ y, numB ((b.drop a4).take 4) = y := ⟨_, rfl⟩
                    have hy12 := four4_yes h12
                    have hn12 := numB4 ob a4
                    obtain ⟨a5, ha5⟩ : ∃ a5, a4 + 4 = a5 := ⟨_, rfl⟩
                    have HF12 := four_yes ⟨g, some ⟨b1, o1, none⟩, nb, cb, Ax, nx, cx⟩ b x B a4 l2 w8.drew (hR8.below hb8d) hB8.drew (by show B ≤ w8.heap.size; omega) h12
                    rw [hpp, ha5] at HF12
                    have e48 : a4 = a2 + 8 := by have := HA3.out; have := HA4.out; omega
                    rw [hpp, e48] at hy12
                    rw [hpp] at hn12
                    simp only [Rdr.cs] at HF12
                    have HY12 := Lib.hid hy12
                    have HA5 := Lib.hid (show a2 + 12 = a5 by omega)
                    have ha5b : a5 ≤ b.length := by omega
                    obtain ⟨P, hP⟩ := Int.eq_ofNat_of_zero_le hn12.1
                    subst hP
                    clear hpp hy12 ha5 e48
                    refine wpAnyH_call (i := 5) (by kernel_rfl) rfl (by kernel_rfl) fun K hK => ?_
                    simp only [List.getElem_toArray, List.getElem_cons_succ, List.getElem_cons_zero]
                    go_simp
                    go_at_call 64
                    refine HF12.mono ?_
                    rintro e w9 ⟨rfl, hB9, hn9⟩
                    have hn9x : Near (fun i => i = g) wr w9 := (hn8x.trans (Near.of_below _ (Below.refl _ _).drew)).trans hn9
                    have hbl9 : Below B wr w9 := hn9x.below (fun i hi => by omega) hBr
                    have hR9 := hR.below hbl9
                    have hz9 := hn9x.size
                    have hS2 : (fun W' : World => W'.cell? ⟨g, 1, none⟩ = some (.slice Ax nx cx)) w9 := hB9.cell 1
                    refine hK.out _ _ hS2 ?_
                    clear hK K
                    (try simp only [List.getElem_toArray, List.getElem_cons_succ, List.getElem_cons_zero, Act.put, List.setIfInBounds_toArray, List.set_cons_zero, List.set_cons_succ])
                    rcases htp : txt x P with _ | nm2
                    · refine wpAnyH_call (i := 6) (by kernel_rfl) rfl (by kernel_rfl) fun K hK => ?_
                      simp only [List.getElem_toArray, List.getElem_cons_succ, List.getElem_cons_zero]
                      go_simp
                      go_at_call 94
                      refine (text_no Ax nx cx x P w9 hR9.hx hR9.mx (by omega) hR9.cx (hR9.rx.more (by omega)) htp).mono ?_
                      rintro e w10 ⟨rfl, rfl⟩
                      exact ⟨rfl, RNode.no (HNn.out (HM.out.spec.symm.trans (itemsP_t HY4.out HY8.out HY12.out htp))) (HM.out.near.trans hn9x)⟩
                    · refine wpAnyH_call (i := 6) (by kernel_rfl) rfl (by kernel_rfl) fun K hK => ?_
                      simp only [List.getElem_toArray, List.getElem_cons_succ, List.getElem_cons_zero]
                      go_simp
                      go_at_call 94
                      refine (text_yes Ax nx cx x nm2 P w9 hR9.hx hR9.mx hR9.cx (hR9.rx.more (by omega)) htp).mono ?_
                      rintro e w10 ⟨rfl, rfl⟩
                      refine hK.out _ _ hS2 ?_
                      clear hK K
                      (try simp only [List.getElem_toArray, List.getElem_cons_succ, List.getElem_cons_zero, Act.put, List.setIfInBounds_toArray, List.set_cons_zero, List.set_cons_succ])
                      obtain ⟨s2, hs2⟩ : ∃ s2, strOfNums nm2 = s2 := ⟨_, rfl⟩
                      have hs2l : s2.size ≤ 20000 := by rw [← hs2, strOfNums_size]; have := (txt_some htp).2; have := hR9.mx; have := hR9.hx; simp only at this; omega
                      have HS2 := Lib.hid hs2
                      have HTp := Lib.hid htp
                      rw [hs2]
                      clear hs2 htp
                      refine wpAnyH_take (i := 7) (v := ?vxd7) rfl (by kernel_rfl) (by kernel_rfl) (by kernel_rfl) (fun _ _ _ h => h) (Or.inl ⟨by kernel_rfl, ?hyxd7⟩) hS2 ?restxd7
                      case hyxd7 =>
                        intro w hSw
                        clear hSw
                        go_simp
                        first | done | with_reducible rfl
                      (try simp only [List.getElem_toArray, List.getElem_cons_succ, List.getElem_cons_zero, Act.put, List.setIfInBounds_toArray, List.set_cons_zero, List.set_cons_succ])
                      refine wpAnyH_done (by kernel_rfl) ?_ _
                      clear hS1 hS2 hB8 hn8x hbl8 hR8 hz8 hn9 hb8d HF12
                      have hgbt : g < bt := by omega
                      have hTb := HM.out.box.same (hn9x.block bt HM.out.box.lt (by omega))
                      have hRb := HM.out.res.same (hn9x.block _ HM.out.res.lt (by omega))
                      have hsm := same_near (X := fun i => i < bt + 1 ∨ vps.ownBlock = some i) hn9x HM.out.rdr (.inl (by show g < bt + 1; omega))
                      have hPs := HM.out.ps.turn hsm (fun i hi => hn9x.block i (HM.out.ps.lt hi).2 (by have := (HM.out.ps.lt hi).1; omega))
                      have hKs := HM.out.ks.turn hsm (fun i hi => hn9x.block i (HM.out.ks.lt hi).2 (by have := (HM.out.ks.lt hi).1; omega))
                      have hN9 := HM.out.near.trans hn9x
                      clear hsm
                      go_upto_region 10 with (fail)
                      have hS3 : (fun W' : World => ∀ i, W'.cell? ⟨g, i, none⟩ = (#[.slice (some ⟨b1, o1, none⟩) nb cb, .slice Ax nx cx, .int .i64 a5, .int .i64 l2] : Array Value)[i]?) w9.drew := hB9.drew.cell
                      refine wp_region_held_drew (S := fun W' : World => ∀ i, W'.cell? ⟨g, i, none⟩ = (#[.slice (some ⟨b1, o1, none⟩) nb cb, .slice Ax nx cx, .int .i64 a5, .int .i64 l2] : Array Value)[i]?) (by kernel_rfl) hS3 (fun hHeld => ?_)
                      clear hHeld
                      have ew : IntKind.i64.wrap ((nb : Int) - (a5 : Int)) = (nb : Int) - (a5 : Int) := IntWalk.i64_in _ (by omega)
                      refine wpAnyH_take (i := 0) (v := ?vxe0) rfl (by kernel_rfl) (by kernel_rfl) (by kernel_rfl) (fun _ _ _ h => h) (Or.inl ⟨by kernel_rfl, ?hyxe0⟩) hS3 ?restxe0
                      case hyxe0 =>
                        intro w hSw
                        clear hSw
                        go_simp
                        first | done | with_reducible rfl
                      (try simp only [List.getElem_toArray, List.getElem_cons_succ, List.getElem_cons_zero, Act.put, List.setIfInBounds_toArray, List.set_cons_zero, List.set_cons_succ])
                      refine wpAnyH_take (i := 1) (v := ?vxe1) rfl (by kernel_rfl) (by kernel_rfl) (by kernel_rfl) (fun _ _ _ h => h) (Or.inl ⟨by kernel_rfl, ?hyxe1⟩) hS3 ?restxe1
                      case hyxe1 =>
                        intro w hSw
                        clear hSw
                        go_simp
                        first | done | with_reducible rfl
                      (try simp only [List.getElem_toArray, List.getElem_cons_succ, List.getElem_cons_zero, Act.put, List.setIfInBounds_toArray, List.set_cons_zero, List.set_cons_succ])
                      refine wpAnyH_take (i := 2) (v := ?vxe2) rfl (by kernel_rfl) (by kernel_rfl) (by kernel_rfl) (fun _ _ _ h => h) (Or.inl ⟨by kernel_rfl, ?hyxe2⟩) hS3 ?restxe2
                      case hyxe2 =>
                        intro w hSw
                        clear hSw
                        go_simp
                        first | done | with_reducible rfl
                      (try simp only [List.getElem_toArray, List.getElem_cons_succ, List.getElem_cons_zero, Act.put, List.setIfInBounds_toArray, List.set_cons_zero, List.set_cons_succ])
                      refine wpAnyH_take (i := 3) (v := ?vxe3) rfl (by kernel_rfl) (by kernel_rfl) (by kernel_rfl) (fun _ _ _ h => h) (Or.inl ⟨by kernel_rfl, ?hyxe3⟩) hS3 ?restxe3
                      case hyxe3 =>
                        intro w hSw
                        clear hSw
                        go_simp
                        first | done | with_reducible rfl
                      (try simp only [List.getElem_toArray, List.getElem_cons_succ, List.getElem_cons_zero, Act.put, List.setIfInBounds_toArray, List.set_cons_zero, List.set_cons_succ])
                      refine wpAnyH_take (i := 4) (v := ?vxe4) rfl (by kernel_rfl) (by kernel_rfl) (by kernel_rfl) (fun _ _ _ h => h) (Or.inl ⟨by kernel_rfl, ?hyxe4⟩) hS3 ?restxe4
                      case hyxe4 =>
                        intro w hSw
                        (try dsimp only at hSw)
                        go_simp
                        first | done | with_reducible rfl
                      (try simp only [List.getElem_toArray, List.getElem_cons_succ, List.getElem_cons_zero, Act.put, List.setIfInBounds_toArray, List.set_cons_zero, List.set_cons_succ])
                      refine wpAnyH_take (i := 5) (v := ?vxe5) rfl (by kernel_rfl) (by kernel_rfl) (by kernel_rfl) (fun _ _ _ h => h) (Or.inl ⟨by kernel_rfl, ?hyxe5⟩) hS3 ?restxe5
                      case hyxe5 =>
                        intro w hSw
                        clear hSw
                        go_simp
                        first | done | with_reducible rfl
                      (try simp only [List.getElem_toArray, List.getElem_cons_succ, List.getElem_cons_zero, Act.put, List.setIfInBounds_toArray, List.set_cons_zero, List.set_cons_succ])
                      refine wpAnyH_take (i := 6) (v := ?vxe6) rfl (by kernel_rfl) (by kernel_rfl) (by kernel_rfl) (fun _ _ _ h => h) (Or.inl ⟨by kernel_rfl, ?hyxe6⟩) hS3 ?restxe6
                      case hyxe6 =>
                        intro w hSw
                        clear hSw
                        go_simp
                        first | done | with_reducible rfl
                      (try simp only [List.getElem_toArray, List.getElem_cons_succ, List.getElem_cons_zero, Act.put, List.setIfInBounds_toArray, List.set_cons_zero, List.set_cons_succ])
                      refine wpAnyH_take (i := 7) (v := ?vxe7) rfl (by kernel_rfl) (by kernel_rfl) (by kernel_rfl) (fun _ _ _ h => h) (Or.inl ⟨by kernel_rfl, ?hyxe7⟩) hS3 ?restxe7
                      case hyxe7 =>
                        intro w hSw
                        clear hSw
                        go_simp
                        first | done | with_reducible rfl
                      (try simp only [List.getElem_toArray, List.getElem_cons_succ, List.getElem_cons_zero, Act.put, List.setIfInBounds_toArray, List.set_cons_zero, List.set_cons_succ])
                      refine wpAnyH_take (i := 8) (v := ?vxe8) rfl (by kernel_rfl) (by kernel_rfl) (by kernel_rfl) (fun _ _ _ h => h) (Or.inl ⟨by kernel_rfl, ?hyxe8⟩) hS3 ?restxe8
                      case hyxe8 =>
                        intro w hSw
                        clear hSw
                        go_simp
                        first | done | with_reducible rfl
                      (try simp only [List.getElem_toArray, List.getElem_cons_succ, List.getElem_cons_zero, Act.put, List.setIfInBounds_toArray, List.set_cons_zero, List.set_cons_succ])
                      refine wpAnyH_take (i := 9) (v := ?vxe9) rfl (by kernel_rfl) (by kernel_rfl) (by kernel_rfl) (fun _ _ _ h => h) (Or.inl ⟨by kernel_rfl, ?hyxe9⟩) hS3 ?restxe9
                      case hyxe9 =>
                        intro w hSw
                        (try dsimp only at hSw)
                        go_simp
                        first | done | with_reducible rfl
                      (try simp only [List.getElem_toArray, List.getElem_cons_succ, List.getElem_cons_zero, Act.put, List.setIfInBounds_toArray, List.set_cons_zero, List.set_cons_succ])
                      refine wpAnyH_take (i := 10) (v := ?vxe10) rfl (by kernel_rfl) (by kernel_rfl) (by kernel_rfl) (fun _ _ _ h => h) (Or.inl ⟨by kernel_rfl, ?hyxe10⟩) hS3 ?restxe10
                      case hyxe10 =>
                        intro w hSw
                        clear hSw
                        go_simp
                        first | done | with_reducible rfl
                      (try simp only [List.getElem_toArray, List.getElem_cons_succ, List.getElem_cons_zero, Act.put, List.setIfInBounds_toArray, List.set_cons_zero, List.set_cons_succ])
                      by_cases hlong : N ≤ b.length - a5
                      · have e7 : decide ((N : Int) ≤ (nb : Int) - (a5 : Int)) = true := decide_eq_true (by omega)
                        refine wpAnyH_take (i := 11) (v := ?vxe11) rfl (by kernel_rfl) (by kernel_rfl) (by kernel_rfl) (fun _ _ _ h => h) (Or.inl ⟨by kernel_rfl, ?hyxe11⟩) hS3 ?restxe11
                        case hyxe11 =>
                          intro w hSw
                          clear hSw
                          go_simp
                          first | done | with_reducible rfl
                        (try simp only [List.getElem_toArray, List.getElem_cons_succ, List.getElem_cons_zero, Act.put, List.setIfInBounds_toArray, List.set_cons_zero, List.set_cons_succ])
                        refine wpAnyH_call (i := 12) (by kernel_rfl) rfl (by kernel_rfl) fun K hK => ?_
                        simp only [List.getElem_toArray, List.getElem_cons_succ, List.getElem_cons_zero]
                        go_simp
                        go_at_call 63
                        refine (must_yes _).mono ?_
                        rintro e w10 ⟨rfl, rfl⟩
                        refine hK.out _ _ hS3 ?_
                        clear hK K
                        (try simp only [List.getElem_toArray, List.getElem_cons_succ, List.getElem_cons_zero, Act.put, List.setIfInBounds_toArray, List.set_cons_zero, List.set_cons_succ])
                        refine wpAnyH_done (by kernel_rfl) ?_ _
                        clear hS3 ew e7
                        have hB10 := hB9.drew
                        have hTb10 := hTb.drew
                        have hRb10 := hRb.drew
                        have hbd : Below w9.heap.size w9 w9.drew := (Below.refl _ _).drew
                        have hPs10 := hPs.turn (X := fun _ => False) (Same.of_below hbd) (fun _ _ => rfl)
                        have hKs10 := hKs.kept hbd
                        have hN10 := hN9.trans (Near.of_below _ hbd)
                        have hR10 := hR9.below (hbd.mono (by omega))
                        have hz10 : w9.drew.heap.size = w9.heap.size := rfl
                        generalize w9.drew = w10 at *
                        clear hB9 hTb hRb hPs hKs hN9 hR9 hn9x hbl9 hbd
                        obtain ⟨css, hpo, _⟩ := id hPs10
                        obtain ⟨Ap, cp, hvp, hcp1, _⟩ := own_slice hpo
                        obtain ⟨Ak, ck, hvk⟩ : ∃ A c, vks = .slice A ks.length c := by
                          obtain ⟨xs, h1, _⟩ := hKs10
                          obtain ⟨A, c, e, _⟩ := own_slice h1
                          exact ⟨A, c, e⟩
                        subst hvp
                        subst hvk
                        have hfew := HM.out.few
                        obtain ⟨np, hnp⟩ : ∃ m, ps.length = m := ⟨_, rfl⟩
                        obtain ⟨nk, hnk⟩ : ∃ m, ks.length = m := ⟨_, rfl⟩
                        have HNp := Lib.hid hnp
                        have HNk := Lib.hid hnk
                        rw [hnp] at hTb10 hPs10 hcp1 hKs10 hfew
                        rw [hnk] at hTb10 hKs10 hfew
                        clear hpo hnp hnk
                        go_upto_region 11 with (fail)
                        obtain ⟨As, hAs⟩ : ∃ A, (if cb = a5 then (some ⟨b1, o1, none⟩ : Option Addr) else some ⟨b1, o1 + a5, none⟩) = A := ⟨_, rfl⟩
                        have HAs := Lib.hid hAs
                        have HRs := Lib.hid (fun W (hW : Below w10.heap.size w10 W) => (show Rd W W.heap.size 1 As N (((b.drop a5).take N).flatMap encB) from by
                          have h1 := Rd.subB (hR10.rb) hR10.hb (a := a5) (m := N) (by simp only; omega)
                          have h2 : Rd w10 B 1 As N (((b.drop a5).take N).flatMap encB) := by
                            rw [← hAs]
                            split
                            · have h0 : N = 0 := by omega
                              subst h0
                              exact ⟨by simp, fun h => absurd h (by omega)⟩
                            · exact h1
                          exact (h2.below (hW.mono (by omega))).more (by have := hW.size; omega)))
                        have hlen : ((b.drop a5).take N).length = N := by simp; omega
                        have HLen := Lib.hid hlen
                        clear hlen hAs
                        obtain ⟨bs, hbs⟩ : ∃ bs, (b.drop a5).take N = bs := ⟨_, rfl⟩
                        rw [hbs] at HRs HLen
                        have HBs := Lib.hid hbs
                        have hbok : BytesOk bs := by rw [← hbs]; exact fun y hy => ob y (List.mem_of_mem_drop (List.mem_of_mem_take hy))
                        clear hbs
                        have ew2 : IntKind.i64.wrap ((a5 : Int) + (N : Int)) = (a5 : Int) + (N : Int) := IntWalk.i64_in _ (by omega)
                        have hXp : ∀ i, (Value.slice Ap np cp).ownBlock = some i → i < w10.heap.size := fun i hi => (hPs10.lt hi).2
                        refine wp_region_spec 21 [68, 69, 70, 71, 72, 73, 74, 75, 76, 77, 78, 79, 80, 81, 82, 83, 84, 85, 86, 87, 88] [.eq (.pointer (some ⟨bt, 1, none⟩)), .eq (.slice Ap np cp), .eq (.string s2), .eq (.pointer (some ⟨g, 0, none⟩)), .eq (.pointer (some ⟨g, 0, none⟩)), .eq (.pointer (some ⟨g, 0, none⟩)), .eq (.slice (some ⟨b1, o1, none⟩) nb cb),
                          .eq (.pointer (some ⟨g, 0, none⟩)), .eq (.pointer (some ⟨g, 0, none⟩)), .eq (.pointer (some ⟨g, 2, none⟩)), .eq (.int .i64 a5), .eq (.pointer (some ⟨g, 0, none⟩)), .eq (.pointer (some ⟨g, 0, none⟩)), .eq (.pointer (some ⟨g, 2, none⟩)), .eq (.int .i64 a5), .eq (.int .i64 N), .eq (.int .i64 ((a5 : Int) + (N : Int))), .eq (.slice As N (cb - a5)), BsV bs, PrV (s2, bs), PsV (fun i => (Value.slice Ap np cp).ownBlock = some i) [(s2, bs)]] (by kernel_rfl) (by kernel_rfl) ?_ ?_
                        · unfold StepS
                          simp only [List.take_succ_cons, List.take_zero, fillA, fillL, List.setIfInBounds_toArray, List.set_cons_succ, List.set_cons_zero, Nat.zero_add, Nat.reduceAdd]
                          refine StepsOk.cons (fun vals w' hb hd K hK => ?_) ?_
                          · go_simp
                            exact hK.out _ _ _ (Below.refl _ _) rfl (by kernel_rfl)
                          refine StepsOk.cons (fun vals w' hb hd K hK => ?_) ?_
                          · have d0 := hd 0 (by decide)
                            simp only [List.getD_cons_zero, List.getD_cons_succ, SP.eq] at d0
                            have hS' := (hTb10.kept hb).cell
                            go_simp
                            exact hK.out _ _ _ (Below.refl _ _) rfl (by simp only [d0, Act.put, List.setIfInBounds_toArray, List.set_cons_succ, List.set_cons_zero])
                          refine StepsOk.cons (fun vals w' hb hd K hK => ?_) ?_
                          · go_simp
                            exact hK.out _ _ _ (Below.refl _ _) rfl (by kernel_rfl)
                          refine StepsOk.cons (fun vals w' hb hd K hK => ?_) ?_
                          · go_simp
                            exact hK.out _ _ _ (Below.refl _ _) rfl (by kernel_rfl)
                          refine StepsOk.cons (fun vals w' hb hd K hK => ?_) ?_
                          · have d3 := hd 3 (by decide)
                            simp only [List.getD_cons_zero, List.getD_cons_succ, SP.eq] at d3
                            go_simp
                            exact hK.out _ _ _ (Below.refl _ _) rfl (by simp only [d3, Act.put, List.setIfInBounds_toArray, List.set_cons_succ, List.set_cons_zero])
                          refine StepsOk.cons (fun vals w' hb hd K hK => ?_) ?_
                          · have d4 := hd 4 (by decide)
                            simp only [List.getD_cons_zero, List.getD_cons_succ, SP.eq] at d4
                            go_simp
                            exact hK.out _ _ _ (Below.refl _ _) rfl (by simp only [d4, Act.put, List.setIfInBounds_toArray, List.set_cons_succ, List.set_cons_zero])
                          refine StepsOk.cons (fun vals w' hb hd K hK => ?_) ?_
                          · have d5 := hd 5 (by decide)
                            simp only [List.getD_cons_zero, List.getD_cons_succ, SP.eq] at d5
                            have hS' := (hB10.kept hb).cell
                            go_simp
                            exact hK.out _ _ _ (Below.refl _ _) rfl (by simp only [d5, Act.put, List.setIfInBounds_toArray, List.set_cons_succ, List.set_cons_zero])
                          refine StepsOk.cons (fun vals w' hb hd K hK => ?_) ?_
                          · go_simp
                            exact hK.out _ _ _ (Below.refl _ _) rfl (by kernel_rfl)
                          refine StepsOk.cons (fun vals w' hb hd K hK => ?_) ?_
                          · have d7 := hd 7 (by decide)
                            simp only [List.getD_cons_zero, List.getD_cons_succ, SP.eq] at d7
                            go_simp
                            exact hK.out _ _ _ (Below.refl _ _) rfl (by simp only [d7, Act.put, List.setIfInBounds_toArray, List.set_cons_succ, List.set_cons_zero])
                          refine StepsOk.cons (fun vals w' hb hd K hK => ?_) ?_
                          · have d8 := hd 8 (by decide)
                            simp only [List.getD_cons_zero, List.getD_cons_succ, SP.eq] at d8
                            go_simp
                            exact hK.out _ _ _ (Below.refl _ _) rfl (by simp only [d8, Act.put, List.setIfInBounds_toArray, List.set_cons_succ, List.set_cons_zero])
                          refine StepsOk.cons (fun vals w' hb hd K hK => ?_) ?_
                          · have d9 := hd 9 (by decide)
                            simp only [List.getD_cons_zero, List.getD_cons_succ, SP.eq] at d9
                            have hS' := (hB10.kept hb).cell
                            go_simp
                            exact hK.out _ _ _ (Below.refl _ _) rfl (by simp only [d9, Act.put, List.setIfInBounds_toArray, List.set_cons_succ, List.set_cons_zero])
                          refine StepsOk.cons (fun vals w' hb hd K hK => ?_) ?_
                          · go_simp
                            exact hK.out _ _ _ (Below.refl _ _) rfl (by kernel_rfl)
                          refine StepsOk.cons (fun vals w' hb hd K hK => ?_) ?_
                          · have d11 := hd 11 (by decide)
                            simp only [List.getD_cons_zero, List.getD_cons_succ, SP.eq] at d11
                            go_simp
                            exact hK.out _ _ _ (Below.refl _ _) rfl (by simp only [d11, Act.put, List.setIfInBounds_toArray, List.set_cons_succ, List.set_cons_zero])
                          refine StepsOk.cons (fun vals w' hb hd K hK => ?_) ?_
                          · have d12 := hd 12 (by decide)
                            simp only [List.getD_cons_zero, List.getD_cons_succ, SP.eq] at d12
                            go_simp
                            exact hK.out _ _ _ (Below.refl _ _) rfl (by simp only [d12, Act.put, List.setIfInBounds_toArray, List.set_cons_succ, List.set_cons_zero])
                          refine StepsOk.cons (fun vals w' hb hd K hK => ?_) ?_
                          · have d13 := hd 13 (by decide)
                            simp only [List.getD_cons_zero, List.getD_cons_succ, SP.eq] at d13
                            have hS' := (hB10.kept hb).cell
                            go_simp
                            exact hK.out _ _ _ (Below.refl _ _) rfl (by simp only [d13, Act.put, List.setIfInBounds_toArray, List.set_cons_succ, List.set_cons_zero])
                          refine StepsOk.cons (fun vals w' hb hd K hK => ?_) ?_
                          · go_simp
                            exact hK.out _ _ _ (Below.refl _ _) rfl (by kernel_rfl)
                          refine StepsOk.cons (fun vals w' hb hd K hK => ?_) ?_
                          · have d14 := hd 14 (by decide)
                            simp only [List.getD_cons_zero, List.getD_cons_succ, SP.eq] at d14
                            have d15 := hd 15 (by decide)
                            simp only [List.getD_cons_zero, List.getD_cons_succ, SP.eq] at d15
                            go_simp
                            exact hK.out _ _ _ (Below.refl _ _) rfl (by simp only [d14, d15, Act.put, List.setIfInBounds_toArray, List.set_cons_succ, List.set_cons_zero])
                          refine StepsOk.cons (fun vals w' hb hd K hK => ?_) ?_
                          · have d6 := hd 6 (by decide)
                            simp only [List.getD_cons_zero, List.getD_cons_succ, SP.eq] at d6
                            have d10 := hd 10 (by decide)
                            simp only [List.getD_cons_zero, List.getD_cons_succ, SP.eq] at d10
                            have d16 := hd 16 (by decide)
                            simp only [List.getD_cons_zero, List.getD_cons_succ, SP.eq] at d16
                            have f1 : (0 : Int) ≤ (a5 : Int) + (N : Int) := by omega
                            have f2 : (a5 : Int) + (N : Int) ≤ (cb : Int) := by omega
                            have f3 : ((a5 : Int) + (N : Int)).toNat = a5 + N := by omega
                            have f4 : a5 ≤ a5 + N := by omega
                            have f5 : a5 + N - a5 = N := by omega
                            go_simp
                            rw [HAs.out]
                            exact hK.out _ _ _ (Below.refl _ _) rfl (by simp only [d6, d10, d16, Act.put, List.setIfInBounds_toArray, List.set_cons_succ, List.set_cons_zero])
                          refine StepsOk.cons (fun vals w' hb hd K hK => ?_) ?_
                          · have d17 := hd 17 (by decide)
                            simp only [List.getD_cons_zero, List.getD_cons_succ, SP.eq] at d17
                            go_simp
                            go_at_call 96
                            refine (clone_b As N (cb - a5) _ _ (HRs.out _ hb) (one_b _) (by omega)).mono ?_
                            rintro e wc ⟨vc, rfl, hoc, hbc⟩
                            exact hK.out _ _ _ hbc (RowP.own hoc HLen.out.symm rfl) (by simp only [d17, Act.put, List.setIfInBounds_toArray, List.set_cons_succ, List.set_cons_zero])
                          refine StepsOk.cons (fun vals w' hb hd K hK => ?_) ?_
                          · have d2 := hd 2 (by decide)
                            simp only [List.getD_cons_zero, List.getD_cons_succ, SP.eq] at d2
                            have d18 := hd 18 (by decide)
                            simp only [List.getD_cons_zero, List.getD_cons_succ, SP.eq] at d18
                            obtain ⟨Ac, cc, hvc, hd18⟩ := id d18
                            rw [hvc] at d18
                            go_simp
                            exact hK.out _ _ _ (Below.refl _ _) (PrP.mk (by unfold maxLen; omega) hbok d18) (by simp only [d2, hvc, Act.put, List.setIfInBounds_toArray, List.set_cons_succ, List.set_cons_zero])
                          refine StepsOk.cons (fun vals w' hb hd K hK => ?_) ?_
                          · have d19 := hd 19 (by decide)
                            simp only [List.getD_cons_zero, List.getD_cons_succ, SP.eq] at d19
                            obtain ⟨Ac, cc, hv, hp⟩ := d19.cells
                            go_simp
                            exact hK.out _ _ _ (bal (Below.refl _ _) _) (PsP.fresh _ [(s2, bs)] [_] _ _ 1 ⟨hp, trivial⟩ rfl rfl rfl (by decide) (fun i hi => Nat.lt_of_lt_of_le (hXp i hi) hb.size)) (by simp only [hv, Act.put, List.setIfInBounds_toArray, List.set_cons_succ, List.set_cons_zero])
                          exact StepsOk.nil
                        · intro vals wd hbd hd
                          have d1 := hd 1 (by decide)
                          have d20 := hd 20 (by decide)
                          simp only [List.getD_cons_zero, List.getD_cons_succ, SP.eq] at d1 d20
                          obtain ⟨Az, cz, fz, hvz, _⟩ := id d20
                          simp only [List.length_cons, List.length_nil, Nat.zero_add] at hvz
                          have hPd := hPs10.turn (X := fun _ => False) (Same.of_below hbd) (fun i hi => hbd.block i (hPs10.lt hi).2)
                          have hKd := hKs10.kept hbd
                          have hzd := hbd.size
                          obtain ⟨v21, w21, A21, c21, hr21, hP21, hb21, hg21, hv21, hl21⟩ := hPd.app 22 (by omega) d20 (by rw [HNp.out]; omega)
                          rw [hvz] at hr21
                          have hBd := hB10.kept hbd
                          have hB21 := hBd.same (hb21.block g (by omega))
                          have hT21 := (hTb10.kept hbd).same (hb21.block bt (by omega))
                          have hR21 := (hRb10.kept hbd).same (hb21.block w.heap.size (by omega))
                          rw [List.length_append, HNp.out] at hv21
                          simp only [List.length_cons, List.length_nil, Nat.zero_add] at hv21
                          subst hv21
                          have hK21 := hKd.beside (X' := fun i => i < bt + 1 ∨ (Value.slice A21 (np + 1) c21).ownBlock = some i) (Same.grown (X := fun i => i < bt + 1 ∨ (Value.slice Ap np cp).ownBlock = some i) hPd.choose_spec.1 (by decide) (fun i hi => .inr hi) hg21) (fun i hi => hg21.block i (hKd.lt hi).2 (fun e => by
                            obtain ⟨xs, ho, _⟩ := hKd
                            exact own_own_ne hPd.choose_spec.1 ho (by decide) i e.symm hi)) (fun i hi => by
                            rcases hi with h | h
                            · exact .inl (.inl h)
                            · rcases hl21 with e | e
                              · exact .inl (.inr (e ▸ h))
                              · rw [e] at h
                                simp only [Option.some.injEq] at h
                                exact .inr (by omega))
                          simp only [List.drop_succ_cons, List.drop_zero, fillA, fillL, List.setIfInBounds_toArray, List.set_cons_succ, List.set_cons_zero, Nat.zero_add, Nat.reduceAdd, d1, hvz]
                          clear hd
                          refine wpList_apr rfl (.tmp 69) (.tmp 88) rfl rfl rfl hr21 ?_
                          have cT21 := hT21.cell
                          have fT21 := hT21.frozen
                          have hgb : g < bt := by omega
                          have hzb := hb21.size
                          have hN21 : Near (fun i => i = g) w w21 := (hN10.trans (Near.of_below _ hbd)).step (S2 := fun i => bt + 1 ≤ i) ⟨hb21.os, hb21.tape, hb21.output, hb21.size, fun i hi hn => hb21.block i (by omega)⟩ (fun i hi => .inr (by omega))
                          have hT22 : Blk (w21.setCell ⟨bt, 1, none⟩ (.slice A21 (np + 1) c21)) bt 25 #[.string (strOfNums nm), .slice A21 (np + 1) c21, .slice Ak nk ck] := hT21.set_ 1 _
                          have hB22 := hB21.far (p := ⟨bt, 1, none⟩) (by show g ≠ bt; omega) (.slice A21 (np + 1) c21)
                          have hR22 := hR21.far (p := ⟨bt, 1, none⟩) (by show w.heap.size ≠ bt; omega) (.slice A21 (np + 1) c21)
                          have hP22 := hP21.turn (Same.set_in (X := fun i => i = bt) hT21 (by decide) rfl 1 (.slice A21 (np + 1) c21)) (fun i hi => Below.heap_setCell _ _ _ _ (by have := (hP21.lt hi).1; show i ≠ bt; omega))
                          have hK22 := hK21.turn (Same.set_in (X := fun i => i < bt + 1 ∨ (Value.slice A21 (np + 1) c21).ownBlock = some i) hT21 (by decide) (.inl (by omega)) 1 (.slice A21 (np + 1) c21)) (fun i hi => Below.heap_setCell _ _ _ _ (by have := (hK21.lt hi).1; show i ≠ bt; omega))
                          have hN22 : Near (fun i => i = g) w (w21.setCell ⟨bt, 1, none⟩ (.slice A21 (np + 1) c21)) := hN21.step ((Near.refl (fun i => i = bt) _).setCell (p := ⟨bt, 1, none⟩) rfl _) (fun i hi => .inr (by omega))
                          have hz22 : (w21.setCell ⟨bt, 1, none⟩ (.slice A21 (np + 1) c21)).heap.size = w21.heap.size := by simp
                          have HUp2 := Lib.hid (up_yes ⟨g, some ⟨b1, o1, none⟩, nb, cb, Ax, nx, cx⟩ a5 N l2 _ hB22 (by show a5 + N ≤ nb; omega) mb)
                          simp only [Rdr.cs] at HUp2
                          go_wp2_with (go_at_call 95; refine HUp2.out.mono ?_; rintro e wv ⟨rfl, hBv, hnv⟩)
                          have hzv := hnv.size
                          have hTv := hT22.same (hnv.block bt hT22.lt (by omega))
                          have hRv := hR22.same (hnv.block w.heap.size hR22.lt (by omega))
                          have hPv := hP22.turn (same_near (X := fun i => i = g) hnv hB22 rfl) (fun i hi => hnv.block i (hP22.lt hi).2 (by have := (hP22.lt hi).1; omega))
                          have hKv := hK22.turn (same_near (X := fun i => i < bt + 1 ∨ (Value.slice A21 (np + 1) c21).ownBlock = some i) hnv hB22 (.inl (by show g < bt + 1; omega))) (fun i hi => hnv.block i (hK22.lt hi).2 (by have := (hK22.lt hi).1; omega))
                          have hNv := hN22.trans hnv
                          obtain ⟨f', hf'⟩ : ∃ f', f = f' + 1 := ⟨f - 1, by have := HM.out.fuel; omega⟩
                          have HMn := Lib.hid (show Mid ⟨g, some ⟨b1, o1, none⟩, nb, cb, Ax, nx, cx⟩ b x nm d B (bt + 1) bt w.heap.size F0 f' (ps ++ [(s2, bs)]) ks (a5 + up4 N) l2 (.slice A21 (np + 1) c21) (.slice Ak nk ck) w wv from
                            ⟨by
                              have h1 := HM.out.spec
                              rw [hf', itemsP_prop HY4.out HY8.out HY12.out HTp.out (by rw [HA5.out]; exact hlong), HA5.out, HS2.out] at h1
                              rw [← h1]
                              show _ = itemsP (nodeP b x d) b x f' (ps ++ [(s2, (b.drop a5).take N)]) ks (a5 + up4 N) l2
                              rw [HBs.out],
                             by have := HM.out.fuel; have := HA5.out; omega,
                             by have := HM.out.few; rw [List.length_append]; simp only [List.length_cons, List.length_nil]; omega,
                             by have h4N : up4 N ≤ N + 3 := (by unfold up4; omega)
                                omega,
                             HM.out.lfew, hTv, hRv, hPv, hKv, hBv, hNv, by omega⟩)
                          have cR : wv.cell? ⟨g, 2, none⟩ = some (.int .i64 ((a5 + up4 N : Nat) : Int)) := hBv.cell 2
                          have cW : wr.cell? ⟨g, 2, none⟩ = some (.int .i64 (a2 : Int)) := cB 2
                          have h4N : up4 N ≤ N + 3 := by unfold up4; omega
                          have hlt : 50000 - (a5 + up4 N) < 50000 - a2 := by have := HA5.out; omega
                          go_roundw
                          case rel => exact ⟨f', _, _, _, _, _, _, HMn.out⟩
                          case measure => rw [cR, cW]; simp only [atC, Int.toNat_natCast]; exact hlt
                      · have e7 : decide ((N : Int) ≤ (nb : Int) - (a5 : Int)) = false := decide_eq_false (by omega)
                        refine wpAnyH_take (i := 11) (v := ?vxf11) rfl (by kernel_rfl) (by kernel_rfl) (by kernel_rfl) (fun _ _ _ h => h) (Or.inl ⟨by kernel_rfl, ?hyxf11⟩) hS3 ?restxf11
                        case hyxf11 =>
                          intro w hSw
                          clear hSw
                          go_simp
                          first | done | with_reducible rfl
                        (try simp only [List.getElem_toArray, List.getElem_cons_succ, List.getElem_cons_zero, Act.put, List.setIfInBounds_toArray, List.set_cons_zero, List.set_cons_succ])
                        refine wpAnyH_call (i := 12) (by kernel_rfl) rfl (by kernel_rfl) fun K hK => ?_
                        simp only [List.getElem_toArray, List.getElem_cons_succ, List.getElem_cons_zero]
                        go_simp
                        go_at_call 63
                        refine (must_no _).mono ?_
                        rintro e w10 ⟨rfl, rfl⟩
                        exact ⟨rfl, RNode.no (HNn.out (HM.out.spec.symm.trans (itemsP_long HY4.out HY8.out HY12.out HTp.out (by rw [HA5.out]; exact hlong)))) (hN9.trans (Near.of_below _ (Below.refl _ _).drew))⟩
                  · refine wpAnyH_call (i := 5) (by kernel_rfl) rfl (by kernel_rfl) fun K hK => ?_
                    simp only [List.getElem_toArray, List.getElem_cons_succ, List.getElem_cons_zero]
                    go_simp
                    go_at_call 64
                    refine (four_no ⟨g, some ⟨b1, o1, none⟩, nb, cb, Ax, nx, cx⟩ b x B a4 l2 w8.drew (hR8.below hb8d) hB8.drew (by show B ≤ w8.heap.size; omega) h12 (by omega)).mono ?_
                    rintro e w9 ⟨rfl, hn9⟩
                    have e48 : a4 = a2 + 8 := by have := HA3.out; have := HA4.out; omega
                    exact ⟨rfl, RNode.no (HNn.out (HM.out.spec.symm.trans (itemsP_p HY4.out HY8.out (by rw [← e48]; exact four4_no h12)))) (HM.out.near.trans ((hn8x.trans (Near.of_below _ (Below.refl _ _).drew)).trans hn9))⟩
                · have HF8 := Lib.hid (four_no ⟨g, some ⟨b1, o1, none⟩, nb, cb, Ax, nx, cx⟩ b x B a3 l2 w5 hR5 hB5 (by omega) h8 (by omega))
                  go_wp2_with (go_at_call 64; refine HF8.out.mono ?_; rintro e w8 ⟨rfl, hn8⟩)
                  exact ⟨rfl, RNode.no (HNn.out (HM.out.spec.symm.trans (itemsP_n HY4.out (by rw [HA3.out]; exact four4_no h8)))) (HM.out.near.trans (hn5.trans hn8))⟩
              · by_cases y1 : y = 1
                · subst y1
                  clear hM
                  go_upto_region 14 with (go_at_call 64; refine HF5.out.mono ?_; rintro e w5 ⟨rfl, hB5, hn5⟩)
                  have hn5 : Near (fun i => i = g) wr w5 := hn5
                  have hbl5 : Below B wr w5 := hn5.below (fun i hi => by omega) hBr
                  have hR5 := hR.below hbl5
                  have hz5 := hn5.size
                  clear HF5
                  have hgbt : g < bt := by omega
                  have hTb := (HM.out.box.same (hn5.block bt HM.out.box.lt (by omega))).drew
                  have hRb := (HM.out.res.same (hn5.block _ HM.out.res.lt (by omega))).drew
                  have hsm := same_near (X := fun i => i < bt + 1 ∨ vps.ownBlock = some i) hn5 HM.out.rdr (.inl (by show g < bt + 1; omega))
                  have hbd : Below w5.heap.size w5 w5.drew := (Below.refl _ _).drew
                  have hPs := (HM.out.ps.turn hsm (fun i hi => hn5.block i (HM.out.ps.lt hi).2 (by have := (HM.out.ps.lt hi).1; omega))).turn (X := fun _ => False) (Same.of_below hbd) (fun _ _ => rfl)
                  have hKs := (HM.out.ks.turn hsm (fun i hi => hn5.block i (HM.out.ks.lt hi).2 (by have := (HM.out.ks.lt hi).1; omega))).kept hbd
                  have hN5 := (HM.out.near.trans hn5).trans (Near.of_below _ hbd)
                  have hR6 := hR5.below (hbd.mono (show B ≤ w5.heap.size by omega))
                  have hB6 := hB5.drew
                  have hz6 : w5.drew.heap.size = w5.heap.size := rfl
                  clear hsm hbl5 hR5
                  obtain ⟨Ak, ck, hvk⟩ : ∃ A c, vks = .slice A ks.length c := by
                    obtain ⟨xs, h1, _⟩ := hKs
                    obtain ⟨A, c, e, _⟩ := own_slice h1
                    exact ⟨A, c, e⟩
                  subst hvk
                  have hfew := HM.out.few
                  obtain ⟨nk, hnk⟩ : ∃ m, ks.length = m := ⟨_, rfl⟩
                  have HNk := Lib.hid hnk
                  rw [hnk] at hTb hKs hfew
                  clear hnk
                  have hl2 := HM.out.lfew
                  have hIH := Lib.hid (IH.out ⟨g, Ab, nb, cb, Ax, nx, cx⟩ b x B a3 l2 (at_ + 1) w5.drew (by omega) (by omega) hR6 hB6 hBg (by omega) (by omega))
                  have ew : IntKind.i64.wrap (at_ + 1) = at_ + 1 := IntWalk.i64_in _ (by omega)
                  have cTb := hTb.cell
                  have fTb := hTb.frozen
                  refine wp_region_held_drew (S := fun W' : World => True) (by kernel_rfl) trivial (fun hHeld => ?_)
                  clear hHeld
                  refine wpAnyH_take (i := 0) (v := ?vxk0) rfl (by kernel_rfl) (by kernel_rfl) (by kernel_rfl) (fun _ _ _ h => h) (Or.inl ⟨by kernel_rfl, ?hyxk0⟩) trivial ?restxk0
                  case hyxk0 =>
                    intro w hSw
                    clear hSw
                    go_simp
                    first | done | with_reducible rfl
                  (try simp only [List.getElem_toArray, List.getElem_cons_succ, List.getElem_cons_zero, Act.put, List.setIfInBounds_toArray, List.set_cons_zero, List.set_cons_succ])
                  refine wpAnyH_take (i := 2) (v := ?vxk2) rfl (by kernel_rfl) (by kernel_rfl) (by kernel_rfl) (fun _ _ _ h => h) (Or.inl ⟨by kernel_rfl, ?hyxk2⟩) trivial ?restxk2
                  case hyxk2 =>
                    intro w hSw
                    clear hSw
                    go_simp
                    first | done | with_reducible rfl
                  (try simp only [List.getElem_toArray, List.getElem_cons_succ, List.getElem_cons_zero, Act.put, List.setIfInBounds_toArray, List.set_cons_zero, List.set_cons_succ])
                  refine wpAnyH_take (i := 3) (v := ?vxk3) rfl (by kernel_rfl) (by kernel_rfl) (by kernel_rfl) (fun _ _ _ h => h) (Or.inl ⟨by kernel_rfl, ?hyxk3⟩) trivial ?restxk3
                  case hyxk3 =>
                    intro w hSw
                    clear hSw
                    go_simp
                    first | done | with_reducible rfl
                  (try simp only [List.getElem_toArray, List.getElem_cons_succ, List.getElem_cons_zero, Act.put, List.setIfInBounds_toArray, List.set_cons_zero, List.set_cons_succ])
                  refine wpAnyH_take (i := 4) (v := ?vxk4) rfl (by kernel_rfl) (by kernel_rfl) (by kernel_rfl) (fun _ _ _ h => h) (Or.inl ⟨by kernel_rfl, ?hyxk4⟩) trivial ?restxk4
                  case hyxk4 =>
                    intro w hSw
                    clear hSw
                    go_simp
                    first | done | with_reducible rfl
                  (try simp only [List.getElem_toArray, List.getElem_cons_succ, List.getElem_cons_zero, Act.put, List.setIfInBounds_toArray, List.set_cons_zero, List.set_cons_succ])
                  refine wpAnyH_all (rs := [1, 5]) (by kernel_rfl) (by simp) fun j hj => ?_
                  have hj2 : j = 1 ∨ j = 5 := by simpa using hj
                  clear hj
                  rcases hj2 with rfl | rfl
                  · refine wpOp_do rfl (by kernel_rfl) fun K hK => ?_
                    simp only [List.getElem_toArray, List.getElem_cons_succ, List.getElem_cons_zero]
                    go_simp
                    refine hK.out _ _ trivial ?_
                    clear hK K
                    (try simp only [List.getElem_toArray, List.getElem_cons_succ, List.getElem_cons_zero, Act.put, List.setIfInBounds_toArray, List.set_cons_zero, List.set_cons_succ])
                    refine wpAnyH_call (i := 5) (by kernel_rfl) rfl (by kernel_rfl) fun K hK => ?_
                    simp only [List.getElem_toArray, List.getElem_cons_succ, List.getElem_cons_zero]
                    go_simp
                    go_at_call 65
                    refine hIH.out.mono ?_
                    rintro e w7 hr7
                    clear hIH cTb fTb
                    unfold RNode at hr7
                    rcases hnp : nodeP b x d a3 l2 with _ | ⟨t, a', l'⟩
                    · rw [hnp] at hr7
                      obtain ⟨rfl, hn7⟩ := hr7
                      exact ⟨rfl, RNode.no (HNn.out (HM.out.spec.symm.trans (itemsP_kid0 HY4.out (by rw [HA3.out]; exact hnp)))) (hN5.trans hn7)⟩
                    rw [hnp] at hr7
                    obtain ⟨s7, A1, n1, c1, A2, n2, c2, k7, rfl, hX7, hB7, hn7⟩ := hr7
                    have hnp7 := nodeP_at _ _ _ _ _ _ hnp
                    have hnl7 := nodeP_less _ _ _ _ _ _ hnp
                    have HNp7 := Lib.hid hnp
                    clear hnp
                    have hn7 : Near (fun i => i = g) w5.drew w7 := hn7
                    have hB7 : Blk w7 g 135 #[.slice Ab nb cb, .slice Ax nx cx, .int .i64 a', .int .i64 l'] := hB7
                    have hz7 := hn7.size
                    have hT7 := hTb.same (hn7.block bt hTb.lt (by omega))
                    have hR7 := hRb.same (hn7.block w.heap.size hRb.lt (by omega))
                    have hP7 := hPs.turn (same_near (X := fun i => i = g) hn7 hB6 rfl) (fun i hi => hn7.block i (hPs.lt hi).2 (by have := (hPs.lt hi).1; omega))
                    have hK7 := hKs.turn (same_near (X := fun i => i < bt + 1 ∨ vps.ownBlock = some i) hn7 hB6 (.inl (by show g < bt + 1; omega))) (fun i hi => hn7.block i (hKs.lt hi).2 (by have := (hKs.lt hi).1; omega))
                    have hXs : ∀ i, (((i < bt + 1 ∨ vps.ownBlock = some i)) ∨ (Value.slice Ak nk ck).ownBlock = some i) → i < w5.drew.heap.size := fun i hi => by
                      rcases hi with (hi | hi) | hi
                      · rw [hz6]; have := HM.out.size; omega
                      · exact (hPs.lt hi).2
                      · exact (hKs.lt hi).2
                    have hX7' := hX7.less (Y := fun i => ((i < bt + 1 ∨ vps.ownBlock = some i)) ∨ (Value.slice Ak nk ck).ownBlock = some i) hXs
                    have hN7 := hN5.trans hn7
                    refine hK.out _ _ trivial ?_
                    clear hK K
                    (try simp only [List.getElem_toArray, List.getElem_cons_succ, List.getElem_cons_zero, Act.put, List.setIfInBounds_toArray, List.set_cons_zero, List.set_cons_succ])
                    clear hTb hRb hPs hKs hN5 hB6 hn5 hX7
                    refine wpAnyH_call (i := 6) (by kernel_rfl) rfl (by kernel_rfl) fun K hK => ?_
                    simp only [List.getElem_toArray, List.getElem_cons_succ, List.getElem_cons_zero]
                    go_simp
                    have hba := bal (Below.refl w7.heap.size w7) (.cells #[.string s7, .slice A1 n1 c1, .slice A2 n2 c2] 25)
                    have hT8 := hT7.kept hba
                    have hx8 := TsP.fresh w7 [t] [_] #[.string s7, .slice A1 n1 c1, .slice A2 n2 c2] _ 1 ⟨⟨_, hX7'⟩, trivial⟩ rfl rfl rfl (by decide) (fun i hi => Nat.lt_of_lt_of_le (hXs i hi) hz7)
                    have hR8 := hR7.kept hba
                    have hB8 := hB7.kept hba
                    have hP8 := hP7.turn (X := fun _ => False) (Same.of_below hba) (fun i hi => hba.block i (hP7.lt hi).2)
                    have hK8 := hK7.kept hba
                    have hN8 := hN7.trans (Near.of_below _ hba)
                    have hz8 : (w7.alloc (.cells #[.string s7, .slice A1 n1 c1, .slice A2 n2 c2] 25)).heap.size = w7.heap.size + 1 := by simp
                    have hbs := HM.out.size
                    obtain ⟨v9, w9, A9, c9, hr9, hK9, hb9, hg9, hv9⟩ := hK8.app2 23 (by omega) hx8 (by rw [HNk.out]; omega)
                    rw [List.length_append, HNk.out] at hv9
                    simp only [List.length_cons, List.length_nil, Nat.zero_add] at hv9
                    subst hv9
                    refine hK.out _ _ trivial ?_
                    clear hK K
                    (try simp only [List.getElem_toArray, List.getElem_cons_succ, List.getElem_cons_zero, Act.put, List.setIfInBounds_toArray, List.set_cons_zero, List.set_cons_succ])
                    generalize w7.alloc (.cells #[.string s7, .slice A1 n1 c1, .slice A2 n2 c2] 25) = w8 at *
                    clear hba hX7'
                    refine wpAnyH_call (i := 7) (by kernel_rfl) rfl (by kernel_rfl) fun K hK => ?_
                    simp only [List.getElem_toArray, List.getElem_cons_succ, List.getElem_cons_zero]
                    refine Lib.wp_append_run _ (.tmp 97) (.tmp 102) _ _ rfl (.slice Ak nk ck) (.slice (some ⟨w7.heap.size, 0, none⟩) 1 1) rfl rfl _ _ hr9 ?_
                    refine hK.out _ _ trivial ?_
                    clear hK K
                    (try simp only [List.getElem_toArray, List.getElem_cons_succ, List.getElem_cons_zero, Act.put, List.setIfInBounds_toArray, List.set_cons_zero, List.set_cons_succ])
                    have hzb9 := hb9.size
                    have hT9 := hT8.same (hb9.block bt (by omega))
                    have hR9 := hR8.same (hb9.block w.heap.size (by omega))
                    have hB9 := hB8.same (hb9.block g (by omega))
                    have hP9 := hP8.turn (Same.grown (X := fun i => (Value.slice Ak nk ck).ownBlock = some i) hK8.choose_spec.1 (by decide) (fun i hi => hi) hg9) (fun i hi => hg9.block i (hP8.lt hi).2 (fun e => by
                      obtain ⟨css, ho, _⟩ := hP8
                      exact own_own_ne hK8.choose_spec.1 ho (by decide) i e.symm hi))
                    have hN9 : Near (fun i => i = g) w w9 := hN8.step (S2 := fun i => bt + 1 ≤ i) ⟨hb9.os, hb9.tape, hb9.output, hb9.size, fun i hi hn => hb9.block i (by omega)⟩ (fun i hi => .inr (by omega))
                    clear hT8 hR8 hB8 hP8 hK8 hN8 hg9 hT7 hR7 hB7 hP7 hK7 hN7 hn7 hx8 hr9
                    have cT9 := hT9.cell
                    have fT9 := hT9.frozen
                    refine wpAnyH_take (i := 8) (v := ?vxka8) rfl (by kernel_rfl) (by kernel_rfl) (by kernel_rfl) (fun _ _ _ h => h) (Or.inl ⟨by kernel_rfl, ?hyxka8⟩) trivial ?restxka8
                    case hyxka8 =>
                      intro w hSw
                      clear hSw
                      go_simp
                      first | done | with_reducible rfl
                    (try simp only [List.getElem_toArray, List.getElem_cons_succ, List.getElem_cons_zero, Act.put, List.setIfInBounds_toArray, List.set_cons_zero, List.set_cons_succ])
                    refine wpAnyH_call (i := 9) (by kernel_rfl) rfl (by kernel_rfl) fun K hK => ?_
                    simp only [List.getElem_toArray, List.getElem_cons_succ, List.getElem_cons_zero]
                    go_simp
                    refine hK.out _ _ trivial ?_
                    clear hK K
                    (try simp only [List.getElem_toArray, List.getElem_cons_succ, List.getElem_cons_zero, Act.put, List.setIfInBounds_toArray, List.set_cons_zero, List.set_cons_succ])
                    refine wpAnyH_done (by kernel_rfl) ?_ _
                    have hTv : Blk (w9.setCell ⟨bt, 2, none⟩ (.slice A9 (nk + 1) c9)) bt 25 #[.string (strOfNums nm), vps, .slice A9 (nk + 1) c9] := hT9.set_ 2 _
                    have hBv := hB9.far (p := ⟨bt, 2, none⟩) (by show g ≠ bt; omega) (.slice A9 (nk + 1) c9)
                    have hRv := hR9.far (p := ⟨bt, 2, none⟩) (by show w.heap.size ≠ bt; omega) (.slice A9 (nk + 1) c9)
                    have hPv := hP9.turn (Same.set_in (X := fun i => i = bt) hT9 (by decide) rfl 2 (.slice A9 (nk + 1) c9)) (fun i hi => Below.heap_setCell _ _ _ _ (by have := (hP9.lt hi).1; show i ≠ bt; omega))
                    have hKv := hK9.turn (Same.set_in (X := fun i => i < bt + 1 ∨ vps.ownBlock = some i) hT9 (by decide) (.inl (by omega)) 2 (.slice A9 (nk + 1) c9)) (fun i hi => Below.heap_setCell _ _ _ _ (by have := (hK9.lt hi).1; show i ≠ bt; omega))
                    have hNv : Near (fun i => i = g) w (w9.setCell ⟨bt, 2, none⟩ (.slice A9 (nk + 1) c9)) := hN9.step ((Near.refl (fun i => i = bt) _).setCell (p := ⟨bt, 2, none⟩) rfl _) (fun i hi => .inr (by omega))
                    have hzv : (w9.setCell ⟨bt, 2, none⟩ (.slice A9 (nk + 1) c9)).heap.size = w9.heap.size := by simp
                    obtain ⟨f', hf'⟩ : ∃ f', f = f' + 1 := ⟨f - 1, by have := HM.out.fuel; omega⟩
                    have HMn := Lib.hid (show Mid ⟨g, Ab, nb, cb, Ax, nx, cx⟩ b x nm d B (bt + 1) bt w.heap.size F0 f' ps (ks ++ [t]) a' l' vps (.slice A9 (nk + 1) c9) w _ from
                      ⟨by
                        have h1 := HM.out.spec
                        rw [hf', itemsP_kid HY4.out, HA3.out, HNp7.out] at h1
                        exact h1,
                       by have := HM.out.fuel; have := HA3.out; omega,
                       by have := HM.out.few; rw [List.length_append]; simp only [List.length_cons, List.length_nil]; omega,
                       by omega, by omega,
                       hTv, hRv, hPv, hKv, hBv, hNv, by omega⟩)
                    have cR : (w9.setCell ⟨bt, 2, none⟩ (.slice A9 (nk + 1) c9)).cell? ⟨g, 2, none⟩ = some (.int .i64 (a' : Int)) := hBv.cell 2
                    have cW : wr.cell? ⟨g, 2, none⟩ = some (.int .i64 (a2 : Int)) := cB 2
                    have hlt : 50000 - a' < 50000 - a2 := by have := HA3.out; omega
                    go_wp2_with fail
                    go_roundw
                    case rel => exact ⟨f', _, _, _, _, _, _, HMn.out⟩
                    case measure => rw [cR, cW]; simp only [atC, Int.toNat_natCast]; exact hlt
                  · refine wpOp_do rfl (by kernel_rfl) fun K hK => ?_
                    simp only [List.getElem_toArray, List.getElem_cons_succ, List.getElem_cons_zero]
                    go_simp
                    go_at_call 65
                    refine hIH.out.mono ?_
                    rintro e w7 hr7
                    clear hIH cTb fTb
                    unfold RNode at hr7
                    rcases hnp : nodeP b x d a3 l2 with _ | ⟨t, a', l'⟩
                    · rw [hnp] at hr7
                      obtain ⟨rfl, hn7⟩ := hr7
                      exact ⟨rfl, RNode.no (HNn.out (HM.out.spec.symm.trans (itemsP_kid0 HY4.out (by rw [HA3.out]; exact hnp)))) (hN5.trans hn7)⟩
                    rw [hnp] at hr7
                    obtain ⟨s7, A1, n1, c1, A2, n2, c2, k7, rfl, hX7, hB7, hn7⟩ := hr7
                    have hnp7 := nodeP_at _ _ _ _ _ _ hnp
                    have hnl7 := nodeP_less _ _ _ _ _ _ hnp
                    have HNp7 := Lib.hid hnp
                    clear hnp
                    have hn7 : Near (fun i => i = g) w5.drew w7 := hn7
                    have hB7 : Blk w7 g 135 #[.slice Ab nb cb, .slice Ax nx cx, .int .i64 a', .int .i64 l'] := hB7
                    have hz7 := hn7.size
                    have hT7 := hTb.same (hn7.block bt hTb.lt (by omega))
                    have hR7 := hRb.same (hn7.block w.heap.size hRb.lt (by omega))
                    have hP7 := hPs.turn (same_near (X := fun i => i = g) hn7 hB6 rfl) (fun i hi => hn7.block i (hPs.lt hi).2 (by have := (hPs.lt hi).1; omega))
                    have hK7 := hKs.turn (same_near (X := fun i => i < bt + 1 ∨ vps.ownBlock = some i) hn7 hB6 (.inl (by show g < bt + 1; omega))) (fun i hi => hn7.block i (hKs.lt hi).2 (by have := (hKs.lt hi).1; omega))
                    have hXs : ∀ i, (((i < bt + 1 ∨ vps.ownBlock = some i)) ∨ (Value.slice Ak nk ck).ownBlock = some i) → i < w5.drew.heap.size := fun i hi => by
                      rcases hi with (hi | hi) | hi
                      · rw [hz6]; have := HM.out.size; omega
                      · exact (hPs.lt hi).2
                      · exact (hKs.lt hi).2
                    have hX7' := hX7.less (Y := fun i => ((i < bt + 1 ∨ vps.ownBlock = some i)) ∨ (Value.slice Ak nk ck).ownBlock = some i) hXs
                    have hN7 := hN5.trans hn7
                    refine hK.out _ _ trivial ?_
                    clear hK K
                    (try simp only [List.getElem_toArray, List.getElem_cons_succ, List.getElem_cons_zero, Act.put, List.setIfInBounds_toArray, List.set_cons_zero, List.set_cons_succ])
                    clear hTb hRb hPs hKs hN5 hB6 hn5 hX7
                    have cT7 := hT7.cell
                    have fT7 := hT7.frozen
                    refine wpAnyH_all (rs := [1, 6]) (by kernel_rfl) (by simp) fun j hj => ?_
                    have hj2 : j = 1 ∨ j = 6 := by simpa using hj
                    clear hj
                    rcases hj2 with rfl | rfl
                    · refine wpOp_do rfl (by kernel_rfl) fun K hK => ?_
                      simp only [List.getElem_toArray, List.getElem_cons_succ, List.getElem_cons_zero]
                      go_simp
                      refine hK.out _ _ trivial ?_
                      clear hK K
                      (try simp only [List.getElem_toArray, List.getElem_cons_succ, List.getElem_cons_zero, Act.put, List.setIfInBounds_toArray, List.set_cons_zero, List.set_cons_succ])
                      clear cT7 fT7
                      refine wpAnyH_call (i := 6) (by kernel_rfl) rfl (by kernel_rfl) fun K hK => ?_
                      simp only [List.getElem_toArray, List.getElem_cons_succ, List.getElem_cons_zero]
                      go_simp
                      have hba := bal (Below.refl w7.heap.size w7) (.cells #[.string s7, .slice A1 n1 c1, .slice A2 n2 c2] 25)
                      have hT8 := hT7.kept hba
                      have hx8 := TsP.fresh w7 [t] [_] #[.string s7, .slice A1 n1 c1, .slice A2 n2 c2] _ 1 ⟨⟨_, hX7'⟩, trivial⟩ rfl rfl rfl (by decide) (fun i hi => Nat.lt_of_lt_of_le (hXs i hi) hz7)
                      have hR8 := hR7.kept hba
                      have hB8 := hB7.kept hba
                      have hP8 := hP7.turn (X := fun _ => False) (Same.of_below hba) (fun i hi => hba.block i (hP7.lt hi).2)
                      have hK8 := hK7.kept hba
                      have hN8 := hN7.trans (Near.of_below _ hba)
                      have hz8 : (w7.alloc (.cells #[.string s7, .slice A1 n1 c1, .slice A2 n2 c2] 25)).heap.size = w7.heap.size + 1 := by simp
                      have hbs := HM.out.size
                      obtain ⟨v9, w9, A9, c9, hr9, hK9, hb9, hg9, hv9⟩ := hK8.app2 23 (by omega) hx8 (by rw [HNk.out]; omega)
                      rw [List.length_append, HNk.out] at hv9
                      simp only [List.length_cons, List.length_nil, Nat.zero_add] at hv9
                      subst hv9
                      refine hK.out _ _ trivial ?_
                      clear hK K
                      (try simp only [List.getElem_toArray, List.getElem_cons_succ, List.getElem_cons_zero, Act.put, List.setIfInBounds_toArray, List.set_cons_zero, List.set_cons_succ])
                      generalize w7.alloc (.cells #[.string s7, .slice A1 n1 c1, .slice A2 n2 c2] 25) = w8 at *
                      clear hba hX7'
                      refine wpAnyH_call (i := 7) (by kernel_rfl) rfl (by kernel_rfl) fun K hK => ?_
                      simp only [List.getElem_toArray, List.getElem_cons_succ, List.getElem_cons_zero]
                      refine Lib.wp_append_run _ (.tmp 97) (.tmp 102) _ _ rfl (.slice Ak nk ck) (.slice (some ⟨w7.heap.size, 0, none⟩) 1 1) rfl rfl _ _ hr9 ?_
                      refine hK.out _ _ trivial ?_
                      clear hK K
                      (try simp only [List.getElem_toArray, List.getElem_cons_succ, List.getElem_cons_zero, Act.put, List.setIfInBounds_toArray, List.set_cons_zero, List.set_cons_succ])
                      have hzb9 := hb9.size
                      have hT9 := hT8.same (hb9.block bt (by omega))
                      have hR9 := hR8.same (hb9.block w.heap.size (by omega))
                      have hB9 := hB8.same (hb9.block g (by omega))
                      have hP9 := hP8.turn (Same.grown (X := fun i => (Value.slice Ak nk ck).ownBlock = some i) hK8.choose_spec.1 (by decide) (fun i hi => hi) hg9) (fun i hi => hg9.block i (hP8.lt hi).2 (fun e => by
                        obtain ⟨css, ho, _⟩ := hP8
                        exact own_own_ne hK8.choose_spec.1 ho (by decide) i e.symm hi))
                      have hN9 : Near (fun i => i = g) w w9 := hN8.step (S2 := fun i => bt + 1 ≤ i) ⟨hb9.os, hb9.tape, hb9.output, hb9.size, fun i hi hn => hb9.block i (by omega)⟩ (fun i hi => .inr (by omega))
                      clear hT8 hR8 hB8 hP8 hK8 hN8 hg9 hT7 hR7 hB7 hP7 hK7 hN7 hn7 hx8 hr9
                      have cT9 := hT9.cell
                      have fT9 := hT9.frozen
                      refine wpAnyH_take (i := 8) (v := ?vxkb8) rfl (by kernel_rfl) (by kernel_rfl) (by kernel_rfl) (fun _ _ _ h => h) (Or.inl ⟨by kernel_rfl, ?hyxkb8⟩) trivial ?restxkb8
                      case hyxkb8 =>
                        intro w hSw
                        clear hSw
                        go_simp
                        first | done | with_reducible rfl
                      (try simp only [List.getElem_toArray, List.getElem_cons_succ, List.getElem_cons_zero, Act.put, List.setIfInBounds_toArray, List.set_cons_zero, List.set_cons_succ])
                      refine wpAnyH_call (i := 9) (by kernel_rfl) rfl (by kernel_rfl) fun K hK => ?_
                      simp only [List.getElem_toArray, List.getElem_cons_succ, List.getElem_cons_zero]
                      go_simp
                      refine hK.out _ _ trivial ?_
                      clear hK K
                      (try simp only [List.getElem_toArray, List.getElem_cons_succ, List.getElem_cons_zero, Act.put, List.setIfInBounds_toArray, List.set_cons_zero, List.set_cons_succ])
                      refine wpAnyH_done (by kernel_rfl) ?_ _
                      have hTv : Blk (w9.setCell ⟨bt, 2, none⟩ (.slice A9 (nk + 1) c9)) bt 25 #[.string (strOfNums nm), vps, .slice A9 (nk + 1) c9] := hT9.set_ 2 _
                      have hBv := hB9.far (p := ⟨bt, 2, none⟩) (by show g ≠ bt; omega) (.slice A9 (nk + 1) c9)
                      have hRv := hR9.far (p := ⟨bt, 2, none⟩) (by show w.heap.size ≠ bt; omega) (.slice A9 (nk + 1) c9)
                      have hPv := hP9.turn (Same.set_in (X := fun i => i = bt) hT9 (by decide) rfl 2 (.slice A9 (nk + 1) c9)) (fun i hi => Below.heap_setCell _ _ _ _ (by have := (hP9.lt hi).1; show i ≠ bt; omega))
                      have hKv := hK9.turn (Same.set_in (X := fun i => i < bt + 1 ∨ vps.ownBlock = some i) hT9 (by decide) (.inl (by omega)) 2 (.slice A9 (nk + 1) c9)) (fun i hi => Below.heap_setCell _ _ _ _ (by have := (hK9.lt hi).1; show i ≠ bt; omega))
                      have hNv : Near (fun i => i = g) w (w9.setCell ⟨bt, 2, none⟩ (.slice A9 (nk + 1) c9)) := hN9.step ((Near.refl (fun i => i = bt) _).setCell (p := ⟨bt, 2, none⟩) rfl _) (fun i hi => .inr (by omega))
                      have hzv : (w9.setCell ⟨bt, 2, none⟩ (.slice A9 (nk + 1) c9)).heap.size = w9.heap.size := by simp
                      obtain ⟨f', hf'⟩ : ∃ f', f = f' + 1 := ⟨f - 1, by have := HM.out.fuel; omega⟩
                      have HMn := Lib.hid (show Mid ⟨g, Ab, nb, cb, Ax, nx, cx⟩ b x nm d B (bt + 1) bt w.heap.size F0 f' ps (ks ++ [t]) a' l' vps (.slice A9 (nk + 1) c9) w _ from
                        ⟨by
                          have h1 := HM.out.spec
                          rw [hf', itemsP_kid HY4.out, HA3.out, HNp7.out] at h1
                          exact h1,
                         by have := HM.out.fuel; have := HA3.out; omega,
                         by have := HM.out.few; rw [List.length_append]; simp only [List.length_cons, List.length_nil]; omega,
                         by omega, by omega,
                         hTv, hRv, hPv, hKv, hBv, hNv, by omega⟩)
                      have cR : (w9.setCell ⟨bt, 2, none⟩ (.slice A9 (nk + 1) c9)).cell? ⟨g, 2, none⟩ = some (.int .i64 (a' : Int)) := hBv.cell 2
                      have cW : wr.cell? ⟨g, 2, none⟩ = some (.int .i64 (a2 : Int)) := cB 2
                      have hlt : 50000 - a' < 50000 - a2 := by have := HA3.out; omega
                      go_wp2_with fail
                      go_roundw
                      case rel => exact ⟨f', _, _, _, _, _, _, HMn.out⟩
                      case measure => rw [cR, cW]; simp only [atC, Int.toNat_natCast]; exact hlt
                    · refine wpOp_do rfl (by kernel_rfl) fun K hK => ?_
                      simp only [List.getElem_toArray, List.getElem_cons_succ, List.getElem_cons_zero]
                      go_simp
                      clear cT7 fT7
                      have hba := bal (Below.refl w7.heap.size w7) (.cells #[.string s7, .slice A1 n1 c1, .slice A2 n2 c2] 25)
                      have hT8 := hT7.kept hba
                      have hx8 := TsP.fresh w7 [t] [_] #[.string s7, .slice A1 n1 c1, .slice A2 n2 c2] _ 1 ⟨⟨_, hX7'⟩, trivial⟩ rfl rfl rfl (by decide) (fun i hi => Nat.lt_of_lt_of_le (hXs i hi) hz7)
                      have hR8 := hR7.kept hba
                      have hB8 := hB7.kept hba
                      have hP8 := hP7.turn (X := fun _ => False) (Same.of_below hba) (fun i hi => hba.block i (hP7.lt hi).2)
                      have hK8 := hK7.kept hba
                      have hN8 := hN7.trans (Near.of_below _ hba)
                      have hz8 : (w7.alloc (.cells #[.string s7, .slice A1 n1 c1, .slice A2 n2 c2] 25)).heap.size = w7.heap.size + 1 := by simp
                      have hbs := HM.out.size
                      obtain ⟨v9, w9, A9, c9, hr9, hK9, hb9, hg9, hv9⟩ := hK8.app2 23 (by omega) hx8 (by rw [HNk.out]; omega)
                      rw [List.length_append, HNk.out] at hv9
                      simp only [List.length_cons, List.length_nil, Nat.zero_add] at hv9
                      subst hv9
                      refine hK.out _ _ trivial ?_
                      clear hK K
                      (try simp only [List.getElem_toArray, List.getElem_cons_succ, List.getElem_cons_zero, Act.put, List.setIfInBounds_toArray, List.set_cons_zero, List.set_cons_succ])
                      generalize w7.alloc (.cells #[.string s7, .slice A1 n1 c1, .slice A2 n2 c2] 25) = w8 at *
                      clear hba hX7'
                      have cT8 := hT8.cell
                      have fT8 := hT8.frozen
                      refine wpAnyH_call (i := 1) (by kernel_rfl) rfl (by kernel_rfl) fun K hK => ?_
                      simp only [List.getElem_toArray, List.getElem_cons_succ, List.getElem_cons_zero]
                      go_simp
                      refine hK.out _ _ trivial ?_
                      clear hK K
                      (try simp only [List.getElem_toArray, List.getElem_cons_succ, List.getElem_cons_zero, Act.put, List.setIfInBounds_toArray, List.set_cons_zero, List.set_cons_succ])
                      clear cT8 fT8
                      refine wpAnyH_call (i := 7) (by kernel_rfl) rfl (by kernel_rfl) fun K hK => ?_
                      simp only [List.getElem_toArray, List.getElem_cons_succ, List.getElem_cons_zero]
                      refine Lib.wp_append_run _ (.tmp 97) (.tmp 102) _ _ rfl (.slice Ak nk ck) (.slice (some ⟨w7.heap.size, 0, none⟩) 1 1) rfl rfl _ _ hr9 ?_
                      refine hK.out _ _ trivial ?_
                      clear hK K
                      (try simp only [List.getElem_toArray, List.getElem_cons_succ, List.getElem_cons_zero, Act.put, List.setIfInBounds_toArray, List.set_cons_zero, List.set_cons_succ])
                      have hzb9 := hb9.size
                      have hT9 := hT8.same (hb9.block bt (by omega))
                      have hR9 := hR8.same (hb9.block w.heap.size (by omega))
                      have hB9 := hB8.same (hb9.block g (by omega))
                      have hP9 := hP8.turn (Same.grown (X := fun i => (Value.slice Ak nk ck).ownBlock = some i) hK8.choose_spec.1 (by decide) (fun i hi => hi) hg9) (fun i hi => hg9.block i (hP8.lt hi).2 (fun e => by
                        obtain ⟨css, ho, _⟩ := hP8
                        exact own_own_ne hK8.choose_spec.1 ho (by decide) i e.symm hi))
                      have hN9 : Near (fun i => i = g) w w9 := hN8.step (S2 := fun i => bt + 1 ≤ i) ⟨hb9.os, hb9.tape, hb9.output, hb9.size, fun i hi hn => hb9.block i (by omega)⟩ (fun i hi => .inr (by omega))
                      clear hT8 hR8 hB8 hP8 hK8 hN8 hg9 hT7 hR7 hB7 hP7 hK7 hN7 hn7 hx8 hr9
                      have cT9 := hT9.cell
                      have fT9 := hT9.frozen
                      refine wpAnyH_take (i := 8) (v := ?vxkc8) rfl (by kernel_rfl) (by kernel_rfl) (by kernel_rfl) (fun _ _ _ h => h) (Or.inl ⟨by kernel_rfl, ?hyxkc8⟩) trivial ?restxkc8
                      case hyxkc8 =>
                        intro w hSw
                        clear hSw
                        go_simp
                        first | done | with_reducible rfl
                      (try simp only [List.getElem_toArray, List.getElem_cons_succ, List.getElem_cons_zero, Act.put, List.setIfInBounds_toArray, List.set_cons_zero, List.set_cons_succ])
                      refine wpAnyH_call (i := 9) (by kernel_rfl) rfl (by kernel_rfl) fun K hK => ?_
                      simp only [List.getElem_toArray, List.getElem_cons_succ, List.getElem_cons_zero]
                      go_simp
                      refine hK.out _ _ trivial ?_
                      clear hK K
                      (try simp only [List.getElem_toArray, List.getElem_cons_succ, List.getElem_cons_zero, Act.put, List.setIfInBounds_toArray, List.set_cons_zero, List.set_cons_succ])
                      refine wpAnyH_done (by kernel_rfl) ?_ _
                      have hTv : Blk (w9.setCell ⟨bt, 2, none⟩ (.slice A9 (nk + 1) c9)) bt 25 #[.string (strOfNums nm), vps, .slice A9 (nk + 1) c9] := hT9.set_ 2 _
                      have hBv := hB9.far (p := ⟨bt, 2, none⟩) (by show g ≠ bt; omega) (.slice A9 (nk + 1) c9)
                      have hRv := hR9.far (p := ⟨bt, 2, none⟩) (by show w.heap.size ≠ bt; omega) (.slice A9 (nk + 1) c9)
                      have hPv := hP9.turn (Same.set_in (X := fun i => i = bt) hT9 (by decide) rfl 2 (.slice A9 (nk + 1) c9)) (fun i hi => Below.heap_setCell _ _ _ _ (by have := (hP9.lt hi).1; show i ≠ bt; omega))
                      have hKv := hK9.turn (Same.set_in (X := fun i => i < bt + 1 ∨ vps.ownBlock = some i) hT9 (by decide) (.inl (by omega)) 2 (.slice A9 (nk + 1) c9)) (fun i hi => Below.heap_setCell _ _ _ _ (by have := (hK9.lt hi).1; show i ≠ bt; omega))
                      have hNv : Near (fun i => i = g) w (w9.setCell ⟨bt, 2, none⟩ (.slice A9 (nk + 1) c9)) := hN9.step ((Near.refl (fun i => i = bt) _).setCell (p := ⟨bt, 2, none⟩) rfl _) (fun i hi => .inr (by omega))
                      have hzv : (w9.setCell ⟨bt, 2, none⟩ (.slice A9 (nk + 1) c9)).heap.size = w9.heap.size := by simp
                      obtain ⟨f', hf'⟩ : ∃ f', f = f' + 1 := ⟨f - 1, by have := HM.out.fuel; omega⟩
                      have HMn := Lib.hid (show Mid ⟨g, Ab, nb, cb, Ax, nx, cx⟩ b x nm d B (bt + 1) bt w.heap.size F0 f' ps (ks ++ [t]) a' l' vps (.slice A9 (nk + 1) c9) w _ from
                        ⟨by
                          have h1 := HM.out.spec
                          rw [hf', itemsP_kid HY4.out, HA3.out, HNp7.out] at h1
                          exact h1,
                         by have := HM.out.fuel; have := HA3.out; omega,
                         by have := HM.out.few; rw [List.length_append]; simp only [List.length_cons, List.length_nil]; omega,
                         by omega, by omega,
                         hTv, hRv, hPv, hKv, hBv, hNv, by omega⟩)
                      have cR : (w9.setCell ⟨bt, 2, none⟩ (.slice A9 (nk + 1) c9)).cell? ⟨g, 2, none⟩ = some (.int .i64 (a' : Int)) := hBv.cell 2
                      have cW : wr.cell? ⟨g, 2, none⟩ = some (.int .i64 (a2 : Int)) := cB 2
                      have hlt : 50000 - a' < 50000 - a2 := by have := HA3.out; omega
                      go_wp2_with fail
                      go_roundw
                      case rel => exact ⟨f', _, _, _, _, _, _, HMn.out⟩
                      case measure => rw [cR, cW]; simp only [atC, Int.toNat_natCast]; exact hlt
                · by_cases y2 : y = 2
                  · subst y2
                    clear hM
                    go_upto_region 16 with (go_at_call 64; refine HF5.out.mono ?_; rintro e w5 ⟨rfl, hB5, hn5⟩)
                    have hn5 : Near (fun i => i = g) wr w5 := hn5
                    have hz5 := hn5.size
                    clear HF5
                    have hgbt : g < bt := by omega
                    have hTb := HM.out.box.same (hn5.block bt HM.out.box.lt (by omega))
                    have hRb := HM.out.res.same (hn5.block _ HM.out.res.lt (by omega))
                    have hsm := same_near (X := fun i => i < bt + 1 ∨ vps.ownBlock = some i) hn5 HM.out.rdr (.inl (by show g < bt + 1; omega))
                    have hPs := (HM.out.ps.turn hsm (fun i hi => hn5.block i (HM.out.ps.lt hi).2 (by have := (HM.out.ps.lt hi).1; omega)))
                    have hKs := (HM.out.ks.turn hsm (fun i hi => hn5.block i (HM.out.ks.lt hi).2 (by have := (HM.out.ks.lt hi).1; omega)))
                    have hN5 := HM.out.near.trans hn5
                    obtain ⟨Ak, ck, hvk⟩ : ∃ A c, vks = .slice A ks.length c := by
                      obtain ⟨xs, h1, _⟩ := hKs
                      obtain ⟨A, c, e, _⟩ := own_slice h1
                      exact ⟨A, c, e⟩
                    subst hvk
                    obtain ⟨Ap, cp, hvp⟩ : ∃ A c, vps = .slice A ps.length c := by
                      obtain ⟨css, h1, _⟩ := hPs
                      obtain ⟨A, c, e, _⟩ := own_slice h1
                      exact ⟨A, c, e⟩
                    subst hvp
                    have hn2 : (strOfNums nm).size ≤ maxLen := by rw [HSn.out]; unfold maxLen; omega
                    obtain ⟨cs, kt, hcs, hXt⟩ := TrP.mk (X := fun i => i < w.heap.size + 1) hn2 (hPs.ps (fun i hi => by omega)) ((hKs.less (Y := fun i => i < w.heap.size + 1) (fun i hi => .inl (by omega))).ts (fun i hi => by omega))
                    have hcs : cs = [.string (strOfNums nm), .slice Ap ps.length cp, .slice Ak ks.length ck] := by
                      have := congrArg (fun v => match v with | Value.agg a => a.toList | _ => []) hcs
                      simpa using this.symm
                    subst hcs
                    obtain ⟨hRf, hXf, _⟩ := named_tree (B := w.heap.size) (w := w5) (Nat.le_refl _) hRb (by show w.heap.size < w.heap.size + 1; omega) hXt (Below.refl _ _)
                    have hBf : Blk (((w5.setCell ⟨w.heap.size, 0, none⟩ (.string (strOfNums nm))).setCell ⟨w.heap.size, 1, none⟩ (.slice Ap ps.length cp)).setCell ⟨w.heap.size, 2, none⟩ (.slice Ak ks.length ck)) g 135 #[.slice Ab nb cb, .slice Ax nx cx, .int .i64 a3, .int .i64 l2] := ((hB5.far (p := ⟨w.heap.size, 0, none⟩) (by show g ≠ w.heap.size; omega) _).far (p := ⟨w.heap.size, 1, none⟩) (by show g ≠ w.heap.size; omega) _).far (p := ⟨w.heap.size, 2, none⟩) (by show g ≠ w.heap.size; omega) _
                    have hNf : Near (fun i => i = g) w (((w5.setCell ⟨w.heap.size, 0, none⟩ (.string (strOfNums nm))).setCell ⟨w.heap.size, 1, none⟩ (.slice Ap ps.length cp)).setCell ⟨w.heap.size, 2, none⟩ (.slice Ak ks.length ck)) := hN5.step ((((Near.refl (fun i => i = w.heap.size) w5).setCell (p := ⟨w.heap.size, 0, none⟩) rfl _).setCell (p := ⟨w.heap.size, 1, none⟩) rfl _).setCell (p := ⟨w.heap.size, 2, none⟩) rfl _) (fun i hi => .inr (by omega))
                    have hXf := hXf.less (Y := fun i => i < w.heap.size) (fun i hi => by omega)
                    obtain ⟨f', hf'⟩ : ∃ f', f = f' + 1 := ⟨f - 1, by have := HM.out.fuel; omega⟩
                    have hsp := HM.out.spec
                    rw [hf', itemsP_end HY4.out, HA3.out] at hsp
                    have hno := HNy.out _ _ _ _ (HF0.out.trans hsp.symm)
                    have hRes : RNode ⟨g, Ab, nb, cb, Ax, nx, cx⟩ b x (d + 1) a l w (.returned (.agg #[.string (strOfNums nm), .slice Ap ps.length cp, .slice Ak ks.length ck])) (((w5.setCell ⟨w.heap.size, 0, none⟩ (.string (strOfNums nm))).setCell ⟨w.heap.size, 1, none⟩ (.slice Ap ps.length cp)).setCell ⟨w.heap.size, 2, none⟩ (.slice Ak ks.length ck)) := by
                      unfold RNode
                      rw [hno]
                      exact ⟨_, _, _, _, _, _, _, _, rfl, hXf, hBf, hNf⟩
                    have HRes := Lib.hid hRes
                    have cTb := hTb.cell
                    have fTb := hTb.frozen
                    have cRb := hRb.cell
                    have fRb := hRb.frozen
                    have cRf := hRf.cell
                    clear hRes hno hsp hXf hNf hBf hXt hPs hKs hn2 hsm hf'
                    go_wp2_with fail
                    exact bodyPost_ret (v := .agg #[.string (strOfNums nm), .slice Ap ps.length cp, .slice Ak ks.length ck]) (by simp [results, Try.results65, go_sem, cRf]) rfl HRes.out
                  · have e3 : (y == 3) = false := by simp [y3]
                    have e1' : (y == 1) = false := by simp [y1]
                    have e2' : (y == 2) = false := by simp [y2]
                    clear hM
                    go_wp2_with (first
                      | (go_at_call 64; refine HF5.out.mono ?_; rintro e w5 ⟨rfl, hB5, hn5⟩)
                      | (go_at_call 63; refine (must_no _).mono ?_; rintro e w6 ⟨rfl, rfl⟩))
                    exact ⟨rfl, RNode.no (HNn.out (HM.out.spec.symm.trans (itemsP_else HY4.out y3 y1 y2))) (HM.out.near.trans hn5)⟩
            · have HF5 := Lib.hid (four_no ⟨g, Ab, nb, cb, Ax, nx, cx⟩ b x B a2 l2 wr hR hM.rdr hBr h4 (by omega))
              have HM := Lib.hid hM
              clear hM hB
              go_wp2_with (go_at_call 64; refine HF5.out.mono ?_; rintro e w5 ⟨rfl, hn5⟩)
              exact ⟨rfl, RNode.no (HNn.out (HM.out.spec.symm.trans (itemsP_no (four4_no h4)))) (HM.out.near.trans hn5)⟩
        · refine wpOp_do rfl (by kernel_rfl) fun K hK => ?_
          simp only [List.getElem_toArray, List.getElem_cons_succ, List.getElem_cons_zero]
          go_simp
          refine hK.out _ _ hS2 ?_
          clear hK K
          (try simp only [List.getElem_toArray, List.getElem_cons_succ, List.getElem_cons_zero, Act.put, List.setIfInBounds_toArray, List.set_cons_zero, List.set_cons_succ])
          refine wpAnyH_call (i := 8) (by kernel_rfl) rfl (by kernel_rfl) fun K hK => ?_
          simp only [List.getElem_toArray, List.getElem_cons_succ, List.getElem_cons_zero]
          go_simp
          go_at_call 94
          refine (HTx.out _ hbz).mono ?_
          rintro e w2 ⟨rfl, rfl⟩
          refine hK.out _ _ hS2 ?_
          clear hK K
          (try simp only [List.getElem_toArray, List.getElem_cons_succ, List.getElem_cons_zero, Act.put, List.setIfInBounds_toArray, List.set_cons_zero, List.set_cons_succ])
          refine wpAnyH_take (i := 9) (v := ?vc9) rfl (by kernel_rfl) (by kernel_rfl) (by kernel_rfl) (fun _ _ _ h => h) (Or.inl ⟨by kernel_rfl, ?hyc9⟩) hS2 ?restc9
          case hyc9 =>
            intro w hSw
            clear hSw
            go_simp
            first | done | with_reducible rfl
          (try simp only [List.getElem_toArray, List.getElem_cons_succ, List.getElem_cons_zero, Act.put, List.setIfInBounds_toArray, List.set_cons_zero, List.set_cons_succ])
          generalize (w1.alloc (.cells #[.string ⟨#[]⟩, .slice none 0 0, .slice none 0 0] 25)).drew = wz at *
          have cTz := hTz.cell
          have fTz := hTz.frozen
          refine wpAnyH_call (i := 11) (by kernel_rfl) rfl (by kernel_rfl) fun K hK => ?_
          simp only [List.getElem_toArray, List.getElem_cons_succ, List.getElem_cons_zero]
          go_simp
          have hTt : Blk (((wz.setCell ⟨w1.heap.size, 0, none⟩ (.string sn)).setCell ⟨w1.heap.size, 1, none⟩ (.slice none 0 0)).setCell ⟨w1.heap.size, 2, none⟩ (.slice none 0 0)) w1.heap.size 25 #[.string sn, .slice none 0 0, .slice none 0 0] := ((hTz.set_ 0 (.string sn)).set_ 1 (.slice none 0 0)).set_ 2 (.slice none 0 0)
          have hBt : Blk (((wz.setCell ⟨w1.heap.size, 0, none⟩ (.string sn)).setCell ⟨w1.heap.size, 1, none⟩ (.slice none 0 0)).setCell ⟨w1.heap.size, 2, none⟩ (.slice none 0 0)) g 135 #[.slice Ab nb cb, .slice Ax nx cx, .int .i64 a, .int .i64 l1] := ((hBz.far (p := ⟨w1.heap.size, 0, none⟩) (by show g ≠ w1.heap.size; omega) _).far (p := ⟨w1.heap.size, 1, none⟩) (by show g ≠ w1.heap.size; omega) _).far (p := ⟨w1.heap.size, 2, none⟩) (by show g ≠ w1.heap.size; omega) _
          have hRt : Blk (((wz.setCell ⟨w1.heap.size, 0, none⟩ (.string sn)).setCell ⟨w1.heap.size, 1, none⟩ (.slice none 0 0)).setCell ⟨w1.heap.size, 2, none⟩ (.slice none 0 0)) w.heap.size 25 #[.string ⟨#[]⟩, .slice none 0 0, .slice none 0 0] := ((hRz.far (p := ⟨w1.heap.size, 0, none⟩) (by show w.heap.size ≠ w1.heap.size; omega) _).far (p := ⟨w1.heap.size, 1, none⟩) (by show w.heap.size ≠ w1.heap.size; omega) _).far (p := ⟨w1.heap.size, 2, none⟩) (by show w.heap.size ≠ w1.heap.size; omega) _
          have hnt : Near (fun i => i = g) w (((wz.setCell ⟨w1.heap.size, 0, none⟩ (.string sn)).setCell ⟨w1.heap.size, 1, none⟩ (.slice none 0 0)).setCell ⟨w1.heap.size, 2, none⟩ (.slice none 0 0)) := hnz.step ((((Near.refl (fun i => i = w1.heap.size) wz).setCell (p := ⟨w1.heap.size, 0, none⟩) rfl _).setCell (p := ⟨w1.heap.size, 1, none⟩) rfl _).setCell (p := ⟨w1.heap.size, 2, none⟩) rfl _) (fun i hi => .inr (by omega))
          have hS3 : (fun W' : World => ∀ i, W'.cell? ⟨g, i, none⟩ = (#[.slice Ab nb cb, .slice Ax nx cx, .int .i64 a, .int .i64 l1] : Array Value)[i]?) (((wz.setCell ⟨w1.heap.size, 0, none⟩ (.string sn)).setCell ⟨w1.heap.size, 1, none⟩ (.slice none 0 0)).setCell ⟨w1.heap.size, 2, none⟩ (.slice none 0 0)) := hBt.cell
          refine hK.out _ _ hS3 ?_
          clear hK K
          (try simp only [List.getElem_toArray, List.getElem_cons_succ, List.getElem_cons_zero, Act.put, List.setIfInBounds_toArray, List.set_cons_zero, List.set_cons_succ])
          refine wpAnyH_done (by kernel_rfl) ?_ _
          have hzt : (((wz.setCell ⟨w1.heap.size, 0, none⟩ (.string sn)).setCell ⟨w1.heap.size, 1, none⟩ (.slice none 0 0)).setCell ⟨w1.heap.size, 2, none⟩ (.slice none 0 0)).heap.size = w1.heap.size + 1 := by simp; exact hzz
          clear hS1 hS2 hS3 hTz hBz hRz hnz cTz fTz hbz hzz hn1 hB1 hR1 HTx
          generalize ((wz.setCell ⟨w1.heap.size, 0, none⟩ (.string sn)).setCell ⟨w1.heap.size, 1, none⟩ (.slice none 0 0)).setCell ⟨w1.heap.size, 2, none⟩ (.slice none 0 0) = wt at *
          have HZt := Lib.hid hzt
          clear hzt
          generalize hbt : w1.heap.size = bt at *
          have HBt := Lib.hid hbt
          clear hbt
          have hm : ((nm.length + 1 : Nat) : Int) = (sn.size : Int) + 1 := by rw [hsz]; omega
          have HUp := Lib.hid (up_yes ⟨g, Ab, nb, cb, Ax, nx, cx⟩ a (nm.length + 1) l1 wt hBt (by show a + (nm.length + 1) ≤ nb; omega) mb)
          rw [hm, HA0.out] at HUp
          simp only [Rdr.cs] at HUp
          have cT := hTt.cell
          have hss : sn.size ≤ 20000 := by omega
          clear hm
          go_wp2_with (go_at_call 95; refine HUp.out.mono ?_; rintro e wu ⟨rfl, hBu, hnu⟩)
          have hTu := hTt.same (hnu.block bt hTt.lt (by omega))
          have hRu := hRt.same (hnu.block w.heap.size hRt.lt (by omega))
          have hnwu := hnt.trans hnu
          have hzu := hnu.size
          have HM0 := Lib.hid (show Mid ⟨g, Ab, nb, cb, Ax, nx, cx⟩ b x nm d B (bt + 1) bt w.heap.size F0 (b.length + 1) [] [] a0 l1 (.slice none 0 0) (.slice none 0 0) w wu from
            ⟨HF0.out, by omega, by simp, ha0b, by have := HL.out; omega, by rw [HSn.out]; exact hTu, hRu, OwnPs.nil _ _, OwnTs.nil _ _ _, hBu, hnwu, by have := HZt.out; omega⟩)
          clear hTt hBt hRt hnt hTu hRu hBu hnwu hnu HUp cT
          go_loopw [] (fun wr => ∃ (f : Nat) (ps : List Pr) (ks : List Tr) (a2 l2 : Nat) (vps vks : Value), Mid ⟨g, Ab, nb, cb, Ax, nx, cx⟩ b x nm d B (bt + 1) bt w.heap.size F0 f ps ks a2 l2 vps vks w wr) (fun wr => 50000 - atC (wr.cell? ⟨g, 2, none⟩))
          case atStart => exact ⟨_, _, _, _, _, _, _, HM0.out⟩
          case round =>
            clear HM0
            obtain ⟨f, ps, ks, a2, l2, vps, vks, hM⟩ := hrel
            have hB := hM.rdr
            simp only [Rdr.cs] at hB
            have cB := hB.cell
            have hbl : Below B w wr := hM.near.below (fun i hi => by have hi : i = g := hi; omega) (by omega)
            have hR := HRw.out.below hbl
            have hzr := hM.size
            have hap := hM.apos
            have hBr : B ≤ wr.heap.size := by omega
            by_cases h4 : a2 + 4 ≤ b.length
            · obtain ⟨y, hyy⟩ : ∃ y, numB ((b.drop a2).take 4) = y := ⟨_, rfl⟩
              have hy4 := four4_yes h4
              have hn4 := numB4 ob a2
              obtain ⟨a3, ha3⟩ : ∃ a3, a2 + 4 = a3 := ⟨_, rfl⟩
              have HF5 := four_yes ⟨g, Ab, nb, cb, Ax, nx, cx⟩ b x B a2 l2 wr hR hM.rdr hBr h4
              rw [hyy, ha3] at HF5
              rw [hyy] at hy4 hn4
              simp only [Rdr.cs] at HF5
              have HF5 := Lib.hid HF5
              have HY4 := Lib.hid hy4
              have HA3 := Lib.hid ha3
              have ha3b : a3 ≤ b.length := by omega
              clear hyy hy4 ha3 hB
              have HM := Lib.hid hM
              by_cases y3 : y = 3
              · subst y3
                clear hM
                obtain ⟨b1, o1, hAb, _, _⟩ := rb.2 (by omega)
                subst hAb
                go_upto_region 8 with (go_at_call 64; refine HF5.out.mono ?_; rintro e w5 ⟨rfl, hB5, hn5⟩)
                have hn5 : Near (fun i => i = g) wr w5 := hn5
                have hbl5 : Below B wr w5 := hn5.below (fun i hi => by omega) hBr
                have hR5 := hR.below hbl5
                have hz5 := hn5.size
                clear HF5
                by_cases h8 : a3 + 4 ≤ b.length
                · obtain ⟨n, hnn⟩ : ∃ y, numB ((b.drop a3).take 4) = y := ⟨_, rfl⟩
                  have hy8 := four4_yes h8
                  have hn8 := numB4 ob a3
                  obtain ⟨a4, ha4⟩ : ∃ a4, a3 + 4 = a4 := ⟨_, rfl⟩
                  have HF8 := four_yes ⟨g, some ⟨b1, o1, none⟩, nb, cb, Ax, nx, cx⟩ b x B a3 l2 w5 hR5 hB5 (by omega) h8
                  rw [hnn, ha4] at HF8
                  rw [hnn, ← HA3.out] at hy8
                  rw [hnn] at hn8
                  simp only [Rdr.cs] at HF8
                  have HF8 := Lib.hid HF8
                  have HY8 := Lib.hid hy8
                  have HA4 := Lib.hid ha4
                  have ha4b : a4 ≤ b.length := by omega
                  obtain ⟨N, hN⟩ := Int.eq_ofNat_of_zero_le hn8.1
                  have HNn2 := Lib.hid hN
                  subst hN
                  clear hnn hy8 ha4
                  go_upto_region 9 with (go_at_call 64; refine HF8.out.mono ?_; rintro e w8 ⟨rfl, hB8, hn8'⟩)
                  have hn8x : Near (fun i => i = g) wr w8 := hn5.trans hn8'
                  have hbl8 : Below B wr w8 := hn8x.below (fun i hi => by omega) hBr
                  have hR8 := hR.below hbl8
                  have hz8 := hn8x.size
                  clear HF8 hB5 hn5 hn8' hbl5 hR5 hz5
                  have hS1 : (fun W' : World => W'.cell? ⟨g, 1, none⟩ = some (.slice Ax nx cx)) w8.drew := hB8.drew.cell 1
                  refine wp_region_held_drew (S := fun W' : World => W'.cell? ⟨g, 1, none⟩ = some (.slice Ax nx cx)) (by kernel_rfl) hS1 (fun hHeld => ?_)
                  clear hHeld
                  refine wpAnyH_take (i := 0) (v := ?vyd0) rfl (by kernel_rfl) (by kernel_rfl) (by kernel_rfl) (fun _ _ _ h => h) (Or.inl ⟨by kernel_rfl, ?hyyd0⟩) hS1 ?restyd0
                  case hyyd0 =>
                    intro w hSw
                    clear hSw
                    go_simp
                    first | done | with_reducible rfl
                  (try simp only [List.getElem_toArray, List.getElem_cons_succ, List.getElem_cons_zero, Act.put, List.setIfInBounds_toArray, List.set_cons_zero, List.set_cons_succ])
                  refine wpAnyH_take (i := 1) (v := ?vyd1) rfl (by kernel_rfl) (by kernel_rfl) (by kernel_rfl) (fun _ _ _ h => h) (Or.inl ⟨by kernel_rfl, ?hyyd1⟩) hS1 ?restyd1
                  case hyyd1 =>
                    intro w hSw
                    clear hSw
                    go_simp
                    first | done | with_reducible rfl
                  (try simp only [List.getElem_toArray, List.getElem_cons_succ, List.getElem_cons_zero, Act.put, List.setIfInBounds_toArray, List.set_cons_zero, List.set_cons_succ])
                  refine wpAnyH_take (i := 2) (v := ?vyd2) rfl (by kernel_rfl) (by kernel_rfl) (by kernel_rfl) (fun _ _ _ h => h) (Or.inl ⟨by kernel_rfl, ?hyyd2⟩) hS1 ?restyd2
                  case hyyd2 =>
                    intro w hSw
                    clear hSw
                    go_simp
                    first | done | with_reducible rfl
                  (try simp only [List.getElem_toArray, List.getElem_cons_succ, List.getElem_cons_zero, Act.put, List.setIfInBounds_toArray, List.set_cons_zero, List.set_cons_succ])
                  refine wpAnyH_take (i := 3) (v := ?vyd3) rfl (by kernel_rfl) (by kernel_rfl) (by kernel_rfl) (fun _ _ _ h => h) (Or.inl ⟨by kernel_rfl, ?hyyd3⟩) hS1 ?restyd3
                  case hyyd3 =>
                    intro w hSw
                    (try dsimp only at hSw)
                    go_simp
                    first | done | with_reducible rfl
                  (try simp only [List.getElem_toArray, List.getElem_cons_succ, List.getElem_cons_zero, Act.put, List.setIfInBounds_toArray, List.set_cons_zero, List.set_cons_succ])
                  refine wpAnyH_take (i := 4) (v := ?vyd4) rfl (by kernel_rfl) (by kernel_rfl) (by kernel_rfl) (fun _ _ _ h => h) (Or.inl ⟨by kernel_rfl, ?hyyd4⟩) hS1 ?restyd4
                  case hyyd4 =>
                    intro w hSw
                    clear hSw
                    go_simp
                    first | done | with_reducible rfl
                  (try simp only [List.getElem_toArray, List.getElem_cons_succ, List.getElem_cons_zero, Act.put, List.setIfInBounds_toArray, List.set_cons_zero, List.set_cons_succ])
                  have hb8d : Below B w8 w8.drew := (Below.refl _ _).drew
                  by_cases h12 : a4 + 4 ≤ b.length
                  · obtain ⟨pl, hpp⟩ : ∃ y, numB ((b.drop a4).take 4) = y := ⟨_, rfl⟩
                    have hy12 := four4_yes h12
                    have hn12 := numB4 ob a4
                    obtain ⟨a5, ha5⟩ : ∃ a5, a4 + 4 = a5 := ⟨_, rfl⟩
                    have HF12 := four_yes ⟨g, some ⟨b1, o1, none⟩, nb, cb, Ax, nx, cx⟩ b x B a4 l2 w8.drew (hR8.below hb8d) hB8.drew (by show B ≤ w8.heap.size; omega) h12
                    rw [hpp, ha5] at HF12
                    have e48 : a4 = a2 + 8 := by have := HA3.out; have := HA4.out; omega
                    rw [hpp, e48] at hy12
                    rw [hpp] at hn12
                    simp only [Rdr.cs] at HF12
                    have HY12 := Lib.hid hy12
                    have HA5 := Lib.hid (show a2 + 12 = a5 by omega)
                    have ha5b : a5 ≤ b.length := by omega
                    obtain ⟨P, hP⟩ := Int.eq_ofNat_of_zero_le hn12.1
                    subst hP
                    clear hpp hy12 ha5 e48
                    refine wpAnyH_call (i := 5) (by kernel_rfl) rfl (by kernel_rfl) fun K hK => ?_
                    simp only [List.getElem_toArray, List.getElem_cons_succ, List.getElem_cons_zero]
                    go_simp
                    go_at_call 64
                    refine HF12.mono ?_
                    rintro e w9 ⟨rfl, hB9, hn9⟩
                    have hn9x : Near (fun i => i = g) wr w9 := (hn8x.trans (Near.of_below _ (Below.refl _ _).drew)).trans hn9
                    have hbl9 : Below B wr w9 := hn9x.below (fun i hi => by omega) hBr
                    have hR9 := hR.below hbl9
                    have hz9 := hn9x.size
                    have hS2 : (fun W' : World => W'.cell? ⟨g, 1, none⟩ = some (.slice Ax nx cx)) w9 := hB9.cell 1
                    refine hK.out _ _ hS2 ?_
                    clear hK K
                    (try simp only [List.getElem_toArray, List.getElem_cons_succ, List.getElem_cons_zero, Act.put, List.setIfInBounds_toArray, List.set_cons_zero, List.set_cons_succ])
                    rcases htp : txt x P with _ | nm2
                    · refine wpAnyH_call (i := 6) (by kernel_rfl) rfl (by kernel_rfl) fun K hK => ?_
                      simp only [List.getElem_toArray, List.getElem_cons_succ, List.getElem_cons_zero]
                      go_simp
                      go_at_call 94
                      refine (text_no Ax nx cx x P w9 hR9.hx hR9.mx (by omega) hR9.cx (hR9.rx.more (by omega)) htp).mono ?_
                      rintro e w10 ⟨rfl, rfl⟩
                      exact ⟨rfl, RNode.no (HNn.out (HM.out.spec.symm.trans (itemsP_t HY4.out HY8.out HY12.out htp))) (HM.out.near.trans hn9x)⟩
                    · refine wpAnyH_call (i := 6) (by kernel_rfl) rfl (by kernel_rfl) fun K hK => ?_
                      simp only [List.getElem_toArray, List.getElem_cons_succ, List.getElem_cons_zero]
                      go_simp
                      go_at_call 94
                      refine (text_yes Ax nx cx x nm2 P w9 hR9.hx hR9.mx hR9.cx (hR9.rx.more (by omega)) htp).mono ?_
                      rintro e w10 ⟨rfl, rfl⟩
                      refine hK.out _ _ hS2 ?_
                      clear hK K
                      (try simp only [List.getElem_toArray, List.getElem_cons_succ, List.getElem_cons_zero, Act.put, List.setIfInBounds_toArray, List.set_cons_zero, List.set_cons_succ])
                      obtain ⟨s2, hs2⟩ : ∃ s2, strOfNums nm2 = s2 := ⟨_, rfl⟩
                      have hs2l : s2.size ≤ 20000 := by rw [← hs2, strOfNums_size]; have := (txt_some htp).2; have := hR9.mx; have := hR9.hx; simp only at this; omega
                      have HS2 := Lib.hid hs2
                      have HTp := Lib.hid htp
                      rw [hs2]
                      clear hs2 htp
                      refine wpAnyH_take (i := 7) (v := ?vyd7) rfl (by kernel_rfl) (by kernel_rfl) (by kernel_rfl) (fun _ _ _ h => h) (Or.inl ⟨by kernel_rfl, ?hyyd7⟩) hS2 ?restyd7
                      case hyyd7 =>
                        intro w hSw
                        clear hSw
                        go_simp
                        first | done | with_reducible rfl
                      (try simp only [List.getElem_toArray, List.getElem_cons_succ, List.getElem_cons_zero, Act.put, List.setIfInBounds_toArray, List.set_cons_zero, List.set_cons_succ])
                      refine wpAnyH_done (by kernel_rfl) ?_ _
                      clear hS1 hS2 hB8 hn8x hbl8 hR8 hz8 hn9 hb8d HF12
                      have hgbt : g < bt := by omega
                      have hTb := HM.out.box.same (hn9x.block bt HM.out.box.lt (by omega))
                      have hRb := HM.out.res.same (hn9x.block _ HM.out.res.lt (by omega))
                      have hsm := same_near (X := fun i => i < bt + 1 ∨ vps.ownBlock = some i) hn9x HM.out.rdr (.inl (by show g < bt + 1; omega))
                      have hPs := HM.out.ps.turn hsm (fun i hi => hn9x.block i (HM.out.ps.lt hi).2 (by have := (HM.out.ps.lt hi).1; omega))
                      have hKs := HM.out.ks.turn hsm (fun i hi => hn9x.block i (HM.out.ks.lt hi).2 (by have := (HM.out.ks.lt hi).1; omega))
                      have hN9 := HM.out.near.trans hn9x
                      clear hsm
                      go_upto_region 10 with (fail)
                      have hS3 : (fun W' : World => ∀ i, W'.cell? ⟨g, i, none⟩ = (#[.slice (some ⟨b1, o1, none⟩) nb cb, .slice Ax nx cx, .int .i64 a5, .int .i64 l2] : Array Value)[i]?) w9.drew := hB9.drew.cell
                      refine wp_region_held_drew (S := fun W' : World => ∀ i, W'.cell? ⟨g, i, none⟩ = (#[.slice (some ⟨b1, o1, none⟩) nb cb, .slice Ax nx cx, .int .i64 a5, .int .i64 l2] : Array Value)[i]?) (by kernel_rfl) hS3 (fun hHeld => ?_)
                      clear hHeld
                      have ew : IntKind.i64.wrap ((nb : Int) - (a5 : Int)) = (nb : Int) - (a5 : Int) := IntWalk.i64_in _ (by omega)
                      refine wpAnyH_take (i := 0) (v := ?vye0) rfl (by kernel_rfl) (by kernel_rfl) (by kernel_rfl) (fun _ _ _ h => h) (Or.inl ⟨by kernel_rfl, ?hyye0⟩) hS3 ?restye0
                      case hyye0 =>
                        intro w hSw
                        clear hSw
                        go_simp
                        first | done | with_reducible rfl
                      (try simp only [List.getElem_toArray, List.getElem_cons_succ, List.getElem_cons_zero, Act.put, List.setIfInBounds_toArray, List.set_cons_zero, List.set_cons_succ])
                      refine wpAnyH_take (i := 1) (v := ?vye1) rfl (by kernel_rfl) (by kernel_rfl) (by kernel_rfl) (fun _ _ _ h => h) (Or.inl ⟨by kernel_rfl, ?hyye1⟩) hS3 ?restye1
                      case hyye1 =>
                        intro w hSw
                        clear hSw
                        go_simp
                        first | done | with_reducible rfl
                      (try simp only [List.getElem_toArray, List.getElem_cons_succ, List.getElem_cons_zero, Act.put, List.setIfInBounds_toArray, List.set_cons_zero, List.set_cons_succ])
                      refine wpAnyH_take (i := 2) (v := ?vye2) rfl (by kernel_rfl) (by kernel_rfl) (by kernel_rfl) (fun _ _ _ h => h) (Or.inl ⟨by kernel_rfl, ?hyye2⟩) hS3 ?restye2
                      case hyye2 =>
                        intro w hSw
                        clear hSw
                        go_simp
                        first | done | with_reducible rfl
                      (try simp only [List.getElem_toArray, List.getElem_cons_succ, List.getElem_cons_zero, Act.put, List.setIfInBounds_toArray, List.set_cons_zero, List.set_cons_succ])
                      refine wpAnyH_take (i := 3) (v := ?vye3) rfl (by kernel_rfl) (by kernel_rfl) (by kernel_rfl) (fun _ _ _ h => h) (Or.inl ⟨by kernel_rfl, ?hyye3⟩) hS3 ?restye3
                      case hyye3 =>
                        intro w hSw
                        clear hSw
                        go_simp
                        first | done | with_reducible rfl
                      (try simp only [List.getElem_toArray, List.getElem_cons_succ, List.getElem_cons_zero, Act.put, List.setIfInBounds_toArray, List.set_cons_zero, List.set_cons_succ])
                      refine wpAnyH_take (i := 4) (v := ?vye4) rfl (by kernel_rfl) (by kernel_rfl) (by kernel_rfl) (fun _ _ _ h => h) (Or.inl ⟨by kernel_rfl, ?hyye4⟩) hS3 ?restye4
                      case hyye4 =>
                        intro w hSw
                        (try dsimp only at hSw)
                        go_simp
                        first | done | with_reducible rfl
                      (try simp only [List.getElem_toArray, List.getElem_cons_succ, List.getElem_cons_zero, Act.put, List.setIfInBounds_toArray, List.set_cons_zero, List.set_cons_succ])
                      refine wpAnyH_take (i := 5) (v := ?vye5) rfl (by kernel_rfl) (by kernel_rfl) (by kernel_rfl) (fun _ _ _ h => h) (Or.inl ⟨by kernel_rfl, ?hyye5⟩) hS3 ?restye5
                      case hyye5 =>
                        intro w hSw
                        clear hSw
                        go_simp
                        first | done | with_reducible rfl
                      (try simp only [List.getElem_toArray, List.getElem_cons_succ, List.getElem_cons_zero, Act.put, List.setIfInBounds_toArray, List.set_cons_zero, List.set_cons_succ])
                      refine wpAnyH_take (i := 6) (v := ?vye6) rfl (by kernel_rfl) (by kernel_rfl) (by kernel_rfl) (fun _ _ _ h => h) (Or.inl ⟨by kernel_rfl, ?hyye6⟩) hS3 ?restye6
                      case hyye6 =>
                        intro w hSw
                        clear hSw
                        go_simp
                        first | done | with_reducible rfl
                      (try simp only [List.getElem_toArray, List.getElem_cons_succ, List.getElem_cons_zero, Act.put, List.setIfInBounds_toArray, List.set_cons_zero, List.set_cons_succ])
                      refine wpAnyH_take (i := 7) (v := ?vye7) rfl (by kernel_rfl) (by kernel_rfl) (by kernel_rfl) (fun _ _ _ h => h) (Or.inl ⟨by kernel_rfl, ?hyye7⟩) hS3 ?restye7
                      case hyye7 =>
                        intro w hSw
                        clear hSw
                        go_simp
                        first | done | with_reducible rfl
                      (try simp only [List.getElem_toArray, List.getElem_cons_succ, List.getElem_cons_zero, Act.put, List.setIfInBounds_toArray, List.set_cons_zero, List.set_cons_succ])
                      refine wpAnyH_take (i := 8) (v := ?vye8) rfl (by kernel_rfl) (by kernel_rfl) (by kernel_rfl) (fun _ _ _ h => h) (Or.inl ⟨by kernel_rfl, ?hyye8⟩) hS3 ?restye8
                      case hyye8 =>
                        intro w hSw
                        clear hSw
                        go_simp
                        first | done | with_reducible rfl
                      (try simp only [List.getElem_toArray, List.getElem_cons_succ, List.getElem_cons_zero, Act.put, List.setIfInBounds_toArray, List.set_cons_zero, List.set_cons_succ])
                      refine wpAnyH_take (i := 9) (v := ?vye9) rfl (by kernel_rfl) (by kernel_rfl) (by kernel_rfl) (fun _ _ _ h => h) (Or.inl ⟨by kernel_rfl, ?hyye9⟩) hS3 ?restye9
                      case hyye9 =>
                        intro w hSw
                        (try dsimp only at hSw)
                        go_simp
                        first | done | with_reducible rfl
                      (try simp only [List.getElem_toArray, List.getElem_cons_succ, List.getElem_cons_zero, Act.put, List.setIfInBounds_toArray, List.set_cons_zero, List.set_cons_succ])
                      refine wpAnyH_take (i := 10) (v := ?vye10) rfl (by kernel_rfl) (by kernel_rfl) (by kernel_rfl) (fun _ _ _ h => h) (Or.inl ⟨by kernel_rfl, ?hyye10⟩) hS3 ?restye10
                      case hyye10 =>
                        intro w hSw
                        clear hSw
                        go_simp
                        first | done | with_reducible rfl
                      (try simp only [List.getElem_toArray, List.getElem_cons_succ, List.getElem_cons_zero, Act.put, List.setIfInBounds_toArray, List.set_cons_zero, List.set_cons_succ])
                      by_cases hlong : N ≤ b.length - a5
                      · have e7 : decide ((N : Int) ≤ (nb : Int) - (a5 : Int)) = true := decide_eq_true (by omega)
                        refine wpAnyH_take (i := 11) (v := ?vye11) rfl (by kernel_rfl) (by kernel_rfl) (by kernel_rfl) (fun _ _ _ h => h) (Or.inl ⟨by kernel_rfl, ?hyye11⟩) hS3 ?restye11
                        case hyye11 =>
                          intro w hSw
                          clear hSw
                          go_simp
                          first | done | with_reducible rfl
                        (try simp only [List.getElem_toArray, List.getElem_cons_succ, List.getElem_cons_zero, Act.put, List.setIfInBounds_toArray, List.set_cons_zero, List.set_cons_succ])
                        refine wpAnyH_call (i := 12) (by kernel_rfl) rfl (by kernel_rfl) fun K hK => ?_
                        simp only [List.getElem_toArray, List.getElem_cons_succ, List.getElem_cons_zero]
                        go_simp
                        go_at_call 63
                        refine (must_yes _).mono ?_
                        rintro e w10 ⟨rfl, rfl⟩
                        refine hK.out _ _ hS3 ?_
                        clear hK K
                        (try simp only [List.getElem_toArray, List.getElem_cons_succ, List.getElem_cons_zero, Act.put, List.setIfInBounds_toArray, List.set_cons_zero, List.set_cons_succ])
                        refine wpAnyH_done (by kernel_rfl) ?_ _
                        clear hS3 ew e7
                        have hB10 := hB9.drew
                        have hTb10 := hTb.drew
                        have hRb10 := hRb.drew
                        have hbd : Below w9.heap.size w9 w9.drew := (Below.refl _ _).drew
                        have hPs10 := hPs.turn (X := fun _ => False) (Same.of_below hbd) (fun _ _ => rfl)
                        have hKs10 := hKs.kept hbd
                        have hN10 := hN9.trans (Near.of_below _ hbd)
                        have hR10 := hR9.below (hbd.mono (by omega))
                        have hz10 : w9.drew.heap.size = w9.heap.size := rfl
                        generalize w9.drew = w10 at *
                        clear hB9 hTb hRb hPs hKs hN9 hR9 hn9x hbl9 hbd
                        obtain ⟨css, hpo, _⟩ := id hPs10
                        obtain ⟨Ap, cp, hvp, hcp1, _⟩ := own_slice hpo
                        obtain ⟨Ak, ck, hvk⟩ : ∃ A c, vks = .slice A ks.length c := by
                          obtain ⟨xs, h1, _⟩ := hKs10
                          obtain ⟨A, c, e, _⟩ := own_slice h1
                          exact ⟨A, c, e⟩
                        subst hvp
                        subst hvk
                        have hfew := HM.out.few
                        obtain ⟨np, hnp⟩ : ∃ m, ps.length = m := ⟨_, rfl⟩
                        obtain ⟨nk, hnk⟩ : ∃ m, ks.length = m := ⟨_, rfl⟩
                        have HNp := Lib.hid hnp
                        have HNk := Lib.hid hnk
                        rw [hnp] at hTb10 hPs10 hcp1 hKs10 hfew
                        rw [hnk] at hTb10 hKs10 hfew
                        clear hpo hnp hnk
                        go_upto_region 11 with (fail)
                        obtain ⟨As, hAs⟩ : ∃ A, (if cb = a5 then (some ⟨b1, o1, none⟩ : Option Addr) else some ⟨b1, o1 + a5, none⟩) = A := ⟨_, rfl⟩
                        have HAs := Lib.hid hAs
                        have HRs := Lib.hid (fun W (hW : Below w10.heap.size w10 W) => (show Rd W W.heap.size 1 As N (((b.drop a5).take N).flatMap encB) from by
                          have h1 := Rd.subB (hR10.rb) hR10.hb (a := a5) (m := N) (by simp only; omega)
                          have h2 : Rd w10 B 1 As N (((b.drop a5).take N).flatMap encB) := by
                            rw [← hAs]
                            split
                            · have h0 : N = 0 := by omega
                              subst h0
                              exact ⟨by simp, fun h => absurd h (by omega)⟩
                            · exact h1
                          exact (h2.below (hW.mono (by omega))).more (by have := hW.size; omega)))
                        have hlen : ((b.drop a5).take N).length = N := by simp; omega
                        have HLen := Lib.hid hlen
                        clear hlen hAs
                        obtain ⟨bs, hbs⟩ : ∃ bs, (b.drop a5).take N = bs := ⟨_, rfl⟩
                        rw [hbs] at HRs HLen
                        have HBs := Lib.hid hbs
                        have hbok : BytesOk bs := by rw [← hbs]; exact fun y hy => ob y (List.mem_of_mem_drop (List.mem_of_mem_take hy))
                        clear hbs
                        have ew2 : IntKind.i64.wrap ((a5 : Int) + (N : Int)) = (a5 : Int) + (N : Int) := IntWalk.i64_in _ (by omega)
                        have hXp : ∀ i, (Value.slice Ap np cp).ownBlock = some i → i < w10.heap.size := fun i hi => (hPs10.lt hi).2
                        refine wp_region_spec 21 [68, 69, 70, 71, 72, 73, 74, 75, 76, 77, 78, 79, 80, 81, 82, 83, 84, 85, 86, 87, 88] [.eq (.pointer (some ⟨bt, 1, none⟩)), .eq (.slice Ap np cp), .eq (.string s2), .eq (.pointer (some ⟨g, 0, none⟩)), .eq (.pointer (some ⟨g, 0, none⟩)), .eq (.pointer (some ⟨g, 0, none⟩)), .eq (.slice (some ⟨b1, o1, none⟩) nb cb),
                          .eq (.pointer (some ⟨g, 0, none⟩)), .eq (.pointer (some ⟨g, 0, none⟩)), .eq (.pointer (some ⟨g, 2, none⟩)), .eq (.int .i64 a5), .eq (.pointer (some ⟨g, 0, none⟩)), .eq (.pointer (some ⟨g, 0, none⟩)), .eq (.pointer (some ⟨g, 2, none⟩)), .eq (.int .i64 a5), .eq (.int .i64 N), .eq (.int .i64 ((a5 : Int) + (N : Int))), .eq (.slice As N (cb - a5)), BsV bs, PrV (s2, bs), PsV (fun i => (Value.slice Ap np cp).ownBlock = some i) [(s2, bs)]] (by kernel_rfl) (by kernel_rfl) ?_ ?_
                        · unfold StepS
                          simp only [List.take_succ_cons, List.take_zero, fillA, fillL, List.setIfInBounds_toArray, List.set_cons_succ, List.set_cons_zero, Nat.zero_add, Nat.reduceAdd]
                          refine StepsOk.cons (fun vals w' hb hd K hK => ?_) ?_
                          · go_simp
                            exact hK.out _ _ _ (Below.refl _ _) rfl (by kernel_rfl)
                          refine StepsOk.cons (fun vals w' hb hd K hK => ?_) ?_
                          · have d0 := hd 0 (by decide)
                            simp only [List.getD_cons_zero, List.getD_cons_succ, SP.eq] at d0
                            have hS' := (hTb10.kept hb).cell
                            go_simp
                            exact hK.out _ _ _ (Below.refl _ _) rfl (by simp only [d0, Act.put, List.setIfInBounds_toArray, List.set_cons_succ, List.set_cons_zero])
                          refine StepsOk.cons (fun vals w' hb hd K hK => ?_) ?_
                          · go_simp
                            exact hK.out _ _ _ (Below.refl _ _) rfl (by kernel_rfl)
                          refine StepsOk.cons (fun vals w' hb hd K hK => ?_) ?_
                          · go_simp
                            exact hK.out _ _ _ (Below.refl _ _) rfl (by kernel_rfl)
                          refine StepsOk.cons (fun vals w' hb hd K hK => ?_) ?_
                          · have d3 := hd 3 (by decide)
                            simp only [List.getD_cons_zero, List.getD_cons_succ, SP.eq] at d3
                            go_simp
                            exact hK.out _ _ _ (Below.refl _ _) rfl (by simp only [d3, Act.put, List.setIfInBounds_toArray, List.set_cons_succ, List.set_cons_zero])
                          refine StepsOk.cons (fun vals w' hb hd K hK => ?_) ?_
                          · have d4 := hd 4 (by decide)
                            simp only [List.getD_cons_zero, List.getD_cons_succ, SP.eq] at d4
                            go_simp
                            exact hK.out _ _ _ (Below.refl _ _) rfl (by simp only [d4, Act.put, List.setIfInBounds_toArray, List.set_cons_succ, List.set_cons_zero])
                          refine StepsOk.cons (fun vals w' hb hd K hK => ?_) ?_
                          · have d5 := hd 5 (by decide)
                            simp only [List.getD_cons_zero, List.getD_cons_succ, SP.eq] at d5
                            have hS' := (hB10.kept hb).cell
                            go_simp
                            exact hK.out _ _ _ (Below.refl _ _) rfl (by simp only [d5, Act.put, List.setIfInBounds_toArray, List.set_cons_succ, List.set_cons_zero])
                          refine StepsOk.cons (fun vals w' hb hd K hK => ?_) ?_
                          · go_simp
                            exact hK.out _ _ _ (Below.refl _ _) rfl (by kernel_rfl)
                          refine StepsOk.cons (fun vals w' hb hd K hK => ?_) ?_
                          · have d7 := hd 7 (by decide)
                            simp only [List.getD_cons_zero, List.getD_cons_succ, SP.eq] at d7
                            go_simp
                            exact hK.out _ _ _ (Below.refl _ _) rfl (by simp only [d7, Act.put, List.setIfInBounds_toArray, List.set_cons_succ, List.set_cons_zero])
                          refine StepsOk.cons (fun vals w' hb hd K hK => ?_) ?_
                          · have d8 := hd 8 (by decide)
                            simp only [List.getD_cons_zero, List.getD_cons_succ, SP.eq] at d8
                            go_simp
                            exact hK.out _ _ _ (Below.refl _ _) rfl (by simp only [d8, Act.put, List.setIfInBounds_toArray, List.set_cons_succ, List.set_cons_zero])
                          refine StepsOk.cons (fun vals w' hb hd K hK => ?_) ?_
                          · have d9 := hd 9 (by decide)
                            simp only [List.getD_cons_zero, List.getD_cons_succ, SP.eq] at d9
                            have hS' := (hB10.kept hb).cell
                            go_simp
                            exact hK.out _ _ _ (Below.refl _ _) rfl (by simp only [d9, Act.put, List.setIfInBounds_toArray, List.set_cons_succ, List.set_cons_zero])
                          refine StepsOk.cons (fun vals w' hb hd K hK => ?_) ?_
                          · go_simp
                            exact hK.out _ _ _ (Below.refl _ _) rfl (by kernel_rfl)
                          refine StepsOk.cons (fun vals w' hb hd K hK => ?_) ?_
                          · have d11 := hd 11 (by decide)
                            simp only [List.getD_cons_zero, List.getD_cons_succ, SP.eq] at d11
                            go_simp
                            exact hK.out _ _ _ (Below.refl _ _) rfl (by simp only [d11, Act.put, List.setIfInBounds_toArray, List.set_cons_succ, List.set_cons_zero])
                          refine StepsOk.cons (fun vals w' hb hd K hK => ?_) ?_
                          · have d12 := hd 12 (by decide)
                            simp only [List.getD_cons_zero, List.getD_cons_succ, SP.eq] at d12
                            go_simp
                            exact hK.out _ _ _ (Below.refl _ _) rfl (by simp only [d12, Act.put, List.setIfInBounds_toArray, List.set_cons_succ, List.set_cons_zero])
                          refine StepsOk.cons (fun vals w' hb hd K hK => ?_) ?_
                          · have d13 := hd 13 (by decide)
                            simp only [List.getD_cons_zero, List.getD_cons_succ, SP.eq] at d13
                            have hS' := (hB10.kept hb).cell
                            go_simp
                            exact hK.out _ _ _ (Below.refl _ _) rfl (by simp only [d13, Act.put, List.setIfInBounds_toArray, List.set_cons_succ, List.set_cons_zero])
                          refine StepsOk.cons (fun vals w' hb hd K hK => ?_) ?_
                          · go_simp
                            exact hK.out _ _ _ (Below.refl _ _) rfl (by kernel_rfl)
                          refine StepsOk.cons (fun vals w' hb hd K hK => ?_) ?_
                          · have d14 := hd 14 (by decide)
                            simp only [List.getD_cons_zero, List.getD_cons_succ, SP.eq] at d14
                            have d15 := hd 15 (by decide)
                            simp only [List.getD_cons_zero, List.getD_cons_succ, SP.eq] at d15
                            go_simp
                            exact hK.out _ _ _ (Below.refl _ _) rfl (by simp only [d14, d15, Act.put, List.setIfInBounds_toArray, List.set_cons_succ, List.set_cons_zero])
                          refine StepsOk.cons (fun vals w' hb hd K hK => ?_) ?_
                          · have d6 := hd 6 (by decide)
                            simp only [List.getD_cons_zero, List.getD_cons_succ, SP.eq] at d6
                            have d10 := hd 10 (by decide)
                            simp only [List.getD_cons_zero, List.getD_cons_succ, SP.eq] at d10
                            have d16 := hd 16 (by decide)
                            simp only [List.getD_cons_zero, List.getD_cons_succ, SP.eq] at d16
                            have f1 : (0 : Int) ≤ (a5 : Int) + (N : Int) := by omega
                            have f2 : (a5 : Int) + (N : Int) ≤ (cb : Int) := by omega
                            have f3 : ((a5 : Int) + (N : Int)).toNat = a5 + N := by omega
                            have f4 : a5 ≤ a5 + N := by omega
                            have f5 : a5 + N - a5 = N := by omega
                            go_simp
                            rw [HAs.out]
                            exact hK.out _ _ _ (Below.refl _ _) rfl (by simp only [d6, d10, d16, Act.put, List.setIfInBounds_toArray, List.set_cons_succ, List.set_cons_zero])
                          refine StepsOk.cons (fun vals w' hb hd K hK => ?_) ?_
                          · have d17 := hd 17 (by decide)
                            simp only [List.getD_cons_zero, List.getD_cons_succ, SP.eq] at d17
                            go_simp
                            go_at_call 96
                            refine (clone_b As N (cb - a5) _ _ (HRs.out _ hb) (one_b _) (by omega)).mono ?_
                            rintro e wc ⟨vc, rfl, hoc, hbc⟩
                            exact hK.out _ _ _ hbc (RowP.own hoc HLen.out.symm rfl) (by simp only [d17, Act.put, List.setIfInBounds_toArray, List.set_cons_succ, List.set_cons_zero])
                          refine StepsOk.cons (fun vals w' hb hd K hK => ?_) ?_
                          · have d2 := hd 2 (by decide)
                            simp only [List.getD_cons_zero, List.getD_cons_succ, SP.eq] at d2
                            have d18 := hd 18 (by decide)
                            simp only [List.getD_cons_zero, List.getD_cons_succ, SP.eq] at d18
                            obtain ⟨Ac, cc, hvc, hd18⟩ := id d18
                            rw [hvc] at d18
                            go_simp
                            exact hK.out _ _ _ (Below.refl _ _) (PrP.mk (by unfold maxLen; omega) hbok d18) (by simp only [d2, hvc, Act.put, List.setIfInBounds_toArray, List.set_cons_succ, List.set_cons_zero])
                          refine StepsOk.cons (fun vals w' hb hd K hK => ?_) ?_
                          · have d19 := hd 19 (by decide)
                            simp only [List.getD_cons_zero, List.getD_cons_succ, SP.eq] at d19
                            obtain ⟨Ac, cc, hv, hp⟩ := d19.cells
                            go_simp
                            exact hK.out _ _ _ (bal (Below.refl _ _) _) (PsP.fresh _ [(s2, bs)] [_] _ _ 1 ⟨hp, trivial⟩ rfl rfl rfl (by decide) (fun i hi => Nat.lt_of_lt_of_le (hXp i hi) hb.size)) (by simp only [hv, Act.put, List.setIfInBounds_toArray, List.set_cons_succ, List.set_cons_zero])
                          exact StepsOk.nil
                        · intro vals wd hbd hd
                          have d1 := hd 1 (by decide)
                          have d20 := hd 20 (by decide)
                          simp only [List.getD_cons_zero, List.getD_cons_succ, SP.eq] at d1 d20
                          obtain ⟨Az, cz, fz, hvz, _⟩ := id d20
                          simp only [List.length_cons, List.length_nil, Nat.zero_add] at hvz
                          have hPd := hPs10.turn (X := fun _ => False) (Same.of_below hbd) (fun i hi => hbd.block i (hPs10.lt hi).2)
                          have hKd := hKs10.kept hbd
                          have hzd := hbd.size
                          obtain ⟨v21, w21, A21, c21, hr21, hP21, hb21, hg21, hv21, hl21⟩ := hPd.app 22 (by omega) d20 (by rw [HNp.out]; omega)
                          rw [hvz] at hr21
                          have hBd := hB10.kept hbd
                          have hB21 := hBd.same (hb21.block g (by omega))
                          have hT21 := (hTb10.kept hbd).same (hb21.block bt (by omega))
                          have hR21 := (hRb10.kept hbd).same (hb21.block w.heap.size (by omega))
                          rw [List.length_append, HNp.out] at hv21
                          simp only [List.length_cons, List.length_nil, Nat.zero_add] at hv21
                          subst hv21
                          have hK21 := hKd.beside (X' := fun i => i < bt + 1 ∨ (Value.slice A21 (np + 1) c21).ownBlock = some i) (Same.grown (X := fun i => i < bt + 1 ∨ (Value.slice Ap np cp).ownBlock = some i) hPd.choose_spec.1 (by decide) (fun i hi => .inr hi) hg21) (fun i hi => hg21.block i (hKd.lt hi).2 (fun e => by
                            obtain ⟨xs, ho, _⟩ := hKd
                            exact own_own_ne hPd.choose_spec.1 ho (by decide) i e.symm hi)) (fun i hi => by
                            rcases hi with h | h
                            · exact .inl (.inl h)
                            · rcases hl21 with e | e
                              · exact .inl (.inr (e ▸ h))
                              · rw [e] at h
                                simp only [Option.some.injEq] at h
                                exact .inr (by omega))
                          simp only [List.drop_succ_cons, List.drop_zero, fillA, fillL, List.setIfInBounds_toArray, List.set_cons_succ, List.set_cons_zero, Nat.zero_add, Nat.reduceAdd, d1, hvz]
                          clear hd
                          refine wpList_apr rfl (.tmp 69) (.tmp 88) rfl rfl rfl hr21 ?_
                          have cT21 := hT21.cell
                          have fT21 := hT21.frozen
                          have hgb : g < bt := by omega
                          have hzb := hb21.size
                          have hN21 : Near (fun i => i = g) w w21 := (hN10.trans (Near.of_below _ hbd)).step (S2 := fun i => bt + 1 ≤ i) ⟨hb21.os, hb21.tape, hb21.output, hb21.size, fun i hi hn => hb21.block i (by omega)⟩ (fun i hi => .inr (by omega))
                          have hT22 : Blk (w21.setCell ⟨bt, 1, none⟩ (.slice A21 (np + 1) c21)) bt 25 #[.string (strOfNums nm), .slice A21 (np + 1) c21, .slice Ak nk ck] := hT21.set_ 1 _
                          have hB22 := hB21.far (p := ⟨bt, 1, none⟩) (by show g ≠ bt; omega) (.slice A21 (np + 1) c21)
                          have hR22 := hR21.far (p := ⟨bt, 1, none⟩) (by show w.heap.size ≠ bt; omega) (.slice A21 (np + 1) c21)
                          have hP22 := hP21.turn (Same.set_in (X := fun i => i = bt) hT21 (by decide) rfl 1 (.slice A21 (np + 1) c21)) (fun i hi => Below.heap_setCell _ _ _ _ (by have := (hP21.lt hi).1; show i ≠ bt; omega))
                          have hK22 := hK21.turn (Same.set_in (X := fun i => i < bt + 1 ∨ (Value.slice A21 (np + 1) c21).ownBlock = some i) hT21 (by decide) (.inl (by omega)) 1 (.slice A21 (np + 1) c21)) (fun i hi => Below.heap_setCell _ _ _ _ (by have := (hK21.lt hi).1; show i ≠ bt; omega))
                          have hN22 : Near (fun i => i = g) w (w21.setCell ⟨bt, 1, none⟩ (.slice A21 (np + 1) c21)) := hN21.step ((Near.refl (fun i => i = bt) _).setCell (p := ⟨bt, 1, none⟩) rfl _) (fun i hi => .inr (by omega))
                          have hz22 : (w21.setCell ⟨bt, 1, none⟩ (.slice A21 (np + 1) c21)).heap.size = w21.heap.size := by simp
                          have HUp2 := Lib.hid (up_yes ⟨g, some ⟨b1, o1, none⟩, nb, cb, Ax, nx, cx⟩ a5 N l2 _ hB22 (by show a5 + N ≤ nb; omega) mb)
                          simp only [Rdr.cs] at HUp2
                          go_wp2_with (go_at_call 95; refine HUp2.out.mono ?_; rintro e wv ⟨rfl, hBv, hnv⟩)
                          have hzv := hnv.size
                          have hTv := hT22.same (hnv.block bt hT22.lt (by omega))
                          have hRv := hR22.same (hnv.block w.heap.size hR22.lt (by omega))
                          have hPv := hP22.turn (same_near (X := fun i => i = g) hnv hB22 rfl) (fun i hi => hnv.block i (hP22.lt hi).2 (by have := (hP22.lt hi).1; omega))
                          have hKv := hK22.turn (same_near (X := fun i => i < bt + 1 ∨ (Value.slice A21 (np + 1) c21).ownBlock = some i) hnv hB22 (.inl (by show g < bt + 1; omega))) (fun i hi => hnv.block i (hK22.lt hi).2 (by have := (hK22.lt hi).1; omega))
                          have hNv := hN22.trans hnv
                          obtain ⟨f', hf'⟩ : ∃ f', f = f' + 1 := ⟨f - 1, by have := HM.out.fuel; omega⟩
                          have HMn := Lib.hid (show Mid ⟨g, some ⟨b1, o1, none⟩, nb, cb, Ax, nx, cx⟩ b x nm d B (bt + 1) bt w.heap.size F0 f' (ps ++ [(s2, bs)]) ks (a5 + up4 N) l2 (.slice A21 (np + 1) c21) (.slice Ak nk ck) w wv from
                            ⟨by
                              have h1 := HM.out.spec
                              rw [hf', itemsP_prop HY4.out HY8.out HY12.out HTp.out (by rw [HA5.out]; exact hlong), HA5.out, HS2.out] at h1
                              rw [← h1]
                              show _ = itemsP (nodeP b x d) b x f' (ps ++ [(s2, (b.drop a5).take N)]) ks (a5 + up4 N) l2
                              rw [HBs.out],
                             by have := HM.out.fuel; have := HA5.out; omega,
                             by have := HM.out.few; rw [List.length_append]; simp only [List.length_cons, List.length_nil]; omega,
                             by have h4N : up4 N ≤ N + 3 := (by unfold up4; omega)
                                omega,
                             HM.out.lfew, hTv, hRv, hPv, hKv, hBv, hNv, by omega⟩)
                          have cR : wv.cell? ⟨g, 2, none⟩ = some (.int .i64 ((a5 + up4 N : Nat) : Int)) := hBv.cell 2
                          have cW : wr.cell? ⟨g, 2, none⟩ = some (.int .i64 (a2 : Int)) := cB 2
                          have h4N : up4 N ≤ N + 3 := by unfold up4; omega
                          have hlt : 50000 - (a5 + up4 N) < 50000 - a2 := by have := HA5.out; omega
                          go_roundw
                          case rel => exact ⟨f', _, _, _, _, _, _, HMn.out⟩
                          case measure => rw [cR, cW]; simp only [atC, Int.toNat_natCast]; exact hlt
                      · have e7 : decide ((N : Int) ≤ (nb : Int) - (a5 : Int)) = false := decide_eq_false (by omega)
                        refine wpAnyH_take (i := 11) (v := ?vyf11) rfl (by kernel_rfl) (by kernel_rfl) (by kernel_rfl) (fun _ _ _ h => h) (Or.inl ⟨by kernel_rfl, ?hyyf11⟩) hS3 ?restyf11
                        case hyyf11 =>
                          intro w hSw
                          clear hSw
                          go_simp
                          first | done | with_reducible rfl
                        (try simp only [List.getElem_toArray, List.getElem_cons_succ, List.getElem_cons_zero, Act.put, List.setIfInBounds_toArray, List.set_cons_zero, List.set_cons_succ])
                        refine wpAnyH_call (i := 12) (by kernel_rfl) rfl (by kernel_rfl) fun K hK => ?_
                        simp only [List.getElem_toArray, List.getElem_cons_succ, List.getElem_cons_zero]
                        go_simp
                        go_at_call 63
                        refine (must_no _).mono ?_
                        rintro e w10 ⟨rfl, rfl⟩
                        exact ⟨rfl, RNode.no (HNn.out (HM.out.spec.symm.trans (itemsP_long HY4.out HY8.out HY12.out HTp.out (by rw [HA5.out]; exact hlong)))) (hN9.trans (Near.of_below _ (Below.refl _ _).drew))⟩
                  · refine wpAnyH_call (i := 5) (by kernel_rfl) rfl (by kernel_rfl) fun K hK => ?_
                    simp only [List.getElem_toArray, List.getElem_cons_succ, List.getElem_cons_zero]
                    go_simp
                    go_at_call 64
                    refine (four_no ⟨g, some ⟨b1, o1, none⟩, nb, cb, Ax, nx, cx⟩ b x B a4 l2 w8.drew (hR8.below hb8d) hB8.drew (by show B ≤ w8.heap.size; omega) h12 (by omega)).mono ?_
                    rintro e w9 ⟨rfl, hn9⟩
                    have e48 : a4 = a2 + 8 := by have := HA3.out; have := HA4.out; omega
                    exact ⟨rfl, RNode.no (HNn.out (HM.out.spec.symm.trans (itemsP_p HY4.out HY8.out (by rw [← e48]; exact four4_no h12)))) (HM.out.near.trans ((hn8x.trans (Near.of_below _ (Below.refl _ _).drew)).trans hn9))⟩
                · have HF8 := Lib.hid (four_no ⟨g, some ⟨b1, o1, none⟩, nb, cb, Ax, nx, cx⟩ b x B a3 l2 w5 hR5 hB5 (by omega) h8 (by omega))
                  go_wp2_with (go_at_call 64; refine HF8.out.mono ?_; rintro e w8 ⟨rfl, hn8⟩)
                  exact ⟨rfl, RNode.no (HNn.out (HM.out.spec.symm.trans (itemsP_n HY4.out (by rw [HA3.out]; exact four4_no h8)))) (HM.out.near.trans (hn5.trans hn8))⟩
              · by_cases y1 : y = 1
                · subst y1
                  clear hM
                  go_upto_region 14 with (go_at_call 64; refine HF5.out.mono ?_; rintro e w5 ⟨rfl, hB5, hn5⟩)
                  have hn5 : Near (fun i => i = g) wr w5 := hn5
                  have hbl5 : Below B wr w5 := hn5.below (fun i hi => by omega) hBr
                  have hR5 := hR.below hbl5
                  have hz5 := hn5.size
                  clear HF5
                  have hgbt : g < bt := by omega
                  have hTb := (HM.out.box.same (hn5.block bt HM.out.box.lt (by omega))).drew
                  have hRb := (HM.out.res.same (hn5.block _ HM.out.res.lt (by omega))).drew
                  have hsm := same_near (X := fun i => i < bt + 1 ∨ vps.ownBlock = some i) hn5 HM.out.rdr (.inl (by show g < bt + 1; omega))
                  have hbd : Below w5.heap.size w5 w5.drew := (Below.refl _ _).drew
                  have hPs := (HM.out.ps.turn hsm (fun i hi => hn5.block i (HM.out.ps.lt hi).2 (by have := (HM.out.ps.lt hi).1; omega))).turn (X := fun _ => False) (Same.of_below hbd) (fun _ _ => rfl)
                  have hKs := (HM.out.ks.turn hsm (fun i hi => hn5.block i (HM.out.ks.lt hi).2 (by have := (HM.out.ks.lt hi).1; omega))).kept hbd
                  have hN5 := (HM.out.near.trans hn5).trans (Near.of_below _ hbd)
                  have hR6 := hR5.below (hbd.mono (show B ≤ w5.heap.size by omega))
                  have hB6 := hB5.drew
                  have hz6 : w5.drew.heap.size = w5.heap.size := rfl
                  clear hsm hbl5 hR5
                  obtain ⟨Ak, ck, hvk⟩ : ∃ A c, vks = .slice A ks.length c := by
                    obtain ⟨xs, h1, _⟩ := hKs
                    obtain ⟨A, c, e, _⟩ := own_slice h1
                    exact ⟨A, c, e⟩
                  subst hvk
                  have hfew := HM.out.few
                  obtain ⟨nk, hnk⟩ : ∃ m, ks.length = m := ⟨_, rfl⟩
                  have HNk := Lib.hid hnk
                  rw [hnk] at hTb hKs hfew
                  clear hnk
                  have hl2 := HM.out.lfew
                  have hIH := Lib.hid (IH.out ⟨g, Ab, nb, cb, Ax, nx, cx⟩ b x B a3 l2 (at_ + 1) w5.drew (by omega) (by omega) hR6 hB6 hBg (by omega) (by omega))
                  have ew : IntKind.i64.wrap (at_ + 1) = at_ + 1 := IntWalk.i64_in _ (by omega)
                  have cTb := hTb.cell
                  have fTb := hTb.frozen
                  refine wp_region_held_drew (S := fun W' : World => True) (by kernel_rfl) trivial (fun hHeld => ?_)
                  clear hHeld
                  refine wpAnyH_take (i := 0) (v := ?vyk0) rfl (by kernel_rfl) (by kernel_rfl) (by kernel_rfl) (fun _ _ _ h => h) (Or.inl ⟨by kernel_rfl, ?hyyk0⟩) trivial ?restyk0
                  case hyyk0 =>
                    intro w hSw
                    clear hSw
                    go_simp
                    first | done | with_reducible rfl
                  (try simp only [List.getElem_toArray, List.getElem_cons_succ, List.getElem_cons_zero, Act.put, List.setIfInBounds_toArray, List.set_cons_zero, List.set_cons_succ])
                  refine wpAnyH_take (i := 2) (v := ?vyk2) rfl (by kernel_rfl) (by kernel_rfl) (by kernel_rfl) (fun _ _ _ h => h) (Or.inl ⟨by kernel_rfl, ?hyyk2⟩) trivial ?restyk2
                  case hyyk2 =>
                    intro w hSw
                    clear hSw
                    go_simp
                    first | done | with_reducible rfl
                  (try simp only [List.getElem_toArray, List.getElem_cons_succ, List.getElem_cons_zero, Act.put, List.setIfInBounds_toArray, List.set_cons_zero, List.set_cons_succ])
                  refine wpAnyH_take (i := 3) (v := ?vyk3) rfl (by kernel_rfl) (by kernel_rfl) (by kernel_rfl) (fun _ _ _ h => h) (Or.inl ⟨by kernel_rfl, ?hyyk3⟩) trivial ?restyk3
                  case hyyk3 =>
                    intro w hSw
                    clear hSw
                    go_simp
                    first | done | with_reducible rfl
                  (try simp only [List.getElem_toArray, List.getElem_cons_succ, List.getElem_cons_zero, Act.put, List.setIfInBounds_toArray, List.set_cons_zero, List.set_cons_succ])
                  refine wpAnyH_take (i := 4) (v := ?vyk4) rfl (by kernel_rfl) (by kernel_rfl) (by kernel_rfl) (fun _ _ _ h => h) (Or.inl ⟨by kernel_rfl, ?hyyk4⟩) trivial ?restyk4
                  case hyyk4 =>
                    intro w hSw
                    clear hSw
                    go_simp
                    first | done | with_reducible rfl
                  (try simp only [List.getElem_toArray, List.getElem_cons_succ, List.getElem_cons_zero, Act.put, List.setIfInBounds_toArray, List.set_cons_zero, List.set_cons_succ])
                  refine wpAnyH_all (rs := [1, 5]) (by kernel_rfl) (by simp) fun j hj => ?_
                  have hj2 : j = 1 ∨ j = 5 := by simpa using hj
                  clear hj
                  rcases hj2 with rfl | rfl
                  · refine wpOp_do rfl (by kernel_rfl) fun K hK => ?_
                    simp only [List.getElem_toArray, List.getElem_cons_succ, List.getElem_cons_zero]
                    go_simp
                    refine hK.out _ _ trivial ?_
                    clear hK K
                    (try simp only [List.getElem_toArray, List.getElem_cons_succ, List.getElem_cons_zero, Act.put, List.setIfInBounds_toArray, List.set_cons_zero, List.set_cons_succ])
                    refine wpAnyH_call (i := 5) (by kernel_rfl) rfl (by kernel_rfl) fun K hK => ?_
                    simp only [List.getElem_toArray, List.getElem_cons_succ, List.getElem_cons_zero]
                    go_simp
                    go_at_call 65
                    refine hIH.out.mono ?_
                    rintro e w7 hr7
                    clear hIH cTb fTb
                    unfold RNode at hr7
                    rcases hnp : nodeP b x d a3 l2 with _ | ⟨t, a', l'⟩
                    · rw [hnp] at hr7
                      obtain ⟨rfl, hn7⟩ := hr7
                      exact ⟨rfl, RNode.no (HNn.out (HM.out.spec.symm.trans (itemsP_kid0 HY4.out (by rw [HA3.out]; exact hnp)))) (hN5.trans hn7)⟩
                    rw [hnp] at hr7
                    obtain ⟨s7, A1, n1, c1, A2, n2, c2, k7, rfl, hX7, hB7, hn7⟩ := hr7
                    have hnp7 := nodeP_at _ _ _ _ _ _ hnp
                    have hnl7 := nodeP_less _ _ _ _ _ _ hnp
                    have HNp7 := Lib.hid hnp
                    clear hnp
                    have hn7 : Near (fun i => i = g) w5.drew w7 := hn7
                    have hB7 : Blk w7 g 135 #[.slice Ab nb cb, .slice Ax nx cx, .int .i64 a', .int .i64 l'] := hB7
                    have hz7 := hn7.size
                    have hT7 := hTb.same (hn7.block bt hTb.lt (by omega))
                    have hR7 := hRb.same (hn7.block w.heap.size hRb.lt (by omega))
                    have hP7 := hPs.turn (same_near (X := fun i => i = g) hn7 hB6 rfl) (fun i hi => hn7.block i (hPs.lt hi).2 (by have := (hPs.lt hi).1; omega))
                    have hK7 := hKs.turn (same_near (X := fun i => i < bt + 1 ∨ vps.ownBlock = some i) hn7 hB6 (.inl (by show g < bt + 1; omega))) (fun i hi => hn7.block i (hKs.lt hi).2 (by have := (hKs.lt hi).1; omega))
                    have hXs : ∀ i, (((i < bt + 1 ∨ vps.ownBlock = some i)) ∨ (Value.slice Ak nk ck).ownBlock = some i) → i < w5.drew.heap.size := fun i hi => by
                      rcases hi with (hi | hi) | hi
                      · rw [hz6]; have := HM.out.size; omega
                      · exact (hPs.lt hi).2
                      · exact (hKs.lt hi).2
                    have hX7' := hX7.less (Y := fun i => ((i < bt + 1 ∨ vps.ownBlock = some i)) ∨ (Value.slice Ak nk ck).ownBlock = some i) hXs
                    have hN7 := hN5.trans hn7
                    refine hK.out _ _ trivial ?_
                    clear hK K
                    (try simp only [List.getElem_toArray, List.getElem_cons_succ, List.getElem_cons_zero, Act.put, List.setIfInBounds_toArray, List.set_cons_zero, List.set_cons_succ])
                    clear hTb hRb hPs hKs hN5 hB6 hn5 hX7
                    refine wpAnyH_call (i := 6) (by kernel_rfl) rfl (by kernel_rfl) fun K hK => ?_
                    simp only [List.getElem_toArray, List.getElem_cons_succ, List.getElem_cons_zero]
                    go_simp
                    have hba := bal (Below.refl w7.heap.size w7) (.cells #[.string s7, .slice A1 n1 c1, .slice A2 n2 c2] 25)
                    have hT8 := hT7.kept hba
                    have hx8 := TsP.fresh w7 [t] [_] #[.string s7, .slice A1 n1 c1, .slice A2 n2 c2] _ 1 ⟨⟨_, hX7'⟩, trivial⟩ rfl rfl rfl (by decide) (fun i hi => Nat.lt_of_lt_of_le (hXs i hi) hz7)
                    have hR8 := hR7.kept hba
                    have hB8 := hB7.kept hba
                    have hP8 := hP7.turn (X := fun _ => False) (Same.of_below hba) (fun i hi => hba.block i (hP7.lt hi).2)
                    have hK8 := hK7.kept hba
                    have hN8 := hN7.trans (Near.of_below _ hba)
                    have hz8 : (w7.alloc (.cells #[.string s7, .slice A1 n1 c1, .slice A2 n2 c2] 25)).heap.size = w7.heap.size + 1 := by simp
                    have hbs := HM.out.size
                    obtain ⟨v9, w9, A9, c9, hr9, hK9, hb9, hg9, hv9⟩ := hK8.app2 23 (by omega) hx8 (by rw [HNk.out]; omega)
                    rw [List.length_append, HNk.out] at hv9
                    simp only [List.length_cons, List.length_nil, Nat.zero_add] at hv9
                    subst hv9
                    refine hK.out _ _ trivial ?_
                    clear hK K
                    (try simp only [List.getElem_toArray, List.getElem_cons_succ, List.getElem_cons_zero, Act.put, List.setIfInBounds_toArray, List.set_cons_zero, List.set_cons_succ])
                    generalize w7.alloc (.cells #[.string s7, .slice A1 n1 c1, .slice A2 n2 c2] 25) = w8 at *
                    clear hba hX7'
                    refine wpAnyH_call (i := 7) (by kernel_rfl) rfl (by kernel_rfl) fun K hK => ?_
                    simp only [List.getElem_toArray, List.getElem_cons_succ, List.getElem_cons_zero]
                    refine Lib.wp_append_run _ (.tmp 97) (.tmp 102) _ _ rfl (.slice Ak nk ck) (.slice (some ⟨w7.heap.size, 0, none⟩) 1 1) rfl rfl _ _ hr9 ?_
                    refine hK.out _ _ trivial ?_
                    clear hK K
                    (try simp only [List.getElem_toArray, List.getElem_cons_succ, List.getElem_cons_zero, Act.put, List.setIfInBounds_toArray, List.set_cons_zero, List.set_cons_succ])
                    have hzb9 := hb9.size
                    have hT9 := hT8.same (hb9.block bt (by omega))
                    have hR9 := hR8.same (hb9.block w.heap.size (by omega))
                    have hB9 := hB8.same (hb9.block g (by omega))
                    have hP9 := hP8.turn (Same.grown (X := fun i => (Value.slice Ak nk ck).ownBlock = some i) hK8.choose_spec.1 (by decide) (fun i hi => hi) hg9) (fun i hi => hg9.block i (hP8.lt hi).2 (fun e => by
                      obtain ⟨css, ho, _⟩ := hP8
                      exact own_own_ne hK8.choose_spec.1 ho (by decide) i e.symm hi))
                    have hN9 : Near (fun i => i = g) w w9 := hN8.step (S2 := fun i => bt + 1 ≤ i) ⟨hb9.os, hb9.tape, hb9.output, hb9.size, fun i hi hn => hb9.block i (by omega)⟩ (fun i hi => .inr (by omega))
                    clear hT8 hR8 hB8 hP8 hK8 hN8 hg9 hT7 hR7 hB7 hP7 hK7 hN7 hn7 hx8 hr9
                    have cT9 := hT9.cell
                    have fT9 := hT9.frozen
                    refine wpAnyH_take (i := 8) (v := ?vyka8) rfl (by kernel_rfl) (by kernel_rfl) (by kernel_rfl) (fun _ _ _ h => h) (Or.inl ⟨by kernel_rfl, ?hyyka8⟩) trivial ?restyka8
                    case hyyka8 =>
                      intro w hSw
                      clear hSw
                      go_simp
                      first | done | with_reducible rfl
                    (try simp only [List.getElem_toArray, List.getElem_cons_succ, List.getElem_cons_zero, Act.put, List.setIfInBounds_toArray, List.set_cons_zero, List.set_cons_succ])
                    refine wpAnyH_call (i := 9) (by kernel_rfl) rfl (by kernel_rfl) fun K hK => ?_
                    simp only [List.getElem_toArray, List.getElem_cons_succ, List.getElem_cons_zero]
                    go_simp
                    refine hK.out _ _ trivial ?_
                    clear hK K
                    (try simp only [List.getElem_toArray, List.getElem_cons_succ, List.getElem_cons_zero, Act.put, List.setIfInBounds_toArray, List.set_cons_zero, List.set_cons_succ])
                    refine wpAnyH_done (by kernel_rfl) ?_ _
                    have hTv : Blk (w9.setCell ⟨bt, 2, none⟩ (.slice A9 (nk + 1) c9)) bt 25 #[.string (strOfNums nm), vps, .slice A9 (nk + 1) c9] := hT9.set_ 2 _
                    have hBv := hB9.far (p := ⟨bt, 2, none⟩) (by show g ≠ bt; omega) (.slice A9 (nk + 1) c9)
                    have hRv := hR9.far (p := ⟨bt, 2, none⟩) (by show w.heap.size ≠ bt; omega) (.slice A9 (nk + 1) c9)
                    have hPv := hP9.turn (Same.set_in (X := fun i => i = bt) hT9 (by decide) rfl 2 (.slice A9 (nk + 1) c9)) (fun i hi => Below.heap_setCell _ _ _ _ (by have := (hP9.lt hi).1; show i ≠ bt; omega))
                    have hKv := hK9.turn (Same.set_in (X := fun i => i < bt + 1 ∨ vps.ownBlock = some i) hT9 (by decide) (.inl (by omega)) 2 (.slice A9 (nk + 1) c9)) (fun i hi => Below.heap_setCell _ _ _ _ (by have := (hK9.lt hi).1; show i ≠ bt; omega))
                    have hNv : Near (fun i => i = g) w (w9.setCell ⟨bt, 2, none⟩ (.slice A9 (nk + 1) c9)) := hN9.step ((Near.refl (fun i => i = bt) _).setCell (p := ⟨bt, 2, none⟩) rfl _) (fun i hi => .inr (by omega))
                    have hzv : (w9.setCell ⟨bt, 2, none⟩ (.slice A9 (nk + 1) c9)).heap.size = w9.heap.size := by simp
                    obtain ⟨f', hf'⟩ : ∃ f', f = f' + 1 := ⟨f - 1, by have := HM.out.fuel; omega⟩
                    have HMn := Lib.hid (show Mid ⟨g, Ab, nb, cb, Ax, nx, cx⟩ b x nm d B (bt + 1) bt w.heap.size F0 f' ps (ks ++ [t]) a' l' vps (.slice A9 (nk + 1) c9) w _ from
                      ⟨by
                        have h1 := HM.out.spec
                        rw [hf', itemsP_kid HY4.out, HA3.out, HNp7.out] at h1
                        exact h1,
                       by have := HM.out.fuel; have := HA3.out; omega,
                       by have := HM.out.few; rw [List.length_append]; simp only [List.length_cons, List.length_nil]; omega,
                       by omega, by omega,
                       hTv, hRv, hPv, hKv, hBv, hNv, by omega⟩)
                    have cR : (w9.setCell ⟨bt, 2, none⟩ (.slice A9 (nk + 1) c9)).cell? ⟨g, 2, none⟩ = some (.int .i64 (a' : Int)) := hBv.cell 2
                    have cW : wr.cell? ⟨g, 2, none⟩ = some (.int .i64 (a2 : Int)) := cB 2
                    have hlt : 50000 - a' < 50000 - a2 := by have := HA3.out; omega
                    go_wp2_with fail
                    go_roundw
                    case rel => exact ⟨f', _, _, _, _, _, _, HMn.out⟩
                    case measure => rw [cR, cW]; simp only [atC, Int.toNat_natCast]; exact hlt
                  · refine wpOp_do rfl (by kernel_rfl) fun K hK => ?_
                    simp only [List.getElem_toArray, List.getElem_cons_succ, List.getElem_cons_zero]
                    go_simp
                    go_at_call 65
                    refine hIH.out.mono ?_
                    rintro e w7 hr7
                    clear hIH cTb fTb
                    unfold RNode at hr7
                    rcases hnp : nodeP b x d a3 l2 with _ | ⟨t, a', l'⟩
                    · rw [hnp] at hr7
                      obtain ⟨rfl, hn7⟩ := hr7
                      exact ⟨rfl, RNode.no (HNn.out (HM.out.spec.symm.trans (itemsP_kid0 HY4.out (by rw [HA3.out]; exact hnp)))) (hN5.trans hn7)⟩
                    rw [hnp] at hr7
                    obtain ⟨s7, A1, n1, c1, A2, n2, c2, k7, rfl, hX7, hB7, hn7⟩ := hr7
                    have hnp7 := nodeP_at _ _ _ _ _ _ hnp
                    have hnl7 := nodeP_less _ _ _ _ _ _ hnp
                    have HNp7 := Lib.hid hnp
                    clear hnp
                    have hn7 : Near (fun i => i = g) w5.drew w7 := hn7
                    have hB7 : Blk w7 g 135 #[.slice Ab nb cb, .slice Ax nx cx, .int .i64 a', .int .i64 l'] := hB7
                    have hz7 := hn7.size
                    have hT7 := hTb.same (hn7.block bt hTb.lt (by omega))
                    have hR7 := hRb.same (hn7.block w.heap.size hRb.lt (by omega))
                    have hP7 := hPs.turn (same_near (X := fun i => i = g) hn7 hB6 rfl) (fun i hi => hn7.block i (hPs.lt hi).2 (by have := (hPs.lt hi).1; omega))
                    have hK7 := hKs.turn (same_near (X := fun i => i < bt + 1 ∨ vps.ownBlock = some i) hn7 hB6 (.inl (by show g < bt + 1; omega))) (fun i hi => hn7.block i (hKs.lt hi).2 (by have := (hKs.lt hi).1; omega))
                    have hXs : ∀ i, (((i < bt + 1 ∨ vps.ownBlock = some i)) ∨ (Value.slice Ak nk ck).ownBlock = some i) → i < w5.drew.heap.size := fun i hi => by
                      rcases hi with (hi | hi) | hi
                      · rw [hz6]; have := HM.out.size; omega
                      · exact (hPs.lt hi).2
                      · exact (hKs.lt hi).2
                    have hX7' := hX7.less (Y := fun i => ((i < bt + 1 ∨ vps.ownBlock = some i)) ∨ (Value.slice Ak nk ck).ownBlock = some i) hXs
                    have hN7 := hN5.trans hn7
                    refine hK.out _ _ trivial ?_
                    clear hK K
                    (try simp only [List.getElem_toArray, List.getElem_cons_succ, List.getElem_cons_zero, Act.put, List.setIfInBounds_toArray, List.set_cons_zero, List.set_cons_succ])
                    clear hTb hRb hPs hKs hN5 hB6 hn5 hX7
                    have cT7 := hT7.cell
                    have fT7 := hT7.frozen
                    refine wpAnyH_all (rs := [1, 6]) (by kernel_rfl) (by simp) fun j hj => ?_
                    have hj2 : j = 1 ∨ j = 6 := by simpa using hj
                    clear hj
                    rcases hj2 with rfl | rfl
                    · refine wpOp_do rfl (by kernel_rfl) fun K hK => ?_
                      simp only [List.getElem_toArray, List.getElem_cons_succ, List.getElem_cons_zero]
                      go_simp
                      refine hK.out _ _ trivial ?_
                      clear hK K
                      (try simp only [List.getElem_toArray, List.getElem_cons_succ, List.getElem_cons_zero, Act.put, List.setIfInBounds_toArray, List.set_cons_zero, List.set_cons_succ])
                      clear cT7 fT7
                      refine wpAnyH_call (i := 6) (by kernel_rfl) rfl (by kernel_rfl) fun K hK => ?_
                      simp only [List.getElem_toArray, List.getElem_cons_succ, List.getElem_cons_zero]
                      go_simp
                      have hba := bal (Below.refl w7.heap.size w7) (.cells #[.string s7, .slice A1 n1 c1, .slice A2 n2 c2] 25)
                      have hT8 := hT7.kept hba
                      have hx8 := TsP.fresh w7 [t] [_] #[.string s7, .slice A1 n1 c1, .slice A2 n2 c2] _ 1 ⟨⟨_, hX7'⟩, trivial⟩ rfl rfl rfl (by decide) (fun i hi => Nat.lt_of_lt_of_le (hXs i hi) hz7)
                      have hR8 := hR7.kept hba
                      have hB8 := hB7.kept hba
                      have hP8 := hP7.turn (X := fun _ => False) (Same.of_below hba) (fun i hi => hba.block i (hP7.lt hi).2)
                      have hK8 := hK7.kept hba
                      have hN8 := hN7.trans (Near.of_below _ hba)
                      have hz8 : (w7.alloc (.cells #[.string s7, .slice A1 n1 c1, .slice A2 n2 c2] 25)).heap.size = w7.heap.size + 1 := by simp
                      have hbs := HM.out.size
                      obtain ⟨v9, w9, A9, c9, hr9, hK9, hb9, hg9, hv9⟩ := hK8.app2 23 (by omega) hx8 (by rw [HNk.out]; omega)
                      rw [List.length_append, HNk.out] at hv9
                      simp only [List.length_cons, List.length_nil, Nat.zero_add] at hv9
                      subst hv9
                      refine hK.out _ _ trivial ?_
                      clear hK K
                      (try simp only [List.getElem_toArray, List.getElem_cons_succ, List.getElem_cons_zero, Act.put, List.setIfInBounds_toArray, List.set_cons_zero, List.set_cons_succ])
                      generalize w7.alloc (.cells #[.string s7, .slice A1 n1 c1, .slice A2 n2 c2] 25) = w8 at *
                      clear hba hX7'
                      refine wpAnyH_call (i := 7) (by kernel_rfl) rfl (by kernel_rfl) fun K hK => ?_
                      simp only [List.getElem_toArray, List.getElem_cons_succ, List.getElem_cons_zero]
                      refine Lib.wp_append_run _ (.tmp 97) (.tmp 102) _ _ rfl (.slice Ak nk ck) (.slice (some ⟨w7.heap.size, 0, none⟩) 1 1) rfl rfl _ _ hr9 ?_
                      refine hK.out _ _ trivial ?_
                      clear hK K
                      (try simp only [List.getElem_toArray, List.getElem_cons_succ, List.getElem_cons_zero, Act.put, List.setIfInBounds_toArray, List.set_cons_zero, List.set_cons_succ])
                      have hzb9 := hb9.size
                      have hT9 := hT8.same (hb9.block bt (by omega))
                      have hR9 := hR8.same (hb9.block w.heap.size (by omega))
                      have hB9 := hB8.same (hb9.block g (by omega))
                      have hP9 := hP8.turn (Same.grown (X := fun i => (Value.slice Ak nk ck).ownBlock = some i) hK8.choose_spec.1 (by decide) (fun i hi => hi) hg9) (fun i hi => hg9.block i (hP8.lt hi).2 (fun e => by
                        obtain ⟨css, ho, _⟩ := hP8
                        exact own_own_ne hK8.choose_spec.1 ho (by decide) i e.symm hi))
                      have hN9 : Near (fun i => i = g) w w9 := hN8.step (S2 := fun i => bt + 1 ≤ i) ⟨hb9.os, hb9.tape, hb9.output, hb9.size, fun i hi hn => hb9.block i (by omega)⟩ (fun i hi => .inr (by omega))
                      clear hT8 hR8 hB8 hP8 hK8 hN8 hg9 hT7 hR7 hB7 hP7 hK7 hN7 hn7 hx8 hr9
                      have cT9 := hT9.cell
                      have fT9 := hT9.frozen
                      refine wpAnyH_take (i := 8) (v := ?vykb8) rfl (by kernel_rfl) (by kernel_rfl) (by kernel_rfl) (fun _ _ _ h => h) (Or.inl ⟨by kernel_rfl, ?hyykb8⟩) trivial ?restykb8
                      case hyykb8 =>
                        intro w hSw
                        clear hSw
                        go_simp
                        first | done | with_reducible rfl
                      (try simp only [List.getElem_toArray, List.getElem_cons_succ, List.getElem_cons_zero, Act.put, List.setIfInBounds_toArray, List.set_cons_zero, List.set_cons_succ])
                      refine wpAnyH_call (i := 9) (by kernel_rfl) rfl (by kernel_rfl) fun K hK => ?_
                      simp only [List.getElem_toArray, List.getElem_cons_succ, List.getElem_cons_zero]
                      go_simp
                      refine hK.out _ _ trivial ?_
                      clear hK K
                      (try simp only [List.getElem_toArray, List.getElem_cons_succ, List.getElem_cons_zero, Act.put, List.setIfInBounds_toArray, List.set_cons_zero, List.set_cons_succ])
                      refine wpAnyH_done (by kernel_rfl) ?_ _
                      have hTv : Blk (w9.setCell ⟨bt, 2, none⟩ (.slice A9 (nk + 1) c9)) bt 25 #[.string (strOfNums nm), vps, .slice A9 (nk + 1) c9] := hT9.set_ 2 _
                      have hBv := hB9.far (p := ⟨bt, 2, none⟩) (by show g ≠ bt; omega) (.slice A9 (nk + 1) c9)
                      have hRv := hR9.far (p := ⟨bt, 2, none⟩) (by show w.heap.size ≠ bt; omega) (.slice A9 (nk + 1) c9)
                      have hPv := hP9.turn (Same.set_in (X := fun i => i = bt) hT9 (by decide) rfl 2 (.slice A9 (nk + 1) c9)) (fun i hi => Below.heap_setCell _ _ _ _ (by have := (hP9.lt hi).1; show i ≠ bt; omega))
                      have hKv := hK9.turn (Same.set_in (X := fun i => i < bt + 1 ∨ vps.ownBlock = some i) hT9 (by decide) (.inl (by omega)) 2 (.slice A9 (nk + 1) c9)) (fun i hi => Below.heap_setCell _ _ _ _ (by have := (hK9.lt hi).1; show i ≠ bt; omega))
                      have hNv : Near (fun i => i = g) w (w9.setCell ⟨bt, 2, none⟩ (.slice A9 (nk + 1) c9)) := hN9.step ((Near.refl (fun i => i = bt) _).setCell (p := ⟨bt, 2, none⟩) rfl _) (fun i hi => .inr (by omega))
                      have hzv : (w9.setCell ⟨bt, 2, none⟩ (.slice A9 (nk + 1) c9)).heap.size = w9.heap.size := by simp
                      obtain ⟨f', hf'⟩ : ∃ f', f = f' + 1 := ⟨f - 1, by have := HM.out.fuel; omega⟩
                      have HMn := Lib.hid (show Mid ⟨g, Ab, nb, cb, Ax, nx, cx⟩ b x nm d B (bt + 1) bt w.heap.size F0 f' ps (ks ++ [t]) a' l' vps (.slice A9 (nk + 1) c9) w _ from
                        ⟨by
                          have h1 := HM.out.spec
                          rw [hf', itemsP_kid HY4.out, HA3.out, HNp7.out] at h1
                          exact h1,
                         by have := HM.out.fuel; have := HA3.out; omega,
                         by have := HM.out.few; rw [List.length_append]; simp only [List.length_cons, List.length_nil]; omega,
                         by omega, by omega,
                         hTv, hRv, hPv, hKv, hBv, hNv, by omega⟩)
                      have cR : (w9.setCell ⟨bt, 2, none⟩ (.slice A9 (nk + 1) c9)).cell? ⟨g, 2, none⟩ = some (.int .i64 (a' : Int)) := hBv.cell 2
                      have cW : wr.cell? ⟨g, 2, none⟩ = some (.int .i64 (a2 : Int)) := cB 2
                      have hlt : 50000 - a' < 50000 - a2 := by have := HA3.out; omega
                      go_wp2_with fail
                      go_roundw
                      case rel => exact ⟨f', _, _, _, _, _, _, HMn.out⟩
                      case measure => rw [cR, cW]; simp only [atC, Int.toNat_natCast]; exact hlt
                    · refine wpOp_do rfl (by kernel_rfl) fun K hK => ?_
                      simp only [List.getElem_toArray, List.getElem_cons_succ, List.getElem_cons_zero]
                      go_simp
                      clear cT7 fT7
                      have hba := bal (Below.refl w7.heap.size w7) (.cells #[.string s7, .slice A1 n1 c1, .slice A2 n2 c2] 25)
                      have hT8 := hT7.kept hba
                      have hx8 := TsP.fresh w7 [t] [_] #[.string s7, .slice A1 n1 c1, .slice A2 n2 c2] _ 1 ⟨⟨_, hX7'⟩, trivial⟩ rfl rfl rfl (by decide) (fun i hi => Nat.lt_of_lt_of_le (hXs i hi) hz7)
                      have hR8 := hR7.kept hba
                      have hB8 := hB7.kept hba
                      have hP8 := hP7.turn (X := fun _ => False) (Same.of_below hba) (fun i hi => hba.block i (hP7.lt hi).2)
                      have hK8 := hK7.kept hba
                      have hN8 := hN7.trans (Near.of_below _ hba)
                      have hz8 : (w7.alloc (.cells #[.string s7, .slice A1 n1 c1, .slice A2 n2 c2] 25)).heap.size = w7.heap.size + 1 := by simp
                      have hbs := HM.out.size
                      obtain ⟨v9, w9, A9, c9, hr9, hK9, hb9, hg9, hv9⟩ := hK8.app2 23 (by omega) hx8 (by rw [HNk.out]; omega)
                      rw [List.length_append, HNk.out] at hv9
                      simp only [List.length_cons, List.length_nil, Nat.zero_add] at hv9
                      subst hv9
                      refine hK.out _ _ trivial ?_
                      clear hK K
                      (try simp only [List.getElem_toArray, List.getElem_cons_succ, List.getElem_cons_zero, Act.put, List.setIfInBounds_toArray, List.set_cons_zero, List.set_cons_succ])
                      generalize w7.alloc (.cells #[.string s7, .slice A1 n1 c1, .slice A2 n2 c2] 25) = w8 at *
                      clear hba hX7'
                      have cT8 := hT8.cell
                      have fT8 := hT8.frozen
                      refine wpAnyH_call (i := 1) (by kernel_rfl) rfl (by kernel_rfl) fun K hK => ?_
                      simp only [List.getElem_toArray, List.getElem_cons_succ, List.getElem_cons_zero]
                      go_simp
                      refine hK.out _ _ trivial ?_
                      clear hK K
                      (try simp only [List.getElem_toArray, List.getElem_cons_succ, List.getElem_cons_zero, Act.put, List.setIfInBounds_toArray, List.set_cons_zero, List.set_cons_succ])
                      clear cT8 fT8
                      refine wpAnyH_call (i := 7) (by kernel_rfl) rfl (by kernel_rfl) fun K hK => ?_
                      simp only [List.getElem_toArray, List.getElem_cons_succ, List.getElem_cons_zero]
                      refine Lib.wp_append_run _ (.tmp 97) (.tmp 102) _ _ rfl (.slice Ak nk ck) (.slice (some ⟨w7.heap.size, 0, none⟩) 1 1) rfl rfl _ _ hr9 ?_
                      refine hK.out _ _ trivial ?_
                      clear hK K
                      (try simp only [List.getElem_toArray, List.getElem_cons_succ, List.getElem_cons_zero, Act.put, List.setIfInBounds_toArray, List.set_cons_zero, List.set_cons_succ])
                      have hzb9 := hb9.size
                      have hT9 := hT8.same (hb9.block bt (by omega))
                      have hR9 := hR8.same (hb9.block w.heap.size (by omega))
                      have hB9 := hB8.same (hb9.block g (by omega))
                      have hP9 := hP8.turn (Same.grown (X := fun i => (Value.slice Ak nk ck).ownBlock = some i) hK8.choose_spec.1 (by decide) (fun i hi => hi) hg9) (fun i hi => hg9.block i (hP8.lt hi).2 (fun e => by
                        obtain ⟨css, ho, _⟩ := hP8
                        exact own_own_ne hK8.choose_spec.1 ho (by decide) i e.symm hi))
                      have hN9 : Near (fun i => i = g) w w9 := hN8.step (S2 := fun i => bt + 1 ≤ i) ⟨hb9.os, hb9.tape, hb9.output, hb9.size, fun i hi hn => hb9.block i (by omega)⟩ (fun i hi => .inr (by omega))
                      clear hT8 hR8 hB8 hP8 hK8 hN8 hg9 hT7 hR7 hB7 hP7 hK7 hN7 hn7 hx8 hr9
                      have cT9 := hT9.cell
                      have fT9 := hT9.frozen
                      refine wpAnyH_take (i := 8) (v := ?vykc8) rfl (by kernel_rfl) (by kernel_rfl) (by kernel_rfl) (fun _ _ _ h => h) (Or.inl ⟨by kernel_rfl, ?hyykc8⟩) trivial ?restykc8
                      case hyykc8 =>
                        intro w hSw
                        clear hSw
                        go_simp
                        first | done | with_reducible rfl
                      (try simp only [List.getElem_toArray, List.getElem_cons_succ, List.getElem_cons_zero, Act.put, List.setIfInBounds_toArray, List.set_cons_zero, List.set_cons_succ])
                      refine wpAnyH_call (i := 9) (by kernel_rfl) rfl (by kernel_rfl) fun K hK => ?_
                      simp only [List.getElem_toArray, List.getElem_cons_succ, List.getElem_cons_zero]
                      go_simp
                      refine hK.out _ _ trivial ?_
                      clear hK K
                      (try simp only [List.getElem_toArray, List.getElem_cons_succ, List.getElem_cons_zero, Act.put, List.setIfInBounds_toArray, List.set_cons_zero, List.set_cons_succ])
                      refine wpAnyH_done (by kernel_rfl) ?_ _
                      have hTv : Blk (w9.setCell ⟨bt, 2, none⟩ (.slice A9 (nk + 1) c9)) bt 25 #[.string (strOfNums nm), vps, .slice A9 (nk + 1) c9] := hT9.set_ 2 _
                      have hBv := hB9.far (p := ⟨bt, 2, none⟩) (by show g ≠ bt; omega) (.slice A9 (nk + 1) c9)
                      have hRv := hR9.far (p := ⟨bt, 2, none⟩) (by show w.heap.size ≠ bt; omega) (.slice A9 (nk + 1) c9)
                      have hPv := hP9.turn (Same.set_in (X := fun i => i = bt) hT9 (by decide) rfl 2 (.slice A9 (nk + 1) c9)) (fun i hi => Below.heap_setCell _ _ _ _ (by have := (hP9.lt hi).1; show i ≠ bt; omega))
                      have hKv := hK9.turn (Same.set_in (X := fun i => i < bt + 1 ∨ vps.ownBlock = some i) hT9 (by decide) (.inl (by omega)) 2 (.slice A9 (nk + 1) c9)) (fun i hi => Below.heap_setCell _ _ _ _ (by have := (hK9.lt hi).1; show i ≠ bt; omega))
                      have hNv : Near (fun i => i = g) w (w9.setCell ⟨bt, 2, none⟩ (.slice A9 (nk + 1) c9)) := hN9.step ((Near.refl (fun i => i = bt) _).setCell (p := ⟨bt, 2, none⟩) rfl _) (fun i hi => .inr (by omega))
                      have hzv : (w9.setCell ⟨bt, 2, none⟩ (.slice A9 (nk + 1) c9)).heap.size = w9.heap.size := by simp
                      obtain ⟨f', hf'⟩ : ∃ f', f = f' + 1 := ⟨f - 1, by have := HM.out.fuel; omega⟩
                      have HMn := Lib.hid (show Mid ⟨g, Ab, nb, cb, Ax, nx, cx⟩ b x nm d B (bt + 1) bt w.heap.size F0 f' ps (ks ++ [t]) a' l' vps (.slice A9 (nk + 1) c9) w _ from
                        ⟨by
                          have h1 := HM.out.spec
                          rw [hf', itemsP_kid HY4.out, HA3.out, HNp7.out] at h1
                          exact h1,
                         by have := HM.out.fuel; have := HA3.out; omega,
                         by have := HM.out.few; rw [List.length_append]; simp only [List.length_cons, List.length_nil]; omega,
                         by omega, by omega,
                         hTv, hRv, hPv, hKv, hBv, hNv, by omega⟩)
                      have cR : (w9.setCell ⟨bt, 2, none⟩ (.slice A9 (nk + 1) c9)).cell? ⟨g, 2, none⟩ = some (.int .i64 (a' : Int)) := hBv.cell 2
                      have cW : wr.cell? ⟨g, 2, none⟩ = some (.int .i64 (a2 : Int)) := cB 2
                      have hlt : 50000 - a' < 50000 - a2 := by have := HA3.out; omega
                      go_wp2_with fail
                      go_roundw
                      case rel => exact ⟨f', _, _, _, _, _, _, HMn.out⟩
                      case measure => rw [cR, cW]; simp only [atC, Int.toNat_natCast]; exact hlt
                · by_cases y2 : y = 2
                  · subst y2
                    clear hM
                    go_upto_region 16 with (go_at_call 64; refine HF5.out.mono ?_; rintro e w5 ⟨rfl, hB5, hn5⟩)
                    have hn5 : Near (fun i => i = g) wr w5 := hn5
                    have hz5 := hn5.size
                    clear HF5
                    have hgbt : g < bt := by omega
                    have hTb := HM.out.box.same (hn5.block bt HM.out.box.lt (by omega))
                    have hRb := HM.out.res.same (hn5.block _ HM.out.res.lt (by omega))
                    have hsm := same_near (X := fun i => i < bt + 1 ∨ vps.ownBlock = some i) hn5 HM.out.rdr (.inl (by show g < bt + 1; omega))
                    have hPs := (HM.out.ps.turn hsm (fun i hi => hn5.block i (HM.out.ps.lt hi).2 (by have := (HM.out.ps.lt hi).1; omega)))
                    have hKs := (HM.out.ks.turn hsm (fun i hi => hn5.block i (HM.out.ks.lt hi).2 (by have := (HM.out.ks.lt hi).1; omega)))
                    have hN5 := HM.out.near.trans hn5
                    obtain ⟨Ak, ck, hvk⟩ : ∃ A c, vks = .slice A ks.length c := by
                      obtain ⟨xs, h1, _⟩ := hKs
                      obtain ⟨A, c, e, _⟩ := own_slice h1
                      exact ⟨A, c, e⟩
                    subst hvk
                    obtain ⟨Ap, cp, hvp⟩ : ∃ A c, vps = .slice A ps.length c := by
                      obtain ⟨css, h1, _⟩ := hPs
                      obtain ⟨A, c, e, _⟩ := own_slice h1
                      exact ⟨A, c, e⟩
                    subst hvp
                    have hn2 : (strOfNums nm).size ≤ maxLen := by rw [HSn.out]; unfold maxLen; omega
                    obtain ⟨cs, kt, hcs, hXt⟩ := TrP.mk (X := fun i => i < w.heap.size + 1) hn2 (hPs.ps (fun i hi => by omega)) ((hKs.less (Y := fun i => i < w.heap.size + 1) (fun i hi => .inl (by omega))).ts (fun i hi => by omega))
                    have hcs : cs = [.string (strOfNums nm), .slice Ap ps.length cp, .slice Ak ks.length ck] := by
                      have := congrArg (fun v => match v with | Value.agg a => a.toList | _ => []) hcs
                      simpa using this.symm
                    subst hcs
                    obtain ⟨hRf, hXf, _⟩ := named_tree (B := w.heap.size) (w := w5) (Nat.le_refl _) hRb (by show w.heap.size < w.heap.size + 1; omega) hXt (Below.refl _ _)
                    have hBf : Blk (((w5.setCell ⟨w.heap.size, 0, none⟩ (.string (strOfNums nm))).setCell ⟨w.heap.size, 1, none⟩ (.slice Ap ps.length cp)).setCell ⟨w.heap.size, 2, none⟩ (.slice Ak ks.length ck)) g 135 #[.slice Ab nb cb, .slice Ax nx cx, .int .i64 a3, .int .i64 l2] := ((hB5.far (p := ⟨w.heap.size, 0, none⟩) (by show g ≠ w.heap.size; omega) _).far (p := ⟨w.heap.size, 1, none⟩) (by show g ≠ w.heap.size; omega) _).far (p := ⟨w.heap.size, 2, none⟩) (by show g ≠ w.heap.size; omega) _
                    have hNf : Near (fun i => i = g) w (((w5.setCell ⟨w.heap.size, 0, none⟩ (.string (strOfNums nm))).setCell ⟨w.heap.size, 1, none⟩ (.slice Ap ps.length cp)).setCell ⟨w.heap.size, 2, none⟩ (.slice Ak ks.length ck)) := hN5.step ((((Near.refl (fun i => i = w.heap.size) w5).setCell (p := ⟨w.heap.size, 0, none⟩) rfl _).setCell (p := ⟨w.heap.size, 1, none⟩) rfl _).setCell (p := ⟨w.heap.size, 2, none⟩) rfl _) (fun i hi => .inr (by omega))
                    have hXf := hXf.less (Y := fun i => i < w.heap.size) (fun i hi => by omega)
                    obtain ⟨f', hf'⟩ : ∃ f', f = f' + 1 := ⟨f - 1, by have := HM.out.fuel; omega⟩
                    have hsp := HM.out.spec
                    rw [hf', itemsP_end HY4.out, HA3.out] at hsp
                    have hno := HNy.out _ _ _ _ (HF0.out.trans hsp.symm)
                    have hRes : RNode ⟨g, Ab, nb, cb, Ax, nx, cx⟩ b x (d + 1) a l w (.returned (.agg #[.string (strOfNums nm), .slice Ap ps.length cp, .slice Ak ks.length ck])) (((w5.setCell ⟨w.heap.size, 0, none⟩ (.string (strOfNums nm))).setCell ⟨w.heap.size, 1, none⟩ (.slice Ap ps.length cp)).setCell ⟨w.heap.size, 2, none⟩ (.slice Ak ks.length ck)) := by
                      unfold RNode
                      rw [hno]
                      exact ⟨_, _, _, _, _, _, _, _, rfl, hXf, hBf, hNf⟩
                    have HRes := Lib.hid hRes
                    have cTb := hTb.cell
                    have fTb := hTb.frozen
                    have cRb := hRb.cell
                    have fRb := hRb.frozen
                    have cRf := hRf.cell
                    clear hRes hno hsp hXf hNf hBf hXt hPs hKs hn2 hsm hf'
                    go_wp2_with fail
                    exact bodyPost_ret (v := .agg #[.string (strOfNums nm), .slice Ap ps.length cp, .slice Ak ks.length ck]) (by simp [results, Try.results65, go_sem, cRf]) rfl HRes.out
                  · have e3 : (y == 3) = false := by simp [y3]
                    have e1' : (y == 1) = false := by simp [y1]
                    have e2' : (y == 2) = false := by simp [y2]
                    clear hM
                    go_wp2_with (first
                      | (go_at_call 64; refine HF5.out.mono ?_; rintro e w5 ⟨rfl, hB5, hn5⟩)
                      | (go_at_call 63; refine (must_no _).mono ?_; rintro e w6 ⟨rfl, rfl⟩))
                    exact ⟨rfl, RNode.no (HNn.out (HM.out.spec.symm.trans (itemsP_else HY4.out y3 y1 y2))) (HM.out.near.trans hn5)⟩
            · have HF5 := Lib.hid (four_no ⟨g, Ab, nb, cb, Ax, nx, cx⟩ b x B a2 l2 wr hR hM.rdr hBr h4 (by omega))
              have HM := Lib.hid hM
              clear hM hB
              go_wp2_with (go_at_call 64; refine HF5.out.mono ?_; rintro e w5 ⟨rfl, hn5⟩)
              exact ⟨rfl, RNode.no (HNn.out (HM.out.spec.symm.trans (itemsP_no (four4_no h4)))) (HM.out.near.trans hn5)⟩
end Go.Proofs.Ytnkpaockginooaa
