/- The document's cursor: its node, walked. -/
import Derived.Test.YtnkpaockginooaaOfN
import Derived.Test.YtnkpaockginooaaPutF
namespace Go.Proofs.Ytnkpaockginooaa
set_option linter.unusedVariables false
set_option linter.unusedSimpArgs false
open Go.RowKit Go.Sort
def badC : Option Value → Option Value → Nat
  | some (.bool true), _ => 0
  | _, some (.int _ n) => 50001 - n.toNat
  | _, _ => 0
def RelC (Q : QP) (r : Rdr) (b x nm : List Int) (d B base bt br : Nat) (F0 : Option (List Pr × List Tr × Nat × Nat)) (w0 wr : World) : Prop :=
  ∃ ps ks vps vks, MidC Q r b x nm d B base bt br F0 ps ks vps vks w0 wr ∧ ((∃ a2 l2 : Int, Blk wr r.g 142 (r.cc a2 true l2) ∧ F0 = none) ∨ ∃ f a2 l2 : Nat, Blk wr r.g 142 (r.cc a2 false l2) ∧ MidG b x nm d F0 f ps ks a2 l2)
set_option maxRecDepth 100000 in
set_option maxHeartbeats 4000000 in
theorem cnode_any (Q : QP) : ∀ (d : Nat) (r : Rdr) (b x : List Int) (B a l : Nat) (at_ : Int) (w : World), (∀ a N A, a + N ≤ r.nb → (N = 0 ∨ ∃ b1 o1, r.Ab = some ⟨b1, o1, none⟩ ∧ A = some ⟨b1, o1 + a, none⟩) → Q ((b.drop a).take N) A) → d ≤ 8 → at_ = 9 - d → r.cb ≤ maxLen → RdRows w r b x B → Blk w r.g 142 (r.cc a false l) → B ≤ r.g → a ≤ 30000 → a % 4 = 0 → l ≤ 1000 →
    Calls Try.prog 68 #[.pointer (some ⟨r.g, 0, none⟩), .int .i64 at_] w (RCur Q r b x d a l w) := by
  intro d
  induction d with
  | zero =>
    intro r b x B a l at_ w hQ hd hat hcbm hR hB hBg ha hal hl
    have hgl := hB.lt
    have e0 : decide ((8 : Int) < at_) = true := decide_eq_true (by omega)
    have HNo := Lib.hid (show nodeP b x 0 a l = none from rfl)
    clear hat
    obtain ⟨g, Ab, nb, cb, Ax, nx, cx⟩ := r
    obtain ⟨hb, hx, ob, ox, mb, mx, hcb, hcx, rb, rx⟩ := id hR
    simp only [Rdr.cc] at hB hBg hgl ⊢
    simp only at hb hx mb mx hcb hcx rb rx
    obtain ⟨s, is, hct, hcs⟩ : ∃ s is, (∀ W, Below w.heap.size w W → Calls Try.prog 97 #[.slice Ab nb cb, .int .i64 a] W fun e w' => e = .returned (.tuple #[.string s, .bool is]) ∧ W = w') ∧ (match txt b a with | none => is = false | some nm => is = true ∧ s = strOfNums nm) := by
      rcases htx : txt b a with _ | nm
      · exact ⟨_, _, fun W hW => ctext_no Ab nb cb b a W hb mb (by omega) hcb ((rb.more (show B ≤ w.heap.size by omega)).below hW |>.more hW.size) htx, rfl⟩
      · exact ⟨_, _, fun W hW => ctext_yes Ab nb cb b nm a W hb mb hcb ((rb.more (show B ≤ w.heap.size by omega)).below hW |>.more hW.size) htx, rfl, rfl⟩
    have HCt := Lib.hid hct
    clear hct
    go_enter Try.func68, Try.ntmps68
    go_upto_region 1 with (fail)
    refine wp_name ?_
    intro w1 hw1
    obtain ⟨hB1, hR1, hn1, hz1⟩ : Blk w1 g 142 #[.slice Ab nb cb, .slice Ax nx cx, .int .i64 a, .bool false, .int .i64 l] ∧ Blk w1 w.heap.size 25 #[.string ⟨#[]⟩, .slice none 0 0, .slice none 0 0] ∧ Near (fun i => i = g) w w1 ∧ w1.heap.size = w.heap.size + 1 := by
      rw [hw1]
      exact ⟨hB.alloc _, Blk.fresh _ _ _ (by simp), (Near.refl (fun i => i = g) w).alloc _, by simp⟩
    have hb1 : Below w.heap.size w w1 := by rw [hw1]; exact bal (Below.refl _ _) _
    clear hw1 hB
    have hS1 : (fun W' : World => ∀ i, W'.cell? ⟨g, i, none⟩ = (#[.slice Ab nb cb, .slice Ax nx cx, .int .i64 a, .bool false, .int .i64 l] : Array Value)[i]?) w1.drew := hB1.drew.cell
    refine wp_region_held_drew (S := fun W' : World => ∀ i, W'.cell? ⟨g, i, none⟩ = (#[.slice Ab nb cb, .slice Ax nx cx, .int .i64 a, .bool false, .int .i64 l] : Array Value)[i]?) (by kernel_rfl) hS1 (fun hHeld => ?_)
    clear hHeld
    refine wpAnyH_take (i := 0) (v := ?vza0) rfl (by kernel_rfl) (by kernel_rfl) (by kernel_rfl) (fun _ _ _ h => h) (Or.inl ⟨by kernel_rfl, ?hyza0⟩) hS1 ?restza0
    case hyza0 =>
      intro w hSw
      clear hSw
      go_simp
      first | done | with_reducible rfl
    (try simp only [List.getElem_toArray, List.getElem_cons_succ, List.getElem_cons_zero, Act.put, List.setIfInBounds_toArray, List.set_cons_zero, List.set_cons_succ])
    refine wpAnyH_take (i := 1) (v := ?vza1) rfl (by kernel_rfl) (by kernel_rfl) (by kernel_rfl) (fun _ _ _ h => h) (Or.inl ⟨by kernel_rfl, ?hyza1⟩) hS1 ?restza1
    case hyza1 =>
      intro w hSw
      clear hSw
      go_simp
      first | done | with_reducible rfl
    (try simp only [List.getElem_toArray, List.getElem_cons_succ, List.getElem_cons_zero, Act.put, List.setIfInBounds_toArray, List.set_cons_zero, List.set_cons_succ])
    refine wpAnyH_take (i := 2) (v := ?vza2) rfl (by kernel_rfl) (by kernel_rfl) (by kernel_rfl) (fun _ _ _ h => h) (Or.inl ⟨by kernel_rfl, ?hyza2⟩) hS1 ?restza2
    case hyza2 =>
      intro w hSw
      clear hSw
      go_simp
      first | done | with_reducible rfl
    (try simp only [List.getElem_toArray, List.getElem_cons_succ, List.getElem_cons_zero, Act.put, List.setIfInBounds_toArray, List.set_cons_zero, List.set_cons_succ])
    refine wpAnyH_take (i := 3) (v := ?vza3) rfl (by kernel_rfl) (by kernel_rfl) (by kernel_rfl) (fun _ _ _ h => h) (Or.inl ⟨by kernel_rfl, ?hyza3⟩) hS1 ?restza3
    case hyza3 =>
      intro w hSw
      (try dsimp only at hSw)
      go_simp
      first | done | with_reducible rfl
    (try simp only [List.getElem_toArray, List.getElem_cons_succ, List.getElem_cons_zero, Act.put, List.setIfInBounds_toArray, List.set_cons_zero, List.set_cons_succ])
    refine wpAnyH_take (i := 4) (v := ?vza4) rfl (by kernel_rfl) (by kernel_rfl) (by kernel_rfl) (fun _ _ _ h => h) (Or.inl ⟨by kernel_rfl, ?hyza4⟩) hS1 ?restza4
    case hyza4 =>
      intro w hSw
      clear hSw
      go_simp
      first | done | with_reducible rfl
    (try simp only [List.getElem_toArray, List.getElem_cons_succ, List.getElem_cons_zero, Act.put, List.setIfInBounds_toArray, List.set_cons_zero, List.set_cons_succ])
    refine wpAnyH_take (i := 5) (v := ?vza5) rfl (by kernel_rfl) (by kernel_rfl) (by kernel_rfl) (fun _ _ _ h => h) (Or.inl ⟨by kernel_rfl, ?hyza5⟩) hS1 ?restza5
    case hyza5 =>
      intro w hSw
      clear hSw
      go_simp
      first | done | with_reducible rfl
    (try simp only [List.getElem_toArray, List.getElem_cons_succ, List.getElem_cons_zero, Act.put, List.setIfInBounds_toArray, List.set_cons_zero, List.set_cons_succ])
    refine wpAnyH_take (i := 6) (v := ?vza6) rfl (by kernel_rfl) (by kernel_rfl) (by kernel_rfl) (fun _ _ _ h => h) (Or.inl ⟨by kernel_rfl, ?hyza6⟩) hS1 ?restza6
    case hyza6 =>
      intro w hSw
      clear hSw
      go_simp
      first | done | with_reducible rfl
    (try simp only [List.getElem_toArray, List.getElem_cons_succ, List.getElem_cons_zero, Act.put, List.setIfInBounds_toArray, List.set_cons_zero, List.set_cons_succ])
    refine wpAnyH_take (i := 7) (v := ?vza7) rfl (by kernel_rfl) (by kernel_rfl) (by kernel_rfl) (fun _ _ _ h => h) (Or.inl ⟨by kernel_rfl, ?hyza7⟩) hS1 ?restza7
    case hyza7 =>
      intro w hSw
      (try dsimp only at hSw)
      go_simp
      first | done | with_reducible rfl
    (try simp only [List.getElem_toArray, List.getElem_cons_succ, List.getElem_cons_zero, Act.put, List.setIfInBounds_toArray, List.set_cons_zero, List.set_cons_succ])
    refine wpAnyH_call (i := 8) (by kernel_rfl) rfl (by kernel_rfl) fun K hK => ?_
    simp only [List.getElem_toArray, List.getElem_cons_succ, List.getElem_cons_zero]
    go_simp
    go_at_call 97
    refine (HCt.out _ hb1.drew).mono ?_
    rintro e w2 ⟨rfl, rfl⟩
    refine hK.out _ _ hS1 ?_
    clear hK K
    (try simp only [List.getElem_toArray, List.getElem_cons_succ, List.getElem_cons_zero, Act.put, List.setIfInBounds_toArray, List.set_cons_zero, List.set_cons_succ])
    refine wpAnyH_take (i := 9) (v := ?vza9) rfl (by kernel_rfl) (by kernel_rfl) (by kernel_rfl) (fun _ _ _ h => h) (Or.inl ⟨by kernel_rfl, ?hyza9⟩) hS1 ?restza9
    case hyza9 =>
      intro w hSw
      clear hSw
      go_simp
      first | done | with_reducible rfl
    (try simp only [List.getElem_toArray, List.getElem_cons_succ, List.getElem_cons_zero, Act.put, List.setIfInBounds_toArray, List.set_cons_zero, List.set_cons_succ])
    refine wpAnyH_take (i := 10) (v := ?vza10) rfl (by kernel_rfl) (by kernel_rfl) (by kernel_rfl) (fun _ _ _ h => h) (Or.inl ⟨by kernel_rfl, ?hyza10⟩) hS1 ?restza10
    case hyza10 =>
      intro w hSw
      clear hSw
      go_simp
      first | done | with_reducible rfl
    (try simp only [List.getElem_toArray, List.getElem_cons_succ, List.getElem_cons_zero, Act.put, List.setIfInBounds_toArray, List.set_cons_zero, List.set_cons_succ])
    refine wpAnyH_take (i := 11) (v := ?vza11) rfl (by kernel_rfl) (by kernel_rfl) (by kernel_rfl) (fun _ _ _ h => h) (Or.inl ⟨by kernel_rfl, ?hyza11⟩) hS1 ?restza11
    case hyza11 =>
      intro w hSw
      clear hSw
      go_simp
      first | done | with_reducible rfl
    (try simp only [List.getElem_toArray, List.getElem_cons_succ, List.getElem_cons_zero, Act.put, List.setIfInBounds_toArray, List.set_cons_zero, List.set_cons_succ])
    refine wpAnyH_take (i := 12) (v := ?vza12) rfl (by kernel_rfl) (by kernel_rfl) (by kernel_rfl) (fun _ _ _ h => h) (Or.inl ⟨by kernel_rfl, ?hyza12⟩) hS1 ?restza12
    case hyza12 =>
      intro w hSw
      clear hSw
      go_simp
      first | done | with_reducible rfl
    (try simp only [List.getElem_toArray, List.getElem_cons_succ, List.getElem_cons_zero, Act.put, List.setIfInBounds_toArray, List.set_cons_zero, List.set_cons_succ])
    refine wpAnyH_take (i := 13) (v := ?vza13) rfl (by kernel_rfl) (by kernel_rfl) (by kernel_rfl) (fun _ _ _ h => h) (Or.inl ⟨by kernel_rfl, ?hyza13⟩) hS1 ?restza13
    case hyza13 =>
      intro w hSw
      clear hSw
      go_simp
      first | done | with_reducible rfl
    (try simp only [List.getElem_toArray, List.getElem_cons_succ, List.getElem_cons_zero, Act.put, List.setIfInBounds_toArray, List.set_cons_zero, List.set_cons_succ])
    refine wpAnyH_done (by kernel_rfl) ?_ _
    clear hS1 HCt
    have hB1 := hB1.drew
    have hR1 := hR1.drew
    have hn1 := hn1.drew
    have hb1 := hb1.drew
    replace hz1 : w1.drew.heap.size = w.heap.size + 1 := hz1
    generalize w1.drew = w1 at *
    have cB := hB1.cell
    have fB := hB1.frozen
    clear hcs
    cases is
    · obtain ⟨wl, hwl⟩ : ∃ wl, (w1.setCell ⟨g, 4, none⟩ (.int .i64 ((l : Int) - 1))).setCell ⟨g, 3, none⟩ (.bool true) = wl := ⟨_, rfl⟩
      have hBl : Blk wl g 142 #[.slice Ab nb cb, .slice Ax nx cx, .int .i64 a, .bool true, .int .i64 ((l : Int) - 1)] := by rw [← hwl]; exact (hB1.set_ 4 (.int .i64 ((l : Int) - 1))).set_ 3 (.bool true)
      have hRl : Blk wl w.heap.size 25 #[.string ⟨#[]⟩, .slice none 0 0, .slice none 0 0] := by rw [← hwl]; exact (hR1.far (p := ⟨g, 4, none⟩) (by show w.heap.size ≠ g; omega) _).far (p := ⟨g, 3, none⟩) (by show w.heap.size ≠ g; omega) _
      have hNl : Near (fun i => i = g) w wl := by rw [← hwl]; exact (hn1.setCell (p := ⟨g, 4, none⟩) rfl _).setCell (p := ⟨g, 3, none⟩) rfl _
      obtain ⟨cs0, k0, he0, hXe⟩ := TrPY.mk (Q := Q) (w := wl) (X := fun i => i < w.heap.size + 1) (nm := ⟨#[]⟩) (by decide) (PsPY.nil 0 none (by decide)) (TsPY.nil 0 none (by decide))
      have he0 : cs0 = [.string ⟨#[]⟩, .slice none 0 0, .slice none 0 0] := by
        have := congrArg (fun v => match v with | Value.agg a => a.toList | _ => []) he0
        simpa using this.symm
      subst he0
      obtain ⟨hRf, hRes⟩ := cur_fin (r := ⟨g, Ab, nb, cb, Ax, nx, cx⟩) (Q := Q) (b := b) (x := x) (d := 0) (a := a) (l := l) hRl hXe hBl hNl hgl (CurS.no HNo.out)
      have HRes := Lib.hid hRes
      have cRl := hRl.cell
      have fRl := hRl.frozen
      have cRf := hRf.cell
      clear hRes hXe he0
      go_wp2_with fail
      exact bodyPost_ret (v := .agg #[.string ⟨#[]⟩, .slice none 0 0, .slice none 0 0]) (by simp [results, Try.results68, go_sem, cRf]) rfl HRes.out
    · obtain ⟨wl, hwl⟩ : ∃ wl, (w1.setCell ⟨g, 4, none⟩ (.int .i64 ((l : Int) - 1))).setCell ⟨g, 3, none⟩ (.bool true) = wl := ⟨_, rfl⟩
      have hBl : Blk wl g 142 #[.slice Ab nb cb, .slice Ax nx cx, .int .i64 a, .bool true, .int .i64 ((l : Int) - 1)] := by rw [← hwl]; exact (hB1.set_ 4 (.int .i64 ((l : Int) - 1))).set_ 3 (.bool true)
      have hRl : Blk wl w.heap.size 25 #[.string ⟨#[]⟩, .slice none 0 0, .slice none 0 0] := by rw [← hwl]; exact (hR1.far (p := ⟨g, 4, none⟩) (by show w.heap.size ≠ g; omega) _).far (p := ⟨g, 3, none⟩) (by show w.heap.size ≠ g; omega) _
      have hNl : Near (fun i => i = g) w wl := by rw [← hwl]; exact (hn1.setCell (p := ⟨g, 4, none⟩) rfl _).setCell (p := ⟨g, 3, none⟩) rfl _
      obtain ⟨cs0, k0, he0, hXe⟩ := TrPY.mk (Q := Q) (w := wl) (X := fun i => i < w.heap.size + 1) (nm := ⟨#[]⟩) (by decide) (PsPY.nil 0 none (by decide)) (TsPY.nil 0 none (by decide))
      have he0 : cs0 = [.string ⟨#[]⟩, .slice none 0 0, .slice none 0 0] := by
        have := congrArg (fun v => match v with | Value.agg a => a.toList | _ => []) he0
        simpa using this.symm
      subst he0
      obtain ⟨hRf, hRes⟩ := cur_fin (r := ⟨g, Ab, nb, cb, Ax, nx, cx⟩) (Q := Q) (b := b) (x := x) (d := 0) (a := a) (l := l) hRl hXe hBl hNl hgl (CurS.no HNo.out)
      have HRes := Lib.hid hRes
      have cRl := hRl.cell
      have fRl := hRl.frozen
      have cRf := hRf.cell
      clear hRes hXe he0
      go_wp2_with fail
      exact bodyPost_ret (v := .agg #[.string ⟨#[]⟩, .slice none 0 0, .slice none 0 0]) (by simp [results, Try.results68, go_sem, cRf]) rfl HRes.out
  | succ d ih =>
    intro r b x B a l at_ w hQ hd hat hcbm hR hB hBg ha hal hl
    have IH := Lib.hid ih
    have HQ := Lib.hid hQ
    have HCb := Lib.hid hcbm
    have hgl := hB.lt
    have HRw := Lib.hid hR
    have hatl : at_ ≤ 9 - ((d : Int) + 1) := by omega
    have hatg : 9 - ((d : Int) + 1) ≤ at_ := by omega
    clear hat ih hQ hcbm
    have e0 : decide ((8 : Int) < at_) = false := decide_eq_false (by omega)
    obtain ⟨g, Ab, nb, cb, Ax, nx, cx⟩ := r
    obtain ⟨hb, hx, ob, ox, mb, mx, hcb, hcx, rb, rx⟩ := id hR
    simp only [Rdr.cc] at hB hBg hgl ⊢
    simp only at hb hx mb mx hcb hcx rb rx
    obtain ⟨s, is, hct, hcs⟩ : ∃ s is, (∀ W, Below w.heap.size w W → Calls Try.prog 97 #[.slice Ab nb cb, .int .i64 a] W fun e w' => e = .returned (.tuple #[.string s, .bool is]) ∧ W = w') ∧ (match txt b a with | none => is = false | some nm => is = true ∧ s = strOfNums nm) := by
      rcases htx : txt b a with _ | nm
      · exact ⟨_, _, fun W hW => ctext_no Ab nb cb b a W hb mb (by omega) hcb ((rb.more (show B ≤ w.heap.size by omega)).below hW |>.more hW.size) htx, rfl⟩
      · exact ⟨_, _, fun W hW => ctext_yes Ab nb cb b nm a W hb mb hcb ((rb.more (show B ≤ w.heap.size by omega)).below hW |>.more hW.size) htx, rfl, rfl⟩
    have HCt := Lib.hid hct
    clear hct
    go_enter Try.func68, Try.ntmps68
    go_upto_region 1 with (fail)
    refine wp_name ?_
    intro w1 hw1
    obtain ⟨hB1, hR1, hn1, hz1⟩ : Blk w1 g 142 #[.slice Ab nb cb, .slice Ax nx cx, .int .i64 a, .bool false, .int .i64 l] ∧ Blk w1 w.heap.size 25 #[.string ⟨#[]⟩, .slice none 0 0, .slice none 0 0] ∧ Near (fun i => i = g) w w1 ∧ w1.heap.size = w.heap.size + 1 := by
      rw [hw1]
      exact ⟨hB.alloc _, Blk.fresh _ _ _ (by simp), (Near.refl (fun i => i = g) w).alloc _, by simp⟩
    have hb1 : Below w.heap.size w w1 := by rw [hw1]; exact bal (Below.refl _ _) _
    clear hw1 hB
    have hS1 : (fun W' : World => ∀ i, W'.cell? ⟨g, i, none⟩ = (#[.slice Ab nb cb, .slice Ax nx cx, .int .i64 a, .bool false, .int .i64 l] : Array Value)[i]?) w1.drew := hB1.drew.cell
    refine wp_region_held_drew (S := fun W' : World => ∀ i, W'.cell? ⟨g, i, none⟩ = (#[.slice Ab nb cb, .slice Ax nx cx, .int .i64 a, .bool false, .int .i64 l] : Array Value)[i]?) (by kernel_rfl) hS1 (fun hHeld => ?_)
    clear hHeld
    refine wpAnyH_take (i := 0) (v := ?vsa0) rfl (by kernel_rfl) (by kernel_rfl) (by kernel_rfl) (fun _ _ _ h => h) (Or.inl ⟨by kernel_rfl, ?hysa0⟩) hS1 ?restsa0
    case hysa0 =>
      intro w hSw
      clear hSw
      go_simp
      first | done | with_reducible rfl
    (try simp only [List.getElem_toArray, List.getElem_cons_succ, List.getElem_cons_zero, Act.put, List.setIfInBounds_toArray, List.set_cons_zero, List.set_cons_succ])
    refine wpAnyH_take (i := 1) (v := ?vsa1) rfl (by kernel_rfl) (by kernel_rfl) (by kernel_rfl) (fun _ _ _ h => h) (Or.inl ⟨by kernel_rfl, ?hysa1⟩) hS1 ?restsa1
    case hysa1 =>
      intro w hSw
      clear hSw
      go_simp
      first | done | with_reducible rfl
    (try simp only [List.getElem_toArray, List.getElem_cons_succ, List.getElem_cons_zero, Act.put, List.setIfInBounds_toArray, List.set_cons_zero, List.set_cons_succ])
    refine wpAnyH_take (i := 2) (v := ?vsa2) rfl (by kernel_rfl) (by kernel_rfl) (by kernel_rfl) (fun _ _ _ h => h) (Or.inl ⟨by kernel_rfl, ?hysa2⟩) hS1 ?restsa2
    case hysa2 =>
      intro w hSw
      clear hSw
      go_simp
      first | done | with_reducible rfl
    (try simp only [List.getElem_toArray, List.getElem_cons_succ, List.getElem_cons_zero, Act.put, List.setIfInBounds_toArray, List.set_cons_zero, List.set_cons_succ])
    refine wpAnyH_take (i := 3) (v := ?vsa3) rfl (by kernel_rfl) (by kernel_rfl) (by kernel_rfl) (fun _ _ _ h => h) (Or.inl ⟨by kernel_rfl, ?hysa3⟩) hS1 ?restsa3
    case hysa3 =>
      intro w hSw
      (try dsimp only at hSw)
      go_simp
      first | done | with_reducible rfl
    (try simp only [List.getElem_toArray, List.getElem_cons_succ, List.getElem_cons_zero, Act.put, List.setIfInBounds_toArray, List.set_cons_zero, List.set_cons_succ])
    refine wpAnyH_take (i := 4) (v := ?vsa4) rfl (by kernel_rfl) (by kernel_rfl) (by kernel_rfl) (fun _ _ _ h => h) (Or.inl ⟨by kernel_rfl, ?hysa4⟩) hS1 ?restsa4
    case hysa4 =>
      intro w hSw
      clear hSw
      go_simp
      first | done | with_reducible rfl
    (try simp only [List.getElem_toArray, List.getElem_cons_succ, List.getElem_cons_zero, Act.put, List.setIfInBounds_toArray, List.set_cons_zero, List.set_cons_succ])
    refine wpAnyH_take (i := 5) (v := ?vsa5) rfl (by kernel_rfl) (by kernel_rfl) (by kernel_rfl) (fun _ _ _ h => h) (Or.inl ⟨by kernel_rfl, ?hysa5⟩) hS1 ?restsa5
    case hysa5 =>
      intro w hSw
      clear hSw
      go_simp
      first | done | with_reducible rfl
    (try simp only [List.getElem_toArray, List.getElem_cons_succ, List.getElem_cons_zero, Act.put, List.setIfInBounds_toArray, List.set_cons_zero, List.set_cons_succ])
    refine wpAnyH_take (i := 6) (v := ?vsa6) rfl (by kernel_rfl) (by kernel_rfl) (by kernel_rfl) (fun _ _ _ h => h) (Or.inl ⟨by kernel_rfl, ?hysa6⟩) hS1 ?restsa6
    case hysa6 =>
      intro w hSw
      clear hSw
      go_simp
      first | done | with_reducible rfl
    (try simp only [List.getElem_toArray, List.getElem_cons_succ, List.getElem_cons_zero, Act.put, List.setIfInBounds_toArray, List.set_cons_zero, List.set_cons_succ])
    refine wpAnyH_take (i := 7) (v := ?vsa7) rfl (by kernel_rfl) (by kernel_rfl) (by kernel_rfl) (fun _ _ _ h => h) (Or.inl ⟨by kernel_rfl, ?hysa7⟩) hS1 ?restsa7
    case hysa7 =>
      intro w hSw
      (try dsimp only at hSw)
      go_simp
      first | done | with_reducible rfl
    (try simp only [List.getElem_toArray, List.getElem_cons_succ, List.getElem_cons_zero, Act.put, List.setIfInBounds_toArray, List.set_cons_zero, List.set_cons_succ])
    refine wpAnyH_call (i := 8) (by kernel_rfl) rfl (by kernel_rfl) fun K hK => ?_
    simp only [List.getElem_toArray, List.getElem_cons_succ, List.getElem_cons_zero]
    go_simp
    go_at_call 97
    refine (HCt.out _ hb1.drew).mono ?_
    rintro e w2 ⟨rfl, rfl⟩
    refine hK.out _ _ hS1 ?_
    clear hK K
    (try simp only [List.getElem_toArray, List.getElem_cons_succ, List.getElem_cons_zero, Act.put, List.setIfInBounds_toArray, List.set_cons_zero, List.set_cons_succ])
    refine wpAnyH_take (i := 9) (v := ?vsa9) rfl (by kernel_rfl) (by kernel_rfl) (by kernel_rfl) (fun _ _ _ h => h) (Or.inl ⟨by kernel_rfl, ?hysa9⟩) hS1 ?restsa9
    case hysa9 =>
      intro w hSw
      clear hSw
      go_simp
      first | done | with_reducible rfl
    (try simp only [List.getElem_toArray, List.getElem_cons_succ, List.getElem_cons_zero, Act.put, List.setIfInBounds_toArray, List.set_cons_zero, List.set_cons_succ])
    refine wpAnyH_take (i := 10) (v := ?vsa10) rfl (by kernel_rfl) (by kernel_rfl) (by kernel_rfl) (fun _ _ _ h => h) (Or.inl ⟨by kernel_rfl, ?hysa10⟩) hS1 ?restsa10
    case hysa10 =>
      intro w hSw
      clear hSw
      go_simp
      first | done | with_reducible rfl
    (try simp only [List.getElem_toArray, List.getElem_cons_succ, List.getElem_cons_zero, Act.put, List.setIfInBounds_toArray, List.set_cons_zero, List.set_cons_succ])
    refine wpAnyH_take (i := 11) (v := ?vsa11) rfl (by kernel_rfl) (by kernel_rfl) (by kernel_rfl) (fun _ _ _ h => h) (Or.inl ⟨by kernel_rfl, ?hysa11⟩) hS1 ?restsa11
    case hysa11 =>
      intro w hSw
      clear hSw
      go_simp
      first | done | with_reducible rfl
    (try simp only [List.getElem_toArray, List.getElem_cons_succ, List.getElem_cons_zero, Act.put, List.setIfInBounds_toArray, List.set_cons_zero, List.set_cons_succ])
    refine wpAnyH_take (i := 12) (v := ?vsa12) rfl (by kernel_rfl) (by kernel_rfl) (by kernel_rfl) (fun _ _ _ h => h) (Or.inl ⟨by kernel_rfl, ?hysa12⟩) hS1 ?restsa12
    case hysa12 =>
      intro w hSw
      clear hSw
      go_simp
      first | done | with_reducible rfl
    (try simp only [List.getElem_toArray, List.getElem_cons_succ, List.getElem_cons_zero, Act.put, List.setIfInBounds_toArray, List.set_cons_zero, List.set_cons_succ])
    refine wpAnyH_take (i := 13) (v := ?vsa13) rfl (by kernel_rfl) (by kernel_rfl) (by kernel_rfl) (fun _ _ _ h => h) (Or.inl ⟨by kernel_rfl, ?hysa13⟩) hS1 ?restsa13
    case hysa13 =>
      intro w hSw
      clear hSw
      go_simp
      first | done | with_reducible rfl
    (try simp only [List.getElem_toArray, List.getElem_cons_succ, List.getElem_cons_zero, Act.put, List.setIfInBounds_toArray, List.set_cons_zero, List.set_cons_succ])
    refine wpAnyH_done (by kernel_rfl) ?_ _
    clear hS1 HCt
    have hB1 := hB1.drew
    have hR1 := hR1.drew
    have hn1 := hn1.drew
    have hb1 := hb1.drew
    replace hz1 : w1.drew.heap.size = w.heap.size + 1 := hz1
    generalize w1.drew = w1 at *
    have cB := hB1.cell
    have fB := hB1.frozen
    rcases htx : txt b a with _ | nm
    · rw [htx] at hcs
      simp only at hcs
      subst hcs
      have HNo := Lib.hid (nodeP_txt (x := x) (d := d) (l := l) htx)
      obtain ⟨wl, hwl⟩ : ∃ wl, (w1.setCell ⟨g, 4, none⟩ (.int .i64 ((l : Int) - 1))).setCell ⟨g, 3, none⟩ (.bool true) = wl := ⟨_, rfl⟩
      have hBl : Blk wl g 142 #[.slice Ab nb cb, .slice Ax nx cx, .int .i64 a, .bool true, .int .i64 ((l : Int) - 1)] := by rw [← hwl]; exact (hB1.set_ 4 (.int .i64 ((l : Int) - 1))).set_ 3 (.bool true)
      have hRl : Blk wl w.heap.size 25 #[.string ⟨#[]⟩, .slice none 0 0, .slice none 0 0] := by rw [← hwl]; exact (hR1.far (p := ⟨g, 4, none⟩) (by show w.heap.size ≠ g; omega) _).far (p := ⟨g, 3, none⟩) (by show w.heap.size ≠ g; omega) _
      have hNl : Near (fun i => i = g) w wl := by rw [← hwl]; exact (hn1.setCell (p := ⟨g, 4, none⟩) rfl _).setCell (p := ⟨g, 3, none⟩) rfl _
      obtain ⟨cs0, k0, he0, hXe⟩ := TrPY.mk (Q := Q) (w := wl) (X := fun i => i < w.heap.size + 1) (nm := ⟨#[]⟩) (by decide) (PsPY.nil 0 none (by decide)) (TsPY.nil 0 none (by decide))
      have he0 : cs0 = [.string ⟨#[]⟩, .slice none 0 0, .slice none 0 0] := by
        have := congrArg (fun v => match v with | Value.agg a => a.toList | _ => []) he0
        simpa using this.symm
      subst he0
      obtain ⟨hRf, hRes⟩ := cur_fin (r := ⟨g, Ab, nb, cb, Ax, nx, cx⟩) (Q := Q) (b := b) (x := x) (d := (d + 1)) (a := a) (l := l) hRl hXe hBl hNl hgl (CurS.no HNo.out)
      have HRes := Lib.hid hRes
      have cRl := hRl.cell
      have fRl := hRl.frozen
      have cRf := hRf.cell
      clear hRes hXe he0
      go_wp2_with fail
      exact bodyPost_ret (v := .agg #[.string ⟨#[]⟩, .slice none 0 0, .slice none 0 0]) (by simp [results, Try.results68, go_sem, cRf]) rfl HRes.out
    · rw [htx] at hcs
      obtain ⟨rfl, rfl⟩ := hcs
      by_cases hl0 : l = 0
      · have HNo := Lib.hid (show nodeP b x (d + 1) a l = none by rw [hl0]; exact nodeP_zero)
        have e2 : decide ((l : Int) - 1 < 0) = true := decide_eq_true (by omega)
        clear hl0
        obtain ⟨wl, hwl⟩ : ∃ wl, (w1.setCell ⟨g, 4, none⟩ (.int .i64 ((l : Int) - 1))).setCell ⟨g, 3, none⟩ (.bool true) = wl := ⟨_, rfl⟩
        have hBl : Blk wl g 142 #[.slice Ab nb cb, .slice Ax nx cx, .int .i64 a, .bool true, .int .i64 ((l : Int) - 1)] := by rw [← hwl]; exact (hB1.set_ 4 (.int .i64 ((l : Int) - 1))).set_ 3 (.bool true)
        have hRl : Blk wl w.heap.size 25 #[.string ⟨#[]⟩, .slice none 0 0, .slice none 0 0] := by rw [← hwl]; exact (hR1.far (p := ⟨g, 4, none⟩) (by show w.heap.size ≠ g; omega) _).far (p := ⟨g, 3, none⟩) (by show w.heap.size ≠ g; omega) _
        have hNl : Near (fun i => i = g) w wl := by rw [← hwl]; exact (hn1.setCell (p := ⟨g, 4, none⟩) rfl _).setCell (p := ⟨g, 3, none⟩) rfl _
        obtain ⟨cs0, k0, he0, hXe⟩ := TrPY.mk (Q := Q) (w := wl) (X := fun i => i < w.heap.size + 1) (nm := ⟨#[]⟩) (by decide) (PsPY.nil 0 none (by decide)) (TsPY.nil 0 none (by decide))
        have he0 : cs0 = [.string ⟨#[]⟩, .slice none 0 0, .slice none 0 0] := by
          have := congrArg (fun v => match v with | Value.agg a => a.toList | _ => []) he0
          simpa using this.symm
        subst he0
        obtain ⟨hRf, hRes⟩ := cur_fin (r := ⟨g, Ab, nb, cb, Ax, nx, cx⟩) (Q := Q) (b := b) (x := x) (d := (d + 1)) (a := a) (l := l) hRl hXe hBl hNl hgl (CurS.no HNo.out)
        have HRes := Lib.hid hRes
        have cRl := hRl.cell
        have fRl := hRl.frozen
        have cRf := hRf.cell
        clear hRes hXe he0
        go_wp2_with fail
        exact bodyPost_ret (v := .agg #[.string ⟨#[]⟩, .slice none 0 0, .slice none 0 0]) (by simp [results, Try.results68, go_sem, cRf]) rfl HRes.out
      · have e2 : decide ((l : Int) - 1 < 0) = false := decide_eq_false (by omega)
        have hnl := (txt_some htx).2
        have HNy := Lib.hid (fun ps ks a' l' hi => nodeP_some (x := x) (d := d) (ps := ps) (ks := ks) (a' := a') (l' := l') hl0 htx hi)
        have HNn := Lib.hid (fun hi => nodeP_none (x := x) (d := d) hl0 htx hi)
        obtain ⟨l1, hL⟩ : ∃ l1, l - 1 = l1 := ⟨_, rfl⟩
        rw [hL] at HNy HNn
        have hll : (l : Int) - 1 = (l1 : Int) := by omega
        have hl1k : l1 ≤ 1000 := by omega
        clear hL hl0
        obtain ⟨sn, hsn⟩ : ∃ sn, strOfNums nm = sn := ⟨_, rfl⟩
        rw [hsn]
        have HSn := Lib.hid hsn
        have hsz : nm.length = sn.size := by rw [← hsn, strOfNums_size]
        obtain ⟨a0, ha0⟩ : ∃ a0, a + up4 (nm.length + 1) = a0 := ⟨_, rfl⟩
        have ha0b : a0 ≤ b.length + 3 := by rw [← ha0]; unfold up4; omega
        have ha0l : a0 % 4 = 0 := by have := up4_al (n := nm.length + 1); omega
        have hq : ((a : Int) + (sn.size : Int) + 4).tdiv 4 * 4 = (a0 : Int) := by
          rw [← ha0, Int.tdiv_eq_ediv_of_nonneg (by omega)]
          unfold up4
          omega
        rw [ha0] at HNy HNn
        clear ha0
        obtain ⟨F0, hF0⟩ : ∃ F0, itemsP (nodeP b x d) b x (b.length + 1) [] [] a0 l1 = F0 := ⟨_, rfl⟩
        rw [hF0] at HNn
        have HF0 := Lib.hid hF0
        obtain ⟨bt, hbt⟩ : ∃ bt, w1.heap.size = bt := ⟨_, rfl⟩
        have hgb : g < bt := by omega
        have hrb : w.heap.size < bt := by omega
        clear hz1
        obtain ⟨w2, hw2⟩ : ∃ w2, ((w1.setCell ⟨g, 4, none⟩ (.int .i64 ((l : Int) - 1))).alloc (.cells #[.string sn, .slice none 0 0, .slice none 0 0] 25)).setCell ⟨g, 2, none⟩ (.int .i64 a0) = w2 := ⟨_, rfl⟩
        have hM0 : MidC Q ⟨g, Ab, nb, cb, Ax, nx, cx⟩ b x nm d B (bt + 1) bt w.heap.size F0 [] [] (.slice none 0 0) (.slice none 0 0) w w2 ∧ Blk w2 g 142 #[.slice Ab nb cb, .slice Ax nx cx, .int .i64 a0, .bool false, .int .i64 l1] := by
          have h1 := (hR1.far (p := ⟨g, 4, none⟩) (by show w.heap.size ≠ g; omega) (.int .i64 ((l : Int) - 1))).alloc (.cells #[.string sn, .slice none 0 0, .slice none 0 0] 25) |>.far (p := ⟨g, 2, none⟩) (by show w.heap.size ≠ g; omega) (.int .i64 a0)
          have h2 : Blk ((w1.setCell ⟨g, 4, none⟩ (.int .i64 ((l : Int) - 1))).alloc (.cells #[.string sn, .slice none 0 0, .slice none 0 0] 25)) bt 25 #[.string sn, .slice none 0 0, .slice none 0 0] := Blk.fresh _ _ _ (by simp [hbt])
          have h3 := h2.far (p := ⟨g, 2, none⟩) (by show bt ≠ g; omega) (.int .i64 a0)
          have h4 := ((hB1.set_ 4 (.int .i64 ((l : Int) - 1))).alloc (.cells #[.string sn, .slice none 0 0, .slice none 0 0] 25)).set_ 2 (.int .i64 a0)
          have h5 := ((hn1.setCell (p := ⟨g, 4, none⟩) rfl (.int .i64 ((l : Int) - 1))).alloc (.cells #[.string sn, .slice none 0 0, .slice none 0 0] 25)).setCell (p := ⟨g, 2, none⟩) rfl (.int .i64 a0)
          rw [hw2] at h1 h3 h4 h5
          refine ⟨⟨by rw [HSn.out]; exact h3, h1, OwnPsY.nil _ _, OwnTsY.nil _ _ _, h5, by rw [← hw2]; simp [hbt]⟩, ?_⟩
          simpa [hll] using h4
        obtain ⟨hM0, hB2⟩ := hM0
        have HM0 := Lib.hid hM0
        have HB2 := Lib.hid hB2
        have HG0 := Lib.hid (show MidG b x nm d F0 (b.length + 1) [] [] a0 l1 from ⟨hF0, by omega, by simp, ha0b, hl1k, ha0l⟩)
        have hR1c := hR1.lt
        have hss : sn.size ≤ 20000 := by omega
        clear hF0 hsn htx hM0 hB2 hR1 hn1
        have HLL := Lib.hid hll
        clear hll
        go_wp2_with fail
        clear hw2 hbt
        go_loopw [] (fun wr => RelC Q ⟨g, Ab, nb, cb, Ax, nx, cx⟩ b x nm d B (bt + 1) bt w.heap.size F0 w wr) (fun wr => badC (wr.cell? ⟨g, 3, none⟩) (wr.cell? ⟨g, 2, none⟩))
        case atStart => exact ⟨_, _, _, _, HM0.out, .inr ⟨_, _, _, HB2.out, HG0.out⟩⟩
        case round =>
          clear HM0 HB2 HG0
          obtain ⟨ps, ks, vps, vks, hM, ⟨a2, l2, hB, hF⟩ | ⟨f, a2, l2, hB, hG⟩⟩ := hrel
          · simp only [Rdr.cc] at hB
            have cB := hB.cell
            have fB := hB.frozen
            obtain ⟨Ap, cp, Ak, ck, kx, rfl, rfl, hXt⟩ := mid_tree hM (by omega) (by omega)
            obtain ⟨hRf, hRes⟩ := cur_fin (r := ⟨g, Ab, nb, cb, Ax, nx, cx⟩) (Q := Q) (b := b) (x := x) (d := d + 1) (a := a) (l := l) hM.res hXt hB hM.near hgl (CurS.no (HNn.out hF))
            have HRes := Lib.hid hRes
            have cTb := hM.box.cell
            have fTb := hM.box.frozen
            have cRb := hM.res.cell
            have fRb := hM.res.frozen
            have cRf := hRf.cell
            clear hRes hXt
            go_wp2_with fail
            exact bodyPost_ret (v := .agg #[.string (strOfNums nm), .slice Ap ps.length cp, .slice Ak ks.length ck]) (by simp [results, Try.results68, go_sem, cRf]) rfl HRes.out
          · simp only [Rdr.cc] at hB
            have cB := hB.cell
            have fB := hB.frozen
            have hbl : Below B w wr := hM.near.below (fun i hi => by have hi : i = g := hi; omega) (by omega)
            have hR := HRw.out.below hbl
            have hzr := hM.size
            have hap := hG.apos
            have hBr : B ≤ wr.heap.size := by omega
            by_cases h4 : a2 + 4 ≤ b.length
            · obtain ⟨y, hyy⟩ : ∃ y, numB ((b.drop a2).take 4) = y := ⟨_, rfl⟩
              have hy4 := four4_yes h4
              have hn4 := numB4 ob a2
              obtain ⟨a3, ha3⟩ : ∃ a3, a2 + 4 = a3 := ⟨_, rfl⟩
              have HF5 := cfour_yes ⟨g, Ab, nb, cb, Ax, nx, cx⟩ b x B a2 l2 wr hR hB hBr h4
              rw [hyy, ha3] at HF5
              rw [hyy] at hy4 hn4
              simp only [Rdr.cc] at HF5
              have HF5 := Lib.hid HF5
              have HY4 := Lib.hid hy4
              have HA3 := Lib.hid ha3
              have ha3b : a3 ≤ b.length := by omega
              clear hyy hy4 ha3
              have HM := Lib.hid hM
              have HG := Lib.hid hG
              by_cases y3 : y = 3
              · subst y3
                clear hM
                go_upto_region 12 with (go_at_call 67; refine HF5.out.mono ?_; rintro e w5 ⟨rfl, hB5, hn5⟩)
                have hM5 := HM.out.near_ hn5 hB hgb (by show g ≠ w.heap.size; omega) (by omega)
                have hn5 : Near (fun i => i = g) wr w5 := hn5
                have hR5 := hR.below (hn5.below (fun i hi => by have hi : i = g := hi; omega) hBr)
                have hz5 := hn5.size
                clear HF5 cB fB
                by_cases h8 : a3 + 4 ≤ b.length
                · obtain ⟨n, hnn⟩ : ∃ y, numB ((b.drop a3).take 4) = y := ⟨_, rfl⟩
                  have hy8 := four4_yes h8
                  have hn8 := numB4 ob a3
                  obtain ⟨a4, ha4⟩ : ∃ a4, a3 + 4 = a4 := ⟨_, rfl⟩
                  have HF8 := cfour_yes ⟨g, Ab, nb, cb, Ax, nx, cx⟩ b x B a3 l2 w5 hR5 hB5 (by omega) h8
                  rw [hnn, ha4] at HF8
                  rw [hnn, ← HA3.out] at hy8
                  rw [hnn] at hn8
                  simp only [Rdr.cc] at HF8
                  have HF8 := Lib.hid HF8
                  have HY8 := Lib.hid hy8
                  have HA4 := Lib.hid ha4
                  have ha4b : a4 ≤ b.length := by omega
                  obtain ⟨N, hN⟩ := Int.eq_ofNat_of_zero_le hn8.1
                  subst hN
                  clear hnn hy8 ha4
                  go_upto_region 13 with (go_at_call 67; refine HF8.out.mono ?_; rintro e w8 ⟨rfl, hB8, hn8'⟩)
                  have hM8 := hM5.near_ hn8' hB5 hgb (by show g ≠ w.heap.size; omega) (by omega)
                  have hn8' : Near (fun i => i = g) w5 w8 := hn8'
                  have hR8 := hR5.below (hn8'.below (fun i hi => by have hi : i = g := hi; omega) (by omega))
                  have hz8 := hn8'.size
                  clear HF8
                  by_cases h12 : a4 + 4 ≤ b.length
                  · obtain ⟨pl, hpp⟩ : ∃ y, numB ((b.drop a4).take 4) = y := ⟨_, rfl⟩
                    have hy12 := four4_yes h12
                    have hn12 := numB4 ob a4
                    obtain ⟨a5, ha5⟩ : ∃ a5, a4 + 4 = a5 := ⟨_, rfl⟩
                    have HF12 := cfour_yes ⟨g, Ab, nb, cb, Ax, nx, cx⟩ b x B a4 l2 w8 hR8 hB8 (by omega) h12
                    rw [hpp, ha5] at HF12
                    have e48 : a4 = a2 + 8 := by have := HA3.out; have := HA4.out; omega
                    rw [hpp, e48] at hy12
                    rw [hpp] at hn12
                    simp only [Rdr.cc] at HF12
                    have HF12 := Lib.hid HF12
                    have HY12 := Lib.hid hy12
                    have HA5 := Lib.hid (show a2 + 12 = a5 by omega)
                    have ha5b : a5 ≤ b.length := by omega
                    obtain ⟨P, hP⟩ := Int.eq_ofNat_of_zero_le hn12.1
                    subst hP
                    clear hpp hy12 ha5 e48
                    go_upto_region 14 with (go_at_call 67; refine HF12.out.mono ?_; rintro e w9 ⟨rfl, hB9, hn9⟩)
                    have hM9 := hM8.near_ hn9 hB8 hgb (by show g ≠ w.heap.size; omega) (by omega)
                    have hn9 : Near (fun i => i = g) w8 w9 := hn9
                    have hR9 := hR8.below (hn9.below (fun i hi => by have hi : i = g := hi; omega) (by omega))
                    have hz9 := hn9.size
                    clear HF12
                    have cB := hB9.cell
                    have fB := hB9.frozen
                    rcases htp : txt x P with _ | nm2
                    · have HTx := Lib.hid (ctext_no Ax nx cx x P w9 hR9.hx hR9.mx (by omega) hR9.cx (hR9.rx.more (by omega)) htp)
                      have hNF : F0 = none := HG.out.spec.symm.trans (itemsP_t HY4.out HY8.out HY12.out htp)
                      clear htp
                      go_upto_region 15 with (go_at_call 97; refine HTx.out.mono ?_; rintro e w10 ⟨rfl, rfl⟩)
                      go_quiet (fail)
                      generalize hwd : w9.drewN nq = wd
                      have hbd : Below w9.heap.size w9 wd := by rw [← hwd]; exact below_drewN (Below.refl _ _) _
                      have hBd := hB9.kept hbd
                      have hMd := hM9.kept hbd
                      have hzd := hbd.size
                      have hRd := hR9.below (hbd.mono (show B ≤ w9.heap.size by omega))
                      clear hwd cB fB
                      have cB := hBd.cell
                      have fB := hBd.frozen
                      obtain ⟨wl, hwl⟩ : ∃ wl, wd.setCell ⟨g, 3, none⟩ (.bool true) = wl := ⟨_, rfl⟩
                      have hBl := hBd.set_ 3 (.bool true)
                      have hMl := hMd.near_ (w5 := wd.setCell ⟨g, 3, none⟩ (.bool true)) ((Near.refl (fun i => i = g) wd).setCell (p := ⟨g, 3, none⟩) rfl _) hBd hgb (by show g ≠ w.heap.size; omega) (by omega)
                      rw [hwl] at hBl hMl
                      have hBl : Blk wl g 142 #[.slice Ab nb cb, .slice Ax nx cx, .int .i64 a5, .bool true, .int .i64 l2] := hBl
                      obtain ⟨Ap, cp, Ak, ck, kx, rfl, rfl, hXt⟩ := mid_tree hMl (by omega) (by omega)
                      obtain ⟨hRf, hRes⟩ := cur_fin (r := ⟨g, Ab, nb, cb, Ax, nx, cx⟩) (Q := Q) (b := b) (x := x) (d := d + 1) (a := a) (l := l) hMl.res hXt hBl hMl.near hgl (CurS.no (HNn.out hNF))
                      have HRes := Lib.hid hRes
                      have cTb := hMl.box.cell
                      have fTb := hMl.box.frozen
                      have cRb := hMl.res.cell
                      have fRb := hMl.res.frozen
                      have cRf := hRf.cell
                      clear hRes hXt
                      go_wp2_with fail
                      exact bodyPost_ret (v := .agg #[.string (strOfNums nm), .slice Ap ps.length cp, .slice Ak ks.length ck]) (by simp [results, Try.results68, go_sem, cRf]) rfl HRes.out
                    · have HTx := Lib.hid (ctext_yes Ax nx cx x nm2 P w9 hR9.hx hR9.mx hR9.cx (hR9.rx.more (by omega)) htp)
                      obtain ⟨s2, hs2⟩ : ∃ s2, strOfNums nm2 = s2 := ⟨_, rfl⟩
                      have hs2l : s2.size ≤ 20000 := by rw [← hs2, strOfNums_size]; have := (txt_some htp).2; have := hR9.mx; have := hR9.hx; simp only at this; omega
                      have HS2 := Lib.hid hs2
                      have HTp := Lib.hid htp
                      rw [hs2] at HTx
                      clear hs2 htp
                      go_upto_region 15 with (go_at_call 97; refine HTx.out.mono ?_; rintro e w10 ⟨rfl, rfl⟩)
                      by_cases hlong : N ≤ b.length - a5
                      · have e7 : decide ((nb : Int) - (a5 : Int) < (N : Int)) = false := decide_eq_false (by omega)
                        have e6 : decide ((N : Int) < 0) = false := decide_eq_false (by omega)
                        go_quiet (fail)
                        generalize hwd : w9.drewN nq = wd
                        have hbd : Below w9.heap.size w9 wd := by rw [← hwd]; exact below_drewN (Below.refl _ _) _
                        have hBd := hB9.kept hbd
                        have hMd := hM9.kept hbd
                        have hzd := hbd.size
                        have hRd := hR9.below (hbd.mono (show B ≤ w9.heap.size by omega))
                        clear hwd cB fB
                        have cB := hBd.cell
                        have fB := hBd.frozen
                        clear cB fB
                        go_upto_region 18 with (fail)
                        have hTd := hMd.box
                        obtain ⟨css, hpo, _⟩ := id hMd.ps
                        obtain ⟨Ap, cp, hvp, hcp1, _⟩ := own_slice hpo
                        obtain ⟨b1, o1, hAb, _, _⟩ := rb.2 (by omega)
                        subst hAb
                        obtain ⟨As, hAs⟩ : ∃ A, (if cb = a5 then (some ⟨b1, o1, none⟩ : Option Addr) else some ⟨b1, o1 + a5, none⟩) = A := ⟨_, rfl⟩
                        obtain ⟨bs, hbs⟩ : ∃ bs, (b.drop a5).take N = bs := ⟨_, rfl⟩
                        have hlen : bs.length = N := by rw [← hbs]; simp; omega
                        have hbok : BytesOk bs := by rw [← hbs]; exact fun y hy => ob y (List.mem_of_mem_drop (List.mem_of_mem_take hy))
                        have hqq : Q bs As := by
                          rw [← hbs]
                          refine HQ.out a5 N As (by show a5 + N ≤ nb; omega) ?_
                          rw [← hAs]
                          split
                          · exact .inl (by omega)
                          · exact .inr ⟨b1, o1, rfl, rfl⟩
                        have hcb5 : N ≤ cb - a5 := by omega
                        have hcm : cb - a5 ≤ maxLen := by have := HCb.out; omega
                        have HPr := Lib.hid (show PrY Q (s2, bs) [.string s2, .slice As N (cb - a5)] from ⟨by show s2.size ≤ maxLen; unfold maxLen; omega, hbok, As, cb - a5, by simp only [hlen], by simp only [hlen]; exact hcb5, hcm, hqq⟩)
                        have HAs := Lib.hid hAs
                        have HBs := Lib.hid hbs
                        have hXp : ∀ i, vps.ownBlock = some i → i < wd.heap.size := fun i hi => (hMd.ps.lt hi).2
                        have ew2 : IntKind.i64.wrap ((a5 : Int) + (N : Int)) = (a5 : Int) + (N : Int) := IntWalk.i64_in _ (by omega)
                        have hpsl : ps.length ≤ 1000000 := by have := HG.out.few; omega
                        clear hbs hAs hlen hqq hcm hpo hvp hcp1
                        refine wp_region_spec 20 [119, 120, 121, 122, 123, 124, 125, 126, 127, 128, 129, 130, 131, 132, 133, 134, 135, 136, 137, 138] [.eq (.pointer (some ⟨bt, 1, none⟩)), .eq vps, .eq (.string s2), .eq (.pointer (some ⟨g, 0, none⟩)), .eq (.pointer (some ⟨g, 0, none⟩)), .eq (.pointer (some ⟨g, 0, none⟩)), .eq (.slice (some ⟨b1, o1, none⟩) nb cb),
                          .eq (.pointer (some ⟨g, 0, none⟩)), .eq (.pointer (some ⟨g, 0, none⟩)), .eq (.pointer (some ⟨g, 2, none⟩)), .eq (.int .i64 a5), .eq (.pointer (some ⟨g, 0, none⟩)), .eq (.pointer (some ⟨g, 0, none⟩)), .eq (.pointer (some ⟨g, 2, none⟩)), .eq (.int .i64 a5), .eq (.int .i64 N), .eq (.int .i64 ((a5 : Int) + (N : Int))), .eq (.slice As N (cb - a5)), .eq (.agg #[.string s2, .slice As N (cb - a5)]), PsVY Q (fun i => vps.ownBlock = some i) [(s2, bs)]] (by kernel_rfl) (by kernel_rfl) ?_ ?_
                        · unfold StepS
                          simp only [List.take_succ_cons, List.take_zero, fillA, fillL, List.setIfInBounds_toArray, List.set_cons_succ, List.set_cons_zero, Nat.zero_add, Nat.reduceAdd]
                          refine StepsOk.cons (fun vals w' hb hd K hK => ?_) ?_
                          · go_simp
                            exact hK.out _ _ _ (Below.refl _ _) rfl (by kernel_rfl)
                          refine StepsOk.cons (fun vals w' hb hd K hK => ?_) ?_
                          · have d0 := hd 0 (by decide)
                            simp only [List.getD_cons_zero, List.getD_cons_succ, SP.eq] at d0
                            have hS' := (hTd.kept hb).cell
                            go_simp
                            exact hK.out _ _ _ (Below.refl _ _) rfl (by simp only [d0, Act.put, List.setIfInBounds_toArray, List.set_cons_succ, List.set_cons_zero])
                          refine StepsOk.cons (fun vals w' hb hd K hK => ?_) ?_
                          · go_simp
                            exact hK.out _ _ _ (Below.refl _ _) rfl (by kernel_rfl)
                          refine StepsOk.cons (fun vals w' hb hd K hK => ?_) ?_
                          · go_simp
                            exact hK.out _ _ _ (Below.refl _ _) rfl (by kernel_rfl)
                          refine StepsOk.cons (fun vals w' hb hd K hK => ?_) ?_
                          · have d3 := hd 3 (by decide)
                            simp only [List.getD_cons_zero, List.getD_cons_succ, SP.eq] at d3
                            go_simp
                            exact hK.out _ _ _ (Below.refl _ _) rfl (by simp only [d3, Act.put, List.setIfInBounds_toArray, List.set_cons_succ, List.set_cons_zero])
                          refine StepsOk.cons (fun vals w' hb hd K hK => ?_) ?_
                          · have d4 := hd 4 (by decide)
                            simp only [List.getD_cons_zero, List.getD_cons_succ, SP.eq] at d4
                            go_simp
                            exact hK.out _ _ _ (Below.refl _ _) rfl (by simp only [d4, Act.put, List.setIfInBounds_toArray, List.set_cons_succ, List.set_cons_zero])
                          refine StepsOk.cons (fun vals w' hb hd K hK => ?_) ?_
                          · have d5 := hd 5 (by decide)
                            simp only [List.getD_cons_zero, List.getD_cons_succ, SP.eq] at d5
                            have hS' := (hBd.kept hb).cell
                            go_simp
                            exact hK.out _ _ _ (Below.refl _ _) rfl (by simp only [d5, Act.put, List.setIfInBounds_toArray, List.set_cons_succ, List.set_cons_zero])
                          refine StepsOk.cons (fun vals w' hb hd K hK => ?_) ?_
                          · go_simp
                            exact hK.out _ _ _ (Below.refl _ _) rfl (by kernel_rfl)
                          refine StepsOk.cons (fun vals w' hb hd K hK => ?_) ?_
                          · have d7 := hd 7 (by decide)
                            simp only [List.getD_cons_zero, List.getD_cons_succ, SP.eq] at d7
                            go_simp
                            exact hK.out _ _ _ (Below.refl _ _) rfl (by simp only [d7, Act.put, List.setIfInBounds_toArray, List.set_cons_succ, List.set_cons_zero])
                          refine StepsOk.cons (fun vals w' hb hd K hK => ?_) ?_
                          · have d8 := hd 8 (by decide)
                            simp only [List.getD_cons_zero, List.getD_cons_succ, SP.eq] at d8
                            go_simp
                            exact hK.out _ _ _ (Below.refl _ _) rfl (by simp only [d8, Act.put, List.setIfInBounds_toArray, List.set_cons_succ, List.set_cons_zero])
                          refine StepsOk.cons (fun vals w' hb hd K hK => ?_) ?_
                          · have d9 := hd 9 (by decide)
                            simp only [List.getD_cons_zero, List.getD_cons_succ, SP.eq] at d9
                            have hS' := (hBd.kept hb).cell
                            go_simp
                            exact hK.out _ _ _ (Below.refl _ _) rfl (by simp only [d9, Act.put, List.setIfInBounds_toArray, List.set_cons_succ, List.set_cons_zero])
                          refine StepsOk.cons (fun vals w' hb hd K hK => ?_) ?_
                          · go_simp
                            exact hK.out _ _ _ (Below.refl _ _) rfl (by kernel_rfl)
                          refine StepsOk.cons (fun vals w' hb hd K hK => ?_) ?_
                          · have d11 := hd 11 (by decide)
                            simp only [List.getD_cons_zero, List.getD_cons_succ, SP.eq] at d11
                            go_simp
                            exact hK.out _ _ _ (Below.refl _ _) rfl (by simp only [d11, Act.put, List.setIfInBounds_toArray, List.set_cons_succ, List.set_cons_zero])
                          refine StepsOk.cons (fun vals w' hb hd K hK => ?_) ?_
                          · have d12 := hd 12 (by decide)
                            simp only [List.getD_cons_zero, List.getD_cons_succ, SP.eq] at d12
                            go_simp
                            exact hK.out _ _ _ (Below.refl _ _) rfl (by simp only [d12, Act.put, List.setIfInBounds_toArray, List.set_cons_succ, List.set_cons_zero])
                          refine StepsOk.cons (fun vals w' hb hd K hK => ?_) ?_
                          · have d13 := hd 13 (by decide)
                            simp only [List.getD_cons_zero, List.getD_cons_succ, SP.eq] at d13
                            have hS' := (hBd.kept hb).cell
                            go_simp
                            exact hK.out _ _ _ (Below.refl _ _) rfl (by simp only [d13, Act.put, List.setIfInBounds_toArray, List.set_cons_succ, List.set_cons_zero])
                          refine StepsOk.cons (fun vals w' hb hd K hK => ?_) ?_
                          · go_simp
                            exact hK.out _ _ _ (Below.refl _ _) rfl (by kernel_rfl)
                          refine StepsOk.cons (fun vals w' hb hd K hK => ?_) ?_
                          · have d14 := hd 14 (by decide)
                            simp only [List.getD_cons_zero, List.getD_cons_succ, SP.eq] at d14
                            have d15 := hd 15 (by decide)
                            simp only [List.getD_cons_zero, List.getD_cons_succ, SP.eq] at d15
                            go_simp
                            exact hK.out _ _ _ (Below.refl _ _) rfl (by simp only [d14, d15, Act.put, List.setIfInBounds_toArray, List.set_cons_succ, List.set_cons_zero])
                          refine StepsOk.cons (fun vals w' hb hd K hK => ?_) ?_
                          · have d6 := hd 6 (by decide)
                            simp only [List.getD_cons_zero, List.getD_cons_succ, SP.eq] at d6
                            have d10 := hd 10 (by decide)
                            simp only [List.getD_cons_zero, List.getD_cons_succ, SP.eq] at d10
                            have d16 := hd 16 (by decide)
                            simp only [List.getD_cons_zero, List.getD_cons_succ, SP.eq] at d16
                            have f1 : (0 : Int) ≤ (a5 : Int) + (N : Int) := by omega
                            have f2 : (a5 : Int) + (N : Int) ≤ (cb : Int) := by omega
                            have f3 : ((a5 : Int) + (N : Int)).toNat = a5 + N := by omega
                            have f4 : a5 ≤ a5 + N := by omega
                            have f5 : a5 + N - a5 = N := by omega
                            go_simp
                            rw [HAs.out]
                            exact hK.out _ _ _ (Below.refl _ _) rfl (by simp only [d6, d10, d16, Act.put, List.setIfInBounds_toArray, List.set_cons_succ, List.set_cons_zero])
                          refine StepsOk.cons (fun vals w' hb hd K hK => ?_) ?_
                          · have d2 := hd 2 (by decide)
                            simp only [List.getD_cons_zero, List.getD_cons_succ, SP.eq] at d2
                            have d17 := hd 17 (by decide)
                            simp only [List.getD_cons_zero, List.getD_cons_succ, SP.eq] at d17
                            go_simp
                            exact hK.out _ _ _ (Below.refl _ _) rfl (by simp only [d2, d17, Act.put, List.setIfInBounds_toArray, List.set_cons_succ, List.set_cons_zero])
                          refine StepsOk.cons (fun vals w' hb hd K hK => ?_) ?_
                          · have d18 := hd 18 (by decide)
                            simp only [List.getD_cons_zero, List.getD_cons_succ, SP.eq] at d18
                            go_simp
                            exact hK.out _ _ _ (bal (Below.refl _ _) _) (PsPY.fresh _ [(s2, bs)] [_] _ _ 1 ⟨HPr.out, trivial⟩ rfl rfl rfl (by decide) (fun i hi => Nat.lt_of_lt_of_le (hXp i hi) hb.size)) (by simp only [d18, Act.put, List.setIfInBounds_toArray, List.set_cons_succ, List.set_cons_zero])
                          exact StepsOk.nil
                        · intro vals we hbe hd
                          have d1 := hd 1 (by decide)
                          have d19 := hd 19 (by decide)
                          simp only [List.getD_cons_zero, List.getD_cons_succ, SP.eq] at d1 d19
                          obtain ⟨Az, cz, fz, hvz, _⟩ := id d19
                          simp only [List.length_cons, List.length_nil, Nat.zero_add] at hvz
                          have hMe := hMd.kept hbe
                          have hBe := hBd.kept hbe
                          have hze := hbe.size
                          obtain ⟨w21, A21, c21, hr21, hT21, hM22, hBa, hBb⟩ := hMe.addprop d19 hgb (by omega) (by omega) (by omega) hpsl
                          rw [hvz] at hr21
                          have hB21 := hBa _ _ hBe
                          have hB22 := hBb _ _ hBe
                          obtain ⟨np, hnp⟩ : ∃ np, ps.length + 1 = np := ⟨_, rfl⟩
                          rw [hnp] at hr21 hM22 hB22
                          simp only [List.drop_succ_cons, List.drop_zero, fillA, fillL, List.setIfInBounds_toArray, List.set_cons_succ, List.set_cons_zero, Nat.zero_add, Nat.reduceAdd, d1, hvz]
                          clear hd
                          refine wpList_apr rfl (.tmp 120) (.tmp 138) rfl rfl rfl hr21 ?_
                          have cT21 := hT21.cell
                          have fT21 := hT21.frozen
                          obtain ⟨w22, hw22⟩ : ∃ w22, w21.setCell ⟨bt, 1, none⟩ (.slice A21 np c21) = w22 := ⟨_, rfl⟩
                          rw [hw22] at hM22 hB22
                          have cB22 := hB22.cell
                          have fB22 := hB22.frozen
                          obtain ⟨u, hu⟩ : ∃ u, up4 N = u := ⟨_, rfl⟩
                          have hub : u ≤ N + 3 := by rw [← hu]; unfold up4; omega
                          have hq2 : ((a5 : Int) + (N : Int) + 3).tdiv 4 * 4 = ((a5 + u : Nat) : Int) := by
                            rw [← hu, Int.tdiv_eq_ediv_of_nonneg (by omega)]
                            have := HG.out.al
                            have := HA5.out
                            unfold up4
                            omega
                          have hB23 := hB22.set_ 2 (.int .i64 ((a5 + u : Nat) : Int))
                          have hM23 := hM22.near_ (w5 := w22.setCell ⟨g, 2, none⟩ (.int .i64 ((a5 + u : Nat) : Int))) ((Near.refl (fun i => i = g) w22).setCell (p := ⟨g, 2, none⟩) rfl _) hB22 hgb (by show g ≠ w.heap.size; omega) (by omega)
                          have hB23 : Blk (w22.setCell ⟨g, 2, none⟩ (.int .i64 ((a5 + u : Nat) : Int))) g 142 #[.slice (some ⟨b1, o1, none⟩) nb cb, .slice Ax nx cx, .int .i64 ((a5 + u : Nat) : Int), .bool false, .int .i64 l2] := hB23
                          have HB23 := Lib.hid hB23
                          have HM23 := Lib.hid hM23
                          have HU := Lib.hid hu
                          clear hu hnp hM22 hM23 hB23 hMe hBe hB22 hB21 hbe hze hTd
                          go_wp2_with fail
                          have cW3 : wr.cell? ⟨g, 3, none⟩ = some (.bool false) := hB.cell 3
                          have cW2 : wr.cell? ⟨g, 2, none⟩ = some (.int .i64 (a2 : Int)) := hB.cell 2
                          have cR3 : (w22.setCell ⟨g, 2, none⟩ (.int .i64 ((a5 + u : Nat) : Int))).cell? ⟨g, 3, none⟩ = some (.bool false) := HB23.out.cell 3
                          have cR2 : (w22.setCell ⟨g, 2, none⟩ (.int .i64 ((a5 + u : Nat) : Int))).cell? ⟨g, 2, none⟩ = some (.int .i64 ((a5 + u : Nat) : Int)) := HB23.out.cell 2
                          obtain ⟨f', hf'⟩ : ∃ f', f = f' + 1 := ⟨f - 1, by have := HG.out.fuel; omega⟩
                          go_roundw
                          case rel =>
                            refine ⟨_, _, _, _, HM23.out, .inr ⟨f', _, _, HB23.out, ?_, ?_, ?_, ?_, HG.out.lfew, ?_⟩⟩
                            · have h1 := HG.out.spec
                              rw [hf', itemsP_prop HY4.out HY8.out HY12.out HTp.out (by rw [HA5.out]; exact hlong), HA5.out, HS2.out] at h1
                              rw [← h1, ← HU.out]
                              show _ = itemsP (nodeP b x d) b x f' (ps ++ [(s2, (b.drop a5).take N)]) ks (a5 + up4 N) l2
                              rw [HBs.out]
                            · have := HG.out.fuel; have := HA5.out; omega
                            · have := HG.out.few; rw [List.length_append]; simp only [List.length_cons, List.length_nil]; omega
                            · omega
                            · have := HG.out.al; have := HA5.out; have := up4_al (n := N); have := HU.out; omega
                          case measure =>
                            have e5 : (a5 : Int) + (u : Int) = ((a5 + u : Nat) : Int) := by omega
                            rw [e5, cR3, cW3, cR2, cW2]
                            have := HA5.out
                            simp only [badC, Int.toNat_natCast]
                            omega
                      · have e7 : decide ((nb : Int) - (a5 : Int) < (N : Int)) = true := decide_eq_true (by omega)
                        have e6 : decide ((N : Int) < 0) = false := decide_eq_false (by omega)
                        have hNF : F0 = none := HG.out.spec.symm.trans (itemsP_long HY4.out HY8.out HY12.out HTp.out (by rw [HA5.out]; exact hlong))
                        go_quiet (fail)
                        generalize hwd : w9.drewN nq = wd
                        have hbd : Below w9.heap.size w9 wd := by rw [← hwd]; exact below_drewN (Below.refl _ _) _
                        have hBd := hB9.kept hbd
                        have hMd := hM9.kept hbd
                        have hzd := hbd.size
                        have hRd := hR9.below (hbd.mono (show B ≤ w9.heap.size by omega))
                        clear hwd cB fB
                        have cB := hBd.cell
                        have fB := hBd.frozen
                        obtain ⟨wl, hwl⟩ : ∃ wl, wd.setCell ⟨g, 3, none⟩ (.bool true) = wl := ⟨_, rfl⟩
                        have hBl := hBd.set_ 3 (.bool true)
                        have hMl := hMd.near_ (w5 := wd.setCell ⟨g, 3, none⟩ (.bool true)) ((Near.refl (fun i => i = g) wd).setCell (p := ⟨g, 3, none⟩) rfl _) hBd hgb (by show g ≠ w.heap.size; omega) (by omega)
                        rw [hwl] at hBl hMl
                        have hBl : Blk wl g 142 #[.slice Ab nb cb, .slice Ax nx cx, .int .i64 a5, .bool true, .int .i64 l2] := hBl
                        obtain ⟨Ap, cp, Ak, ck, kx, rfl, rfl, hXt⟩ := mid_tree hMl (by omega) (by omega)
                        obtain ⟨hRf, hRes⟩ := cur_fin (r := ⟨g, Ab, nb, cb, Ax, nx, cx⟩) (Q := Q) (b := b) (x := x) (d := d + 1) (a := a) (l := l) hMl.res hXt hBl hMl.near hgl (CurS.no (HNn.out hNF))
                        have HRes := Lib.hid hRes
                        have cTb := hMl.box.cell
                        have fTb := hMl.box.frozen
                        have cRb := hMl.res.cell
                        have fRb := hMl.res.frozen
                        have cRf := hRf.cell
                        clear hRes hXt
                        go_wp2_with fail
                        exact bodyPost_ret (v := .agg #[.string (strOfNums nm), .slice Ap ps.length cp, .slice Ak ks.length ck]) (by simp [results, Try.results68, go_sem, cRf]) rfl HRes.out
                  · have HF12 := Lib.hid (cfour_no ⟨g, Ab, nb, cb, Ax, nx, cx⟩ b x B a4 l2 w8 hR8 hB8 (by omega) h12 (by omega))
                    have hNF : F0 = none := HG.out.spec.symm.trans (itemsP_p HY4.out HY8.out (by rw [show a2 + 8 = a4 by have := HA3.out; have := HA4.out; omega]; exact four4_no h12))
                    go_upto_region 14 with (go_at_call 67; refine HF12.out.mono ?_; rintro e w9 ⟨rfl, hB9, hn9⟩)
                    have hM9 := hM8.near_ hn9 hB8 hgb (by show g ≠ w.heap.size; omega) (by omega)
                    have hn9 : Near (fun i => i = g) w8 w9 := hn9
                    have hR9 := hR8.below (hn9.below (fun i hi => by have hi : i = g := hi; omega) (by omega))
                    have hz9 := hn9.size
                    clear HF12
                    have hB9 : Blk w9 g 142 #[.slice Ab nb cb, .slice Ax nx cx, .int .i64 a4, .bool true, .int .i64 l2] := hB9
                    have cB := hB9.cell
                    have fB := hB9.frozen
                    obtain ⟨s2, is2, htx⟩ : ∃ s2 is2, Calls Try.prog 97 #[.slice Ax nx cx, .int .i64 (0 : Nat)] w9 fun e w' => e = .returned (.tuple #[.string s2, .bool is2]) ∧ w9 = w' := by
                      rcases htp : txt x 0 with _ | nm2
                      · exact ⟨_, _, ctext_no Ax nx cx x 0 w9 hR9.hx hR9.mx (by omega) hR9.cx (hR9.rx.more (by omega)) htp⟩
                      · exact ⟨_, _, ctext_yes Ax nx cx x nm2 0 w9 hR9.hx hR9.mx hR9.cx (hR9.rx.more (by omega)) htp⟩
                    have HTx := Lib.hid htx
                    clear htx
                    go_upto_region 15 with (go_at_call 97; refine HTx.out.mono ?_; rintro e w10 ⟨rfl, rfl⟩)
                    go_quiet (fail)
                    generalize hwd : w9.drewN nq = wd
                    have hbd : Below w9.heap.size w9 wd := by rw [← hwd]; exact below_drewN (Below.refl _ _) _
                    have hBd := hB9.kept hbd
                    have hMd := hM9.kept hbd
                    have hzd := hbd.size
                    have hRd := hR9.below (hbd.mono (show B ≤ w9.heap.size by omega))
                    clear hwd cB fB
                    have cB := hBd.cell
                    have fB := hBd.frozen
                    obtain ⟨wl, hwl⟩ : ∃ wl, wd.setCell ⟨g, 3, none⟩ (.bool true) = wl := ⟨_, rfl⟩
                    have hBl := hBd.set_ 3 (.bool true)
                    have hMl := hMd.near_ (w5 := wd.setCell ⟨g, 3, none⟩ (.bool true)) ((Near.refl (fun i => i = g) wd).setCell (p := ⟨g, 3, none⟩) rfl _) hBd hgb (by show g ≠ w.heap.size; omega) (by omega)
                    rw [hwl] at hBl hMl
                    have hBl : Blk wl g 142 #[.slice Ab nb cb, .slice Ax nx cx, .int .i64 a4, .bool true, .int .i64 l2] := hBl
                    obtain ⟨Ap, cp, Ak, ck, kx, rfl, rfl, hXt⟩ := mid_tree hMl (by omega) (by omega)
                    obtain ⟨hRf, hRes⟩ := cur_fin (r := ⟨g, Ab, nb, cb, Ax, nx, cx⟩) (Q := Q) (b := b) (x := x) (d := d + 1) (a := a) (l := l) hMl.res hXt hBl hMl.near hgl (CurS.no (HNn.out hNF))
                    have HRes := Lib.hid hRes
                    have cTb := hMl.box.cell
                    have fTb := hMl.box.frozen
                    have cRb := hMl.res.cell
                    have fRb := hMl.res.frozen
                    have cRf := hRf.cell
                    clear hRes hXt
                    go_wp2_with fail
                    exact bodyPost_ret (v := .agg #[.string (strOfNums nm), .slice Ap ps.length cp, .slice Ak ks.length ck]) (by simp [results, Try.results68, go_sem, cRf]) rfl HRes.out
                · have HF8 := Lib.hid (cfour_no ⟨g, Ab, nb, cb, Ax, nx, cx⟩ b x B a3 l2 w5 hR5 hB5 (by omega) h8 (by omega))
                  have hNF : F0 = none := HG.out.spec.symm.trans (itemsP_n HY4.out (by rw [HA3.out]; exact four4_no h8))
                  go_upto_region 13 with (go_at_call 67; refine HF8.out.mono ?_; rintro e w8 ⟨rfl, hB8, hn8'⟩)
                  have hM8 := hM5.near_ hn8' hB5 hgb (by show g ≠ w.heap.size; omega) (by omega)
                  have hn8' : Near (fun i => i = g) w5 w8 := hn8'
                  have hR8 := hR5.below (hn8'.below (fun i hi => by have hi : i = g := hi; omega) (by omega))
                  have hz8 := hn8'.size
                  clear HF8
                  have HF12 := Lib.hid (cfour_bad ⟨g, Ab, nb, cb, Ax, nx, cx⟩ b x B a3 l2 w8 hR8 hB8 (by omega) h8 (by omega))
                  go_upto_region 14 with (go_at_call 67; refine HF12.out.mono ?_; rintro e w9 ⟨rfl, hB9, hn9⟩)
                  have hM9 := hM8.near_ hn9 hB8 hgb (by show g ≠ w.heap.size; omega) (by omega)
                  have hn9 : Near (fun i => i = g) w8 w9 := hn9
                  have hR9 := hR8.below (hn9.below (fun i hi => by have hi : i = g := hi; omega) (by omega))
                  have hz9 := hn9.size
                  clear HF12
                  have hB9 : Blk w9 g 142 #[.slice Ab nb cb, .slice Ax nx cx, .int .i64 a3, .bool true, .int .i64 l2] := hB9
                  have cB := hB9.cell
                  have fB := hB9.frozen
                  obtain ⟨s2, is2, htx⟩ : ∃ s2 is2, Calls Try.prog 97 #[.slice Ax nx cx, .int .i64 (0 : Nat)] w9 fun e w' => e = .returned (.tuple #[.string s2, .bool is2]) ∧ w9 = w' := by
                    rcases htp : txt x 0 with _ | nm2
                    · exact ⟨_, _, ctext_no Ax nx cx x 0 w9 hR9.hx hR9.mx (by omega) hR9.cx (hR9.rx.more (by omega)) htp⟩
                    · exact ⟨_, _, ctext_yes Ax nx cx x nm2 0 w9 hR9.hx hR9.mx hR9.cx (hR9.rx.more (by omega)) htp⟩
                  have HTx := Lib.hid htx
                  clear htx
                  go_upto_region 15 with (go_at_call 97; refine HTx.out.mono ?_; rintro e w10 ⟨rfl, rfl⟩)
                  go_quiet (fail)
                  generalize hwd : w9.drewN nq = wd
                  have hbd : Below w9.heap.size w9 wd := by rw [← hwd]; exact below_drewN (Below.refl _ _) _
                  have hBd := hB9.kept hbd
                  have hMd := hM9.kept hbd
                  have hzd := hbd.size
                  have hRd := hR9.below (hbd.mono (show B ≤ w9.heap.size by omega))
                  clear hwd cB fB
                  have cB := hBd.cell
                  have fB := hBd.frozen
                  obtain ⟨wl, hwl⟩ : ∃ wl, wd.setCell ⟨g, 3, none⟩ (.bool true) = wl := ⟨_, rfl⟩
                  have hBl := hBd.set_ 3 (.bool true)
                  have hMl := hMd.near_ (w5 := wd.setCell ⟨g, 3, none⟩ (.bool true)) ((Near.refl (fun i => i = g) wd).setCell (p := ⟨g, 3, none⟩) rfl _) hBd hgb (by show g ≠ w.heap.size; omega) (by omega)
                  rw [hwl] at hBl hMl
                  have hBl : Blk wl g 142 #[.slice Ab nb cb, .slice Ax nx cx, .int .i64 a3, .bool true, .int .i64 l2] := hBl
                  obtain ⟨Ap, cp, Ak, ck, kx, rfl, rfl, hXt⟩ := mid_tree hMl (by omega) (by omega)
                  obtain ⟨hRf, hRes⟩ := cur_fin (r := ⟨g, Ab, nb, cb, Ax, nx, cx⟩) (Q := Q) (b := b) (x := x) (d := d + 1) (a := a) (l := l) hMl.res hXt hBl hMl.near hgl (CurS.no (HNn.out hNF))
                  have HRes := Lib.hid hRes
                  have cTb := hMl.box.cell
                  have fTb := hMl.box.frozen
                  have cRb := hMl.res.cell
                  have fRb := hMl.res.frozen
                  have cRf := hRf.cell
                  clear hRes hXt
                  go_wp2_with fail
                  exact bodyPost_ret (v := .agg #[.string (strOfNums nm), .slice Ap ps.length cp, .slice Ak ks.length ck]) (by simp [results, Try.results68, go_sem, cRf]) rfl HRes.out
              · by_cases y1 : y = 1
                · subst y1
                  clear hM
                  go_upto_region 21 with (go_at_call 67; refine HF5.out.mono ?_; rintro e w5 ⟨rfl, hB5, hn5⟩)
                  have hM5 := HM.out.near_ hn5 hB hgb (by show g ≠ w.heap.size; omega) (by omega)
                  have hn5 : Near (fun i => i = g) wr w5 := hn5
                  have hR5 := hR.below (hn5.below (fun i hi => by have hi : i = g := hi; omega) hBr)
                  have hz5 := hn5.size
                  have hIH := Lib.hid (IH.out ⟨g, Ab, nb, cb, Ax, nx, cx⟩ b x B a3 l2 (at_ + 1) w5 HQ.out (by omega) (by omega) HCb.out hR5 hB5 hBg (by omega) (by have := HG.out.al; have := HA3.out; omega) HG.out.lfew)
                  have hl2 := HG.out.lfew
                  clear HF5 cB fB
                  go_upto_region 22 with (go_at_call 68; refine hIH.out.mono ?_; rintro e w7 ⟨t, s7, A1, n1, c1, A2, n2, c2, k7, a', bad', l', rfl, hX7, hB7, hn7, hC7⟩)
                  have hM7 := hM5.near_ hn7 hB5 hgb (by show g ≠ w.heap.size; omega) (by omega)
                  clear hIH
                  have hn7 : Near (fun i => i = g) w5 w7 := hn7
                  have hz7 := hn7.size
                  have hXs : ∀ i, ((i < bt + 1 ∨ vps.ownBlock = some i) ∨ vks.ownBlock = some i) → i < w5.heap.size := fun i hi => by
                    rcases hi with (hi | hi) | hi
                    · have := hM5.size; omega
                    · exact (hM5.ps.lt hi).2
                    · exact (hM5.ks.lt hi).2
                  have hX7 := hX7.less (Y := fun i => (i < bt + 1 ∨ vps.ownBlock = some i) ∨ vks.ownBlock = some i) hXs
                  have hb8 := bal (Below.refl w7.heap.size w7) (.cells #[.string s7, .slice A1 n1 c1, .slice A2 n2 c2] 25)
                  have hX8 := TrY.turn (Same.of_below hb8) hX7
                  have hM8 := hM7.kept hb8
                  have hB8 := hB7.kept hb8
                  have hT8 := Blk.new w7 25 #[.string s7, .slice A1 n1 c1, .slice A2 n2 c2]
                  have hz8 : (w7.alloc (.cells #[.string s7, .slice A1 n1 c1, .slice A2 n2 c2] 25)).heap.size = w7.heap.size + 1 := by simp
                  clear hM7 hX7 hM5 hB5
                  generalize hw8 : w7.alloc (.cells #[.string s7, .slice A1 n1 c1, .slice A2 n2 c2] 25) = w8 at *
                  obtain ⟨bz, hbz⟩ : ∃ bz, w8.heap.size = bz := ⟨_, rfl⟩
                  have hb9 := bal (Below.refl w8.heap.size w8) (.cells #[.string s7, .slice A1 n1 c1, .slice A2 n2 c2] 25)
                  have hx9 := TsPY.fresh w8 [t] [_] #[.string s7, .slice A1 n1 c1, .slice A2 n2 c2] bz 1 ⟨⟨_, hX8⟩, trivial⟩ hbz.symm rfl rfl (by decide) (fun i hi => by have := hXs i hi; omega)
                  have hM9 := hM8.kept hb9
                  have hB9 := hB8.kept hb9
                  have hbk : ks.length ≤ 1000000 := by have := HG.out.few; omega
                  obtain ⟨w10, A10, c10, hr10, hT10, hM10, hB10⟩ := hM9.addkid hx9 hgb (by omega) (by omega) (by omega) hbk
                  have hB11 := hB10 _ _ hB9
                  have cT10 := hT10.cell
                  have fT10 := hT10.frozen
                  have cT8 := hT8.cell
                  have cM8 := hM8.box.cell
                  clear hB10 hx9 hb9 hM9 hB9 hB8 hX8 hB7
                  obtain ⟨nk, hnk⟩ : ∃ nk, ks.length + 1 = nk := ⟨_, rfl⟩
                  rw [hnk] at hr10 hM10 hB11
                  have HM11 := Lib.hid hM10
                  have HB11 := Lib.hid hB11
                  clear hM10 hB11 hM8 hw8
                  have hz8' : w7.heap.size < bz := by omega
                  clear hz8
                  go_wp2_with (at_builtin; refine wpList_apr rfl (.tmp 160) (.tmp 162) rfl rfl rfl hr10 ?_)
                  have cW3 : wr.cell? ⟨g, 3, none⟩ = some (.bool false) := hB.cell 3
                  have cW2 : wr.cell? ⟨g, 2, none⟩ = some (.int .i64 (a2 : Int)) := hB.cell 2
                  have cR3 : (w10.setCell ⟨bt, 2, none⟩ (.slice A10 nk c10)).cell? ⟨g, 3, none⟩ = some (.bool bad') := HB11.out.cell 3
                  have cR2 : (w10.setCell ⟨bt, 2, none⟩ (.slice A10 nk c10)).cell? ⟨g, 2, none⟩ = some (.int .i64 a') := HB11.out.cell 2
                  go_roundw
                  case rel =>
                    unfold CurS at hC7
                    rcases hnp : nodeP b x d a3 l2 with _ | ⟨t0, a0', l0'⟩
                    · rw [hnp] at hC7
                      subst hC7
                      exact ⟨_, _, _, _, HM11.out, .inl ⟨_, _, HB11.out, HG.out.spec.symm.trans (itemsP_kid0 HY4.out (by rw [HA3.out]; exact hnp))⟩⟩
                    · rw [hnp] at hC7
                      obtain ⟨rfl, rfl, rfl, rfl⟩ := hC7
                      have hat := nodeP_at _ _ _ _ _ _ hnp
                      have hlt := nodeP_less _ _ _ _ _ _ hnp
                      have hat4 := nodeP_al _ _ _ _ _ _ (by have := HG.out.al; have := HA3.out; omega) hnp
                      obtain ⟨f', hf'⟩ : ∃ f', f = f' + 1 := ⟨f - 1, by have := HG.out.fuel; omega⟩
                      refine ⟨_, _, _, _, HM11.out, .inr ⟨f', _, _, HB11.out, ?_, ?_, ?_, ?_, ?_, hat4⟩⟩
                      · have h1 := HG.out.spec
                        rw [hf', itemsP_kid HY4.out, HA3.out, hnp] at h1
                        exact h1
                      · have := HG.out.fuel; have := HA3.out; omega
                      · have := HG.out.few; rw [List.length_append]; simp only [List.length_cons, List.length_nil]; omega
                      · omega
                      · omega
                  case measure =>
                    rw [cR3, cW3, cR2, cW2]
                    unfold CurS at hC7
                    have ha32 := HA3.out
                    rcases hnp : nodeP b x d a3 l2 with _ | ⟨t0, a0', l0'⟩
                    · rw [hnp] at hC7
                      subst hC7
                      simp only [badC, Int.toNat_natCast]
                      omega
                    · rw [hnp] at hC7
                      obtain ⟨rfl, rfl, rfl, rfl⟩ := hC7
                      have hat := nodeP_at _ _ _ _ _ _ hnp
                      simp only [badC, Int.toNat_natCast]
                      omega
                · by_cases y2 : y = 2
                  · subst y2
                    clear hM
                    go_upto_region 24 with (go_at_call 67; refine HF5.out.mono ?_; rintro e w5 ⟨rfl, hB5, hn5⟩)
                    have hM5 := HM.out.near_ hn5 hB hgb (by show g ≠ w.heap.size; omega) (by omega)
                    obtain ⟨f', hf'⟩ : ∃ f', f = f' + 1 := ⟨f - 1, by have := HG.out.fuel; omega⟩
                    have hsp := HG.out.spec
                    rw [hf', itemsP_end HY4.out, HA3.out] at hsp
                    have hno := HNy.out _ _ _ _ (HF0.out.trans hsp.symm)
                    have hz5 := hn5.size
                    clear hf' hsp cB fB
                    obtain ⟨Ap, cp, Ak, ck, kx, rfl, rfl, hXt⟩ := mid_tree hM5 (by omega) (by omega)
                    obtain ⟨hRf, hRes⟩ := cur_fin (r := ⟨g, Ab, nb, cb, Ax, nx, cx⟩) (Q := Q) (b := b) (x := x) (d := d + 1) (a := a) (l := l) hM5.res hXt hB5 hM5.near hgl (CurS.yes hno)
                    have HRes := Lib.hid hRes
                    have cTb := hM5.box.cell
                    have fTb := hM5.box.frozen
                    have cRb := hM5.res.cell
                    have fRb := hM5.res.frozen
                    have cRf := hRf.cell
                    clear hRes hXt
                    go_wp2_with fail
                    exact bodyPost_ret (v := .agg #[.string (strOfNums nm), .slice Ap ps.length cp, .slice Ak ks.length ck]) (by simp [results, Try.results68, go_sem, cRf]) rfl HRes.out
                  · have e3 : (y == 3) = false := by simp [y3]
                    have e1' : (y == 1) = false := by simp [y1]
                    have e2' : (y == 2) = false := by simp [y2]
                    clear hM
                    go_wp2_with (go_at_call 67; refine HF5.out.mono ?_; rintro e w5 ⟨rfl, hB5, hn5⟩; have cB5 := hB5.cell; have fB5 := hB5.frozen; clear cB fB)
                    have hNF : F0 = none := HG.out.spec.symm.trans (itemsP_else HY4.out y3 y1 y2)
                    have hM5 := HM.out.near_ hn5 hB hgb (by show g ≠ w.heap.size; omega) (by omega)
                    have hB6 := hB5.set_ 3 (.bool true)
                    have hM6 := hM5.near_ (w5 := w5.setCell ⟨g, 3, none⟩ (.bool true)) ((Near.refl (fun i => i = g) w5).setCell (p := ⟨g, 3, none⟩) rfl _) hB5 hgb (by show g ≠ w.heap.size; omega) (by omega)
                    have hB6 : Blk (w5.setCell ⟨g, 3, none⟩ (.bool true)) g 142 #[.slice Ab nb cb, .slice Ax nx cx, .int .i64 a3, .bool true, .int .i64 l2] := hB6
                    have cW3 : wr.cell? ⟨g, 3, none⟩ = some (.bool false) := hB.cell 3
                    have cW2 : wr.cell? ⟨g, 2, none⟩ = some (.int .i64 (a2 : Int)) := hB.cell 2
                    have hlt : 0 < 50001 - a2 := by omega
                    have HB6 := Lib.hid hB6
                    have HM6 := Lib.hid hM6
                    go_roundw
                    case rel => exact ⟨ps, ks, vps, vks, HM6.out, .inl ⟨_, _, HB6.out, hNF⟩⟩
                    case measure =>
                      have cR3 : (w5.setCell ⟨g, 3, none⟩ (.bool true)).cell? ⟨g, 3, none⟩ = some (.bool true) := HB6.out.cell 3
                      rw [cR3, cW3, cW2]
                      simp only [badC, Int.toNat_natCast]
                      exact hlt
            · have HF5 := Lib.hid (cfour_no ⟨g, Ab, nb, cb, Ax, nx, cx⟩ b x B a2 l2 wr hR hB hBr h4 (by omega))
              have HM := Lib.hid hM
              have HG := Lib.hid hG
              go_wp2_with (go_at_call 67; refine HF5.out.mono ?_; rintro e w5 ⟨rfl, hB5, hn5⟩; have cB5 := hB5.cell; have fB5 := hB5.frozen; clear cB fB)
              have hNF : F0 = none := HG.out.spec.symm.trans (itemsP_no (four4_no h4))
              have hM5 := HM.out.near_ hn5 hB hgb (by show g ≠ w.heap.size; omega) (by omega)
              have hB6 := hB5.set_ 3 (.bool true)
              have hM6 := hM5.near_ (w5 := w5.setCell ⟨g, 3, none⟩ (.bool true)) ((Near.refl (fun i => i = g) w5).setCell (p := ⟨g, 3, none⟩) rfl _) hB5 hgb (by show g ≠ w.heap.size; omega) (by omega)
              have hB6 : Blk (w5.setCell ⟨g, 3, none⟩ (.bool true)) g 142 #[.slice Ab nb cb, .slice Ax nx cx, .int .i64 a2, .bool true, .int .i64 l2] := hB6
              have cW3 : wr.cell? ⟨g, 3, none⟩ = some (.bool false) := hB.cell 3
              have cW2 : wr.cell? ⟨g, 2, none⟩ = some (.int .i64 (a2 : Int)) := hB.cell 2
              have hlt : 0 < 50001 - a2 := by omega
              have HB6 := Lib.hid hB6
              have HM6 := Lib.hid hM6
              go_roundw
              case rel => exact ⟨ps, ks, vps, vks, HM6.out, .inl ⟨_, _, HB6.out, hNF⟩⟩
              case measure =>
                have cR3 : (w5.setCell ⟨g, 3, none⟩ (.bool true)).cell? ⟨g, 3, none⟩ = some (.bool true) := HB6.out.cell 3
                rw [cR3, cW3, cW2]
                simp only [badC, Int.toNat_natCast]
                exact hlt
end Go.Proofs.Ytnkpaockginooaa
