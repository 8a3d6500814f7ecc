/- A tree out of bytes: the specification; the reader's small functions, walked. -/
import Derived.Test.YtnkpaockginooaaVal
import Derived.Test.YtnkpaockginooaaWordGet
import Derived.Test.YtnkpaockginooaaMayA
namespace Go.Proofs.Ytnkpaockginooaa
set_option linter.unusedVariables false
set_option linter.unusedSimpArgs false
open Go.RowKit Go.Sort

/-- A number at a place; a text up to a byte 0; up to a multiple of four. -/
def four4 (b : List Int) (a : Nat) : Option Int := if a + 4 ≤ b.length then some (numB ((b.drop a).take 4)) else none
def txtL (b : List Int) (a : Nat) : List Int := (b.drop a).takeWhile fun x => x != 0
def txt (b : List Int) (a : Nat) : Option (List Int) := if a + (txtL b a).length < b.length then some (txtL b a) else none
def up4 (n : Nat) : Nat := (n + 3) / 4 * 4
/-- What stands behind a node's name: properties and nodes, up to the end. -/
def itemsP (g : Nat → Nat → Option (Tr × Nat × Nat)) (b x : List Int) : Nat → List Pr → List Tr → Nat → Nat → Option (List Pr × List Tr × Nat × Nat)
  | 0, _, _, _, _ => none
  | f + 1, ps, ks, a, l =>
    (four4 b a).bind fun y =>
      if y = 3 then (four4 b (a + 4)).bind fun n => (four4 b (a + 8)).bind fun p => (txt x p.toNat).bind fun nm =>
        if n.toNat ≤ b.length - (a + 12) then itemsP g b x f (ps ++ [(strOfNums nm, (b.drop (a + 12)).take n.toNat)]) ks (a + 12 + up4 n.toNat) l else none
      else if y = 1 then (g (a + 4) l).bind fun r => itemsP g b x f ps (ks ++ [r.1]) r.2.1 r.2.2
      else if y = 2 then some (ps, ks, a + 4, l) else none
/-- A node, from its name on; d = 9 less how deep it lies; l nodes are left. -/
def nodeP (b x : List Int) : Nat → Nat → Nat → Option (Tr × Nat × Nat)
  | 0, _, _ => none
  | d + 1, a, l => if l = 0 then none else (txt b a).bind fun nm =>
      (itemsP (nodeP b x d) b x (b.length + 1) [] [] (a + up4 (nm.length + 1)) (l - 1)).bind fun r => some (.mk (strOfNums nm) r.1 r.2.1, r.2.2.1, r.2.2.2)
theorem four4_yes {b : List Int} {a : Nat} (h : a + 4 ≤ b.length) : four4 b a = some (numB ((b.drop a).take 4)) := by unfold four4; rw [if_pos h]
theorem four4_no {b : List Int} {a : Nat} (h : ¬ a + 4 ≤ b.length) : four4 b a = none := by unfold four4; rw [if_neg h]
theorem numB4 {b : List Int} (hb : BytesOk b) (a : Nat) : 0 ≤ numB ((b.drop a).take 4) ∧ numB ((b.drop a).take 4) < 4294967296 := by
  have h := numB_bd _ ((b.drop a).take 4) rfl (fun x hx => hb x (List.mem_of_mem_drop (List.mem_of_mem_take hx)))
  have hl : ((b.drop a).take 4).length ≤ 4 := by rw [List.length_take]; omega
  refine ⟨h.1, Int.lt_of_lt_of_le h.2 ?_⟩
  exact (show ∀ k, k < 5 → (256 : Int) ^ k ≤ 4294967296 by decide) _ (by omega)
/-- What is thrown. -/
abbrev thrown : Ending := .panicked [{ v := .iface 128 (.agg #[]), recovered := false }]
theorem must_yes (w : World) : Calls Try.prog 63 #[.bool true] w fun e w' => e = .returned (.tuple #[]) ∧ w = w' := by
  go_enter Try.func63, Try.ntmps63
  go_wp2
  go_end0
  exact ⟨rfl, rfl⟩
theorem must_no (w : World) : Calls Try.prog 63 #[.bool false] w fun e w' => e = thrown ∧ w = w' := by
  go_enter Try.func63, Try.ntmps63
  go_wp2
  exact ⟨rfl, rfl, rfl⟩
/-- The reader in memory; what it reads lies in rows that do not turn. -/
structure Rdr where
  g : Nat
  Ab : Option Addr
  nb : Nat
  cb : Nat
  Ax : Option Addr
  nx : Nat
  cx : Nat
def Rdr.cs (r : Rdr) (a : Nat) (l : Int) : Array Value := #[.slice r.Ab r.nb r.cb, .slice r.Ax r.nx r.cx, .int .i64 a, .int .i64 l]
/-- .. and the rows: below B, which lies at its block or ahead. -/
structure RdRows (w : World) (r : Rdr) (b x : List Int) (B : Nat) : Prop where
  hb : b.length = r.nb
  hx : x.length = r.nx
  ob : BytesOk b
  ox : BytesOk x
  mb : r.nb ≤ 20000
  mx : r.nx ≤ 20000
  cb : r.nb ≤ r.cb
  cx : r.nx ≤ r.cx
  rb : Rd w B 1 r.Ab r.nb (b.flatMap encB)
  rx : Rd w B 1 r.Ax r.nx (x.flatMap encB)
theorem RdRows.below {w w' : World} {r : Rdr} {b x : List Int} {B : Nat} (h : RdRows w r b x B) (hb : Below B w w') : RdRows w' r b x B := ⟨h.hb, h.hx, h.ob, h.ox, h.mb, h.mx, h.cb, h.cx, h.rb.below hb, h.rx.below hb⟩
set_option maxRecDepth 100000 in
set_option maxHeartbeats 2000000 in
theorem four_yes (r : Rdr) (b x : List Int) (B a : Nat) (l : Int) (w : World) (hR : RdRows w r b x B) (hB : Blk w r.g 135 (r.cs a l)) (hz : B ≤ w.heap.size) (h : a + 4 ≤ b.length) :
    Calls Try.prog 64 #[.pointer (some ⟨r.g, 0, none⟩)] w fun e w' => e = .returned (.int .i64 (numB ((b.drop a).take 4))) ∧ Blk w' r.g 135 (r.cs (a + 4) l) ∧ Near (fun i => i = r.g) w w' := by
  obtain ⟨g, Ab, nb, cb, Ax, nx, cx⟩ := r
  obtain ⟨hb, hx, ob, ox, mb, mx, hcb, hcx, rb, rx⟩ := hR
  simp only [Rdr.cs] at hB hb mb rb ⊢
  have hn := numB4 ob a
  have HBe := Lib.hid (fun W (hW : Below w.heap.size w W) => be32_yes Ab nb cb b a W hb ob (by omega) (by omega) ((rb.more hz).below hW |>.more hW.size))
  obtain ⟨y, hy⟩ : ∃ y, numB ((b.drop a).take 4) = y := ⟨_, rfl⟩
  rw [hy] at HBe hn ⊢
  have ha : a ≤ 20000 := by omega
  have HB := Lib.hid hB
  have hS1 : (fun W' : World => ∀ i, W'.cell? ⟨g, i, none⟩ = (#[.slice Ab nb cb, .slice Ax nx cx, .int .i64 a, .int .i64 l] : Array Value)[i]?) w.drew := hB.drew.cell
  have hgl := hB.lt
  clear hy rb rx hb h hB
  go_enter Try.func64, Try.ntmps64
  go_upto_region 1 with (fail)
  refine wp_region_held_drew (S := fun W' : World => ∀ i, W'.cell? ⟨g, i, none⟩ = (#[.slice Ab nb cb, .slice Ax nx cx, .int .i64 a, .int .i64 l] : Array Value)[i]?) (by kernel_rfl) hS1 (fun hHeld => ?_)
  clear hHeld
  refine wpAnyH_take (i := 0) (v := ?va0) rfl (by kernel_rfl) (by kernel_rfl) (by kernel_rfl) (fun _ _ _ h => h) (Or.inl ⟨by kernel_rfl, ?hya0⟩) hS1 ?resta0
  case hya0 =>
    intro w hSw
    clear hSw
    go_simp
    first | done | with_reducible rfl
  (try simp only [List.getElem_toArray, List.getElem_cons_succ, List.getElem_cons_zero, Act.put, List.setIfInBounds_toArray, List.set_cons_zero, List.set_cons_succ])
  refine wpAnyH_take (i := 1) (v := ?va1) rfl (by kernel_rfl) (by kernel_rfl) (by kernel_rfl) (fun _ _ _ h => h) (Or.inl ⟨by kernel_rfl, ?hya1⟩) hS1 ?resta1
  case hya1 =>
    intro w hSw
    clear hSw
    go_simp
    first | done | with_reducible rfl
  (try simp only [List.getElem_toArray, List.getElem_cons_succ, List.getElem_cons_zero, Act.put, List.setIfInBounds_toArray, List.set_cons_zero, List.set_cons_succ])
  refine wpAnyH_take (i := 2) (v := ?va2) rfl (by kernel_rfl) (by kernel_rfl) (by kernel_rfl) (fun _ _ _ h => h) (Or.inl ⟨by kernel_rfl, ?hya2⟩) hS1 ?resta2
  case hya2 =>
    intro w hSw
    clear hSw
    go_simp
    first | done | with_reducible rfl
  (try simp only [List.getElem_toArray, List.getElem_cons_succ, List.getElem_cons_zero, Act.put, List.setIfInBounds_toArray, List.set_cons_zero, List.set_cons_succ])
  refine wpAnyH_take (i := 3) (v := ?va3) rfl (by kernel_rfl) (by kernel_rfl) (by kernel_rfl) (fun _ _ _ h => h) (Or.inl ⟨by kernel_rfl, ?hya3⟩) hS1 ?resta3
  case hya3 =>
    intro w hSw
    (try dsimp only at hSw)
    go_simp
    first | done | with_reducible rfl
  (try simp only [List.getElem_toArray, List.getElem_cons_succ, List.getElem_cons_zero, Act.put, List.setIfInBounds_toArray, List.set_cons_zero, List.set_cons_succ])
  refine wpAnyH_take (i := 4) (v := ?va4) rfl (by kernel_rfl) (by kernel_rfl) (by kernel_rfl) (fun _ _ _ h => h) (Or.inl ⟨by kernel_rfl, ?hya4⟩) hS1 ?resta4
  case hya4 =>
    intro w hSw
    clear hSw
    go_simp
    first | done | with_reducible rfl
  (try simp only [List.getElem_toArray, List.getElem_cons_succ, List.getElem_cons_zero, Act.put, List.setIfInBounds_toArray, List.set_cons_zero, List.set_cons_succ])
  refine wpAnyH_take (i := 5) (v := ?va5) rfl (by kernel_rfl) (by kernel_rfl) (by kernel_rfl) (fun _ _ _ h => h) (Or.inl ⟨by kernel_rfl, ?hya5⟩) hS1 ?resta5
  case hya5 =>
    intro w hSw
    clear hSw
    go_simp
    first | done | with_reducible rfl
  (try simp only [List.getElem_toArray, List.getElem_cons_succ, List.getElem_cons_zero, Act.put, List.setIfInBounds_toArray, List.set_cons_zero, List.set_cons_succ])
  refine wpAnyH_take (i := 6) (v := ?va6) rfl (by kernel_rfl) (by kernel_rfl) (by kernel_rfl) (fun _ _ _ h => h) (Or.inl ⟨by kernel_rfl, ?hya6⟩) hS1 ?resta6
  case hya6 =>
    intro w hSw
    clear hSw
    go_simp
    first | done | with_reducible rfl
  (try simp only [List.getElem_toArray, List.getElem_cons_succ, List.getElem_cons_zero, Act.put, List.setIfInBounds_toArray, List.set_cons_zero, List.set_cons_succ])
  refine wpAnyH_take (i := 7) (v := ?va7) rfl (by kernel_rfl) (by kernel_rfl) (by kernel_rfl) (fun _ _ _ h => h) (Or.inl ⟨by kernel_rfl, ?hya7⟩) hS1 ?resta7
  case hya7 =>
    intro w hSw
    (try dsimp only at hSw)
    go_simp
    first | done | with_reducible rfl
  (try simp only [List.getElem_toArray, List.getElem_cons_succ, List.getElem_cons_zero, Act.put, List.setIfInBounds_toArray, List.set_cons_zero, List.set_cons_succ])
  refine wpAnyH_call (i := 8) (by kernel_rfl) rfl (by kernel_rfl) fun K hK => ?_
  simp only [List.getElem_toArray, List.getElem_cons_succ, List.getElem_cons_zero]
  go_simp
  go_at_call 62
  refine (HBe.out _ (Below.refl _ _).drew).mono ?_
  rintro e w1 ⟨rfl, rfl⟩
  refine hK.out _ _ hS1 ?_
  clear hK K
  (try simp only [List.getElem_toArray, List.getElem_cons_succ, List.getElem_cons_zero, Act.put, List.setIfInBounds_toArray, List.set_cons_zero, List.set_cons_succ])
  refine wpAnyH_take (i := 9) (v := ?va9) rfl (by kernel_rfl) (by kernel_rfl) (by kernel_rfl) (fun _ _ _ h => h) (Or.inl ⟨by kernel_rfl, ?hya9⟩) hS1 ?resta9
  case hya9 =>
    intro w hSw
    clear hSw
    go_simp
    first | done | with_reducible rfl
  (try simp only [List.getElem_toArray, List.getElem_cons_succ, List.getElem_cons_zero, Act.put, List.setIfInBounds_toArray, List.set_cons_zero, List.set_cons_succ])
  refine wpAnyH_take (i := 10) (v := ?va10) rfl (by kernel_rfl) (by kernel_rfl) (by kernel_rfl) (fun _ _ _ h => h) (Or.inl ⟨by kernel_rfl, ?hya10⟩) hS1 ?resta10
  case hya10 =>
    intro w hSw
    clear hSw
    go_simp
    first | done | with_reducible rfl
  (try simp only [List.getElem_toArray, List.getElem_cons_succ, List.getElem_cons_zero, Act.put, List.setIfInBounds_toArray, List.set_cons_zero, List.set_cons_succ])
  refine wpAnyH_take (i := 11) (v := ?va11) rfl (by kernel_rfl) (by kernel_rfl) (by kernel_rfl) (fun _ _ _ h => h) (Or.inl ⟨by kernel_rfl, ?hya11⟩) hS1 ?resta11
  case hya11 =>
    intro w hSw
    clear hSw
    go_simp
    first | done | with_reducible rfl
  (try simp only [List.getElem_toArray, List.getElem_cons_succ, List.getElem_cons_zero, Act.put, List.setIfInBounds_toArray, List.set_cons_zero, List.set_cons_succ])
  refine wpAnyH_take (i := 12) (v := ?va12) rfl (by kernel_rfl) (by kernel_rfl) (by kernel_rfl) (fun _ _ _ h => h) (Or.inl ⟨by kernel_rfl, ?hya12⟩) hS1 ?resta12
  case hya12 =>
    intro w hSw
    clear hSw
    go_simp
    first | done | with_reducible rfl
  (try simp only [List.getElem_toArray, List.getElem_cons_succ, List.getElem_cons_zero, Act.put, List.setIfInBounds_toArray, List.set_cons_zero, List.set_cons_succ])
  refine wpAnyH_take (i := 13) (v := ?va13) rfl (by kernel_rfl) (by kernel_rfl) (by kernel_rfl) (fun _ _ _ h => h) (Or.inl ⟨by kernel_rfl, ?hya13⟩) hS1 ?resta13
  case hya13 =>
    intro w hSw
    clear hSw
    go_simp
    first | done | with_reducible rfl
  (try simp only [List.getElem_toArray, List.getElem_cons_succ, List.getElem_cons_zero, Act.put, List.setIfInBounds_toArray, List.set_cons_zero, List.set_cons_succ])
  refine wpAnyH_done (by kernel_rfl) ?_ _
  clear hS1 HBe
  have hB1 := HB.out.drew
  have hN1 : Near (fun i => i = g) w w.drew := Near.of_below _ (Below.refl _ _).drew
  generalize w.drew = w1 at *
  have cB := hB1.cell
  have fB := hB1.frozen
  go_wp2_with (go_at_call 63; refine (must_yes _).mono ?_; rintro e w2 ⟨rfl, rfl⟩)
  go_ret
  have hB2 := hB1.set_ 2 (.int .i64 ((a + 4 : Nat) : Int))
  refine ⟨rfl, ?_, ?_⟩
  · simpa using hB2
  · exact hN1.setCell (p := ⟨g, 2, none⟩) rfl _
set_option maxRecDepth 100000 in
set_option maxHeartbeats 2000000 in
theorem four_no (r : Rdr) (b x : List Int) (B a : Nat) (l : Int) (w : World) (hR : RdRows w r b x B) (hB : Blk w r.g 135 (r.cs a l)) (hz : B ≤ w.heap.size) (h : ¬ a + 4 ≤ b.length) (ha : a ≤ 40000) :
    Calls Try.prog 64 #[.pointer (some ⟨r.g, 0, none⟩)] w fun e w' => e = thrown ∧ Near (fun i => i = r.g) w w' := by
  obtain ⟨g, Ab, nb, cb, Ax, nx, cx⟩ := r
  obtain ⟨hb, hx, ob, ox, mb, mx, hcb, hcx, rb, rx⟩ := hR
  simp only [Rdr.cs] at hB hb mb rb ⊢
  have HBe := Lib.hid (fun W (hW : Below w.heap.size w W) => be32_no Ab nb cb a W (by omega) (by omega))
  have HB := Lib.hid hB
  have hS1 : (fun W' : World => ∀ i, W'.cell? ⟨g, i, none⟩ = (#[.slice Ab nb cb, .slice Ax nx cx, .int .i64 a, .int .i64 l] : Array Value)[i]?) w.drew := hB.drew.cell
  have hgl := hB.lt
  clear rb rx hb h hB
  go_enter Try.func64, Try.ntmps64
  go_upto_region 1 with (fail)
  refine wp_region_held_drew (S := fun W' : World => ∀ i, W'.cell? ⟨g, i, none⟩ = (#[.slice Ab nb cb, .slice Ax nx cx, .int .i64 a, .int .i64 l] : Array Value)[i]?) (by kernel_rfl) hS1 (fun hHeld => ?_)
  clear hHeld
  refine wpAnyH_take (i := 0) (v := ?va0) rfl (by kernel_rfl) (by kernel_rfl) (by kernel_rfl) (fun _ _ _ h => h) (Or.inl ⟨by kernel_rfl, ?hya0⟩) hS1 ?resta0
  case hya0 =>
    intro w hSw
    clear hSw
    go_simp
    first | done | with_reducible rfl
  (try simp only [List.getElem_toArray, List.getElem_cons_succ, List.getElem_cons_zero, Act.put, List.setIfInBounds_toArray, List.set_cons_zero, List.set_cons_succ])
  refine wpAnyH_take (i := 1) (v := ?va1) rfl (by kernel_rfl) (by kernel_rfl) (by kernel_rfl) (fun _ _ _ h => h) (Or.inl ⟨by kernel_rfl, ?hya1⟩) hS1 ?resta1
  case hya1 =>
    intro w hSw
    clear hSw
    go_simp
    first | done | with_reducible rfl
  (try simp only [List.getElem_toArray, List.getElem_cons_succ, List.getElem_cons_zero, Act.put, List.setIfInBounds_toArray, List.set_cons_zero, List.set_cons_succ])
  refine wpAnyH_take (i := 2) (v := ?va2) rfl (by kernel_rfl) (by kernel_rfl) (by kernel_rfl) (fun _ _ _ h => h) (Or.inl ⟨by kernel_rfl, ?hya2⟩) hS1 ?resta2
  case hya2 =>
    intro w hSw
    clear hSw
    go_simp
    first | done | with_reducible rfl
  (try simp only [List.getElem_toArray, List.getElem_cons_succ, List.getElem_cons_zero, Act.put, List.setIfInBounds_toArray, List.set_cons_zero, List.set_cons_succ])
  refine wpAnyH_take (i := 3) (v := ?va3) rfl (by kernel_rfl) (by kernel_rfl) (by kernel_rfl) (fun _ _ _ h => h) (Or.inl ⟨by kernel_rfl, ?hya3⟩) hS1 ?resta3
  case hya3 =>
    intro w hSw
    (try dsimp only at hSw)
    go_simp
    first | done | with_reducible rfl
  (try simp only [List.getElem_toArray, List.getElem_cons_succ, List.getElem_cons_zero, Act.put, List.setIfInBounds_toArray, List.set_cons_zero, List.set_cons_succ])
  refine wpAnyH_take (i := 4) (v := ?va4) rfl (by kernel_rfl) (by kernel_rfl) (by kernel_rfl) (fun _ _ _ h => h) (Or.inl ⟨by kernel_rfl, ?hya4⟩) hS1 ?resta4
  case hya4 =>
    intro w hSw
    clear hSw
    go_simp
    first | done | with_reducible rfl
  (try simp only [List.getElem_toArray, List.getElem_cons_succ, List.getElem_cons_zero, Act.put, List.setIfInBounds_toArray, List.set_cons_zero, List.set_cons_succ])
  refine wpAnyH_take (i := 5) (v := ?va5) rfl (by kernel_rfl) (by kernel_rfl) (by kernel_rfl) (fun _ _ _ h => h) (Or.inl ⟨by kernel_rfl, ?hya5⟩) hS1 ?resta5
  case hya5 =>
    intro w hSw
    clear hSw
    go_simp
    first | done | with_reducible rfl
  (try simp only [List.getElem_toArray, List.getElem_cons_succ, List.getElem_cons_zero, Act.put, List.setIfInBounds_toArray, List.set_cons_zero, List.set_cons_succ])
  refine wpAnyH_take (i := 6) (v := ?va6) rfl (by kernel_rfl) (by kernel_rfl) (by kernel_rfl) (fun _ _ _ h => h) (Or.inl ⟨by kernel_rfl, ?hya6⟩) hS1 ?resta6
  case hya6 =>
    intro w hSw
    clear hSw
    go_simp
    first | done | with_reducible rfl
  (try simp only [List.getElem_toArray, List.getElem_cons_succ, List.getElem_cons_zero, Act.put, List.setIfInBounds_toArray, List.set_cons_zero, List.set_cons_succ])
  refine wpAnyH_take (i := 7) (v := ?va7) rfl (by kernel_rfl) (by kernel_rfl) (by kernel_rfl) (fun _ _ _ h => h) (Or.inl ⟨by kernel_rfl, ?hya7⟩) hS1 ?resta7
  case hya7 =>
    intro w hSw
    (try dsimp only at hSw)
    go_simp
    first | done | with_reducible rfl
  (try simp only [List.getElem_toArray, List.getElem_cons_succ, List.getElem_cons_zero, Act.put, List.setIfInBounds_toArray, List.set_cons_zero, List.set_cons_succ])
  refine wpAnyH_call (i := 8) (by kernel_rfl) rfl (by kernel_rfl) fun K hK => ?_
  simp only [List.getElem_toArray, List.getElem_cons_succ, List.getElem_cons_zero]
  go_simp
  go_at_call 62
  refine (HBe.out _ (Below.refl _ _).drew).mono ?_
  rintro e w1 ⟨rfl, rfl⟩
  refine hK.out _ _ hS1 ?_
  clear hK K
  (try simp only [List.getElem_toArray, List.getElem_cons_succ, List.getElem_cons_zero, Act.put, List.setIfInBounds_toArray, List.set_cons_zero, List.set_cons_succ])
  refine wpAnyH_take (i := 9) (v := ?va9) rfl (by kernel_rfl) (by kernel_rfl) (by kernel_rfl) (fun _ _ _ h => h) (Or.inl ⟨by kernel_rfl, ?hya9⟩) hS1 ?resta9
  case hya9 =>
    intro w hSw
    clear hSw
    go_simp
    first | done | with_reducible rfl
  (try simp only [List.getElem_toArray, List.getElem_cons_succ, List.getElem_cons_zero, Act.put, List.setIfInBounds_toArray, List.set_cons_zero, List.set_cons_succ])
  refine wpAnyH_take (i := 10) (v := ?va10) rfl (by kernel_rfl) (by kernel_rfl) (by kernel_rfl) (fun _ _ _ h => h) (Or.inl ⟨by kernel_rfl, ?hya10⟩) hS1 ?resta10
  case hya10 =>
    intro w hSw
    clear hSw
    go_simp
    first | done | with_reducible rfl
  (try simp only [List.getElem_toArray, List.getElem_cons_succ, List.getElem_cons_zero, Act.put, List.setIfInBounds_toArray, List.set_cons_zero, List.set_cons_succ])
  refine wpAnyH_take (i := 11) (v := ?va11) rfl (by kernel_rfl) (by kernel_rfl) (by kernel_rfl) (fun _ _ _ h => h) (Or.inl ⟨by kernel_rfl, ?hya11⟩) hS1 ?resta11
  case hya11 =>
    intro w hSw
    clear hSw
    go_simp
    first | done | with_reducible rfl
  (try simp only [List.getElem_toArray, List.getElem_cons_succ, List.getElem_cons_zero, Act.put, List.setIfInBounds_toArray, List.set_cons_zero, List.set_cons_succ])
  refine wpAnyH_take (i := 12) (v := ?va12) rfl (by kernel_rfl) (by kernel_rfl) (by kernel_rfl) (fun _ _ _ h => h) (Or.inl ⟨by kernel_rfl, ?hya12⟩) hS1 ?resta12
  case hya12 =>
    intro w hSw
    clear hSw
    go_simp
    first | done | with_reducible rfl
  (try simp only [List.getElem_toArray, List.getElem_cons_succ, List.getElem_cons_zero, Act.put, List.setIfInBounds_toArray, List.set_cons_zero, List.set_cons_succ])
  refine wpAnyH_take (i := 13) (v := ?va13) rfl (by kernel_rfl) (by kernel_rfl) (by kernel_rfl) (fun _ _ _ h => h) (Or.inl ⟨by kernel_rfl, ?hya13⟩) hS1 ?resta13
  case hya13 =>
    intro w hSw
    clear hSw
    go_simp
    first | done | with_reducible rfl
  (try simp only [List.getElem_toArray, List.getElem_cons_succ, List.getElem_cons_zero, Act.put, List.setIfInBounds_toArray, List.set_cons_zero, List.set_cons_succ])
  refine wpAnyH_done (by kernel_rfl) ?_ _
  clear hS1 HBe
  have hB1 := HB.out.drew
  have hN1 : Near (fun i => i = g) w w.drew := Near.of_below _ (Below.refl _ _).drew
  generalize w.drew = w1 at *
  have cB := hB1.cell
  have fB := hB1.frozen
  go_wp2_with (go_at_call 63; refine (must_no _).mono ?_; rintro e w2 ⟨rfl, rfl⟩)
  exact ⟨rfl, rfl, hN1⟩
end Go.Proofs.Ytnkpaockginooaa
namespace Go.Proofs.Ytnkpaockginooaa
set_option linter.unusedVariables false
set_option linter.unusedSimpArgs false
open Go.RowKit Go.Sort

def subB (l : List Int) (a m : Nat) : List Int := (l.drop a).take m
theorem Rd.subB {w : World} {B n b o : Nat} {l : List Int} (h : Rd w B 1 (some ⟨b, o, none⟩) n (l.flatMap encB)) (hl : l.length = n) {a m : Nat} (ha : a + m ≤ n) : Rd w B 1 (some ⟨b, o + a, none⟩) m ((subB l a m).flatMap encB) := by
  refine ⟨by rw [flatB_len]; simp [Proofs.Ytnkpaockginooaa.subB, hl]; omega, fun hm => ?_⟩
  obtain ⟨b', o', e, hb, hc⟩ := h.2 (by omega)
  simp only [Option.some.injEq, Addr.mk.injEq, and_true] at e
  obtain ⟨rfl, rfl⟩ := e
  refine ⟨b, o + a, rfl, hb, fun j u hu => ?_⟩
  rw [flatB_map] at hu
  have hj : j < m := by
    have := (List.getElem?_eq_some_iff.1 hu).1
    simp [Proofs.Ytnkpaockginooaa.subB] at this
    omega
  have h2 := hc (a + j) u (by
    rw [flatB_map, List.getElem?_map]
    rw [List.getElem?_map] at hu
    unfold Proofs.Ytnkpaockginooaa.subB at hu
    rw [List.getElem?_take, if_pos hj, List.getElem?_drop] at hu
    exact hu)
  rw [show o + a + j = o + (a + j) by omega]
  exact h2
theorem txtL_le (l : List Int) (a : Nat) : (txtL l a).length ≤ l.length - a := by
  unfold txtL
  have := (List.takeWhile_sublist (p := fun x : Int => x != 0) (l := l.drop a)).length_le
  simpa using this
theorem txtL_step (l : List Int) (k : Nat) (h : k < (l.takeWhile fun x => x != 0).length) : ∃ y, l[k]? = some y ∧ y ≠ 0 := by
  induction l generalizing k with
  | nil => simp at h
  | cons x l ih =>
    by_cases hx : x = 0
    · simp [hx] at h
    · have hb : (x != 0) = true := by simp [hx]
      cases k with
      | zero => exact ⟨x, rfl, hx⟩
      | succ k =>
        simp only [List.takeWhile_cons, hb, if_true, List.length_cons] at h
        exact ih k (by omega)
theorem txtL_stop (l : List Int) (h : (l.takeWhile fun x => x != 0).length < l.length) : l[(l.takeWhile fun x => x != 0).length]? = some 0 := by
  induction l with
  | nil => simp at h
  | cons x l ih =>
    by_cases hx : x = 0
    · simp [hx]
    · have hb : (x != 0) = true := by simp [hx]
      simp only [List.takeWhile_cons, hb, if_true, List.length_cons] at h ⊢
      exact ih (by omega)
theorem txtL_take (l : List Int) : l.take (l.takeWhile fun x => x != 0).length = l.takeWhile fun x => x != 0 := by
  induction l with
  | nil => rfl
  | cons x l ih =>
    by_cases hx : x = 0
    · simp [hx]
    · have hb : (x != 0) = true := by simp [hx]
      simp only [List.takeWhile_cons, hb, if_true, List.length_cons, List.take_succ_cons, ih]
set_option maxRecDepth 100000 in
set_option maxHeartbeats 2000000 in
theorem index0_any (A : Option Addr) (n c : Nat) (l : List Int) (w : World) (hl : l.length = n) (hm : n ≤ 1000000) (hr : Rd w w.heap.size 1 A n (l.flatMap encB)) :
    Calls Try.prog 111 #[.slice A n c, .int .u8 0] w fun e w' => e = .returned (.int .i64 (if (l.takeWhile fun x => x != 0).length < n then ((l.takeWhile fun x => x != 0).length : Int) else -1)) ∧ w = w' := by
  obtain ⟨q, hq⟩ : ∃ q, (l.takeWhile fun x => x != 0).length = q := ⟨_, rfl⟩
  have hqn : q ≤ n := by
    have := (List.takeWhile_sublist (p := fun x : Int => x != 0) (l := l)).length_le
    omega
  have HL := Lib.hid hl
  have HR := Lib.hid hr
  have HS := Lib.hid (fun k (h : k < q) => txtL_step l k (by rw [hq]; exact h))
  have HE := Lib.hid (fun (h : q < n) => (by have := txtL_stop l (by rw [hq]; omega); rwa [hq] at this : l[q]? = some 0))
  rw [hq]
  clear hl hr hq
  go_enter Try.func111, Try.ntmps111
  go_wp2_with fail
  go_loopw [8] (fun i wr => ∃ k : Nat, k ≤ q ∧ i = .int .i64 k ∧ w = wr) (fun i _ => n - (intOf i).toNat)
  case atStart => exact ⟨0, by omega, rfl, rfl⟩
  case round =>
    obtain ⟨k, hk, rfl, rfl⟩ := hrel
    by_cases hn : k < n
    · obtain ⟨b1, o1, rfl, hb1, hd1⟩ := HR.out.row (enc := encB) (fun _ => rfl) (k := k) (by rw [HL.out]; exact hn) HL.out
      obtain ⟨y, hy⟩ : ∃ y, l[k]? = some y := ⟨_, List.getElem?_eq_getElem (by rw [HL.out]; exact hn)⟩
      have hg1 : l[k]'(by rw [HL.out]; exact hn) = y := (List.getElem?_eq_some_iff.1 hy).2
      have d0 := hd1 0 (by omega)
      rw [hg1] at d0
      simp only [encB, Nat.add_zero, Nat.mul_one, List.getElem?_cons_zero] at d0
      have HY := Lib.hid hy
      clear hd1 hg1 hy
      by_cases hkq : k < q
      · have hy0 : y ≠ 0 := by
          obtain ⟨z, hz, h0⟩ := HS.out k hkq
          rw [HY.out] at hz
          injection hz with hz
          subst hz
          exact h0
        have e0 : ((0 : Int) == y) = false := by simp; omega
        go_wp2_with fail
        go_roundw
        case rel => exact ⟨k + 1, by omega, by go_num, by first | trivial | rfl⟩
        case measure => simp [intOf]; omega
      · obtain rfl : k = q := by omega
        have hy0 : y = 0 := by
          have := HE.out hn
          rw [HY.out] at this
          injection this
        subst hy0
        go_wp2_with fail
        go_ret
        exact ⟨rfl, rfl⟩
    · obtain rfl : k = q := by omega
      go_wp2_with fail
      go_ret
      exact ⟨rfl, rfl⟩
theorem txt_some {l nm : List Int} {a : Nat} (h : txt l a = some nm) : nm = txtL l a ∧ a + nm.length < l.length := by
  unfold txt at h
  split at h
  · simp only [Option.some.injEq] at h
    subst h
    exact ⟨rfl, by assumption⟩
  · cases h
theorem txt_none {l : List Int} {a : Nat} (h : txt l a = none) : l.length ≤ a + (txtL l a).length := by
  unfold txt at h
  split at h
  · cases h
  · omega
set_option maxRecDepth 100000 in
set_option maxHeartbeats 2000000 in
theorem text_yes (A : Option Addr) (n c : Nat) (l nm : List Int) (a : Nat) (w : World) (hl : l.length = n) (hm : n ≤ 20000) (hnc : n ≤ c) (hr : Rd w w.heap.size 1 A n (l.flatMap encB)) (h : txt l a = some nm) :
    Calls Try.prog 94 #[.slice A n c, .int .i64 a] w fun e w' => e = .returned (.string (strOfNums nm)) ∧ w = w' := by
  obtain ⟨rfl, hlt⟩ := txt_some h
  obtain ⟨q, hq⟩ : ∃ q, (txtL l a).length = q := ⟨_, rfl⟩
  rw [hq, hl] at hlt
  obtain ⟨b, o, rfl, _, _⟩ := hr.2 (by omega)
  have hd := Rd.subB hr hl (a := a) (m := n - a) (by omega)
  have e1 : subB l a (n - a) = l.drop a := by unfold subB; rw [List.take_of_length_le (by simp [hl])]
  rw [e1] at hd
  have HI := Lib.hid (index0_any (some ⟨b, o + a, none⟩) (n - a) (c - a) (l.drop a) w (by simp [hl]) (by omega) hd)
  have e2 : ((l.drop a).takeWhile fun x => x != 0).length = q := hq
  rw [e2, if_pos (by omega)] at HI
  have hs := conv_str (Rd.subB hr hl (a := a) (m := q) (by omega)) (by simp [subB, hl]; omega) (c - a)
  have e3 : subB l a q = txtL l a := by
    rw [← hq]
    exact txtL_take (l.drop a)
  rw [e3] at hs
  have e0 : decide (a < n) = true := decide_eq_true (by omega)
  clear h hd e1 e2 e3 hq hl hr
  go_enter Try.func94, Try.ntmps94
  go_wp2_with (first
    | (go_at_call 63; refine (must_yes _).mono ?_; rintro e w1 ⟨rfl, rfl⟩)
    | (go_at_call 111; refine HI.out.mono ?_; rintro e w1 ⟨rfl, rfl⟩))
  go_ret
  exact ⟨rfl, rfl⟩
set_option maxRecDepth 100000 in
set_option maxHeartbeats 2000000 in
theorem text_no (A : Option Addr) (n c : Nat) (l : List Int) (a : Nat) (w : World) (hl : l.length = n) (hm : n ≤ 20000) (ha : a ≤ 4294967296) (hnc : n ≤ c) (hr : Rd w w.heap.size 1 A n (l.flatMap encB)) (h : txt l a = none) :
    Calls Try.prog 94 #[.slice A n c, .int .i64 a] w fun e w' => e = thrown ∧ w = w' := by
  have hlt := txt_none h
  by_cases hin : a < n
  · obtain ⟨b, o, rfl, _, _⟩ := hr.2 (by omega)
    have hd := Rd.subB hr hl (a := a) (m := n - a) (by omega)
    have e1 : subB l a (n - a) = l.drop a := by unfold subB; rw [List.take_of_length_le (by simp [hl])]
    rw [e1] at hd
    have HI := Lib.hid (index0_any (some ⟨b, o + a, none⟩) (n - a) (c - a) (l.drop a) w (by simp [hl]) (by omega) hd)
    have e2 : ¬ ((l.drop a).takeWhile fun x => x != 0).length < n - a := by
      have : (txtL l a).length = ((l.drop a).takeWhile fun x => x != 0).length := rfl
      omega
    rw [if_neg e2] at HI
    have e0 : decide (a < n) = true := decide_eq_true hin
    clear h hd e1 e2 hl hr hlt
    go_enter Try.func94, Try.ntmps94
    go_wp2_with (first
      | (go_at_call 63; first
        | (refine (must_yes _).mono ?_; rintro e w1 ⟨rfl, rfl⟩)
        | (refine (must_no _).mono ?_; rintro e w1 ⟨rfl, rfl⟩))
      | (go_at_call 111; refine HI.out.mono ?_; rintro e w1 ⟨rfl, rfl⟩))
    exact ⟨rfl, rfl, rfl⟩
  · clear hr h hlt hl
    have e0 : decide (a < n) = false := decide_eq_false (by omega)
    go_enter Try.func94, Try.ntmps94
    go_wp2_with (go_at_call 63; refine (must_no _).mono ?_; rintro e w1 ⟨rfl, rfl⟩)
    exact ⟨rfl, rfl, rfl⟩
set_option maxHeartbeats 1000000 in
theorem clone_b (A : Option Addr) (n c : Nat) (xs : List Value) (w : World) (hr : Rd w w.heap.size 1 A n xs) (h1 : ∀ u ∈ xs, u.oneCell' = true) (hn : n ≤ 1000000) :
    Calls Try.prog 96 #[.slice A n c] w fun e w' => ∃ v', e = .returned v' ∧ w'.ownsRow w.heap.size 5 1 v' n xs ∧ Below w.heap.size w w' := by
  have q : ∀ (w : World) (a : Option Addr) (n c n' c' : Nat), (binOp .eql 28 (.slice a n c) (.slice none n' c')).run Try.prog w = .ok (.bool a.isNone) w := fun w a n c n' c' => Lib.run_eql_slice_nil w _ _ a n c n' c' Try.underlying28
  rcases A with _ | ad
  · have h0 : n = 0 := by
      rcases Nat.eq_zero_or_pos n with h | h
      · exact h
      · obtain ⟨b, off, h, _⟩ := hr.2 h; cases h
    subst h0
    have hx : xs = [] := List.eq_nil_of_length_eq_zero (by simpa using hr.1)
    subst hx
    clear hr h1
    go_enter Try.func96, Try.ntmps96
    go_wp2
    go_ret
    exact ⟨_, rfl, World.ownsRow_nil _ _ _ _, Below.refl _ _⟩
  · have hnm : 0 + n ≤ maxLen := by unfold maxLen; omega
    go_enter Try.func96, Try.ntmps96
    go_wp2_with (at_builtin; refine wpList_app u8_elem rfl (.tmp 5) (.tmp 6) rfl w.heap.size (World.ownsRow_made w #[] 0 (Nat.le_refl _) (Nat.zero_le _) rfl) rfl rfl (hr.alloc (Nat.le_refl _) _) h1 hnm (by omega) (by simp) ?_; intro v1 w1 hown hb1 _)
    go_ret
    exact ⟨_, rfl, by simpa using hown, ((Below.refl _ w).alloc (Nat.le_refl _) _).trans hb1⟩
set_option maxRecDepth 100000 in
set_option maxHeartbeats 2000000 in
theorem up_yes (r : Rdr) (a m : Nat) (l : Int) (w : World) (hB : Blk w r.g 135 (r.cs a l)) (ha : a + m ≤ r.nb) (hn : r.nb ≤ 20000) :
    Calls Try.prog 95 #[.pointer (some ⟨r.g, 0, none⟩), .int .i64 m] w fun e w' => e = .returned (.tuple #[]) ∧ Blk w' r.g 135 (r.cs (a + up4 m) l) ∧ Near (fun i => i = r.g) w w' := by
  obtain ⟨g, Ab, nb, cb, Ax, nx, cx⟩ := r
  simp only [Rdr.cs] at hB ha hn ⊢
  have HB := Lib.hid hB
  have hS1 : (fun W' : World => ∀ i, W'.cell? ⟨g, i, none⟩ = (#[.slice Ab nb cb, .slice Ax nx cx, .int .i64 a, .int .i64 l] : Array Value)[i]?) w.drew := hB.drew.cell
  have hgl := hB.lt
  have e0 : decide ((m : Int) ≤ (nb : Int) - (a : Int)) = true := decide_eq_true (by omega)
  have ew : IntKind.i64.wrap ((nb : Int) - (a : Int)) = (nb : Int) - (a : Int) := IntWalk.i64_in _ (by omega)
  obtain ⟨u, hu⟩ : ∃ u, up4 m = u := ⟨_, rfl⟩
  have hub : u ≤ 30000 := by rw [← hu]; unfold up4; omega
  have hq : ((m : Int) + 3).tdiv 4 * 4 = (u : Int) := by
    rw [← hu, Int.tdiv_eq_ediv_of_nonneg (by omega)]
    unfold up4
    omega
  rw [hu]
  clear hB hu
  go_enter Try.func95, Try.ntmps95
  go_upto_region 0 with (fail)
  refine wp_region_held_drew (S := fun W' : World => ∀ i, W'.cell? ⟨g, i, none⟩ = (#[.slice Ab nb cb, .slice Ax nx cx, .int .i64 a, .int .i64 l] : Array Value)[i]?) (by kernel_rfl) hS1 (fun hHeld => ?_)
  clear hHeld
  refine wpAnyH_take (i := 0) (v := ?va0) rfl (by kernel_rfl) (by kernel_rfl) (by kernel_rfl) (fun _ _ _ h => h) (Or.inl ⟨by kernel_rfl, ?hya0⟩) hS1 ?resta0
  case hya0 =>
    intro w hSw
    clear hSw
    go_simp
    first | done | with_reducible rfl
  (try simp only [List.getElem_toArray, List.getElem_cons_succ, List.getElem_cons_zero, Act.put, List.setIfInBounds_toArray, List.set_cons_zero, List.set_cons_succ])
  refine wpAnyH_take (i := 1) (v := ?va1) rfl (by kernel_rfl) (by kernel_rfl) (by kernel_rfl) (fun _ _ _ h => h) (Or.inl ⟨by kernel_rfl, ?hya1⟩) hS1 ?resta1
  case hya1 =>
    intro w hSw
    clear hSw
    go_simp
    first | done | with_reducible rfl
  (try simp only [List.getElem_toArray, List.getElem_cons_succ, List.getElem_cons_zero, Act.put, List.setIfInBounds_toArray, List.set_cons_zero, List.set_cons_succ])
  refine wpAnyH_take (i := 2) (v := ?va2) rfl (by kernel_rfl) (by kernel_rfl) (by kernel_rfl) (fun _ _ _ h => h) (Or.inl ⟨by kernel_rfl, ?hya2⟩) hS1 ?resta2
  case hya2 =>
    intro w hSw
    clear hSw
    go_simp
    first | done | with_reducible rfl
  (try simp only [List.getElem_toArray, List.getElem_cons_succ, List.getElem_cons_zero, Act.put, List.setIfInBounds_toArray, List.set_cons_zero, List.set_cons_succ])
  refine wpAnyH_take (i := 3) (v := ?va3) rfl (by kernel_rfl) (by kernel_rfl) (by kernel_rfl) (fun _ _ _ h => h) (Or.inl ⟨by kernel_rfl, ?hya3⟩) hS1 ?resta3
  case hya3 =>
    intro w hSw
    clear hSw
    go_simp
    first | done | with_reducible rfl
  (try simp only [List.getElem_toArray, List.getElem_cons_succ, List.getElem_cons_zero, Act.put, List.setIfInBounds_toArray, List.set_cons_zero, List.set_cons_succ])
  refine wpAnyH_take (i := 4) (v := ?va4) rfl (by kernel_rfl) (by kernel_rfl) (by kernel_rfl) (fun _ _ _ h => h) (Or.inl ⟨by kernel_rfl, ?hya4⟩) hS1 ?resta4
  case hya4 =>
    intro w hSw
    (try dsimp only at hSw)
    go_simp
    first | done | with_reducible rfl
  (try simp only [List.getElem_toArray, List.getElem_cons_succ, List.getElem_cons_zero, Act.put, List.setIfInBounds_toArray, List.set_cons_zero, List.set_cons_succ])
  refine wpAnyH_take (i := 5) (v := ?va5) rfl (by kernel_rfl) (by kernel_rfl) (by kernel_rfl) (fun _ _ _ h => h) (Or.inl ⟨by kernel_rfl, ?hya5⟩) hS1 ?resta5
  case hya5 =>
    intro w hSw
    clear hSw
    go_simp
    first | done | with_reducible rfl
  (try simp only [List.getElem_toArray, List.getElem_cons_succ, List.getElem_cons_zero, Act.put, List.setIfInBounds_toArray, List.set_cons_zero, List.set_cons_succ])
  refine wpAnyH_take (i := 6) (v := ?va6) rfl (by kernel_rfl) (by kernel_rfl) (by kernel_rfl) (fun _ _ _ h => h) (Or.inl ⟨by kernel_rfl, ?hya6⟩) hS1 ?resta6
  case hya6 =>
    intro w hSw
    clear hSw
    go_simp
    first | done | with_reducible rfl
  (try simp only [List.getElem_toArray, List.getElem_cons_succ, List.getElem_cons_zero, Act.put, List.setIfInBounds_toArray, List.set_cons_zero, List.set_cons_succ])
  refine wpAnyH_take (i := 7) (v := ?va7) rfl (by kernel_rfl) (by kernel_rfl) (by kernel_rfl) (fun _ _ _ h => h) (Or.inl ⟨by kernel_rfl, ?hya7⟩) hS1 ?resta7
  case hya7 =>
    intro w hSw
    clear hSw
    go_simp
    first | done | with_reducible rfl
  (try simp only [List.getElem_toArray, List.getElem_cons_succ, List.getElem_cons_zero, Act.put, List.setIfInBounds_toArray, List.set_cons_zero, List.set_cons_succ])
  refine wpAnyH_take (i := 8) (v := ?va8) rfl (by kernel_rfl) (by kernel_rfl) (by kernel_rfl) (fun _ _ _ h => h) (Or.inl ⟨by kernel_rfl, ?hya8⟩) hS1 ?resta8
  case hya8 =>
    intro w hSw
    clear hSw
    go_simp
    first | done | with_reducible rfl
  (try simp only [List.getElem_toArray, List.getElem_cons_succ, List.getElem_cons_zero, Act.put, List.setIfInBounds_toArray, List.set_cons_zero, List.set_cons_succ])
  refine wpAnyH_take (i := 9) (v := ?va9) rfl (by kernel_rfl) (by kernel_rfl) (by kernel_rfl) (fun _ _ _ h => h) (Or.inl ⟨by kernel_rfl, ?hya9⟩) hS1 ?resta9
  case hya9 =>
    intro w hSw
    (try dsimp only at hSw)
    go_simp
    first | done | with_reducible rfl
  (try simp only [List.getElem_toArray, List.getElem_cons_succ, List.getElem_cons_zero, Act.put, List.setIfInBounds_toArray, List.set_cons_zero, List.set_cons_succ])
  refine wpAnyH_take (i := 10) (v := ?va10) rfl (by kernel_rfl) (by kernel_rfl) (by kernel_rfl) (fun _ _ _ h => h) (Or.inl ⟨by kernel_rfl, ?hya10⟩) hS1 ?resta10
  case hya10 =>
    intro w hSw
    clear hSw
    go_simp
    first | done | with_reducible rfl
  (try simp only [List.getElem_toArray, List.getElem_cons_succ, List.getElem_cons_zero, Act.put, List.setIfInBounds_toArray, List.set_cons_zero, List.set_cons_succ])
  refine wpAnyH_take (i := 11) (v := ?va11) rfl (by kernel_rfl) (by kernel_rfl) (by kernel_rfl) (fun _ _ _ h => h) (Or.inl ⟨by kernel_rfl, ?hya11⟩) hS1 ?resta11
  case hya11 =>
    intro w hSw
    clear hSw
    go_simp
    first | done | with_reducible rfl
  (try simp only [List.getElem_toArray, List.getElem_cons_succ, List.getElem_cons_zero, Act.put, List.setIfInBounds_toArray, List.set_cons_zero, List.set_cons_succ])
  refine wpAnyH_call (i := 12) (by kernel_rfl) rfl (by kernel_rfl) fun K hK => ?_
  simp only [List.getElem_toArray, List.getElem_cons_succ, List.getElem_cons_zero]
  go_simp
  go_at_call 63
  refine (must_yes _).mono ?_
  rintro e w1 ⟨rfl, rfl⟩
  refine hK.out _ _ hS1 ?_
  clear hK K
  (try simp only [List.getElem_toArray, List.getElem_cons_succ, List.getElem_cons_zero, Act.put, List.setIfInBounds_toArray, List.set_cons_zero, List.set_cons_succ])
  refine wpAnyH_done (by kernel_rfl) ?_ _
  clear hS1
  have hB1 := HB.out.drew
  have hN1 : Near (fun i => i = g) w w.drew := Near.of_below _ (Below.refl _ _).drew
  generalize w.drew = w1 at *
  have cB := hB1.cell
  have fB := hB1.frozen
  go_wp2_with fail
  go_end0
  have hB2 := hB1.set_ 2 (.int .i64 ((a + u : Nat) : Int))
  refine ⟨rfl, ?_, ?_⟩
  · simpa using hB2
  · exact hN1.setCell (p := ⟨g, 2, none⟩) rfl _
end Go.Proofs.Ytnkpaockginooaa
