/- A tree out of bytes: the specification; the reader's small functions, walked. -/
import Derived.Test.YtnkpaockginooaaVal
import Derived.Test.YtnkpaockginooaaWordGet
import Derived.Test.YtnkpaockginooaaMayA
namespace Go.Proofs.Ytnkpaockginooaa
set_option linter.unusedVariables false
set_option linter.unusedSimpArgs false
open Go.RowKit Go.Sort

/-- A number at a place; a text up to a byte 0; up to a multiple of four. -/
def four4 (b : List Int) (a : Nat) : Option Int := if a + 4 ≤ b.length then some (numB ((b.drop a).take 4)) else none
def txtL (b : List Int) (a : Nat) : List Int := (b.drop a).takeWhile fun x => x != 0
def txt (b : List Int) (a : Nat) : Option (List Int) := if a + (txtL b a).length < b.length then some (txtL b a) else none
def up4 (n : Nat) : Nat := (n + 3) / 4 * 4
/-- What stands behind a node's name: properties and nodes, up to the end. -/
def itemsP (g : Nat → Nat → Option (Tr × Nat × Nat)) (b x : List Int) : Nat → List Pr → List Tr → Nat → Nat → Option (List Pr × List Tr × Nat × Nat)
  | 0, _, _, _, _ => none
  | f + 1, ps, ks, a, l =>
    (four4 b a).bind fun y =>
      if y = 3 then (four4 b (a + 4)).bind fun n => (four4 b (a + 8)).bind fun p => (txt x p.toNat).bind fun nm =>
        if n.toNat ≤ b.length - (a + 12) then itemsP g b x f (ps ++ [(strOfNums nm, (b.drop (a + 12)).take n.toNat)]) ks (a + 12 + up4 n.toNat) l else none
      else if y = 1 then (g (a + 4) l).bind fun r => itemsP g b x f ps (ks ++ [r.1]) r.2.1 r.2.2
      else if y = 2 then some (ps, ks, a + 4, l) else none
/-- A node, from its name on; d = 9 less how deep it lies; l nodes are left. -/
def nodeP (b x : List Int) : Nat → Nat → Nat → Option (Tr × Nat × Nat)
  | 0, _, _ => none
  | d + 1, a, l => if l = 0 then none else (txt b a).bind fun nm =>
      (itemsP (nodeP b x d) b x (b.length + 1) [] [] (a + up4 (nm.length + 1)) (l - 1)).bind fun r => some (.mk (strOfNums nm) r.1 r.2.1, r.2.2.1, r.2.2.2)
theorem four4_yes {b : List Int} {a : Nat} (h : a + 4 ≤ b.length) : four4 b a = some (numB ((b.drop a).take 4)) := by unfold four4; rw [if_pos h]
theorem four4_no {b : List Int} {a : Nat} (h : ¬ a + 4 ≤ b.length) : four4 b a = none := by unfold four4; rw [if_neg h]
theorem numB4 {b : List Int} (hb : BytesOk b) (a : Nat) : 0 ≤ numB ((b.drop a).take 4) ∧ numB ((b.drop a).take 4) < 4294967296 := by
  have h := numB_bd _ ((b.drop a).take 4) rfl (fun x hx => hb x (List.mem_of_mem_drop (List.mem_of_mem_take hx)))
  have hl : ((b.drop a).take 4).length ≤ 4 := by rw [List.length_take]; omega
  refine ⟨h.1, Int.lt_of_lt_of_le h.2 ?_⟩
  exact (show ∀ k, k < 5 → (256 : Int) ^ k ≤ 4294967296 by decide) _ (by omega)
/-- What is thrown. -/
abbrev thrown : Ending := .panicked [{ v := .iface 128 (.agg #[]), recovered := false }]
theorem must_yes (w : World) : Calls Try.prog 63 #[.bool true] w fun e w' => e = .returned (.tuple #[]) ∧ w = w' := by
  go_enter Try.func63, Try.ntmps63
  go_wp2
  go_end0
  exact ⟨rfl, rfl⟩
theorem must_no (w : World) : Calls Try.prog 63 #[.bool false] w fun e w' => e = thrown ∧ w = w' := by
  go_enter Try.func63, Try.ntmps63
  go_wp2
  exact ⟨rfl, rfl, rfl⟩
/-- The reader in memory; what it reads lies in rows that do not turn. -/
structure Rdr where
  g : Nat
  Ab : Option Addr
  nb : Nat
  cb : Nat
  Ax : Option Addr
  nx : Nat
  cx : Nat
def Rdr.cs (r : Rdr) (a : Nat) (l : Int) : Array Value := #[.slice r.Ab r.nb r.cb, .slice r.Ax r.nx r.cx, .int .i64 a, .int .i64 l]
/-- .. and the rows: below B, which lies at its block or ahead. -/
structure RdRows (w : World) (r : Rdr) (b x : List Int) (B : Nat) : Prop where
  hb : b.length = r.nb
  hx : x.length = r.nx
  ob : BytesOk b
  ox : BytesOk x
  mb : r.nb ≤ 20000
  mx : r.nx ≤ 20000
  cb : r.nb ≤ r.cb
  cx : r.nx ≤ r.cx
  rb : Rd w B 1 r.Ab r.nb (b.flatMap encB)
  rx : Rd w B 1 r.Ax r.nx (x.flatMap encB)
theorem RdRows.below {w w' : World} {r : Rdr} {b x : List Int} {B : Nat} (h : RdRows w r b x B) (hb : Below B w w') : RdRows w' r b x B := ⟨h.hb, h.hx, h.ob, h.ox, h.mb, h.mx, h.cb, h.cx, h.rb.below hb, h.rx.below hb⟩
set_option maxRecDepth 100000 in
set_option maxHeartbeats 2000000 in
theorem four_yes (r : Rdr) (b x : List Int) (B a : Nat) (l : Int) (w : World) (hR : RdRows w r b x B) (hB : Blk w r.g 135 (r.cs a l)) (hz : B ≤ w.heap.size) (h : a + 4 ≤ b.length) :
    Calls Try.prog 64 #[.pointer (some ⟨r.g, 0, none⟩)] w fun e w' => e = .returned (.int .i64 (numB ((b.drop a).take 4))) ∧ Blk w' r.g 135 (r.cs (a + 4) l) ∧ Near (fun i => i = r.g) w w' := by
  obtain ⟨g, Ab, nb, cb, Ax, nx, cx⟩ := r
  obtain ⟨hb, hx, ob, ox, mb, mx, hcb, hcx, rb, rx⟩ := hR
  simp only [Rdr.cs] at hB hb mb rb ⊢
  have hn := numB4 ob a
  have HBe := Lib.hid (fun W (hW : Below w.heap.size w W) => be32_yes Ab nb cb b a W hb ob (by omega) (by omega) ((rb.more hz).below hW |>.more hW.size))
  obtain ⟨y, hy⟩ : ∃ y, numB ((b.drop a).take 4) = y := ⟨_, rfl⟩
  rw [hy] at HBe hn ⊢
  have ha : a ≤ 20000 := by omega
  have HB := Lib.hid hB
  have hS1 : (fun W' : World => ∀ i, W'.cell? ⟨g, i, none⟩ = (#[.slice Ab nb cb, .slice Ax nx cx, .int .i64 a, .int .i64 l] : Array Value)[i]?) w.drew := hB.drew.cell
  have hgl := hB.lt
  clear hy rb rx hb h hB
  go_enter Try.func64, Try.ntmps64
  go_upto_region 1 with (fail)
  refine wp_region_held_drew (S := fun W' : World => ∀ i, W'.cell? ⟨g, i, none⟩ = (#[.slice Ab nb cb, .slice Ax nx cx, .int .i64 a, .int .i64 l] : Array Value)[i]?) (by kernel_rfl) hS1 (fun hHeld => ?_)
  clear hHeld
  refine wpAnyH_take (i := 0) (v := ?va0) rfl (by kernel_rfl) (by kernel_rfl) (by kernel_rfl) (fun _ _ _ h => h) (Or.inl ⟨by kernel_rfl, ?hya0⟩) hS1 ?resta0
  case hya0 =>
    intro w hSw
    clear hSw
    go_simp
    first | done | with_reducible rfl
  (try simp only [List.getElem_toArray, List.getElem_cons_succ, List.getElem_cons_zero, Act.put, List.setIfInBounds_toArray, List.set_cons_zero, List.set_cons_succ])
  refine wpAnyH_take (i := 1) (v := ?va1) rfl (by kernel_rfl) (by kernel_rfl) (by kernel_rfl) (fun _ _ _ h => h) (Or.inl ⟨by kernel_rfl, ?hya1⟩) hS1 ?resta1
  case hya1 =>
    intro w hSw
    clear hSw
    go_simp
    first | done | with_reducible rfl
  (try simp only [List.getElem_toArray, List.getElem_cons_succ, List.getElem_cons_zero, Act.put, List.setIfInBounds_toArray, List.set_cons_zero, List.set_cons_succ])
  refine wpAnyH_take (i := 2) (v := ?va2) rfl (by kernel_rfl) (by kernel_rfl) (by kernel_rfl) (fun _ _ _ h => h) (Or.inl ⟨by kernel_rfl, ?hya2⟩) hS1 ?resta2
  case hya2 =>
    intro w hSw
    clear hSw
    go_simp
    first | done | with_reducible rfl
  (try simp only [List.getElem_toArray, List.getElem_cons_succ, List.getElem_cons_zero, Act.put, List.setIfInBounds_toArray, List.set_cons_zero, List.set_cons_succ])
  refine wpAnyH_take (i := 3) (v := ?va3) rfl (by kernel_rfl) (by kernel_rfl) (by kernel_rfl) (fun _ _ _ h => h) (Or.inl ⟨by kernel_rfl, ?hya3⟩) hS1 ?resta3
  case hya3 =>
    intro w hSw
    (try dsimp only at hSw)
    go_simp
    first | done | with_reducible rfl
  (try simp only [List.getElem_toArray, List.getElem_cons_succ, List.getElem_cons_zero, Act.put, List.setIfInBounds_toArray, List.set_cons_zero, List.set_cons_succ])
  refine wpAnyH_take (i := 4) (v := ?va4) rfl (by kernel_rfl) (by kernel_rfl) (by kernel_rfl) (fun _ _ _ h => h) (Or.inl ⟨by kernel_rfl, ?hya4⟩) hS1 ?resta4
  case hya4 =>
    intro w hSw
    clear hSw
    go_simp
    first | done | with_reducible rfl
  (try simp only [List.getElem_toArray, List.getElem_cons_succ, List.getElem_cons_zero, Act.put, List.setIfInBounds_toArray, List.set_cons_zero, List.set_cons_succ])
  refine wpAnyH_take (i := 5) (v := ?va5) rfl (by kernel_rfl) (by kernel_rfl) (by kernel_rfl) (fun _ _ _ h => h) (Or.inl ⟨by kernel_rfl, ?hya5⟩) hS1 ?resta5
  case hya5 =>
    intro w hSw
    clear hSw
    go_simp
    first | done | with_reducible rfl
  (try simp only [List.getElem_toArray, List.getElem_cons_succ, List.getElem_cons_zero, Act.put, List.setIfInBounds_toArray, List.set_cons_zero, List.set_cons_succ])
  refine wpAnyH_take (i := 6) (v := ?va6) rfl (by kernel_rfl) (by kernel_rfl) (by kernel_rfl) (fun _ _ _ h => h) (Or.inl ⟨by kernel_rfl, ?hya6⟩) hS1 ?resta6
  case hya6 =>
    intro w hSw
    clear hSw
    go_simp
    first | done | with_reducible rfl
  (try simp only [List.getElem_toArray, List.getElem_cons_succ, List.getElem_cons_zero, Act.put, List.setIfInBounds_toArray, List.set_cons_zero, List.set_cons_succ])
  refine wpAnyH_take (i := 7) (v := ?va7) rfl (by kernel_rfl) (by kernel_rfl) (by kernel_rfl) (fun _ _ _ h => h) (Or.inl ⟨by kernel_rfl, ?hya7⟩) hS1 ?resta7
  case hya7 =>
    intro w hSw
    (try dsimp only at hSw)
    go_simp
    first | done | with_reducible rfl
  (try simp only [List.getElem_toArray, List.getElem_cons_succ, List.getElem_cons_zero, Act.put, List.setIfInBounds_toArray, List.set_cons_zero, List.set_cons_succ])
  refine wpAnyH_call (i := 8) (by kernel_rfl) rfl (by kernel_rfl) fun K hK => ?_
  simp only [List.getElem_toArray, List.getElem_cons_succ, List.getElem_cons_zero]
  go_simp
  go_at_call 62
  refine (HBe.out _ (Below.refl _ _).drew).mono ?_
  rintro e w1 ⟨rfl, rfl⟩
  refine hK.out _ _ hS1 ?_
  clear hK K
  (try simp only [List.getElem_toArray, List.getElem_cons_succ, List.getElem_cons_zero, Act.put, List.setIfInBounds_toArray, List.set_cons_zero, List.set_cons_succ])
  refine wpAnyH_take (i := 9) (v := ?va9) rfl (by kernel_rfl) (by kernel_rfl) (by kernel_rfl) (fun _ _ _ h => h) (Or.inl ⟨by kernel_rfl, ?hya9⟩) hS1 ?resta9
  case hya9 =>
    intro w hSw
    clear hSw
    go_simp
    first | done | with_reducible rfl
  (try simp only [List.getElem_toArray, List.getElem_cons_succ, List.getElem_cons_zero, Act.put, List.setIfInBounds_toArray, List.set_cons_zero, List.set_cons_succ])
  refine wpAnyH_take (i := 10) (v := ?va10) rfl (by kernel_rfl) (by kernel_rfl) (by kernel_rfl) (fun _ _ _ h => h) (Or.inl ⟨by kernel_rfl, ?hya10⟩) hS1 ?resta10
  case hya10 =>
    intro w hSw
    clear hSw
    go_simp
    first | done | with_reducible rfl
  (try simp only [List.getElem_toArray, List.getElem_cons_succ, List.getElem_cons_zero, Act.put, List.setIfInBounds_toArray, List.set_cons_zero, List.set_cons_succ])
  refine wpAnyH_take (i := 11) (v := ?va11) rfl (by kernel_rfl) (by kernel_rfl) (by kernel_rfl) (fun _ _ _ h => h) (Or.inl ⟨by kernel_rfl, ?hya11⟩) hS1 ?resta11
  case hya11 =>
    intro w hSw
    clear hSw
    go_simp
    first | done | with_reducible rfl
  (try simp only [List.getElem_toArray, List.getElem_cons_succ, List.getElem_cons_zero, Act.put, List.setIfInBounds_toArray, List.set_cons_zero, List.set_cons_succ])
  refine wpAnyH_take (i := 12) (v := ?va12) rfl (by kernel_rfl) (by kernel_rfl) (by kernel_rfl) (fun _ _ _ h => h) (Or.inl ⟨by kernel_rfl, ?hya12⟩) hS1 ?resta12
  case hya12 =>
    intro w hSw
    clear hSw
    go_simp
    first | done | with_reducible rfl
  (try simp only [List.getElem_toArray, List.getElem_cons_succ, List.getElem_cons_zero, Act.put, List.setIfInBounds_toArray, List.set_cons_zero, List.set_cons_succ])
  refine wpAnyH_take (i := 13) (v := ?va13) rfl (by kernel_rfl) (by kernel_rfl) (by kernel_rfl) (fun _ _ _ h => h) (Or.inl ⟨by kernel_rfl, ?hya13⟩) hS1 ?resta13
  case hya13 =>
    intro w hSw
    clear hSw
    go_simp
    first | done | with_reducible rfl
  (try simp only [List.getElem_toArray, List.getElem_cons_succ, List.getElem_cons_zero, Act.put, List.setIfInBounds_toArray, List.set_cons_zero, List.set_cons_succ])
  refine wpAnyH_done (by kernel_rfl) ?_ _
  clear hS1 HBe
  have hB1 := HB.out.drew
  have hN1 : Near (fun i => i = g) w w.drew := Near.of_below _ (Below.refl _ _).drew
  generalize w.drew = w1 at *
  have cB := hB1.cell
  have fB := hB1.frozen
  go_wp2_with (go_at_call 63; refine (must_yes _).mono ?_; rintro e w2 ⟨rfl, rfl⟩)
  go_ret
  have hB2 := hB1.set_ 2 (.int .i64 ((a + 4 : Nat) : Int))
  refine ⟨rfl, ?_, ?_⟩
  · simpa using hB2
  · exact hN1.setCell (p := ⟨g, 2, none⟩) rfl _
set_option maxRecDepth 100000 in
set_option maxHeartbeats 2000000 in
theorem four_no (r : Rdr) (b x : List Int) (B a : Nat) (l : Int) (w : World) (hR : RdRows w r b x B) (hB : Blk w r.g 135 (r.cs a l)) (hz : B ≤ w.heap.size) (h : ¬ a + 4 ≤ b.length) (ha : a ≤ 40000) :
    Calls Try.prog 64 #[.pointer (some ⟨r.g, 0, none⟩)] w fun e w' => e = thrown ∧ Near (fun i => i = r.g) w w' := by
  obtain ⟨g, Ab, nb, cb, Ax, nx, cx⟩ := r
  obtain ⟨hb, hx, ob, ox, mb, mx, hcb, hcx, rb, rx⟩ := hR
  simp only [Rdr.cs] at hB hb mb rb ⊢
  have HBe := Lib.hid (fun W (hW : Below w.heap.size w W) => be32_no Ab nb cb a W (by omega) (by omega))
  have HB := Lib.hid hB
  have hS1 : (fun W' : World => ∀ i, W'.cell? ⟨g, i, none⟩ = (#[.slice Ab nb cb, .slice Ax nx cx, .int .i64 a, .int .i64 l] : Array Value)[i]?) w.drew := hB.drew.cell
  have hgl := hB.lt
  clear rb rx hb h hB
  go_enter Try.func64, Try.ntmps64
  go_upto_region 1 with (fail)
  refine wp_region_held_drew (S := fun W' : World => ∀ i, W'.cell? ⟨g, i, none⟩ = (#[.slice Ab nb cb, .slice Ax nx cx, .int .i64 a, .int .i64 l] : Array Value)[i]?) (by kernel_rfl) hS1 (fun hHeld => ?_)
  clear hHeld
  refine wpAnyH_take (i := 0) (v := ?va0) rfl (by kernel_rfl) (by kernel_rfl) (by kernel_rfl) (fun _ _ _ h => h) (Or.inl ⟨by kernel_rfl, ?hya0⟩) hS1 ?resta0
  case hya0 =>
    intro w hSw
    clear hSw
    go_simp
    first | done | with_reducible rfl
  (try simp only [List.getElem_toArray, List.getElem_cons_succ, List.getElem_cons_zero, Act.put, List.setIfInBounds_toArray, List.set_cons_zero, List.set_cons_succ])
  refine wpAnyH_take (i := 1) (v := ?va1) rfl (by kernel_rfl) (by kernel_rfl) (by kernel_rfl) (fun _ _ _ h => h) (Or.inl ⟨by kernel_rfl, ?hya1⟩) hS1 ?resta1
  case hya1 =>
    intro w hSw
    clear hSw
    go_simp
    first | done | with_reducible rfl
  (try simp only [List.getElem_toArray, List.getElem_cons_succ, List.getElem_cons_zero, Act.put, List.setIfInBounds_toArray, List.set_cons_zero, List.set_cons_succ])
  refine wpAnyH_take (i := 2) (v := ?va2) rfl (by kernel_rfl) (by kernel_rfl) (by kernel_rfl) (fun _ _ _ h => h) (Or.inl ⟨by kernel_rfl, ?hya2⟩) hS1 ?resta2
  case hya2 =>
    intro w hSw
    clear hSw
    go_simp
    first | done | with_reducible rfl
  (try simp only [List.getElem_toArray, List.getElem_cons_succ, List.getElem_cons_zero, Act.put, List.setIfInBounds_toArray, List.set_cons_zero, List.set_cons_succ])
  refine wpAnyH_take (i := 3) (v := ?va3) rfl (by kernel_rfl) (by kernel_rfl) (by kernel_rfl) (fun _ _ _ h => h) (Or.inl ⟨by kernel_rfl, ?hya3⟩) hS1 ?resta3
  case hya3 =>
    intro w hSw
    (try dsimp only at hSw)
    go_simp
    first | done | with_reducible rfl
  (try simp only [List.getElem_toArray, List.getElem_cons_succ, List.getElem_cons_zero, Act.put, List.setIfInBounds_toArray, List.set_cons_zero, List.set_cons_succ])
  refine wpAnyH_take (i := 4) (v := ?va4) rfl (by kernel_rfl) (by kernel_rfl) (by kernel_rfl) (fun _ _ _ h => h) (Or.inl ⟨by kernel_rfl, ?hya4⟩) hS1 ?resta4
  case hya4 =>
    intro w hSw
    clear hSw
    go_simp
    first | done | with_reducible rfl
  (try simp only [List.getElem_toArray, List.getElem_cons_succ, List.getElem_cons_zero, Act.put, List.setIfInBounds_toArray, List.set_cons_zero, List.set_cons_succ])
  refine wpAnyH_take (i := 5) (v := ?va5) rfl (by kernel_rfl) (by kernel_rfl) (by kernel_rfl) (fun _ _ _ h => h) (Or.inl ⟨by kernel_rfl, ?hya5⟩) hS1 ?resta5
  case hya5 =>
    intro w hSw
    clear hSw
    go_simp
    first | done | with_reducible rfl
  (try simp only [List.getElem_toArray, List.getElem_cons_succ, List.getElem_cons_zero, Act.put, List.setIfInBounds_toArray, List.set_cons_zero, List.set_cons_succ])
  refine wpAnyH_take (i := 6) (v := ?va6) rfl (by kernel_rfl) (by kernel_rfl) (by kernel_rfl) (fun _ _ _ h => h) (Or.inl ⟨by kernel_rfl, ?hya6⟩) hS1 ?resta6
  case hya6 =>
    intro w hSw
    clear hSw
    go_simp
    first | done | with_reducible rfl
  (try simp only [List.getElem_toArray, List.getElem_cons_succ, List.getElem_cons_zero, Act.put, List.setIfInBounds_toArray, List.set_cons_zero, List.set_cons_succ])
  refine wpAnyH_take (i := 7) (v := ?va7) rfl (by kernel_rfl) (by kernel_rfl) (by kernel_rfl) (fun _ _ _ h => h) (Or.inl ⟨by kernel_rfl, ?hya7⟩) hS1 ?resta7
  case hya7 =>
    intro w hSw
    (try dsimp only at hSw)
    go_simp
    first | done | with_reducible rfl
  (try simp only [List.getElem_toArray, List.getElem_cons_succ, List.getElem_cons_zero, Act.put, List.setIfInBounds_toArray, List.set_cons_zero, List.set_cons_succ])
  refine wpAnyH_call (i := 8) (by kernel_rfl) rfl (by kernel_rfl) fun K hK => ?_
  simp only [List.getElem_toArray, List.getElem_cons_succ, List.getElem_cons_zero]
  go_simp
  go_at_call 62
  refine (HBe.out _ (Below.refl _ _).drew).mono ?_
  rintro e w1 ⟨rfl, rfl⟩
  refine hK.out _ _ hS1 ?_
  clear hK K
  (try simp only [List.getElem_toArray, List.getElem_cons_succ, List.getElem_cons_zero, Act.put, List.setIfInBounds_toArray, List.set_cons_zero, List.set_cons_succ])
  refine wpAnyH_take (i := 9) (v := ?va9) rfl (by kernel_rfl) (by kernel_rfl) (by kernel_rfl) (fun _ _ _ h => h) (Or.inl ⟨by kernel_rfl, ?hya9⟩) hS1 ?resta9
  case hya9 =>
    intro w hSw
    clear hSw
    go_simp
    first | done | with_reducible rfl
  (try simp only [List.getElem_toArray, List.getElem_cons_succ, List.getElem_cons_zero, Act.put, List.setIfInBounds_toArray, List.set_cons_zero, List.set_cons_succ])
  refine wpAnyH_take (i := 10) (v := ?va10) rfl (by kernel_rfl) (by kernel_rfl) (by kernel_rfl) (fun _ _ _ h => h) (Or.inl ⟨by kernel_rfl, ?hya10⟩) hS1 ?resta10
  case hya10 =>
    intro w hSw
    clear hSw
    go_simp
    first | done | with_reducible rfl
  (try simp only [List.getElem_toArray, List.getElem_cons_succ, List.getElem_cons_zero, Act.put, List.setIfInBounds_toArray, List.set_cons_zero, List.set_cons_succ])
  refine wpAnyH_take (i := 11) (v := ?va11) rfl (by kernel_rfl) (by kernel_rfl) (by kernel_rfl) (fun _ _ _ h => h) (Or.inl ⟨by kernel_rfl, ?hya11⟩) hS1 ?resta11
  case hya11 =>
    intro w hSw
    clear hSw
    go_simp
    first | done | with_reducible rfl
  (try simp only [List.getElem_toArray, List.getElem_cons_succ, List.getElem_cons_zero, Act.put, List.setIfInBounds_toArray, List.set_cons_zero, List.set_cons_succ])
  refine wpAnyH_take (i := 12) (v := ?va12) rfl (by kernel_rfl) (by kernel_rfl) (by kernel_rfl) (fun _ _ _ h => h) (Or.inl ⟨by kernel_rfl, ?hya12⟩) hS1 ?resta12
  case hya12 =>
    intro w hSw
    clear hSw
    go_simp
    first | done | with_reducible rfl
  (try simp only [List.getElem_toArray, List.getElem_cons_succ, List.getElem_cons_zero, Act.put, List.setIfInBounds_toArray, List.set_cons_zero, List.set_cons_succ])
  refine wpAnyH_take (i := 13) (v := ?va13) rfl (by kernel_rfl) (by kernel_rfl) (by kernel_rfl) (fun _ _ _ h => h) (Or.inl ⟨by kernel_rfl, ?hya13⟩) hS1 ?resta13
  case hya13 =>
    intro w hSw
    clear hSw
    go_simp
    first | done | with_reducible rfl
  (try simp only [List.getElem_toArray, List.getElem_cons_succ, List.getElem_cons_zero, Act.put, List.setIfInBounds_toArray, List.set_cons_zero, List.set_cons_succ])
  refine wpAnyH_done (by kernel_rfl) ?_ _
  clear hS1 HBe
  have hB1 := HB.out.drew
  have hN1 : Near (fun i => i = g) w w.drew := Near.of_below _ (Below.refl _ _).drew
  generalize w.drew = w1 at *
  have cB := hB1.cell
  have fB := hB1.frozen
  go_wp2_with (go_at_call 63; refine (must_no _).mono ?_; rintro e w2 ⟨rfl, rfl⟩)
  exact ⟨rfl, rfl, hN1⟩
end Go.Proofs.Ytnkpaockginooaa
