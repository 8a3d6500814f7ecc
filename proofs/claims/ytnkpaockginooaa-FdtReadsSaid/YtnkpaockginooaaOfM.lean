/- The document's cursor: its small functions, walked. -/
import Derived.Test.YtnkpaockginooaaTreeY
import Derived.Test.YtnkpaockginooaaRefW
import Derived.Test.YtnkpaockginooaaTreeH
import Derived.Test.YtnkpaockginooaaNear
namespace Go.Proofs.Ytnkpaockginooaa
set_option linter.unusedVariables false
set_option linter.unusedSimpArgs false
open Go.RowKit Go.Sort
/-- The cursor's cells. -/
def Rdr.cc (r : Rdr) (a : Int) (bad : Bool) (l : Int) : Array Value := #[.slice r.Ab r.nb r.cb, .slice r.Ax r.nx r.cx, .int .i64 a, .bool bad, .int .i64 l]
theorem seqN4 {b : List Int} {a : Nat} (h : a + 4 ≤ b.length) : seqN b a 4 false = (b.drop a).take 4 := by
  refine List.ext_getElem? fun k => ?_
  rw [List.getElem?_take]
  split
  · rename_i hk
    rw [List.getElem?_drop, seqN_at h hk]
    simp [List.getD_eq_getElem?_getD, List.getElem?_eq_getElem (show a + k < b.length by omega)]
  · rw [List.getElem?_eq_none (by rw [seqN_len h]; omega)]
set_option maxHeartbeats 2000000 in
set_option maxRecDepth 100000 in
theorem ctext_yes (A : Option Addr) (n c : Nat) (l nm : List Int) (a : Nat) (w : World) (hl : l.length = n) (hm : n ≤ 20000) (hnc : n ≤ c) (hr : Rd w w.heap.size 1 A n (l.flatMap encB)) (h : txt l a = some nm) :
    Calls Try.prog 97 #[.slice A n c, .int .i64 a] w fun e w' => e = .returned (.tuple #[.string (strOfNums nm), .bool true]) ∧ w = w' := by
  obtain ⟨rfl, hlt⟩ := txt_some h
  obtain ⟨q, hq⟩ : ∃ q, (txtL l a).length = q := ⟨_, rfl⟩
  rw [hq, hl] at hlt
  obtain ⟨b, o, rfl, _, _⟩ := hr.2 (by omega)
  have hs := conv_str (Rd.subB hr hl (a := a) (m := q) (by omega)) (by simp [subB, hl]; omega) (c - a)
  have e3 : subB l a q = txtL l a := by
    rw [← hq]
    exact txtL_take (l.drop a)
  rw [e3] at hs
  have hstep : ∀ k, k < q → ∃ y, l[a + k]? = some y ∧ y ≠ 0 := fun k hk => by
    have := txtL_step (l.drop a) k (by show k < (txtL l a).length; omega)
    simpa [List.getElem?_drop] using this
  have hstop : l[a + q]? = some 0 := by
    have := txtL_stop (l.drop a) (by show (txtL l a).length < _; rw [List.length_drop]; omega)
    rw [List.getElem?_drop] at this
    rwa [show ((l.drop a).takeWhile fun x => x != 0).length = q from hq] at this
  have hcell : ∀ j y, l[j]? = some y → w.cell? ⟨b, o + j, none⟩ = some (.int .u8 y) := by
    intro j y hy
    have hj := (List.getElem?_eq_some_iff.1 hy).1
    obtain ⟨b', o', e, _, hc⟩ := hr.row (fun _ => rfl) (k := j) (by omega) hl
    simp only [Option.some.injEq, Addr.mk.injEq, and_true] at e
    obtain ⟨rfl, rfl⟩ := e
    have := hc 0 (by omega)
    rw [(List.getElem?_eq_some_iff.1 hy).2] at this
    simpa [encB] using this
  obtain ⟨s, hss⟩ : ∃ s, strOfNums (txtL l a) = s := ⟨_, rfl⟩
  rw [hss] at hs ⊢
  have HS := Lib.hid hstep
  have HE := Lib.hid hstop
  have HC := Lib.hid hcell
  have HV := Lib.hid hs
  clear h e3 hq hl hr hstep hstop hcell hs hss
  go_enter Try.func97, Try.ntmps97
  go_wp2
  go_loop [6] (fun i => ∃ k : Nat, k ≤ q ∧ i = .int .i64 ((a + k : Nat) : Int)) (fun i => a + q - (intOf i).toNat)
  case atStart => exact ⟨0, by omega, by simp⟩
  case round =>
    obtain ⟨k, hk, rfl⟩ := hrel
    by_cases hkq : k < q
    · obtain ⟨y, hy, hy0⟩ := HS.out k hkq
      have d := HC.out _ _ hy
      have e0 : (y == (0 : Int)) = false := by simpa using hy0
      clear hy
      go_wp2
      go_round
      case rel => exact ⟨k + 1, by omega, by go_num⟩
      case measure => simp [intOf]; omega
    · obtain rfl : k = q := by omega
      have d := HC.out _ _ HE.out
      have hs := HV.out
      go_wp2
      go_ret2
      exact ⟨rfl, rfl⟩
set_option maxHeartbeats 2000000 in
set_option maxRecDepth 100000 in
theorem ctext_no (A : Option Addr) (n c : Nat) (l : List Int) (a : Nat) (w : World) (hl : l.length = n) (hm : n ≤ 20000) (ha : a ≤ 4294967296) (hnc : n ≤ c) (hr : Rd w w.heap.size 1 A n (l.flatMap encB)) (h : txt l a = none) :
    Calls Try.prog 97 #[.slice A n c, .int .i64 a] w fun e w' => e = .returned (.tuple #[.string ⟨#[]⟩, .bool false]) ∧ w = w' := by
  have hlt := txt_none h
  have hle := txtL_le l a
  have hcell : ∀ k, a + k < n → ∃ b o y, A = some ⟨b, o, none⟩ ∧ w.cell? ⟨b, o + (a + k), none⟩ = some (.int .u8 y) ∧ y ≠ 0 := by
    intro k hk
    obtain ⟨b', o', e, _, hc⟩ := hr.row (fun _ => rfl) (k := a + k) (by omega) hl
    obtain ⟨y, hy, hy0⟩ := txtL_step (l.drop a) k (by show k < (txtL l a).length; omega)
    rw [List.getElem?_drop] at hy
    have := hc 0 (by omega)
    rw [(List.getElem?_eq_some_iff.1 hy).2] at this
    exact ⟨b', o', y, e, by simpa [encB] using this, hy0⟩
  have HC := Lib.hid hcell
  clear h hlt hle hr hl hcell
  go_enter Try.func97, Try.ntmps97
  go_wp2
  go_loop [6] (fun i => ∃ k : Nat, (k = 0 ∨ a + k ≤ n) ∧ i = .int .i64 ((a + k : Nat) : Int)) (fun i => a + n - (intOf i).toNat)
  case atStart => exact ⟨0, .inl rfl, by simp⟩
  case round =>
    obtain ⟨k, hk, rfl⟩ := hrel
    by_cases hkq : a + k < n
    · obtain ⟨b, o, y, rfl, d, hy0⟩ := HC.out k hkq
      have e0 : (y == (0 : Int)) = false := by simpa using hy0
      go_wp2
      go_round
      case rel => exact ⟨k + 1, .inr (by omega), by go_num⟩
      case measure => simp [intOf]; omega
    · go_wp2
      go_ret2
      exact ⟨rfl, rfl⟩
set_option maxRecDepth 100000 in
set_option maxHeartbeats 2000000 in
theorem cfour_yes (r : Rdr) (b x : List Int) (B a : Nat) (l : Int) (w : World) (hR : RdRows w r b x B) (hB : Blk w r.g 142 (r.cc a false l)) (hz : B ≤ w.heap.size) (h : a + 4 ≤ b.length) :
    Calls Try.prog 67 #[.pointer (some ⟨r.g, 0, none⟩)] w fun e w' => e = .returned (.int .i64 (numB ((b.drop a).take 4))) ∧ Blk w' r.g 142 (r.cc ((a + 4 : Nat) : Int) false l) ∧ Near (fun i => i = r.g) w w' := by
  obtain ⟨g, Ab, nb, cb, Ax, nx, cx⟩ := r
  obtain ⟨hb, hx, ob, ox, mb, mx, hcb, hcx, rb, rx⟩ := hR
  simp only [Rdr.cc] at hB hb mb rb ⊢
  have hn := numB4 ob a
  have HBe := Lib.hid (fun W (hW : Below w.heap.size w W) => refNumber_yes Ab nb cb 4 b a false W hb ob (by omega) (by decide) (by omega) ((rb.more hz).below hW |>.more hW.size))
  rw [seqN4 h] at HBe
  obtain ⟨y, hy⟩ : ∃ y, numB ((b.drop a).take 4) = y := ⟨_, rfl⟩
  rw [hy] at HBe hn ⊢
  have ha : a ≤ 20000 := by omega
  clear hy
  have HB := Lib.hid hB
  have hS1 : (fun W' : World => ∀ i, W'.cell? ⟨g, i, none⟩ = (#[.slice Ab nb cb, .slice Ax nx cx, .int .i64 a, .bool false, .int .i64 l] : Array Value)[i]?) w.drew := hB.drew.cell
  have hgl := hB.lt
  clear rb rx hb h hB
  go_enter Try.func67, Try.ntmps67
  go_upto_region 1 with (fail)
  refine wp_region_held_drew (S := fun W' : World => ∀ i, W'.cell? ⟨g, i, none⟩ = (#[.slice Ab nb cb, .slice Ax nx cx, .int .i64 a, .bool false, .int .i64 l] : Array Value)[i]?) (by kernel_rfl) hS1 (fun hHeld => ?_)
  clear hHeld
  refine wpAnyH_take (i := 0) (v := ?va0) rfl (by kernel_rfl) (by kernel_rfl) (by kernel_rfl) (fun _ _ _ h => h) (Or.inl ⟨by kernel_rfl, ?hya0⟩) hS1 ?resta0
  case hya0 =>
    intro w hSw
    clear hSw
    go_simp
    first | done | with_reducible rfl
  (try simp only [List.getElem_toArray, List.getElem_cons_succ, List.getElem_cons_zero, Act.put, List.setIfInBounds_toArray, List.set_cons_zero, List.set_cons_succ])
  refine wpAnyH_take (i := 1) (v := ?va1) rfl (by kernel_rfl) (by kernel_rfl) (by kernel_rfl) (fun _ _ _ h => h) (Or.inl ⟨by kernel_rfl, ?hya1⟩) hS1 ?resta1
  case hya1 =>
    intro w hSw
    clear hSw
    go_simp
    first | done | with_reducible rfl
  (try simp only [List.getElem_toArray, List.getElem_cons_succ, List.getElem_cons_zero, Act.put, List.setIfInBounds_toArray, List.set_cons_zero, List.set_cons_succ])
  refine wpAnyH_take (i := 2) (v := ?va2) rfl (by kernel_rfl) (by kernel_rfl) (by kernel_rfl) (fun _ _ _ h => h) (Or.inl ⟨by kernel_rfl, ?hya2⟩) hS1 ?resta2
  case hya2 =>
    intro w hSw
    clear hSw
    go_simp
    first | done | with_reducible rfl
  (try simp only [List.getElem_toArray, List.getElem_cons_succ, List.getElem_cons_zero, Act.put, List.setIfInBounds_toArray, List.set_cons_zero, List.set_cons_succ])
  refine wpAnyH_take (i := 3) (v := ?va3) rfl (by kernel_rfl) (by kernel_rfl) (by kernel_rfl) (fun _ _ _ h => h) (Or.inl ⟨by kernel_rfl, ?hya3⟩) hS1 ?resta3
  case hya3 =>
    intro w hSw
    (try dsimp only at hSw)
    go_simp
    first | done | with_reducible rfl
  (try simp only [List.getElem_toArray, List.getElem_cons_succ, List.getElem_cons_zero, Act.put, List.setIfInBounds_toArray, List.set_cons_zero, List.set_cons_succ])
  refine wpAnyH_take (i := 4) (v := ?va4) rfl (by kernel_rfl) (by kernel_rfl) (by kernel_rfl) (fun _ _ _ h => h) (Or.inl ⟨by kernel_rfl, ?hya4⟩) hS1 ?resta4
  case hya4 =>
    intro w hSw
    clear hSw
    go_simp
    first | done | with_reducible rfl
  (try simp only [List.getElem_toArray, List.getElem_cons_succ, List.getElem_cons_zero, Act.put, List.setIfInBounds_toArray, List.set_cons_zero, List.set_cons_succ])
  refine wpAnyH_take (i := 5) (v := ?va5) rfl (by kernel_rfl) (by kernel_rfl) (by kernel_rfl) (fun _ _ _ h => h) (Or.inl ⟨by kernel_rfl, ?hya5⟩) hS1 ?resta5
  case hya5 =>
    intro w hSw
    clear hSw
    go_simp
    first | done | with_reducible rfl
  (try simp only [List.getElem_toArray, List.getElem_cons_succ, List.getElem_cons_zero, Act.put, List.setIfInBounds_toArray, List.set_cons_zero, List.set_cons_succ])
  refine wpAnyH_take (i := 6) (v := ?va6) rfl (by kernel_rfl) (by kernel_rfl) (by kernel_rfl) (fun _ _ _ h => h) (Or.inl ⟨by kernel_rfl, ?hya6⟩) hS1 ?resta6
  case hya6 =>
    intro w hSw
    clear hSw
    go_simp
    first | done | with_reducible rfl
  (try simp only [List.getElem_toArray, List.getElem_cons_succ, List.getElem_cons_zero, Act.put, List.setIfInBounds_toArray, List.set_cons_zero, List.set_cons_succ])
  refine wpAnyH_take (i := 7) (v := ?va7) rfl (by kernel_rfl) (by kernel_rfl) (by kernel_rfl) (fun _ _ _ h => h) (Or.inl ⟨by kernel_rfl, ?hya7⟩) hS1 ?resta7
  case hya7 =>
    intro w hSw
    (try dsimp only at hSw)
    go_simp
    first | done | with_reducible rfl
  (try simp only [List.getElem_toArray, List.getElem_cons_succ, List.getElem_cons_zero, Act.put, List.setIfInBounds_toArray, List.set_cons_zero, List.set_cons_succ])
  refine wpAnyH_call (i := 8) (by kernel_rfl) rfl (by kernel_rfl) fun K hK => ?_
  simp only [List.getElem_toArray, List.getElem_cons_succ, List.getElem_cons_zero]
  go_simp
  go_at_call 66
  refine (HBe.out _ (Below.refl _ _).drew).mono ?_
  rintro e w1 ⟨rfl, rfl⟩
  refine hK.out _ _ hS1 ?_
  clear hK K
  (try simp only [List.getElem_toArray, List.getElem_cons_succ, List.getElem_cons_zero, Act.put, List.setIfInBounds_toArray, List.set_cons_zero, List.set_cons_succ])
  refine wpAnyH_take (i := 9) (v := ?va9) rfl (by kernel_rfl) (by kernel_rfl) (by kernel_rfl) (fun _ _ _ h => h) (Or.inl ⟨by kernel_rfl, ?hya9⟩) hS1 ?resta9
  case hya9 =>
    intro w hSw
    clear hSw
    go_simp
    first | done | with_reducible rfl
  (try simp only [List.getElem_toArray, List.getElem_cons_succ, List.getElem_cons_zero, Act.put, List.setIfInBounds_toArray, List.set_cons_zero, List.set_cons_succ])
  refine wpAnyH_take (i := 10) (v := ?va10) rfl (by kernel_rfl) (by kernel_rfl) (by kernel_rfl) (fun _ _ _ h => h) (Or.inl ⟨by kernel_rfl, ?hya10⟩) hS1 ?resta10
  case hya10 =>
    intro w hSw
    clear hSw
    go_simp
    first | done | with_reducible rfl
  (try simp only [List.getElem_toArray, List.getElem_cons_succ, List.getElem_cons_zero, Act.put, List.setIfInBounds_toArray, List.set_cons_zero, List.set_cons_succ])
  refine wpAnyH_take (i := 11) (v := ?va11) rfl (by kernel_rfl) (by kernel_rfl) (by kernel_rfl) (fun _ _ _ h => h) (Or.inl ⟨by kernel_rfl, ?hya11⟩) hS1 ?resta11
  case hya11 =>
    intro w hSw
    clear hSw
    go_simp
    first | done | with_reducible rfl
  (try simp only [List.getElem_toArray, List.getElem_cons_succ, List.getElem_cons_zero, Act.put, List.setIfInBounds_toArray, List.set_cons_zero, List.set_cons_succ])
  refine wpAnyH_take (i := 12) (v := ?va12) rfl (by kernel_rfl) (by kernel_rfl) (by kernel_rfl) (fun _ _ _ h => h) (Or.inl ⟨by kernel_rfl, ?hya12⟩) hS1 ?resta12
  case hya12 =>
    intro w hSw
    clear hSw
    go_simp
    first | done | with_reducible rfl
  (try simp only [List.getElem_toArray, List.getElem_cons_succ, List.getElem_cons_zero, Act.put, List.setIfInBounds_toArray, List.set_cons_zero, List.set_cons_succ])
  refine wpAnyH_take (i := 13) (v := ?va13) rfl (by kernel_rfl) (by kernel_rfl) (by kernel_rfl) (fun _ _ _ h => h) (Or.inl ⟨by kernel_rfl, ?hya13⟩) hS1 ?resta13
  case hya13 =>
    intro w hSw
    clear hSw
    go_simp
    first | done | with_reducible rfl
  (try simp only [List.getElem_toArray, List.getElem_cons_succ, List.getElem_cons_zero, Act.put, List.setIfInBounds_toArray, List.set_cons_zero, List.set_cons_succ])
  refine wpAnyH_done (by kernel_rfl) ?_ _
  clear hS1 HBe
  have hB1 := HB.out.drew
  have hN1 : Near (fun i => i = g) w w.drew := Near.of_below _ (Below.refl _ _).drew
  generalize w.drew = w1 at *
  have cB := hB1.cell
  have fB := hB1.frozen
  go_wp2_with fail
  go_ret
  have hB2 := hB1.set_ 2 (.int .i64 ((a + 4 : Nat) : Int))
  refine ⟨rfl, ?_, ?_⟩
  · simpa using hB2
  · exact hN1.setCell (p := ⟨g, 2, none⟩) rfl _
set_option maxRecDepth 100000 in
set_option maxHeartbeats 2000000 in
theorem cfour_no (r : Rdr) (b x : List Int) (B a : Nat) (l : Int) (w : World) (hR : RdRows w r b x B) (hB : Blk w r.g 142 (r.cc a false l)) (hz : B ≤ w.heap.size) (h : ¬ a + 4 ≤ b.length) (ha : a ≤ 40000) :
    Calls Try.prog 67 #[.pointer (some ⟨r.g, 0, none⟩)] w fun e w' => e = .returned (.int .i64 0) ∧ Blk w' r.g 142 (r.cc a true l) ∧ Near (fun i => i = r.g) w w' := by
  obtain ⟨g, Ab, nb, cb, Ax, nx, cx⟩ := r
  obtain ⟨hb, hx, ob, ox, mb, mx, hcb, hcx, rb, rx⟩ := hR
  simp only [Rdr.cc] at hB hb mb rb ⊢
  have HBe := Lib.hid (fun W (hW : Below w.heap.size w W) => refNumber_no Ab nb cb 4 a false W (by omega) (by decide) (by omega))
  have HB := Lib.hid hB
  have hS1 : (fun W' : World => ∀ i, W'.cell? ⟨g, i, none⟩ = (#[.slice Ab nb cb, .slice Ax nx cx, .int .i64 a, .bool false, .int .i64 l] : Array Value)[i]?) w.drew := hB.drew.cell
  have hgl := hB.lt
  clear rb rx hb h hB
  go_enter Try.func67, Try.ntmps67
  go_upto_region 1 with (fail)
  refine wp_region_held_drew (S := fun W' : World => ∀ i, W'.cell? ⟨g, i, none⟩ = (#[.slice Ab nb cb, .slice Ax nx cx, .int .i64 a, .bool false, .int .i64 l] : Array Value)[i]?) (by kernel_rfl) hS1 (fun hHeld => ?_)
  clear hHeld
  refine wpAnyH_take (i := 0) (v := ?va0) rfl (by kernel_rfl) (by kernel_rfl) (by kernel_rfl) (fun _ _ _ h => h) (Or.inl ⟨by kernel_rfl, ?hya0⟩) hS1 ?resta0
  case hya0 =>
    intro w hSw
    clear hSw
    go_simp
    first | done | with_reducible rfl
  (try simp only [List.getElem_toArray, List.getElem_cons_succ, List.getElem_cons_zero, Act.put, List.setIfInBounds_toArray, List.set_cons_zero, List.set_cons_succ])
  refine wpAnyH_take (i := 1) (v := ?va1) rfl (by kernel_rfl) (by kernel_rfl) (by kernel_rfl) (fun _ _ _ h => h) (Or.inl ⟨by kernel_rfl, ?hya1⟩) hS1 ?resta1
  case hya1 =>
    intro w hSw
    clear hSw
    go_simp
    first | done | with_reducible rfl
  (try simp only [List.getElem_toArray, List.getElem_cons_succ, List.getElem_cons_zero, Act.put, List.setIfInBounds_toArray, List.set_cons_zero, List.set_cons_succ])
  refine wpAnyH_take (i := 2) (v := ?va2) rfl (by kernel_rfl) (by kernel_rfl) (by kernel_rfl) (fun _ _ _ h => h) (Or.inl ⟨by kernel_rfl, ?hya2⟩) hS1 ?resta2
  case hya2 =>
    intro w hSw
    clear hSw
    go_simp
    first | done | with_reducible rfl
  (try simp only [List.getElem_toArray, List.getElem_cons_succ, List.getElem_cons_zero, Act.put, List.setIfInBounds_toArray, List.set_cons_zero, List.set_cons_succ])
  refine wpAnyH_take (i := 3) (v := ?va3) rfl (by kernel_rfl) (by kernel_rfl) (by kernel_rfl) (fun _ _ _ h => h) (Or.inl ⟨by kernel_rfl, ?hya3⟩) hS1 ?resta3
  case hya3 =>
    intro w hSw
    (try dsimp only at hSw)
    go_simp
    first | done | with_reducible rfl
  (try simp only [List.getElem_toArray, List.getElem_cons_succ, List.getElem_cons_zero, Act.put, List.setIfInBounds_toArray, List.set_cons_zero, List.set_cons_succ])
  refine wpAnyH_take (i := 4) (v := ?va4) rfl (by kernel_rfl) (by kernel_rfl) (by kernel_rfl) (fun _ _ _ h => h) (Or.inl ⟨by kernel_rfl, ?hya4⟩) hS1 ?resta4
  case hya4 =>
    intro w hSw
    clear hSw
    go_simp
    first | done | with_reducible rfl
  (try simp only [List.getElem_toArray, List.getElem_cons_succ, List.getElem_cons_zero, Act.put, List.setIfInBounds_toArray, List.set_cons_zero, List.set_cons_succ])
  refine wpAnyH_take (i := 5) (v := ?va5) rfl (by kernel_rfl) (by kernel_rfl) (by kernel_rfl) (fun _ _ _ h => h) (Or.inl ⟨by kernel_rfl, ?hya5⟩) hS1 ?resta5
  case hya5 =>
    intro w hSw
    clear hSw
    go_simp
    first | done | with_reducible rfl
  (try simp only [List.getElem_toArray, List.getElem_cons_succ, List.getElem_cons_zero, Act.put, List.setIfInBounds_toArray, List.set_cons_zero, List.set_cons_succ])
  refine wpAnyH_take (i := 6) (v := ?va6) rfl (by kernel_rfl) (by kernel_rfl) (by kernel_rfl) (fun _ _ _ h => h) (Or.inl ⟨by kernel_rfl, ?hya6⟩) hS1 ?resta6
  case hya6 =>
    intro w hSw
    clear hSw
    go_simp
    first | done | with_reducible rfl
  (try simp only [List.getElem_toArray, List.getElem_cons_succ, List.getElem_cons_zero, Act.put, List.setIfInBounds_toArray, List.set_cons_zero, List.set_cons_succ])
  refine wpAnyH_take (i := 7) (v := ?va7) rfl (by kernel_rfl) (by kernel_rfl) (by kernel_rfl) (fun _ _ _ h => h) (Or.inl ⟨by kernel_rfl, ?hya7⟩) hS1 ?resta7
  case hya7 =>
    intro w hSw
    (try dsimp only at hSw)
    go_simp
    first | done | with_reducible rfl
  (try simp only [List.getElem_toArray, List.getElem_cons_succ, List.getElem_cons_zero, Act.put, List.setIfInBounds_toArray, List.set_cons_zero, List.set_cons_succ])
  refine wpAnyH_call (i := 8) (by kernel_rfl) rfl (by kernel_rfl) fun K hK => ?_
  simp only [List.getElem_toArray, List.getElem_cons_succ, List.getElem_cons_zero]
  go_simp
  go_at_call 66
  refine (HBe.out _ (Below.refl _ _).drew).mono ?_
  rintro e w1 ⟨rfl, rfl⟩
  refine hK.out _ _ hS1 ?_
  clear hK K
  (try simp only [List.getElem_toArray, List.getElem_cons_succ, List.getElem_cons_zero, Act.put, List.setIfInBounds_toArray, List.set_cons_zero, List.set_cons_succ])
  refine wpAnyH_take (i := 9) (v := ?va9) rfl (by kernel_rfl) (by kernel_rfl) (by kernel_rfl) (fun _ _ _ h => h) (Or.inl ⟨by kernel_rfl, ?hya9⟩) hS1 ?resta9
  case hya9 =>
    intro w hSw
    clear hSw
    go_simp
    first | done | with_reducible rfl
  (try simp only [List.getElem_toArray, List.getElem_cons_succ, List.getElem_cons_zero, Act.put, List.setIfInBounds_toArray, List.set_cons_zero, List.set_cons_succ])
  refine wpAnyH_take (i := 10) (v := ?va10) rfl (by kernel_rfl) (by kernel_rfl) (by kernel_rfl) (fun _ _ _ h => h) (Or.inl ⟨by kernel_rfl, ?hya10⟩) hS1 ?resta10
  case hya10 =>
    intro w hSw
    clear hSw
    go_simp
    first | done | with_reducible rfl
  (try simp only [List.getElem_toArray, List.getElem_cons_succ, List.getElem_cons_zero, Act.put, List.setIfInBounds_toArray, List.set_cons_zero, List.set_cons_succ])
  refine wpAnyH_take (i := 11) (v := ?va11) rfl (by kernel_rfl) (by kernel_rfl) (by kernel_rfl) (fun _ _ _ h => h) (Or.inl ⟨by kernel_rfl, ?hya11⟩) hS1 ?resta11
  case hya11 =>
    intro w hSw
    clear hSw
    go_simp
    first | done | with_reducible rfl
  (try simp only [List.getElem_toArray, List.getElem_cons_succ, List.getElem_cons_zero, Act.put, List.setIfInBounds_toArray, List.set_cons_zero, List.set_cons_succ])
  refine wpAnyH_take (i := 12) (v := ?va12) rfl (by kernel_rfl) (by kernel_rfl) (by kernel_rfl) (fun _ _ _ h => h) (Or.inl ⟨by kernel_rfl, ?hya12⟩) hS1 ?resta12
  case hya12 =>
    intro w hSw
    clear hSw
    go_simp
    first | done | with_reducible rfl
  (try simp only [List.getElem_toArray, List.getElem_cons_succ, List.getElem_cons_zero, Act.put, List.setIfInBounds_toArray, List.set_cons_zero, List.set_cons_succ])
  refine wpAnyH_take (i := 13) (v := ?va13) rfl (by kernel_rfl) (by kernel_rfl) (by kernel_rfl) (fun _ _ _ h => h) (Or.inl ⟨by kernel_rfl, ?hya13⟩) hS1 ?resta13
  case hya13 =>
    intro w hSw
    clear hSw
    go_simp
    first | done | with_reducible rfl
  (try simp only [List.getElem_toArray, List.getElem_cons_succ, List.getElem_cons_zero, Act.put, List.setIfInBounds_toArray, List.set_cons_zero, List.set_cons_succ])
  refine wpAnyH_done (by kernel_rfl) ?_ _
  clear hS1 HBe
  have hB1 := HB.out.drew
  have hN1 : Near (fun i => i = g) w w.drew := Near.of_below _ (Below.refl _ _).drew
  generalize w.drew = w1 at *
  have cB := hB1.cell
  have fB := hB1.frozen
  go_wp2_with fail
  go_ret
  have hB2 := hB1.set_ 3 (.bool true)
  refine ⟨rfl, ?_, ?_⟩
  · simpa using hB2
  · exact hN1.setCell (p := ⟨g, 3, none⟩) rfl _
set_option maxRecDepth 100000 in
set_option maxHeartbeats 2000000 in
/-- .. and where it is bad already, it stays so. -/
theorem cfour_bad (r : Rdr) (b x : List Int) (B a : Nat) (l : Int) (w : World) (hR : RdRows w r b x B) (hB : Blk w r.g 142 (r.cc a true l)) (hz : B ≤ w.heap.size) (h : ¬ a + 4 ≤ b.length) (ha : a ≤ 40000) :
    Calls Try.prog 67 #[.pointer (some ⟨r.g, 0, none⟩)] w fun e w' => e = .returned (.int .i64 0) ∧ Blk w' r.g 142 (r.cc a true l) ∧ Near (fun i => i = r.g) w w' := by
  obtain ⟨g, Ab, nb, cb, Ax, nx, cx⟩ := r
  obtain ⟨hb, hx, ob, ox, mb, mx, hcb, hcx, rb, rx⟩ := hR
  simp only [Rdr.cc] at hB hb mb rb ⊢
  have HBe := Lib.hid (fun W (hW : Below w.heap.size w W) => refNumber_no Ab nb cb 4 a false W (by omega) (by decide) (by omega))
  have HB := Lib.hid hB
  have hS1 : (fun W' : World => ∀ i, W'.cell? ⟨g, i, none⟩ = (#[.slice Ab nb cb, .slice Ax nx cx, .int .i64 a, .bool true, .int .i64 l] : Array Value)[i]?) w.drew := hB.drew.cell
  have hgl := hB.lt
  clear rb rx hb h hB
  go_enter Try.func67, Try.ntmps67
  go_upto_region 1 with (fail)
  refine wp_region_held_drew (S := fun W' : World => ∀ i, W'.cell? ⟨g, i, none⟩ = (#[.slice Ab nb cb, .slice Ax nx cx, .int .i64 a, .bool true, .int .i64 l] : Array Value)[i]?) (by kernel_rfl) hS1 (fun hHeld => ?_)
  clear hHeld
  refine wpAnyH_take (i := 0) (v := ?va0) rfl (by kernel_rfl) (by kernel_rfl) (by kernel_rfl) (fun _ _ _ h => h) (Or.inl ⟨by kernel_rfl, ?hya0⟩) hS1 ?resta0
  case hya0 =>
    intro w hSw
    clear hSw
    go_simp
    first | done | with_reducible rfl
  (try simp only [List.getElem_toArray, List.getElem_cons_succ, List.getElem_cons_zero, Act.put, List.setIfInBounds_toArray, List.set_cons_zero, List.set_cons_succ])
  refine wpAnyH_take (i := 1) (v := ?va1) rfl (by kernel_rfl) (by kernel_rfl) (by kernel_rfl) (fun _ _ _ h => h) (Or.inl ⟨by kernel_rfl, ?hya1⟩) hS1 ?resta1
  case hya1 =>
    intro w hSw
    clear hSw
    go_simp
    first | done | with_reducible rfl
  (try simp only [List.getElem_toArray, List.getElem_cons_succ, List.getElem_cons_zero, Act.put, List.setIfInBounds_toArray, List.set_cons_zero, List.set_cons_succ])
  refine wpAnyH_take (i := 2) (v := ?va2) rfl (by kernel_rfl) (by kernel_rfl) (by kernel_rfl) (fun _ _ _ h => h) (Or.inl ⟨by kernel_rfl, ?hya2⟩) hS1 ?resta2
  case hya2 =>
    intro w hSw
    clear hSw
    go_simp
    first | done | with_reducible rfl
  (try simp only [List.getElem_toArray, List.getElem_cons_succ, List.getElem_cons_zero, Act.put, List.setIfInBounds_toArray, List.set_cons_zero, List.set_cons_succ])
  refine wpAnyH_take (i := 3) (v := ?va3) rfl (by kernel_rfl) (by kernel_rfl) (by kernel_rfl) (fun _ _ _ h => h) (Or.inl ⟨by kernel_rfl, ?hya3⟩) hS1 ?resta3
  case hya3 =>
    intro w hSw
    (try dsimp only at hSw)
    go_simp
    first | done | with_reducible rfl
  (try simp only [List.getElem_toArray, List.getElem_cons_succ, List.getElem_cons_zero, Act.put, List.setIfInBounds_toArray, List.set_cons_zero, List.set_cons_succ])
  refine wpAnyH_take (i := 4) (v := ?va4) rfl (by kernel_rfl) (by kernel_rfl) (by kernel_rfl) (fun _ _ _ h => h) (Or.inl ⟨by kernel_rfl, ?hya4⟩) hS1 ?resta4
  case hya4 =>
    intro w hSw
    clear hSw
    go_simp
    first | done | with_reducible rfl
  (try simp only [List.getElem_toArray, List.getElem_cons_succ, List.getElem_cons_zero, Act.put, List.setIfInBounds_toArray, List.set_cons_zero, List.set_cons_succ])
  refine wpAnyH_take (i := 5) (v := ?va5) rfl (by kernel_rfl) (by kernel_rfl) (by kernel_rfl) (fun _ _ _ h => h) (Or.inl ⟨by kernel_rfl, ?hya5⟩) hS1 ?resta5
  case hya5 =>
    intro w hSw
    clear hSw
    go_simp
    first | done | with_reducible rfl
  (try simp only [List.getElem_toArray, List.getElem_cons_succ, List.getElem_cons_zero, Act.put, List.setIfInBounds_toArray, List.set_cons_zero, List.set_cons_succ])
  refine wpAnyH_take (i := 6) (v := ?va6) rfl (by kernel_rfl) (by kernel_rfl) (by kernel_rfl) (fun _ _ _ h => h) (Or.inl ⟨by kernel_rfl, ?hya6⟩) hS1 ?resta6
  case hya6 =>
    intro w hSw
    clear hSw
    go_simp
    first | done | with_reducible rfl
  (try simp only [List.getElem_toArray, List.getElem_cons_succ, List.getElem_cons_zero, Act.put, List.setIfInBounds_toArray, List.set_cons_zero, List.set_cons_succ])
  refine wpAnyH_take (i := 7) (v := ?va7) rfl (by kernel_rfl) (by kernel_rfl) (by kernel_rfl) (fun _ _ _ h => h) (Or.inl ⟨by kernel_rfl, ?hya7⟩) hS1 ?resta7
  case hya7 =>
    intro w hSw
    (try dsimp only at hSw)
    go_simp
    first | done | with_reducible rfl
  (try simp only [List.getElem_toArray, List.getElem_cons_succ, List.getElem_cons_zero, Act.put, List.setIfInBounds_toArray, List.set_cons_zero, List.set_cons_succ])
  refine wpAnyH_call (i := 8) (by kernel_rfl) rfl (by kernel_rfl) fun K hK => ?_
  simp only [List.getElem_toArray, List.getElem_cons_succ, List.getElem_cons_zero]
  go_simp
  go_at_call 66
  refine (HBe.out _ (Below.refl _ _).drew).mono ?_
  rintro e w1 ⟨rfl, rfl⟩
  refine hK.out _ _ hS1 ?_
  clear hK K
  (try simp only [List.getElem_toArray, List.getElem_cons_succ, List.getElem_cons_zero, Act.put, List.setIfInBounds_toArray, List.set_cons_zero, List.set_cons_succ])
  refine wpAnyH_take (i := 9) (v := ?va9) rfl (by kernel_rfl) (by kernel_rfl) (by kernel_rfl) (fun _ _ _ h => h) (Or.inl ⟨by kernel_rfl, ?hya9⟩) hS1 ?resta9
  case hya9 =>
    intro w hSw
    clear hSw
    go_simp
    first | done | with_reducible rfl
  (try simp only [List.getElem_toArray, List.getElem_cons_succ, List.getElem_cons_zero, Act.put, List.setIfInBounds_toArray, List.set_cons_zero, List.set_cons_succ])
  refine wpAnyH_take (i := 10) (v := ?va10) rfl (by kernel_rfl) (by kernel_rfl) (by kernel_rfl) (fun _ _ _ h => h) (Or.inl ⟨by kernel_rfl, ?hya10⟩) hS1 ?resta10
  case hya10 =>
    intro w hSw
    clear hSw
    go_simp
    first | done | with_reducible rfl
  (try simp only [List.getElem_toArray, List.getElem_cons_succ, List.getElem_cons_zero, Act.put, List.setIfInBounds_toArray, List.set_cons_zero, List.set_cons_succ])
  refine wpAnyH_take (i := 11) (v := ?va11) rfl (by kernel_rfl) (by kernel_rfl) (by kernel_rfl) (fun _ _ _ h => h) (Or.inl ⟨by kernel_rfl, ?hya11⟩) hS1 ?resta11
  case hya11 =>
    intro w hSw
    clear hSw
    go_simp
    first | done | with_reducible rfl
  (try simp only [List.getElem_toArray, List.getElem_cons_succ, List.getElem_cons_zero, Act.put, List.setIfInBounds_toArray, List.set_cons_zero, List.set_cons_succ])
  refine wpAnyH_take (i := 12) (v := ?va12) rfl (by kernel_rfl) (by kernel_rfl) (by kernel_rfl) (fun _ _ _ h => h) (Or.inl ⟨by kernel_rfl, ?hya12⟩) hS1 ?resta12
  case hya12 =>
    intro w hSw
    clear hSw
    go_simp
    first | done | with_reducible rfl
  (try simp only [List.getElem_toArray, List.getElem_cons_succ, List.getElem_cons_zero, Act.put, List.setIfInBounds_toArray, List.set_cons_zero, List.set_cons_succ])
  refine wpAnyH_take (i := 13) (v := ?va13) rfl (by kernel_rfl) (by kernel_rfl) (by kernel_rfl) (fun _ _ _ h => h) (Or.inl ⟨by kernel_rfl, ?hya13⟩) hS1 ?resta13
  case hya13 =>
    intro w hSw
    clear hSw
    go_simp
    first | done | with_reducible rfl
  (try simp only [List.getElem_toArray, List.getElem_cons_succ, List.getElem_cons_zero, Act.put, List.setIfInBounds_toArray, List.set_cons_zero, List.set_cons_succ])
  refine wpAnyH_done (by kernel_rfl) ?_ _
  clear hS1 HBe
  have hB1 := HB.out.drew
  have hN1 : Near (fun i => i = g) w w.drew := Near.of_below _ (Below.refl _ _).drew
  generalize w.drew = w1 at *
  have cB := hB1.cell
  have fB := hB1.frozen
  go_wp2_with fail
  go_ret
  have hB2 := hB1.set_ 3 (.bool true)
  refine ⟨rfl, ?_, ?_⟩
  · simpa using hB2
  · exact hN1.setCell (p := ⟨g, 3, none⟩) rfl _
end Go.Proofs.Ytnkpaockginooaa
