/- fdt.Of's deferred closure: what is thrown is caught. -/
import Derived.Test.YtnkpaockginooaaOfD
import Derived.Test.YtnkpaockginooaaPutE
import Derived.Recover
import Derived.Defers
import Derived.Deep.RegionHeld3
namespace Go.Proofs.Ytnkpaockginooaa
set_option linter.unusedVariables false
set_option linter.unusedSimpArgs false
open Go.RowKit Go.Sort

theorem run_wrong (w : World) : (Instr.typeAssert (.iface 128 (.agg #[])) 20 128 true).run Try.prog w = .ok (.tuple #[.agg #[], .bool true]) w := by kernel_rfl
set_option maxRecDepth 100000 in
set_option maxHeartbeats 2000000 in
theorem caught (R E : Nat) (a b c e0 : Value) (w : World) (hR : Blk w R 25 #[a, b, c]) (hE : Blk w E 29 #[e0]) (hne : R ≠ E) :
    CallsD Try.prog 61 #[.pointer (some ⟨R, 0, none⟩), .pointer (some ⟨E, 0, none⟩)] (.panicking [{ v := .iface 128 (.agg #[]), recovered := false }]) w fun e u' w' =>
      e = .returned (.tuple #[]) ∧ u' = .panicking [{ v := .iface 128 (.agg #[]), recovered := true }] ∧ Blk w' R 25 #[.string ⟨#[]⟩, .slice none 0 0, .slice none 0 0] ∧ Blk w' E 29 #[.int .i64 240] ∧ Near (fun i => i = R ∨ i = E) w w' := by
  refine callsD_of_wpS Try.func61 rfl fun c₀ cs hu => ?_
  apply wpS_seq
  apply wpS_region
  simp [wpOpsS, go_sem, recoverD, hu, Try.ntmps61, Exit.thenS]
  simp only [Array.replicate, List.replicate, List.setIfInBounds_toArray, List.set_cons_succ, List.set_cons_zero, List.append_toArray, List.cons_append, List.nil_append]
  have cR := hR.cell
  have fR := hR.frozen
  have cE := hE.cell
  have fE := hE.frozen
  have hEb := hE.alloc (.cells #[] 128)
  have cE2 := hEb.cell
  have fE2 := hEb.frozen
  have hRb := hR.alloc (.cells #[] 128)
  have cR2 := hRb.cell
  have fR2 := hRb.frozen
  refine wpS_of_wp ?_
  have hrw := run_wrong
  go_wp2_with fail
  have h1 := ((hRb.set_ 0 (.string ⟨#[]⟩)).set_ 1 (.slice none 0 0)).set_ 2 (.slice none 0 0)
  have h2 := ((hEb.far (p := ⟨R, 0, none⟩) (by show E ≠ R; omega) (.string ⟨#[]⟩)).far (p := ⟨R, 1, none⟩) (by show E ≠ R; omega) (.slice none 0 0)).far (p := ⟨R, 2, none⟩) (by show E ≠ R; omega) (.slice none 0 0)
  refine ⟨rfl, _, rfl, .tuple #[], by simp [results, Try.results61], rfl, rfl, h1.far (p := ⟨E, 0, none⟩) (by show R ≠ E; omega) _, h2.set_ 0 _, ?_⟩
  exact ((((Near.alloc (Near.refl (fun i => i = R ∨ i = E) w) _).setCell (p := ⟨R, 0, none⟩) (.inl rfl) _).setCell (p := ⟨R, 1, none⟩) (.inl rfl) _).setCell (p := ⟨R, 2, none⟩) (.inl rfl) _).setCell (p := ⟨E, 0, none⟩) (.inr rfl) _
theorem idle (R E : Nat) (w : World) :
    CallsD Try.prog 61 #[.pointer (some ⟨R, 0, none⟩), .pointer (some ⟨E, 0, none⟩)] .returning w fun e u' w' => e = .returned (.tuple #[]) ∧ u' = .returning ∧ w' = w := by
  refine callsD_of_wpS Try.func61 rfl fun c₀ cs hu => ?_
  apply wpS_seq
  apply wpS_region
  simp [wpOpsS, go_sem, recoverD, hu, Try.ntmps61, Exit.thenS]
  simp only [Array.replicate, List.replicate, List.setIfInBounds_toArray, List.set_cons_succ, List.set_cons_zero, List.append_toArray, List.cons_append, List.nil_append]
  refine wpS_of_wp ?_
  go_wp2_with fail
  cases c₀
  simp_all [bodyPostS, results, Try.results61]
/-- What is read is short. -/
theorem itemsP_lens {g : Nat → Nat → Option (Tr × Nat × Nat)} {b x : List Int} {n : Nat} (hb : b.length ≤ 20000) (hx : x.length ≤ 20000) (hg : ∀ a l t a' l', g a l = some (t, a', l') → LensF n t) :
    ∀ (f : Nat) (ps : List Pr) (ks : List Tr) (a l : Nat) (ps' : List Pr) (ks' : List Tr) (a' l' : Nat), itemsP g b x f ps ks a l = some (ps', ks', a', l') → (∀ p ∈ ps, p.1.size ≤ 140737488355328 ∧ p.2.length ≤ 140737488355328) → (∀ k ∈ ks, LensF n k) →
      ps'.length ≤ ps.length + f ∧ ks'.length ≤ ks.length + f ∧ (∀ p ∈ ps', p.1.size ≤ 140737488355328 ∧ p.2.length ≤ 140737488355328) ∧ ∀ k ∈ ks', LensF n k
  | 0, _, _, _, _, _, _, _, _, h, _, _ => by simp [itemsP] at h
  | f + 1, ps, ks, a, l, ps', ks', a', l', h, hp, hk => by
    simp only [itemsP, Option.bind_eq_some_iff] at h
    obtain ⟨y, hy, h⟩ := h
    split at h
    · simp only [Option.bind_eq_some_iff] at h
      obtain ⟨n', hn, p, hp', nm, hnm, h⟩ := h
      split at h
      · obtain ⟨h1, h2, h3, h4⟩ := itemsP_lens hb hx hg f _ _ _ _ _ _ _ _ h (fun q hq => by
          simp only [List.mem_append, List.mem_singleton] at hq
          rcases hq with hq | rfl
          · exact hp q hq
          · have := (txt_some hnm).2
            refine ⟨by rw [strOfNums_size]; omega, ?_⟩
            simp only [List.length_take, List.length_drop]
            omega) hk
        rw [List.length_append] at h1
        simp only [List.length_cons, List.length_nil] at h1
        exact ⟨by omega, by omega, h3, h4⟩
      · cases h
    · split at h
      · simp only [Option.bind_eq_some_iff] at h
        obtain ⟨⟨t, a2, l2⟩, hr, h⟩ := h
        dsimp only at h
        have hh := hg _ _ _ _ _ hr
        obtain ⟨h1, h2, h3, h4⟩ := itemsP_lens hb hx hg f _ _ _ _ _ _ _ _ h hp (fun q hq => by
          simp only [List.mem_append, List.mem_singleton] at hq
          rcases hq with hq | rfl
          · exact hk q hq
          · exact hh)
        rw [List.length_append] at h2
        simp only [List.length_cons, List.length_nil] at h2
        exact ⟨by omega, by omega, h3, h4⟩
      · split at h
        · simp only [Option.some.injEq, Prod.mk.injEq] at h
          obtain ⟨rfl, rfl, _⟩ := h
          exact ⟨by omega, by omega, hp, hk⟩
        · cases h
theorem nodeP_lens {b x : List Int} (hb : b.length ≤ 20000) (hx : x.length ≤ 20000) : ∀ (d a l : Nat) (t : Tr) (a' l' : Nat), nodeP b x d a l = some (t, a', l') → LensF d t
  | 0, _, _, _, _, _, h => by simp [nodeP] at h
  | d + 1, a, l, t, a', l', h => by
    unfold nodeP at h
    split at h
    · cases h
    · simp only [Option.bind_eq_some_iff] at h
      obtain ⟨nm, hnm, ⟨ps, ks, a2, l2⟩, hr, h⟩ := h
      simp only [Option.some.injEq, Prod.mk.injEq] at h
      obtain ⟨rfl, _, _⟩ := h
      obtain ⟨h1, h2, h3, h4⟩ := itemsP_lens hb hx (fun a l t a' l' => nodeP_lens hb hx d a l t a' l') _ _ _ _ _ _ _ _ _ hr (by simp) (by simp)
      simp only [List.length_nil] at h1 h2
      have := (txt_some hnm).2
      refine ⟨?_, ?_, ?_, h3, h4⟩
      · show (strOfNums nm).size ≤ _
        rw [strOfNums_size]
        omega
      · show ps.length ≤ _
        omega
      · show ks.length ≤ _
        omega
end Go.Proofs.Ytnkpaockginooaa
namespace Go.Proofs.Ytnkpaockginooaa
set_option linter.unusedVariables false
set_option linter.unusedSimpArgs false
open Go.RowKit Go.Sort
/-- The tree out of bytes, whole. -/
noncomputable def ofOk (bs : List Int) : Option Tr :=
  (four4 bs 12).bind fun p => if bs.length ≤ 16384 ∧ 56 ≤ p.toNat ∧ p.toNat ≤ bs.length then
    (four4 (bs.take p.toNat) 56).bind fun y => if y = 1 then
      (nodeP (bs.take p.toNat) (bs.drop p.toNat) 8 60 200).bind fun r => if (putT r.1).2 = 0 ∧ strOfNums (putT r.1).1 = strOfNums bs then some r.1 else none
    else none else none
def OfP (bs : List Int) (w : World) (e : Ending) (w' : World) : Prop := match ofOk bs with
  | none => e = .returned (.tuple #[.agg #[.string ⟨#[]⟩, .slice none 0 0, .slice none 0 0], .int .i64 240]) ∧ Below w.heap.size w w'
  | some t => ∃ (sn : ByteArray) (A1 : Option Addr) (n1 c1 : Nat) (A2 : Option Addr) (n2 c2 k : Nat), e = .returned (.tuple #[.agg #[.string sn, .slice A1 n1 c1, .slice A2 n2 c2], .int .i64 0]) ∧ TrX w' (fun i => i < w.heap.size) k t [.string sn, .slice A1 n1 c1, .slice A2 n2 c2] ∧ Below w.heap.size w w'
theorem of_no {bs : List Int} {w w' : World} (h : ofOk bs = none) (hb : Below w.heap.size w w') : OfP bs w (.returned (.tuple #[.agg #[.string ⟨#[]⟩, .slice none 0 0, .slice none 0 0], .int .i64 240])) w' := by
  unfold OfP
  rw [h]
  exact ⟨rfl, hb⟩
theorem ofOk_short {bs : List Int} (h : ¬ 16 ≤ bs.length) : ofOk bs = none := by
  unfold ofOk
  rw [four4_no (by omega)]
  rfl
theorem ofOk_guard {bs : List Int} {p : Int} (h : four4 bs 12 = some p) (hg : ¬ (bs.length ≤ 16384 ∧ 56 ≤ p.toNat ∧ p.toNat ≤ bs.length)) : ofOk bs = none := by
  unfold ofOk
  rw [h]
  simp only [Option.bind_some, if_neg hg]
theorem ofOk_in {bs : List Int} {p : Int} (h : four4 bs 12 = some p) (hg : bs.length ≤ 16384 ∧ 56 ≤ p.toNat ∧ p.toNat ≤ bs.length) :
    ofOk bs = (four4 (bs.take p.toNat) 56).bind fun y => if y = 1 then
      (nodeP (bs.take p.toNat) (bs.drop p.toNat) 8 60 200).bind fun r => if (putT r.1).2 = 0 ∧ strOfNums (putT r.1).1 = strOfNums bs then some r.1 else none
    else none := by
  unfold ofOk
  rw [h]
  simp only [Option.bind_some, if_pos hg]
set_option maxRecDepth 100000 in
set_option maxHeartbeats 4000000 in
theorem of_any (A : Option Addr) (n c : Nat) (l : List Int) (w : World) (hl : l.length = n) (hok : BytesOk l) (hm : n ≤ 1000000000) (hnc : n ≤ c) (hr : Rd w w.heap.size 1 A n (l.flatMap encB)) :
    Calls Try.prog 27 #[.slice A n c] w (OfP l w) := by
  have hmf : ∀ (fn : Fn) (first cap : Array Value) (w : World), (Instr.makeFunc fn first cap).run Try.prog w = .ok (.func fn first cap) w := fun _ _ _ _ => rfl
  have hR0 := (Blk.new w 25 #[.string ⟨#[]⟩, .slice none 0 0, .slice none 0 0]).alloc (.cells #[.int .i64 0] 29)
  have hE0 := Blk.new (w.alloc (.cells #[.string ⟨#[]⟩, .slice none 0 0, .slice none 0 0] 25)) 29 #[.int .i64 0]
  have hb0 : Below w.heap.size w ((w.alloc (.cells #[.string ⟨#[]⟩, .slice none 0 0, .slice none 0 0] 25)).alloc (.cells #[.int .i64 0] 29)) := bal' (bal (Below.refl _ _) _) _ (by simp)
  have hz0 : ((w.alloc (.cells #[.string ⟨#[]⟩, .slice none 0 0, .slice none 0 0] 25)).alloc (.cells #[.int .i64 0] 29)).heap.size = w.heap.size + 2 := by simp
  have hz0' : (w.alloc (.cells #[.string ⟨#[]⟩, .slice none 0 0, .slice none 0 0] 25)).heap.size = w.heap.size + 1 := by simp
  rw [hz0'] at hE0
  go_enter_defers Try.func27, Try.ntmps27
  go_upto_region 2 with (fail)
  generalize (w.alloc (.cells #[.string ⟨#[]⟩, .slice none 0 0, .slice none 0 0] 25)).alloc (.cells #[.int .i64 0] 29) = w1 at *
  clear hz0'
  have HZ0 := Lib.hid hz0
  have hr1 := (hr.below hb0).more hb0.size
  clear hz0
  by_cases h16 : 16 ≤ n
  · obtain ⟨p, hp⟩ : ∃ p, numB ((l.drop 12).take 4) = p := ⟨_, rfl⟩
    have h4 := four4_yes (b := l) (a := 12) (by omega)
    have hn4 := numB4 hok 12
    have HBe := Lib.hid (be32_yes A n c l 12 w1 hl hok hm (by omega) hr1)
    rw [hp] at h4 hn4 HBe
    obtain ⟨P, hP⟩ := Int.eq_ofNat_of_zero_le hn4.1
    subst hP
    clear hp
    have H4 := Lib.hid h4
    clear h4
    go_upto_region 3 with (go_at_call 62; refine HBe.out.mono ?_; rintro e w2 ⟨rfl, rfl⟩)
    by_cases hg : n ≤ 16384 ∧ 56 ≤ P ∧ P ≤ n
    · obtain ⟨hg1, hg2, hg3⟩ := hg
      go_upto_region 4 with (go_at_call 63; refine (must_yes _).mono ?_; rintro e w2 ⟨rfl, rfl⟩)
      obtain ⟨bA, oA, rfl, hbA, _⟩ := hr1.2 (by omega)
      refine wp_region_noPanic ?_
      refine wp_region_held_drew (S := fun W' : World => True) (by kernel_rfl) trivial (fun hHeld => ?_)
      clear hHeld
      have f1 : (0 : Int) ≤ (P : Int) := by omega
      have f2 : (P : Int) ≤ (c : Int) := by omega
      have f3 : (P : Int).toNat = P := by omega
      have f4 : (n : Int) ≤ (c : Int) := by omega
      refine wpAnyH_take (i := 0) (v := ?va0) rfl (by kernel_rfl) (by kernel_rfl) (by kernel_rfl) (fun _ _ _ h => h) (Or.inl ⟨by kernel_rfl, ?hya0⟩) trivial ?resta0
      case hya0 =>
        intro w hSw
        clear hSw
        go_simp
        first | done | with_reducible rfl
      (try simp only [List.getElem_toArray, List.getElem_cons_succ, List.getElem_cons_zero, Act.put, List.setIfInBounds_toArray, List.set_cons_zero, List.set_cons_succ])
      refine wpAnyH_take (i := 1) (v := ?va1) rfl (by kernel_rfl) (by kernel_rfl) (by kernel_rfl) (fun _ _ _ h => h) (Or.inl ⟨by kernel_rfl, ?hya1⟩) trivial ?resta1
      case hya1 =>
        intro w hSw
        clear hSw
        go_simp
        first | done | with_reducible rfl
      (try simp only [List.getElem_toArray, List.getElem_cons_succ, List.getElem_cons_zero, Act.put, List.setIfInBounds_toArray, List.set_cons_zero, List.set_cons_succ])
      refine wpAnyH_take (i := 2) (v := ?va2) rfl (by kernel_rfl) (by kernel_rfl) (by kernel_rfl) (fun _ _ _ h => h) (Or.inl ⟨by kernel_rfl, ?hya2⟩) trivial ?resta2
      case hya2 =>
        intro w hSw
        clear hSw
        go_simp
        first | done | with_reducible rfl
      (try simp only [List.getElem_toArray, List.getElem_cons_succ, List.getElem_cons_zero, Act.put, List.setIfInBounds_toArray, List.set_cons_zero, List.set_cons_succ])
      refine wpAnyH_take (i := 3) (v := ?va3) rfl (by kernel_rfl) (by kernel_rfl) (by kernel_rfl) (fun _ _ _ h => h) (Or.inl ⟨by kernel_rfl, ?hya3⟩) trivial ?resta3
      case hya3 =>
        intro w hSw
        clear hSw
        go_simp
        first | done | with_reducible rfl
      (try simp only [List.getElem_toArray, List.getElem_cons_succ, List.getElem_cons_zero, Act.put, List.setIfInBounds_toArray, List.set_cons_zero, List.set_cons_succ])
      refine wpAnyH_take (i := 4) (v := ?va4) rfl (by kernel_rfl) (by kernel_rfl) (by kernel_rfl) (fun _ _ _ h => h) (Or.inl ⟨by kernel_rfl, ?hya4⟩) trivial ?resta4
      case hya4 =>
        intro w hSw
        clear hSw
        go_simp
        first | done | with_reducible rfl
      (try simp only [List.getElem_toArray, List.getElem_cons_succ, List.getElem_cons_zero, Act.put, List.setIfInBounds_toArray, List.set_cons_zero, List.set_cons_succ])
      refine wpAnyH_take (i := 5) (v := ?va5) rfl (by kernel_rfl) (by kernel_rfl) (by kernel_rfl) (fun _ _ _ h => h) (Or.inl ⟨by kernel_rfl, ?hya5⟩) trivial ?resta5
      case hya5 =>
        intro w hSw
        clear hSw
        go_simp
        first | done | with_reducible rfl
      (try simp only [List.getElem_toArray, List.getElem_cons_succ, List.getElem_cons_zero, Act.put, List.setIfInBounds_toArray, List.set_cons_zero, List.set_cons_succ])
      refine wpAnyH_take (i := 6) (v := ?va6) rfl (by kernel_rfl) (by kernel_rfl) (by kernel_rfl) (fun _ _ _ h => h) (Or.inl ⟨by kernel_rfl, ?hya6⟩) trivial ?resta6
      case hya6 =>
        intro w hSw
        clear hSw
        go_simp
        first | done | with_reducible rfl
      (try simp only [List.getElem_toArray, List.getElem_cons_succ, List.getElem_cons_zero, Act.put, List.setIfInBounds_toArray, List.set_cons_zero, List.set_cons_succ])
      obtain ⟨Ax, hAx⟩ : ∃ A, (if c = P then (some ⟨bA, oA, none⟩ : Option Addr) else some ⟨bA, oA + P, none⟩) = A := ⟨_, rfl⟩
      have hrb : Rd w1 w1.heap.size 1 (some ⟨bA, oA, none⟩) P ((l.take P).flatMap encB) := by
        have h1 := Rd.subB hr1 hl (a := 0) (m := P) (by omega)
        simpa [subB] using h1
      have hrx : Rd w1 w1.heap.size 1 Ax (n - P) ((l.drop P).flatMap encB) := by
        have h1 := Rd.subB hr1 hl (a := P) (m := n - P) (by omega)
        unfold subB at h1
        rw [List.take_of_length_le (by simp; omega)] at h1
        rw [← hAx]
        split
        · have h0 : n - P = 0 := by omega
          rw [List.drop_eq_nil_of_le (show l.length ≤ P by omega), h0]
          exact ⟨by simp, fun h => absurd h (by omega)⟩
        · exact h1
      refine wpAnyH_call (i := 7) (by kernel_rfl) rfl (by kernel_rfl) fun K hK => ?_
      simp only [List.getElem_toArray, List.getElem_cons_succ, List.getElem_cons_zero]
      go_simp
      have hb7 : Below w1.heap.size w1 (w1.alloc (.cells #[.slice (some ⟨bA, oA, none⟩) P c, .slice Ax (n - P) (c - P), .int .i64 56, .int .i64 200] 135)).drew := (bal (Below.refl _ _) _).drew
      have hB7 := (Blk.new w1 135 #[.slice (some ⟨bA, oA, none⟩) P c, .slice Ax (n - P) (c - P), .int .i64 56, .int .i64 200]).drew
      refine hK.out _ _ trivial ?_
      clear hK K
      (try simp only [List.getElem_toArray, List.getElem_cons_succ, List.getElem_cons_zero, Act.put, List.setIfInBounds_toArray, List.set_cons_zero, List.set_cons_succ])
      clear hAx
      have hz7 : (w1.alloc (.cells #[.slice (some ⟨bA, oA, none⟩) P c, .slice Ax (n - P) (c - P), .int .i64 56, .int .i64 200] 135)).drew.heap.size = w1.heap.size + 1 := by simp
      generalize (w1.alloc (.cells #[.slice (some ⟨bA, oA, none⟩) P c, .slice Ax (n - P) (c - P), .int .i64 56, .int .i64 200] 135)).drew = w7 at *
      refine wpAnyH_take (i := 8) (v := ?va8) rfl (by kernel_rfl) (by kernel_rfl) (by kernel_rfl) (fun _ _ _ h => h) (Or.inl ⟨by kernel_rfl, ?hya8⟩) trivial ?resta8
      case hya8 =>
        intro w hSw
        clear hSw
        go_simp
        first | done | with_reducible rfl
      (try simp only [List.getElem_toArray, List.getElem_cons_succ, List.getElem_cons_zero, Act.put, List.setIfInBounds_toArray, List.set_cons_zero, List.set_cons_succ])
      refine wpAnyH_done (by kernel_rfl) ?_ _
      refine NoPanic.normal ?_
      obtain ⟨B1, hB1⟩ : ∃ B1, w1.heap.size = B1 := ⟨_, rfl⟩
      rw [hB1] at hB7 hz7 hb7 hrb hrx
      have HB1 := Lib.hid hB1
      have hwB : w.heap.size + 2 = B1 := by rw [← hB1]; exact HZ0.out.symm
      have hwB1 : w.heap.size + 1 < B1 := by omega
      rw [hB1]
      have hbl7 : Below w.heap.size w w7 := hb0.trans (hb7.mono (by omega))
      have hR7 : Blk w7 w.heap.size 25 #[.string ⟨#[]⟩, .slice none 0 0, .slice none 0 0] := hR0.same (hb7.block _ (by omega))
      have hE7 : Blk w7 (w.heap.size + 1) 29 #[.int .i64 0] := hE0.same (hb7.block _ (by omega))
      have hRows : RdRows w7 ⟨B1, some ⟨bA, oA, none⟩, P, c, Ax, n - P, c - P⟩ (l.take P) (l.drop P) B1 := ⟨by simp; omega, by simp; omega, fun y hy => hok y (List.mem_of_mem_take hy), fun y hy => hok y (List.mem_of_mem_drop hy), by show P ≤ 20000; omega, by show n - P ≤ 20000; omega, by show P ≤ c; omega, by show n - P ≤ c - P; omega, hrb.below hb7, hrx.below hb7⟩
      have hBB : B1 ≤ w7.heap.size := by omega
      clear hb7 hrb hrx hB1 f1 f2 f3 f4 hz7 hwB
      have hof := ofOk_in H4.out (by simp only [Int.toNat_natCast]; omega)
      simp only [Int.toNat_natCast] at hof
      by_cases h60 : 60 ≤ P
      · have hl60 : 56 + 4 ≤ (l.take P).length := by rw [List.length_take]; omega
        obtain ⟨y, hy⟩ : ∃ y, numB (((l.take P).drop 56).take 4) = y := ⟨_, rfl⟩
        have hy56 := four4_yes hl60
        have HF := four_yes ⟨B1, some ⟨bA, oA, none⟩, P, c, Ax, n - P, c - P⟩ (l.take P) (l.drop P) B1 56 200 w7 hRows hB7 hBB hl60
        rw [hy] at HF hy56
        rw [hy56] at hof
        simp only [Rdr.cs] at HF
        have HF := Lib.hid HF
        clear hy hy56
        by_cases y1 : y = 1
        · subst y1
          simp only [Option.bind_some, if_true] at hof
          go_upto_region 6 with (first
            | (go_at_call 64; refine HF.out.mono ?_; rintro e w8 ⟨rfl, hB8, hn8⟩)
            | (go_at_call 63; refine (must_yes _).mono ?_; rintro e w9 ⟨rfl, rfl⟩))
          have hn8 : Near (fun i => i = B1) w7 w8 := hn8
          have hz8 := hn8.size
          have hR8 := hR7.same (hn8.block _ hR7.lt (by omega))
          have hE8 := hE7.same (hn8.block _ hE7.lt (by omega))
          have hbl8 : Below w.heap.size w w8 := hbl7.trans (hn8.below (fun i hi => by omega) hbl7.size)
          have hB8 : Blk w8 B1 135 (Rdr.cs ⟨B1, some ⟨bA, oA, none⟩, P, c, Ax, n - P, c - P⟩ 60 200) := hB8
          have HN := rnode_any 8 ⟨B1, some ⟨bA, oA, none⟩, P, c, Ax, n - P, c - P⟩ (l.take P) (l.drop P) B1 60 200 1 w8 (by decide) (by decide) (hRows.below (hn8.below (fun i hi => by omega) hBB)) hB8 (Nat.le_refl _) (by decide) (by decide)
          clear HF hRows
          rcases hnp : nodeP (l.take P) (l.drop P) 8 60 200 with _ | ⟨t, a', l'⟩
          · rw [hnp] at hof
            have HNo := Lib.hid hof
            have HN' := Lib.hid (HN.mono (R' := fun e w' => e = thrown ∧ Near (fun i => i = B1) w8 w') fun e w' h => by
              unfold RNode at h
              rw [hnp] at h
              exact h)
            clear HN hof
            go_wp2_with (go_at_call 65; refine HN'.out.mono ?_; rintro e w9 ⟨rfl, hn9⟩)
            have hz9 := hn9.size
            have hR9 := hR8.same (hn9.block _ hR8.lt (by omega))
            have hE9 := hE8.same (hn9.block _ hE8.lt (by omega))
            have hbl9 : Below w.heap.size w w9 := hbl8.trans (hn9.below (fun i hi => by omega) hbl8.size)
            refine leaves_cons (f := 61) (args := #[.pointer (some ⟨w.heap.size, 0, none⟩), .pointer (some ⟨w.heap.size + 1, 0, none⟩)]) (by simp) (by simp [go_sem]) ?_
            refine (caught _ _ _ _ _ _ _ hR9 hE9 (by omega)).mono ?_
            rintro e u' w'' ⟨rfl, rfl, hR', hE', hn'⟩
            have cR' := hR'.cell
            have cE' := hE'.cell
            refine ⟨.tuple #[.agg #[.string ⟨#[]⟩, .slice none 0 0, .slice none 0 0], .int .i64 240], by simp [results, Try.results27, go_sem, cR', cE'], ?_⟩
            refine of_no HNo.out ?_
            exact hbl9.trans (hn'.below (B := w.heap.size) (fun i hi => by omega) (hbl9).size)
          · rw [hnp] at hof
            have hof := Lib.hid hof
            have HN' := Lib.hid (HN.mono (R' := fun e w' => ∃ (sn : ByteArray) (A1 : Option Addr) (n1 c1 : Nat) (A2 : Option Addr) (n2 c2 k : Nat), e = .returned (.agg #[.string sn, .slice A1 n1 c1, .slice A2 n2 c2]) ∧ TrX w' (fun i => i < w8.heap.size) k t [.string sn, .slice A1 n1 c1, .slice A2 n2 c2] ∧ Near (fun i => i = B1) w8 w') fun e w' h => by
              unfold RNode at h
              rw [hnp] at h
              obtain ⟨sn, A1, n1, c1, A2, n2, c2, k, h1, h2, h3, h4⟩ := h
              exact ⟨sn, A1, n1, c1, A2, n2, c2, k, h1, h2, h4⟩)
            have hLt := nodeP_lens (by rw [List.length_take]; omega) (by rw [List.length_drop]; omega) _ _ _ _ _ _ hnp
            have HLt := Lib.hid hLt
            clear HN hnp hLt
            go_upto_region 7 with (go_at_call 65; refine HN'.out.mono ?_; rintro e w9 ⟨sn, A1, n1, c1, A2, n2, c2, k, rfl, hX9, hn9⟩; have hR9 := hR8.same (hn9.block _ hR8.lt (by omega)); have cR9 := hR9.cell; have fR9 := hR9.frozen)
            have hz9 := hn9.size
            have hE9 := hE8.same (hn9.block _ hE8.lt (by omega))
            have hbl9 : Below w.heap.size w w9 := hbl8.trans (hn9.below (fun i hi => by omega) hbl8.size)
            obtain ⟨hR10, hX10, hbn⟩ := named_tree (B := w.heap.size) (w := w9) (X := fun i => i < w8.heap.size) (Nat.le_refl _) hR9 (by show w.heap.size < w8.heap.size; omega) hX9 (Below.refl _ _)
            have hE10 := ((hE9.far (p := ⟨w.heap.size, 0, none⟩) (by show w.heap.size + 1 ≠ w.heap.size; omega) (.string sn)).far (p := ⟨w.heap.size, 1, none⟩) (by show w.heap.size + 1 ≠ w.heap.size; omega) (.slice A1 n1 c1)).far (p := ⟨w.heap.size, 2, none⟩) (by show w.heap.size + 1 ≠ w.heap.size; omega) (.slice A2 n2 c2)
            have hbl10 := hbl9.trans hbn
            have hz10 : (((w9.setCell ⟨w.heap.size, 0, none⟩ (.string sn)).setCell ⟨w.heap.size, 1, none⟩ (.slice A1 n1 c1)).setCell ⟨w.heap.size, 2, none⟩ (.slice A2 n2 c2)).heap.size = w9.heap.size := by simp
            have HP := put_any (max k 8) t [.string sn, .slice A1 n1 c1, .slice A2 n2 c2] _ (hX10.ok.mono (Nat.le_max_left _ _)) (HLt.out.mono (Nat.le_max_right _ _))
            clear hR9 cR9 fR9 hX9 hbn hE9 hbl9 HN'
            generalize (((w9.setCell ⟨w.heap.size, 0, none⟩ (.string sn)).setCell ⟨w.heap.size, 1, none⟩ (.slice A1 n1 c1)).setCell ⟨w.heap.size, 2, none⟩ (.slice A2 n2 c2)) = w10 at *
            obtain ⟨pb, pe, hput⟩ : ∃ pb pe, putT t = (pb, pe) := ⟨_, _, rfl⟩
            unfold PutP at HP
            rw [hput] at HP
            obtain ⟨np, hnp⟩ : ∃ m, pb.length = m := ⟨_, rfl⟩
            simp only [hnp] at HP
            have HP := Lib.hid HP
            have hof := hof.out
            simp only [Option.bind_some, hput] at hof
            have cR10 := hR10.cell
            clear hput
            by_cases he : pe = 0
            · subst he
              by_cases hs : strOfNums pb = strOfNums l
              · rw [if_pos ⟨rfl, hs⟩] at hof
                have HVal := Lib.hid hof
                have hs := Lib.hid hs
                clear hof
                go_wp2_with (first
                  | (go_at_call 15; refine HP.out.mono ?_; rintro e w11 ⟨Ap, cp, rfl, hown, hb11⟩; have s1 := conv_str (Rd.of_own hown) hnp cp; have hbl11 := hbl10.trans (hb11.mono hbl10.size); have s2 := conv_str ((hr.below hbl11).more hbl11.size) hl c; rw [hs.out] at s1; have hR11 := hR10.kept hb11; have hE11 := hE10.kept hb11; have hX11 := hX10.kept hb11; have cR11 := hR11.cell; have fR11 := hR11.frozen; have cE11 := hE11.cell; have fE11 := hE11.frozen; clear cR10)
                  | (go_at_call 63; refine (must_yes _).mono ?_; rintro e w9 ⟨rfl, rfl⟩; clear s1 s2))
                obtain ⟨hR12, hX12, hb12⟩ := named_tree (B := w.heap.size) (w := w11) (X := fun i => i < w8.heap.size) (Nat.le_refl _) hR11 (by show w.heap.size < w8.heap.size; omega) hX11 (Below.refl _ _)
                have hE12 := ((hE11.far (p := ⟨w.heap.size, 0, none⟩) (by show w.heap.size + 1 ≠ w.heap.size; omega) (.string sn)).far (p := ⟨w.heap.size, 1, none⟩) (by show w.heap.size + 1 ≠ w.heap.size; omega) (.slice A1 n1 c1)).far (p := ⟨w.heap.size, 2, none⟩) (by show w.heap.size + 1 ≠ w.heap.size; omega) (.slice A2 n2 c2)
                have hE13 := hE12.set_ 0 (.int .i64 0)
                have hR13 := hR12.far (p := ⟨w.heap.size + 1, 0, none⟩) (by show w.heap.size ≠ w.heap.size + 1; omega) (.int .i64 0)
                have hX13 := TrX.turn (Same.set_in (X := fun i => i < w8.heap.size) hE12 (by decide) (by show w.heap.size + 1 < w8.heap.size; omega) 0 (.int .i64 0)) hX12
                have hb13 := (hbl11.trans hb12).setCell (p := ⟨w.heap.size + 1, 0, none⟩) (by show w.heap.size ≤ w.heap.size + 1; omega) (.int .i64 0)
                have cR13 := hR13.cell
                have cE13 := hE13.cell
                clear cR11 fR11 cE11 fE11
                refine leaves_cons (f := 61) (args := #[.pointer (some ⟨w.heap.size, 0, none⟩), .pointer (some ⟨w.heap.size + 1, 0, none⟩)]) (by simp) (by simp [go_sem]) ?_
                refine (idle _ _ _).mono ?_
                rintro e u' w'' ⟨rfl, rfl, rfl⟩
                refine ⟨.tuple #[.agg #[.string sn, .slice A1 n1 c1, .slice A2 n2 c2], .int .i64 0], by simp [results, Try.results27, go_sem, cR13, cE13], ?_⟩
                unfold OfP
                rw [HVal.out]
                exact ⟨sn, A1, n1, c1, A2, n2, c2, k, rfl, hX13.less (fun i hi => by omega), hb13⟩
              · rw [if_neg (fun h => hs h.2)] at hof
                have HNo := Lib.hid hof
                have hs := baL hs
                clear hof
                go_wp2_with (first
                  | (go_at_call 15; refine HP.out.mono ?_; rintro e w11 ⟨Ap, cp, rfl, hown, hb11⟩; have s1 := conv_str (Rd.of_own hown) hnp cp; have hbl11 := hbl10.trans (hb11.mono hbl10.size); have s2 := conv_str ((hr.below hbl11).more hbl11.size) hl c; have hR11 := hR10.kept hb11; have hE11 := hE10.kept hb11)
                  | (go_at_call 63; refine (must_no _).mono ?_; rintro e w9 ⟨rfl, rfl⟩))
                refine leaves_cons (f := 61) (args := #[.pointer (some ⟨w.heap.size, 0, none⟩), .pointer (some ⟨w.heap.size + 1, 0, none⟩)]) (by simp) (by simp [go_sem]) ?_
                refine (caught _ _ _ _ _ _ _ hR11 hE11 (by omega)).mono ?_
                rintro e u' w'' ⟨rfl, rfl, hR', hE', hn'⟩
                have cR' := hR'.cell
                have cE' := hE'.cell
                refine ⟨.tuple #[.agg #[.string ⟨#[]⟩, .slice none 0 0, .slice none 0 0], .int .i64 240], by simp [results, Try.results27, go_sem, cR', cE'], ?_⟩
                refine of_no HNo.out ?_
                exact hbl11.trans (hn'.below (B := w.heap.size) (fun i hi => by omega) (hbl11).size)
            · rw [if_neg (fun h => he h.1)] at hof
              have HNo := Lib.hid hof
              have he0 : (pe == 0) = false := by simp [he]
              clear hof
              go_wp2_with (first
                | (go_at_call 15; refine HP.out.mono ?_; rintro e w11 ⟨Ap, cp, rfl, hown, hb11⟩; have hbl11 := hbl10.trans (hb11.mono hbl10.size); have hR11 := hR10.kept hb11; have hE11 := hE10.kept hb11)
                | (go_at_call 63; refine (must_no _).mono ?_; rintro e w9 ⟨rfl, rfl⟩))
              refine leaves_cons (f := 61) (args := #[.pointer (some ⟨w.heap.size, 0, none⟩), .pointer (some ⟨w.heap.size + 1, 0, none⟩)]) (by simp) (by simp [go_sem]) ?_
              refine (caught _ _ _ _ _ _ _ hR11 hE11 (by omega)).mono ?_
              rintro e u' w'' ⟨rfl, rfl, hR', hE', hn'⟩
              have cR' := hR'.cell
              have cE' := hE'.cell
              refine ⟨.tuple #[.agg #[.string ⟨#[]⟩, .slice none 0 0, .slice none 0 0], .int .i64 240], by simp [results, Try.results27, go_sem, cR', cE'], ?_⟩
              refine of_no HNo.out ?_
              exact hbl11.trans (hn'.below (B := w.heap.size) (fun i hi => by omega) (hbl11).size)
        · simp only [Option.bind_some, if_neg y1] at hof
          have HNo := Lib.hid hof
          have e1 : (y == 1) = false := by simp [y1]
          clear hof
          go_wp2_with (first
            | (go_at_call 64; refine HF.out.mono ?_; rintro e w8 ⟨rfl, hB8, hn8⟩)
            | (go_at_call 63; refine (must_no _).mono ?_; rintro e w9 ⟨rfl, rfl⟩))
          have hn8 : Near (fun i => i = B1) w7 w8 := hn8
          have hz8 := hn8.size
          have hR8 := hR7.same (hn8.block _ hR7.lt (by omega))
          have hE8 := hE7.same (hn8.block _ hE7.lt (by omega))
          have hbl8 : Below w.heap.size w w8 := hbl7.trans (hn8.below (fun i hi => by omega) hbl7.size)
          refine leaves_cons (f := 61) (args := #[.pointer (some ⟨w.heap.size, 0, none⟩), .pointer (some ⟨w.heap.size + 1, 0, none⟩)]) (by simp) (by simp [go_sem]) ?_
          refine (caught _ _ _ _ _ _ _ hR8 hE8 (by omega)).mono ?_
          rintro e u' w'' ⟨rfl, rfl, hR', hE', hn'⟩
          have cR' := hR'.cell
          have cE' := hE'.cell
          refine ⟨.tuple #[.agg #[.string ⟨#[]⟩, .slice none 0 0, .slice none 0 0], .int .i64 240], by simp [results, Try.results27, go_sem, cR', cE'], ?_⟩
          refine of_no HNo.out ?_
          exact hbl8.trans (hn'.below (B := w.heap.size) (fun i hi => by omega) (hbl8).size)
      · have hl60 : ¬ 56 + 4 ≤ (l.take P).length := by rw [List.length_take]; omega
        have HF := Lib.hid (four_no ⟨B1, some ⟨bA, oA, none⟩, P, c, Ax, n - P, c - P⟩ (l.take P) (l.drop P) B1 56 200 w7 hRows hB7 hBB hl60 (by decide))
        rw [four4_no hl60] at hof
        have HNo := Lib.hid hof
        clear hof hl60
        go_wp2_with (go_at_call 64; refine HF.out.mono ?_; rintro e w8 ⟨rfl, hn8⟩)
        have hn8 : Near (fun i => i = B1) w7 w8 := hn8
        have hz8 := hn8.size
        have hR8 := hR7.same (hn8.block _ hR7.lt (by omega))
        have hE8 := hE7.same (hn8.block _ hE7.lt (by omega))
        have hbl8 : Below w.heap.size w w8 := hbl7.trans (hn8.below (fun i hi => by omega) hbl7.size)
        refine leaves_cons (f := 61) (args := #[.pointer (some ⟨w.heap.size, 0, none⟩), .pointer (some ⟨w.heap.size + 1, 0, none⟩)]) (by simp) (by simp [go_sem]) ?_
        refine (caught _ _ _ _ _ _ _ hR8 hE8 (by omega)).mono ?_
        rintro e u' w'' ⟨rfl, rfl, hR', hE', hn'⟩
        have cR' := hR'.cell
        have cE' := hE'.cell
        refine ⟨.tuple #[.agg #[.string ⟨#[]⟩, .slice none 0 0, .slice none 0 0], .int .i64 240], by simp [results, Try.results27, go_sem, cR', cE'], ?_⟩
        refine of_no HNo.out ?_
        exact hbl8.trans (hn'.below (B := w.heap.size) (fun i hi => by omega) (hbl8).size)
    · have HNo := Lib.hid (ofOk_guard H4.out (by simp only [Int.toNat_natCast]; omega))
      by_cases g1 : n ≤ 16384
      · by_cases g2 : 56 ≤ P
        · have g3 : ¬ P ≤ n := fun h => hg ⟨g1, g2, h⟩
          go_wp2_with (go_at_call 63; refine (must_no _).mono ?_; rintro e w2 ⟨rfl, rfl⟩)
          refine leaves_cons (f := 61) (args := #[.pointer (some ⟨w.heap.size, 0, none⟩), .pointer (some ⟨w.heap.size + 1, 0, none⟩)]) (by simp) (by simp [go_sem]) ?_
          refine (caught _ _ _ _ _ _ _ hR0 hE0 (by omega)).mono ?_
          rintro e u' w'' ⟨rfl, rfl, hR', hE', hn'⟩
          have cR' := hR'.cell
          have cE' := hE'.cell
          refine ⟨.tuple #[.agg #[.string ⟨#[]⟩, .slice none 0 0, .slice none 0 0], .int .i64 240], by simp [results, Try.results27, go_sem, cR', cE'], ?_⟩
          refine of_no HNo.out ?_
          exact hb0.trans (hn'.below (B := w.heap.size) (fun i hi => by omega) (hb0).size)
        · go_wp2_with (go_at_call 63; refine (must_no _).mono ?_; rintro e w2 ⟨rfl, rfl⟩)
          refine leaves_cons (f := 61) (args := #[.pointer (some ⟨w.heap.size, 0, none⟩), .pointer (some ⟨w.heap.size + 1, 0, none⟩)]) (by simp) (by simp [go_sem]) ?_
          refine (caught _ _ _ _ _ _ _ hR0 hE0 (by omega)).mono ?_
          rintro e u' w'' ⟨rfl, rfl, hR', hE', hn'⟩
          have cR' := hR'.cell
          have cE' := hE'.cell
          refine ⟨.tuple #[.agg #[.string ⟨#[]⟩, .slice none 0 0, .slice none 0 0], .int .i64 240], by simp [results, Try.results27, go_sem, cR', cE'], ?_⟩
          refine of_no HNo.out ?_
          exact hb0.trans (hn'.below (B := w.heap.size) (fun i hi => by omega) (hb0).size)
      · go_wp2_with (go_at_call 63; refine (must_no _).mono ?_; rintro e w2 ⟨rfl, rfl⟩)
        refine leaves_cons (f := 61) (args := #[.pointer (some ⟨w.heap.size, 0, none⟩), .pointer (some ⟨w.heap.size + 1, 0, none⟩)]) (by simp) (by simp [go_sem]) ?_
        refine (caught _ _ _ _ _ _ _ hR0 hE0 (by omega)).mono ?_
        rintro e u' w'' ⟨rfl, rfl, hR', hE', hn'⟩
        have cR' := hR'.cell
        have cE' := hE'.cell
        refine ⟨.tuple #[.agg #[.string ⟨#[]⟩, .slice none 0 0, .slice none 0 0], .int .i64 240], by simp [results, Try.results27, go_sem, cR', cE'], ?_⟩
        refine of_no HNo.out ?_
        exact hb0.trans (hn'.below (B := w.heap.size) (fun i hi => by omega) (hb0).size)
  · have HNo := Lib.hid (ofOk_short (bs := l) (by omega))
    have HBe := Lib.hid (be32_no A n c 12 w1 hm (by omega))
    go_wp2_with (first
      | (go_at_call 62; refine HBe.out.mono ?_; rintro e w2 ⟨rfl, rfl⟩)
      | (go_at_call 63; refine (must_no _).mono ?_; rintro e w2 ⟨rfl, rfl⟩))
    refine leaves_cons (f := 61) (args := #[.pointer (some ⟨w.heap.size, 0, none⟩), .pointer (some ⟨w.heap.size + 1, 0, none⟩)]) (by simp) (by simp [go_sem]) ?_
    refine (caught _ _ _ _ _ _ _ hR0 hE0 (by omega)).mono ?_
    rintro e u' w'' ⟨rfl, rfl, hR', hE', hn'⟩
    have cR' := hR'.cell
    have cE' := hE'.cell
    refine ⟨.tuple #[.agg #[.string ⟨#[]⟩, .slice none 0 0, .slice none 0 0], .int .i64 240], by simp [results, Try.results27, go_sem, cR', cE'], ?_⟩
    refine of_no HNo.out ?_
    exact hb0.trans (hn'.below (B := w.heap.size) (fun i hi => by omega) (hb0).size)
end Go.Proofs.Ytnkpaockginooaa
