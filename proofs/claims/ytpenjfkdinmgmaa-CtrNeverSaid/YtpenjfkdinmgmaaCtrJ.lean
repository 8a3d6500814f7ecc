/- Chapter 13: Bump: the program's, walked. -/
import Derived.Test.YtpenjfkdinmgmaaCtrI
namespace Go.Proofs.Ytpenjfkdinmgmaa
set_option linter.unusedVariables false
set_option linter.unusedSimpArgs false
open Go.RowKit Go.Sort

theorem stepsN_at (id a q v : Int) : ∀ p ∈ stepsN id a q v, 0 ≤ p.1 ∧ p.1 ≤ 3 := by
  unfold stepsN tail4
  split <;> simp
set_option maxRecDepth 100000 in
set_option maxHeartbeats 4000000 in
theorem bump_go (g : Nat) (base : Nat → Prop) (s : Stt) (k at_ o : Nat) (q x v : Int) (w : World) (h : Sto w base g s) (hu : U32s s.ws) (hl : s.ws.length ≤ 100000) (hbd : ∀ i, base i → i < w.heap.size) (hk0 : 0 ≤ s.k) (hk1 : s.k < 900000)
    (hk : k < s.ws.length / 8) (hR : recN s.ws k = ⟨0, at_, q, x⟩) (ho : at_ + o = 1) (hq0 : 0 ≤ q) (hq1 : q < 4294967295) (hv0 : 0 ≤ v) (hv1 : v < 4294967296) (hxv : ¬ v ≤ x) (hvm : ¬ v = 4294967295) :
    Calls Try.prog 11 #[.pointer (some ⟨g, 0, none⟩), .int .i64 k, .int .u32 v] w fun e w' =>
      e = .returned (.int .i64 (bumpK (8 * k + 4 * o : Nat) (stepsN k (s.ws.getD (8 * k + 4 * o) 0) (q + 1) v) s).1) ∧ Sto w' base g (bumpK (8 * k + 4 * o : Nat) (stepsN k (s.ws.getD (8 * k + 4 * o) 0) (q + 1) v) s).2 ∧ Near base w w' := by
  have HN := Lib.hid (fun W (hW : Below w.heap.size w W) => now_any g base s k W (h.kept hW) hu hl)
  rw [hR] at HN
  unfold Rr.cs2 at HN
  simp only at HN
  have HSt := Lib.hid (fun W (hW : Below w.heap.size w W) => h.kept hW)
  have HSl := Lib.hid (fun W (hW : Below w.heap.size w W) => slot_any g base s k o W (h.kept hW) (by omega) (by omega) (by omega))
  have HBs := Lib.hid (fun W => base_any (.pointer (some ⟨g, 0, none⟩)) k o (by omega) (by omega) rfl W)
  obtain ⟨y, hy⟩ : ∃ y, slW s.ws (8 * k + 4 * o) = y := ⟨_, rfl⟩
  have hya : s.ws.getD (8 * k + 4 * o) 0 = y.a := by rw [← hy]; rfl
  rw [hy] at HSl
  rw [hya]
  obtain ⟨ya, yb, yc, yd⟩ := y
  unfold W4.arr at HSl
  simp only at HSl ⊢
  have HStp := Lib.hid (fun W => steps_any k ya yb yc yd (q + 1) v (by omega) (by omega) hv0 hv1 W)
  have HAt := Lib.hid (stepsN_at k ya (q + 1) v)
  have HLn := Lib.hid (stepsN_len k ya (q + 1) v)
  generalize stepsN k ya (q + 1) v = l at *
  have hoi : (1 : Int) - (at_ : Int) = (o : Int) := by omega
  have hoo : (o : Int) ≤ 1 := by omega
  have HBd := Lib.hid hbd
  have hB : 8 * k + 4 * o ≤ 1000000 := by omega
  generalize 8 * k + 4 * o = B at *
  have hq2 : IntKind.u32.wrap (q + 1) = q + 1 := by rw [IntWalk.u32_in _ (by omega)]
  clear h hu hy hya hR hk ho hbd
  go_enter Try.func11, Try.ntmps11
  go_upto_region 10 with (go_at_call 27; refine (HN.out _ (bal (Below.refl _ _) _)).mono ?_; rintro e w1 ⟨rfl, hb1⟩)
  have hz1 := hb1.size
  refine wp_name ?_
  intro w3 hw3
  have hb3 : RowKit.Below w.heap.size w w3 := by rw [hw3]; exact bal' ((bal (Below.refl w.heap.size w) _).trans (hb1.mono (by simp))) _ (by simp at hz1; omega)
  have hA : Blk w3 w.heap.size 69 #[.pointer (some ⟨g, 0, none⟩), .int .i64 k] := by rw [hw3]; exact ((Blk.new w _ _).kept hb1).alloc _
  have hC : Blk w3 w1.heap.size 43 #[.int .u32 q, .int .u32 x] := by rw [hw3]; exact Blk.new _ _ _
  have hcg : w.heap.size < w1.heap.size := by simp at hz1; omega
  clear hw3 hb1 hz1 HN
  generalize w1.heap.size = c at *
  have hS1 : (fun W' : World => (∀ i, W'.cell? ⟨w.heap.size, i, none⟩ = (#[.pointer (some ⟨g, 0, none⟩), .int .i64 k] : Array Value)[i]?) ∧ (∀ i, W'.cell? ⟨c, i, none⟩ = (#[.int .u32 q, .int .u32 x] : Array Value)[i]?)) w3.drew := ⟨hA.drew.cell, hC.drew.cell⟩
  refine wp_region_held_drew (S := fun W' : World => (∀ i, W'.cell? ⟨w.heap.size, i, none⟩ = (#[.pointer (some ⟨g, 0, none⟩), .int .i64 k] : Array Value)[i]?) ∧ (∀ i, W'.cell? ⟨c, i, none⟩ = (#[.int .u32 q, .int .u32 x] : Array Value)[i]?)) (by kernel_rfl) hS1 (fun hHeld => ?_)
  clear hHeld
  refine wpAnyH_take (i := 0) (v := ?va0) rfl (by kernel_rfl) (by kernel_rfl) (by kernel_rfl) (fun _ _ _ h => h) (Or.inl ⟨by kernel_rfl, ?hya0⟩) hS1 ?resta0
  case hya0 =>
    intro w hSw
    clear hSw
    go_simp
    first | done | with_reducible rfl
  (try simp only [List.getElem_toArray, List.getElem_cons_succ, List.getElem_cons_zero, Act.put, List.setIfInBounds_toArray, List.set_cons_zero, List.set_cons_succ])
  refine wpAnyH_take (i := 1) (v := ?va1) rfl (by kernel_rfl) (by kernel_rfl) (by kernel_rfl) (fun _ _ _ h => h) (Or.inl ⟨by kernel_rfl, ?hya1⟩) hS1 ?resta1
  case hya1 =>
    intro w hSw
    obtain ⟨hSa, hSb⟩ := hSw
    go_simp
    first | done | with_reducible rfl
  (try simp only [List.getElem_toArray, List.getElem_cons_succ, List.getElem_cons_zero, Act.put, List.setIfInBounds_toArray, List.set_cons_zero, List.set_cons_succ])
  refine wpAnyH_take (i := 2) (v := ?va2) rfl (by kernel_rfl) (by kernel_rfl) (by kernel_rfl) (fun _ _ _ h => h) (Or.inl ⟨by kernel_rfl, ?hya2⟩) hS1 ?resta2
  case hya2 =>
    intro w hSw
    clear hSw
    go_simp
    first | done | with_reducible rfl
  (try simp only [List.getElem_toArray, List.getElem_cons_succ, List.getElem_cons_zero, Act.put, List.setIfInBounds_toArray, List.set_cons_zero, List.set_cons_succ])
  refine wpAnyH_take (i := 4) (v := ?va4) rfl (by kernel_rfl) (by kernel_rfl) (by kernel_rfl) (fun _ _ _ h => h) (Or.inl ⟨by kernel_rfl, ?hya4⟩) hS1 ?resta4
  case hya4 =>
    intro w hSw
    clear hSw
    go_simp
    first | done | with_reducible rfl
  (try simp only [List.getElem_toArray, List.getElem_cons_succ, List.getElem_cons_zero, Act.put, List.setIfInBounds_toArray, List.set_cons_zero, List.set_cons_succ])
  refine wpAnyH_take (i := 5) (v := ?va5) rfl (by kernel_rfl) (by kernel_rfl) (by kernel_rfl) (fun _ _ _ h => h) (Or.inl ⟨by kernel_rfl, ?hya5⟩) hS1 ?resta5
  case hya5 =>
    intro w hSw
    obtain ⟨hSa, hSb⟩ := hSw
    go_simp
    first | done | with_reducible rfl
  (try simp only [List.getElem_toArray, List.getElem_cons_succ, List.getElem_cons_zero, Act.put, List.setIfInBounds_toArray, List.set_cons_zero, List.set_cons_succ])
  refine wpAnyH_take (i := 6) (v := ?va6) rfl (by kernel_rfl) (by kernel_rfl) (by kernel_rfl) (fun _ _ _ h => h) (Or.inl ⟨by kernel_rfl, ?hya6⟩) hS1 ?resta6
  case hya6 =>
    intro w hSw
    clear hSw
    go_simp
    first | done | with_reducible rfl
  (try simp only [List.getElem_toArray, List.getElem_cons_succ, List.getElem_cons_zero, Act.put, List.setIfInBounds_toArray, List.set_cons_zero, List.set_cons_succ])
  refine wpAnyH_take (i := 7) (v := ?va7) rfl (by kernel_rfl) (by kernel_rfl) (by kernel_rfl) (fun _ _ _ h => h) (Or.inl ⟨by kernel_rfl, ?hya7⟩) hS1 ?resta7
  case hya7 =>
    intro w hSw
    clear hSw
    go_simp
    first | done | with_reducible rfl
  (try simp only [List.getElem_toArray, List.getElem_cons_succ, List.getElem_cons_zero, Act.put, List.setIfInBounds_toArray, List.set_cons_zero, List.set_cons_succ])
  refine wpAnyH_take (i := 8) (v := ?va8) rfl (by kernel_rfl) (by kernel_rfl) (by kernel_rfl) (fun _ _ _ h => h) (Or.inl ⟨by kernel_rfl, ?hya8⟩) hS1 ?resta8
  case hya8 =>
    intro w hSw
    clear hSw
    go_simp
    first | done | with_reducible rfl
  (try simp only [List.getElem_toArray, List.getElem_cons_succ, List.getElem_cons_zero, Act.put, List.setIfInBounds_toArray, List.set_cons_zero, List.set_cons_succ])
  refine wpAnyH_take (i := 11) (v := ?va11) rfl (by kernel_rfl) (by kernel_rfl) (by kernel_rfl) (fun _ _ _ h => h) (Or.inl ⟨by kernel_rfl, ?hya11⟩) hS1 ?resta11
  case hya11 =>
    intro w hSw
    clear hSw
    go_simp
    first | done | with_reducible rfl
  (try simp only [List.getElem_toArray, List.getElem_cons_succ, List.getElem_cons_zero, Act.put, List.setIfInBounds_toArray, List.set_cons_zero, List.set_cons_succ])
  refine wpAnyH_call (i := 3) (by kernel_rfl) rfl (by kernel_rfl) fun K hK => ?_
  simp only [List.getElem_toArray, List.getElem_cons_succ, List.getElem_cons_zero]
  go_simp
  go_at_call 29
  refine (HSl.out _ hb3.drew).mono ?_
  rintro e w4 ⟨rfl, hb4⟩
  have hA4 := hA.drew.kept hb4
  have hC4 := hC.drew.kept hb4
  have hb5 := hb3.drew.trans (hb4.mono hb3.drew.size)
  have hS2 : (fun W' : World => (∀ i, W'.cell? ⟨w.heap.size, i, none⟩ = (#[.pointer (some ⟨g, 0, none⟩), .int .i64 k] : Array Value)[i]?) ∧ (∀ i, W'.cell? ⟨c, i, none⟩ = (#[.int .u32 q, .int .u32 x] : Array Value)[i]?)) w4 := ⟨hA4.cell, hC4.cell⟩
  refine hK.out _ _ hS2 ?_
  clear hK K
  (try simp only [List.getElem_toArray, List.getElem_cons_succ, List.getElem_cons_zero, Act.put, List.setIfInBounds_toArray, List.set_cons_zero, List.set_cons_succ])
  refine wpAnyH_call (i := 9) (by kernel_rfl) rfl (by kernel_rfl) fun K hK => ?_
  simp only [List.getElem_toArray, List.getElem_cons_succ, List.getElem_cons_zero]
  go_simp
  go_at_call 28
  refine (HStp.out _).mono ?_
  rintro e w5 ⟨Ar, cr, rfl, hrow, hb6⟩
  have hA5 := hA4.kept hb6
  have hC5 := hC4.kept hb6
  have hb7 := hb5.trans (hb6.mono hb5.size)
  have hz4 := hb5.size
  have hS3 : (fun W' : World => (∀ i, W'.cell? ⟨w.heap.size, i, none⟩ = (#[.pointer (some ⟨g, 0, none⟩), .int .i64 k] : Array Value)[i]?) ∧ (∀ i, W'.cell? ⟨c, i, none⟩ = (#[.int .u32 q, .int .u32 x] : Array Value)[i]?)) w5 := ⟨hA5.cell, hC5.cell⟩
  refine hK.out _ _ hS3 ?_
  clear hK K
  (try simp only [List.getElem_toArray, List.getElem_cons_succ, List.getElem_cons_zero, Act.put, List.setIfInBounds_toArray, List.set_cons_zero, List.set_cons_succ])
  refine wpAnyH_call (i := 10) (by kernel_rfl) rfl (by kernel_rfl) fun K hK => ?_
  simp only [List.getElem_toArray, List.getElem_cons_succ, List.getElem_cons_zero]
  go_simp
  refine hK.out _ _ hS3 ?_
  clear hK K
  (try simp only [List.getElem_toArray, List.getElem_cons_succ, List.getElem_cons_zero, Act.put, List.setIfInBounds_toArray, List.set_cons_zero, List.set_cons_succ])
  refine wpAnyH_done (by kernel_rfl) ?_ _
  have hS := HSt.out w5 hb7
  have HRow := Lib.hid (fun W (hW : Near base w5 W) => own_same hrow fun i hi => hW.block i (own_lt hrow hi).2 (fun hb => by have := HBd.out i hb; have := (own_lt hrow hi).1; omega))
  have hA5z := hA5.lt
  have HA := Lib.hid (fun W (hW : Near base w5 W) => hA5.same (hW.block _ hA5z (fun hb => by have := HBd.out _ hb; omega)))
  clear hS1 hS2 hS3 hA4 hC4 hA5 hC5 hA hC hb3 hb4 hb5 hb6 HSl HStp hrow
  have hn5 := Near.of_below base hb7
  have hln := HLn.out
  go_wp2
  go_loopw [13, 14, 49] (fun _ _ i wr => ∃ j : Nat, j ≤ l.length ∧ i = .int .i64 j ∧ ∃ s' : Stt, Hid (bumpK B l s = bumpK B (l.drop j) s') ∧ 0 ≤ s'.k ∧ s'.k ≤ s.k + j ∧ Sto wr base g s' ∧ Near base w5 wr) (fun _ _ i _ => l.length - (intOf i).toNat)
  case atStart => exact ⟨0, by omega, rfl, s, rfl, hk0, by simp, hS, Near.refl _ _⟩
  case round =>
    obtain ⟨j, hj, rfl, s', hK, hk0', hk1', hs', hn⟩ := hrel
    clear hS
    by_cases hlt : j < l.length
    · obtain ⟨b1, o1, rfl, hb1, hc1⟩ := (Rd.of_own (HRow.out wr hn)).row (fun _ => rfl) hlt rfl
      have d0 := hc1 0 (by omega)
      have d1 := hc1 1 (by omega)
      have hdr : l.drop j = l[j] :: l.drop (j + 1) := List.drop_eq_getElem_cons hlt
      have hpa := HAt.out _ (List.getElem_mem hlt)
      simp only [encP, Nat.add_zero, List.getElem?_cons_zero, List.getElem?_cons_succ] at d0 d1
      rw [hdr] at hK
      generalize l[j] = p at *
      obtain ⟨pa, pw⟩ := p
      simp only at d0 d1 hpa
      have HW := Lib.hid (fun W (hW : Below wr.heap.size wr W) => write_any g base s' (B + pa) pw W (hs'.kept hW) hk0' (by omega))
      have hp1 : IntKind.i64.wrap ((B : Int) + pa) = (B : Int) + pa := by rw [IntWalk.i64_in _ (by omega)]
      have HOk := Lib.hid (fun h => hK.trans (bumpK_cons_ok (p := (pa, pw)) h))
      have HBad := Lib.hid (fun h => hK.trans (bumpK_cons_bad (p := (pa, pw)) h))
      have HKk := Lib.hid (writeN_k s' (B + pa) pw)
      obtain ⟨r, hr⟩ : ∃ r, writeN s' (B + pa) pw = r := ⟨_, rfl⟩
      rw [hr] at HW HKk
      simp only [hr] at HOk HBad
      obtain ⟨er, s2⟩ := r
      simp only at HW HOk HBad HKk
      have hAr := HA.out wr hn
      have hzw := hn.size
      clear hc1 hdr hr hK hs'
      go_upto_region 13 with (fail)
      have hA1 := hAr.alloc (.cells #[.int .i64 pa, .int .u32 pw] 76)
      have hP1 := Blk.new wr 76 #[.int .i64 pa, .int .u32 pw]
      have hx1 := bal (Below.refl wr.heap.size wr) (.cells #[.int .i64 pa, .int .u32 pw] 76)
      have hA1z := hA1.lt
      generalize wr.alloc (.cells #[.int .i64 pa, .int .u32 pw] 76) = w6 at *
      have hS1 : (fun W' : World => (∀ i, W'.cell? ⟨w.heap.size, i, none⟩ = (#[.pointer (some ⟨g, 0, none⟩), .int .i64 k] : Array Value)[i]?) ∧ (∀ i, W'.cell? ⟨wr.heap.size, i, none⟩ = (#[.int .i64 pa, .int .u32 pw] : Array Value)[i]?)) w6.drew := ⟨hA1.drew.cell, hP1.drew.cell⟩
      refine wp_region_held_drew (S := fun W' : World => (∀ i, W'.cell? ⟨w.heap.size, i, none⟩ = (#[.pointer (some ⟨g, 0, none⟩), .int .i64 k] : Array Value)[i]?) ∧ (∀ i, W'.cell? ⟨wr.heap.size, i, none⟩ = (#[.int .i64 pa, .int .u32 pw] : Array Value)[i]?)) (by kernel_rfl) hS1 (fun hHeld => ?_)
      clear hHeld
      refine wpAnyH_take (i := 0) (v := ?vb0) rfl (by kernel_rfl) (by kernel_rfl) (by kernel_rfl) (fun _ _ _ h => h) (Or.inl ⟨by kernel_rfl, ?hyb0⟩) hS1 ?restb0
      case hyb0 =>
        intro w hSw
        clear hSw
        go_simp
        first | done | with_reducible rfl
      (try simp only [List.getElem_toArray, List.getElem_cons_succ, List.getElem_cons_zero, Act.put, List.setIfInBounds_toArray, List.set_cons_zero, List.set_cons_succ])
      refine wpAnyH_take (i := 1) (v := ?vb1) rfl (by kernel_rfl) (by kernel_rfl) (by kernel_rfl) (fun _ _ _ h => h) (Or.inl ⟨by kernel_rfl, ?hyb1⟩) hS1 ?restb1
      case hyb1 =>
        intro w hSw
        obtain ⟨hSa, hSb⟩ := hSw
        go_simp
        first | done | with_reducible rfl
      (try simp only [List.getElem_toArray, List.getElem_cons_succ, List.getElem_cons_zero, Act.put, List.setIfInBounds_toArray, List.set_cons_zero, List.set_cons_succ])
      refine wpAnyH_take (i := 2) (v := ?vb2) rfl (by kernel_rfl) (by kernel_rfl) (by kernel_rfl) (fun _ _ _ h => h) (Or.inl ⟨by kernel_rfl, ?hyb2⟩) hS1 ?restb2
      case hyb2 =>
        intro w hSw
        obtain ⟨hSa, hSb⟩ := hSw
        go_simp
        first | done | with_reducible rfl
      (try simp only [List.getElem_toArray, List.getElem_cons_succ, List.getElem_cons_zero, Act.put, List.setIfInBounds_toArray, List.set_cons_zero, List.set_cons_succ])
      refine wpAnyH_take (i := 3) (v := ?vb3) rfl (by kernel_rfl) (by kernel_rfl) (by kernel_rfl) (fun _ _ _ h => h) (Or.inl ⟨by kernel_rfl, ?hyb3⟩) hS1 ?restb3
      case hyb3 =>
        intro w hSw
        clear hSw
        go_simp
        first | done | with_reducible rfl
      (try simp only [List.getElem_toArray, List.getElem_cons_succ, List.getElem_cons_zero, Act.put, List.setIfInBounds_toArray, List.set_cons_zero, List.set_cons_succ])
      refine wpAnyH_take (i := 5) (v := ?vb5) rfl (by kernel_rfl) (by kernel_rfl) (by kernel_rfl) (fun _ _ _ h => h) (Or.inl ⟨by kernel_rfl, ?hyb5⟩) hS1 ?restb5
      case hyb5 =>
        intro w hSw
        clear hSw
        go_simp
        first | done | with_reducible rfl
      (try simp only [List.getElem_toArray, List.getElem_cons_succ, List.getElem_cons_zero, Act.put, List.setIfInBounds_toArray, List.set_cons_zero, List.set_cons_succ])
      refine wpAnyH_take (i := 6) (v := ?vb6) rfl (by kernel_rfl) (by kernel_rfl) (by kernel_rfl) (fun _ _ _ h => h) (Or.inl ⟨by kernel_rfl, ?hyb6⟩) hS1 ?restb6
      case hyb6 =>
        intro w hSw
        obtain ⟨hSa, hSb⟩ := hSw
        go_simp
        first | done | with_reducible rfl
      (try simp only [List.getElem_toArray, List.getElem_cons_succ, List.getElem_cons_zero, Act.put, List.setIfInBounds_toArray, List.set_cons_zero, List.set_cons_succ])
      refine wpAnyH_take (i := 8) (v := ?vb8) rfl (by kernel_rfl) (by kernel_rfl) (by kernel_rfl) (fun _ _ _ h => h) (Or.inl ⟨by kernel_rfl, ?hyb8⟩) hS1 ?restb8
      case hyb8 =>
        intro w hSw
        clear hSw
        go_simp
        first | done | with_reducible rfl
      (try simp only [List.getElem_toArray, List.getElem_cons_succ, List.getElem_cons_zero, Act.put, List.setIfInBounds_toArray, List.set_cons_zero, List.set_cons_succ])
      refine wpAnyH_take (i := 9) (v := ?vb9) rfl (by kernel_rfl) (by kernel_rfl) (by kernel_rfl) (fun _ _ _ h => h) (Or.inl ⟨by kernel_rfl, ?hyb9⟩) hS1 ?restb9
      case hyb9 =>
        intro w hSw
        obtain ⟨hSa, hSb⟩ := hSw
        go_simp
        first | done | with_reducible rfl
      (try simp only [List.getElem_toArray, List.getElem_cons_succ, List.getElem_cons_zero, Act.put, List.setIfInBounds_toArray, List.set_cons_zero, List.set_cons_succ])
      refine wpAnyH_call (i := 4) (by kernel_rfl) rfl (by kernel_rfl) fun K hK => ?_
      simp only [List.getElem_toArray, List.getElem_cons_succ, List.getElem_cons_zero]
      go_simp
      go_at_call 31
      refine (HBs.out _).mono ?_
      rintro e w7 ⟨rfl, hx2⟩
      have hA2 := hA1.drew.kept hx2
      have hP2 := hP1.drew.kept hx2
      have hx3 := hx1.drew.trans (hx2.mono hx1.drew.size)
      have hS2 : (fun W' : World => (∀ i, W'.cell? ⟨w.heap.size, i, none⟩ = (#[.pointer (some ⟨g, 0, none⟩), .int .i64 k] : Array Value)[i]?) ∧ (∀ i, W'.cell? ⟨wr.heap.size, i, none⟩ = (#[.int .i64 pa, .int .u32 pw] : Array Value)[i]?)) w7 := ⟨hA2.cell, hP2.cell⟩
      refine hK.out _ _ hS2 ?_
      clear hK K
      (try simp only [List.getElem_toArray, List.getElem_cons_succ, List.getElem_cons_zero, Act.put, List.setIfInBounds_toArray, List.set_cons_zero, List.set_cons_succ])
      refine wpAnyH_take (i := 7) (v := ?vb7) rfl (by kernel_rfl) (by kernel_rfl) (by kernel_rfl) (fun _ _ _ h => h) (Or.inl ⟨by kernel_rfl, ?hyb7⟩) hS2 ?restb7
      case hyb7 =>
        intro w hSw
        clear hSw
        go_simp
        first | done | with_reducible rfl
      (try simp only [List.getElem_toArray, List.getElem_cons_succ, List.getElem_cons_zero, Act.put, List.setIfInBounds_toArray, List.set_cons_zero, List.set_cons_succ])
      refine wpAnyH_call (i := 10) (by kernel_rfl) rfl (by kernel_rfl) fun K hK => ?_
      simp only [List.getElem_toArray, List.getElem_cons_succ, List.getElem_cons_zero]
      go_simp
      go_at_call 30
      refine (HW.out _ hx3).mono ?_
      rintro e w8 ⟨rfl, hs8, hn8⟩
      have hA3 := hA2.same (hn8.block _ hA2.lt (fun hb => by have := HBd.out _ hb; omega))
      have hP3 := hP2.same (hn8.block _ hP2.lt (fun hb => by have := HBd.out _ hb; have := hb7.size; omega))
      have hn9 := hn.trans ((Near.of_below base hx3).trans hn8)
      have hS3 : (fun W' : World => (∀ i, W'.cell? ⟨w.heap.size, i, none⟩ = (#[.pointer (some ⟨g, 0, none⟩), .int .i64 k] : Array Value)[i]?) ∧ (∀ i, W'.cell? ⟨wr.heap.size, i, none⟩ = (#[.int .i64 pa, .int .u32 pw] : Array Value)[i]?)) w8 := ⟨hA3.cell, hP3.cell⟩
      refine hK.out _ _ hS3 ?_
      clear hK K
      (try simp only [List.getElem_toArray, List.getElem_cons_succ, List.getElem_cons_zero, Act.put, List.setIfInBounds_toArray, List.set_cons_zero, List.set_cons_succ])
      refine wpAnyH_take (i := 11) (v := ?vb11) rfl (by kernel_rfl) (by kernel_rfl) (by kernel_rfl) (fun _ _ _ h => h) (Or.inl ⟨by kernel_rfl, ?hyb11⟩) hS3 ?restb11
      case hyb11 =>
        intro w hSw
        clear hSw
        go_simp
        first | done | with_reducible rfl
      (try simp only [List.getElem_toArray, List.getElem_cons_succ, List.getElem_cons_zero, Act.put, List.setIfInBounds_toArray, List.set_cons_zero, List.set_cons_succ])
      refine wpAnyH_done (by kernel_rfl) ?_ _
      clear hS1 hS2 hS3 hA1 hA2 hA3 hP1 hP2 hP3 hx1 hx2 hx3 hn8 HW hAr d0 d1
      by_cases he : er = 0
      · subst he
        have HK2 := Lib.hid (HOk.out rfl)
        clear HOk HBad
        go_wp2
        go_roundw
        case rel => exact ⟨j + 1, by omega, by go_num, s2, HK2.out, by have := HKk.out; omega, by have := HKk.out; omega, hs8, hn9⟩
        case measure => simp [intOf]; omega
      · have HK2 := Lib.hid (HBad.out he)
        have he' : (er != 0) = true := by rw [bne_iff_ne]; exact he
        clear HOk HBad
        go_wp2
        go_ret
        rw [HK2.out]
        exact ⟨rfl, hs8, hn5.trans hn9⟩
    · obtain rfl : j = l.length := by omega
      have HK2 := Lib.hid (hK.out.trans (show bumpK B (l.drop l.length) s' = (0, s') by rw [List.drop_length]; rfl))
      clear hK
      go_wp2
      go_ret
      rw [HK2.out]
      exact ⟨rfl, hs', hn5.trans hn⟩
end Go.Proofs.Ytpenjfkdinmgmaa
