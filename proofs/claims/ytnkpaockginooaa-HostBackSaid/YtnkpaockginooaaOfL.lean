/- A board is read again from its tree and from its bytes: the law HostBack walked. -/
import Derived.Test.YtnkpaockginooaaOfK
import Derived.Test.YtnkpaockginooaaOfH
import Derived.Test.YtnkpaockginooaaOfJ
namespace Go.Proofs.Ytnkpaockginooaa
set_option linter.unusedVariables false
set_option linter.unusedSimpArgs false
open Go.RowKit Go.Sort
theorem fit_few {x : Bd} (h : fitB x = true) : x.cpus.toNat ≤ 32 := by
  unfold fitB at h
  simp only [Bool.and_eq_true] at h
  have := h.2
  unfold inB at this
  simp only [Bool.and_eq_true, decide_eq_true_eq] at this
  omega
theorem ok_flat (s : Nat) (l : List Int) : BytesOk (l.flatMap (bytesN s false)) := fun x hx => by
  obtain ⟨y, hy, h⟩ := List.mem_flatMap.1 hx
  exact bytesN_ok s false y x h
theorem host_bok (x : Bd) : BokF 3 (hostT x) := by
  have hS : ∀ l b s, BokF 2 (stretchT l b s) := fun l b s => ⟨fun p hp => by
    have hp : p ∈ [regP b s] := hp
    rw [List.mem_singleton] at hp
    subst hp
    exact ok_flat 8 _, fun k hk => by cases hk⟩
  refine ⟨fun p hp => ?_, fun k hk => ?_⟩
  · have hp : p ∈ [hcompP, irqsP x.irqs, strsP x.strs] := hp
    simp only [List.mem_cons, List.not_mem_nil, or_false] at hp
    rcases hp with rfl | rfl | rfl
    · exact ok_app (strB_ok _) (ok_zeros 1)
    · exact ok_flat 4 _
    · exact ok_flat 4 _
  · have hk : k ∈ [cpusT x.cpus.toNat, stretchT [109, 101, 109, 111, 114, 121] x.rb x.rs, stretchT [108, 111, 97, 100, 101, 114] x.lb x.ls] := hk
    simp only [List.mem_cons, List.not_mem_nil, or_false] at hk
    rcases hk with rfl | rfl | rfl
    · refine ⟨(fun p hp => by cases hp), fun k hk => ?_⟩
      have hk : k ∈ (List.range x.cpus.toNat).map cpuT := hk
      obtain ⟨i, _, rfl⟩ := List.mem_map.1 hk
      refine ⟨fun p hp => ?_, fun k hk => by cases hk⟩
      have hp : p ∈ [((⟨#[114, 101, 103]⟩, [(i : Int)].flatMap (bytesN 4 false)) : Pr)] := hp
      rw [List.mem_singleton] at hp
      subst hp
      exact ok_flat 4 _
    · exact hS _ _ _
    · exact hS _ _ _
theorem cap_own {w : World} {base n c : Nat} {e : TypeId} {size : Nat} {A : Option Addr} {xs : List Value} (h : w.ownsRow base e size (.slice A n c) n xs) : n ≤ c := by
  obtain ⟨A', c', e', hc, _⟩ := own_slice h
  simp only [Value.slice.injEq] at e'
  omega
set_option maxRecDepth 100000 in
set_option maxHeartbeats 4000000 in
theorem hostBack_any (x : Bd) (hx : BdOk x) (w : World) : Calls Try.prog 11 #[.agg (encBd x).toArray] w fun e w' => e = .returned (.bool true) ∧ Below w.heap.size w w' := by
  have hbt := bal (Below.refl w.heap.size w) (.cells (encBd x).toArray 39)
  have hBt := Blk.new w 39 (encBd x).toArray
  have HTr := Lib.hid (fun W => htree_all x hx W)
  have HFit := Lib.hid (fun W => refFit_any x hx W)
  have HBl := Lib.hid (fun W => hblob_any x hx W)
  have hEq := eq_board
  have hdd : ∀ x : Bd, decide (x = x) = true := fun x => decide_eq_true rfl
  simp only [encBd] at HTr HFit HBl hbt hBt ⊢
  rcases hf : fitB x with _ | _
  · have e2 : hErr x = 282 := by unfold hErr; rw [hf]; rfl
    rw [e2] at HTr
    rw [hf] at HFit
    clear e2 hf
    go_enter Try.func11, Try.ntmps11
    go_wp2_with (first
      | (go_at_call 21; refine (awake32_any _).mono ?_; rintro e w1 ⟨rfl, hb1⟩; have hb1' := hbt.trans (hb1.mono hbt.size); have hB1 := hBt.kept hb1; have cB1 := hB1.cell)
      | (go_at_call 29; refine (HTr.out _).mono ?_; rintro e w2 ⟨sn, A1, n1, c1, A2, n2, c2, k, rfl, hT2, hL2, hb2⟩; have hb2' := hb1'.trans (hb2.mono hb1'.size); have hB2 := (hB1.kept hb2).alloc (.cells #[.string sn, .slice A1 n1 c1, .slice A2 n2 c2] 25); have cB2 := hB2.cell; have hb3' := bal' hb2' (.cells #[.string sn, .slice A1 n1 c1, .slice A2 n2 c2] 25) hb2'.size; clear cB1)
      | (go_at_call 32; refine (HFit.out _).mono ?_; rintro e w4 ⟨rfl, hb4⟩; have hb4' := hb3'.trans (hb4.mono hb3'.size)))
    go_ret
    exact ⟨rfl, hb4'⟩
  · have e1 : hTr x = hostT x := by unfold hTr; rw [hf]; rfl
    have e2 : hErr x = 0 := by unfold hErr; rw [hf]; rfl
    have hput := host_put (fit_few hf)
    have hbl : hBlob x = putT (hostT x) := by unfold hBlob; rw [hf]; rfl
    obtain ⟨hok, hlen⟩ := ok_put (host_bok x)
    have hback := ofOk_back hput
    have hIs : BRes (hostT x) x 0 := .inl ⟨rfl, hx, hf, rfl⟩
    obtain ⟨l, hl⟩ : ∃ l, (putT (hostT x)).1 = l := ⟨_, rfl⟩
    obtain ⟨n, hn⟩ : ∃ n, l.length = n := ⟨_, rfl⟩
    rw [hl] at hok hlen hback
    rw [hn] at hlen
    rw [e1, e2] at HTr
    unfold BlobP at HBl
    rw [hbl, hl, hput, hn] at HBl
    have HIs := Lib.hid hIs
    have HBack := Lib.hid hback
    have HRead := Lib.hid (fun (W : World) (A : Option Addr) (c : Nat) (h : Rd W W.heap.size 1 A n (l.flatMap encB)) (hc : n ≤ c) => read_any A n c l W hn hok (by omega) hc h)
    clear e1 e2 hf hput hbl hok hback hIs hl hn
    go_enter Try.func11, Try.ntmps11
    go_wp2_with (first
      | (go_at_call 21; refine (awake32_any _).mono ?_; rintro e w1 ⟨rfl, hb1⟩; have hb1' := hbt.trans (hb1.mono hbt.size); have hB1 := hBt.kept hb1; have cB1 := hB1.cell)
      | (go_at_call 29; refine (HTr.out _).mono ?_; rintro e w2 ⟨sn, A1, n1, c1, A2, n2, c2, k, rfl, hT2, hL2, hb2⟩; have hb2' := hb1'.trans (hb2.mono hb1'.size); have hB2 := (hB1.kept hb2).alloc (.cells #[.string sn, .slice A1 n1 c1, .slice A2 n2 c2] 25); have cT2 := (Blk.new w2 25 #[.string sn, .slice A1 n1 c1, .slice A2 n2 c2]).cell; have hbx := bal (Below.refl w2.heap.size w2) (.cells #[.string sn, .slice A1 n1 c1, .slice A2 n2 c2] 25); have hT3 := (hT2.below hbx).more hbx.size; have hb3' := bal' hb2' (.cells #[.string sn, .slice A1 n1 c1, .slice A2 n2 c2] 25) hb2'.size; clear cB1)
      | (go_at_call 22; refine (board_any _ _ _ _ hT3).mono ?_; rintro e w4 ⟨y, r, rfl, hR4, hb4⟩; obtain ⟨rfl, rfl⟩ := bRes_inj HIs.out hR4; have hb4' := hb3'.trans (hb4.mono hb3'.size); have hB4 := (hB2.kept hb4).alloc (.cells #[.int .u64 x.rb, .int .u64 x.rs, .int .u64 x.lb, .int .u64 x.ls, .int .i64 x.irqs, .int .i64 x.strs, .int .i64 x.cpus] 39); have hY4 := Blk.new w4 39 #[.int .u64 x.rb, .int .u64 x.rs, .int .u64 x.lb, .int .u64 x.ls, .int .i64 x.irqs, .int .i64 x.strs, .int .i64 x.cpus]; have cB4 := hB4.cell; have hb5' := bal' hb4' (.cells #[.int .u64 x.rb, .int .u64 x.rs, .int .u64 x.lb, .int .u64 x.ls, .int .i64 x.irqs, .int .i64 x.strs, .int .i64 x.cpus] 39) hb4'.size; simp only [encBd]; clear cT2)
      | (go_at_call 31; refine (HBl.out _).mono ?_; rintro e w6 ⟨A6, c6, rfl, hown6, hb6⟩; have hb6' := hb5'.trans (hb6.mono hb5'.size); have hB6 := hB4.kept hb6; have hY6 := hY4.kept hb6; have hr6 := Rd.of_own hown6; have hc6 := cap_own hown6; clear cB4)
      | (go_at_call 33; refine (HRead.out _ _ _ hr6 hc6).mono ?_; rintro e w7 ⟨z, q, rfl, hb7, _, hz⟩; obtain ⟨rfl, rfl⟩ := bRes_inj HIs.out (hz _ HBack.out); have hb7' := hb6'.trans (hb7.mono hb6'.size); have cB7 := ((hB6.kept hb7).alloc (.cells #[.int .u64 x.rb, .int .u64 x.rs, .int .u64 x.lb, .int .u64 x.ls, .int .i64 x.irqs, .int .i64 x.strs, .int .i64 x.cpus] 39)).cell; have cY7 := ((hY6.kept hb7).alloc (.cells #[.int .u64 x.rb, .int .u64 x.rs, .int .u64 x.lb, .int .u64 x.ls, .int .i64 x.irqs, .int .i64 x.strs, .int .i64 x.cpus] 39)).cell; have cZ7 := (Blk.new w7 39 #[.int .u64 x.rb, .int .u64 x.rs, .int .u64 x.lb, .int .u64 x.ls, .int .i64 x.irqs, .int .i64 x.strs, .int .i64 x.cpus]).cell; have hb8' := bal' hb7' (.cells #[.int .u64 x.rb, .int .u64 x.rs, .int .u64 x.lb, .int .u64 x.ls, .int .i64 x.irqs, .int .i64 x.strs, .int .i64 x.cpus] 39) hb7'.size; simp only [encBd]))
    go_ret
    exact ⟨by first | rfl | simp, hb8'⟩
end Go.Proofs.Ytnkpaockginooaa
