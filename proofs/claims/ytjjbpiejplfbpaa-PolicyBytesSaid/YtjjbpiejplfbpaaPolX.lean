/- Chapter 27: the document's manifest put. -/
import Derived.Test.YtjjbpiejplfbpaaPolW
import Derived.Test.YtjjbpiejplfbpaaPolT
namespace Go.Proofs.Ytjjbpiejplfbpaa
set_option linter.unusedVariables false
set_option linter.unusedSimpArgs false
open Go.RowKit Go.Sort

/-- What the document's writer keeps: the bytes, of its own since w1. -/
structure DS (w1 : World) (A : Option Addr) (n c : Nat) (bs : List Int) (W : World) : Prop where
  own : W.ownsRow w1.heap.size 5 1 (.slice A n c) n (bs.flatMap encB)
  bl : Below w1.heap.size w1 W
  ln : bs.length = n
theorem DS.put {w1 W : World} {A : Option Addr} {n c : Nat} {bs : List Int} (h : DS w1 A n c bs W) (s : Nat) (x : Int) (hm : n ≤ 100000) (hs : s ≤ 8) (hx : 0 ≤ x ∧ x < 18446744073709551616) :
    Calls Try.prog 28 #[.slice A n c, .int .u64 x, .int .i64 s, .bool false] W fun e w' => ∃ A' n' c' bs', Hid (bs' = bs ++ bytesN s false x ∧ n' = n + s) ∧ e = .returned (.slice A' n' c') ∧ DS w1 A' n' c' bs' w' ∧ Below W.heap.size W w' :=
  (refPut_any A n c s bs x false W h.ln (by omega) hs hx.1 hx.2 (Rd.of_own h.own)).mono fun e w' ⟨A', c', he, ho, hb⟩ =>
    ⟨A', n + s, c', _, Lib.hid ⟨rfl, rfl⟩, he, ⟨own_le_base ho h.bl.size, h.bl.trans (hb.mono h.bl.size), by rw [List.length_append, bytesN_len, h.ln]⟩, hb⟩
theorem DS.start (w1 : World) : DS w1 none 0 0 [] w1 := ⟨World.ownsRow_nil _ _ _ _, Below.refl _ _, rfl⟩
theorem DS.alloc {w1 W : World} {A : Option Addr} {n c : Nat} {bs : List Int} (h : DS w1 A n c bs W) (o : Obj) : DS w1 A n c bs (W.alloc o) := ⟨h.own.alloc o, bal' h.bl o h.bl.size, h.ln⟩
theorem flatQ_get : ∀ (xs : List Int) (i : Nat), (xs.flatMap encQ)[i]? = (xs[i]?).map fun x => Value.int .u64 x := by
  intro xs
  induction xs with
  | nil => intro i; simp
  | cons x xs ih =>
    intro i
    cases i with
    | zero => simp [encQ]
    | succ i => simpa [encQ] using ih i
theorem lit_cell {w : World} {g : Nat} {t : TypeId} {l : List Int} (hB : Blk w g t (l.flatMap encQ).toArray) {j : Nat} (hj : j < l.length) : w.cell? ⟨g, j, none⟩ = some (.int .u64 l[j]) := by
  rw [hB.cell j]
  simp [flatQ_get, hj]
theorem scell6 {w : World} {g : Nat} {t : TypeId} {s : St} (h : Blk w g t #[.int .i64 s.g, .int .u32 s.ver, .int .u64 s.vt, .int .u64 s.en, .int .u64 s.dt, .int .u32 s.cpus]) : w.cell? ⟨g, 0, none⟩ = some (.int .i64 s.g) ∧ w.cell? ⟨g, 1, none⟩ = some (.int .u32 s.ver) ∧ w.cell? ⟨g, 2, none⟩ = some (.int .u64 s.vt) ∧ w.cell? ⟨g, 3, none⟩ = some (.int .u64 s.en) ∧ w.cell? ⟨g, 4, none⟩ = some (.int .u64 s.dt) ∧ w.cell? ⟨g, 5, none⟩ = some (.int .u32 s.cpus) := ⟨h.cell 0, h.cell 1, h.cell 2, h.cell 3, h.cell 4, h.cell 5⟩
theorem rises_len : ∀ {l : List St} {a : Int}, -1 ≤ a → a ≤ 15 → risesFrom a l = true → (l.length : Int) ≤ 15 - a
  | [], a, h, h2, hr => by simp; omega
  | x :: l, a, h, h2, hr => by
    unfold risesFrom at hr
    simp only [Bool.and_eq_true, decide_eq_true_eq] at hr
    obtain ⟨⟨h3, h4⟩, h5⟩ := hr
    have := rises_len (a := x.g) (by omega) (by omega) h5
    rw [List.length_cons]
    omega
theorem wrap_in {x : Int} (h0 : 0 ≤ x) (h1 : x < 18446744073709551616) : IntKind.u64.wrap x = x := by rw [IntKind.wrap_u64]; omega
theorem own_drawn {w1 W : World} {A : Option Addr} {n c : Nat} {xs : List Value} {e : TypeId} {s : Nat} {v : Value} {B : Nat} (h : W.ownsRow B e s v n xs) : W.drew.ownsRow B e s v n xs := own_kept h (Below.refl W.heap.size W).drew

/-- append at a step of a drawn region whose order is known. -/
theorem wpAnyT_app {P : Program} {ops : Array Oper} {Q : Exit → Act → World → Prop} {md : Region.Mode} {S : World → Prop} {m0 : Nat} {w : World} {t e : TypeId} {size bytes : Nat} (E : ElemInfo P t e size bytes) {i : Nat} {o : Oper} {f : Nat} {listed : Array Bool} {a : Act}
    (hrd : Region.ready md ops listed = [i]) (hoi : ops[i]? = some o) (hgd : o.guard = none) (s x : Operand)
    (ho : o.op = .call { callee := .builtin .append, args := #[s, x], argTypes := #[t, t] })
    (base : Nat) {v : Value} {n : Nat} {xs : List Value} (hown : w.ownsRow base e size v n xs) (hs : a.eval s = v)
    {B : Nat} {A : Option Addr} {m c : Nat} {news : List Value} (hx : a.eval x = .slice A m c) (hr : Rd w B size A m news) (h1 : ∀ u ∈ news, u.oneCell' = true)
    (h63 : n + m ≤ maxLen) (hbytes : (n + m) * bytes ≤ 140737488355328) (hbase : base ≤ w.heap.size)
    (h : ∀ A' c' w', w'.ownsRow base e size (.slice A' (n + m) c') (n + m) (xs ++ news) → Below base w w' → w.grownBy w' v.ownBlock → S w' ∧ wpAnyT P md ops Q m0 S f (listed.setIfInBounds i true) (a.put o.dst (.slice A' (n + m) c')) w') : wpAnyT P md ops Q m0 S (f + 1) listed a w :=
  wpAnyT_call hrd hoi (by simp [Region.wanted, hgd]) fun K hK => wp_app w E s x ho base v n xs hs hown B A m c news hx hr h1 h63 hbytes hbase fun v' w' h2 h3 h4 => by
    obtain ⟨A', c', rfl, _, _⟩ := own_slice h2
    exact hK.out _ _ (h A' c' w' h2 h3 h4).1 (h A' c' w' h2 h3 h4).2

set_option maxRecDepth 100000 in
set_option maxHeartbeats 8000000 in
theorem refPutMf_any (m : Mf) (w : World) (h : MfOk w w.heap.size m) (hn : m.n ≤ 100000) (hn2 : m.n2 ≤ 1000) :
    Calls Try.prog 16 #[.agg m.cs.toArray] w (MputRes m w) := by
  have HMf := Lib.hid h
  have hsz : m.cs.toArray.size = 71 := by simp [Mf.len h.rl]
  have HB0 := Lib.hid (Blk.new w 55 m.cs.toArray)
  have HbX := Lib.hid (bal (Below.refl w.heap.size w) (.cells m.cs.toArray 55))
  have HLog := Lib.hid (fun W (hb : Below w.heap.size w W) => (refPutLog_any m.A m.n m.c m.log W h.ll (by omega) h.lo ((h.lr.below hb).more hb.size)).mono fun e w' hh => putLog_res hh)
  obtain ⟨c69, c70⟩ := mcellL h.rl HB0.out
  by_cases hfr : m.fr < 0 ∨ (¬ m.fr < 0 ∧ 2147483647 < m.fr)
  · have HNo := Lib.hid (show mputOk m = false by unfold mputOk; rw [decide_eq_false (show ¬ (0 ≤ m.fr ∧ m.fr ≤ 2147483647) by omega)]; simp)
    cases hlog : lputOk m.log with
    | true =>
      have HLt := Lib.hid hlog
      clear hlog h
      rcases hfr with hf | ⟨hf, hf2⟩
      all_goals
        go_enter Try.func16, Try.ntmps16
        go_wp2_with (go_at_call 27; refine (HLog.out _ HbX.out).mono ?_; rintro e w1 ⟨hres, _⟩; obtain ⟨A1, x1, rfl, hown1, hb1⟩ := hres HLt.out; clear hres; have hB1 := HB0.out.kept hb1; obtain ⟨e0, e1, e2, e3, e4⟩ := mcell hB1)
        go_ret2
        exact ⟨.inr ⟨HNo.out, rfl⟩, HbX.out.trans (hb1.mono HbX.out.size)⟩
    | false =>
      have HLt := Lib.hid hlog
      clear hlog h
      rcases hfr with hf | ⟨hf, hf2⟩
      all_goals
        go_enter Try.func16, Try.ntmps16
        go_wp2_with (go_at_call 27; refine (HLog.out _ HbX.out).mono ?_; rintro e w1 ⟨_, hres⟩; obtain ⟨rfl, hb1⟩ := hres HLt.out; clear hres; have hB1 := HB0.out.kept hb1; obtain ⟨e0, e1, e2, e3, e4⟩ := mcell hB1)
        go_ret2
        exact ⟨.inr ⟨HNo.out, rfl⟩, HbX.out.trans (hb1.mono HbX.out.size)⟩
  · have hf1 : ¬ m.fr < 0 := by omega
    have hf2 : ¬ 2147483647 < m.fr := by omega
    cases hlog : lputOk m.log with
    | false =>
      have HNo := Lib.hid (show mputOk m = false by unfold mputOk; rw [hlog]; rfl)
      have HLf := Lib.hid hlog
      clear hlog h hfr
      go_enter Try.func16, Try.ntmps16
      go_wp2_with (go_at_call 27; refine (HLog.out _ HbX.out).mono ?_; rintro e w1 ⟨_, hres⟩; obtain ⟨rfl, hb1⟩ := hres HLf.out; clear hres; have hB1 := HB0.out.kept hb1; obtain ⟨e0, e1, e2, e3, e4⟩ := mcell hB1)
      go_ret2
      exact ⟨.inr ⟨HNo.out, rfl⟩, HbX.out.trans (hb1.mono HbX.out.size)⟩
    | true =>
      have HLt := Lib.hid hlog
      by_cases h16 : 16 < m.n2
      · have HNo := Lib.hid (show mputOk m = false by
          cases hq : mputOk m with
          | false => rfl
          | true =>
            unfold mputOk at hq
            simp only [Bool.and_eq_true] at hq
            have := rises_len (by omega) (by omega) hq.2
            rw [h.gl] at this
            omega)
        clear hlog h hfr
        go_enter Try.func16, Try.ntmps16
        go_wp2_with (go_at_call 27; refine (HLog.out _ HbX.out).mono ?_; rintro e w1 ⟨hres, _⟩; obtain ⟨A1, x1, rfl, hown1, hb1⟩ := hres HLt.out; clear hres; have hB1 := HB0.out.kept hb1; obtain ⟨e0, e1, e2, e3, e4⟩ := mcell hB1; obtain ⟨f1, f2⟩ := mcellL HMf.out.rl hB1)
        go_ret2
        exact ⟨.inr ⟨HNo.out, rfl⟩, HbX.out.trans (hb1.mono HbX.out.size)⟩
      · have h16' : m.n2 ≤ 16 := by omega
        have HN64 := Lib.hid (show m.n ≤ 64 by have := hlog; unfold lputOk at this; simp only [Bool.and_eq_true, decide_eq_true_eq] at this; rw [h.ll] at this; exact this.1)
        have HLg := Lib.hid hlog
        have HFr := Lib.hid (show 0 ≤ m.fr ∧ m.fr ≤ 2147483647 by omega)
        have u1 : IntKind.u64.wrap m.ver = m.ver := wrap_in h.ver.1 (by have := h.ver.2; omega)
        have u4 : IntKind.u64.wrap m.fr = m.fr := wrap_in (by omega) (by omega)
        have u5 : IntKind.u64.wrap (m.n2 : Int) = (m.n2 : Int) := wrap_in (by omega) (by omega)
        have b1 : 0 ≤ m.ver ∧ m.ver < 18446744073709551616 := ⟨h.ver.1, by have := h.ver.2; omega⟩
        have b4 : 0 ≤ m.fr ∧ m.fr < 18446744073709551616 := by omega
        clear hlog h hfr h16
        go_enter Try.func16, Try.ntmps16
        go_upto_region 4 with (go_at_call 27; refine (HLog.out _ HbX.out).mono ?_; rintro e w1 ⟨hres, _⟩; obtain ⟨A1, x1, rfl, hown1, hb1⟩ := hres HLt.out; clear hres; have hB1 := HB0.out.kept hb1; obtain ⟨e0, e1, e2, e3, e4⟩ := mcell hB1; obtain ⟨f1, f2⟩ := mcellL HMf.out.rl hB1)
        have HB1 := Lib.hid hB1
        have HO1 := Lib.hid (own_le_base hown1 (b' := w.heap.size) (by simp))
        have HbX1 := Lib.hid (HbX.out.trans (hb1.mono HbX.out.size))
        have hg1 : w.heap.size < w1.heap.size := hB1.lt
        have hS1 := DS.start w1
        clear hB1 hown1 hb1 c69 c70
        go_upto_region 5 with (go_at_call 28; refine (hS1.put 4 1112359246 (by decide) (by decide) (by decide)).mono ?_; rintro e w2 ⟨A2, n2, x2, bs2, hx2, rfl, hS2, hb2⟩)
        clear e0 e1 e2 e3 e4 f1 f2
        obtain ⟨e0, e1, e2, e3, e4⟩ := mcell (HB1.out.kept hS2.bl)
        go_upto_region 6 with (go_at_call 28; refine (hS2.put 4 m.ver (by have := hx2.out.2; omega) (by decide) b1).mono ?_; rintro e w3 ⟨A3, n3, x3, bs3, hx3, rfl, hS3, hb3⟩)
        clear e0 e1 e2 e3 e4 hS1
        obtain ⟨e0, e1, e2, e3, e4⟩ := mcell (HB1.out.kept hS3.bl)
        go_upto_region 7 with (fail)
        refine wp_name ?_
        intro w4 hw4
        have hS4 : DS w1 A3 n3 x3 bs3 w4 := by rw [hw4]; exact hS3.alloc _
        have hL4 : Blk w4 w3.heap.size 42 ([m.vt, m.irq, m.str].flatMap encQ).toArray := by rw [hw4]; exact Blk.new _ _ _
        clear hw4 hb3 hb2 hS2 hS3 e0 e1 e2 e3 e4
        have HS4 := Lib.hid hS4
        have HL4 := Lib.hid hL4
        clear hS4 hL4
        generalize w3.heap.size = g3 at *
        go_loopw [6, 52] (fun v i wr => ∃ (j : Nat) (A : Option Addr) (n c : Nat) (bs : List Int), j ≤ 3 ∧ i = .int .i64 j ∧ v = .slice A n c ∧ Hid (bs = bs3 ++ ([m.vt, m.irq, m.str].take j).flatMap (bytesN 8 false) ∧ n = n3 + 8 * j) ∧ Hid (DS w1 A n c bs wr) ∧ Hid (Below w4.heap.size w4 wr)) (fun _ i _ => 3 - (intOf i).toNat)
        case atStart => exact ⟨0, A3, n3, x3, bs3, by omega, rfl, rfl, Lib.hid (by simp), HS4, Lib.hid (Below.refl _ _)⟩
        case round =>
          obtain ⟨j, A5, n5, x5, bs5, hj, rfl, rfl, hx5, HS5, Hb5⟩ := hrel
          by_cases hj3 : j < 3
          · have hj' : j < [m.vt, m.irq, m.str].length := hj3
            have dv := lit_cell (HL4.out.kept Hb5.out) hj'
            have HT := Lib.hid (List.take_succ_eq_append_getElem hj')
            have hyb : ∀ y ∈ [m.vt, m.irq, m.str], 0 ≤ y ∧ y < 18446744073709551616 := by
              intro y hy
              simp only [List.mem_cons, List.not_mem_nil, or_false] at hy
              rcases hy with rfl | rfl | rfl
              · exact HMf.out.vt
              · exact HMf.out.irq
              · exact HMf.out.str
            have hyb := hyb _ (List.getElem_mem hj')
            generalize [m.vt, m.irq, m.str][j] = y at *
            have HP := Lib.hid (HS5.out.put 8 y (by have := hx5.out.2; have := hx3.out.2; have := hx2.out.2; omega) (by decide) hyb)
            go_wp2_with (go_at_call 28; refine HP.out.mono ?_; rintro e w6 ⟨A6, n6, x6, bs6, hx6, rfl, hS6, hb6⟩)
            go_roundw
            case rel => exact ⟨j + 1, A6, n6, x6, bs6, by omega, by go_num, rfl, Lib.hid ⟨by rw [hx6.out.1, hx5.out.1, HT.out, snoc_flat], by rw [hx6.out.2, hx5.out.2]; omega⟩, Lib.hid hS6, Lib.hid (Hb5.out.trans (hb6.mono Hb5.out.size))⟩
            case measure => simp [intOf]; omega
          · obtain rfl : j = 3 := by omega
            have hn5 : n5 = 32 := by have := hx5.out.2; have := hx3.out.2; have := hx2.out.2; omega
            subst hn5
            obtain ⟨e0, e1, e2, e3, e4⟩ := mcell (HB1.out.kept HS5.out.bl)
            have HP := Lib.hid (HS5.out.put 4 m.fr (by decide) (by decide) b4)
            go_upto_region 12 with (go_at_call 28; refine HP.out.mono ?_; rintro e w6 ⟨A6, n6, x6, bs6, hx6, rfl, hS6, hb6⟩)
            have hn6 : n6 = 36 := by have := hx6.out.2; omega
            subst hn6
            clear e0 e1 e2 e3 e4 hb6
            have hbl6 := hS6.bl.drew
            have hR6 := (mregs HMf.out.rl (HB1.out.kept hbl6)).1
            have hO6 := hS6.own
            have hO6 : w6.drew.ownsRow w1.heap.size 5 1 (.slice A6 36 x6) 36 (bs6.flatMap encB) := own_kept hO6 (Below.refl w6.heap.size w6).drew
            have HBs6 := Lib.hid (show bs6 = (bytesN 4 false 1112359246 ++ bytesN 4 false m.ver) ++ (bytesN 8 false m.vt ++ bytesN 8 false m.irq ++ bytesN 8 false m.str) ++ bytesN 4 false (cut32 m.fr) by
              rw [hx6.out.1, hx5.out.1, hx3.out.1, hx2.out.1, cut32_in HFr.out.1 (by have := HFr.out.2; omega)]
              simp [List.take, List.append_assoc])
            clear hS6 hx6 hx5 hx3 hx2 HS5 HS4 HL4 Hb5 HP hj3 hj
            have hn64 := HN64.out
            have hS := trivial
            refine wp_region_until 11 (fun _ : World => True) (by kernel_rfl) ?_
            refine wpAnyT_free (i := 0) (v := ?v0) rfl (by kernel_rfl) (by kernel_rfl) (by kernel_rfl) rfl (fun _ _ _ h => h) hS (Or.inl ⟨by kernel_rfl, ?hy0⟩) ?rest0
            case hy0 =>
              intro w hSw
              clear hSw
              go_simp
              first | done | with_reducible rfl
            simp only [List.getElem_toArray, List.getElem_cons_succ, List.getElem_cons_zero]
            simp only [Act.put, List.setIfInBounds_toArray, List.set_cons_zero, List.set_cons_succ]
            refine wpAnyT_free (i := 1) (v := ?v1) rfl (by kernel_rfl) (by kernel_rfl) (by kernel_rfl) rfl (fun _ _ _ h => h) hS (Or.inl ⟨by kernel_rfl, ?hy1⟩) ?rest1
            case hy1 =>
              intro w hSw
              clear hSw
              go_simp
              first | done | with_reducible rfl
            simp only [List.getElem_toArray, List.getElem_cons_succ, List.getElem_cons_zero]
            simp only [Act.put, List.setIfInBounds_toArray, List.set_cons_zero, List.set_cons_succ]
            refine wpAnyT_free (i := 2) (v := ?v2) rfl (by kernel_rfl) (by kernel_rfl) (by kernel_rfl) rfl (fun _ _ _ h => h) hS (Or.inl ⟨by kernel_rfl, ?hy2⟩) ?rest2
            case hy2 =>
              intro w hSw
              clear hSw
              go_simp
              first | done | with_reducible rfl
            simp only [List.getElem_toArray, List.getElem_cons_succ, List.getElem_cons_zero]
            simp only [Act.put, List.setIfInBounds_toArray, List.set_cons_zero, List.set_cons_succ]
            refine wpAnyT_free (i := 3) (v := ?v3) rfl (by kernel_rfl) (by kernel_rfl) (by kernel_rfl) rfl (fun _ _ _ h => h) hS (Or.inl ⟨by kernel_rfl, ?hy3⟩) ?rest3
            case hy3 =>
              intro w hSw
              clear hSw
              go_simp
              first | done | with_reducible rfl
            simp only [List.getElem_toArray, List.getElem_cons_succ, List.getElem_cons_zero]
            simp only [Act.put, List.setIfInBounds_toArray, List.set_cons_zero, List.set_cons_succ]
            refine wpAnyT_free (i := 5) (v := ?v5) rfl (by kernel_rfl) (by kernel_rfl) (by kernel_rfl) rfl (fun _ _ _ h => h) hS (Or.inl ⟨by kernel_rfl, ?hy5⟩) ?rest5
            case hy5 =>
              intro w hSw
              clear hSw
              go_simp
              first | done | with_reducible rfl
            simp only [List.getElem_toArray, List.getElem_cons_succ, List.getElem_cons_zero]
            simp only [Act.put, List.setIfInBounds_toArray, List.set_cons_zero, List.set_cons_succ]
            refine wpAnyT_free (i := 6) (v := ?v6) rfl (by kernel_rfl) (by kernel_rfl) (by kernel_rfl) rfl (fun _ _ _ h => h) hS (Or.inl ⟨by kernel_rfl, ?hy6⟩) ?rest6
            case hy6 =>
              intro w hSw
              clear hSw
              go_simp
              first | done | with_reducible rfl
            simp only [List.getElem_toArray, List.getElem_cons_succ, List.getElem_cons_zero]
            simp only [Act.put, List.setIfInBounds_toArray, List.set_cons_zero, List.set_cons_succ]
            refine wpAnyT_free (i := 7) (v := ?v7) rfl (by kernel_rfl) (by kernel_rfl) (by kernel_rfl) rfl (fun _ _ _ h => h) hS (Or.inl ⟨by kernel_rfl, ?hy7⟩) ?rest7
            case hy7 =>
              intro w hSw
              clear hSw
              go_simp
              first | done | with_reducible rfl
            simp only [List.getElem_toArray, List.getElem_cons_succ, List.getElem_cons_zero]
            simp only [Act.put, List.setIfInBounds_toArray, List.set_cons_zero, List.set_cons_succ]
            refine wpAnyT_free (i := 9) (v := ?v9) rfl (by kernel_rfl) (by kernel_rfl) (by kernel_rfl) rfl (fun _ _ _ h => h) hS (Or.inl ⟨by kernel_rfl, ?hy9⟩) ?rest9
            case hy9 =>
              intro w hSw
              clear hSw
              go_simp
              first | done | with_reducible rfl
            simp only [List.getElem_toArray, List.getElem_cons_succ, List.getElem_cons_zero]
            simp only [Act.put, List.setIfInBounds_toArray, List.set_cons_zero, List.set_cons_succ]
            refine wpAnyT_app u8_elem (c := 32) (i := 4) (by kernel_rfl) rfl rfl (.tmp 65) (.tmp 68) rfl w1.heap.size hO6 (by rfl) (by rfl) hR6 (one_b _) (by decide) (by decide) hbl6.size fun A7 x7 w7 hO7 hb7 hgr7 => ⟨trivial, ?_⟩
            simp only [List.getElem_toArray, List.getElem_cons_succ, List.getElem_cons_zero]
            simp only [Act.put, List.setIfInBounds_toArray, List.set_cons_zero, List.set_cons_succ]
            have hbl7 := hbl6.trans hb7
            have hR7 := (mregs HMf.out.rl (HB1.out.kept hbl7)).2
            refine wpAnyT_app u8_elem (c := 32) (i := 8) (by kernel_rfl) rfl rfl (.tmp 69) (.tmp 72) rfl w1.heap.size hO7 (by rfl) (by rfl) hR7 (one_b _) (by decide) (by decide) hbl7.size fun A8 x8 w8 hO8 hb8 hgr8 => ⟨trivial, ?_⟩
            simp only [List.getElem_toArray, List.getElem_cons_succ, List.getElem_cons_zero]
            simp only [Act.put, List.setIfInBounds_toArray, List.set_cons_zero, List.set_cons_succ]
            have hbl8 := hbl7.trans hb8
            have hR8 := Rd.of_own (own_kept HO1.out hbl8)
            refine wpAnyT_app u8_elem (c := x1) (i := 10) (by kernel_rfl) rfl rfl (.tmp 73) (.tmp 74) rfl w1.heap.size hO8 (by rfl) (by rfl) hR8 (one_b _) (by unfold maxLen; omega) (by omega) hbl8.size fun A9 x9 w9 hO9 hb9 hgr9 => ⟨trivial, ?_⟩
            simp only [List.getElem_toArray, List.getElem_cons_succ, List.getElem_cons_zero]
            simp only [Act.put, List.setIfInBounds_toArray, List.set_cons_zero, List.set_cons_succ]
            have hbl9 := hbl8.trans hb9
            refine wpAnyT_drop (by kernel_rfl) (by kernel_rfl) ?_
            simp only [List.drop_succ_cons, List.drop_zero]
            obtain ⟨n9, h9⟩ : ∃ k, 36 + 32 + 32 + (4 + 44 * m.n) = k := ⟨_, rfl⟩
            rw [h9] at hO9 ⊢
            have H9 := Lib.hid h9
            clear h9 hO6 hO7 hO8 hb7 hb8 hb9 hgr7 hgr8 hgr9 hbl6 hbl7 hbl8 hR6 hR7 hR8
            have HHL := Lib.hid (mHead_len HMf.out.rl HMf.out.lo)
            have HS9 : Hid (DS w1 A9 n9 x9 (mHead m) w9) := Lib.hid ⟨by
              rw [← List.flatMap_append, ← List.flatMap_append, ← List.flatMap_append] at hO9
              have e : ((bs6 ++ m.regs.take 32) ++ m.regs.drop 32) ++ logBytes m.log = mHead m := by
                rw [List.append_assoc bs6, List.take_append_drop, List.append_assoc, HBs6.out]; rfl
              rw [e] at hO9
              exact hO9, hbl9, by rw [HHL.out, HMf.out.ll, ← H9.out]; omega⟩
            clear hO9 HBs6
            go_upto_region 13 with (fail)
            have f2 := (mcellL HMf.out.rl (HB1.out.kept hbl9)).2
            have HP := Lib.hid (HS9.out.put 4 (m.n2 : Int) (by rw [← H9.out]; omega) (by decide) (by omega))
            go_upto_region 14 with (go_at_call 28; refine HP.out.mono ?_; rintro e w10 ⟨A10, n10, x10, bs10, hx10, rfl, hS10, hb10⟩)
            clear f2 HP hb10 hbl9 HS9
            have f2 := (mcellL HMf.out.rl (HB1.out.kept hS10.bl)).2
            have HX10 := Lib.hid (show bs10 = mHead m ++ bytesN 4 false m.gs.length ∧ n10 = 108 + 44 * m.n by
              rw [hx10.out.1, hx10.out.2, HMf.out.gl, ← H9.out]; exact ⟨rfl, by omega⟩)
            have HS10 := Lib.hid hS10
            go_upto_region 16 with (fail)
            clear f2 hx10 H9 hS10
            go_loopw [6, 9, 85] (fun v l i wr => ∃ (k : Nat) (A : Option Addr) (n c : Nat) (bs : List Int) (last : Int), k ≤ m.n2 ∧ i = .int .i64 k ∧ v = .slice A n c ∧ l = .int .i64 last ∧ -1 ≤ last ∧ Hid (bs = bs10 ++ (m.gs.take k).flatMap stBytes ∧ n = n10 + 36 * k) ∧ Hid (rises m.gs = risesFrom last (m.gs.drop k)) ∧ Hid (DS w1 A n c bs wr)) (fun _ _ i _ => m.n2 - (intOf i).toNat)
            case atStart => exact ⟨0, A10, n10, x10, bs10, -1, by omega, rfl, rfl, rfl, by decide, Lib.hid (by simp), Lib.hid rfl, HS10⟩
            case round =>
              obtain ⟨k, A, n, c, bs, last, hk, rfl, rfl, rfl, hlast, hx, hris, HS⟩ := hrel
              by_cases hlt : k < m.n2
              · have hlt' : k < m.gs.length := by rw [HMf.out.gl]; exact hlt
                have HbW := Lib.hid (HbX1.out.trans (HS.out.bl.mono HbX1.out.size))
                obtain ⟨b, o, hA, hbb, hc⟩ := (HMf.out.gr.below HbW.out).row (fun _ => rfl) hlt' HMf.out.gl
                have d0 := hc 0 (by omega)
                have d1 := hc 1 (by omega)
                have d2 := hc 2 (by omega)
                have d3 := hc 3 (by omega)
                have d4 := hc 4 (by omega)
                have d5 := hc 5 (by omega)
                simp only [encSt, Nat.add_zero, List.getElem?_cons_zero, List.getElem?_cons_succ] at d0 d1 d2 d3 d4 d5
                have HT := Lib.hid (List.take_succ_eq_append_getElem hlt')
                have hok := HMf.out.go _ (List.getElem_mem hlt')
                have hs : rises m.gs = (decide (last < (m.gs[k]).g) && decide ((m.gs[k]).g < 16) && risesFrom (m.gs[k]).g (m.gs.drop (k + 1))) := by rw [hris.out, List.drop_eq_getElem_cons hlt']; rfl
                clear hc hris
                generalize m.gs[k] = s at *
                rw [hA]
                by_cases h1 : s.g ≤ last
                · have HNo := Lib.hid (show mputOk m = false by unfold mputOk; rw [hs, decide_eq_false (show ¬ last < s.g by omega)]; simp)
                  clear hs
                  go_wp2
                  go_ret2
                  exact ⟨.inr ⟨HNo.out, rfl⟩, bal' HbW.out _ HbW.out.size⟩
                · by_cases h2 : 15 < s.g
                  · have HNo := Lib.hid (show mputOk m = false by unfold mputOk; rw [hs, decide_eq_false (show ¬ s.g < 16 by omega)]; simp)
                    clear hs
                    go_wp2
                    go_ret2
                    exact ⟨.inr ⟨HNo.out, rfl⟩, bal' HbW.out _ HbW.out.size⟩
                  · have HRi := Lib.hid (show rises m.gs = risesFrom s.g (m.gs.drop (k + 1)) by rw [hs, decide_eq_true (show last < s.g by omega), decide_eq_true (show s.g < 16 by omega)]; rfl)
                    clear hs
                    have v0 : IntKind.u64.wrap s.g = s.g := wrap_in (by omega) (by omega)
                    have v1 : IntKind.u64.wrap s.ver = s.ver := wrap_in hok.ver.1 (by have := hok.ver.2; omega)
                    have v5 : IntKind.u64.wrap s.cpus = s.cpus := wrap_in hok.cpus.1 (by have := hok.cpus.2; omega)
                    go_upto_region 21 with (fail)
                    refine wp_name ?_
                    intro y1 hy1
                    have HX1 : Hid (Blk y1 wr.heap.size 72 #[.int .i64 s.g, .int .u32 s.ver, .int .u64 s.vt, .int .u64 s.en, .int .u64 s.dt, .int .u32 s.cpus]) := Lib.hid (by rw [hy1]; exact Blk.new _ _ _)
                    have HY1 : Hid (DS w1 A n c bs y1) := Lib.hid (by rw [hy1]; exact HS.out.alloc _)
                    clear hy1 d0 d1 d2 d3 d4 d5 HS
                    generalize wr.heap.size = gx at *
                    have hnb : n ≤ 100000 - 36 := by have := hx.out.2; have := HX10.out.2; have := HN64.out; omega
                    obtain ⟨e0, _, _, _, _, _⟩ := scell6 HX1.out
                    have HP := Lib.hid (HY1.out.put 4 s.g (by omega) (by decide) (by omega))
                    go_upto_region 22 with (go_at_call 28; refine HP.out.mono ?_; rintro e y2 ⟨A2, n2, x2, bs2, hx2, rfl, hY2, hb2⟩)
                    have HX2 := Lib.hid (HX1.out.kept hb2)
                    clear e0 HP HX1 HY1 hb2
                    obtain ⟨_, e1, _, _, _, _⟩ := scell6 HX2.out
                    have HP := Lib.hid (hY2.put 4 s.ver (by have := hx2.out.2; omega) (by decide) (by have := hok.ver; omega))
                    go_upto_region 23 with (go_at_call 28; refine HP.out.mono ?_; rintro e y3 ⟨A3, n3, x3, bs3, hx3, rfl, hY3, hb3⟩)
                    have HX3 := Lib.hid (HX2.out.kept hb3)
                    clear e1 HP HX2 hY2 hb3
                    obtain ⟨_, _, e2, e3, e4, _⟩ := scell6 HX3.out
                    go_upto_region 24 with (fail)
                    refine wp_name ?_
                    intro y4 hy4
                    have HY4 : Hid (DS w1 A3 n3 x3 bs3 y4) := Lib.hid (by rw [hy4]; exact hY3.alloc _)
                    have HL4 : Hid (Blk y4 y3.heap.size 42 ([s.vt, s.en, s.dt].flatMap encQ).toArray) := Lib.hid (by rw [hy4]; exact Blk.new _ _ _)
                    have HX4 := Lib.hid (show Blk y4 gx 72 #[.int .i64 s.g, .int .u32 s.ver, .int .u64 s.vt, .int .u64 s.en, .int .u64 s.dt, .int .u32 s.cpus] by rw [hy4]; exact HX3.out.alloc _)
                    clear hy4 e2 e3 e4 hY3 HX3
                    generalize y3.heap.size = g3 at *
                    have HX := Lib.hid hx
                    go_loopw [6, 118] (fun v i wr => ∃ (j : Nat) (A : Option Addr) (n c : Nat) (bs : List Int), j ≤ 3 ∧ i = .int .i64 j ∧ v = .slice A n c ∧ Hid (bs = bs3 ++ ([s.vt, s.en, s.dt].take j).flatMap (bytesN 8 false) ∧ n = n3 + 8 * j) ∧ Hid (DS w1 A n c bs wr) ∧ Hid (Below y4.heap.size y4 wr)) (fun _ i _ => 3 - (intOf i).toNat)
                    case atStart => exact ⟨0, A3, n3, x3, bs3, by omega, rfl, rfl, Lib.hid (by simp), HY4, Lib.hid (Below.refl _ _)⟩
                    case round =>
                      obtain ⟨j, A5, n5, x5, bs5, hj, rfl, rfl, hx5, HS5, Hb5⟩ := hrel
                      by_cases hj3 : j < 3
                      · have hj' : j < [s.vt, s.en, s.dt].length := hj3
                        have dv := lit_cell (HL4.out.kept Hb5.out) hj'
                        have HTj := Lib.hid (List.take_succ_eq_append_getElem hj')
                        have hyb : ∀ y ∈ [s.vt, s.en, s.dt], 0 ≤ y ∧ y < 18446744073709551616 := by
                          intro y hy
                          simp only [List.mem_cons, List.not_mem_nil, or_false] at hy
                          rcases hy with rfl | rfl | rfl
                          · exact hok.vt
                          · exact hok.en
                          · exact hok.dt
                        have hyb := hyb _ (List.getElem_mem hj')
                        generalize [s.vt, s.en, s.dt][j] = y at *
                        have HP := Lib.hid (HS5.out.put 8 y (by have := hx5.out.2; have := hx3.out.2; have := hx2.out.2; omega) (by decide) hyb)
                        go_wp2_with (go_at_call 28; refine HP.out.mono ?_; rintro e w6 ⟨A6, n6, x6, bs6, hx6, rfl, hS6, hb6⟩)
                        go_roundw
                        case rel => exact ⟨j + 1, A6, n6, x6, bs6, by omega, by go_num, rfl, Lib.hid ⟨by rw [hx6.out.1, hx5.out.1, HTj.out, snoc_flat], by rw [hx6.out.2, hx5.out.2]; omega⟩, Lib.hid hS6, Lib.hid (Hb5.out.trans (hb6.mono Hb5.out.size))⟩
                        case measure => simp [intOf]; omega
                      · obtain rfl : j = 3 := by omega
                        obtain ⟨_, _, _, _, _, e5⟩ := scell6 (HX4.out.kept Hb5.out)
                        have HP := Lib.hid (HS5.out.put 4 s.cpus (by have := hx5.out.2; have := hx3.out.2; have := hx2.out.2; omega) (by decide) (by have := hok.cpus; omega))
                        go_wp2_with (go_at_call 28; refine HP.out.mono ?_; rintro e y6 ⟨A6, n6, x6, bs6, hx6, rfl, hY6, hb6⟩)
                        go_roundw
                        case rel =>
                          refine ⟨k + 1, A6, n6, x6, bs6, s.g, by omega, by go_num, rfl, rfl, by omega, Lib.hid ⟨?_, by have := hx6.out.2; have := hx5.out.2; have := hx3.out.2; have := hx2.out.2; have := HX.out.2; omega⟩, HRi, Lib.hid hY6⟩
                          rw [HT.out, snoc_flat, hx6.out.1, hx5.out.1, hx3.out.1, hx2.out.1, HX.out.1]
                          simp only [stBytes, List.append_assoc, List.take, List.flatMap_cons, List.flatMap_nil, List.append_nil, cut32_in (show 0 ≤ s.g by omega) (show s.g < 4294967296 by omega)]
                        case measure => simp [intOf]; omega
              · obtain rfl : k = m.n2 := by omega
                have HYes := Lib.hid (show mputOk m = true by
                  have h1 := hris.out
                  rw [List.drop_of_length_le (by rw [HMf.out.gl]; exact Nat.le_refl _)] at h1
                  unfold mputOk; rw [HLg.out, h1, decide_eq_true HFr.out]; rfl)
                have HE := Lib.hid (show bs = mBytes m by
                  rw [hx.out.1, HX10.out.1, List.take_of_length_le (by rw [HMf.out.gl]; exact Nat.le_refl _)]; rfl)
                go_wp2
                go_ret2
                have hS := HS.out
                rw [HE.out] at hS
                have hl := hS.ln
                subst hl
                exact ⟨.inl ⟨HYes.out, A, c, rfl, own_le_base hS.own (by have := hg1; omega)⟩, HbX1.out.trans (hS.bl.mono HbX1.out.size)⟩
end Go.Proofs.Ytjjbpiejplfbpaa
