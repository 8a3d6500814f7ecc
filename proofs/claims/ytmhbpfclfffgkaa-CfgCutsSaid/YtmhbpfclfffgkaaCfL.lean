/- Chapter 14: bytes that are parsed are those that are put: a plain law. -/
import Derived.Test.YtmhbpfclfffgkaaCfWs
import Derived.Test.YtmhbpfclfffgkaaCfV
namespace Go.Proofs.Ytmhbpfclfffgkaa
set_option linter.unusedVariables false
set_option linter.unusedSimpArgs false
open Go.RowKit Go.Sort

theorem take_once {n : Nat} {b l : List Int} {a a' : Nat} (hb : BytesOk b) (h : takeP n b a = .ok (l, a')) : b.drop a = l ++ b.drop a' ∧ l.length = n ∧ BytesOk l := by
  unfold takeP at h
  split at h
  · rename_i hle
    simp only [Except.ok.injEq, Prod.mk.injEq] at h
    obtain ⟨rfl, rfl⟩ := h
    refine ⟨?_, by rw [List.length_take, List.length_drop]; omega, fun x hx => hb x (List.mem_of_mem_drop (List.mem_of_mem_take hx))⟩
    rw [← List.drop_drop, List.take_append_drop]
  · cases h
theorem must_once {is : Bool} {at_ a a' : Nat} {e : Int} {b : List Int} {u : Unit} (h : mustP is at_ e b a = .ok (u, a')) : is = true ∧ a' = a := by
  unfold mustP at h
  split at h
  · simp only [Except.ok.injEq, Prod.mk.injEq] at h
    exact ⟨by assumption, h.2.symm⟩
  · cases h
theorem here_once {b : List Int} {a x a' : Nat} (h : hereP b a = .ok (x, a')) : x = a ∧ a' = a := by
  simp only [hereP, Except.ok.injEq, Prod.mk.injEq] at h
  exact ⟨h.1.symm, h.2.symm⟩
theorem ret_once {α : Type} {x y : α} {b : List Int} {a a' : Nat} (h : PR.ret x b a = .ok (y, a')) : y = x ∧ a' = a := by
  simp only [PR.ret, Except.ok.injEq, Prod.mk.injEq] at h
  exact ⟨h.1.symm, h.2.symm⟩
theorem num_once {s : Nat} {m e : Int} {b : List Int} {a a' : Nat} {x : Int} (hb : BytesOk b) (h : numP s m e b a = .ok (x, a')) : b.drop a = bytesN s false x ++ b.drop a' ∧ 0 ≤ x ∧ x ≤ m := by
  replace h := PR.bnd_inv h
  obtain ⟨p, a1, h1, h⟩ := h
  obtain ⟨rfl, rfl⟩ := here_once h1
  replace h := PR.bnd_inv h
  obtain ⟨l, a2, h2, h⟩ := h
  obtain ⟨k1, k2, k3⟩ := take_once hb h2
  replace h := PR.bnd_inv h
  obtain ⟨u, a3, h3, h⟩ := h
  obtain ⟨k4, rfl⟩ := must_once h3
  obtain ⟨rfl, rfl⟩ := ret_once h
  rw [decide_eq_true_eq] at k4
  exact ⟨by rw [bytesN_numB s l k2 k3]; exact k1, (numB_bd s l k2 k3).1, k4⟩
theorem bit_once {b : List Int} {a a' : Nat} {x : Bool} (hb : BytesOk b) (h : bitP b a = .ok (x, a')) : b.drop a = bytesN 4 false (truthN x) ++ b.drop a' := by
  replace h := PR.bnd_inv h
  obtain ⟨n, a1, h1, h⟩ := h
  obtain ⟨rfl, rfl⟩ := ret_once h
  obtain ⟨k1, k2, k3⟩ := num_once hb h1
  have e : truthN (decide (n = 1)) = n := by
    unfold truthN
    by_cases hn : n = 1
    · simp [hn]
    · simp [hn]; omega
  rw [e]; exact k1
theorem list_once {α : Type} {p : PR α} {W : α → List Int} {ok : α → Prop} (hp : ∀ b a x a', BytesOk b → p b a = .ok (x, a') → b.drop a = W x ++ b.drop a' ∧ ok x) : ∀ (n : Nat) (b : List Int) (a : Nat) (l : List α) (a' : Nat), BytesOk b → listP p n b a = .ok (l, a') → b.drop a = l.flatMap W ++ b.drop a' ∧ (∀ x ∈ l, ok x) ∧ l.length = n
  | 0, b, a, l, a', hb, h => by
    obtain ⟨rfl, rfl⟩ := ret_once h
    exact ⟨rfl, (fun x hx => by cases hx), rfl⟩
  | n + 1, b, a, l, a', hb, h => by
    replace h := PR.bnd_inv (show PR.bnd _ _ b a = _ from h)
    obtain ⟨l1, a1, h1, h⟩ := h
    replace h := PR.bnd_inv h
    obtain ⟨x, a2, h2, h⟩ := h
    obtain ⟨rfl, rfl⟩ := ret_once h
    obtain ⟨k1, k2, k3⟩ := list_once hp n b a l1 a1 hb h1
    obtain ⟨j1, j2⟩ := hp b a1 x a' hb h2
    refine ⟨by rw [k1, j1, List.flatMap_append]; simp, fun y hy => ?_, by rw [List.length_append, k3]; rfl⟩
    rcases List.mem_append.1 hy with hy | hy
    · exact k2 y hy
    · obtain rfl : y = x := by simpa using hy
      exact j2
theorem in_B {n m : Int} (h0 : 0 ≤ n) (h1 : n ≤ m) : inB n m = true := by unfold inB; simp [h0, h1]
theorem window_once (b : List Int) (a : Nat) (x : Wn) (a' : Nat) (hb : BytesOk b) (h : windowP b a = .ok (x, a')) : b.drop a = wnB x ++ b.drop a' ∧ wnOk x = true := by
  replace h := PR.bnd_inv h
  obtain ⟨i, a1, h1, h⟩ := h
  replace h := PR.bnd_inv h
  obtain ⟨p, a2, h2, h⟩ := h
  replace h := PR.bnd_inv h
  obtain ⟨s, a3, h3, h⟩ := h
  replace h := PR.bnd_inv h
  obtain ⟨m, a4, h4, h⟩ := h
  obtain ⟨rfl, rfl⟩ := ret_once h
  have k1 := num_once hb h1
  have k2 := num_once hb h2
  have k3 := num_once hb h3
  have k4 := num_once hb h4
  refine ⟨?_, in_B k4.2.1 k4.2.2⟩
  rw [k1.1, k2.1, k3.1, k4.1]
  simp [wnB]
theorem dev_once (b : List Int) (a : Nat) (x : Dv) (a' : Nat) (hb : BytesOk b) (h : devP b a = .ok (x, a')) : b.drop a = dvB x ++ b.drop a' ∧ True := by
  replace h := PR.bnd_inv h
  obtain ⟨i, a1, h1, h⟩ := h
  replace h := PR.bnd_inv h
  obtain ⟨p, a2, h2, h⟩ := h
  replace h := PR.bnd_inv h
  obtain ⟨s, a3, h3, h⟩ := h
  obtain ⟨rfl, rfl⟩ := ret_once h
  refine ⟨?_, trivial⟩
  rw [(num_once hb h1).1, (num_once hb h2).1, (num_once hb h3).1]
  simp [dvB]
theorem irq_once (b : List Int) (a : Nat) (x : Iq) (a' : Nat) (hb : BytesOk b) (h : irqP b a = .ok (x, a')) : b.drop a = iqB x ++ b.drop a' ∧ iqOk x = true := by
  replace h := PR.bnd_inv h
  obtain ⟨n, a1, h1, h⟩ := h
  replace h := PR.bnd_inv h
  obtain ⟨c, a2, h2, h⟩ := h
  replace h := PR.bnd_inv h
  obtain ⟨e, a3, h3, h⟩ := h
  obtain ⟨rfl, rfl⟩ := ret_once h
  have k1 := num_once hb h1
  have k2 := num_once hb h2
  refine ⟨?_, by unfold iqOk; rw [in_B k1.2.1 k1.2.2, in_B k2.2.1 k2.2.2]; rfl⟩
  rw [k1.1, k2.1, bit_once hb h3]
  simp [iqB]
theorem end_once (b : List Int) (a : Nat) (x : En) (a' : Nat) (hb : BytesOk b) (h : endP b a = .ok (x, a')) : b.drop a = enB x ++ b.drop a' ∧ enOk x = true := by
  replace h := PR.bnd_inv h
  obtain ⟨n, a1, h1, h⟩ := h
  replace h := PR.bnd_inv h
  obtain ⟨c, a2, h2, h⟩ := h
  replace h := PR.bnd_inv h
  obtain ⟨e, a3, h3, h⟩ := h
  obtain ⟨rfl, rfl⟩ := ret_once h
  have k1 := num_once hb h1
  have k2 := num_once hb h2
  refine ⟨?_, by unfold enOk; rw [in_B k1.2.1 k1.2.2, in_B k2.2.1 k2.2.2]; rfl⟩
  rw [k1.1, k2.1, (num_once hb h3).1]
  simp [enB]
theorem channel_once (b : List Int) (a : Nat) (x : Ch) (a' : Nat) (hb : BytesOk b) (h : channelP b a = .ok (x, a')) : b.drop a = chB x ++ b.drop a' ∧ chOk x = true := by
  replace h := PR.bnd_inv h
  obtain ⟨p, a1, h1, h⟩ := h
  replace h := PR.bnd_inv h
  obtain ⟨s, a2, h2, h⟩ := h
  replace h := PR.bnd_inv h
  obtain ⟨e0, a3, h3, h⟩ := h
  replace h := PR.bnd_inv h
  obtain ⟨e1, a4, h4, h⟩ := h
  obtain ⟨rfl, rfl⟩ := ret_once h
  have k3 := end_once b a2 e0 a3 hb h3
  have k4 := end_once b a3 e1 a' hb h4
  refine ⟨?_, by unfold chOk; simp only; rw [k3.2, k4.2]; rfl⟩
  rw [(num_once hb h1).1, (num_once hb h2).1, k3.1, k4.1]
  simp [chB]
theorem cutN_zero (l : List Int) (h : (l.drop (cutN l).length).all (fun x => x == 0) = true) : l = cutN l ++ List.replicate (l.length - (cutN l).length) 0 := by
  have e : l = cutN l ++ l.drop (cutN l).length := by
    conv => lhs; rw [← List.take_append_drop (cutN l).length l]
    rw [cutN_take]
  have e2 : l.drop (cutN l).length = List.replicate (l.length - (cutN l).length) 0 := by
    rw [List.eq_replicate_iff]
    refine ⟨List.length_drop, fun x hx => ?_⟩
    have := List.all_eq_true.1 h x hx
    simpa using this
  rw [← e2]; exact e
theorem name_once (b : List Int) (a : Nat) (x : List Int) (a' : Nat) (hb : BytesOk b) (h : nameP b a = .ok (x, a')) : b.drop a = nameF (strOfNums x) ++ b.drop a' ∧ nameN (strB (strOfNums x)) = true ∧ strB (strOfNums x) = x := by
  replace h := PR.bnd_inv h
  obtain ⟨p, a1, h1, h⟩ := h
  obtain ⟨rfl, rfl⟩ := here_once h1
  replace h := PR.bnd_inv h
  obtain ⟨l, a2, h2, h⟩ := h
  obtain ⟨k1, k2, k3⟩ := take_once hb h2
  replace h := PR.bnd_inv h
  obtain ⟨u, a3, h3, h⟩ := h
  obtain ⟨k4, rfl⟩ := must_once h3
  obtain ⟨rfl, rfl⟩ := ret_once h
  unfold nameOk at k4
  rw [Bool.and_eq_true] at k4
  have hs : strB (strOfNums (cutN l)) = cutN l := strB_of (fun x hx => k3 x (by rw [← cutN_take l] at hx; exact List.mem_of_mem_take hx))
  refine ⟨?_, by rw [hs]; exact k4.1, hs⟩
  unfold nameF
  rw [hs, strOfNums_size, ← k2, ← cutN_zero l k4.2]
  exact k1
theorem guest_once (b : List Int) (a : Nat) (x : Gs) (a' : Nat) (hb : BytesOk b) (h : guestP b a = .ok (x, a')) : b.drop a = gB x ++ b.drop a' ∧ gErr x = 0 := by
  replace h := PR.bnd_inv h
  obtain ⟨hd, a1, h1, h⟩ := h
  replace h := PR.bnd_inv h
  obtain ⟨k, a2, h2, h⟩ := h
  replace h := PR.bnd_inv h
  obtain ⟨n, a3, h3, h⟩ := h
  replace h := PR.bnd_inv h
  obtain ⟨ws, a4, h4, h⟩ := h
  replace h := PR.bnd_inv h
  obtain ⟨ds, a5, h5, h⟩ := h
  replace h := PR.bnd_inv h
  obtain ⟨qs, a6, h6, h⟩ := h
  replace h := PR.bnd_inv h
  obtain ⟨ss, a7, h7, h⟩ := h
  obtain ⟨rfl, rfl⟩ := ret_once h
  -- the head
  replace h1 := PR.bnd_inv h1
  obtain ⟨nm, b1, i1, h1⟩ := h1
  replace h1 := PR.bnd_inv h1
  obtain ⟨m, b2, i2, h1⟩ := h1
  replace h1 := PR.bnd_inv h1
  obtain ⟨o, b3, i3, h1⟩ := h1
  replace h1 := PR.bnd_inv h1
  obtain ⟨l, b4, i4, h1⟩ := h1
  replace h1 := PR.bnd_inv h1
  obtain ⟨c, b5, i5, h1⟩ := h1
  replace h1 := PR.bnd_inv h1
  obtain ⟨e, b6, i6, h1⟩ := h1
  replace h1 := PR.bnd_inv h1
  obtain ⟨d, b7, i7, h1⟩ := h1
  obtain ⟨rfl, rfl⟩ := ret_once h1
  obtain ⟨n1, n2, n3⟩ := name_once b a nm b1 hb i1
  -- the key
  replace h2 := PR.bnd_inv h2
  obtain ⟨p, c1, j1, h2⟩ := h2
  obtain ⟨rfl, rfl⟩ := here_once j1
  replace h2 := PR.bnd_inv h2
  obtain ⟨k', c2, j2, h2⟩ := h2
  replace h2 := PR.bnd_inv h2
  obtain ⟨u, c3, j3, h2⟩ := h2
  obtain ⟨y3, rfl⟩ := must_once j3
  obtain ⟨rfl, rfl⟩ := ret_once h2
  obtain ⟨y1, y2, _⟩ := take_once hb j2
  -- the counts
  replace h3 := PR.bnd_inv h3
  obtain ⟨p, d1, m1, h3⟩ := h3
  obtain ⟨rfl, rfl⟩ := here_once m1
  replace h3 := PR.bnd_inv h3
  obtain ⟨nw, d2, m2, h3⟩ := h3
  replace h3 := PR.bnd_inv h3
  obtain ⟨u, d3, m3, h3⟩ := h3
  obtain ⟨z3, rfl⟩ := must_once m3
  replace h3 := PR.bnd_inv h3
  obtain ⟨nd, d4, m4, h3⟩ := h3
  replace h3 := PR.bnd_inv h3
  obtain ⟨nq, d5, m5, h3⟩ := h3
  replace h3 := PR.bnd_inv h3
  obtain ⟨ns, d6, m6, h3⟩ := h3
  obtain ⟨rfl, rfl⟩ := ret_once h3
  rw [decide_eq_true_eq] at z3
  have w2 := num_once hb m2
  have w4 := num_once hb m4
  have w5 := num_once hb m5
  have w6 := num_once hb m6
  have l4 := list_once window_once _ b _ ws a4 hb h4
  have l5 := list_once dev_once _ b _ ds a5 hb h5
  have l6 := list_once irq_once _ b _ qs a6 hb h6
  have l7 := list_once (W := bytesN 4 false) (ok := fun _ => True) (fun b a x a' hb h => ⟨(num_once hb h).1, trivial⟩) _ b _ ss a' hb h7
  have e4 : (ws.length : Int) = nw := by rw [l4.2.2]; simp only; omega
  have e5 : (ds.length : Int) = nd := by rw [l5.2.2]; simp only; omega
  have e6 : (qs.length : Int) = nq := by rw [l6.2.2]; simp only; omega
  have e7 : (ss.length : Int) = ns := by rw [l7.2.2]; simp only; omega
  refine ⟨?_, gErr_zero n2 y3 ?_ ?_ ?_⟩
  · rw [n1, bit_once hb i2, (num_once hb i3).1, (num_once hb i4).1, (num_once hb i5).1, (num_once hb i6).1, (num_once hb i7).1, y1, w2.1, w4.1, w5.1, w6.1, l4.1, l5.1, l6.1, l7.1]
    simp only [gB, gHd, lenL, e4, e5, e6, e7, List.flatMap_cons, List.flatMap_nil, List.append_nil, List.append_assoc]
  · unfold cntOk
    simp only [Bool.and_eq_true, decide_eq_true_eq]
    omega
  · exact List.all_eq_true.2 fun x hx => l4.2.1 x hx
  · exact List.all_eq_true.2 fun x hx => l6.2.1 x hx
where gErr_zero {g : Gs} (h : nameN (strB g.nm) = true) (h2 : keyB g.key = true) (h3 : cntOk g = true) (h4 : g.ws.all wnOk = true) (h5 : g.qs.all iqOk = true) : gErr g = 0 := by unfold gErr; rw [if_neg (by rw [h]; decide), if_neg (by rw [h2]; decide), if_neg (by rw [h3]; decide), if_neg (by rw [h4]; decide), if_neg (by rw [h5]; decide)]
theorem firstE_zero : ∀ (l : List Gs), (∀ g ∈ l, gErr g = 0) → firstE l = 0
  | [], _ => rfl
  | g :: l, h => by unfold firstE; rw [if_pos (h g (List.mem_cons_self ..))]; exact firstE_zero l fun x hx => h x (List.mem_cons_of_mem _ hx)
theorem config_once (b : List Int) (x : CfD) (a' : Nat) (hb : BytesOk b) (h : configP b 0 = .ok (x, a')) : b = putB x ∧ putE x = 0 := by
  replace h := PR.bnd_inv h
  obtain ⟨t, a1, h1, h⟩ := h
  replace h := PR.bnd_inv h
  obtain ⟨gs, a2, h2, h⟩ := h
  replace h := PR.bnd_inv h
  obtain ⟨cs, a3, h3, h⟩ := h
  replace h := PR.bnd_inv h
  obtain ⟨u, a4, h4, h⟩ := h
  obtain ⟨rfl, rfl⟩ := ret_once h
  replace h1 := PR.bnd_inv h1
  obtain ⟨m, b1, i1, h1⟩ := h1
  replace h1 := PR.bnd_inv h1
  obtain ⟨u1, b2, i2, h1⟩ := h1
  obtain ⟨y2, rfl⟩ := must_once i2
  replace h1 := PR.bnd_inv h1
  obtain ⟨p, b3, i3, h1⟩ := h1
  obtain ⟨rfl, rfl⟩ := here_once i3
  replace h1 := PR.bnd_inv h1
  obtain ⟨f, b4, i4, h1⟩ := h1
  replace h1 := PR.bnd_inv h1
  obtain ⟨u5, b5, i5, h1⟩ := h1
  obtain ⟨y5, rfl⟩ := must_once i5
  replace h1 := PR.bnd_inv h1
  obtain ⟨p, b6, i6, h1⟩ := h1
  obtain ⟨rfl, rfl⟩ := here_once i6
  replace h1 := PR.bnd_inv h1
  obtain ⟨g, b7, i7, h1⟩ := h1
  replace h1 := PR.bnd_inv h1
  obtain ⟨u8, b8, i8, h1⟩ := h1
  obtain ⟨y8, rfl⟩ := must_once i8
  replace h1 := PR.bnd_inv h1
  obtain ⟨c, b9, i9, h1⟩ := h1
  replace h1 := PR.bnd_inv h1
  obtain ⟨z, b10, i10, h1⟩ := h1
  replace h1 := PR.bnd_inv h1
  obtain ⟨v, b11, i11, h1⟩ := h1
  obtain ⟨rfl, rfl⟩ := ret_once h1
  rw [decide_eq_true_eq] at y2 y5 y8
  subst y2 y5
  have w7 := num_once hb i7
  have w9 := num_once hb i9
  have w10 := num_once hb i10
  have ez : z = 0 := by omega
  subst ez
  have lg := list_once guest_once _ b _ gs a2 hb h2
  have lc := list_once channel_once _ b _ cs a3 hb h3
  have eg : (gs.length : Int) = g := by rw [lg.2.2]; simp only; omega
  have ec : (cs.length : Int) = c := by rw [lc.2.2]; simp only; omega
  have hend : a3 = b.length := by
    unfold endsP at h4
    split at h4
    · assumption
    · cases h4
  have hd : b.drop a3 = [] := by rw [hend]; simp
  refine ⟨?_, ?_⟩
  · have e0 : b = b.drop 0 := rfl
    rw [e0, (num_once hb i1).1, (num_once hb i4).1, w7.1, w9.1, w10.1, (num_once hb i11).1, lg.1, lc.1, hd]
    simp only [putB, topB, eg, ec, List.flatMap_cons, List.flatMap_nil, List.append_nil, List.append_assoc]
  · unfold putE
    rw [if_neg (by simp only; omega), firstE_zero _ lg.2.1, if_neg (by decide), if_neg]
    rw [Bool.not_eq_false]
    exact List.all_eq_true.2 fun x hx => lc.2.1 x hx
/-- Bytes that are parsed are those that are put. -/
theorem parse_once {b : List Int} {x : CfD} (hb : BytesOk b) (h : parseC b = .ok x) : b = putB x ∧ putE x = 0 := by
  unfold parseC at h
  split at h
  · cases h
  · rcases hc : configP b 0 with e | r
    · rw [hc] at h; cases h
    · rw [hc] at h
      simp only [Except.ok.injEq] at h
      subst h
      exact config_once b r.1 r.2 hb hc
end Go.Proofs.Ytmhbpfclfffgkaa
