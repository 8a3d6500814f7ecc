/- Chapter 14: what is put is parsed as it was: a plain law. -/
import Derived.Test.YtmhbpfclfffgkaaCfL
namespace Go.Proofs.Ytmhbpfclfffgkaa
set_option linter.unusedVariables false
set_option linter.unusedSimpArgs false
open Go.RowKit Go.Sort

/-- These bytes are read as this. -/
def Back {α : Type} (p : PR α) (x : α) (l : List Int) : Prop := ∀ (b : List Int) (a : Nat) (r : List Int), b.drop a = l ++ r → p b a = .ok (x, a + l.length)
theorem Back.bnd {α β : Type} {p : PR α} {f : α → PR β} {x : α} {y : β} {l m : List Int} (hp : Back p x l) (hf : Back (f x) y m) : Back (PR.bnd p f) y (l ++ m) := fun b a r h => by
  rw [List.append_assoc] at h
  rw [PR.bnd_ok (hp b a _ h)]
  have h2 : b.drop (a + l.length) = m ++ r := by rw [← List.drop_drop, h, List.drop_left]
  rw [hf b _ _ h2, List.length_append, Nat.add_assoc]
theorem Back.ret {α : Type} (x : α) : Back (PR.ret x) x [] := fun b a r h => rfl
theorem Back.last {α β : Type} {p : PR α} {f : α → β} {x : α} {l : List Int} (hp : Back p x l) : Back (PR.bnd p fun x => PR.ret (f x)) (f x) l := by
  have := hp.bnd (f := fun x => PR.ret (f x)) (Back.ret (f x))
  rwa [List.append_nil] at this
theorem Back.here {β : Type} {f : Nat → PR β} {y : β} {l : List Int} (hf : ∀ a, Back (f a) y l) : Back (PR.bnd hereP f) y l := fun b a r h => by
  rw [PR.bnd_ok (p := hereP) rfl]
  exact hf a b a r h
theorem Back.must {β : Type} {is : Bool} {at_ : Nat} {e : Int} {f : Unit → PR β} {y : β} {l : List Int} (hi : is = true) (hf : Back (f ()) y l) : Back (PR.bnd (mustP is at_ e) f) y l := fun b a r h => by
  rw [PR.bnd_ok (mustP_yes hi)]
  exact hf b a r h
theorem Back.take {n : Nat} {l : List Int} (hl : l.length = n) (hn : 0 < n) : Back (takeP n) l l := fun b a r h => by
  have hlen : b.length - a = n + r.length := by rw [← List.length_drop, h, List.length_append, hl]
  rw [takeP_yes (by omega), h, List.take_left' hl, hl]
theorem Back.num {s : Nat} {m e x : Int} (h0 : 0 ≤ x) (hs : x < 256 ^ s) (hm : x ≤ m) (h : 0 < s) : Back (numP s m e) x (bytesN s false x) := by
  have hb := numB_bytesN s x h0 hs
  refine Back.here fun a => ?_
  have hk := Back.take (bytesN_len s false x) h
  have := hk.bnd (f := fun l => PR.bnd (mustP (decide (numB l ≤ m)) a e) fun _ => PR.ret (numB l)) (y := x) (m := []) (Back.must (by rw [hb]; exact decide_eq_true hm) (by rw [hb]; exact Back.ret x))
  rwa [List.append_nil] at this
theorem Back.bit (x : Bool) : Back bitP x (bytesN 4 false (truthN x)) := by
  have h := (Back.num (s := 4) (m := 1) (e := 144) (x := truthN x) (by cases x <;> decide) (by cases x <;> decide) (by cases x <;> decide) (by omega)).last (f := fun n => decide (n = 1))
  have e : decide (truthN x = 1) = x := by cases x <;> rfl
  rw [e] at h
  exact h
theorem Back.list {α : Type} {p : PR α} {W : α → List Int} {l : List α} (h : ∀ x ∈ l, Back p x (W x)) : Back (listP p l.length) l (l.flatMap W) := by
  have key : ∀ k, k ≤ l.length → Back (listP p k) (l.take k) ((l.take k).flatMap W) := by
    intro k
    induction k with
    | zero => intro _; exact Back.ret _
    | succ k ih =>
      intro hk
      have hlt : k < l.length := by omega
      have e : l.take (k + 1) = l.take k ++ [l[k]] := List.take_succ_eq_append_getElem hlt
      rw [e, List.flatMap_append]
      have h1 := (h l[k] (List.getElem_mem hlt)).last (f := fun x => l.take k ++ [x])
      have h2 := (ih (by omega)).bnd (f := fun l => PR.bnd p fun x => PR.ret (l ++ [x])) h1
      have h3 : Back (listP p (k + 1)) (l.take k ++ [l[k]]) ((l.take k).flatMap W ++ W l[k]) := h2
      simpa using h3
  have := key l.length (Nat.le_refl _)
  rwa [List.take_length] at this
theorem Back.cast {α : Type} {p : PR α} {x : α} {l m : List Int} (h : Back p x l) (e : l = m) : Back p x m := by rw [← e]; exact h
theorem wide_back {x : Int} (h : inU64 x) : Back wideP x (bytesN 8 false x) := Back.num h.1 h.2 (by have := h.2; omega) (by omega)
theorem word_back {x : Int} (h : inU32 x) : Back wordP x (bytesN 4 false x) := Back.num h.1 h.2 (by have := h.2; omega) (by omega)
theorem half_back {x m e : Int} (h0 : 0 ≤ x) (hm : x ≤ m) (h2 : m ≤ 65535) : Back (halfP m e) x (bytesN 2 false x) := Back.num h0 (by have : (256 : Int) ^ 2 = 65536 := rfl; omega) hm (by omega)
theorem inB_iff {n m : Int} : inB n m = true ↔ 0 ≤ n ∧ n ≤ m := by unfold inB; simp
theorem window_back {x : Wn} (h : WnOk x) (hk : wnOk x = true) : Back windowP x (wnB x) := by
  have hp := inB_iff.1 hk
  refine Back.cast ((wide_back h.1).bnd ((wide_back h.2.1).bnd ((wide_back h.2.2.1).bnd ((Back.num hp.1 (by have : (256 : Int) ^ 4 = 4294967296 := rfl; omega) hp.2 (by omega)).last (f := fun m => (⟨x.ipa, x.pa, x.size, m⟩ : Wn)))))) ?_
  simp [wnB]
theorem dev_back {x : Dv} (h : DvOk x) : Back devP x (dvB x) := by
  refine Back.cast ((wide_back h.1).bnd ((wide_back h.2.1).bnd ((wide_back h.2.2).last (f := fun s => (⟨x.ipa, x.pa, s⟩ : Dv))))) ?_
  simp [dvB]
theorem irq_back {x : Iq} (hk : iqOk x = true) : Back irqP x (iqB x) := by
  unfold iqOk at hk
  rw [Bool.and_eq_true] at hk
  have h1 := inB_iff.1 hk.1
  have h2 := inB_iff.1 hk.2
  refine Back.cast ((half_back h1.1 h1.2 (by omega)).bnd ((half_back h2.1 h2.2 (by omega)).bnd ((Back.bit x.edge).last (f := fun e => (⟨x.num, x.cpu, e⟩ : Iq))))) ?_
  simp [iqB]
theorem end_back {x : En} (h : EnOk x) (hk : enOk x = true) : Back endP x (enB x) := by
  unfold enOk at hk
  rw [Bool.and_eq_true] at hk
  have h1 := inB_iff.1 hk.1
  have h2 := inB_iff.1 hk.2
  refine Back.cast ((half_back h1.1 h1.2 (by omega)).bnd ((half_back h2.1 h2.2 (by omega)).bnd ((wide_back h.2.2).last (f := fun i => (⟨x.guest, x.perm, i⟩ : En))))) ?_
  simp [enB]
theorem channel_back {x : Ch} (h : ChOk x) (hk : chOk x = true) : Back channelP x (chB x) := by
  unfold chOk at hk
  rw [Bool.and_eq_true] at hk
  refine Back.cast ((wide_back h.1).bnd ((wide_back h.2.1).bnd ((end_back h.2.2.1 hk.1).bnd ((end_back h.2.2.2 hk.2).last (f := fun e1 => (⟨x.pa, x.size, x.e0, e1⟩ : Ch)))))) ?_
  simp [chB]
theorem nchr_pos {c : Int} (h : nchr c = true) : c ≠ 0 := by
  rintro rfl
  revert h
  decide
theorem takeWhile_all {p : Int → Bool} : ∀ {l m : List Int}, (∀ x ∈ l, p x = true) → (l ++ m).takeWhile p = l ++ m.takeWhile p
  | [], m, _ => rfl
  | a :: l, m, h => by
    rw [List.cons_append, List.takeWhile_cons, if_pos (h a (List.mem_cons_self ..)), takeWhile_all fun x hx => h x (List.mem_cons_of_mem _ hx)]
    rfl
theorem cutN_pad {l : List Int} (n : Nat) (h : ∀ x ∈ l, nchr x = true) : cutN (l ++ List.replicate n 0) = l := by
  unfold cutN
  rw [takeWhile_all fun x hx => by simpa using nchr_pos (h x hx)]
  cases n with
  | zero => simp
  | succ n => rw [List.replicate_succ, List.takeWhile_cons, if_neg (by decide), List.append_nil]
theorem name_back {nm : ByteArray} (h : nameN (strB nm) = true) (h16 : nm.size ≤ 16) : Back nameP (strB nm) (nameF nm) := by
  have hc : ∀ x ∈ strB nm, nchr x = true := by
    unfold nameN at h
    simp only [Bool.and_eq_true] at h
    exact List.all_eq_true.1 h.1.1
  have e := cutN_pad (16 - nm.size) hc
  refine Back.here fun a => ?_
  have hk := Back.take (nameF_len h16) (by omega)
  have := hk.bnd (f := fun l => PR.bnd (mustP (nameOk l) a 143) fun _ => PR.ret (cutN l)) (y := strB nm) (m := []) (Back.must (by
    unfold nameOk nameF
    rw [e, h, List.drop_left]
    simp) (by unfold nameF; rw [e]; exact Back.ret _))
  rwa [List.append_nil] at this
theorem strOfNums_strB (s : ByteArray) : strOfNums (strB s) = s := by
  obtain ⟨⟨l⟩⟩ := s
  have h := strOfNums_data (strB ⟨⟨l⟩⟩)
  have e : (strOfNums (strB ⟨⟨l⟩⟩)).data = ⟨l⟩ := by
    apply Array.ext'
    rw [h]
    simp only [strB, List.map_map]
    rw [show ((fun n : Int => UInt8.ofNat n.toNat) ∘ fun b : UInt8 => (b.toNat : Int)) = id from funext fun b => by simp, List.map_id]
  generalize strOfNums (strB ⟨⟨l⟩⟩) = q at *
  cases q
  simp_all
/-- Numbers of a guest that are in range. -/
structure GIn (g : Gs) : Prop where
  off : inU32 g.off
  len : inU32 g.len
  cpus : inU32 g.cpus
  entry : inU64 g.entry
  dtb : inU64 g.dtb
  kl : g.key.length = 68
  oW : ∀ y ∈ g.ws, WnOk y
  oD : ∀ y ∈ g.ds, DvOk y
  oS : ∀ y ∈ g.ss, inU32 y
theorem gOk_of {g : Gs} (h : gErr g = 0) : nameN (strB g.nm) = true ∧ keyB g.key = true ∧ cntOk g = true ∧ g.ws.all wnOk = true ∧ g.qs.all iqOk = true := by
  unfold gErr at h
  split at h
  · omega
  split at h
  · omega
  split at h
  · omega
  split at h
  · omega
  split at h
  · omega
  refine ⟨?_, ?_, ?_, ?_, ?_⟩ <;> rw [← Bool.not_eq_false] <;> assumption
theorem name_len {nm : ByteArray} (h : nameN (strB nm) = true) : nm.size ≤ 16 := by
  unfold nameN at h
  simp only [Bool.and_eq_true, decide_eq_true_eq] at h
  rw [← strB_len]; exact h.2
theorem head_back {g : Gs} (hi : GIn g) (h1 : nameN (strB g.nm) = true) : Back headP (strB g.nm, g.mand, g.off, g.len, g.cpus, g.entry, g.dtb) ((nameF g.nm ++ [truthN g.mand, g.off, g.len, g.cpus].flatMap (bytesN 4 false)) ++ [g.entry, g.dtb].flatMap (bytesN 8 false)) := by
  refine Back.cast ((name_back h1 (name_len h1)).bnd ((Back.bit g.mand).bnd ((word_back hi.off).bnd ((word_back hi.len).bnd ((word_back hi.cpus).bnd ((wide_back hi.entry).bnd ((wide_back hi.dtb).last (f := fun d => (strB g.nm, g.mand, g.off, g.len, g.cpus, g.entry, d))))))))) ?_
  simp
theorem key_back {k : List Int} (hl : k.length = 68) (hk : keyB k = true) : Back keyP k k := by
  refine Back.here fun a => ?_
  have := (Back.take hl (by omega)).bnd (f := fun k => PR.bnd (mustP (keyB k) a 144) fun _ => PR.ret k) (y := k) (m := []) (Back.must hk (Back.ret _))
  rwa [List.append_nil] at this
theorem counts_back {g : Gs} (h : cntOk g = true) : Back countsP ((g.ws.length : Int), (g.ds.length : Int), (g.qs.length : Int), (g.ss.length : Int)) ((lenL g).flatMap (bytesN 2 false)) := by
  unfold cntOk at h
  simp only [Bool.and_eq_true, decide_eq_true_eq] at h
  refine Back.here fun a => ?_
  refine Back.cast ((half_back (x := g.ws.length) (m := 16) (e := 142) (by omega) (by omega) (by omega)).bnd (Back.must (decide_eq_true (by omega)) ((half_back (x := g.ds.length) (m := 16) (e := 142) (by omega) (by omega) (by omega)).bnd ((half_back (x := g.qs.length) (m := 64) (e := 142) (by omega) (by omega) (by omega)).bnd ((half_back (x := g.ss.length) (m := 32) (e := 142) (by omega) (by omega) (by omega)).last (f := fun s => ((g.ws.length : Int), (g.ds.length : Int), (g.qs.length : Int), s))))))) ?_
  simp [lenL]
theorem guest_back {g : Gs} (hi : GIn g) (h : gErr g = 0) : Back guestP g (gB g) := by
  obtain ⟨h1, h2, h3, h4, h5⟩ := gOk_of h
  have hw := Back.list (p := windowP) (W := wnB) (l := g.ws) fun x hx => window_back (hi.oW x hx) (List.all_eq_true.1 h4 x hx)
  have hd := Back.list (p := devP) (W := dvB) (l := g.ds) fun x hx => dev_back (hi.oD x hx)
  have hq := Back.list (p := irqP) (W := iqB) (l := g.qs) fun x hx => irq_back (List.all_eq_true.1 h5 x hx)
  have hs := Back.list (p := wordP) (W := bytesN 4 false) (l := g.ss) fun x hx => word_back (hi.oS x hx)
  refine Back.cast ((head_back hi h1).bnd ((key_back hi.kl h2).bnd ((counts_back h3).bnd (?_ : Back _ g (g.ws.flatMap wnB ++ (g.ds.flatMap dvB ++ (g.qs.flatMap iqB ++ g.ss.flatMap (bytesN 4 false)))))))) ?_
  · simp only [Int.toNat_natCast]
    refine hw.bnd (hd.bnd (hq.bnd ?_))
    have := hs.last (f := fun ss => (⟨strOfNums (strB g.nm), g.mand, g.off, g.len, g.cpus, g.entry, g.dtb, g.key, g.ws, g.ds, g.qs, ss⟩ : Gs))
    rw [strOfNums_strB] at this ⊢
    exact this
  · simp only [gB, gHd, List.append_assoc]
/-- A configuration's numbers are in range. -/
def CIn (x : CfD) : Prop := inU32 x.ver ∧ (∀ g ∈ x.gs, GIn g) ∧ ∀ c ∈ x.cs, ChOk c
theorem putE_all {x : CfD} (h : putE x = 0) : (1 ≤ x.gs.length ∧ x.gs.length ≤ 16 ∧ x.cs.length ≤ 32) ∧ (∀ g ∈ x.gs, gErr g = 0) ∧ x.cs.all chOk = true := by
  have key : ∀ l : List Gs, firstE l = 0 → ∀ g ∈ l, gErr g = 0 := by
    intro l
    induction l with
    | nil => intro _ g hg; cases hg
    | cons a l ih =>
      intro h g hg
      unfold firstE at h
      by_cases ha : gErr a = 0
      · rw [if_pos ha] at h
        rcases List.mem_cons.1 hg with rfl | hg
        · exact ha
        · exact ih h g hg
      · rw [if_neg ha] at h; exact absurd h ha
  unfold putE at h
  split at h
  · omega
  rename_i h1
  split at h
  · rename_i h2; exact absurd h h2
  rename_i h2
  split at h
  · omega
  rename_i h3
  refine ⟨Decidable.not_not.1 h1, key _ (Decidable.not_not.1 h2), ?_⟩
  rw [← Bool.not_eq_false]; exact h3
theorem flat_le {α : Type} {f : α → List Int} {m : Nat} : ∀ {l : List α}, (∀ x ∈ l, (f x).length ≤ m) → (l.flatMap f).length ≤ m * l.length
  | [], _ => by simp
  | a :: l, h => by
    rw [List.flatMap_cons, List.length_append, List.length_cons, Nat.mul_succ]
    have := h a (List.mem_cons_self ..)
    have := flat_le (l := l) fun x hx => h x (List.mem_cons_of_mem _ hx)
    omega
theorem putB_le {x : CfD} (hi : CIn x) (h : putE x = 0) : (putB x).length ≤ 30000 := by
  obtain ⟨⟨h1, h2, h3⟩, h4, h5⟩ := putE_all h
  have hg := flat_le (f := gB) (m := 1700) (l := x.gs) fun g hg => by
    obtain ⟨k1, k2, k3, k4, k5⟩ := gOk_of (h4 g hg)
    rw [gB_len (name_len k1) (hi.2.1 g hg).kl]
    unfold cntOk at k3
    simp only [Bool.and_eq_true, decide_eq_true_eq] at k3
    omega
  have hc := flat_len chB_len x.cs
  have ht : (topB x.ver x.gs.length x.cs.length).length = 16 := by simp only [topB, List.length_append, bytesNl_len]; rfl
  unfold putB
  rw [List.length_append, List.length_append, ht, hc]
  omega
theorem top_back {x : CfD} (hv : inU32 x.ver) (h1 : 1 ≤ x.gs.length) (h2 : x.gs.length ≤ 16) (h3 : x.cs.length ≤ 32) : Back top1P ((x.gs.length : Int), (x.cs.length : Int), x.ver) (topB x.ver x.gs.length x.cs.length) := by
  refine Back.cast ((word_back (x := 1111705159) ⟨by decide, by decide⟩).bnd (Back.must rfl (Back.here fun a1 => (half_back (x := 1) (m := 65535) (e := 144) (by omega) (by omega) (by omega)).bnd (Back.must rfl (Back.here fun a2 => (half_back (x := x.gs.length) (m := 16) (e := 142) (by omega) (by omega) (by omega)).bnd (Back.must (decide_eq_true (by omega)) ((half_back (x := x.cs.length) (m := 32) (e := 142) (by omega) (by omega) (by omega)).bnd ((half_back (x := 0) (m := 0) (e := 144) (by omega) (by omega) (by omega)).bnd ((word_back hv).last (f := fun v => ((x.gs.length : Int), (x.cs.length : Int), v)))))))))) ) ?_
  simp [topB]
/-- What is put is parsed as it was. -/
theorem parse_back {x : CfD} (hi : CIn x) (h : putE x = 0) : parseC (putB x) = .ok x := by
  obtain ⟨⟨h1, h2, h3⟩, h4, h5⟩ := putE_all h
  have hl := putB_le hi h
  have hg := Back.list (p := guestP) (W := gB) (l := x.gs) fun g hg => guest_back (hi.2.1 g hg) (h4 g hg)
  have hc := Back.list (p := channelP) (W := chB) (l := x.cs) fun c hc => channel_back (hi.2.2 c hc) (List.all_eq_true.1 h5 c hc)
  have ht := top_back hi.1 h1 h2 h3
  have e1 := ht (putB x) 0 (x.gs.flatMap gB ++ x.cs.flatMap chB) (by simp [putB])
  have d1 : (putB x).drop (0 + (topB x.ver x.gs.length x.cs.length).length) = x.gs.flatMap gB ++ x.cs.flatMap chB := by
    rw [Nat.zero_add, putB, List.append_assoc, List.drop_left]
  have e2 := hg _ _ _ d1
  have d2 : (putB x).drop (0 + (topB x.ver x.gs.length x.cs.length).length + (x.gs.flatMap gB).length) = x.cs.flatMap chB ++ [] := by
    rw [← List.drop_drop, d1, List.drop_left, List.append_nil]
  have e3 := hc _ _ _ d2
  have e4 : 0 + (topB x.ver x.gs.length x.cs.length).length + (x.gs.flatMap gB).length + (x.cs.flatMap chB).length = (putB x).length := by
    unfold putB
    rw [List.length_append, List.length_append]; omega
  have e : configP (putB x) 0 = .ok (x, (putB x).length) := by
    unfold configP
    rw [PR.bnd_ok e1]
    simp only [Int.toNat_natCast]
    rw [PR.bnd_ok e2, PR.bnd_ok e3, e4]
    have : endsP (putB x) (putB x).length = .ok ((), (putB x).length) := by unfold endsP; rw [if_pos rfl]
    rw [PR.bnd_ok this]
    rfl
  unfold parseC
  rw [if_neg (by omega), e]
end Go.Proofs.Ytmhbpfclfffgkaa
