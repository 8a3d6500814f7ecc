/- Chapter 14: what a configuration's bytes are, as a reading of bytes: plain definitions. -/
import Derived.Test.YtmhbpfclfffgkaaCfA
import Derived.Test.YtmhbpfclfffgkaaWordGet
namespace Go.Proofs.Ytmhbpfclfffgkaa
set_option linter.unusedVariables false
set_option linter.unusedSimpArgs false
open Go.RowKit Go.Sort

/-- A reading: at a place of bytes it answers a value and a place, or an error's place and number. -/
abbrev PE (α : Type) := Except (Nat × Int) (α × Nat)
abbrev PR (α : Type) := List Int → Nat → PE α
def PR.ret {α : Type} (x : α) : PR α := fun _ a => .ok (x, a)
def PR.bnd {α β : Type} (p : PR α) (f : α → PR β) : PR β := fun b a =>
  match p b a with
  | .error e => .error e
  | .ok r => f r.1 b r.2
def takeP (n : Nat) : PR (List Int) := fun b a => if a + n ≤ b.length then .ok ((b.drop a).take n, a + n) else .error (a, 141)
def hereP : PR Nat := fun _ a => .ok (a, a)
def mustP (is : Bool) (at_ : Nat) (e : Int) : PR Unit := fun _ a => if is = true then .ok ((), a) else .error (at_, e)
def numP (size : Nat) (most e : Int) : PR Int := .bnd hereP fun at_ => .bnd (takeP size) fun l => .bnd (mustP (decide (numB l ≤ most)) at_ e) fun _ => .ret (numB l)
def wordP : PR Int := numP 4 4294967295 144
def wideP : PR Int := numP 8 18446744073709551615 144
def bitP : PR Bool := .bnd (numP 4 1 144) fun n => .ret (decide (n = 1))
def halfP (most e : Int) : PR Int := numP 2 most e
/-- A text of sixteen bytes. -/
def cutN (l : List Int) : List Int := l.takeWhile fun x => x != 0
def nameOk (l : List Int) : Bool := nameN (cutN l) && (l.drop (cutN l).length).all fun x => x == 0
def nameP : PR (List Int) := .bnd hereP fun at_ => .bnd (takeP 16) fun l => .bnd (mustP (nameOk l) at_ 143) fun _ => .ret (cutN l)
/-- So many things. -/
def listP {α : Type} (p : PR α) : Nat → PR (List α)
  | 0 => .ret []
  | n + 1 => .bnd (listP p n) fun l => .bnd p fun x => .ret (l ++ [x])
def windowP : PR Wn := .bnd wideP fun i => .bnd wideP fun p => .bnd wideP fun s => .bnd (numP 4 7 144) fun m => .ret ⟨i, p, s, m⟩
def devP : PR Dv := .bnd wideP fun i => .bnd wideP fun p => .bnd wideP fun s => .ret ⟨i, p, s⟩
def irqP : PR Iq := .bnd (halfP 65535 144) fun n => .bnd (halfP 65535 144) fun c => .bnd bitP fun e => .ret ⟨n, c, e⟩
def endP : PR En := .bnd (halfP 65535 144) fun g => .bnd (halfP 7 144) fun p => .bnd wideP fun i => .ret ⟨g, p, i⟩
def channelP : PR Ch := .bnd wideP fun p => .bnd wideP fun s => .bnd endP fun e0 => .bnd endP fun e1 => .ret ⟨p, s, e0, e1⟩
/-- A key's first number tells a height. -/
def keyB (k : List Int) : Bool := decide (numB (k.take 4) = 1) || decide (numB (k.take 4) = 2) || decide (numB (k.take 4) = 3)
def countsP : PR (Int × Int × Int × Int) := .bnd hereP fun at_ => .bnd (halfP 16 142) fun w => .bnd (mustP (decide (0 < w)) at_ 142) fun _ => .bnd (halfP 16 142) fun d => .bnd (halfP 64 142) fun q => .bnd (halfP 32 142) fun s => .ret (w, d, q, s)
def headP : PR (List Int × Bool × Int × Int × Int × Int × Int) := .bnd nameP fun nm => .bnd bitP fun m => .bnd wordP fun o => .bnd wordP fun l => .bnd wordP fun c => .bnd wideP fun e => .bnd wideP fun d => .ret (nm, m, o, l, c, e, d)
def keyP : PR (List Int) := .bnd hereP fun at_ => .bnd (takeP 68) fun k => .bnd (mustP (keyB k) at_ 144) fun _ => .ret k
def guestP : PR Gs := .bnd headP fun h => .bnd keyP fun k => .bnd countsP fun n =>
  .bnd (listP windowP n.1.toNat) fun ws => .bnd (listP devP n.2.1.toNat) fun ds => .bnd (listP irqP n.2.2.1.toNat) fun qs => .bnd (listP wordP n.2.2.2.toNat) fun ss =>
  .ret ⟨strOfNums h.1, h.2.1, h.2.2.1, h.2.2.2.1, h.2.2.2.2.1, h.2.2.2.2.2.1, h.2.2.2.2.2.2, k, ws, ds, qs, ss⟩
/-- A configuration's parts. -/
structure CfD where
  ver : Int
  gs : List Gs
  cs : List Ch
def top1P : PR (Int × Int × Int) := .bnd wordP fun m => .bnd (mustP (decide (m = 1111705159)) 0 140) fun _ => .bnd hereP fun a1 => .bnd (halfP 65535 144) fun f => .bnd (mustP (decide (f = 1)) a1 144) fun _ =>
  .bnd hereP fun a2 => .bnd (halfP 16 142) fun g => .bnd (mustP (decide (0 < g)) a2 142) fun _ => .bnd (halfP 32 142) fun c => .bnd (halfP 0 144) fun _ => .bnd wordP fun v => .ret (g, c, v)
def endsP : PR Unit := fun b a => if a = b.length then .ok ((), a) else .error (a, 145)
def configP : PR CfD := .bnd top1P fun t => .bnd (listP guestP t.1.toNat) fun gs => .bnd (listP channelP t.2.1.toNat) fun cs => .bnd endsP fun _ => .ret ⟨t.2.2, gs, cs⟩
def parseC (b : List Int) : Except (Nat × Int) CfD :=
  if 65536 < b.length then .error (0, 2) else
  match configP b 0 with
  | .error e => .error e
  | .ok r => .ok r.1
theorem PR.bnd_ok {α β : Type} {p : PR α} {f : α → PR β} {b : List Int} {a a' : Nat} {x : α} (h : p b a = .ok (x, a')) : PR.bnd p f b a = f x b a' := by unfold PR.bnd; rw [h]
theorem PR.bnd_error {α β : Type} {p : PR α} {f : α → PR β} {b : List Int} {a : Nat} {e : Nat × Int} (h : p b a = .error e) : PR.bnd p f b a = .error e := by unfold PR.bnd; rw [h]
theorem PR.bnd_inv {α β : Type} {p : PR α} {f : α → PR β} {b : List Int} {a : Nat} {r : β × Nat} (h : PR.bnd p f b a = .ok r) : ∃ x a', p b a = .ok (x, a') ∧ f x b a' = .ok r := by
  unfold PR.bnd at h
  rcases hp : p b a with e | ⟨x, a'⟩
  · rw [hp] at h; cases h
  · rw [hp] at h; exact ⟨x, a', rfl, h⟩
theorem takeP_yes {n : Nat} {b : List Int} {a : Nat} (h : a + n ≤ b.length) : takeP n b a = .ok ((b.drop a).take n, a + n) := by unfold takeP; rw [if_pos h]
theorem takeP_no {n : Nat} {b : List Int} {a : Nat} (h : ¬ a + n ≤ b.length) : takeP n b a = .error (a, 141) := by unfold takeP; rw [if_neg h]
theorem mustP_yes {is : Bool} {at_ : Nat} {e : Int} {b : List Int} {a : Nat} (h : is = true) : mustP is at_ e b a = .ok ((), a) := by unfold mustP; rw [if_pos h]
theorem mustP_no {is : Bool} {at_ : Nat} {e : Int} {b : List Int} {a : Nat} (h : is = false) : mustP is at_ e b a = .error (at_, e) := by unfold mustP; rw [h]; rfl
theorem numP_yes {s : Nat} {m e : Int} {b : List Int} {a : Nat} (h : a + s ≤ b.length) (hm : numB ((b.drop a).take s) ≤ m) : numP s m e b a = .ok (numB ((b.drop a).take s), a + s) := by
  unfold numP
  rw [PR.bnd_ok (p := hereP) rfl, PR.bnd_ok (takeP_yes h), PR.bnd_ok (mustP_yes (decide_eq_true hm))]
  rfl
theorem numP_short {s : Nat} {m e : Int} {b : List Int} {a : Nat} (h : ¬ a + s ≤ b.length) : numP s m e b a = .error (a, 141) := by
  unfold numP
  rw [PR.bnd_ok (p := hereP) rfl, PR.bnd_error (takeP_no h)]
theorem numP_big {s : Nat} {m e : Int} {b : List Int} {a : Nat} (h : a + s ≤ b.length) (hm : ¬ numB ((b.drop a).take s) ≤ m) : numP s m e b a = .error (a, e) := by
  unfold numP
  rw [PR.bnd_ok (p := hereP) rfl, PR.bnd_ok (takeP_yes h), PR.bnd_error (mustP_no (decide_eq_false hm))]
/-- A place never moves back, nor beyond the bytes' end. -/
def Fwd {α : Type} (p : PR α) : Prop := ∀ b a x a', p b a = .ok (x, a') → a ≤ b.length → a ≤ a' ∧ a' ≤ b.length
theorem Fwd.ret {α : Type} (x : α) : Fwd (PR.ret x) := fun b a y a' h ha => by
  simp only [PR.ret, Except.ok.injEq, Prod.mk.injEq] at h
  omega
theorem Fwd.bnd {α β : Type} {p : PR α} {f : α → PR β} (hp : Fwd p) (hf : ∀ x, Fwd (f x)) : Fwd (PR.bnd p f) := fun b a y a' h ha => by
  obtain ⟨x, a1, h1, h2⟩ := PR.bnd_inv h
  have k1 := hp b a x a1 h1 ha
  have k2 := hf x b a1 y a' h2 k1.2
  omega
theorem Fwd.here : Fwd hereP := fun b a y a' h ha => by
  simp only [hereP, Except.ok.injEq, Prod.mk.injEq] at h
  omega
theorem Fwd.must (is : Bool) (at_ : Nat) (e : Int) : Fwd (mustP is at_ e) := fun b a y a' h ha => by
  unfold mustP at h
  split at h
  · simp only [Except.ok.injEq, Prod.mk.injEq] at h; omega
  · cases h
theorem Fwd.take (n : Nat) : Fwd (takeP n) := fun b a y a' h ha => by
  unfold takeP at h
  split at h
  · simp only [Except.ok.injEq, Prod.mk.injEq] at h; omega
  · cases h
theorem Fwd.num (s : Nat) (m e : Int) : Fwd (numP s m e) := .bnd .here fun _ => .bnd (.take _) fun _ => .bnd (.must _ _ _) fun _ => .ret _
theorem Fwd.list {α : Type} {p : PR α} (hp : Fwd p) : ∀ n, Fwd (listP p n)
  | 0 => .ret _
  | n + 1 => .bnd (Fwd.list hp n) fun _ => .bnd hp fun _ => .ret _
theorem Fwd.bit : Fwd bitP := .bnd (.num _ _ _) fun _ => .ret _
theorem Fwd.window : Fwd windowP := .bnd (.num _ _ _) fun _ => .bnd (.num _ _ _) fun _ => .bnd (.num _ _ _) fun _ => .bnd (.num _ _ _) fun _ => .ret _
theorem Fwd.dev : Fwd devP := .bnd (.num _ _ _) fun _ => .bnd (.num _ _ _) fun _ => .bnd (.num _ _ _) fun _ => .ret _
theorem Fwd.irq : Fwd irqP := .bnd (.num _ _ _) fun _ => .bnd (.num _ _ _) fun _ => .bnd .bit fun _ => .ret _
theorem Fwd.end_ : Fwd endP := .bnd (.num _ _ _) fun _ => .bnd (.num _ _ _) fun _ => .bnd (.num _ _ _) fun _ => .ret _
theorem Fwd.channel : Fwd channelP := .bnd (.num _ _ _) fun _ => .bnd (.num _ _ _) fun _ => .bnd .end_ fun _ => .bnd .end_ fun _ => .ret _
theorem Fwd.name : Fwd nameP := .bnd .here fun _ => .bnd (.take _) fun _ => .bnd (.must _ _ _) fun _ => .ret _
theorem Fwd.key : Fwd keyP := .bnd .here fun _ => .bnd (.take _) fun _ => .bnd (.must _ _ _) fun _ => .ret _
theorem Fwd.head : Fwd headP := .bnd .name fun _ => .bnd .bit fun _ => .bnd (.num _ _ _) fun _ => .bnd (.num _ _ _) fun _ => .bnd (.num _ _ _) fun _ => .bnd (.num _ _ _) fun _ => .bnd (.num _ _ _) fun _ => .ret _
theorem Fwd.counts : Fwd countsP := .bnd .here fun _ => .bnd (.num _ _ _) fun _ => .bnd (.must _ _ _) fun _ => .bnd (.num _ _ _) fun _ => .bnd (.num _ _ _) fun _ => .bnd (.num _ _ _) fun _ => .ret _
theorem Fwd.guest : Fwd guestP := .bnd .head fun _ => .bnd .key fun _ => .bnd .counts fun _ => .bnd (.list .window _) fun _ => .bnd (.list .dev _) fun _ => .bnd (.list .irq _) fun _ => .bnd (.list (.num _ _ _) _) fun _ => .ret _
/-- Fewer of a list's things are read where all of them are. -/
theorem listP_error {α : Type} {p : PR α} {b : List Int} {a : Nat} {e : Nat × Int} {k : Nat} (h : listP p k b a = .error e) : ∀ {n : Nat}, k ≤ n → listP p n b a = .error e
  | 0, hn => by obtain rfl : k = 0 := by omega
                exact h
  | n + 1, hn => by
    rcases Nat.lt_or_ge n k with h1 | h1
    · obtain rfl : k = n + 1 := by omega
      exact h
    · exact PR.bnd_error (listP_error h h1)
theorem listP_step {α : Type} {p : PR α} {b : List Int} {a a1 a2 : Nat} {l : List α} {x : α} {k : Nat} (h : listP p k b a = .ok (l, a1)) (h2 : p b a1 = .ok (x, a2)) : listP p (k + 1) b a = .ok (l ++ [x], a2) := by
  show PR.bnd _ _ b a = _
  rw [PR.bnd_ok h, PR.bnd_ok h2]; rfl
theorem listP_stop {α : Type} {p : PR α} {b : List Int} {a a1 : Nat} {l : List α} {e : Nat × Int} {k n : Nat} (h : listP p k b a = .ok (l, a1)) (h2 : p b a1 = .error e) (hn : k < n) : listP p n b a = .error e := by
  refine listP_error (k := k + 1) ?_ hn
  show PR.bnd _ _ b a = _
  rw [PR.bnd_ok h, PR.bnd_error h2]
theorem listP_len {α : Type} {p : PR α} : ∀ {n : Nat} {b : List Int} {a a1 : Nat} {l : List α}, listP p n b a = .ok (l, a1) → l.length = n
  | 0, b, a, a1, l, h => by
    simp only [listP, PR.ret, Except.ok.injEq, Prod.mk.injEq] at h
    rw [← h.1]; rfl
  | n + 1, b, a, a1, l, h => by
    obtain ⟨l1, a2, h1, h2⟩ := PR.bnd_inv (show PR.bnd _ _ b a = _ from h)
    obtain ⟨x, a3, h3, h4⟩ := PR.bnd_inv h2
    simp only [PR.ret, Except.ok.injEq, Prod.mk.injEq] at h4
    rw [← h4.1, List.length_append, listP_len h1]; rfl
end Go.Proofs.Ytmhbpfclfffgkaa
