/- Chapter 14: the document's reader: its state, and parts of bytes; walked. -/
import Derived.Test.YtmhbpfclfffgkaaCfQ
import Derived.Test.YtmhbpfclfffgkaaRefW
namespace Go.Proofs.Ytmhbpfclfffgkaa
set_option linter.unusedVariables false
set_option linter.unusedSimpArgs false
open Go.RowKit Go.Sort

/-- How far a reader is: at a place, or failed at a place with a number. -/
abbrev RS := Except (Nat × Int) Nat
def errS : RS → Int
  | .ok _ => 0
  | .error x => x.2
def plcS : RS → Int
  | .ok _ => 0
  | .error x => x.1
/-- The first failing stays. -/
def failS : RS → Nat × Int → RS
  | .ok _, x => .error x
  | .error y, _ => .error y
def runS {α : Type} (p : PR α) (b : List Int) : RS → PE α
  | .ok a => p b a
  | .error e => .error e
theorem PR.assoc {α β γ : Type} (p : PR α) (q : α → PR β) (f : β → PR γ) : PR.bnd (PR.bnd p q) f = PR.bnd p fun x => PR.bnd (q x) f := by
  funext b a
  unfold PR.bnd
  rcases p b a with e | ⟨x, a'⟩ <;> rfl
theorem PR.ret_bnd {α β : Type} (x : α) (f : α → PR β) : PR.bnd (PR.ret x) f = f x := by
  funext b a
  rfl
/-- A step of a reader: it answers y, and goes on as the specification does. -/
structure Step {α : Type} (p : PR α) (b : List Int) (s : RS) (y : α) (s' : RS) : Prop where
  eq : ∀ (β : Type) (f : α → PR β), runS (PR.bnd p f) b s = runS (f y) b s'
theorem Step.ret {α : Type} (y : α) (b : List Int) (s : RS) : Step (PR.ret y) b s y s := ⟨fun _ f => by rw [PR.ret_bnd]⟩
theorem Step.bnd {α γ : Type} {p : PR α} {q : α → PR γ} {b : List Int} {s s1 s2 : RS} {y : α} {z : γ} (h : Step p b s y s1) (k : Step (q y) b s1 z s2) : Step (PR.bnd p q) b s z s2 := ⟨fun _ f => by
  rw [PR.assoc, h.eq, k.eq]⟩
theorem Step.here {b : List Int} {s : RS} {t : Nat} (h : ∀ a, s = .ok a → t = a) : Step hereP b s t s := ⟨fun _ f => by
  rcases s with e | a
  · rfl
  · rw [h a rfl]; rfl⟩
theorem Step.must_yes {is : Bool} (h : is = true) (at_ : Nat) (e : Int) (b : List Int) (s : RS) : Step (mustP is at_ e) b s () s := ⟨fun _ f => by
  rcases s with x | a
  · rfl
  · show PR.bnd _ _ b a = _
    rw [PR.bnd_ok (mustP_yes h)]; rfl⟩
theorem Step.must_no {is : Bool} (h : is = false) (at_ : Nat) (e : Int) (b : List Int) (s : RS) : Step (mustP is at_ e) b s () (failS s (at_, e)) := ⟨fun _ f => by
  rcases s with x | a
  · rfl
  · show PR.bnd _ _ b a = _
    rw [PR.bnd_error (mustP_no h)]; rfl⟩
theorem Step.must (is : Bool) (at_ : Nat) (e : Int) (b : List Int) (s : RS) : Step (mustP is at_ e) b s () (if is then s else failS s (at_, e)) := by
  cases is
  · exact Step.must_no rfl _ _ _ _
  · exact Step.must_yes rfl _ _ _ _
theorem Step.take_yes {n a : Nat} {b : List Int} (h : a + n ≤ b.length) : Step (takeP n) b (.ok a) ((b.drop a).take n) (.ok (a + n)) := ⟨fun _ f => by
  show PR.bnd _ _ b a = _
  rw [PR.bnd_ok (takeP_yes h)]; rfl⟩
theorem Step.take_no {n a : Nat} {b : List Int} (h : ¬ a + n ≤ b.length) (y : List Int) : Step (takeP n) b (.ok a) y (.error (a, 141)) := ⟨fun _ f => by
  show PR.bnd _ _ b a = _
  rw [PR.bnd_error (takeP_no h)]; rfl⟩
theorem Step.failed {α : Type} (p : PR α) (b : List Int) (e : Nat × Int) (y : α) : Step p b (.error e) y (.error e) := ⟨fun _ f => rfl⟩
theorem Step.run {α : Type} {p : PR α} {b : List Int} {s s' : RS} {y : α} (h : Step p b s y s') : runS p b s = runS (PR.ret y) b s' := by
  have := h.eq _ PR.ret
  rw [show runS (PR.bnd p PR.ret) b s = runS p b s by
    rcases s with e | a
    · rfl
    · show PR.bnd _ _ b a = p b a
      unfold PR.bnd
      rcases p b a with e | ⟨x, a'⟩ <;> rfl] at this
  exact this
/-- So many things: one more. -/
theorem Step.list {α : Type} {p : PR α} {b : List Int} {s s1 s2 : RS} {l : List α} {x : α} {k : Nat} (h : Step (listP p k) b s l s1) (h2 : Step p b s1 x s2) : Step (listP p (k + 1)) b s (l ++ [x]) s2 :=
  Step.bnd (q := fun l => PR.bnd p fun x => PR.ret (l ++ [x])) h (Step.bnd h2 (Step.ret _ _ _))
/-- Fewer of them, where a reading failed. -/
theorem Step.stop {α : Type} {p : PR α} {b : List Int} {s : RS} {e : Nat × Int} {l : List α} {k n : Nat} (h : Step (listP p k) b s l (.error e)) (hn : k ≤ n) : Step (listP p n) b s l (.error e) := ⟨fun _ f => by
  rcases s with x | a
  · have h1 : (Except.error x : PE (List α)) = .error e := h.run
    simp only [Except.error.injEq] at h1
    rw [h1]; rfl
  · have h1 : listP p k b a = .error e := h.run
    show PR.bnd _ _ b a = _
    rw [PR.bnd_error (listP_error h1 hn)]; rfl⟩
/-- What a reader reads: it lies below B, ahead of its box. -/
structure RIn where
  B : Nat
  g : Nat
  A : Option Addr
  n : Nat
  c : Nat
  b : List Int
structure ROk (x : RIn) : Prop where
  hb : x.b.length = x.n
  ok : BytesOk x.b
  m : x.n ≤ 65536
  mc : x.n ≤ x.c
  cm : x.c ≤ maxLen
  gB : x.B ≤ x.g
/-- The reader in memory. -/
structure RD (x : RIn) (s : RS) (t : Nat) (w : World) : Prop where
  box : Blk w x.g 60 #[.slice x.A x.n x.c, .int .i64 t, .int .i64 (errS s), .int .i64 (plcS s)]
  r : Rd w x.B 1 x.A x.n (x.b.flatMap encB)
  le : t ≤ x.n
  at_ : ∀ a, s = .ok a → t = a
  ne : ∀ e, s = .error e → e.2 ≠ 0
section
variable {x : RIn} {s s' : RS} {t t' : Nat} {w w' : World}
theorem RD.below (h : RD x s t w) (hx : ROk x) (hb : Below w.heap.size w w') : RD x s t w' := ⟨h.box.kept hb, h.r.below (hb.mono (by have := h.box.lt; have := hx.gB; omega)), h.le, h.at_, h.ne⟩
theorem RD.near {S : Nat → Prop} (h : RD x s t w) (hx : ROk x) (hn : Near S w w') (hs : ∀ i, S i → x.g < i) : RD x s t w' :=
  ⟨h.box.same (hn.far h.box.lt (fun hi => Nat.lt_irrefl _ (hs _ hi))), h.r.below (hn.below (fun i hi => by have := hs i hi; have := hx.gB; omega) (by have := h.box.lt; have := hx.gB; omega)), h.le, h.at_, h.ne⟩
end
/-- What a call of the reader answers: a value, and a state. -/
def ROut {α : Type} (x : RIn) (p : PR α) (Rv : α → Value → World → Prop) (s : RS) (w : World) (e : Ending) (w' : World) : Prop :=
  Near (fun i => i = x.g) w w' ∧ ∃ (y : α) (v : Value) (s' : RS) (t' : Nat), e = .returned v ∧ Rv y v w' ∧ RD x s' t' w' ∧ Step p x.b s y s'
def RCall {α : Type} (f : FuncId) (args : RIn → Array Value) (p : PR α) (Rv : RIn → α → Value → World → Prop) : Prop :=
  ∀ (x : RIn) (s : RS) (t : Nat) (w : World), ROk x → RD x s t w → Calls Try.prog f (args x) w (ROut x p (Rv x) s w)
/-- A part of bytes that lies in no box of the reader. -/
def RPart (x : RIn) (n : Nat) (l : List Int) (v : Value) (w : World) : Prop := ∃ b o c, v = .slice (some ⟨b, o, none⟩) n c ∧ b ≠ x.g ∧ b < w.heap.size ∧ n ≤ c ∧ c ≤ maxLen ∧ l.length = n ∧ BytesOk l ∧ w.rangeAt b o (l.flatMap encB)
theorem rfail_any (x : RIn) (s : RS) (t : Nat) (w : World) (hx : ROk x) (h : RD x s t w) (e : Int) (at_ : Nat) (he : e ≠ 0) :
    Calls Try.prog 30 #[.pointer (some ⟨x.g, 0, none⟩), .int .i64 e, .int .i64 at_] w fun r w' => r = .returned (.tuple #[]) ∧ RD x (failS s (at_, e)) t w' ∧ Near (fun i => i = x.g) w w' := by
  have HB := Lib.hid h.box
  have HD := Lib.hid h
  have HX := Lib.hid hx
  have cB := h.box.cell
  have fB := h.box.frozen
  obtain ⟨B, g, A, n, c, b⟩ := x
  rcases s with y | a
  · have h0 : (y.2 == 0) = false := by simp [h.ne y rfl]
    simp only [errS, plcS] at cB HB fB
    clear h hx he
    go_enter Try.func30, Try.ntmps30
    go_wp2
    exact bodyPost_end (results_none rfl _ _ _) rfl ⟨rfl, HD.out, Near.refl _ _⟩
  · have HE := Lib.hid he
    simp only [errS, plcS] at cB HB fB
    clear h hx he
    go_enter Try.func30, Try.ntmps30
    go_wp2
    refine bodyPost_end (results_none rfl _ _ _) rfl ⟨rfl, ⟨?_, ?_, HD.out.le, fun a h => (by cases h), fun y h => (by cases h; exact HE.out)⟩, ((Near.refl (fun i => i = g) w).setCell (p := ⟨g, 2, none⟩) rfl _).setCell (p := ⟨g, 3, none⟩) rfl _⟩
    · have h1 := (HB.out.set_ 2 (.int .i64 e)).set_ 3 (.int .i64 at_)
      simpa [failS, errS, plcS] using h1
    · exact (HD.out.r.setCell (p := ⟨g, 2, none⟩) HX.out.gB _).setCell (p := ⟨g, 3, none⟩) HX.out.gB _
end Go.Proofs.Ytmhbpfclfffgkaa
