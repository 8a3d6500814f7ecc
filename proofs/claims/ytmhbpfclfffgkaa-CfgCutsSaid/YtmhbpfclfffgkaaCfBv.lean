/- Chapter 14: what holds of a configuration that lies in memory, and of its bytes: plain lemmas. -/
import Derived.Test.YtmhbpfclfffgkaaCfOn
import Derived.Test.YtmhbpfclfffgkaaCfBk
namespace Go.Proofs.Ytmhbpfclfffgkaa
set_option linter.unusedVariables false
set_option linter.unusedSimpArgs false
open Go.RowKit Go.Sort Go.ChangeShapes Go.WideShapes

theorem cIn_of {w : World} {B : Nat} {x : Cf} {A A2 : Option Addr} {c c2 : Nat} (h : CfR w B x A c A2 c2) : CIn (cData x) := by
  refine ⟨h.ver, fun g hg => ?_, h.oc⟩
  obtain ⟨y, hy, rfl⟩ := List.mem_map.1 hg
  have k := h.og y hy
  exact ⟨k.off, k.len, k.cpus, k.entry, k.dtb, k.kl, k.oW, k.oD, k.oS⟩
theorem own_caps {w : World} {base n c : Nat} {e : TypeId} {size : Nat} {A : Option Addr} {xs : List Value} (h : w.ownsRow base e size (.slice A n c) n xs) : n ≤ c ∧ c ≤ maxLen := by
  rcases h.2 with ⟨h1, h2⟩ | ⟨g, cap, cur, h1, hg, hh, hnc, hr⟩
  · simp only [Value.slice.injEq] at h1
    unfold maxLen; omega
  · simp only [Value.slice.injEq] at h1
    obtain ⟨_, _, rfl⟩ := h1
    exact ⟨hnc, hr.1⟩
theorem BytesOk.app {l m : List Int} (h1 : BytesOk l) (h2 : BytesOk m) : BytesOk (l ++ m) := fun x hx => (List.mem_append.1 hx).elim (h1 x) (h2 x)
theorem BytesOk.flat {α : Type} {f : α → List Int} {l : List α} (h : ∀ x ∈ l, BytesOk (f x)) : BytesOk (l.flatMap f) := fun y hy => by
  obtain ⟨x, hx, h1⟩ := List.mem_flatMap.1 hy
  exact h x hx y h1
theorem bn_ok (s : Nat) (l : List Int) : BytesOk (l.flatMap (bytesN s false)) := .flat fun x _ => bytesN_ok s false x
theorem nameF_ok (nm : ByteArray) : BytesOk (nameF nm) := .app (strB_ok nm) fun x hx => by rw [List.mem_replicate] at hx; omega
theorem gB_ok {g : Gs} (h : BytesOk g.key) : BytesOk (gB g) :=
  .app (.app (.app (.app (.app (.app (.app (.app (nameF_ok _) (bn_ok _ _)) (bn_ok _ _)) h) (bn_ok _ _)) (.flat fun x _ => .app (bn_ok _ _) (bn_ok _ _))) (.flat fun x _ => bn_ok _ _)) (.flat fun x _ => .app (bn_ok _ _) (bn_ok _ _))) (bn_ok _ _)
theorem putB_ok {x : CfD} (h : ∀ g ∈ x.gs, BytesOk g.key) : BytesOk (putB x) :=
  .app (.app (.app (.app (bn_ok _ _) (bn_ok _ _)) (bn_ok _ _)) (.flat fun g hg => gB_ok (h g hg))) (.flat fun c _ => .app (.app (bn_ok _ _) (.app (bn_ok _ _) (bn_ok _ _))) (.app (bn_ok _ _) (bn_ok _ _)))
theorem keys_of {w : World} {B : Nat} {x : Cf} {A A2 : Option Addr} {c c2 : Nat} (h : CfR w B x A c A2 c2) : ∀ g ∈ (cData x).gs, BytesOk g.key := fun g hg => by
  obtain ⟨y, hy, rfl⟩ := List.mem_map.1 hg
  exact (h.og y hy).kb
end Go.Proofs.Ytmhbpfclfffgkaa
