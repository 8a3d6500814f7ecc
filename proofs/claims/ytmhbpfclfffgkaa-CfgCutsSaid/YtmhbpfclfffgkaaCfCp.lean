/- Chapter 14: what is read of bytes that are cut off, or have more behind them: plain law. -/
import Derived.Test.YtmhbpfclfffgkaaCfBk
namespace Go.Proofs.Ytmhbpfclfffgkaa
set_option linter.unusedVariables false
set_option linter.unusedSimpArgs false
open Go.RowKit Go.Sort

/-- A reading whose bytes are cut off ends short; with more behind them it is as it was. -/
def Cuts {α : Type} (p : PR α) : Prop := ∀ b a x a', p b a = .ok (x, a') → a ≤ b.length → (a ≤ a' ∧ a' ≤ b.length) ∧ (∀ l, p (b ++ l) a = .ok (x, a')) ∧ ∀ cut, a ≤ cut → cut ≤ b.length → (a' ≤ cut → p (b.take cut) a = .ok (x, a')) ∧ (cut < a' → ∃ k, k ≤ cut ∧ p (b.take cut) a = .error (k, 141))
theorem Cuts.ret {α : Type} (x : α) : Cuts (PR.ret x) := fun b a y a' h ha => by
  simp only [PR.ret, Except.ok.injEq, Prod.mk.injEq] at h
  obtain ⟨rfl, rfl⟩ := h
  exact ⟨⟨Nat.le_refl _, ha⟩, fun _ => rfl, fun cut h1 h2 => ⟨fun _ => rfl, fun h => by omega⟩⟩
theorem Cuts.bnd {α β : Type} {p : PR α} {f : α → PR β} (hp : Cuts p) (hf : ∀ x, Cuts (f x)) : Cuts (PR.bnd p f) := fun b a y a' h ha => by
  obtain ⟨x, a1, h1, h2⟩ := PR.bnd_inv h
  obtain ⟨k1, k2, k3⟩ := hp b a x a1 h1 ha
  obtain ⟨m1, m2, m3⟩ := hf x b a1 y a' h2 k1.2
  refine ⟨by omega, fun l => ?_, fun cut c1 c2 => ⟨fun c => ?_, fun c => ?_⟩⟩
  · rw [PR.bnd_ok (k2 l), m2 l]
  · rw [PR.bnd_ok ((k3 cut c1 c2).1 (by omega)), (m3 cut (by omega) c2).1 c]
  · rcases Nat.lt_or_ge cut a1 with c3 | c3
    · obtain ⟨k, hk, he⟩ := (k3 cut c1 c2).2 c3
      exact ⟨k, hk, PR.bnd_error he⟩
    · obtain ⟨k, hk, he⟩ := (m3 cut c3 c2).2 c
      exact ⟨k, hk, by rw [PR.bnd_ok ((k3 cut c1 c2).1 c3), he]⟩
theorem Cuts.here : Cuts hereP := fun b a y a' h ha => by
  simp only [hereP, Except.ok.injEq, Prod.mk.injEq] at h
  obtain ⟨rfl, rfl⟩ := h
  exact ⟨⟨Nat.le_refl _, ha⟩, fun _ => rfl, fun cut h1 h2 => ⟨fun _ => rfl, fun h => by omega⟩⟩
theorem Cuts.must (is : Bool) (at_ : Nat) (e : Int) : Cuts (mustP is at_ e) := fun b a y a' h ha => by
  unfold mustP at h
  split at h
  · rename_i hi
    simp only [Except.ok.injEq, Prod.mk.injEq] at h
    obtain ⟨-, rfl⟩ := h
    exact ⟨⟨Nat.le_refl _, ha⟩, fun _ => mustP_yes hi, fun cut h1 h2 => ⟨fun _ => mustP_yes hi, fun h => by omega⟩⟩
  · cases h
theorem Cuts.take (n : Nat) : Cuts (takeP n) := fun b a y a' h ha => by
  unfold takeP at h
  split at h
  · rename_i hi
    simp only [Except.ok.injEq, Prod.mk.injEq] at h
    obtain ⟨rfl, rfl⟩ := h
    refine ⟨⟨by omega, hi⟩, fun l => ?_, fun cut h1 h2 => ⟨fun h => ?_, fun h => ⟨a, h1, takeP_no (by rw [List.length_take]; omega)⟩⟩⟩
    · rw [takeP_yes (by rw [List.length_append]; omega), List.drop_append_of_le_length ha, List.take_append_of_le_length (by rw [List.length_drop]; omega)]
    · rw [takeP_yes (by rw [List.length_take]; omega), List.drop_take, List.take_take, Nat.min_eq_left (by omega)]
  · cases h
theorem Cuts.num (s : Nat) (m e : Int) : Cuts (numP s m e) := .bnd .here fun _ => .bnd (.take _) fun _ => .bnd (.must _ _ _) fun _ => .ret _
theorem Cuts.list {α : Type} {p : PR α} (hp : Cuts p) : ∀ n, Cuts (listP p n)
  | 0 => .ret _
  | n + 1 => .bnd (Cuts.list hp n) fun _ => .bnd hp fun _ => .ret _
theorem Cuts.bit : Cuts bitP := .bnd (.num _ _ _) fun _ => .ret _
theorem Cuts.window : Cuts windowP := .bnd (.num _ _ _) fun _ => .bnd (.num _ _ _) fun _ => .bnd (.num _ _ _) fun _ => .bnd (.num _ _ _) fun _ => .ret _
theorem Cuts.dev : Cuts devP := .bnd (.num _ _ _) fun _ => .bnd (.num _ _ _) fun _ => .bnd (.num _ _ _) fun _ => .ret _
theorem Cuts.irq : Cuts irqP := .bnd (.num _ _ _) fun _ => .bnd (.num _ _ _) fun _ => .bnd .bit fun _ => .ret _
theorem Cuts.end_ : Cuts endP := .bnd (.num _ _ _) fun _ => .bnd (.num _ _ _) fun _ => .bnd (.num _ _ _) fun _ => .ret _
theorem Cuts.channel : Cuts channelP := .bnd (.num _ _ _) fun _ => .bnd (.num _ _ _) fun _ => .bnd .end_ fun _ => .bnd .end_ fun _ => .ret _
theorem Cuts.name : Cuts nameP := .bnd .here fun _ => .bnd (.take _) fun _ => .bnd (.must _ _ _) fun _ => .ret _
theorem Cuts.key : Cuts keyP := .bnd .here fun _ => .bnd (.take _) fun _ => .bnd (.must _ _ _) fun _ => .ret _
theorem Cuts.head : Cuts headP := .bnd .name fun _ => .bnd .bit fun _ => .bnd (.num _ _ _) fun _ => .bnd (.num _ _ _) fun _ => .bnd (.num _ _ _) fun _ => .bnd (.num _ _ _) fun _ => .bnd (.num _ _ _) fun _ => .ret _
theorem Cuts.counts : Cuts countsP := .bnd .here fun _ => .bnd (.num _ _ _) fun _ => .bnd (.must _ _ _) fun _ => .bnd (.num _ _ _) fun _ => .bnd (.num _ _ _) fun _ => .bnd (.num _ _ _) fun _ => .ret _
theorem Cuts.guest : Cuts guestP := .bnd .head fun _ => .bnd .key fun _ => .bnd .counts fun _ => .bnd (.list .window _) fun _ => .bnd (.list .dev _) fun _ => .bnd (.list .irq _) fun _ => .bnd (.list (.num _ _ _) _) fun _ => .ret _
theorem Cuts.top1 : Cuts top1P := .bnd (.num _ _ _) fun _ => .bnd (.must _ _ _) fun _ => .bnd .here fun _ => .bnd (.num _ _ _) fun _ => .bnd (.must _ _ _) fun _ => .bnd .here fun _ => .bnd (.num _ _ _) fun _ => .bnd (.must _ _ _) fun _ => .bnd (.num _ _ _) fun _ => .bnd (.num _ _ _) fun _ => .bnd (.num _ _ _) fun _ => .ret _
/-- All of a configuration but its bytes' end. -/
def bodyP : PR CfD := .bnd top1P fun t => .bnd (listP guestP t.1.toNat) fun gs => .bnd (listP channelP t.2.1.toNat) fun cs => .ret ⟨t.2.2, gs, cs⟩
theorem Cuts.body : Cuts bodyP := .bnd .top1 fun _ => .bnd (.list .guest _) fun _ => .bnd (.list .channel _) fun _ => .ret _
theorem config_body (b : List Int) (a : Nat) : configP b a = PR.bnd bodyP (fun x => PR.bnd endsP fun _ => .ret x) b a := by
  unfold configP bodyP
  simp only [PR.bnd]
  rcases top1P b a with e | ⟨t, a1⟩
  · rfl
  simp only
  rcases listP guestP t.1.toNat b a1 with e | ⟨gs, a2⟩
  · rfl
  simp only
  rcases listP channelP t.2.1.toNat b a2 with e | ⟨cs, a3⟩
  · rfl
  simp only [PR.ret]
theorem parse_body {b : List Int} {x : CfD} (h : parseC b = .ok x) : b.length ≤ 65536 ∧ bodyP b 0 = .ok (x, b.length) := by
  unfold parseC at h
  split at h
  · cases h
  rename_i hl
  refine ⟨by omega, ?_⟩
  rcases hc : configP b 0 with e | r
  · rw [hc] at h; cases h
  rw [hc] at h
  simp only [Except.ok.injEq] at h
  rw [config_body] at hc
  obtain ⟨y, a1, h1, h2⟩ := PR.bnd_inv hc
  obtain ⟨u, a2, h3, h4⟩ := PR.bnd_inv h2
  unfold endsP at h3
  split at h3
  · rename_i he
    simp only [PR.ret, Except.ok.injEq] at h4
    rw [← h, ← h4, h1, he]
  · cases h3
/-- Bytes that are cut off end short. -/
theorem parse_cut {b : List Int} {x : CfD} (h : parseC b = .ok x) {cut : Nat} (hc : cut < b.length) : ∃ k, k ≤ cut ∧ parseC (b.take cut) = .error (k, 141) := by
  obtain ⟨hl, hb⟩ := parse_body h
  obtain ⟨k, hk, he⟩ := ((Cuts.body b 0 x _ hb (Nat.zero_le _)).2.2 cut (Nat.zero_le _) (Nat.le_of_lt hc)).2 hc
  refine ⟨k, hk, ?_⟩
  unfold parseC
  rw [if_neg (by rw [List.length_take]; omega), config_body, PR.bnd_error he]
/-- Bytes with one more behind them. -/
theorem parse_more {b : List Int} {x : CfD} (h : parseC b = .ok x) (m : Int) : parseC (b ++ [m]) = .error (b.length, 145) ∨ parseC (b ++ [m]) = .error (0, 2) := by
  obtain ⟨hl, hb⟩ := parse_body h
  unfold parseC
  by_cases h2 : 65536 < (b ++ [m]).length
  · rw [if_pos h2]; exact .inr rfl
  · rw [if_neg h2, config_body, PR.bnd_ok ((Cuts.body b 0 x _ hb (Nat.zero_le _)).2.1 [m]), PR.bnd_error (e := (b.length, 145))]
    · exact .inl rfl
    · unfold endsP
      rw [if_neg (by simp)]
end Go.Proofs.Ytmhbpfclfffgkaa
