/- Chapter 35: the law TrapBack: it returns true whatever the input, and leaves what was there. -/
import Derived.Test.YtklbdjbichfajaaTrapF
namespace Go.Proofs.Ytklbdjbichfajaa
set_option linter.unusedVariables false
open Go.RowKit Go.Sort Go.ChangeShapes Go.WideShapes

def zeroFlt : Flt := ⟨0, 0, 0, 0, 0, 0, 0, 0, 0⟩
theorem zero_no : ¬ MayF zeroFlt := by unfold MayF; decide +kernel
/-- Of, of whatever registers: a fault and a number; 0: the registers are just its own. -/
theorem of_res (esr far hp : Int) (h0 : 0 ≤ esr) (hf : 0 ≤ far) : ∃ (y : Flt) (g : Int), (∀ w : World, Calls Try.prog 24 #[.agg #[.int .u64 esr, .int .u64 far, .int .u64 hp]] w fun e w' => e = .returned (.tuple #[.agg y.lst.toArray, .int .i64 g]) ∧ Below w.heap.size w w') ∧
    (g = 0 ∧ y = ofF esr far ∧ MayF y ∧ y.trap = [.int .u64 esr, .int .u64 far, .int .u64 hp] ∨ g = 350 ∧ y = zeroFlt ∧ ¬ (fieldN esr 5 0 < 16 ∧ MayF (ofF esr far) ∧ (ofF esr far).trap = [.int .u64 esr, .int .u64 far, .int .u64 hp])) := by
  obtain ⟨ok, hk, hc⟩ := of_gen esr far hp h0 hf
  cases ok with
  | true =>
    obtain ⟨h1, h2, h3⟩ := hk.1 rfl
    exact ⟨ofF esr far, 0, fun w => (hc w).mono fun e w' ⟨he, hb⟩ => ⟨by rw [he, if_pos rfl], hb⟩, .inl ⟨rfl, rfl, h2, h3⟩⟩
  | false => exact ⟨zeroFlt, 350, fun w => (hc w).mono fun e w' ⟨he, hb⟩ => ⟨by rw [he, if_neg (by simp)]; rfl, hb⟩, .inr ⟨rfl, rfl, fun h => by have := hk.2 h; cases this⟩⟩

/-- Put, of whatever fault, with its numbers. -/
def PutIs (f : Flt) (a b c e : Int) : Prop := ∀ w : World, Calls Try.prog 23 #[.agg #[.int .i64 f.kd, .int .i64 f.gu, .int .i64 f.li, .int .u64 f.ipa, .int .i64 f.sz, .int .u64 f.wd, .int .i64 f.er, .int .i64 f.lv, .int .i64 f.rg]] w fun e' w' => e' = .returned (.tuple #[.agg #[.int .u64 a, .int .u64 b, .int .u64 c], .int .i64 e]) ∧ Below w.heap.size w w'
def OfIs (a b c : Int) (f : Flt) (e : Int) : Prop := ∀ w : World, Calls Try.prog 24 #[.agg #[.int .u64 a, .int .u64 b, .int .u64 c]] w fun e' w' => e' = .returned (.tuple #[.agg #[.int .i64 f.kd, .int .i64 f.gu, .int .i64 f.li, .int .u64 f.ipa, .int .i64 f.sz, .int .u64 f.wd, .int .i64 f.er, .int .i64 f.lv, .int .i64 f.rg], .int .i64 e]) ∧ Below w.heap.size w w'

set_option maxHeartbeats 4000000 in
theorem trapBack_core (f y z : Flt) (esr far hp a b c e g h a' b' c' i : Int) (HP : PutIs f a b c e) (HO : OfIs a b c y g) (HO2 : OfIs esr far hp z h) (HP2 : PutIs z a' b' c' i)
    (h1 : e = 0 ∧ y = f ∧ g = 0 ∨ (e == 0) = false) (h2 : h = 0 ∧ i = 0 ∧ a' = esr ∧ b' = far ∧ c' = hp ∨ (h != 0) = true) (w : World) :
    Calls Try.prog 4 #[.agg f.lst.toArray, .agg #[.int .u64 esr, .int .u64 far, .int .u64 hp]] w fun e w' => e = .returned (.bool true) ∧ Below w.heap.size w w' := by
  have hq : ∀ w, (binOp .neq 37 (.agg f.lst.toArray) (.agg f.lst.toArray)).run Try.prog w = .ok (.bool false) w := fun w => by rw [fault_neq, show eqLeaves f.lst f.lst = true by simp [Flt.lst, eqLeaves]]; rfl
  have hs : ∀ w, Calls Try.prog 25 #[.agg f.lst.toArray, .agg f.lst.toArray] w fun e w' => e = .returned (.bool true) ∧ Below w.heap.size w w' := fun w => by
    have := same_any f f w
    rwa [show eqLeaves f.lst f.lst = true by simp [Flt.lst, eqLeaves]] at this
  have ht := fun w => trap_eql w esr far hp esr far hp
  have HT := Lib.hid ht
  unfold Flt.lst at *
  have HQ := Lib.hid hq
  have HS := Lib.hid hs
  clear hq hs ht
  unfold PutIs at HP HP2
  unfold OfIs at HO HO2
  have KP := Lib.hid HP
  have KO := Lib.hid HO
  have KP2 := Lib.hid HP2
  have KO2 := Lib.hid HO2
  clear HP HO HP2 HO2
  rcases h1 with ⟨rfl, rfl, rfl⟩ | h1 <;> rcases h2 with ⟨rfl, rfl, rfl, rfl, rfl⟩ | h2
  ·
    go_enter Try.func4, Try.ntmps4
    go_wp2_with fail
    have hF0 := (Blk.new w 37 #[.int .i64 y.kd, .int .i64 y.gu, .int .i64 y.li, .int .u64 y.ipa, .int .i64 y.sz, .int .u64 y.wd, .int .i64 y.er, .int .i64 y.lv, .int .i64 y.rg]).alloc (.cells #[.int .u64 a', .int .u64 b', .int .u64 c'] 39)
    have hT0 := Blk.fresh (g := w.heap.size + 1) (w.alloc (.cells #[.int .i64 y.kd, .int .i64 y.gu, .int .i64 y.li, .int .u64 y.ipa, .int .i64 y.sz, .int .u64 y.wd, .int .i64 y.er, .int .i64 y.lv, .int .i64 y.rg] 37)) 39 #[.int .u64 a', .int .u64 b', .int .u64 c']
    have hB0 : RowKit.Below w.heap.size w ((w.alloc (.cells #[.int .i64 y.kd, .int .i64 y.gu, .int .i64 y.li, .int .u64 y.ipa, .int .i64 y.sz, .int .u64 y.wd, .int .i64 y.er, .int .i64 y.lv, .int .i64 y.rg] 37)).alloc (.cells #[.int .u64 a', .int .u64 b', .int .u64 c'] 39)) := bal (bal (Below.refl _ _) _) _
    generalize (w.alloc (.cells #[.int .i64 y.kd, .int .i64 y.gu, .int .i64 y.li, .int .u64 y.ipa, .int .i64 y.sz, .int .u64 y.wd, .int .i64 y.er, .int .i64 y.lv, .int .i64 y.rg] 37)).alloc (.cells #[.int .u64 a', .int .u64 b', .int .u64 c'] 39) = w0 at *
    go_wp2_with (first
      | (go_at_call 22; refine (awake35_any _).mono ?_; rintro e w1 ⟨rfl, hb1⟩; have hF1 := hF0.kept hb1; have hT1 := hT0.kept hb1; have lF1 := hF1.lt; have lT1 := hT1.lt; have cF1 := hF1.cell; have cT1 := hT1.cell)
      | (go_at_call 23; with_reducible (refine (KP.out _).mono ?_); rintro e w2 ⟨rfl, hb2⟩; have hF2 := hF1.kept hb2; have hT2 := hT1.kept hb2; clear cF1 cT1 lF1 lT1)
      | (go_at_call 24; with_reducible (refine (KO.out _).mono ?_); rintro e w3 ⟨rfl, hb3⟩; have hF3 := hF2.kept (below_alloc hb3); have hT3 := hT2.kept (below_alloc hb3); have lF3 := hF3.lt; have lT3 := hT3.lt; have cF3 := hF3.cell; have cT3 := hT3.cell; have hq := HQ.out)
      | (go_at_call 25; with_reducible (refine (HS.out _).mono ?_); rintro e w4 ⟨rfl, hb4⟩; have hF4 := hF3.kept (below_alloc hb4); have hT4 := hT3.kept (below_alloc hb4); clear cF3 cT3 lF3 lT3 hq; have cT4 := hT4.cell)
      | (go_at_call 24; with_reducible (refine (KO2.out _).mono ?_); rintro e w5 ⟨rfl, hb5⟩; have hT5 : Blk w5 (w.heap.size + 1) 39 #[.int .u64 a', .int .u64 b', .int .u64 c'] := (by first | exact hT4.kept hb5 | exact hT3.kept (below_alloc hb5)); (try clear cT4); (try clear cF3 cT3 lF3 lT3 hq))
      | (go_at_call 23; with_reducible (refine (KP2.out _).mono ?_); rintro e w6 ⟨rfl, hb6⟩; have hT6 := hT5.kept (below_alloc hb6); have lT6 := hT6.lt; have cT6 := hT6.cell; have ht := HT.out))
    go_ret
    have b1 := hB0.trans (hb1.mono hB0.size)
    have b2 := b1.trans (hb2.mono b1.size)
    have b3 := b2.trans ((below_alloc hb3).mono b2.size)
    have b4 := b3.trans ((below_alloc hb4).mono b3.size)
    have b5 := b4.trans (hb5.mono b4.size)
    have b6 := b5.trans ((below_alloc hb6).mono b5.size)
    exact ⟨rfl, bal b6 _⟩
  ·
    go_enter Try.func4, Try.ntmps4
    go_wp2_with fail
    have hF0 := (Blk.new w 37 #[.int .i64 y.kd, .int .i64 y.gu, .int .i64 y.li, .int .u64 y.ipa, .int .i64 y.sz, .int .u64 y.wd, .int .i64 y.er, .int .i64 y.lv, .int .i64 y.rg]).alloc (.cells #[.int .u64 esr, .int .u64 far, .int .u64 hp] 39)
    have hT0 := Blk.fresh (g := w.heap.size + 1) (w.alloc (.cells #[.int .i64 y.kd, .int .i64 y.gu, .int .i64 y.li, .int .u64 y.ipa, .int .i64 y.sz, .int .u64 y.wd, .int .i64 y.er, .int .i64 y.lv, .int .i64 y.rg] 37)) 39 #[.int .u64 esr, .int .u64 far, .int .u64 hp]
    have hB0 : RowKit.Below w.heap.size w ((w.alloc (.cells #[.int .i64 y.kd, .int .i64 y.gu, .int .i64 y.li, .int .u64 y.ipa, .int .i64 y.sz, .int .u64 y.wd, .int .i64 y.er, .int .i64 y.lv, .int .i64 y.rg] 37)).alloc (.cells #[.int .u64 esr, .int .u64 far, .int .u64 hp] 39)) := bal (bal (Below.refl _ _) _) _
    generalize (w.alloc (.cells #[.int .i64 y.kd, .int .i64 y.gu, .int .i64 y.li, .int .u64 y.ipa, .int .i64 y.sz, .int .u64 y.wd, .int .i64 y.er, .int .i64 y.lv, .int .i64 y.rg] 37)).alloc (.cells #[.int .u64 esr, .int .u64 far, .int .u64 hp] 39) = w0 at *
    go_wp2_with (first
      | (go_at_call 22; refine (awake35_any _).mono ?_; rintro e w1 ⟨rfl, hb1⟩; have hF1 := hF0.kept hb1; have hT1 := hT0.kept hb1; have lF1 := hF1.lt; have lT1 := hT1.lt; have cF1 := hF1.cell; have cT1 := hT1.cell)
      | (go_at_call 23; with_reducible (refine (KP.out _).mono ?_); rintro e w2 ⟨rfl, hb2⟩; have hF2 := hF1.kept hb2; have hT2 := hT1.kept hb2; clear cF1 cT1 lF1 lT1)
      | (go_at_call 24; with_reducible (refine (KO.out _).mono ?_); rintro e w3 ⟨rfl, hb3⟩; have hF3 := hF2.kept (below_alloc hb3); have hT3 := hT2.kept (below_alloc hb3); have lF3 := hF3.lt; have lT3 := hT3.lt; have cF3 := hF3.cell; have cT3 := hT3.cell; have hq := HQ.out)
      | (go_at_call 25; with_reducible (refine (HS.out _).mono ?_); rintro e w4 ⟨rfl, hb4⟩; have hF4 := hF3.kept (below_alloc hb4); have hT4 := hT3.kept (below_alloc hb4); clear cF3 cT3 lF3 lT3 hq; have cT4 := hT4.cell)
      | (go_at_call 24; with_reducible (refine (KO2.out _).mono ?_); rintro e w5 ⟨rfl, hb5⟩; have hT5 : Blk w5 (w.heap.size + 1) 39 #[.int .u64 esr, .int .u64 far, .int .u64 hp] := (by first | exact hT4.kept hb5 | exact hT3.kept (below_alloc hb5)); (try clear cT4); (try clear cF3 cT3 lF3 lT3 hq))
      | (go_at_call 23; with_reducible (refine (KP2.out _).mono ?_); rintro e w6 ⟨rfl, hb6⟩; have hT6 := hT5.kept (below_alloc hb6); have lT6 := hT6.lt; have cT6 := hT6.cell; have ht := HT.out))
    go_ret
    have b1 := hB0.trans (hb1.mono hB0.size)
    have b2 := b1.trans (hb2.mono b1.size)
    have b3 := b2.trans ((below_alloc hb3).mono b2.size)
    have b4 := b3.trans ((below_alloc hb4).mono b3.size)
    have b5 := b4.trans (hb5.mono b4.size)
    have b6 := b5.trans ((below_alloc hb6).mono b5.size)
    exact ⟨rfl, bal b6 _⟩
  ·
    go_enter Try.func4, Try.ntmps4
    go_wp2_with fail
    have hF0 := (Blk.new w 37 #[.int .i64 f.kd, .int .i64 f.gu, .int .i64 f.li, .int .u64 f.ipa, .int .i64 f.sz, .int .u64 f.wd, .int .i64 f.er, .int .i64 f.lv, .int .i64 f.rg]).alloc (.cells #[.int .u64 a', .int .u64 b', .int .u64 c'] 39)
    have hT0 := Blk.fresh (g := w.heap.size + 1) (w.alloc (.cells #[.int .i64 f.kd, .int .i64 f.gu, .int .i64 f.li, .int .u64 f.ipa, .int .i64 f.sz, .int .u64 f.wd, .int .i64 f.er, .int .i64 f.lv, .int .i64 f.rg] 37)) 39 #[.int .u64 a', .int .u64 b', .int .u64 c']
    have hB0 : RowKit.Below w.heap.size w ((w.alloc (.cells #[.int .i64 f.kd, .int .i64 f.gu, .int .i64 f.li, .int .u64 f.ipa, .int .i64 f.sz, .int .u64 f.wd, .int .i64 f.er, .int .i64 f.lv, .int .i64 f.rg] 37)).alloc (.cells #[.int .u64 a', .int .u64 b', .int .u64 c'] 39)) := bal (bal (Below.refl _ _) _) _
    generalize (w.alloc (.cells #[.int .i64 f.kd, .int .i64 f.gu, .int .i64 f.li, .int .u64 f.ipa, .int .i64 f.sz, .int .u64 f.wd, .int .i64 f.er, .int .i64 f.lv, .int .i64 f.rg] 37)).alloc (.cells #[.int .u64 a', .int .u64 b', .int .u64 c'] 39) = w0 at *
    go_wp2_with (first
      | (go_at_call 22; refine (awake35_any _).mono ?_; rintro e w1 ⟨rfl, hb1⟩; have hF1 := hF0.kept hb1; have hT1 := hT0.kept hb1; have lF1 := hF1.lt; have lT1 := hT1.lt; have cF1 := hF1.cell; have cT1 := hT1.cell)
      | (go_at_call 23; with_reducible (refine (KP.out _).mono ?_); rintro e w2 ⟨rfl, hb2⟩; have hF2 := hF1.kept hb2; have hT2 := hT1.kept hb2; clear cF1 cT1 lF1 lT1)
      | (go_at_call 24; with_reducible (refine (KO.out _).mono ?_); rintro e w3 ⟨rfl, hb3⟩; have hF3 := hF2.kept (below_alloc hb3); have hT3 := hT2.kept (below_alloc hb3); have lF3 := hF3.lt; have lT3 := hT3.lt; have cF3 := hF3.cell; have cT3 := hT3.cell; have hq := HQ.out)
      | (go_at_call 25; with_reducible (refine (HS.out _).mono ?_); rintro e w4 ⟨rfl, hb4⟩; have hF4 := hF3.kept (below_alloc hb4); have hT4 := hT3.kept (below_alloc hb4); clear cF3 cT3 lF3 lT3 hq; have cT4 := hT4.cell)
      | (go_at_call 24; with_reducible (refine (KO2.out _).mono ?_); rintro e w5 ⟨rfl, hb5⟩; have hT5 : Blk w5 (w.heap.size + 1) 39 #[.int .u64 a', .int .u64 b', .int .u64 c'] := (by first | exact hT4.kept hb5 | exact hT3.kept (below_alloc hb5)); (try clear cT4); (try clear cF3 cT3 lF3 lT3 hq))
      | (go_at_call 23; with_reducible (refine (KP2.out _).mono ?_); rintro e w6 ⟨rfl, hb6⟩; have hT6 := hT5.kept (below_alloc hb6); have lT6 := hT6.lt; have cT6 := hT6.cell; have ht := HT.out))
    go_ret
    have b1 := hB0.trans (hb1.mono hB0.size)
    have b2 := b1.trans (hb2.mono b1.size)
    have b3 := b2.trans ((below_alloc hb3).mono b2.size)
    have b5 := b3.trans ((below_alloc hb5).mono b3.size)
    have b6 := b5.trans ((below_alloc hb6).mono b5.size)
    exact ⟨rfl, bal b6 _⟩
  ·
    go_enter Try.func4, Try.ntmps4
    go_wp2_with fail
    have hF0 := (Blk.new w 37 #[.int .i64 f.kd, .int .i64 f.gu, .int .i64 f.li, .int .u64 f.ipa, .int .i64 f.sz, .int .u64 f.wd, .int .i64 f.er, .int .i64 f.lv, .int .i64 f.rg]).alloc (.cells #[.int .u64 esr, .int .u64 far, .int .u64 hp] 39)
    have hT0 := Blk.fresh (g := w.heap.size + 1) (w.alloc (.cells #[.int .i64 f.kd, .int .i64 f.gu, .int .i64 f.li, .int .u64 f.ipa, .int .i64 f.sz, .int .u64 f.wd, .int .i64 f.er, .int .i64 f.lv, .int .i64 f.rg] 37)) 39 #[.int .u64 esr, .int .u64 far, .int .u64 hp]
    have hB0 : RowKit.Below w.heap.size w ((w.alloc (.cells #[.int .i64 f.kd, .int .i64 f.gu, .int .i64 f.li, .int .u64 f.ipa, .int .i64 f.sz, .int .u64 f.wd, .int .i64 f.er, .int .i64 f.lv, .int .i64 f.rg] 37)).alloc (.cells #[.int .u64 esr, .int .u64 far, .int .u64 hp] 39)) := bal (bal (Below.refl _ _) _) _
    generalize (w.alloc (.cells #[.int .i64 f.kd, .int .i64 f.gu, .int .i64 f.li, .int .u64 f.ipa, .int .i64 f.sz, .int .u64 f.wd, .int .i64 f.er, .int .i64 f.lv, .int .i64 f.rg] 37)).alloc (.cells #[.int .u64 esr, .int .u64 far, .int .u64 hp] 39) = w0 at *
    go_wp2_with (first
      | (go_at_call 22; refine (awake35_any _).mono ?_; rintro e w1 ⟨rfl, hb1⟩; have hF1 := hF0.kept hb1; have hT1 := hT0.kept hb1; have lF1 := hF1.lt; have lT1 := hT1.lt; have cF1 := hF1.cell; have cT1 := hT1.cell)
      | (go_at_call 23; with_reducible (refine (KP.out _).mono ?_); rintro e w2 ⟨rfl, hb2⟩; have hF2 := hF1.kept hb2; have hT2 := hT1.kept hb2; clear cF1 cT1 lF1 lT1)
      | (go_at_call 24; with_reducible (refine (KO.out _).mono ?_); rintro e w3 ⟨rfl, hb3⟩; have hF3 := hF2.kept (below_alloc hb3); have hT3 := hT2.kept (below_alloc hb3); have lF3 := hF3.lt; have lT3 := hT3.lt; have cF3 := hF3.cell; have cT3 := hT3.cell; have hq := HQ.out)
      | (go_at_call 25; with_reducible (refine (HS.out _).mono ?_); rintro e w4 ⟨rfl, hb4⟩; have hF4 := hF3.kept (below_alloc hb4); have hT4 := hT3.kept (below_alloc hb4); clear cF3 cT3 lF3 lT3 hq; have cT4 := hT4.cell)
      | (go_at_call 24; with_reducible (refine (KO2.out _).mono ?_); rintro e w5 ⟨rfl, hb5⟩; have hT5 : Blk w5 (w.heap.size + 1) 39 #[.int .u64 esr, .int .u64 far, .int .u64 hp] := (by first | exact hT4.kept hb5 | exact hT3.kept (below_alloc hb5)); (try clear cT4); (try clear cF3 cT3 lF3 lT3 hq))
      | (go_at_call 23; with_reducible (refine (KP2.out _).mono ?_); rintro e w6 ⟨rfl, hb6⟩; have hT6 := hT5.kept (below_alloc hb6); have lT6 := hT6.lt; have cT6 := hT6.cell; have ht := HT.out))
    go_ret
    have b1 := hB0.trans (hb1.mono hB0.size)
    have b2 := b1.trans (hb2.mono b1.size)
    have b3 := b2.trans ((below_alloc hb3).mono b2.size)
    have b5 := b3.trans ((below_alloc hb5).mono b3.size)
    have b6 := b5.trans ((below_alloc hb6).mono b5.size)
    exact ⟨rfl, bal b6 _⟩

theorem putIs_any (f : Flt) (h0 : 0 ≤ f.ipa) : ∃ a b c e, PutIs f a b c e ∧ (MayF f ∧ e = 0 ∧ f.trap = [.int .u64 a, .int .u64 b, .int .u64 c] ∧ a = f.esr ∧ b = f.ipa ∨ ¬ MayF f ∧ e = 350 ∧ a = 0 ∧ b = 0 ∧ c = 0) := by
  by_cases h : MayF f
  · exact ⟨f.esr, f.ipa, f.ipa / 4096 * 16, 0, fun w => put_yes f h h0 w, .inl ⟨h, rfl, rfl, rfl, rfl⟩⟩
  · exact ⟨0, 0, 0, 350, fun w => put_no f h w, .inr ⟨h, rfl, rfl, rfl, rfl⟩⟩

theorem trapBack_any (f : Flt) (esr far hp : Int) (hf : 0 ≤ f.ipa) (h0 : 0 ≤ esr) (h1 : 0 ≤ far) (w : World) :
    Calls Try.prog 4 #[.agg f.lst.toArray, .agg #[.int .u64 esr, .int .u64 far, .int .u64 hp]] w fun e w' => e = .returned (.bool true) ∧ Below w.heap.size w w' := by
  obtain ⟨a, b, c, e, HP, hp1⟩ := putIs_any f hf
  have ha : 0 ≤ a := by
    rcases hp1 with ⟨hM, _, _, rfl, _⟩ | ⟨_, _, rfl, _⟩
    · exact (ofF_back f hM).1
    · exact Int.le_refl 0
  have hb : 0 ≤ b := by
    rcases hp1 with ⟨_, _, _, _, rfl⟩ | ⟨_, _, _, rfl, _⟩
    · exact hf
    · exact Int.le_refl 0
  obtain ⟨y, g, HO, hy⟩ := of_res a b c ha hb
  obtain ⟨z, h, HO2, hz⟩ := of_res esr far hp h0 h1
  have hz0 : 0 ≤ z.ipa := by
    rcases hz with ⟨_, rfl, _⟩ | ⟨_, rfl, _⟩
    · unfold ofF; simp only; split
      · exact h1
      · split <;> exact h1
    · exact Int.le_refl 0
  obtain ⟨a', b', c', i, HP2, hp2⟩ := putIs_any z hz0
  refine trapBack_core f y z esr far hp a b c e g h a' b' c' i HP HO HO2 HP2 ?_ ?_ w
  · rcases hp1 with ⟨hM, he, ht, rfl, rfl⟩ | ⟨_, rfl, _⟩
    · obtain ⟨k0, k1, k2⟩ := ofF_back f hM
      rcases hy with ⟨hg, hyf, _⟩ | ⟨_, _, hno⟩
      · exact .inl ⟨he, by rw [hyf, k2], hg⟩
      · exact absurd ⟨k1, by rw [k2]; exact hM, by rw [k2]; exact ht⟩ hno
    · exact .inr rfl
  · rcases hz with ⟨hh, _, hM, ht⟩ | ⟨rfl, _⟩
    · rcases hp2 with ⟨_, hi, ht2, _⟩ | ⟨hn, _⟩
      · rw [ht] at ht2
        simp only [List.cons.injEq, Value.int.injEq, true_and, and_true] at ht2
        exact .inl ⟨hh, hi, ht2.1.symm, ht2.2.1.symm, ht2.2.2.symm⟩
      · exact absurd hM hn
    · exact .inr rfl

theorem flat_f {cs : List Value} (h : FlatOk [.int .i64, .int .i64, .int .i64, .int .u64, .int .i64, .int .u64, .int .i64, .int .i64, .int .i64] cs) :
    ∃ f : Flt, cs = f.lst ∧ 0 ≤ f.ipa := by
  match cs, h with
  | [.int _ a, .int _ b, .int _ c, .int _ d, .int _ e, .int _ f, .int _ g, .int _ h, .int _ i], ⟨rfl, _, rfl, _, rfl, _, rfl, wd, rfl, _, rfl, _, rfl, _, rfl, _, rfl, _, _⟩ => exact ⟨⟨a, b, c, d, e, f, g, h, i⟩, rfl, wf_nonneg wd⟩
theorem flat_t {cs : List Value} (h : FlatOk [.int .u64, .int .u64, .int .u64] cs) : ∃ a b c : Int, cs = [.int .u64 a, .int .u64 b, .int .u64 c] ∧ 0 ≤ a ∧ 0 ≤ b := by
  match cs, h with
  | [.int _ a, .int _ b, .int _ c], ⟨rfl, wa, rfl, wb, rfl, _, _⟩ => exact ⟨a, b, c, rfl, wf_nonneg wa, wf_nonneg wb⟩
set_option maxRecDepth 100000 in
theorem trapBack_law : LawWalk Try.prog 4 Try.f4 := by
  intro H enc W base args ds p hval hA hlt hfz hsz
  rw [Try.params4] at hA hval
  obtain ⟨v0, v1, d0, d1, p0, p1, rfl, rfl, rfl, h0, h1⟩ := trodAll_two hA
  obtain ⟨cs, rfl, hc⟩ := open_flat flat_fault (by kernel_rfl) (hval 0 37 v0 rfl rfl) h0
  obtain ⟨f, rfl, hf⟩ := flat_f hc
  obtain ⟨cs, rfl, hc⟩ := open_flat flat_trap (by kernel_rfl) (hval 1 39 v1 rfl rfl) h1
  obtain ⟨a, b, c, rfl, ha, hb⟩ := flat_t hc
  exact trapBack_any f a b c hf ha hb W
theorem trapBack_proved : Rows.TrapBackSaid :=
  OpenClaim.holds_of_wide 4 Try.f4 rfl rfl rfl rfl rfl rfl rfl ⟨rfl, rfl, rfl, rfl, rfl⟩ rfl rfl rfl rfl rfl (by kernel_rfl) Try.func4 (by kernel_rfl)
    (of_decide_eq_true (by kernel_rfl)) (by unfold Func.isWrapper; rw [if_neg (of_decide_eq_false (by kernel_rfl))]; exact ⟨rfl, rfl⟩)
    (fun os started H enc _ => law_lifted (C := Try.checked) (s := Rows.trapBackSpec) started own laidOut (by kernel_rfl) Try.func4 rfl (n := 2) (by kernel_rfl) (fun ds h => by match ds, h with | [_, _], _ => rfl) (tb := 4) (by kernel_rfl) Try.underlying4 (by kernel_rfl)
      (ChangeSpec.witness6 (enc := enc) (C := Try.checked) false ⟨#[], #[.agg #[.int .i64 0, .int .i64 0, .int .i64 0, .int .u64 0, .int .i64 0, .int .u64 0, .int .i64 0, .int .i64 0, .int .i64 0], .agg #[.int .u64 0, .int .u64 0, .int .u64 0]], []⟩ 8 (by kernel_rfl) (by kernel_rfl) (by kernel_rfl) (by kernel_rfl)) trapBack_law)
end Go.Proofs.Ytklbdjbichfajaa
