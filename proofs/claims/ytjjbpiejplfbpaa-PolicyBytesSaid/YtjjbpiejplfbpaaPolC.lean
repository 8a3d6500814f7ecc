/- Chapter 25: a log, put as bytes. -/
import Derived.Test.YtjjbpiejplfbpaaPolB
import Derived.Deep.MidRow
import Derived.Deep.WholeRow
namespace Go.Proofs.Ytjjbpiejplfbpaa
set_option linter.unusedVariables false
open Go.RowKit Go.Sort

def lputOk (l : List Rc) : Bool := decide (l.length ≤ 64) && l.all Rc.may
def logBytes (l : List Rc) : List Int := bytesN 4 false l.length ++ l.flatMap Rc.bytes
theorem logBytes_len {l : List Rc} (h : RcsOk l) : (logBytes l).length = 4 + 44 * l.length := by
  unfold logBytes
  rw [List.length_append, bytesN_len]
  congr 1
  induction l with
  | nil => rfl
  | cons a l ih =>
    rw [List.flatMap_cons, List.length_append, Rc.bytes_len (h a (List.mem_cons_self ..)), ih (fun x hx => h x (List.mem_cons_of_mem _ hx))]
    simp only [List.length_cons]; omega
theorem rows_apart {w : World} {b0 b1 : Nat} {e e' : TypeId} {s s' n n' : Nat} {v v' : Value} {xs xs' : List Value} (h : w.ownsRow b0 e s v n xs) (h' : w.ownsRow b1 e' s' v' n' xs') (hne : e ≠ e') {k : Nat} (hk : v.ownBlock = some k) : v'.ownBlock ≠ some k := by
  intro hk'
  rcases h.2 with ⟨rfl, _⟩ | ⟨g, c, cur, rfl, _, hh, _⟩
  · simp [Value.ownBlock] at hk
  · rcases h'.2 with ⟨rfl, _⟩ | ⟨g', c', cur', rfl, _, hh', _⟩
    · simp [Value.ownBlock] at hk'
    · simp [Value.ownBlock] at hk hk'
      subst hk hk'
      rw [hh] at hh'
      injection hh' with hh'
      injection hh' with _ ht
      exact hne ht
/-- A part of the call's own. -/
def PtOwn (w : World) (p : Pt) : Prop := p.bs.length = p.n ∧ w.ownsRow 0 5 1 (.slice p.A p.n p.c) p.n (p.bs.flatMap encB)
theorem PtOwn.ok {w : World} {p : Pt} (h : PtOwn w p) : PtOk w w.heap.size p := ⟨h.1, Rd.of_own h.2⟩
theorem PtOwn.kept {w w' : World} {p : Pt} (h : PtOwn w p) (hb : Below w.heap.size w w') : PtOwn w' p := ⟨h.1, own_kept h.2 hb⟩
theorem PtOwn.grown {w w' : World} {p : Pt} (h : PtOwn w p) {b s n : Nat} {v : Value} {xs : List Value} (ho : w.ownsRow b 39 s v n xs) (hg : w.grownBy w' v.ownBlock) : PtOwn w' p :=
  ⟨h.1, own_same h.2 fun k hk => hg.block k (own_lt h.2 hk).2 (fun e => rows_apart h.2 ho (by decide) hk e.symm)⟩

def zRc : Array Value := #[.int .i64 0, .int .i64 0, .int .i64 0] ++ Array.replicate 32 (.int .u8 0)
theorem info_recz : (Try.prog.info? 69).map (fun i => (i.zero, i.size)) = some (some (.agg zRc), 35) := by kernel_rfl
theorem zero_rec : ∃ Z : Array Value, Z.size = 35 ∧ (∀ w, (zeroValue 69).run Try.prog w = .ok (.agg Z) w) ∧ (Try.prog.info? 69).map (·.size) = some 35 :=
  ⟨zRc, by decide +kernel, (zero_of_info info_recz).1, (zero_of_info info_recz).2⟩
theorem store_rec {Z : Array Value} (hZ : Z.size = 35) (hi : (Try.prog.info? 69).map (·.size) = some 35) {cs : List Value} (hl : cs.length = 35) (h1 : ∀ u ∈ cs, u.oneCell' = true) (w : World) :
    (storeCells ⟨w.heap.size, 0, none⟩ cs 0).run Try.prog (w.alloc (.cells Z 69)) = .ok () (w.alloc (.cells cs.toArray 69)) := by
  have := run_storeCells_new (P := Try.prog) w 69 Z cs.toArray (by simpa [hl] using hi) (by simp [hl, hZ]) (all_oneCell_toArray h1)
  simpa using this
/-- A log as bytes, or refused. -/
def LputRes (l : List Rc) (n : Nat) (w : World) (e : Ending) (w' : World) : Prop :=
  (lputOk l = true ∧ (∃ A' c', e = .returned (.tuple #[.slice A' (4 + 44 * n) c', .int .i64 0]) ∧ w'.ownsRow w.heap.size 5 1 (.slice A' (4 + 44 * n) c') (4 + 44 * n) ((logBytes l).flatMap encB)) ∨ lputOk l = false ∧ e = .returned (.tuple #[.slice none 0 0, .int .i64 250])) ∧ Below w.heap.size w w'

set_option maxRecDepth 100000 in
set_option maxHeartbeats 4000000 in
theorem putLog_any (A : Option Addr) (n c : Nat) (l : List Rc) (w : World) (hl : l.length = n) (hn : n ≤ 100000) (h0 : RcsOk l) (hr : Rd w w.heap.size 35 A n (l.flatMap Rc.cs)) :
    Calls Try.prog 22 #[.slice A n c] w (LputRes l n w) := by
  have HL := Lib.hid hl
  have HR := Lib.hid hr
  have H0 := Lib.hid h0
  have HLen := Lib.hid (logBytes_len h0)
  have HC := Lib.hid (rcontains_any A n c l w hl (by omega) h0 hr)
  clear hl hr h0
  by_cases h64 : n ≤ 64
  · cases hm : l.all Rc.may with
    | false =>
      have HNo := Lib.hid (show lputOk l = false by unfold lputOk; rw [hm]; simp)
      rw [hm] at HC
      clear hm
      go_enter Try.func22, Try.ntmps22
      go_wp2_with (go_at_call 35; refine HC.out.mono ?_; rintro e w1 ⟨rfl, hb1⟩)
      go_ret2
      exact ⟨.inr ⟨HNo.out, rfl⟩, hb1⟩
    | true =>
      have HYes := Lib.hid (show lputOk l = true by unfold lputOk; rw [hm, HL.out]; simpa using h64)
      rw [hm] at HC
      clear hm
      have HPB := Lib.hid (fun W A (h : Rd W W.heap.size 1 A 1 ([(n : Int)].flatMap encU32)) => putBe32_any none A 0 0 1 1 [] [(n : Int)] W rfl rfl (by decide) (by decide) (by intro x hx; simp at hx; subst hx; omega) Rd.nil h)
      have u0 : IntKind.u32.wrap (n : Int) = (n : Int) := by rw [IntKind.wrap_u32']; omega
      go_enter Try.func22, Try.ntmps22
      go_wp2_with (first
        | (go_at_call 35; refine HC.out.mono ?_; rintro e w1 ⟨rfl, hb1⟩)
        | (go_at_call 38; refine (HPB.out _ _ (Rd.fresh _ _ _ 1 1 _ rfl)).mono ?_; rintro e w2 ⟨A2, x2, rfl, hown2, hb2⟩))
      have hb12 := hb1.trans ((below_alloc hb2).mono hb1.size)
      have hz2 : w.heap.size ≤ w2.heap.size := hb12.size
      have hP0 : PtOwn w2 ⟨A2, 4, x2, bytesN 4 false n⟩ := ⟨bytesN_len _ _ _, own_le_base (by simpa using hown2) (Nat.zero_le _)⟩
      have HP0 := Lib.hid (hP0.kept (bal (Below.refl w2.heap.size w2) (.cells #[.slice A2 4 x2] 39)))
      have HO0 := Lib.hid (show (w2.alloc (.cells #[.slice A2 4 x2] 39)).ownsRow w.heap.size 39 1 (.slice (some ⟨w2.heap.size, 0, none⟩) 1 1) 1 [.slice A2 4 x2] from
        ⟨rfl, .inr ⟨w2.heap.size, 1, #[.slice A2 4 x2], rfl, hz2, heap_alloc_new w2 _, Nat.le_refl _, by unfold maxLen; omega, rfl, rfl⟩⟩)
      have HB0 := Lib.hid (bal hb12 (.cells #[.slice A2 4 x2] 39))
      clear hP0 hown2 hb2 hb1 hb12
      go_loopw [4, 22] (fun v i wr => ∃ k : Nat, k ≤ n ∧ i = .int .i64 k ∧ ∃ (A' : Option Addr) (c' : Nat) (PP : List Pt), v = .slice A' (k + 1) c' ∧ wr.ownsRow w.heap.size 39 1 (.slice A' (k + 1) c') (k + 1) (PP.flatMap encPt) ∧ Hid (PP.map (·.bs) = bytesN 4 false n :: (l.take k).map Rc.bytes) ∧ Hid (∀ p ∈ PP, PtOwn wr p) ∧ Below w.heap.size w wr) (fun _ i _ => n - (intOf i).toNat)
      case atStart => exact ⟨0, by omega, rfl, _, _, [⟨A2, 4, x2, bytesN 4 false n⟩], rfl, HO0.out, Lib.hid rfl, Lib.hid (fun p hp => by simp at hp; subst hp; exact HP0.out), HB0.out⟩
      case round =>
        obtain ⟨k, hk, rfl, A', c', PP, rfl, ho, hpp, hown, hb⟩ := hrel
        clear HO0 HP0 HB0
        by_cases hlt : k < n
        · have hlt' : k < l.length := by rw [HL.out]; exact hlt
          obtain ⟨b, o, rfl, hbb, hc⟩ := (HR.out.below hb).range (fun r hr => Rc.len (H0.out r hr)) hlt' HL.out
          have HRg := Lib.hid hc
          have HT := Lib.hid (List.take_succ_eq_append_getElem hlt')
          have hok := H0.out _ (List.getElem_mem hlt')
          have hB := hb.size
          clear hc
          generalize l[k] = r at *
          have HLn := Lib.hid (Rc.len hok)
          have hsz : r.cs.toArray.size = 35 := by simp [Rc.len hok]
          have HM := Lib.hid (fun W => measPut_any r hok W)
          have HRb : Hid ((wr.alloc (.cells r.cs.toArray 69)).rangeAt wr.heap.size 0 r.cs) := Lib.hid fun j v hv => by
            rw [Nat.zero_add, (Blk.new wr 69 r.cs.toArray).cell j]; simpa using hv
          have HMx := Lib.hid (show k + 1 + 1 ≤ maxLen by unfold maxLen; omega)
          have HMy := Lib.hid (show (k + 1 + 1) * 24 ≤ 140737488355328 by omega)
          obtain ⟨Z, hZ, hz0, hZi⟩ := zero_rec
          have hst := store_rec hZ hZi HLn.out (Rc.one r)
          clear hZi
          go_wp2_with (first
            | (refine wpList_load_mid rfl 69 (.tmp 24) rfl b (o + k * 35) (by rfl) r.cs _ HRg.out Try.underlying69 rfl (by rw [HLn.out]; kernel_rfl) ?_)
            | (refine wpList_load_mid rfl 69 (.tmp 6) rfl wr.heap.size 0 (by rfl) r.cs _ HRb.out Try.underlying69 rfl (by rw [HLn.out]; kernel_rfl) ?_)
            | (go_at_call 39; refine (HM.out _).mono ?_; rintro e w3 ⟨A3, x3, rfl, hown3, hb3⟩; have hb4 := hb.trans ((below_alloc hb3).mono hB); have ho3 := own_kept (ho.alloc _) hb3; have hz3 := hb4.size)
            | (at_builtin; refine wpList_app sl_elem rfl (.tmp 26) (.tmp 29) rfl w.heap.size (ho3.alloc _) rfl rfl (Rd.fresh _ _ _ 1 1 _ rfl) (by simp [Value.oneCell']) HMx.out HMy.out (by simp; omega) ?_; intro v5 w5 hown5 hb5 hgr; obtain ⟨A5, c5, rfl, _, _⟩ := own_slice hown5))
          go_roundw
          case rel =>
            refine ⟨k + 1, by omega, by go_num, A5, c5, PP ++ [⟨A3, 44, x3, r.bytes⟩], rfl, ?_, Lib.hid ?_, Lib.hid fun p hp => ?_, (bal' hb4 _ hz3).trans hb5⟩
            · rw [List.flatMap_append]; exact hown5
            · rw [List.map_append, hpp.out, HT.out, List.map_append]; rfl
            · rcases List.mem_append.1 hp with hp | hp
              · exact ((((hown.out p hp).kept (bal (Below.refl _ _) _)).kept hb3).kept (bal (Below.refl _ _) _)).grown (ho3.alloc _) hgr
              · simp only [List.mem_cons, List.not_mem_nil, or_false] at hp
                subst hp
                exact (PtOwn.kept (p := ⟨A3, 44, x3, r.bytes⟩) ⟨Rc.bytes_len hok, own_le_base hown3 (Nat.zero_le _)⟩ (bal (Below.refl _ _) _)).grown (ho3.alloc _) hgr
          case measure => simp [intOf]; omega
        · obtain rfl : k = n := by omega
          have hpp' := hpp.out
          rw [List.take_of_length_le (by rw [HL.out]; exact Nat.le_refl _)] at hpp'
          have hPL : PP.length = k + 1 := by
            have := congrArg List.length hpp'
            simpa [HL.out] using this
          have hcat : catN PP = logBytes l := by
            have : catN PP = (PP.map (·.bs)).flatten := by unfold catN; rw [List.flatMap_def]
            rw [this, hpp', List.flatten_cons, ← List.flatMap_def]
            unfold logBytes
            rw [HL.out]
          have HCat := Lib.hid (cat_any A' (k + 1) c' PP wr hPL (by omega) (Rd.of_own ho) (fun p hp => (hown.out p hp).ok) (N := 4 + 44 * k) (by rw [hcat, HLen.out, HL.out]) (by omega))
          rw [hcat] at HCat
          clear hpp' hPL hcat
          go_wp2_with (go_at_call 40; refine HCat.out.mono ?_; rintro e w5 ⟨A5, x5, rfl, hown5, hb5⟩)
          go_ret2
          exact ⟨.inl ⟨HYes.out, A5, x5, rfl, own_le_base hown5 hb.size⟩, hb.trans (hb5.mono hb.size)⟩
  · have HNo := Lib.hid (show lputOk l = false by unfold lputOk; rw [HL.out, decide_eq_false h64]; rfl)
    have h64' : 64 < n := by omega
    clear h64
    go_enter Try.func22, Try.ntmps22
    go_wp2
    go_ret2
    exact ⟨.inr ⟨HNo.out, rfl⟩, Below.refl _ _⟩
end Go.Proofs.Ytjjbpiejplfbpaa
