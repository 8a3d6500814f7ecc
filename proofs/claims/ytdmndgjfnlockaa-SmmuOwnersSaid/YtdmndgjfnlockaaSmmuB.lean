/- Chapter 23, the stream table: entries are put. -/
import Derived.Test.YtdmndgjfnlockaaSmmuA
namespace Go.Proofs.Ytdmndgjfnlockaa
set_option linter.unusedVariables false
open Go.RowKit Go.Sort

theorem scontains_any (A : Option Addr) (n c : Nat) (l : List Ste) (w : World) (hl : l.length = n) (hn : n ≤ 1000000) (h0 : ∀ s ∈ l, 0 ≤ s.root) (hr : Rd w w.heap.size 3 A n (l.flatMap encS)) :
    Calls Try.prog 29 #[.slice A n c, .func (.func 30) #[] #[]] w fun e w' => e = .returned (.bool (!l.all Ste.may)) ∧ Below w.heap.size w w' := by
  have HI := Lib.hid (sindex_any A n c l w hl hn h0 hr)
  generalize l.all Ste.may = m at *
  clear hl h0 hr
  go_enter Try.func29, Try.ntmps29
  go_wp2_with (go_at_call 36; refine HI.out.mono ?_; rintro e w1 ⟨⟨x, rfl, hx⟩, hb1⟩; have HX := Lib.hid hx; clear hx)
  go_ret
  exact ⟨by rw [← HX.out]; rfl, hb1⟩

theorem own_mono {w : World} {b b' : Nat} {e : TypeId} {size n : Nat} {v : Value} {xs : List Value} (h : w.ownsRow b e size v n xs) (hb : b' ≤ b) : w.ownsRow b' e size v n xs :=
  ⟨h.1, h.2.imp_right fun ⟨g, cap, cur, hv, hg, r⟩ => ⟨g, cap, cur, hv, Nat.le_trans hb hg, r⟩⟩
theorem info_u64 : (Try.prog.info? 23).map (fun i => (i.zero, i.size, i.bytes)) = some (some (.int .u64 0), 1, 8) := by kernel_rfl
theorem u64_elem : ElemInfo Try.prog 42 23 1 8 := by
  obtain ⟨i, hi, hz, hs, hb⟩ := info_parts info_u64
  exact ⟨Try.underlying42, ⟨i, _, hi, hz, hs, hb, rfl⟩, by decide⟩
theorem one_q (l : List Int) : ∀ u ∈ l.flatMap encQ, u.oneCell' = true := by
  intro u hu; obtain ⟨x, _, hx⟩ := List.mem_flatMap.1 hu; simp [encQ] at hx; subst hx; rfl

theorem putLe64_any (A A2 : Option Addr) (n c n2 c2 : Nat) (bs l : List Int) (w : World) (hl : bs.length = n) (hl2 : l.length = n2) (hm : n ≤ 100000000) (hm2 : n2 ≤ 100000000) (hx : ∀ x ∈ l, 0 ≤ x ∧ x < 18446744073709551616)
    (hr : Rd w w.heap.size 1 A n (bs.flatMap encB)) (hr2 : Rd w w.heap.size 1 A2 n2 (l.flatMap encQ)) :
    Calls Try.prog 32 #[.slice A n c, .slice A2 n2 c2] w fun e w' => ∃ A' c', e = .returned (.slice A' (n + 8 * n2) c') ∧ w'.ownsRow w.heap.size 5 1 (.slice A' (n + 8 * n2) c') (n + 8 * n2) ((bs ++ l.flatMap (bytesOf true)).flatMap encB) ∧ Below w.heap.size w w' := by
  have HP := Lib.hid (put64_any A A2 n c n2 c2 bs l true w hl hl2 hm hm2 hx hr hr2)
  clear hl hl2 hx hr hr2
  go_enter Try.func32, Try.ntmps32
  go_wp2_with (go_at_call 37; refine HP.out.mono ?_; rintro e w1 ⟨A', c', rfl, hown, hb1⟩)
  go_ret
  exact ⟨A', c', rfl, hown, hb1⟩

def Ste.first (s : Ste) : Int := if s.ok then 13 + s.id * 65536 else 0
def Ste.words (s : Ste) : List Int := [s.first, s.root]
theorem or13 : ∀ i : Fin 256, bits .or .u64 13 ((i.val : Int) * 65536) = 13 + (i.val : Int) * 65536 := by decide +kernel
theorem or13' (x : Int) (h0 : 0 ≤ x) (h1 : x ≤ 255) : bits .or .u64 13 (x * 65536) = 13 + x * 65536 := by
  have := or13 ⟨x.toNat, by omega⟩
  simpa [Int.toNat_of_nonneg h0] using this
theorem words_len (l : List Ste) : (l.flatMap Ste.words).length = 2 * l.length := by
  induction l with
  | nil => rfl
  | cons a l ih => simp only [List.flatMap_cons, List.length_append, ih, List.length_cons]; simp [Ste.words]; omega
theorem words_ok (l : List Ste) (hr : ∀ s ∈ l, 0 ≤ s.root ∧ s.root < 18446744073709551616) (hm : l.all Ste.may = true) : ∀ x ∈ l.flatMap Ste.words, 0 ≤ x ∧ x < 18446744073709551616 := by
  intro x hx
  obtain ⟨s, hs, hx⟩ := List.mem_flatMap.1 hx
  have h1 := hr s hs
  have h2 := List.all_eq_true.1 hm s hs
  simp only [Ste.words, List.mem_cons, List.not_mem_nil, or_false] at hx
  rcases hx with rfl | rfl
  · unfold Ste.first
    split
    · rename_i hok
      simp [Ste.may, hok] at h2
      omega
    · omega
  · exact h1
/-- The bytes of entries. -/
def steBytes (l : List Ste) : List Int := (l.flatMap Ste.words).flatMap (bytesOf true)
def sputOk (l : List Ste) : Bool := decide (l.length ≤ 256) && l.all Ste.may

set_option maxHeartbeats 2000000 in
theorem sput_no (A : Option Addr) (n c : Nat) (l : List Ste) (w : World) (hl : l.length = n) (hn : n ≤ 1000000) (h0 : ∀ s ∈ l, 0 ≤ s.root) (hr : Rd w w.heap.size 3 A n (l.flatMap encS)) (hp : sputOk l = false) :
    Calls Try.prog 22 #[.slice A n c] w fun e w' => e = .returned (.tuple #[.slice none 0 0, .int .i64 230]) ∧ Below w.heap.size w w' := by
  by_cases h256 : 256 < n
  · clear hr h0 hl hp
    go_enter Try.func22, Try.ntmps22
    go_wp2
    go_ret2
    exact ⟨rfl, Below.refl _ _⟩
  · have hm : l.all Ste.may = false := by
      unfold sputOk at hp
      rw [hl, show decide (n ≤ 256) = true by simp; omega] at hp
      simpa using hp
    have HC := scontains_any A n c l w hl hn h0 hr
    rw [hm] at HC
    have HC' := Lib.hid HC
    clear HC hr h0 hl hp hm
    have h256' : n ≤ 256 := by omega
    go_enter Try.func22, Try.ntmps22
    go_wp2_with (go_at_call 29; refine HC'.out.mono ?_; rintro e w1 ⟨rfl, hb1⟩)
    go_ret2
    exact ⟨rfl, hb1⟩

set_option maxHeartbeats 4000000 in
theorem sput_yes (A : Option Addr) (n c : Nat) (l : List Ste) (w : World) (hl : l.length = n) (h0 : ∀ s ∈ l, 0 ≤ s.root ∧ s.root < 18446744073709551616) (hr : Rd w w.heap.size 3 A n (l.flatMap encS)) (hp : sputOk l = true) :
    Calls Try.prog 22 #[.slice A n c] w fun e w' => ∃ A' c', e = .returned (.tuple #[.slice A' (16 * n) c', .int .i64 0]) ∧ w'.ownsRow w.heap.size 5 1 (.slice A' (16 * n) c') (16 * n) ((steBytes l).flatMap encB) ∧ Below w.heap.size w w' := by
  unfold sputOk at hp
  simp only [Bool.and_eq_true, decide_eq_true_eq] at hp
  obtain ⟨h256, hm⟩ := hp
  have HC := scontains_any A n c l w hl (by omega) (fun s hs => (h0 s hs).1) hr
  rw [hm] at HC
  have HC' := Lib.hid HC
  have HL := Lib.hid hl
  have HR := Lib.hid hr
  have H0 := Lib.hid h0
  have HM := Lib.hid hm
  have hn : n ≤ 256 := by omega
  clear HC hr h0 hl hm h256
  go_enter Try.func22, Try.ntmps22
  go_wp2_with (go_at_call 29; refine HC'.out.mono ?_; rintro e w1 ⟨rfl, hb1⟩)
  clear HC'
  go_loopw [4, 17] (fun v i wr => ∃ k : Nat, k ≤ n ∧ i = .int .i64 k ∧ ∃ A' c', v = .slice A' (2 * k) c' ∧ wr.ownsRow w.heap.size 23 1 (.slice A' (2 * k) c') (2 * k) (((l.take k).flatMap Ste.words).flatMap encQ) ∧ Below w.heap.size w wr) (fun _ i _ => n - (intOf i).toNat)
  case atStart => exact ⟨0, by omega, rfl, none, 0, rfl, World.ownsRow_nil _ _ _ _, hb1⟩
  case round =>
    obtain ⟨k, hk, rfl, A', c', rfl, hown, hb⟩ := hrel
    clear hb1
    by_cases hlt : k < n
    · have hlt' : k < l.length := by rw [HL.out]; exact hlt
      obtain ⟨b, o, rfl, hbb, hc⟩ := (HR.out.below hb).row (fun _ => rfl) hlt' HL.out
      have d0 := hc 0 (by omega)
      have d1 := hc 1 (by omega)
      have d2 := hc 2 (by omega)
      simp only [encS, Nat.add_zero, List.getElem?_cons_zero, List.getElem?_cons_succ] at d0 d1 d2
      obtain ⟨r0, r1⟩ := H0.out _ (List.getElem_mem hlt')
      have hmay := List.all_eq_true.1 HM.out _ (List.getElem_mem hlt')
      have HT := Lib.hid (List.take_succ_eq_append_getElem hlt')
      clear hc
      generalize l[k] = s at *
      obtain ⟨ok, id, root⟩ := s
      simp only at *
      have HMx := Lib.hid (show 2 * k + 2 ≤ maxLen by unfold maxLen; omega)
      have HMy := Lib.hid (show (2 * k + 2) * 8 ≤ 140737488355328 by omega)
      have hwr := hb.size
      cases ok with
      | false =>
        clear hmay
        go_wp2_with (at_builtin; refine wpList_app u64_elem rfl (.tmp 28) (.tmp 32) rfl w.heap.size ((hown.alloc _).alloc _) rfl rfl (Rd.fresh _ _ _ 2 1 _ rfl) (by simp [Value.oneCell']) HMx.out HMy.out (by simp; omega) ?_; intro v3 w3 hown3 hb3 _; obtain ⟨A3, c3, rfl, _, _⟩ := own_slice hown3)
        go_roundw
        case rel =>
          refine ⟨k + 1, by omega, by go_num, A3, c3, rfl, ?_, ((hb.alloc hb.size _).alloc (by simp; omega) _).trans hb3⟩
          rw [HT.out, List.flatMap_append, List.flatMap_append]
          exact hown3
        case measure => simp [intOf]; omega
      | true =>
        simp only [Ste.may, if_true, decide_eq_true_eq] at hmay
        obtain ⟨i0, i1, _⟩ := hmay
        have HO := Lib.hid (or13' id i0 i1)
        go_wp2_with (at_builtin; refine wpList_app u64_elem rfl (.tmp 28) (.tmp 32) rfl w.heap.size ((hown.alloc _).alloc _) rfl rfl (Rd.fresh _ _ _ 2 1 _ rfl) (by simp [Value.oneCell']) HMx.out HMy.out (by simp; omega) ?_; intro v3 w3 hown3 hb3 _; obtain ⟨A3, c3, rfl, _, _⟩ := own_slice hown3)
        go_roundw
        case rel =>
          refine ⟨k + 1, by omega, by go_num, A3, c3, rfl, ?_, ((hb.alloc hb.size _).alloc (by simp; omega) _).trans hb3⟩
          rw [HT.out, List.flatMap_append, List.flatMap_append]
          rw [HO.out] at hown3
          exact hown3
        case measure => simp [intOf]; omega
    · obtain rfl : k = n := by omega
      rw [List.take_of_length_le (by rw [HL.out]; exact Nat.le_refl _)] at hown
      have HWL := Lib.hid (show (l.flatMap Ste.words).length = 2 * k by rw [words_len, HL.out])
      have HWO := Lib.hid (words_ok l H0.out HM.out)
      have HRW := Lib.hid (Rd.of_own hown)
      go_wp2_with (go_at_call 32; refine (putLe64_any none A' 0 0 (2 * k) c' [] _ _ rfl HWL.out (by omega) (by omega) HWO.out Rd.nil HRW.out).mono ?_; rintro e w5 ⟨A5, c5, rfl, hown5, hb5⟩)
      go_ret2
      refine ⟨A5, c5, (show Ending.returned (.tuple #[.slice A5 (8 * (2 * k)) c5, .int .i64 0]) = _ from by rw [show 8 * (2 * k) = 16 * k by omega]), ?_, hb.trans (hb5.mono hb.size)⟩
      rw [show 0 + 8 * (2 * k) = 16 * k by omega] at hown5
      exact own_mono hown5 hb.size

theorem steBytes_len (l : List Ste) : (steBytes l).length = 16 * l.length := by
  unfold steBytes
  induction l with
  | nil => rfl
  | cons a l ih => simp only [List.flatMap_cons, List.flatMap_append, List.length_append, ih, List.length_cons]; simp [Ste.words, bytesOf_len]; omega

set_option maxHeartbeats 2000000 in
theorem awake23_any (w : World) :
    Calls Try.prog 17 #[] w fun e w' => e = .returned (.bool true) ∧ Below w.heap.size w w' := by
  have hb0 : (steBytes [⟨false, 0, 0⟩, ⟨true, 2, 16384⟩])[0]? = some 0 := by decide +kernel
  have hb1 : (steBytes [⟨false, 0, 0⟩, ⟨true, 2, 16384⟩])[16]? = some 13 := by decide +kernel
  have hb2 : (steBytes [⟨false, 0, 0⟩, ⟨true, 2, 16384⟩])[18]? = some 2 := by decide +kernel
  have hb3 : (steBytes [⟨false, 0, 0⟩, ⟨true, 2, 16384⟩])[25]? = some 64 := by decide +kernel
  have hbl := steBytes_len [⟨false, 0, 0⟩, ⟨true, 2, 16384⟩]
  have HB : Hid (∀ (k : Nat) (v : Int), (steBytes [⟨false, 0, 0⟩, ⟨true, 2, 16384⟩])[k]? = some v → ((steBytes [⟨false, 0, 0⟩, ⟨true, 2, 16384⟩]).flatMap encB)[k]? = some (Value.int .u8 v)) := by
    intro k v hv
    generalize steBytes [⟨false, 0, 0⟩, ⟨true, 2, 16384⟩] = l at *
    obtain ⟨hk, e⟩ := List.getElem?_eq_some_iff.1 hv
    have := flatMap_get (enc := encB) (s := 1) (fun _ => rfl) l k 0 (by omega) hk
    simpa [encB, e] using this
  have H0 := Lib.hid hb0
  have H1 := Lib.hid hb1
  have H2 := Lib.hid hb2
  have H3 := Lib.hid hb3
  clear hb0 hb1 hb2 hb3 hbl
  have HP := Lib.hid (show sputOk [⟨false, 0, 0⟩, ⟨true, 2, 16384⟩] = true by decide)
  go_enter Try.func17, Try.ntmps17
  go_wp2_with (go_at_call 22; refine (sput_yes _ 2 _ [⟨false, 0, 0⟩, ⟨true, 2, 16384⟩] _ rfl (by intro s hs; simp at hs; rcases hs with rfl | rfl <;> decide) (Rd.fresh _ _ _ 2 3 _ rfl) HP.out).mono ?_; rintro e w1 ⟨A', c', rfl, hown, hb1⟩; obtain ⟨g, cap, hv, _⟩ := hown.form (by decide); injection hv with hA _ _; subst hA; have c0 : w1.cell? ⟨g, 0, none⟩ = some (.int .u8 0) := (hown.cellAt 0 (by decide)).trans (HB.out _ _ H0.out); have c1 : w1.cell? ⟨g, 16, none⟩ = some (.int .u8 13) := (hown.cellAt 16 (by decide)).trans (HB.out _ _ H1.out); have c2 : w1.cell? ⟨g, 18, none⟩ = some (.int .u8 2) := (hown.cellAt 18 (by decide)).trans (HB.out _ _ H2.out); have c3 : w1.cell? ⟨g, 25, none⟩ = some (.int .u8 64) := (hown.cellAt 25 (by decide)).trans (HB.out _ _ H3.out))
  go_ret
  exact ⟨rfl, below_alloc hb1⟩
end Go.Proofs.Ytdmndgjfnlockaa
