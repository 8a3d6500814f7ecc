/- Chapter 3: a block taken into the words: what it makes, in plain words. -/
import Derived.Test.YtjcklmhkdpbbdaaDoorShaA
import Derived.Test.YtjcklmhkdpbbdaaDoorNum
import Derived.ChangeKeysEq
namespace Go.Proofs.YtjcklmhkdpbbdaaDoor
set_option linter.unusedVariables false
set_option linter.unusedSimpArgs false
open Go.RowKit Go.Sort

/-- Four bytes as a word. -/
def be4 (a b c d : Int) : BitVec 32 := BitVec.ofNat 32 (a.toNat * 16777216 + b.toNat * 65536 + c.toNat * 256 + d.toNat)
theorem be4_iw {a b c d : Int} (ha : 0 ≤ a ∧ a < 256) (hb : 0 ≤ b ∧ b < 256) (hc : 0 ≤ c ∧ c < 256) (hd : 0 ≤ d ∧ d < 256) : iw (be4 a b c d) = a * 16777216 + b * 65536 + c * 256 + d := by
  unfold iw be4; rw [BitVec.toNat_ofNat]; omega
theorem or_nat_add {x y m : Nat} (k : Nat) (hm : m = 2 ^ k) (hx : x % m = 0) (hy : y < m) : x ||| y = x + y := by subst hm; exact nat_join k x y hx hy
theorem be4_raw {a b c d : Int} (ha : 0 ≤ a ∧ a < 256) (hb : 0 ≤ b ∧ b < 256) (hc : 0 ≤ c ∧ c < 256) (hd : 0 ≤ d ∧ d < 256) :
    bits .or .u32 (bits .or .u32 (bits .or .u32 (IntKind.u32.wrap (a * 16777216)) (IntKind.u32.wrap (b * 65536))) (IntKind.u32.wrap (c * 256))) d = iw (be4 a b c d) := by
  rw [be4_iw ha hb hc hd, IntKind.wrap_u32', IntKind.wrap_u32', IntKind.wrap_u32']
  obtain ⟨a, rfl⟩ := Int.eq_ofNat_of_zero_le ha.1
  obtain ⟨b, rfl⟩ := Int.eq_ofNat_of_zero_le hb.1
  obtain ⟨c, rfl⟩ := Int.eq_ofNat_of_zero_le hc.1
  obtain ⟨d, rfl⟩ := Int.eq_ofNat_of_zero_le hd.1
  have ha := ha.2; have hb := hb.2; have hc := hc.2; have hd := hd.2
  have e1 : (a : Int) * 16777216 % 4294967296 = ((a * 16777216 : Nat) : Int) := by omega
  have e2 : (b : Int) * 65536 % 4294967296 = ((b * 65536 : Nat) : Int) := by omega
  have e3 : (c : Int) * 256 % 4294967296 = ((c * 256 : Nat) : Int) := by omega
  rw [e1, e2, e3, u32_or_nat _ _ (by omega) (by omega), or_nat_add 24 (m := 16777216) (by decide) (by omega) (by omega), u32_or_nat _ _ (by omega) (by omega), or_nat_add 16 (m := 65536) (by decide) (by omega) (by omega),
    u32_or_nat _ _ (by omega) (by omega), or_nat_add 8 (m := 256) (by decide) (by omega) (by omega)]
  omega

/-- Eight words. -/
structure V8 where
  a : BitVec 32
  b : BitVec 32
  c : BitVec 32
  d : BitVec 32
  e : BitVec 32
  f : BitVec 32
  g : BitVec 32
  h : BitVec 32
deriving DecidableEq
def V8.l (v : V8) : List (BitVec 32) := [v.a, v.b, v.c, v.d, v.e, v.f, v.g, v.h]
def encW (x : BitVec 32) : List Value := [.int .u32 (iw x)]
def V8.cs (v : V8) : List Value := [.int .u32 (iw v.a), .int .u32 (iw v.b), .int .u32 (iw v.c), .int .u32 (iw v.d), .int .u32 (iw v.e), .int .u32 (iw v.f), .int .u32 (iw v.g), .int .u32 (iw v.h)]
/-- The sixteen words of a block. -/
def w16 (bs : List Int) : List (BitVec 32) := (List.range 16).map fun i => be4 (bs.getD (4 * i) 0) (bs.getD (4 * i + 1) 0) (bs.getD (4 * i + 2) 0) (bs.getD (4 * i + 3) 0)
def nextW (l : List (BitVec 32)) : BitVec 32 := l.getD (l.length - 16) 0 + sg 7 18 3 (l.getD (l.length - 15) 0) + l.getD (l.length - 7) 0 + sg 17 19 10 (l.getD (l.length - 2) 0)
def schedN (bs : List Int) : Nat → List (BitVec 32)
  | 0 => w16 bs
  | k + 1 => schedN bs k ++ [nextW (schedN bs k)]
theorem schedN_len (bs : List Int) : ∀ k, (schedN bs k).length = 16 + k
  | 0 => by simp [schedN, w16]
  | k + 1 => by rw [schedN, List.length_append, schedN_len bs k]; rfl
theorem nextW_at {l : List (BitVec 32)} {k : Nat} (h : l.length = 16 + k) : nextW l = l.getD k 0 + sg 7 18 3 (l.getD (k + 1) 0) + l.getD (k + 9) 0 + sg 17 19 10 (l.getD (k + 14) 0) := by
  unfold nextW
  rw [h, show 16 + k - 16 = k by omega, show 16 + k - 15 = k + 1 by omega, show 16 + k - 7 = k + 9 by omega, show 16 + k - 2 = k + 14 by omega]
def roundB (k : Nat) : BitVec 32 := BitVec.ofNat 32 (roundsZ.getD k 0).toNat
theorem roundB_iw : ∀ k, k < 64 → iw (roundB k) = roundsZ.getD k 0 := by
  have h : (List.range 64).all (fun k => decide (iw (roundB k) = roundsZ.getD k 0)) = true := by decide +kernel
  intro k hk
  exact of_decide_eq_true (List.all_eq_true.1 h k (List.mem_range.2 hk))
/-- One round. -/
def rnd (v : V8) (k w : BitVec 32) : V8 :=
  ⟨v.h + sG 6 11 25 v.e + (v.g ^^^ (v.e &&& (v.f ^^^ v.g))) + k + w + (sG 2 13 22 v.a + ((v.a &&& v.b) ||| (v.c &&& (v.a ||| v.b)))), v.a, v.b, v.c, v.d + (v.h + sG 6 11 25 v.e + (v.g ^^^ (v.e &&& (v.f ^^^ v.g))) + k + w), v.e, v.f, v.g⟩
def rndN (v : V8) (W : List (BitVec 32)) : Nat → V8
  | 0 => v
  | k + 1 => rnd (rndN v W k) (roundB k) (W.getD k 0)
def addV (v z : V8) : V8 := ⟨v.a + z.a, v.b + z.b, v.c + z.c, v.d + z.d, v.e + z.e, v.f + z.f, v.g + z.g, v.h + z.h⟩
/-- A block taken in. -/
def blkV (v : V8) (bs : List Int) : V8 := addV v (rndN v (schedN bs 48) 64)
theorem ch_eq (e f g : BitVec 32) : (e &&& f) ^^^ (~~~e &&& g) = g ^^^ (e &&& (f ^^^ g)) := by
  ext i hi; simp; cases e[i] <;> cases f[i] <;> cases g[i] <;> rfl
theorem maj_eq (a b c : BitVec 32) : (a &&& b) ^^^ (a &&& c) ^^^ (b &&& c) = (a &&& b) ||| (c &&& (a ||| b)) := by
  ext i hi; simp; cases a[i] <;> cases b[i] <;> cases c[i] <;> rfl

/-- A row of 64 words of which so many are known. -/
def padW (l : List (BitVec 32)) : Array Value := ((List.range 64).map fun j => Value.int .u32 (iw (l.getD j 0))).toArray
theorem padW_size (l : List (BitVec 32)) : (padW l).size = 64 := by simp [padW]
theorem padW_at (l : List (BitVec 32)) {i : Nat} (h : i < 64) : (padW l)[i]? = some (.int .u32 (iw (l.getD i 0))) := by
  simp [padW, h]
theorem padW_set {l : List (BitVec 32)} (v : BitVec 32) (h : l.length < 64) {k : Nat} (hk : l.length = k) : (padW l).setIfInBounds k (.int .u32 (iw v)) = padW (l ++ [v]) := by
  subst hk
  unfold padW
  rw [List.setIfInBounds_toArray]
  congr 1
  refine List.ext_getElem (by simp) fun i h1 h2 => ?_
  simp only [List.length_set, List.length_map, List.length_range] at h1
  rw [List.getElem_set]
  by_cases e : l.length = i
  · subst e; simp
  · rw [if_neg e]
    simp only [List.getElem_map, List.getElem_range]
    congr 2
    rcases Nat.lt_or_ge i l.length with hlt | hge
    · simp [List.getD, List.getElem?_append_left hlt]
    · simp [List.getD, List.getElem?_eq_none hge, List.getElem?_eq_none (show (l ++ [v]).length ≤ i by simp; omega)]
theorem padW_nil : padW [] = Array.replicate 64 (.int .u32 0) := by kernel_rfl
theorem w16_step (bs : List Int) {k : Nat} (h : k < 16) : (w16 bs).take (k + 1) = (w16 bs).take k ++ [be4 (bs.getD (4 * k) 0) (bs.getD (4 * k + 1) 0) (bs.getD (4 * k + 2) 0) (bs.getD (4 * k + 3) 0)] := by
  rw [List.take_succ_eq_append_getElem (by simp [w16]; exact h)]
  simp [w16]
/-- A state's cells. -/
def stCs (h : V8) (sm : List Int) (n : Int) : List Value := h.cs ++ (sm.flatMap encB ++ [.int .u64 n])
theorem iw_eta {x : Int} (h0 : 0 ≤ x) (h1 : x < 4294967296) : x = iw (BitVec.ofNat 32 x.toNat) := by
  unfold iw; rw [BitVec.toNat_ofNat]; omega
def V8.get (v : V8) : Nat → BitVec 32
  | 0 => v.a
  | 1 => v.b
  | 2 => v.c
  | 3 => v.d
  | 4 => v.e
  | 5 => v.f
  | 6 => v.g
  | _ => v.h
theorem V8.cs_at (v : V8) {i : Nat} (h : i < 8) : v.cs[i]? = some (.int .u32 (iw (v.get i))) := by
  match i, h with
  | 0, _ => rfl
  | 1, _ => rfl
  | 2, _ => rfl
  | 3, _ => rfl
  | 4, _ => rfl
  | 5, _ => rfl
  | 6, _ => rfl
  | 7, _ => rfl
theorem run_index_arr {P : Program} {t e : TypeId} {n : Nat} {cs : Array Value} {i : Nat} {v : Value} {z : Option Value} (ht : P.underlying t = some (.array n e)) (he : P.plainKey e = true) (hs : (P.info? e).map (fun i => (i.zero, i.size)) = some (z, 1)) (hi : i < n) (hv : cs[i]? = some v) (w : World) :
    (Instr.index t (.agg cs) (.int .i64 (i : Int))).run P w = .ok v w := by
  obtain ⟨inf, h1, h2⟩ := Option.map_eq_some_iff.1 hs
  have h3 : inf.size = 1 := by simpa using congrArg Prod.snd h2
  have hb : 0 ≤ (i : Int) ∧ (i : Int) < n := by omega
  have hp := run_part_plain (w := w) he (xs := cs) (off := i) hv
  simp [Instr.index, run_underlying ht, asIntOf, hb, sizeOf, typeInfo, h1, h3, go_sem]
  rw [if_pos hi]
  simpa [sizeOf, typeInfo, h1, h3, go_sem] using hp
theorem info_u32b : (Tryd.prog.info? 34).map (fun i => (i.zero, i.size)) = some (some (.int .u32 0), 1) := by kernel_rfl
theorem index8 (a b c d e f g h : BitVec 32) {k : Nat} (hk : k < 8) (w : World) : (Instr.index 35 (.agg #[.int .u32 (iw a), .int .u32 (iw b), .int .u32 (iw c), .int .u32 (iw d), .int .u32 (iw e), .int .u32 (iw f), .int .u32 (iw g), .int .u32 (iw h)]) (.int .i64 (k : Int))).run Tryd.prog w = .ok (.int .u32 (iw ((⟨a, b, c, d, e, f, g, h⟩ : V8).get k))) w :=
  run_index_arr Tryd.underlying35 (by kernel_rfl) info_u32b hk (cs := (V8.cs ⟨a, b, c, d, e, f, g, h⟩).toArray) (by rw [List.getElem?_toArray]; exact V8.cs_at _ hk) w
/-- The first k words added. -/
def addN (v z : V8) (k : Nat) : V8 := ⟨if 0 < k then v.a + z.a else v.a, if 1 < k then v.b + z.b else v.b, if 2 < k then v.c + z.c else v.c, if 3 < k then v.d + z.d else v.d, if 4 < k then v.e + z.e else v.e, if 5 < k then v.f + z.f else v.f, if 6 < k then v.g + z.g else v.g, if 7 < k then v.h + z.h else v.h⟩
theorem addN_all (v z : V8) : addN v z 8 = addV v z := rfl
theorem addN_get (v z : V8) {k : Nat} (h : k < 8) : (addN v z k).get k = v.get k := by
  match k, h with
  | 0, _ => rfl
  | 1, _ => rfl
  | 2, _ => rfl
  | 3, _ => rfl
  | 4, _ => rfl
  | 5, _ => rfl
  | 6, _ => rfl
  | 7, _ => rfl
theorem addN_set (v z : V8) {k : Nat} (h : k < 8) (r : List Value) : ((addN v z k).cs ++ r).set k (.int .u32 (iw (v.get k + z.get k))) = (addN v z (k + 1)).cs ++ r := by
  match k, h with
  | 0, _ => rfl
  | 1, _ => rfl
  | 2, _ => rfl
  | 3, _ => rfl
  | 4, _ => rfl
  | 5, _ => rfl
  | 6, _ => rfl
  | 7, _ => rfl
end Go.Proofs.YtjcklmhkdpbbdaaDoor
