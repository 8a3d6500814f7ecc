/- append of made bytes onto a row of the call's own. -/
import Derived.Test.YtmhbpfclfffgkaaBytes
import Derived.Lib.AppendZeros
import Derived.Lib.AppendZerosOnto
import Derived.Test.YtmhbpfclfffgkaaNear
import Derived.Lib.ConvBytes
import Derived.Lib.AppendStr
namespace Go.Proofs.Ytmhbpfclfffgkaa
set_option linter.unusedVariables false
set_option linter.unusedSimpArgs false
open Go.RowKit

theorem zeroCells_b (n : Nat) : (Builtin.zeroCells #[Value.int .u8 0] n).toList = List.replicate n (.int .u8 0) := by
  induction n with
  | zero => simp [Builtin.zeroCells]
  | succ n ih =>
    rw [List.replicate_succ', ← ih]
    simp [Builtin.zeroCells, List.range_succ, Nat.mod_one]
theorem flatB_zeros (k : Nat) : (List.replicate k (0 : Int)).flatMap encB = List.replicate k (.int .u8 0) := by
  induction k with
  | zero => rfl
  | succ k ih => rw [List.replicate_succ, List.flatMap_cons, ih]; rfl
theorem run_app_zeros (w : World) (base : Nat) (ty : TypeId) (v : Value) (n k : Nat) (xs : List Int) (hxs : xs.length = n) (hown : w.ownsRow base 5 1 v n (xs.flatMap encB)) (hk : n + k ≤ 100000000) (hbase : base ≤ w.heap.size) :
    ∃ v' w', (Builtin.append_ #[22, 3] ty #[v, .int .i64 (k : Int)]).run Try.prog w = .ok v' w' ∧ w'.ownsRow base 5 1 v' (n + k) ((xs ++ List.replicate k 0).flatMap encB) ∧ Below base w w' ∧ w.grownBy w' v.ownBlock := by
  obtain ⟨i, hi, hz, hs, hb⟩ := info_parts info_u8
  have ht := Try.underlying22
  have htn := Try.underlying3
  have hw : IntKind.i64.wrap (k : Int) = k := by rw [IntKind.wrap_i64]; omega
  have hneg : ¬ ((k : Int) < 0) := by omega
  have hlen : ((xs ++ List.replicate k 0).flatMap encB).length = n + k := by rw [flatB_len]; simp [hxs]
  have hsum : (xs ++ List.replicate k 0).flatMap encB = xs.flatMap encB ++ List.replicate k (.int .u8 0) := by rw [List.flatMap_append, flatB_zeros]
  have hbel : ∀ w', w.grownBy w' v.ownBlock → Below base w w' := fun w' hg => (Below.refl base w).grown hg hbase (fun j hj => (hown.lt j hj).1)
  rcases Nat.eq_zero_or_pos k with h0 | h0
  · subst h0
    have hx0 : xs ++ List.replicate 0 0 = xs := by simp
    rw [hx0, Nat.add_zero]
    refine ⟨v, w, ?_, hown, Below.refl _ _, World.grownBy.refl w _⟩
    rcases hown.2 with ⟨rfl, rfl⟩ | ⟨g, cap, cur, rfl, hbg, hg, hnc, hcm, hcs, htake⟩
    · simp [Builtin.append_, run_underlying ht, run_underlying htn, sizeOf, typeInfo, hi, asInt, asIntOf, hs, show IntKind.i64.wrap 0 = 0 from rfl]
    · simp [Builtin.append_, run_underlying ht, run_underlying htn, sizeOf, typeInfo, hi, asInt, asIntOf, hs, hnc, storeCells, show IntKind.i64.wrap 0 = 0 from rfl]
  · have grown : ∀ (old : Nat), old < n + k → ∀ (row : Option Nat),
        (w.drew.alloc (.cells ((xs.flatMap encB).toArray ++ Builtin.zeroCells (Value.int .u8 0).cells k ++ Builtin.zeroCells (Value.int .u8 0).cells (grownCap w (n + k) old 5 - (n + k))) 5)).ownsRow base 5 1
          (.slice (some ⟨w.heap.size, 0, none⟩) (n + k) (grownCap w (n + k) old 5)) (n + k) ((xs ++ List.replicate k 0).flatMap encB) ∧
        w.grownBy (w.drew.alloc (.cells ((xs.flatMap encB).toArray ++ Builtin.zeroCells (Value.int .u8 0).cells k ++ Builtin.zeroCells (Value.int .u8 0).cells (grownCap w (n + k) old 5 - (n + k))) 5)) row := by
      intro old ho row
      have hge := grownCap_ge w (n + k) old 5
      have hcm : grownCap w (n + k) old 5 ≤ maxLen := grownCap_le_maxLen w (n + k) old 5 (by unfold maxLen; omega)
      refine ⟨⟨by omega, .inr ⟨w.heap.size, _, _, rfl, hbase, heap_alloc_new w.drew _, hge, hcm, ?_, ?_⟩⟩, ⟨rfl, rfl, rfl, by simp, fun j hj _ => heap_alloc_old w.drew _ hj⟩⟩
      · have : (xs.flatMap encB).length = n := by rw [flatB_len, hxs]
        have z1 : (Value.int .u8 0).cells.size = 1 := rfl
        simp only [Array.size_append, List.size_toArray, size_zeroCells, z1, this]
        omega
      · have z2 : (Value.int .u8 0).cells = #[.int .u8 0] := rfl
        rw [hsum] at hlen ⊢
        simp only [Array.toList_append, z2, zeroCells_b, List.append_assoc]
        rw [← List.append_assoc, Nat.mul_one, ← hlen]
        exact List.take_left
    rcases hown.2 with ⟨rfl, rfl⟩ | ⟨g, cap, cur, rfl, hbg, hg, hnc, hcm, hcs, htake⟩
    · obtain rfl := List.eq_nil_of_length_eq_zero hxs
      have hr := Lib.run_append_nil_zeros (P := Try.prog) w 22 3 ty 5 i _ .i64 .i64 ht htn hi hz k h0 (by rw [hs]; decide) (by omega) (by rw [hb]; omega)
      have hgr := grown 0 (by omega) (Value.ownBlock (.slice none 0 0))
      simp only [Nat.zero_add, List.flatMap_nil, Array.empty_append] at hgr ⊢
      exact ⟨_, _, hr, hgr.1, hbel _ hgr.2, hgr.2⟩
    · by_cases hroom : n + k ≤ cap
      · have hst := run_storeCells_at Try.prog g n 5 (List.replicate k (.int .u8 0)) 0 cur w hg (by simp at hcs ⊢; omega) (fun u hu => by rw [List.eq_of_mem_replicate hu]; rfl)
        simp only [Nat.add_zero] at hst
        have hkn : ¬ (k = 0) := by omega
        have h48 : ¬ (281474976710656 < (k : Int)) := by omega
        have z2 : (Value.int .u8 0).cells = #[.int .u8 0] := rfl
        have hr : (Builtin.append_ #[22, 3] ty #[.slice (some ⟨g, 0, none⟩) n cap, .int .i64 (k : Int)]).run Try.prog w = .ok (.slice (some ⟨g, 0, none⟩) (n + k) cap) (w.setRow g (cur.toList.take n ++ List.replicate k (Value.int .u8 0) ++ cur.toList.drop (n + (List.replicate k (Value.int .u8 0)).length)).toArray) := by
          simp [Builtin.append_, run_underlying ht, run_underlying htn, sizeOf, typeInfo, hi, asInt, asIntOf, hs, hw, hneg, hroom, zeroValue, hz, z2, zeroCells_b, Addr.add_lit, hst, hkn, hb, h48]
        refine ⟨_, _, hr, ⟨by omega, .inr ⟨g, cap, _, rfl, hbg, setRow_heap w g cur _ 5 _ hg, hroom, hcm, ?_, ?_⟩⟩, hbel _ ?_, ?_⟩
        · simp only [List.size_toArray, List.length_append, List.length_take, List.length_drop, Array.length_toList, List.length_replicate]
          omega
        · rw [hsum] at hlen ⊢
          have ht2 : cur.toList.take n = xs.flatMap encB := by simpa using htake
          rw [ht2]
          simp only [Nat.mul_one]
          rw [← hlen]
          exact List.take_left
        all_goals exact ⟨rfl, rfl, rfl, by simp, fun j _ hj => setRow_other w g j _ (fun e => hj (by simp [Value.ownBlock, e]))⟩
      · have holds : ∀ j u, (xs.flatMap encB)[j]? = some u → w.drew.cell? ((⟨g, 0, none⟩ : Addr).add j) = some u := (own_kept hown (Below.refl _ _).drew).cells (g := g) rfl
        have hf := run_firstCells_some (P := Try.prog) w.drew i.size n ⟨g, 0, none⟩ n cap (xs.flatMap encB) (by rw [hs, flatB_len, hxs]; omega) holds
        have hr := Lib.run_append_grow_zeros (P := Try.prog) w 22 3 ty 5 i _ .i64 .i64 ht htn hi hz (some ⟨g, 0, none⟩) n cap _ hf k h0 (by rw [hs]; decide) (by omega) (by omega) (by rw [hb]; omega) (by rw [hb]; exact growslice_fits (by omega) (by omega))
        have hgr := grown cap (by omega) (Value.ownBlock (.slice (some ⟨g, 0, none⟩) n cap))
        exact ⟨_, _, hr, hgr.1, hbel _ hgr.2, hgr.2⟩
end Go.Proofs.Ytmhbpfclfffgkaa
namespace Go.Proofs.Ytmhbpfclfffgkaa
set_option linter.unusedVariables false
set_option linter.unusedSimpArgs false
open Go.RowKit

/-- A text's bytes. -/
def strB (s : ByteArray) : List Int := s.data.toList.map fun b => (b.toNat : Int)
theorem strB_len (s : ByteArray) : (strB s).length = s.size := by simp [strB]
theorem strB_ok (s : ByteArray) : BytesOk (strB s) := by
  intro x hx
  obtain ⟨b, _, rfl⟩ := List.mem_map.1 hx
  have := b.toNat_lt
  omega
theorem flatB_map (l : List Int) : l.flatMap encB = l.map (Value.int .u8) := by
  induction l with
  | nil => rfl
  | cons x l ih => simp [encB, ih]
/-- A row that is one string's bytes, and room. -/
def StrRow (w : World) (base g cap n : Nat) (bs : List Int) : Prop :=
  ∃ cur fz, w.heap[g]? = some (.cells cur 5 fz) ∧ cur.size ≤ fz.1 ∧ cur.size = cap ∧ n ≤ cap ∧ cap ≤ maxLen ∧ bs.length = n ∧ cur.toList.take n = bs.flatMap encB ∧ base ≤ g
theorem StrRow.kept {w w' : World} {base g cap n : Nat} {bs : List Int} (h : StrRow w base g cap n bs) (e : w'.heap[g]? = w.heap[g]?) : StrRow w' base g cap n bs := by
  obtain ⟨cur, fz, h1, h2⟩ := h
  exact ⟨cur, fz, e.trans h1, h2⟩
theorem conv_row (w : World) (s : ByteArray) (hs : s.size ≤ maxLen) : (convert 9 22 (.string s)).run Try.prog w = .ok (.slice (some ⟨w.heap.size, 0, none⟩) s.size (grownCap w s.size 0 5)) (Lib.bytesWorld w 5 s) ∧
    StrRow (Lib.bytesWorld w 5 s) w.heap.size w.heap.size (grownCap w s.size 0 5) s.size (strB s) ∧ Below w.heap.size w (Lib.bytesWorld w 5 s) := by
  have hge := grownCap_ge w s.size 0 5
  have hle := grownCap_le_maxLen w s.size 0 5 hs
  have hsz : (Lib.bytesCells w 5 s).size = grownCap w s.size 0 5 := by
    have : s.data.size = s.size := rfl
    simp [Lib.bytesCells, this]
    omega
  refine ⟨Lib.run_convert_string_bytes w 9 22 5 s Try.underlying9 Try.underlying22 Try.underlying5, ⟨_, _, Lib.bytesWorld_at_new w 5 s, ?_, hsz, hge, hle, strB_len s, ?_, Nat.le_refl _⟩, ⟨rfl, rfl, rfl, ?_, fun j hj => Lib.bytesWorld_at_old w 5 s j hj⟩⟩
  · simp
  · have hd : s.data.toList.length = s.size := rfl
    rw [flatB_map]
    simp only [Lib.bytesCells, strB, Array.toList_append, Array.toList_map, List.map_map]
    rw [List.take_left' (by simp [hd])]
    rfl
  · rw [Lib.bytesWorld_size]; omega
theorem run_app0 (w : World) (ty : TypeId) (base g cap n c : Nat) (a : Addr) (bs : List Int) (x : Int) (h : StrRow w base g cap n bs) (hsrc : w.cell? a = some (.int .u8 x)) (hn : n ≤ 50000000) (hbase : base ≤ w.heap.size) :
    ∃ A' c' w', (Builtin.append_ #[22, 22] ty #[.slice (some ⟨g, 0, none⟩) n cap, .slice (some a) 1 c]).run Try.prog w = .ok (.slice A' (n + 1) c') w' ∧ n + 1 ≤ c' ∧ c' ≤ maxLen ∧ Rd w' w'.heap.size 1 A' (n + 1) ((bs ++ [x]).flatMap encB) ∧ Below base w w' ∧ ∃ b o cs fz, A' = some ⟨b, o, none⟩ ∧ w'.heap[b]? = some (.cells cs 5 fz) := by
  obtain ⟨cur, fz, hg, hfz, hcs, hnc, hcm, hbl, htake, hbg⟩ := h
  obtain ⟨i, hi, hz, hs, hb⟩ := info_parts info_u8
  have ht := Try.underlying22
  have hgl := (Array.getElem?_eq_some_iff.1 hg).1
  have hf := run_firstCells_some (P := Try.prog) w i.size 1 a 1 c [.int .u8 x] (by rw [hs]; rfl) (fun j u hj => by
    cases j with
    | zero => simp at hj; subst hj; simpa [Addr.add] using hsrc
    | succ j => simp at hj)
  have hread : ∀ j u, (bs.flatMap encB)[j]? = some u → cur[j]? = some u := fun j u hj => by
    have hjl : j < n := by
      have := (List.getElem?_eq_some_iff.1 hj).1
      rwa [flatB_len, hbl] at this
    rw [← htake, List.getElem?_take, if_pos hjl] at hj
    simpa using hj
  by_cases hroom : n + 1 ≤ cap
  · have hfr : w.frozen? ⟨g, n, none⟩ = false := by
      simp [World.frozen?, hg]
      omega
    have hcell : w.cell? ⟨g, n, none⟩ = some (cur[n]'(by omega)) := by simp [World.cell?, hg, show n < cur.size by omega]
    have hadd : ((⟨g, 0, none⟩ : Addr).add n).add 0 = ⟨g, n, none⟩ := by cases n <;> simp [Addr.add]
    have hst : (storeCells ((⟨g, 0, none⟩ : Addr).add n) [.int .u8 x]).run Try.prog w = .ok () (w.setCell ⟨g, n, none⟩ (.int .u8 x)) := by
      simp only [storeCells, hadd, Sem.run_bind]
      rw [run_store Try.prog w _ (.int .u8 x) _ rfl, hcell]
      simp [hfr]
    refine ⟨some ⟨g, 0, none⟩, cap, w.setCell ⟨g, n, none⟩ (.int .u8 x), ?_, hroom, hcm, ?_, (Below.refl base w).setCell (p := ⟨g, n, none⟩) hbg _, g, 0, cur.setIfInBounds n (.int .u8 x), fz, rfl, by rw [setCell_eq_setRow w g n cur 5 fz _ hg]; exact setRow_heap w g cur _ 5 fz hg⟩
    · rw [hs] at hf
      simp [Builtin.append_, run_underlying ht, sizeOf, typeInfo, hi, Builtin.lenOf, hroom, hf, hs, hst]
    · have hcells : (w.setCell ⟨g, n, none⟩ (.int .u8 x)).heap[g]? = some (.cells (cur.setIfInBounds n (.int .u8 x)) 5 fz) := by
        rw [setCell_eq_setRow w g n cur 5 fz _ hg]
        exact setRow_heap w g cur _ 5 fz hg
      refine ⟨by rw [flatB_len]; simp [hbl], fun _ => ⟨g, 0, rfl, by simpa using hgl, fun j u hj => ?_⟩⟩
      rw [Nat.zero_add]
      unfold World.cell?
      simp only [hcells]
      rw [Array.getElem?_setIfInBounds]
      rw [List.flatMap_append] at hj
      by_cases hjn : j = n
      · rw [hjn] at hj ⊢
        rw [List.getElem?_append_right (by rw [flatB_len, hbl]; exact Nat.le_refl _), flatB_len, hbl] at hj
        simp [encB] at hj
        simp [show n < cur.size by omega, hj]
      · have hne : ¬ n = j := fun e => hjn e.symm
        simp only [hne, if_false]
        have hjl : j < n := by
          have := (List.getElem?_eq_some_iff.1 hj).1
          rw [List.length_append, flatB_len, hbl] at this
          simp [encB] at this
          omega
        rw [List.getElem?_append_left (by rw [flatB_len, hbl]; exact hjl)] at hj
        exact hread j u hj
  · have hnoroom : cap < n + 1 := by omega
    have holds : ∀ j u, (bs.flatMap encB)[j]? = some u → w.cell? ((⟨g, 0, none⟩ : Addr).add j) = some u := fun j u hj => by
      rw [show ((⟨g, 0, none⟩ : Addr).add j) = ⟨g, j, none⟩ by cases j <;> simp [Addr.add]]
      simp only [World.cell?, hg]
      exact hread j u hj
    have hr := run_append_grow (P := Try.prog) w 22 ty 5 i _ ht hi hz ⟨g, 0, none⟩ n cap (bs.flatMap encB) (by rw [hs, flatB_len, hbl]; omega) holds a 1 c [.int .u8 x] (by rw [hs]; rfl) (fun j u hj => by
      cases j with
      | zero => simp at hj; subst hj; simpa [Addr.add] using hsrc
      | succ j => simp at hj) (by omega) (by omega) (growslice_fits (by omega) (by rw [hb]; omega))
    refine ⟨_, _, _, hr, grownCap_ge _ _ _ _, grownCap_le_maxLen _ _ _ _ (by unfold maxLen; omega), ?_, ?_, _, _, _, _, rfl, heap_alloc_new w.drew _⟩
    · refine ⟨by rw [flatB_len]; simp [hbl], fun _ => ⟨w.heap.size, 0, rfl, by simp, fun j u hj => ?_⟩⟩
      have hnew := heap_alloc_new w.drew (.cells ((bs.flatMap encB).toArray ++ [Value.int .u8 x].toArray ++ Builtin.zeroCells (Value.int .u8 0).cells (grownCap w (n + 1) cap 5 - (n + 1))) 5)
      rw [Nat.zero_add]
      unfold World.cell?
      rw [show (w.drew.heap.size) = w.heap.size from rfl] at hnew
      simp only [hnew]
      have hjl : j < (bs.flatMap encB).length + 1 := by
        have := (List.getElem?_eq_some_iff.1 hj).1
        simpa [encB] using this
      rw [List.flatMap_append] at hj
      rw [Array.getElem?_append_left (by simp; simpa using hjl)]
      simpa [encB] using hj
    · exact bal' (Below.refl _ _).drew _ (by simpa using hbase)
end Go.Proofs.Ytmhbpfclfffgkaa
namespace Go.Proofs.Ytmhbpfclfffgkaa
set_option linter.unusedVariables false
set_option linter.unusedSimpArgs false
open Go.RowKit

/-- The new row lies in the old one's block, or in the newest one. -/
def LocA (w : World) (v v' : Value) : Prop := v'.ownBlock = v.ownBlock ∨ v'.ownBlock = some w.heap.size
section
variable {P : Program}
theorem run_appL (w : World) {t e : TypeId} {size bytes : Nat} (E : ElemInfo P t e size bytes) (base : Nat) (ty : TypeId)
    (v : Value) (n : Nat) (xs : List Value) (hown : w.ownsRow base e size v n xs)
    (B : Nat) (A : Option Addr) (m c : Nat) (news : List Value) (hr : Rd w B size A m news) (h1 : ∀ u ∈ news, u.oneCell' = true)
    (h63 : n + m ≤ maxLen) (hbytes : (n + m) * bytes ≤ 140737488355328) (hbase : base ≤ w.heap.size) :
    ∃ v' w', (Builtin.append_ #[t, t] ty #[v, .slice A m c]).run P w = .ok v' w' ∧ w'.ownsRow base e size v' (n + m) (xs ++ news) ∧ w.grownBy w' v.ownBlock ∧ LocA w v v' := by
  obtain ⟨ht, ⟨i, z, hi, hz, hsize, hby, hzs⟩, hsz⟩ := E
  rcases A with _ | ad
  · have hm : m = 0 := by
      rcases Nat.eq_zero_or_pos m with h0 | h0
      · exact h0
      · obtain ⟨b, off, h, _⟩ := hr.2 h0
        cases h
    subst hm
    have hn : news = [] := List.eq_nil_of_length_eq_zero (by simpa using hr.1)
    subst hn
    exact ⟨v, w, run_append_of_nil w base t ty e i size ht hi v n xs hown c, by simpa using hown, World.grownBy.refl w _, .inl rfl⟩
  · have hcells : ∀ j u, news[j]? = some u → w.cell? (ad.add j) = some u := by
      intro j u hu
      rcases Nat.eq_zero_or_pos m with h0 | h0
      · subst h0
        have hn : news = [] := List.eq_nil_of_length_eq_zero (by simpa using hr.1)
        subst hn
        simp at hu
      · obtain ⟨b, off, h, _, hc⟩ := hr.2 h0
        injection h with h
        subst h
        have := hc j u hu
        by_cases hj : j = 0
        · subst hj; simpa [Addr.add] using this
        · simpa [Addr.add, hj] using this
    obtain ⟨v', w', hrun, h2, h3, _, h5⟩ := run_append_own_at (P := P) w base t ty e i z size bytes ht hi hz hsize hby hzs hsz v n xs hown ad m c news hr.1 hcells h1 h63 hbytes hbase
    exact ⟨v', w', hrun, h2, h3, h5⟩
theorem ok_inj {α : Type} {m : Result α} {a b : α} {w w' : World} (h : m = .ok a w) (h' : m = .ok b w') : a = b := by
  rw [h] at h'
  injection h'
theorem run_appsL (w : World) (base : Nat) (t u ty e : TypeId) (i : TypeInfo) (ht : P.underlying t = some (.slice e)) (hu : P.underlying u = some .string) (hi : P.info? e = some i) (hz : i.zero = some (.int .u8 0))
    (hsize : i.size = 1) (hby : i.bytes = 1) (v : Value) (n : Nat) (xs : List Value) (hown : w.ownsRow base e 1 v n xs) (s : ByteArray)
    (h63 : n + s.size ≤ maxLen) (hbytes : n + s.size ≤ 140737488355328) (hbase : base ≤ w.heap.size) :
    ∃ v' w', (Builtin.append_ #[t, u] ty #[v, .string s]).run P w = .ok v' w' ∧ w'.ownsRow base e 1 v' (n + s.size) (xs ++ Lib.strCells s) ∧ w.grownBy w' v.ownBlock ∧ LocA w v v' := by
  obtain ⟨v', w', hr, h2, h3, h4⟩ := Lib.run_append_own_string (P := P) w base t u ty e i ht hu hi hz hsize hby v n xs hown s h63 hbytes hbase
  refine ⟨v', w', hr, h2, h3, ?_⟩
  have hxl : xs.length = n := by simpa using hown.1
  have hsmall : n + s.size ≤ 9223372036854775807 := by unfold maxLen at h63; omega
  rcases hown.2 with ⟨rfl, rfl⟩ | ⟨g, cap, cur, rfl, hbg, hg, hnc, hcm, hcs, htake⟩
  · by_cases hm : s.size = 0
    · rw [h4.2 ⟨rfl, hm⟩]
      exact .inl rfl
    · have hq := run_append_nil_string (P := P) w t u ty e i (.int .u8 0) ht hu hi hz s (by omega) (by omega) (by rw [hby]; omega)
      rw [ok_inj hr hq]
      exact .inr rfl
  · by_cases hroom : n + s.size ≤ cap
    · have hcs' : cur.size = cap := by simpa using hcs
      have hq := Lib.run_append_room_string (P := P) w t u ty e i ht hu hi hsize g n cap cur hg s hroom (by omega)
      rw [ok_inj hr hq]
      exact .inl rfl
    · have holds : ∀ j u, xs[j]? = some u → w.cell? ((⟨g, 0, none⟩ : Addr).add j) = some u := hown.cells (g := g) rfl
      have hq := Lib.run_append_grow_string (P := P) w t u ty e i (.int .u8 0) ht hu hi hz ⟨g, 0, none⟩ n cap xs (by rw [hsize]; simpa using hxl) holds s (by omega) (by omega) (by rw [hby]; exact growslice_fits (by omega) (by omega))
      rw [ok_inj hr hq]
      exact .inr rfl
end
/-- A row of the call's own in S, appended to. -/
theorem OwnS.grown {w w' : World} {S : Nat → Prop} {e : TypeId} {size n n' : Nat} {v v' : Value} {xs xs' : List Value} (h : OwnS w S e size v n xs) (h' : w'.ownsRow 0 e size v' n' xs') (hl : LocA w v v') : OwnS w' (fun i => S i ∨ i = w.heap.size) e size v' n' xs' :=
  ⟨h', fun k hk => by
    rcases hl with e | e
    · exact .inl (h.2 k (e ▸ hk))
    · rw [e] at hk
      simp only [Option.some.injEq] at hk
      exact .inr hk.symm⟩
section
variable {P : Program} {w : World}
theorem wpList_appO {t e : TypeId} {size bytes : Nat} (E : ElemInfo P t e size bytes) {ops : Array Oper} {rest : List Oper} {o : Oper} {a : Act} {Q : Exit → Act → World → Prop} (hgd : o.guard = none) (s x : Operand)
    (ho : o.op = .call { callee := .builtin .append, args := #[s, x], argTypes := #[t, t] })
    {S : Nat → Prop} {v : Value} {n : Nat} {xs : List Value} (hown : OwnS w S e size v n xs) (hs : a.eval s = v)
    {B : Nat} {A : Option Addr} {m c : Nat} {news : List Value} (hx : a.eval x = .slice A m c) (hr : Rd w B size A m news) (h1 : ∀ u ∈ news, u.oneCell' = true)
    (h63 : n + m ≤ maxLen) (hbytes : (n + m) * bytes ≤ 140737488355328)
    (h : ∀ v' w', OwnS w' (fun i => S i ∨ i = w.heap.size) e size v' (n + m) (xs ++ news) → w.grownBy w' v.ownBlock → LocA w v v' → wpList P ops Q rest (a.put o.dst v') w') : wpList P ops Q (o :: rest) a w := by
  refine wpList_plain hgd fun K hK => ?_
  obtain ⟨v', w', hrun, h2, h3, h4⟩ := run_appL (P := P) w E 0 o.type v n xs hown.1 B A m c news hr h1 h63 hbytes (Nat.zero_le _)
  unfold Oper.wp execOp
  simp only [ho, resolve, invoke, builtin, Sem.run_bind, Sem.run_pure, Result.andThen_ok, List.map_toArray, List.map_cons, List.map_nil, hs, hx, hrun]
  exact hK _ _ (h v' w' (hown.grown h2 h4) h3 h4)
theorem wpList_appsO {ops : Array Oper} {rest : List Oper} {o : Oper} {a : Act} {Q : Exit → Act → World → Prop} (hgd : o.guard = none) (sl x : Operand)
    (ho : o.op = .call { callee := .builtin .append, args := #[sl, x], argTypes := #[22, 9] })
    {S : Nat → Prop} {v : Value} {n : Nat} {xs : List Value} (hown : OwnS w S 5 1 v n xs) (hs : a.eval sl = v) {s : ByteArray} (hx : a.eval x = .string s)
    (h63 : n + s.size ≤ maxLen) (hbytes : n + s.size ≤ 140737488355328)
    (h : ∀ v' w', OwnS w' (fun i => S i ∨ i = w.heap.size) 5 1 v' (n + s.size) (xs ++ Lib.strCells s) → w.grownBy w' v.ownBlock → LocA w v v' → wpList Try.prog ops Q rest (a.put o.dst v') w') : wpList Try.prog ops Q (o :: rest) a w := by
  refine wpList_plain hgd fun K hK => ?_
  obtain ⟨i, hi, hz, hsz, hb⟩ := info_parts info_u8
  obtain ⟨v', w', hrun, h2, h3, h4⟩ := run_appsL (P := Try.prog) w 0 22 9 o.type 5 i Try.underlying22 Try.underlying9 hi hz hsz hb v n xs hown.1 s h63 hbytes (Nat.zero_le _)
  unfold Oper.wp execOp
  simp only [ho, resolve, invoke, builtin, Sem.run_bind, Sem.run_pure, Result.andThen_ok, List.map_toArray, List.map_cons, List.map_nil, hs, hx, hrun]
  exact hK _ _ (h v' w' (hown.grown h2 h4) h3 h4)
end
end Go.Proofs.Ytmhbpfclfffgkaa
