/- Chapter 29: what a call leaves as it was: the plain law. -/
import Derived.Test.YtebhfaadpalpbaaPsciN
namespace Go.Proofs.Ytebhfaadpalpbaa
set_option linter.unusedVariables false
open Go.RowKit Go.Sort

def Vin (v : Vc) : Prop := (Lit.int .i64 v.id).wf = true
def keyV (v : Vc) : Int × Int := (v.id, v.sp)
theorem modify_key (l : List Vc) (i : Nat) (on : Bool) (pc x0 : Int) : (l.modify i fun v => { v with on := on, pc := pc, x0 := x0 }).map keyV = l.map keyV := by
  apply List.ext_getElem?
  intro j
  simp only [List.getElem?_map, List.getElem?_modify]
  split
  · cases l[j]? <;> rfl
  · cases l[j]? <;> rfl
theorem callN_key (s : Pst) (cpu fn a b c : Int) : (callN s cpu fn a b c).2.cs.map keyV = s.cs.map keyV := by
  have h1 : ∀ d, (endN s d).cs.map keyV = s.cs.map keyV := fun d => by simp [endN, keyV, offV]
  have h2 : (startN s a b c).2.cs.map keyV = s.cs.map keyV := by
    unfold startN
    repeat' split
    all_goals first | rfl | exact modify_key ..
  unfold callN
  repeat' split
  all_goals first | rfl | exact modify_key .. | exact h1 _ | exact h2
theorem wrap_inj {a b : Int} (ha : (Lit.int .i64 a).wf = true) (hb : (Lit.int .i64 b).wf = true) (h : IntKind.u64.wrap a = IntKind.u64.wrap b) : a = b := by
  simp [Lit.wf, IntKind.wrap, IntKind.signed, IntKind.bits, IntKind.min] at ha hb h
  omega
theorem findN_spec {l : List Vc} {cpu : Int} {i : Nat} (h : findN l cpu = some i) : i < l.length ∧ IntKind.u64.wrap (l.getD i zV).id = cpu := by
  unfold findN at h
  rw [List.findIdx?_eq_some_iff_getElem] at h
  obtain ⟨h1, h2, _⟩ := h
  refine ⟨h1, ?_⟩
  rw [List.getD_eq_getElem?_getD, List.getElem?_eq_getElem h1]
  simpa using h2
theorem callN_apart (s : Pst) (cpu fn a b c : Int) (hv : ∀ v ∈ s.cs, Vin v) (hc : (Lit.int .i64 cpu).wf = true) (i : Nat) (hi : i < s.cs.length)
    (hne : (callN s cpu fn a b c).2.cs.getD i zV ≠ s.cs.getD i zV) : ((s.cs.getD i zV).id = cpu ∧ fn = 2214592514) ∨ (IntKind.u64.wrap (s.cs.getD i zV).id = a ∧ fn = 3288334339) ∨ fn = 2214592520 ∨ fn = 2214592521 := by
  have hset : ∀ j on pc x0, (setN s j on pc x0).cs.getD i zV ≠ s.cs.getD i zV → j = i := fun j on pc x0 h => by
    by_cases hj : j = i
    · exact hj
    · refine absurd ?_ h
      simp [setN, List.getD_eq_getElem?_getD, hj]
  unfold callN at hne
  split at hne
  · exact absurd rfl hne
  · split at hne
    · exact absurd rfl hne
    · rename_i own hown
      obtain ⟨ho1, ho2⟩ := findN_spec hown
      split at hne
      · exact absurd rfl hne
      · split at hne
        · exact absurd rfl hne
        · split at hne
          · exact absurd rfl hne
          · split at hne
            · rename_i hf
              have := hset _ _ _ _ hne
              subst this
              refine .inl ⟨wrap_inj ?_ hc ho2, hf⟩
              have hm : s.cs.getD own zV ∈ s.cs := by
                rw [List.getD_eq_getElem?_getD, List.getElem?_eq_getElem ho1]
                exact List.getElem_mem ho1
              exact hv _ hm
            · split at hne
              · rename_i hf
                unfold startN at hne
                split at hne
                · exact absurd rfl hne
                · rename_i j hj
                  split at hne
                  · exact absurd rfl hne
                  · split at hne
                    · exact absurd rfl hne
                    · have := hset _ _ _ _ hne
                      subst this
                      exact .inr (.inl ⟨(findN_spec hj).2, hf⟩)
              · split at hne
                · exact absurd rfl hne
                · split at hne
                  · rename_i hf
                    exact .inr (.inr (.inl hf))
                  · split at hne
                    · rename_i hf
                      exact .inr (.inr (.inr hf))
                    · exact absurd rfl hne
theorem callN_who (s : Pst) (cpu fn a b c : Int) (hv : ∀ v ∈ s.cs, Vin v) (hc : (Lit.int .i64 cpu).wf = true) :
    (s.down = 0 ∧ (s.cs.any fun v => v.id == cpu && v.on) = true) ∨ callN s cpu fn a b c = (-3, s) := by
  by_cases hd : s.down = 0
  · cases hown : findN s.cs (IntKind.u64.wrap cpu) with
    | none =>
      right
      unfold callN
      rw [if_neg (by simpa using hd), hown]
    | some own =>
      obtain ⟨ho1, ho2⟩ := findN_spec hown
      by_cases hon : (s.cs.getD own zV).on = false
      · right
        unfold callN
        rw [if_neg (by simpa using hd), hown]
        simp only [hon, if_true]
      · left
        have hm : s.cs.getD own zV ∈ s.cs := by
          rw [List.getD_eq_getElem?_getD, List.getElem?_eq_getElem ho1]
          exact List.getElem_mem ho1
        refine ⟨hd, List.any_eq_true.2 ⟨_, hm, ?_⟩⟩
        rw [wrap_inj (hv _ hm) hc ho2]
        simpa using hon
  · right
    unfold callN
    rw [if_pos hd]
theorem newN_sub (l : List Vc) : ∀ v ∈ newN l, v ∈ l := by
  suffices h : ∀ (l a : List Vc), ∀ v ∈ l.foldl (fun cs v => if (findN cs (IntKind.u64.wrap v.id)).isSome then cs else cs ++ [v]) a, v ∈ a ∨ v ∈ l from fun v hv => (h l [] v hv).elim (fun h => absurd h (by simp)) id
  intro l
  induction l with
  | nil => intro a v hv; exact .inl hv
  | cons x l ih =>
    intro a v hv
    rw [List.foldl_cons] at hv
    rcases ih _ v hv with h | h
    · split at h
      · exact .inl h
      · rcases List.mem_append.1 h with h | h
        · exact .inl h
        · exact .inr (by simp at h; simp [h])
    · exact .inr (List.mem_cons_of_mem _ h)
theorem key_in {s t : List Vc} (h : t.map keyV = s.map keyV) (hv : ∀ v ∈ s, Vin v) : ∀ v ∈ t, Vin v := by
  intro v hm
  have h1 : keyV v ∈ s.map keyV := h ▸ List.mem_map_of_mem hm
  obtain ⟨u, hu, e⟩ := List.mem_map.1 h1
  have := hv u hu
  unfold Vin at *
  have e1 : u.id = v.id := congrArg Prod.fst e
  rw [← e1]
  exact this
theorem key_len {s t : List Vc} (h : t.map keyV = s.map keyV) : t.length = s.length := by
  have := congrArg List.length h
  simpa using this
theorem key_at {s t : List Vc} (h : t.map keyV = s.map keyV) (i : Nat) (hi : i < s.length) : (t.getD i zV).id = (s.getD i zV).id ∧ (t.getD i zV).sp = (s.getD i zV).sp := by
  have hl := key_len h
  have h1 : (t.map keyV)[i]? = (s.map keyV)[i]? := by rw [h]
  simp only [List.getElem?_map] at h1
  rw [List.getElem?_eq_getElem hi, List.getElem?_eq_getElem (by omega)] at h1
  simp only [Option.map_some, Option.some.injEq] at h1
  simp only [List.getD_eq_getElem?_getD, List.getElem?_eq_getElem hi, List.getElem?_eq_getElem (show i < t.length by omega), Option.getD_some]
  exact ⟨congrArg Prod.fst h1, congrArg Prod.snd h1⟩
theorem any_fold (l : List Vc) (P : Vc → Bool) : ∃ F : Nat → Bool, F 0 = false ∧ (∀ k, k < l.length → F (k + 1) = (F k || P (l.getD k zV))) ∧ F l.length = l.any P := by
  refine ⟨fun k => (l.take k).any P, by simp, fun k h => ?_, by simp⟩
  have e : l.take (k + 1) = l.take k ++ [l.getD k zV] := by
    rw [List.take_add_one, List.getD_eq_getElem?_getD, List.getElem?_eq_getElem h]
    rfl
  show (l.take (k + 1)).any P = _
  rw [e, List.any_append]
  simp
end Go.Proofs.Ytebhfaadpalpbaa
