/- Chapter 29, the processors of a guest: the plain law. -/
import Derived.Test.YtebhfaadpalpbaaEqFlat
namespace Go.Proofs.Ytebhfaadpalpbaa
set_option linter.unusedVariables false
open Go.RowKit Go.Sort

/-- A processor. -/
structure Vc where
  id : Int
  on : Bool
  pc : Int
  x0 : Int
  sp : Int
  deriving DecidableEq
def encV (v : Vc) : List Value := [.int .i64 v.id, .bool v.on, .int .u64 v.pc, .int .u64 v.x0, .int .u64 v.sp]
/-- A guest's processors; 1, 2: off, reset. -/
structure Pst where
  cs : List Vc
  down : Int
def findN (l : List Vc) (cpu : Int) : Option Nat := l.findIdx? fun v => IntKind.u64.wrap v.id == cpu
def newN (l : List Vc) : List Vc := l.foldl (fun cs v => if (findN cs (IntKind.u64.wrap v.id)).isSome then cs else cs ++ [v]) []
def offV (v : Vc) : Vc := { v with on := false, pc := 0, x0 := 0 }
def knownFn (a : Int) : Bool := a == 2214592512 || a == 2214592514 || a == 3288334339 || a == 3288334340 || a == 2214592520 || a == 2214592521 || a == 2214592522
def zV : Vc := ⟨0, false, 0, 0, 0⟩
def setN (s : Pst) (i : Nat) (on : Bool) (pc x0 : Int) : Pst := { s with cs := s.cs.modify i fun v => { v with on := on, pc := pc, x0 := x0 } }
def startN (s : Pst) (a b c : Int) : Int × Pst := match findN s.cs a with
  | none => (-2, s)
  | some i => if (s.cs.getD i zV).on then (-4, s) else if Int.tmod b 4 ≠ 0 then (-9, s) else (0, setN s i true b c)
def lookN (s : Pst) (a b : Int) : Int := if b ≠ 0 then -2 else match findN s.cs a with
  | none => -2
  | some i => if (s.cs.getD i zV).on then 0 else 1
def endN (s : Pst) (d : Int) : Pst := ⟨s.cs.map offV, d⟩
/-- A call: the answer, and what becomes of the processors. -/
def callN (s : Pst) (cpu fn a b c : Int) : Int × Pst :=
  if s.down ≠ 0 then (-3, s)
  else match findN s.cs (IntKind.u64.wrap cpu) with
    | none => (-3, s)
    | some own =>
      if (s.cs.getD own zV).on = false then (-3, s)
      else if fn = 2214592512 then (65537, s)
      else if fn = 2214592522 then (if knownFn a then 0 else -1, s)
      else if fn = 2214592514 then (0, setN s own false 0 0)
      else if fn = 3288334339 then startN s a b c
      else if fn = 3288334340 then (lookN s a b, s)
      else if fn = 2214592520 then (0, endN s 1)
      else if fn = 2214592521 then (0, endN s 2)
      else (-1, s)
theorem findN_lt {l : List Vc} {cpu : Int} {i : Nat} (h : findN l cpu = some i) : i < l.length := by
  unfold findN at h
  rw [List.findIdx?_eq_some_iff_getElem] at h
  exact h.1
end Go.Proofs.Ytebhfaadpalpbaa
