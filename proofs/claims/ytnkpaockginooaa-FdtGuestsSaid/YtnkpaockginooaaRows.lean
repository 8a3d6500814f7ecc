/-
  NARROWER THAN 'FOR EVERY INPUT', by the rows' own cells (each row's printed sentence says how): FdtPuts: loops · FdtSame: loops · HostBoards: loops · FdtBack: loops.
  DERIVED. THE GIVEN ROWS OF THIS SEAT. 10 by the template 'for every input the law returns true; each argument reads behind the call as it read before'; 0 by the template 'total and deterministic' (their statements: YtnkpaockginooaaTotals.lean).
  GIVEN WITH THE SEED: the statements are not yours to turn. If you find one false, say at which input.
  Laid BY PROGRAM, IN A SANDBOX (cutbox-rows.mjs): the forced cells as the released guide's own fill.sh prints them over the translation a4897c28f49bebc7… (all of the seat's roots in one cut). By AI agents, Wed Nov 11 2026. No macro, syntax, notation, axiom, sorry.
-/
import Derived.Test.YtnkpaockginooaaChecked
import GoSem.Claim
import GoSem.ClaimJoined
import GoSem.ClaimMapViews
import Derived.JoinedTies
import Derived.KernelRfl
namespace Go.Proofs.Ytnkpaockginooaa
/- THE CELL 'sum', in the pinned program and in every row, IS THE sha256 OF THE DUMP (.gsa) THAT YtnkpaockginooaaProg.lean LOADS. Nothing in Lean hashes anything: it is a label: what it is worth is what the hold of that sum in a sandbox is worth. -/
noncomputable def Try.pinned : Pinned := { name := "ytnkpaockginooaa", sum := "a4897c28f49bebc7b2cebe0719e255767a46ec50674665e8a509dba633e7aed9", checked := Try.checked }
namespace Rows
def none {H : Type} : Left H := { results := [], args := [] }

/-- 'portreevelaw24.FdtPuts': WHATEVER THE INPUT: true; the input reads as it did. -/
def fdtPutsSpec : ChangeSpec := { name := "fdtPuts", fn := fun _ => fun
  | [d] => { results := [.lit (.bool true)], args := [d] }
  | _ => none }
def fdtPutsRow : OpenClaim := { program := "ytnkpaockginooaa", sum := "a4897c28f49bebc7b2cebe0719e255767a46ec50674665e8a509dba633e7aed9", func := "portreeve/portreevelaw24.FdtPuts", spec := "fdtPuts", inPlace := ["internal/bytealg.IndexByteString"], recurses := true, loops := true, apart := false }
def FdtPutsSaid : Prop := fdtPutsRow.holds Try.pinned (OpenSpec.ofChange fdtPutsSpec)

/-- ITS FALSE NEIGHBOUR: 'it returns false'. Refute it at one input. -/
def fdtPutsWrong : ChangeSpec := { name := "fdtPuts", fn := fun _ => fun
  | [d] => { results := [.lit (.bool false)], args := [d] }
  | _ => none }
def FdtPutsWrongFalsely : Prop := fdtPutsRow.holds Try.pinned (OpenSpec.ofChange fdtPutsWrong)

/-- 'portreevelaw24.FdtSame': WHATEVER THE INPUT: true; the input reads as it did. -/
def fdtSameSpec : ChangeSpec := { name := "fdtSame", fn := fun _ => fun
  | [d1, d2] => { results := [.lit (.bool true)], args := [d1, d2] }
  | _ => none }
def fdtSameRow : OpenClaim := { program := "ytnkpaockginooaa", sum := "a4897c28f49bebc7b2cebe0719e255767a46ec50674665e8a509dba633e7aed9", func := "portreeve/portreevelaw24.FdtSame", spec := "fdtSame", inPlace := ["internal/bytealg.IndexByteString"], unfollowed := true, recurses := true, loops := true, apart := false }
def FdtSameSaid : Prop := fdtSameRow.holds Try.pinned (OpenSpec.ofChange fdtSameSpec)

/-- ITS FALSE NEIGHBOUR: 'it returns false'. Refute it at one input. -/
def fdtSameWrong : ChangeSpec := { name := "fdtSame", fn := fun _ => fun
  | [d1, d2] => { results := [.lit (.bool false)], args := [d1, d2] }
  | _ => none }
def FdtSameWrongFalsely : Prop := fdtSameRow.holds Try.pinned (OpenSpec.ofChange fdtSameWrong)

/-- 'portreevelaw32.HostBoards': WHATEVER THE INPUT: true; the input reads as it did. -/
def hostBoardsSpec : ChangeSpec := { name := "hostBoards", fn := fun _ => fun
  | [d] => { results := [.lit (.bool true)], args := [d] }
  | _ => none }
def hostBoardsRow : OpenClaim := { program := "ytnkpaockginooaa", sum := "a4897c28f49bebc7b2cebe0719e255767a46ec50674665e8a509dba633e7aed9", func := "portreeve/portreevelaw32.HostBoards", spec := "hostBoards", unfollowed := true, recurses := true, loops := true, apart := false }
def HostBoardsSaid : Prop := hostBoardsRow.holds Try.pinned (OpenSpec.ofChange hostBoardsSpec)

/-- ITS FALSE NEIGHBOUR: 'it returns false'. Refute it at one input. -/
def hostBoardsWrong : ChangeSpec := { name := "hostBoards", fn := fun _ => fun
  | [d] => { results := [.lit (.bool false)], args := [d] }
  | _ => none }
def HostBoardsWrongFalsely : Prop := hostBoardsRow.holds Try.pinned (OpenSpec.ofChange hostBoardsWrong)

/-- 'portreevelaw24.FdtGuests': WHATEVER THE INPUT: true; the input reads as it did. -/
def fdtGuestsSpec : ChangeSpec := { name := "fdtGuests", fn := fun _ => fun
  | [d1, d2] => { results := [.lit (.bool true)], args := [d1, d2] }
  | _ => none }
def fdtGuestsRow : OpenClaim := { program := "ytnkpaockginooaa", sum := "a4897c28f49bebc7b2cebe0719e255767a46ec50674665e8a509dba633e7aed9", func := "portreeve/portreevelaw24.FdtGuests", spec := "fdtGuests", inPlace := ["internal/bytealg.IndexByteString"], recurses := true, apart := false }
def FdtGuestsSaid : Prop := fdtGuestsRow.holds Try.pinned (OpenSpec.ofChange fdtGuestsSpec)

/-- ITS FALSE NEIGHBOUR: 'it returns false'. Refute it at one input. -/
def fdtGuestsWrong : ChangeSpec := { name := "fdtGuests", fn := fun _ => fun
  | [d1, d2] => { results := [.lit (.bool false)], args := [d1, d2] }
  | _ => none }
def FdtGuestsWrongFalsely : Prop := fdtGuestsRow.holds Try.pinned (OpenSpec.ofChange fdtGuestsWrong)

/-- 'portreevelaw24.FdtReads': WHATEVER THE INPUT: true; the input reads as it did. -/
def fdtReadsSpec : ChangeSpec := { name := "fdtReads", fn := fun _ => fun
  | [d] => { results := [.lit (.bool true)], args := [d] }
  | _ => none }
def fdtReadsRow : OpenClaim := { program := "ytnkpaockginooaa", sum := "a4897c28f49bebc7b2cebe0719e255767a46ec50674665e8a509dba633e7aed9", func := "portreeve/portreevelaw24.FdtReads", spec := "fdtReads", inPlace := ["internal/bytealg.IndexByteString"], unfollowed := true, recurses := true, apart := false }
def FdtReadsSaid : Prop := fdtReadsRow.holds Try.pinned (OpenSpec.ofChange fdtReadsSpec)

/-- ITS FALSE NEIGHBOUR: 'it returns false'. Refute it at one input. -/
def fdtReadsWrong : ChangeSpec := { name := "fdtReads", fn := fun _ => fun
  | [d] => { results := [.lit (.bool false)], args := [d] }
  | _ => none }
def FdtReadsWrongFalsely : Prop := fdtReadsRow.holds Try.pinned (OpenSpec.ofChange fdtReadsWrong)

/-- 'portreevelaw24.FdtOnce': WHATEVER THE INPUT: true; the input reads as it did. -/
def fdtOnceSpec : ChangeSpec := { name := "fdtOnce", fn := fun _ => fun
  | [d] => { results := [.lit (.bool true)], args := [d] }
  | _ => none }
def fdtOnceRow : OpenClaim := { program := "ytnkpaockginooaa", sum := "a4897c28f49bebc7b2cebe0719e255767a46ec50674665e8a509dba633e7aed9", func := "portreeve/portreevelaw24.FdtOnce", spec := "fdtOnce", inPlace := ["internal/bytealg.IndexByteString"], unfollowed := true, recurses := true, apart := false }
def FdtOnceSaid : Prop := fdtOnceRow.holds Try.pinned (OpenSpec.ofChange fdtOnceSpec)

/-- ITS FALSE NEIGHBOUR: 'it returns false'. Refute it at one input. -/
def fdtOnceWrong : ChangeSpec := { name := "fdtOnce", fn := fun _ => fun
  | [d] => { results := [.lit (.bool false)], args := [d] }
  | _ => none }
def FdtOnceWrongFalsely : Prop := fdtOnceRow.holds Try.pinned (OpenSpec.ofChange fdtOnceWrong)

/-- 'portreevelaw24.FdtBack': WHATEVER THE INPUT: true; the input reads as it did. -/
def fdtBackSpec : ChangeSpec := { name := "fdtBack", fn := fun _ => fun
  | [d] => { results := [.lit (.bool true)], args := [d] }
  | _ => none }
def fdtBackRow : OpenClaim := { program := "ytnkpaockginooaa", sum := "a4897c28f49bebc7b2cebe0719e255767a46ec50674665e8a509dba633e7aed9", func := "portreeve/portreevelaw24.FdtBack", spec := "fdtBack", inPlace := ["internal/bytealg.IndexByteString"], unfollowed := true, recurses := true, loops := true, apart := false }
def FdtBackSaid : Prop := fdtBackRow.holds Try.pinned (OpenSpec.ofChange fdtBackSpec)

/-- ITS FALSE NEIGHBOUR: 'it returns false'. Refute it at one input. -/
def fdtBackWrong : ChangeSpec := { name := "fdtBack", fn := fun _ => fun
  | [d] => { results := [.lit (.bool false)], args := [d] }
  | _ => none }
def FdtBackWrongFalsely : Prop := fdtBackRow.holds Try.pinned (OpenSpec.ofChange fdtBackWrong)

/-- 'portreevelaw32.HostTrees': WHATEVER THE INPUT: true; the input reads as it did. -/
def hostTreesSpec : ChangeSpec := { name := "hostTrees", fn := fun _ => fun
  | [d] => { results := [.lit (.bool true)], args := [d] }
  | _ => none }
def hostTreesRow : OpenClaim := { program := "ytnkpaockginooaa", sum := "a4897c28f49bebc7b2cebe0719e255767a46ec50674665e8a509dba633e7aed9", func := "portreeve/portreevelaw32.HostTrees", spec := "hostTrees", inPlace := ["internal/bytealg.IndexByteString"], unfollowed := true, recurses := true, apart := false }
def HostTreesSaid : Prop := hostTreesRow.holds Try.pinned (OpenSpec.ofChange hostTreesSpec)

/-- ITS FALSE NEIGHBOUR: 'it returns false'. Refute it at one input. -/
def hostTreesWrong : ChangeSpec := { name := "hostTrees", fn := fun _ => fun
  | [d] => { results := [.lit (.bool false)], args := [d] }
  | _ => none }
def HostTreesWrongFalsely : Prop := hostTreesRow.holds Try.pinned (OpenSpec.ofChange hostTreesWrong)

/-- 'portreevelaw32.HostBack': WHATEVER THE INPUT: true; the input reads as it did. -/
def hostBackSpec : ChangeSpec := { name := "hostBack", fn := fun _ => fun
  | [d] => { results := [.lit (.bool true)], args := [d] }
  | _ => none }
def hostBackRow : OpenClaim := { program := "ytnkpaockginooaa", sum := "a4897c28f49bebc7b2cebe0719e255767a46ec50674665e8a509dba633e7aed9", func := "portreeve/portreevelaw32.HostBack", spec := "hostBack", inPlace := ["internal/bytealg.IndexByteString"], unfollowed := true, recurses := true, apart := false }
def HostBackSaid : Prop := hostBackRow.holds Try.pinned (OpenSpec.ofChange hostBackSpec)

/-- ITS FALSE NEIGHBOUR: 'it returns false'. Refute it at one input. -/
def hostBackWrong : ChangeSpec := { name := "hostBack", fn := fun _ => fun
  | [d] => { results := [.lit (.bool false)], args := [d] }
  | _ => none }
def HostBackWrongFalsely : Prop := hostBackRow.holds Try.pinned (OpenSpec.ofChange hostBackWrong)

/-- 'portreevelaw32.HostOnce': WHATEVER THE INPUT: true; the input reads as it did. -/
def hostOnceSpec : ChangeSpec := { name := "hostOnce", fn := fun _ => fun
  | [d] => { results := [.lit (.bool true)], args := [d] }
  | _ => none }
def hostOnceRow : OpenClaim := { program := "ytnkpaockginooaa", sum := "a4897c28f49bebc7b2cebe0719e255767a46ec50674665e8a509dba633e7aed9", func := "portreeve/portreevelaw32.HostOnce", spec := "hostOnce", inPlace := ["internal/bytealg.IndexByteString"], unfollowed := true, recurses := true, apart := false }
def HostOnceSaid : Prop := hostOnceRow.holds Try.pinned (OpenSpec.ofChange hostOnceSpec)

/-- ITS FALSE NEIGHBOUR: 'it returns false'. Refute it at one input. -/
def hostOnceWrong : ChangeSpec := { name := "hostOnce", fn := fun _ => fun
  | [d] => { results := [.lit (.bool false)], args := [d] }
  | _ => none }
def HostOnceWrongFalsely : Prop := hostOnceRow.holds Try.pinned (OpenSpec.ofChange hostOnceWrong)

/- THE SECOND FORM. 'bulk': how many values and letters a reading holds, each counted each time it is reached (what is shared counts as often as it is met; a slice's spare places count too). A statement '..UptoSaid' is the law's where the arguments, and the package variables that the reading takes, are together of bulk at most 1048576: NARROWER than '..Said'. Prove '..Said' where nothing that the law and all that it calls make is longer than what came in: it says more and counts as full. Else prove '..UptoSaid'. A law counts once. -/
mutual
def uptoBulk {H : Type} : DataW H → Nat
  | .lit (.string bytes) => bytes.length + 1
  | .lit _ => 1
  | .nil => 1
  | .ptr d => uptoBulk d + 1
  | .slice elems spare => uptoBulkAll elems + uptoBulkAll spare + 1
  | .agg parts => uptoBulkAll parts + 1
  | .iface _ d => uptoBulk d + 1
  | .map entries => uptoBulkEntries entries + 1
  | .held _ => 1
def uptoBulkAll {H : Type} : List (DataW H) → Nat
  | [] => 0
  | d :: r => uptoBulk d + uptoBulkAll r
def uptoBulkEntries {H : Type} : List (Lit × DataW H) → Nat
  | [] => 0
  | x :: r => uptoBulkEntry x + uptoBulkEntries r
def uptoBulkEntry {H : Type} : Lit × DataW H → Nat
  | (.string bytes, d) => bytes.length + uptoBulk d + 1
  | (_, d) => uptoBulk d + 1
 end
def uptoSmall : (H : Type) → List (DataW H) → Bool := fun _ ds => decide (uptoBulkAll ds ≤ 1048576)
def OpenSpec.upto (s : _root_.Go.ChangeSpec) : _root_.Go.OpenSpec := { _root_.Go.OpenSpec.ofChange s with cond := some uptoSmall }

/-- 'portreevelaw24.FdtPuts', WHERE WHAT IT READS IS OF BULK AT MOST 1048576: true; the input reads as it did. -/
def fdtPutsUptoRow : OpenClaim := { program := "ytnkpaockginooaa", sum := "a4897c28f49bebc7b2cebe0719e255767a46ec50674665e8a509dba633e7aed9", func := "portreeve/portreevelaw24.FdtPuts", spec := "fdtPuts", inPlace := ["internal/bytealg.IndexByteString"], recurses := true, loops := true, apart := false, narrowed := true }
def FdtPutsUptoSaid : Prop := fdtPutsUptoRow.holds Try.pinned (OpenSpec.upto fdtPutsSpec)

/-- 'portreevelaw24.FdtSame', WHERE WHAT IT READS IS OF BULK AT MOST 1048576: true; the input reads as it did. -/
def fdtSameUptoRow : OpenClaim := { program := "ytnkpaockginooaa", sum := "a4897c28f49bebc7b2cebe0719e255767a46ec50674665e8a509dba633e7aed9", func := "portreeve/portreevelaw24.FdtSame", spec := "fdtSame", inPlace := ["internal/bytealg.IndexByteString"], unfollowed := true, recurses := true, loops := true, apart := false, narrowed := true }
def FdtSameUptoSaid : Prop := fdtSameUptoRow.holds Try.pinned (OpenSpec.upto fdtSameSpec)

/-- 'portreevelaw32.HostBoards', WHERE WHAT IT READS IS OF BULK AT MOST 1048576: true; the input reads as it did. -/
def hostBoardsUptoRow : OpenClaim := { program := "ytnkpaockginooaa", sum := "a4897c28f49bebc7b2cebe0719e255767a46ec50674665e8a509dba633e7aed9", func := "portreeve/portreevelaw32.HostBoards", spec := "hostBoards", unfollowed := true, recurses := true, loops := true, apart := false, narrowed := true }
def HostBoardsUptoSaid : Prop := hostBoardsUptoRow.holds Try.pinned (OpenSpec.upto hostBoardsSpec)

/-- 'portreevelaw24.FdtGuests', WHERE WHAT IT READS IS OF BULK AT MOST 1048576: true; the input reads as it did. -/
def fdtGuestsUptoRow : OpenClaim := { program := "ytnkpaockginooaa", sum := "a4897c28f49bebc7b2cebe0719e255767a46ec50674665e8a509dba633e7aed9", func := "portreeve/portreevelaw24.FdtGuests", spec := "fdtGuests", inPlace := ["internal/bytealg.IndexByteString"], recurses := true, apart := false, narrowed := true }
def FdtGuestsUptoSaid : Prop := fdtGuestsUptoRow.holds Try.pinned (OpenSpec.upto fdtGuestsSpec)

/-- 'portreevelaw24.FdtReads', WHERE WHAT IT READS IS OF BULK AT MOST 1048576: true; the input reads as it did. -/
def fdtReadsUptoRow : OpenClaim := { program := "ytnkpaockginooaa", sum := "a4897c28f49bebc7b2cebe0719e255767a46ec50674665e8a509dba633e7aed9", func := "portreeve/portreevelaw24.FdtReads", spec := "fdtReads", inPlace := ["internal/bytealg.IndexByteString"], unfollowed := true, recurses := true, apart := false, narrowed := true }
def FdtReadsUptoSaid : Prop := fdtReadsUptoRow.holds Try.pinned (OpenSpec.upto fdtReadsSpec)

/-- 'portreevelaw24.FdtOnce', WHERE WHAT IT READS IS OF BULK AT MOST 1048576: true; the input reads as it did. -/
def fdtOnceUptoRow : OpenClaim := { program := "ytnkpaockginooaa", sum := "a4897c28f49bebc7b2cebe0719e255767a46ec50674665e8a509dba633e7aed9", func := "portreeve/portreevelaw24.FdtOnce", spec := "fdtOnce", inPlace := ["internal/bytealg.IndexByteString"], unfollowed := true, recurses := true, apart := false, narrowed := true }
def FdtOnceUptoSaid : Prop := fdtOnceUptoRow.holds Try.pinned (OpenSpec.upto fdtOnceSpec)

/-- 'portreevelaw24.FdtBack', WHERE WHAT IT READS IS OF BULK AT MOST 1048576: true; the input reads as it did. -/
def fdtBackUptoRow : OpenClaim := { program := "ytnkpaockginooaa", sum := "a4897c28f49bebc7b2cebe0719e255767a46ec50674665e8a509dba633e7aed9", func := "portreeve/portreevelaw24.FdtBack", spec := "fdtBack", inPlace := ["internal/bytealg.IndexByteString"], unfollowed := true, recurses := true, loops := true, apart := false, narrowed := true }
def FdtBackUptoSaid : Prop := fdtBackUptoRow.holds Try.pinned (OpenSpec.upto fdtBackSpec)

/-- 'portreevelaw32.HostTrees', WHERE WHAT IT READS IS OF BULK AT MOST 1048576: true; the input reads as it did. -/
def hostTreesUptoRow : OpenClaim := { program := "ytnkpaockginooaa", sum := "a4897c28f49bebc7b2cebe0719e255767a46ec50674665e8a509dba633e7aed9", func := "portreeve/portreevelaw32.HostTrees", spec := "hostTrees", inPlace := ["internal/bytealg.IndexByteString"], unfollowed := true, recurses := true, apart := false, narrowed := true }
def HostTreesUptoSaid : Prop := hostTreesUptoRow.holds Try.pinned (OpenSpec.upto hostTreesSpec)

/-- 'portreevelaw32.HostBack', WHERE WHAT IT READS IS OF BULK AT MOST 1048576: true; the input reads as it did. -/
def hostBackUptoRow : OpenClaim := { program := "ytnkpaockginooaa", sum := "a4897c28f49bebc7b2cebe0719e255767a46ec50674665e8a509dba633e7aed9", func := "portreeve/portreevelaw32.HostBack", spec := "hostBack", inPlace := ["internal/bytealg.IndexByteString"], unfollowed := true, recurses := true, apart := false, narrowed := true }
def HostBackUptoSaid : Prop := hostBackUptoRow.holds Try.pinned (OpenSpec.upto hostBackSpec)

/-- 'portreevelaw32.HostOnce', WHERE WHAT IT READS IS OF BULK AT MOST 1048576: true; the input reads as it did. -/
def hostOnceUptoRow : OpenClaim := { program := "ytnkpaockginooaa", sum := "a4897c28f49bebc7b2cebe0719e255767a46ec50674665e8a509dba633e7aed9", func := "portreeve/portreevelaw32.HostOnce", spec := "hostOnce", inPlace := ["internal/bytealg.IndexByteString"], unfollowed := true, recurses := true, apart := false, narrowed := true }
def HostOnceUptoSaid : Prop := hostOnceUptoRow.holds Try.pinned (OpenSpec.upto hostOnceSpec)

end Rows
end Go.Proofs.Ytnkpaockginooaa
