/-
  No cell of these rows narrows 'for every input' (looked for: loops, veiled, ifaces, maps, wideKeys, modest, calm, conditions, laid).
  DERIVED. THE GIVEN ROWS OF THIS SEAT. 6 by the template 'for every input the law returns true; each argument reads behind the call as it read before'; 0 by the template 'total and deterministic' (their statements: YtdmndgjfnlockaaTotals.lean).
  GIVEN WITH THE SEED: the statements are not yours to turn. If you find one false, say at which input.
  Laid BY PROGRAM, IN A SANDBOX (cutbox-rows.mjs): the forced cells as the released guide's own fill.sh prints them over the translation 56b7ad5f0bc5f31b… (all of the seat's roots in one cut). By AI agents, Wed Nov 11 2026. No macro, syntax, notation, axiom, sorry.
-/
import Derived.Test.YtdmndgjfnlockaaChecked
import GoSem.Claim
import GoSem.ClaimJoined
import GoSem.ClaimMapViews
import Derived.JoinedTies
import Derived.KernelRfl
namespace Go.Proofs.Ytdmndgjfnlockaa
/- THE CELL 'sum', in the pinned program and in every row, IS THE sha256 OF THE DUMP (.gsa) THAT YtdmndgjfnlockaaProg.lean LOADS. Nothing in Lean hashes anything: it is a label: what it is worth is what the hold of that sum in a sandbox is worth. -/
noncomputable def Try.pinned : Pinned := { name := "ytdmndgjfnlockaa", sum := "56b7ad5f0bc5f31b6e2e510a3a49f742bd12f78f5e9497f1a3fd3e4ff732a13e", checked := Try.checked }
namespace Rows
def none {H : Type} : Left H := { results := [], args := [] }

/-- 'portreevelaw21.RegsVtcr': WHATEVER THE INPUT: true; the input reads as it did. -/
def regsVtcrSpec : ChangeSpec := { name := "regsVtcr", fn := fun _ => fun
  | [d] => { results := [.lit (.bool true)], args := [d] }
  | _ => none }
def regsVtcrRow : OpenClaim := { program := "ytdmndgjfnlockaa", sum := "56b7ad5f0bc5f31b6e2e510a3a49f742bd12f78f5e9497f1a3fd3e4ff732a13e", func := "portreeve/portreevelaw21.RegsVtcr", spec := "regsVtcr", apart := false }
def RegsVtcrSaid : Prop := regsVtcrRow.holds Try.pinned (OpenSpec.ofChange regsVtcrSpec)

/-- ITS FALSE NEIGHBOUR: 'it returns false'. Refute it at one input. -/
def regsVtcrWrong : ChangeSpec := { name := "regsVtcr", fn := fun _ => fun
  | [d] => { results := [.lit (.bool false)], args := [d] }
  | _ => none }
def RegsVtcrWrongFalsely : Prop := regsVtcrRow.holds Try.pinned (OpenSpec.ofChange regsVtcrWrong)

/-- 'portreevelaw21.RegsVttbr': WHATEVER THE INPUT: true; the input reads as it did. -/
def regsVttbrSpec : ChangeSpec := { name := "regsVttbr", fn := fun _ => fun
  | [d1, d2, d3] => { results := [.lit (.bool true)], args := [d1, d2, d3] }
  | _ => none }
def regsVttbrRow : OpenClaim := { program := "ytdmndgjfnlockaa", sum := "56b7ad5f0bc5f31b6e2e510a3a49f742bd12f78f5e9497f1a3fd3e4ff732a13e", func := "portreeve/portreevelaw21.RegsVttbr", spec := "regsVttbr", apart := false }
def RegsVttbrSaid : Prop := regsVttbrRow.holds Try.pinned (OpenSpec.ofChange regsVttbrSpec)

/-- ITS FALSE NEIGHBOUR: 'it returns false'. Refute it at one input. -/
def regsVttbrWrong : ChangeSpec := { name := "regsVttbr", fn := fun _ => fun
  | [d1, d2, d3] => { results := [.lit (.bool false)], args := [d1, d2, d3] }
  | _ => none }
def RegsVttbrWrongFalsely : Prop := regsVttbrRow.holds Try.pinned (OpenSpec.ofChange regsVttbrWrong)

/-- 'portreevelaw23.SmmuTables': WHATEVER THE INPUT: true; the input reads as it did. -/
def smmuTablesSpec : ChangeSpec := { name := "smmuTables", fn := fun _ => fun
  | [d1, d2, d3, d4] => { results := [.lit (.bool true)], args := [d1, d2, d3, d4] }
  | _ => none }
def smmuTablesRow : OpenClaim := { program := "ytdmndgjfnlockaa", sum := "56b7ad5f0bc5f31b6e2e510a3a49f742bd12f78f5e9497f1a3fd3e4ff732a13e", func := "portreeve/portreevelaw23.SmmuTables", spec := "smmuTables", unfollowed := true, recurses := true, apart := false }
def SmmuTablesSaid : Prop := smmuTablesRow.holds Try.pinned (OpenSpec.ofChange smmuTablesSpec)

/-- ITS FALSE NEIGHBOUR: 'it returns false'. Refute it at one input. -/
def smmuTablesWrong : ChangeSpec := { name := "smmuTables", fn := fun _ => fun
  | [d1, d2, d3, d4] => { results := [.lit (.bool false)], args := [d1, d2, d3, d4] }
  | _ => none }
def SmmuTablesWrongFalsely : Prop := smmuTablesRow.holds Try.pinned (OpenSpec.ofChange smmuTablesWrong)

/-- 'portreevelaw23.SmmuOwners': WHATEVER THE INPUT: true; the input reads as it did. -/
def smmuOwnersSpec : ChangeSpec := { name := "smmuOwners", fn := fun _ => fun
  | [d1, d2, d3, d4, d5] => { results := [.lit (.bool true)], args := [d1, d2, d3, d4, d5] }
  | _ => none }
def smmuOwnersRow : OpenClaim := { program := "ytdmndgjfnlockaa", sum := "56b7ad5f0bc5f31b6e2e510a3a49f742bd12f78f5e9497f1a3fd3e4ff732a13e", func := "portreeve/portreevelaw23.SmmuOwners", spec := "smmuOwners", unfollowed := true, recurses := true, apart := false }
def SmmuOwnersSaid : Prop := smmuOwnersRow.holds Try.pinned (OpenSpec.ofChange smmuOwnersSpec)

/-- ITS FALSE NEIGHBOUR: 'it returns false'. Refute it at one input. -/
def smmuOwnersWrong : ChangeSpec := { name := "smmuOwners", fn := fun _ => fun
  | [d1, d2, d3, d4, d5] => { results := [.lit (.bool false)], args := [d1, d2, d3, d4, d5] }
  | _ => none }
def SmmuOwnersWrongFalsely : Prop := smmuOwnersRow.holds Try.pinned (OpenSpec.ofChange smmuOwnersWrong)

/-- 'portreevelaw23.SmmuBytes': WHATEVER THE INPUT: true; the input reads as it did. -/
def smmuBytesSpec : ChangeSpec := { name := "smmuBytes", fn := fun _ => fun
  | [d1, d2] => { results := [.lit (.bool true)], args := [d1, d2] }
  | _ => none }
def smmuBytesRow : OpenClaim := { program := "ytdmndgjfnlockaa", sum := "56b7ad5f0bc5f31b6e2e510a3a49f742bd12f78f5e9497f1a3fd3e4ff732a13e", func := "portreeve/portreevelaw23.SmmuBytes", spec := "smmuBytes", unfollowed := true, recurses := true, apart := false }
def SmmuBytesSaid : Prop := smmuBytesRow.holds Try.pinned (OpenSpec.ofChange smmuBytesSpec)

/-- ITS FALSE NEIGHBOUR: 'it returns false'. Refute it at one input. -/
def smmuBytesWrong : ChangeSpec := { name := "smmuBytes", fn := fun _ => fun
  | [d1, d2] => { results := [.lit (.bool false)], args := [d1, d2] }
  | _ => none }
def SmmuBytesWrongFalsely : Prop := smmuBytesRow.holds Try.pinned (OpenSpec.ofChange smmuBytesWrong)

/-- 'portreevelaw23.SmmuBack': WHATEVER THE INPUT: true; the input reads as it did. -/
def smmuBackSpec : ChangeSpec := { name := "smmuBack", fn := fun _ => fun
  | [d] => { results := [.lit (.bool true)], args := [d] }
  | _ => none }
def smmuBackRow : OpenClaim := { program := "ytdmndgjfnlockaa", sum := "56b7ad5f0bc5f31b6e2e510a3a49f742bd12f78f5e9497f1a3fd3e4ff732a13e", func := "portreeve/portreevelaw23.SmmuBack", spec := "smmuBack", unfollowed := true, recurses := true, apart := false }
def SmmuBackSaid : Prop := smmuBackRow.holds Try.pinned (OpenSpec.ofChange smmuBackSpec)

/-- ITS FALSE NEIGHBOUR: 'it returns false'. Refute it at one input. -/
def smmuBackWrong : ChangeSpec := { name := "smmuBack", fn := fun _ => fun
  | [d] => { results := [.lit (.bool false)], args := [d] }
  | _ => none }
def SmmuBackWrongFalsely : Prop := smmuBackRow.holds Try.pinned (OpenSpec.ofChange smmuBackWrong)

/- THE SECOND FORM. 'bulk': how many values and letters a reading holds, each counted each time it is reached (what is shared counts as often as it is met; a slice's spare places count too). A statement '..UptoSaid' is the law's where the arguments, and the package variables that the reading takes, are together of bulk at most 1048576: NARROWER than '..Said'. Prove '..Said' where nothing that the law and all that it calls make is longer than what came in: it says more and counts as full. Else prove '..UptoSaid'. A law counts once. -/
mutual
def uptoBulk {H : Type} : DataW H → Nat
  | .lit (.string bytes) => bytes.length + 1
  | .lit _ => 1
  | .nil => 1
  | .ptr d => uptoBulk d + 1
  | .slice elems spare => uptoBulkAll elems + uptoBulkAll spare + 1
  | .agg parts => uptoBulkAll parts + 1
  | .iface _ d => uptoBulk d + 1
  | .map entries => uptoBulkEntries entries + 1
  | .held _ => 1
def uptoBulkAll {H : Type} : List (DataW H) → Nat
  | [] => 0
  | d :: r => uptoBulk d + uptoBulkAll r
def uptoBulkEntries {H : Type} : List (Lit × DataW H) → Nat
  | [] => 0
  | x :: r => uptoBulkEntry x + uptoBulkEntries r
def uptoBulkEntry {H : Type} : Lit × DataW H → Nat
  | (.string bytes, d) => bytes.length + uptoBulk d + 1
  | (_, d) => uptoBulk d + 1
 end
def uptoSmall : (H : Type) → List (DataW H) → Bool := fun _ ds => decide (uptoBulkAll ds ≤ 1048576)
def OpenSpec.upto (s : _root_.Go.ChangeSpec) : _root_.Go.OpenSpec := { _root_.Go.OpenSpec.ofChange s with cond := some uptoSmall }

/-- 'portreevelaw21.RegsVtcr', WHERE WHAT IT READS IS OF BULK AT MOST 1048576: true; the input reads as it did. -/
def regsVtcrUptoRow : OpenClaim := { program := "ytdmndgjfnlockaa", sum := "56b7ad5f0bc5f31b6e2e510a3a49f742bd12f78f5e9497f1a3fd3e4ff732a13e", func := "portreeve/portreevelaw21.RegsVtcr", spec := "regsVtcr", apart := false, narrowed := true }
def RegsVtcrUptoSaid : Prop := regsVtcrUptoRow.holds Try.pinned (OpenSpec.upto regsVtcrSpec)

/-- 'portreevelaw21.RegsVttbr', WHERE WHAT IT READS IS OF BULK AT MOST 1048576: true; the input reads as it did. -/
def regsVttbrUptoRow : OpenClaim := { program := "ytdmndgjfnlockaa", sum := "56b7ad5f0bc5f31b6e2e510a3a49f742bd12f78f5e9497f1a3fd3e4ff732a13e", func := "portreeve/portreevelaw21.RegsVttbr", spec := "regsVttbr", apart := false, narrowed := true }
def RegsVttbrUptoSaid : Prop := regsVttbrUptoRow.holds Try.pinned (OpenSpec.upto regsVttbrSpec)

/-- 'portreevelaw23.SmmuTables', WHERE WHAT IT READS IS OF BULK AT MOST 1048576: true; the input reads as it did. -/
def smmuTablesUptoRow : OpenClaim := { program := "ytdmndgjfnlockaa", sum := "56b7ad5f0bc5f31b6e2e510a3a49f742bd12f78f5e9497f1a3fd3e4ff732a13e", func := "portreeve/portreevelaw23.SmmuTables", spec := "smmuTables", unfollowed := true, recurses := true, apart := false, narrowed := true }
def SmmuTablesUptoSaid : Prop := smmuTablesUptoRow.holds Try.pinned (OpenSpec.upto smmuTablesSpec)

/-- 'portreevelaw23.SmmuOwners', WHERE WHAT IT READS IS OF BULK AT MOST 1048576: true; the input reads as it did. -/
def smmuOwnersUptoRow : OpenClaim := { program := "ytdmndgjfnlockaa", sum := "56b7ad5f0bc5f31b6e2e510a3a49f742bd12f78f5e9497f1a3fd3e4ff732a13e", func := "portreeve/portreevelaw23.SmmuOwners", spec := "smmuOwners", unfollowed := true, recurses := true, apart := false, narrowed := true }
def SmmuOwnersUptoSaid : Prop := smmuOwnersUptoRow.holds Try.pinned (OpenSpec.upto smmuOwnersSpec)

/-- 'portreevelaw23.SmmuBytes', WHERE WHAT IT READS IS OF BULK AT MOST 1048576: true; the input reads as it did. -/
def smmuBytesUptoRow : OpenClaim := { program := "ytdmndgjfnlockaa", sum := "56b7ad5f0bc5f31b6e2e510a3a49f742bd12f78f5e9497f1a3fd3e4ff732a13e", func := "portreeve/portreevelaw23.SmmuBytes", spec := "smmuBytes", unfollowed := true, recurses := true, apart := false, narrowed := true }
def SmmuBytesUptoSaid : Prop := smmuBytesUptoRow.holds Try.pinned (OpenSpec.upto smmuBytesSpec)

/-- 'portreevelaw23.SmmuBack', WHERE WHAT IT READS IS OF BULK AT MOST 1048576: true; the input reads as it did. -/
def smmuBackUptoRow : OpenClaim := { program := "ytdmndgjfnlockaa", sum := "56b7ad5f0bc5f31b6e2e510a3a49f742bd12f78f5e9497f1a3fd3e4ff732a13e", func := "portreeve/portreevelaw23.SmmuBack", spec := "smmuBack", unfollowed := true, recurses := true, apart := false, narrowed := true }
def SmmuBackUptoSaid : Prop := smmuBackUptoRow.holds Try.pinned (OpenSpec.upto smmuBackSpec)

end Rows
end Go.Proofs.Ytdmndgjfnlockaa
