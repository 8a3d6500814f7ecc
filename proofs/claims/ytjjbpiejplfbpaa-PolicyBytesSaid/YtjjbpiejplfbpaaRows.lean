/-
  No cell of these rows narrows 'for every input' (looked for: loops, veiled, ifaces, maps, wideKeys, modest, calm, conditions, laid).
  DERIVED. THE GIVEN ROWS OF THIS SEAT. 5 by the template 'for every input the law returns true; each argument reads behind the call as it read before'; 0 by the template 'total and deterministic' (their statements: YtjjbpiejplfbpaaTotals.lean).
  GIVEN WITH THE SEED: the statements are not yours to turn. If you find one false, say at which input.
  Laid BY PROGRAM, IN A SANDBOX (cutbox-rows.mjs): the forced cells as the released guide's own fill.sh prints them over the translation cbbe09be0e2b9b27… (all of the seat's roots in one cut). By AI agents, Wed Nov 11 2026. No macro, syntax, notation, axiom, sorry.
-/
import Derived.Test.YtjjbpiejplfbpaaChecked
import GoSem.Claim
import GoSem.ClaimJoined
import GoSem.ClaimMapViews
import Derived.JoinedTies
import Derived.KernelRfl
namespace Go.Proofs.Ytjjbpiejplfbpaa
/- THE CELL 'sum', in the pinned program and in every row, IS THE sha256 OF THE DUMP (.gsa) THAT YtjjbpiejplfbpaaProg.lean LOADS. Nothing in Lean hashes anything: it is a label: what it is worth is what the hold of that sum in a sandbox is worth. -/
noncomputable def Try.pinned : Pinned := { name := "ytjjbpiejplfbpaa", sum := "cbbe09be0e2b9b2773d001a8bcd9e91dd0feddcf4777da07bbea907eb865c86b", checked := Try.checked }
namespace Rows
def none {H : Type} : Left H := { results := [], args := [] }

/-- 'portreevelaw27.PolicyDecides': WHATEVER THE INPUT: true; the input reads as it did. -/
def policyDecidesSpec : ChangeSpec := { name := "policyDecides", fn := fun _ => fun
  | [d1, d2] => { results := [.lit (.bool true)], args := [d1, d2] }
  | _ => none }
def policyDecidesRow : OpenClaim := { program := "ytjjbpiejplfbpaa", sum := "cbbe09be0e2b9b2773d001a8bcd9e91dd0feddcf4777da07bbea907eb865c86b", func := "portreeve/portreevelaw27.PolicyDecides", spec := "policyDecides", unfollowed := true, recurses := true, apart := false }
def PolicyDecidesSaid : Prop := policyDecidesRow.holds Try.pinned (OpenSpec.ofChange policyDecidesSpec)

/-- ITS FALSE NEIGHBOUR: 'it returns false'. Refute it at one input. -/
def policyDecidesWrong : ChangeSpec := { name := "policyDecides", fn := fun _ => fun
  | [d1, d2] => { results := [.lit (.bool false)], args := [d1, d2] }
  | _ => none }
def PolicyDecidesWrongFalsely : Prop := policyDecidesRow.holds Try.pinned (OpenSpec.ofChange policyDecidesWrong)

/-- 'portreevelaw27.PolicyStarts': WHATEVER THE INPUT: true; the input reads as it did. -/
def policyStartsSpec : ChangeSpec := { name := "policyStarts", fn := fun _ => fun
  | [d1, d2, d3] => { results := [.lit (.bool true)], args := [d1, d2, d3] }
  | _ => none }
def policyStartsRow : OpenClaim := { program := "ytjjbpiejplfbpaa", sum := "cbbe09be0e2b9b2773d001a8bcd9e91dd0feddcf4777da07bbea907eb865c86b", func := "portreeve/portreevelaw27.PolicyStarts", spec := "policyStarts", unfollowed := true, recurses := true, apart := false }
def PolicyStartsSaid : Prop := policyStartsRow.holds Try.pinned (OpenSpec.ofChange policyStartsSpec)

/-- ITS FALSE NEIGHBOUR: 'it returns false'. Refute it at one input. -/
def policyStartsWrong : ChangeSpec := { name := "policyStarts", fn := fun _ => fun
  | [d1, d2, d3] => { results := [.lit (.bool false)], args := [d1, d2, d3] }
  | _ => none }
def PolicyStartsWrongFalsely : Prop := policyStartsRow.holds Try.pinned (OpenSpec.ofChange policyStartsWrong)

/-- 'portreevelaw27.PolicySame': WHATEVER THE INPUT: true; the input reads as it did. -/
def policySameSpec : ChangeSpec := { name := "policySame", fn := fun _ => fun
  | [d1, d2] => { results := [.lit (.bool true)], args := [d1, d2] }
  | _ => none }
def policySameRow : OpenClaim := { program := "ytjjbpiejplfbpaa", sum := "cbbe09be0e2b9b2773d001a8bcd9e91dd0feddcf4777da07bbea907eb865c86b", func := "portreeve/portreevelaw27.PolicySame", spec := "policySame", unfollowed := true, recurses := true, apart := false }
def PolicySameSaid : Prop := policySameRow.holds Try.pinned (OpenSpec.ofChange policySameSpec)

/-- ITS FALSE NEIGHBOUR: 'it returns false'. Refute it at one input. -/
def policySameWrong : ChangeSpec := { name := "policySame", fn := fun _ => fun
  | [d1, d2] => { results := [.lit (.bool false)], args := [d1, d2] }
  | _ => none }
def PolicySameWrongFalsely : Prop := policySameRow.holds Try.pinned (OpenSpec.ofChange policySameWrong)

/-- 'portreevelaw27.PolicyBytes': WHATEVER THE INPUT: true; the input reads as it did. -/
def policyBytesSpec : ChangeSpec := { name := "policyBytes", fn := fun _ => fun
  | [d1, d2] => { results := [.lit (.bool true)], args := [d1, d2] }
  | _ => none }
def policyBytesRow : OpenClaim := { program := "ytjjbpiejplfbpaa", sum := "cbbe09be0e2b9b2773d001a8bcd9e91dd0feddcf4777da07bbea907eb865c86b", func := "portreeve/portreevelaw27.PolicyBytes", spec := "policyBytes", unfollowed := true, recurses := true, apart := false }
def PolicyBytesSaid : Prop := policyBytesRow.holds Try.pinned (OpenSpec.ofChange policyBytesSpec)

/-- ITS FALSE NEIGHBOUR: 'it returns false'. Refute it at one input. -/
def policyBytesWrong : ChangeSpec := { name := "policyBytes", fn := fun _ => fun
  | [d1, d2] => { results := [.lit (.bool false)], args := [d1, d2] }
  | _ => none }
def PolicyBytesWrongFalsely : Prop := policyBytesRow.holds Try.pinned (OpenSpec.ofChange policyBytesWrong)

/-- 'portreevelaw27.PolicyBack': WHATEVER THE INPUT: true; the input reads as it did. -/
def policyBackSpec : ChangeSpec := { name := "policyBack", fn := fun _ => fun
  | [d] => { results := [.lit (.bool true)], args := [d] }
  | _ => none }
def policyBackRow : OpenClaim := { program := "ytjjbpiejplfbpaa", sum := "cbbe09be0e2b9b2773d001a8bcd9e91dd0feddcf4777da07bbea907eb865c86b", func := "portreeve/portreevelaw27.PolicyBack", spec := "policyBack", unfollowed := true, recurses := true, apart := false }
def PolicyBackSaid : Prop := policyBackRow.holds Try.pinned (OpenSpec.ofChange policyBackSpec)

/-- ITS FALSE NEIGHBOUR: 'it returns false'. Refute it at one input. -/
def policyBackWrong : ChangeSpec := { name := "policyBack", fn := fun _ => fun
  | [d] => { results := [.lit (.bool false)], args := [d] }
  | _ => none }
def PolicyBackWrongFalsely : Prop := policyBackRow.holds Try.pinned (OpenSpec.ofChange policyBackWrong)

/- THE SECOND FORM. 'bulk': how many values and letters a reading holds, each counted each time it is reached (what is shared counts as often as it is met; a slice's spare places count too). A statement '..UptoSaid' is the law's where the arguments, and the package variables that the reading takes, are together of bulk at most 1048576: NARROWER than '..Said'. Prove '..Said' where nothing that the law and all that it calls make is longer than what came in: it says more and counts as full. Else prove '..UptoSaid'. A law counts once. -/
mutual
def uptoBulk {H : Type} : DataW H → Nat
  | .lit (.string bytes) => bytes.length + 1
  | .lit _ => 1
  | .nil => 1
  | .ptr d => uptoBulk d + 1
  | .slice elems spare => uptoBulkAll elems + uptoBulkAll spare + 1
  | .agg parts => uptoBulkAll parts + 1
  | .iface _ d => uptoBulk d + 1
  | .map entries => uptoBulkEntries entries + 1
  | .held _ => 1
def uptoBulkAll {H : Type} : List (DataW H) → Nat
  | [] => 0
  | d :: r => uptoBulk d + uptoBulkAll r
def uptoBulkEntries {H : Type} : List (Lit × DataW H) → Nat
  | [] => 0
  | x :: r => uptoBulkEntry x + uptoBulkEntries r
def uptoBulkEntry {H : Type} : Lit × DataW H → Nat
  | (.string bytes, d) => bytes.length + uptoBulk d + 1
  | (_, d) => uptoBulk d + 1
 end
def uptoSmall : (H : Type) → List (DataW H) → Bool := fun _ ds => decide (uptoBulkAll ds ≤ 1048576)
def OpenSpec.upto (s : _root_.Go.ChangeSpec) : _root_.Go.OpenSpec := { _root_.Go.OpenSpec.ofChange s with cond := some uptoSmall }

/-- 'portreevelaw27.PolicyDecides', WHERE WHAT IT READS IS OF BULK AT MOST 1048576: true; the input reads as it did. -/
def policyDecidesUptoRow : OpenClaim := { program := "ytjjbpiejplfbpaa", sum := "cbbe09be0e2b9b2773d001a8bcd9e91dd0feddcf4777da07bbea907eb865c86b", func := "portreeve/portreevelaw27.PolicyDecides", spec := "policyDecides", unfollowed := true, recurses := true, apart := false, narrowed := true }
def PolicyDecidesUptoSaid : Prop := policyDecidesUptoRow.holds Try.pinned (OpenSpec.upto policyDecidesSpec)

/-- 'portreevelaw27.PolicyStarts', WHERE WHAT IT READS IS OF BULK AT MOST 1048576: true; the input reads as it did. -/
def policyStartsUptoRow : OpenClaim := { program := "ytjjbpiejplfbpaa", sum := "cbbe09be0e2b9b2773d001a8bcd9e91dd0feddcf4777da07bbea907eb865c86b", func := "portreeve/portreevelaw27.PolicyStarts", spec := "policyStarts", unfollowed := true, recurses := true, apart := false, narrowed := true }
def PolicyStartsUptoSaid : Prop := policyStartsUptoRow.holds Try.pinned (OpenSpec.upto policyStartsSpec)

/-- 'portreevelaw27.PolicySame', WHERE WHAT IT READS IS OF BULK AT MOST 1048576: true; the input reads as it did. -/
def policySameUptoRow : OpenClaim := { program := "ytjjbpiejplfbpaa", sum := "cbbe09be0e2b9b2773d001a8bcd9e91dd0feddcf4777da07bbea907eb865c86b", func := "portreeve/portreevelaw27.PolicySame", spec := "policySame", unfollowed := true, recurses := true, apart := false, narrowed := true }
def PolicySameUptoSaid : Prop := policySameUptoRow.holds Try.pinned (OpenSpec.upto policySameSpec)

/-- 'portreevelaw27.PolicyBytes', WHERE WHAT IT READS IS OF BULK AT MOST 1048576: true; the input reads as it did. -/
def policyBytesUptoRow : OpenClaim := { program := "ytjjbpiejplfbpaa", sum := "cbbe09be0e2b9b2773d001a8bcd9e91dd0feddcf4777da07bbea907eb865c86b", func := "portreeve/portreevelaw27.PolicyBytes", spec := "policyBytes", unfollowed := true, recurses := true, apart := false, narrowed := true }
def PolicyBytesUptoSaid : Prop := policyBytesUptoRow.holds Try.pinned (OpenSpec.upto policyBytesSpec)

/-- 'portreevelaw27.PolicyBack', WHERE WHAT IT READS IS OF BULK AT MOST 1048576: true; the input reads as it did. -/
def policyBackUptoRow : OpenClaim := { program := "ytjjbpiejplfbpaa", sum := "cbbe09be0e2b9b2773d001a8bcd9e91dd0feddcf4777da07bbea907eb865c86b", func := "portreeve/portreevelaw27.PolicyBack", spec := "policyBack", unfollowed := true, recurses := true, apart := false, narrowed := true }
def PolicyBackUptoSaid : Prop := policyBackUptoRow.holds Try.pinned (OpenSpec.upto policyBackSpec)

end Rows
end Go.Proofs.Ytjjbpiejplfbpaa
