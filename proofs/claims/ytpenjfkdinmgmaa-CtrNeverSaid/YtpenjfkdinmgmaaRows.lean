/-
  No cell of these rows narrows 'for every input' (looked for: loops, veiled, ifaces, maps, wideKeys, modest, calm, conditions, laid).
  DERIVED. THE GIVEN ROWS OF THIS SEAT. 5 by the template 'for every input the law returns true; each argument reads behind the call as it read before'; 0 by the template 'total and deterministic' (their statements: YtpenjfkdinmgmaaTotals.lean).
  GIVEN WITH THE SEED: the statements are not yours to turn. If you find one false, say at which input.
  Laid BY PROGRAM, IN A SANDBOX (cutbox-rows.mjs): the forced cells as the released guide's own fill.sh prints them over the translation 0c626609194b6f01… (all of the seat's roots in one cut). By AI agents, Wed Nov 11 2026. No macro, syntax, notation, axiom, sorry.
-/
import Derived.Test.YtpenjfkdinmgmaaChecked
import GoSem.Claim
import GoSem.ClaimJoined
import GoSem.ClaimMapViews
import Derived.JoinedTies
import Derived.KernelRfl
namespace Go.Proofs.Ytpenjfkdinmgmaa
/- THE CELL 'sum', in the pinned program and in every row, IS THE sha256 OF THE DUMP (.gsa) THAT YtpenjfkdinmgmaaProg.lean LOADS. Nothing in Lean hashes anything: it is a label: what it is worth is what the hold of that sum in a sandbox is worth. -/
noncomputable def Try.pinned : Pinned := { name := "ytpenjfkdinmgmaa", sum := "0c626609194b6f01d695990662dc6c0626fffe1be2c8b31fd1fd014e02077b67", checked := Try.checked }
namespace Rows
def none {H : Type} : Left H := { results := [], args := [] }

/-- 'portreevelaw13.CtrRises': WHATEVER THE INPUT: true; the input reads as it did. -/
def ctrRisesSpec : ChangeSpec := { name := "ctrRises", fn := fun _ => fun
  | [d1, d2, d3] => { results := [.lit (.bool true)], args := [d1, d2, d3] }
  | _ => none }
def ctrRisesRow : OpenClaim := { program := "ytpenjfkdinmgmaa", sum := "0c626609194b6f01d695990662dc6c0626fffe1be2c8b31fd1fd014e02077b67", func := "portreeve/portreevelaw13.CtrRises", spec := "ctrRises", unfollowed := true, recurses := true, apart := false }
def CtrRisesSaid : Prop := ctrRisesRow.holds Try.pinned (OpenSpec.ofChange ctrRisesSpec)

/-- ITS FALSE NEIGHBOUR: 'it returns false'. Refute it at one input. -/
def ctrRisesWrong : ChangeSpec := { name := "ctrRises", fn := fun _ => fun
  | [d1, d2, d3] => { results := [.lit (.bool false)], args := [d1, d2, d3] }
  | _ => none }
def CtrRisesWrongFalsely : Prop := ctrRisesRow.holds Try.pinned (OpenSpec.ofChange ctrRisesWrong)

/-- 'portreevelaw13.CtrFormats': WHATEVER THE INPUT: true; the input reads as it did. -/
def ctrFormatsSpec : ChangeSpec := { name := "ctrFormats", fn := fun _ => fun
  | [d] => { results := [.lit (.bool true)], args := [d] }
  | _ => none }
def ctrFormatsRow : OpenClaim := { program := "ytpenjfkdinmgmaa", sum := "0c626609194b6f01d695990662dc6c0626fffe1be2c8b31fd1fd014e02077b67", func := "portreeve/portreevelaw13.CtrFormats", spec := "ctrFormats", unfollowed := true, recurses := true, apart := false }
def CtrFormatsSaid : Prop := ctrFormatsRow.holds Try.pinned (OpenSpec.ofChange ctrFormatsSpec)

/-- ITS FALSE NEIGHBOUR: 'it returns false'. Refute it at one input. -/
def ctrFormatsWrong : ChangeSpec := { name := "ctrFormats", fn := fun _ => fun
  | [d] => { results := [.lit (.bool false)], args := [d] }
  | _ => none }
def CtrFormatsWrongFalsely : Prop := ctrFormatsRow.holds Try.pinned (OpenSpec.ofChange ctrFormatsWrong)

/-- 'portreevelaw13.CtrRecovers': WHATEVER THE INPUT: true; the input reads as it did. -/
def ctrRecoversSpec : ChangeSpec := { name := "ctrRecovers", fn := fun _ => fun
  | [d1, d2, d3] => { results := [.lit (.bool true)], args := [d1, d2, d3] }
  | _ => none }
def ctrRecoversRow : OpenClaim := { program := "ytpenjfkdinmgmaa", sum := "0c626609194b6f01d695990662dc6c0626fffe1be2c8b31fd1fd014e02077b67", func := "portreeve/portreevelaw13.CtrRecovers", spec := "ctrRecovers", unfollowed := true, recurses := true, apart := false }
def CtrRecoversSaid : Prop := ctrRecoversRow.holds Try.pinned (OpenSpec.ofChange ctrRecoversSpec)

/-- ITS FALSE NEIGHBOUR: 'it returns false'. Refute it at one input. -/
def ctrRecoversWrong : ChangeSpec := { name := "ctrRecovers", fn := fun _ => fun
  | [d1, d2, d3] => { results := [.lit (.bool false)], args := [d1, d2, d3] }
  | _ => none }
def CtrRecoversWrongFalsely : Prop := ctrRecoversRow.holds Try.pinned (OpenSpec.ofChange ctrRecoversWrong)

/-- 'portreevelaw13.CtrBumps': WHATEVER THE INPUT: true; the input reads as it did. -/
def ctrBumpsSpec : ChangeSpec := { name := "ctrBumps", fn := fun _ => fun
  | [d1, d2, d3] => { results := [.lit (.bool true)], args := [d1, d2, d3] }
  | _ => none }
def ctrBumpsRow : OpenClaim := { program := "ytpenjfkdinmgmaa", sum := "0c626609194b6f01d695990662dc6c0626fffe1be2c8b31fd1fd014e02077b67", func := "portreeve/portreevelaw13.CtrBumps", spec := "ctrBumps", unfollowed := true, recurses := true, apart := false }
def CtrBumpsSaid : Prop := ctrBumpsRow.holds Try.pinned (OpenSpec.ofChange ctrBumpsSpec)

/-- ITS FALSE NEIGHBOUR: 'it returns false'. Refute it at one input. -/
def ctrBumpsWrong : ChangeSpec := { name := "ctrBumps", fn := fun _ => fun
  | [d1, d2, d3] => { results := [.lit (.bool false)], args := [d1, d2, d3] }
  | _ => none }
def CtrBumpsWrongFalsely : Prop := ctrBumpsRow.holds Try.pinned (OpenSpec.ofChange ctrBumpsWrong)

/-- 'portreevelaw13.CtrNever': WHATEVER THE INPUT: true; the input reads as it did. -/
def ctrNeverSpec : ChangeSpec := { name := "ctrNever", fn := fun _ => fun
  | [d1, d2, d3, d4] => { results := [.lit (.bool true)], args := [d1, d2, d3, d4] }
  | _ => none }
def ctrNeverRow : OpenClaim := { program := "ytpenjfkdinmgmaa", sum := "0c626609194b6f01d695990662dc6c0626fffe1be2c8b31fd1fd014e02077b67", func := "portreeve/portreevelaw13.CtrNever", spec := "ctrNever", unfollowed := true, recurses := true, apart := false }
def CtrNeverSaid : Prop := ctrNeverRow.holds Try.pinned (OpenSpec.ofChange ctrNeverSpec)

/-- ITS FALSE NEIGHBOUR: 'it returns false'. Refute it at one input. -/
def ctrNeverWrong : ChangeSpec := { name := "ctrNever", fn := fun _ => fun
  | [d1, d2, d3, d4] => { results := [.lit (.bool false)], args := [d1, d2, d3, d4] }
  | _ => none }
def CtrNeverWrongFalsely : Prop := ctrNeverRow.holds Try.pinned (OpenSpec.ofChange ctrNeverWrong)

/- THE SECOND FORM. 'bulk': how many values and letters a reading holds, each counted each time it is reached (what is shared counts as often as it is met; a slice's spare places count too). A statement '..UptoSaid' is the law's where the arguments, and the package variables that the reading takes, are together of bulk at most 1048576: NARROWER than '..Said'. Prove '..Said' where nothing that the law and all that it calls make is longer than what came in: it says more and counts as full. Else prove '..UptoSaid'. A law counts once. -/
mutual
def uptoBulk {H : Type} : DataW H → Nat
  | .lit (.string bytes) => bytes.length + 1
  | .lit _ => 1
  | .nil => 1
  | .ptr d => uptoBulk d + 1
  | .slice elems spare => uptoBulkAll elems + uptoBulkAll spare + 1
  | .agg parts => uptoBulkAll parts + 1
  | .iface _ d => uptoBulk d + 1
  | .map entries => uptoBulkEntries entries + 1
  | .held _ => 1
def uptoBulkAll {H : Type} : List (DataW H) → Nat
  | [] => 0
  | d :: r => uptoBulk d + uptoBulkAll r
def uptoBulkEntries {H : Type} : List (Lit × DataW H) → Nat
  | [] => 0
  | x :: r => uptoBulkEntry x + uptoBulkEntries r
def uptoBulkEntry {H : Type} : Lit × DataW H → Nat
  | (.string bytes, d) => bytes.length + uptoBulk d + 1
  | (_, d) => uptoBulk d + 1
 end
def uptoSmall : (H : Type) → List (DataW H) → Bool := fun _ ds => decide (uptoBulkAll ds ≤ 1048576)
def OpenSpec.upto (s : _root_.Go.ChangeSpec) : _root_.Go.OpenSpec := { _root_.Go.OpenSpec.ofChange s with cond := some uptoSmall }

/-- 'portreevelaw13.CtrRises', WHERE WHAT IT READS IS OF BULK AT MOST 1048576: true; the input reads as it did. -/
def ctrRisesUptoRow : OpenClaim := { program := "ytpenjfkdinmgmaa", sum := "0c626609194b6f01d695990662dc6c0626fffe1be2c8b31fd1fd014e02077b67", func := "portreeve/portreevelaw13.CtrRises", spec := "ctrRises", unfollowed := true, recurses := true, apart := false, narrowed := true }
def CtrRisesUptoSaid : Prop := ctrRisesUptoRow.holds Try.pinned (OpenSpec.upto ctrRisesSpec)

/-- 'portreevelaw13.CtrFormats', WHERE WHAT IT READS IS OF BULK AT MOST 1048576: true; the input reads as it did. -/
def ctrFormatsUptoRow : OpenClaim := { program := "ytpenjfkdinmgmaa", sum := "0c626609194b6f01d695990662dc6c0626fffe1be2c8b31fd1fd014e02077b67", func := "portreeve/portreevelaw13.CtrFormats", spec := "ctrFormats", unfollowed := true, recurses := true, apart := false, narrowed := true }
def CtrFormatsUptoSaid : Prop := ctrFormatsUptoRow.holds Try.pinned (OpenSpec.upto ctrFormatsSpec)

/-- 'portreevelaw13.CtrRecovers', WHERE WHAT IT READS IS OF BULK AT MOST 1048576: true; the input reads as it did. -/
def ctrRecoversUptoRow : OpenClaim := { program := "ytpenjfkdinmgmaa", sum := "0c626609194b6f01d695990662dc6c0626fffe1be2c8b31fd1fd014e02077b67", func := "portreeve/portreevelaw13.CtrRecovers", spec := "ctrRecovers", unfollowed := true, recurses := true, apart := false, narrowed := true }
def CtrRecoversUptoSaid : Prop := ctrRecoversUptoRow.holds Try.pinned (OpenSpec.upto ctrRecoversSpec)

/-- 'portreevelaw13.CtrBumps', WHERE WHAT IT READS IS OF BULK AT MOST 1048576: true; the input reads as it did. -/
def ctrBumpsUptoRow : OpenClaim := { program := "ytpenjfkdinmgmaa", sum := "0c626609194b6f01d695990662dc6c0626fffe1be2c8b31fd1fd014e02077b67", func := "portreeve/portreevelaw13.CtrBumps", spec := "ctrBumps", unfollowed := true, recurses := true, apart := false, narrowed := true }
def CtrBumpsUptoSaid : Prop := ctrBumpsUptoRow.holds Try.pinned (OpenSpec.upto ctrBumpsSpec)

/-- 'portreevelaw13.CtrNever', WHERE WHAT IT READS IS OF BULK AT MOST 1048576: true; the input reads as it did. -/
def ctrNeverUptoRow : OpenClaim := { program := "ytpenjfkdinmgmaa", sum := "0c626609194b6f01d695990662dc6c0626fffe1be2c8b31fd1fd014e02077b67", func := "portreeve/portreevelaw13.CtrNever", spec := "ctrNever", unfollowed := true, recurses := true, apart := false, narrowed := true }
def CtrNeverUptoSaid : Prop := ctrNeverUptoRow.holds Try.pinned (OpenSpec.upto ctrNeverSpec)

end Rows
end Go.Proofs.Ytpenjfkdinmgmaa
