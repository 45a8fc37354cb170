/-
  No cell of these rows narrows 'for every input' (looked for: loops, veiled, ifaces, maps, wideKeys, modest, calm, conditions, laid).
  DERIVED. THE GIVEN ROWS OF THIS SEAT. 8 by the template 'for every input the law returns true; each argument reads behind the call as it read before'; 0 by the template 'total and deterministic' (their statements: YtpoocfmphcgmkaaGreatTotals.lean).
  GIVEN WITH THE SEED: the statements are not yours to turn. If you find one false, say at which input.
  Laid BY PROGRAM, IN A SANDBOX (cutbox-rows.mjs): the forced cells as the released guide's own fill.sh prints them over the translation 76c618efd417830b… (all of the seat's roots in one cut). By AI agents, Wed Nov 11 2026. No macro, syntax, notation, axiom, sorry.
-/
import Derived.Test.YtpoocfmphcgmkaaGreatChecked
import GoSem.Claim
import GoSem.ClaimJoined
import GoSem.ClaimMapViews
import Derived.JoinedTies
import Derived.KernelRfl
namespace Go.Proofs.YtpoocfmphcgmkaaGreat
/- THE CELL 'sum', in the pinned program and in every row, IS THE sha256 OF THE DUMP (.gsa) THAT YtpoocfmphcgmkaaGreatProg.lean LOADS. Nothing in Lean hashes anything: it is a label: what it is worth is what the hold of that sum in a sandbox is worth. -/
noncomputable def Tryz.pinned : Pinned := { name := "ytpoocfmphcgmkaagreat", sum := "76c618efd417830b33ecaf2a4ba6e13fde3b5e6f1ed1a3c555dffd17159b23f3", checked := Tryz.checked }
namespace Rows
def none {H : Type} : Left H := { results := [], args := [] }

/-- 'similelaw13.SpaceSpans': WHATEVER THE INPUT: true; the input reads as it did. -/
def spaceSpansSpec : ChangeSpec := { name := "spaceSpans", fn := fun _ => fun
  | [d1, d2] => { results := [.lit (.bool true)], args := [d1, d2] }
  | _ => none }
def spaceSpansRow : OpenClaim := { program := "ytpoocfmphcgmkaagreat", sum := "76c618efd417830b33ecaf2a4ba6e13fde3b5e6f1ed1a3c555dffd17159b23f3", func := "simile/similelaw13.SpaceSpans", spec := "spaceSpans", unfollowed := true, recurses := true, apart := false }
def SpaceSpansSaid : Prop := spaceSpansRow.holds Tryz.pinned (OpenSpec.ofChange spaceSpansSpec)

/-- ITS FALSE NEIGHBOUR: 'it returns false'. Refute it at one input. -/
def spaceSpansWrong : ChangeSpec := { name := "spaceSpans", fn := fun _ => fun
  | [d1, d2] => { results := [.lit (.bool false)], args := [d1, d2] }
  | _ => none }
def SpaceSpansWrongFalsely : Prop := spaceSpansRow.holds Tryz.pinned (OpenSpec.ofChange spaceSpansWrong)

/-- 'similelaw12.BareissLast': WHATEVER THE INPUT: true; the input reads as it did. -/
def bareissLastSpec : ChangeSpec := { name := "bareissLast", fn := fun _ => fun
  | [d] => { results := [.lit (.bool true)], args := [d] }
  | _ => none }
def bareissLastRow : OpenClaim := { program := "ytpoocfmphcgmkaagreat", sum := "76c618efd417830b33ecaf2a4ba6e13fde3b5e6f1ed1a3c555dffd17159b23f3", func := "simile/similelaw12.BareissLast", spec := "bareissLast", unfollowed := true, recurses := true, apart := false }
def BareissLastSaid : Prop := bareissLastRow.holds Tryz.pinned (OpenSpec.ofChange bareissLastSpec)

/-- ITS FALSE NEIGHBOUR: 'it returns false'. Refute it at one input. -/
def bareissLastWrong : ChangeSpec := { name := "bareissLast", fn := fun _ => fun
  | [d] => { results := [.lit (.bool false)], args := [d] }
  | _ => none }
def BareissLastWrongFalsely : Prop := bareissLastRow.holds Tryz.pinned (OpenSpec.ofChange bareissLastWrong)

/-- 'similelaw12.BareissReduces': WHATEVER THE INPUT: true; the input reads as it did. -/
def bareissReducesSpec : ChangeSpec := { name := "bareissReduces", fn := fun _ => fun
  | [d] => { results := [.lit (.bool true)], args := [d] }
  | _ => none }
def bareissReducesRow : OpenClaim := { program := "ytpoocfmphcgmkaagreat", sum := "76c618efd417830b33ecaf2a4ba6e13fde3b5e6f1ed1a3c555dffd17159b23f3", func := "simile/similelaw12.BareissReduces", spec := "bareissReduces", unfollowed := true, recurses := true, apart := false }
def BareissReducesSaid : Prop := bareissReducesRow.holds Tryz.pinned (OpenSpec.ofChange bareissReducesSpec)

/-- ITS FALSE NEIGHBOUR: 'it returns false'. Refute it at one input. -/
def bareissReducesWrong : ChangeSpec := { name := "bareissReduces", fn := fun _ => fun
  | [d] => { results := [.lit (.bool false)], args := [d] }
  | _ => none }
def BareissReducesWrongFalsely : Prop := bareissReducesRow.holds Tryz.pinned (OpenSpec.ofChange bareissReducesWrong)

/-- 'similelaw13.SpaceAsks': WHATEVER THE INPUT: true; the input reads as it did. -/
def spaceAsksSpec : ChangeSpec := { name := "spaceAsks", fn := fun _ => fun
  | [d1, d2] => { results := [.lit (.bool true)], args := [d1, d2] }
  | _ => none }
def spaceAsksRow : OpenClaim := { program := "ytpoocfmphcgmkaagreat", sum := "76c618efd417830b33ecaf2a4ba6e13fde3b5e6f1ed1a3c555dffd17159b23f3", func := "simile/similelaw13.SpaceAsks", spec := "spaceAsks", unfollowed := true, recurses := true, apart := false }
def SpaceAsksSaid : Prop := spaceAsksRow.holds Tryz.pinned (OpenSpec.ofChange spaceAsksSpec)

/-- ITS FALSE NEIGHBOUR: 'it returns false'. Refute it at one input. -/
def spaceAsksWrong : ChangeSpec := { name := "spaceAsks", fn := fun _ => fun
  | [d1, d2] => { results := [.lit (.bool false)], args := [d1, d2] }
  | _ => none }
def SpaceAsksWrongFalsely : Prop := spaceAsksRow.holds Tryz.pinned (OpenSpec.ofChange spaceAsksWrong)

/-- 'similelaw12.BareissRanks': WHATEVER THE INPUT: true; the input reads as it did. -/
def bareissRanksSpec : ChangeSpec := { name := "bareissRanks", fn := fun _ => fun
  | [d1, d2, d3] => { results := [.lit (.bool true)], args := [d1, d2, d3] }
  | _ => none }
def bareissRanksRow : OpenClaim := { program := "ytpoocfmphcgmkaagreat", sum := "76c618efd417830b33ecaf2a4ba6e13fde3b5e6f1ed1a3c555dffd17159b23f3", func := "simile/similelaw12.BareissRanks", spec := "bareissRanks", unfollowed := true, recurses := true, apart := false }
def BareissRanksSaid : Prop := bareissRanksRow.holds Tryz.pinned (OpenSpec.ofChange bareissRanksSpec)

/-- ITS FALSE NEIGHBOUR: 'it returns false'. Refute it at one input. -/
def bareissRanksWrong : ChangeSpec := { name := "bareissRanks", fn := fun _ => fun
  | [d1, d2, d3] => { results := [.lit (.bool false)], args := [d1, d2, d3] }
  | _ => none }
def BareissRanksWrongFalsely : Prop := bareissRanksRow.holds Tryz.pinned (OpenSpec.ofChange bareissRanksWrong)

/-- 'similelaw13.SpaceDims': WHATEVER THE INPUT: true; the input reads as it did. -/
def spaceDimsSpec : ChangeSpec := { name := "spaceDims", fn := fun _ => fun
  | [d1, d2, d3] => { results := [.lit (.bool true)], args := [d1, d2, d3] }
  | _ => none }
def spaceDimsRow : OpenClaim := { program := "ytpoocfmphcgmkaagreat", sum := "76c618efd417830b33ecaf2a4ba6e13fde3b5e6f1ed1a3c555dffd17159b23f3", func := "simile/similelaw13.SpaceDims", spec := "spaceDims", unfollowed := true, recurses := true, apart := false }
def SpaceDimsSaid : Prop := spaceDimsRow.holds Tryz.pinned (OpenSpec.ofChange spaceDimsSpec)

/-- ITS FALSE NEIGHBOUR: 'it returns false'. Refute it at one input. -/
def spaceDimsWrong : ChangeSpec := { name := "spaceDims", fn := fun _ => fun
  | [d1, d2, d3] => { results := [.lit (.bool false)], args := [d1, d2, d3] }
  | _ => none }
def SpaceDimsWrongFalsely : Prop := spaceDimsRow.holds Tryz.pinned (OpenSpec.ofChange spaceDimsWrong)

/-- 'similelaw13.SpaceMaps': WHATEVER THE INPUT: true; the input reads as it did. -/
def spaceMapsSpec : ChangeSpec := { name := "spaceMaps", fn := fun _ => fun
  | [d1, d2] => { results := [.lit (.bool true)], args := [d1, d2] }
  | _ => none }
def spaceMapsRow : OpenClaim := { program := "ytpoocfmphcgmkaagreat", sum := "76c618efd417830b33ecaf2a4ba6e13fde3b5e6f1ed1a3c555dffd17159b23f3", func := "simile/similelaw13.SpaceMaps", spec := "spaceMaps", unfollowed := true, recurses := true, apart := false }
def SpaceMapsSaid : Prop := spaceMapsRow.holds Tryz.pinned (OpenSpec.ofChange spaceMapsSpec)

/-- ITS FALSE NEIGHBOUR: 'it returns false'. Refute it at one input. -/
def spaceMapsWrong : ChangeSpec := { name := "spaceMaps", fn := fun _ => fun
  | [d1, d2] => { results := [.lit (.bool false)], args := [d1, d2] }
  | _ => none }
def SpaceMapsWrongFalsely : Prop := spaceMapsRow.holds Tryz.pinned (OpenSpec.ofChange spaceMapsWrong)

/-- 'similelaw13.SpacePairs': WHATEVER THE INPUT: true; the input reads as it did. -/
def spacePairsSpec : ChangeSpec := { name := "spacePairs", fn := fun _ => fun
  | [d1, d2] => { results := [.lit (.bool true)], args := [d1, d2] }
  | _ => none }
def spacePairsRow : OpenClaim := { program := "ytpoocfmphcgmkaagreat", sum := "76c618efd417830b33ecaf2a4ba6e13fde3b5e6f1ed1a3c555dffd17159b23f3", func := "simile/similelaw13.SpacePairs", spec := "spacePairs", unfollowed := true, recurses := true, apart := false }
def SpacePairsSaid : Prop := spacePairsRow.holds Tryz.pinned (OpenSpec.ofChange spacePairsSpec)

/-- ITS FALSE NEIGHBOUR: 'it returns false'. Refute it at one input. -/
def spacePairsWrong : ChangeSpec := { name := "spacePairs", fn := fun _ => fun
  | [d1, d2] => { results := [.lit (.bool false)], args := [d1, d2] }
  | _ => none }
def SpacePairsWrongFalsely : Prop := spacePairsRow.holds Tryz.pinned (OpenSpec.ofChange spacePairsWrong)

/- THE SECOND FORM. 'bulk': how many values and letters a reading holds, each counted each time it is reached (what is shared counts as often as it is met; a slice's spare places count too). A statement '..UptoSaid' is the law's where the arguments, and the package variables that the reading takes, are together of bulk at most 1048576: NARROWER than '..Said'. Prove '..Said' where nothing that the law and all that it calls make is longer than what came in: it says more and counts as full. Else prove '..UptoSaid'. A law counts once. -/
mutual
def uptoBulk {H : Type} : DataW H → Nat
  | .lit (.string bytes) => bytes.length + 1
  | .lit _ => 1
  | .nil => 1
  | .ptr d => uptoBulk d + 1
  | .slice elems spare => uptoBulkAll elems + uptoBulkAll spare + 1
  | .agg parts => uptoBulkAll parts + 1
  | .iface _ d => uptoBulk d + 1
  | .map entries => uptoBulkEntries entries + 1
  | .held _ => 1
def uptoBulkAll {H : Type} : List (DataW H) → Nat
  | [] => 0
  | d :: r => uptoBulk d + uptoBulkAll r
def uptoBulkEntries {H : Type} : List (Lit × DataW H) → Nat
  | [] => 0
  | x :: r => uptoBulkEntry x + uptoBulkEntries r
def uptoBulkEntry {H : Type} : Lit × DataW H → Nat
  | (.string bytes, d) => bytes.length + uptoBulk d + 1
  | (_, d) => uptoBulk d + 1
 end
def uptoSmall : (H : Type) → List (DataW H) → Bool := fun _ ds => decide (uptoBulkAll ds ≤ 1048576)
def OpenSpec.upto (s : _root_.Go.ChangeSpec) : _root_.Go.OpenSpec := { _root_.Go.OpenSpec.ofChange s with cond := some uptoSmall }

/-- 'similelaw13.SpaceSpans', WHERE WHAT IT READS IS OF BULK AT MOST 1048576: true; the input reads as it did. -/
def spaceSpansUptoRow : OpenClaim := { program := "ytpoocfmphcgmkaagreat", sum := "76c618efd417830b33ecaf2a4ba6e13fde3b5e6f1ed1a3c555dffd17159b23f3", func := "simile/similelaw13.SpaceSpans", spec := "spaceSpans", unfollowed := true, recurses := true, apart := false, narrowed := true }
def SpaceSpansUptoSaid : Prop := spaceSpansUptoRow.holds Tryz.pinned (OpenSpec.upto spaceSpansSpec)

/-- 'similelaw12.BareissLast', WHERE WHAT IT READS IS OF BULK AT MOST 1048576: true; the input reads as it did. -/
def bareissLastUptoRow : OpenClaim := { program := "ytpoocfmphcgmkaagreat", sum := "76c618efd417830b33ecaf2a4ba6e13fde3b5e6f1ed1a3c555dffd17159b23f3", func := "simile/similelaw12.BareissLast", spec := "bareissLast", unfollowed := true, recurses := true, apart := false, narrowed := true }
def BareissLastUptoSaid : Prop := bareissLastUptoRow.holds Tryz.pinned (OpenSpec.upto bareissLastSpec)

/-- 'similelaw12.BareissReduces', WHERE WHAT IT READS IS OF BULK AT MOST 1048576: true; the input reads as it did. -/
def bareissReducesUptoRow : OpenClaim := { program := "ytpoocfmphcgmkaagreat", sum := "76c618efd417830b33ecaf2a4ba6e13fde3b5e6f1ed1a3c555dffd17159b23f3", func := "simile/similelaw12.BareissReduces", spec := "bareissReduces", unfollowed := true, recurses := true, apart := false, narrowed := true }
def BareissReducesUptoSaid : Prop := bareissReducesUptoRow.holds Tryz.pinned (OpenSpec.upto bareissReducesSpec)

/-- 'similelaw13.SpaceAsks', WHERE WHAT IT READS IS OF BULK AT MOST 1048576: true; the input reads as it did. -/
def spaceAsksUptoRow : OpenClaim := { program := "ytpoocfmphcgmkaagreat", sum := "76c618efd417830b33ecaf2a4ba6e13fde3b5e6f1ed1a3c555dffd17159b23f3", func := "simile/similelaw13.SpaceAsks", spec := "spaceAsks", unfollowed := true, recurses := true, apart := false, narrowed := true }
def SpaceAsksUptoSaid : Prop := spaceAsksUptoRow.holds Tryz.pinned (OpenSpec.upto spaceAsksSpec)

/-- 'similelaw12.BareissRanks', WHERE WHAT IT READS IS OF BULK AT MOST 1048576: true; the input reads as it did. -/
def bareissRanksUptoRow : OpenClaim := { program := "ytpoocfmphcgmkaagreat", sum := "76c618efd417830b33ecaf2a4ba6e13fde3b5e6f1ed1a3c555dffd17159b23f3", func := "simile/similelaw12.BareissRanks", spec := "bareissRanks", unfollowed := true, recurses := true, apart := false, narrowed := true }
def BareissRanksUptoSaid : Prop := bareissRanksUptoRow.holds Tryz.pinned (OpenSpec.upto bareissRanksSpec)

/-- 'similelaw13.SpaceDims', WHERE WHAT IT READS IS OF BULK AT MOST 1048576: true; the input reads as it did. -/
def spaceDimsUptoRow : OpenClaim := { program := "ytpoocfmphcgmkaagreat", sum := "76c618efd417830b33ecaf2a4ba6e13fde3b5e6f1ed1a3c555dffd17159b23f3", func := "simile/similelaw13.SpaceDims", spec := "spaceDims", unfollowed := true, recurses := true, apart := false, narrowed := true }
def SpaceDimsUptoSaid : Prop := spaceDimsUptoRow.holds Tryz.pinned (OpenSpec.upto spaceDimsSpec)

/-- 'similelaw13.SpaceMaps', WHERE WHAT IT READS IS OF BULK AT MOST 1048576: true; the input reads as it did. -/
def spaceMapsUptoRow : OpenClaim := { program := "ytpoocfmphcgmkaagreat", sum := "76c618efd417830b33ecaf2a4ba6e13fde3b5e6f1ed1a3c555dffd17159b23f3", func := "simile/similelaw13.SpaceMaps", spec := "spaceMaps", unfollowed := true, recurses := true, apart := false, narrowed := true }
def SpaceMapsUptoSaid : Prop := spaceMapsUptoRow.holds Tryz.pinned (OpenSpec.upto spaceMapsSpec)

/-- 'similelaw13.SpacePairs', WHERE WHAT IT READS IS OF BULK AT MOST 1048576: true; the input reads as it did. -/
def spacePairsUptoRow : OpenClaim := { program := "ytpoocfmphcgmkaagreat", sum := "76c618efd417830b33ecaf2a4ba6e13fde3b5e6f1ed1a3c555dffd17159b23f3", func := "simile/similelaw13.SpacePairs", spec := "spacePairs", unfollowed := true, recurses := true, apart := false, narrowed := true }
def SpacePairsUptoSaid : Prop := spacePairsUptoRow.holds Tryz.pinned (OpenSpec.upto spacePairsSpec)

end Rows
end Go.Proofs.YtpoocfmphcgmkaaGreat
