/-
  No cell of these rows narrows 'for every input' (looked for: loops, veiled, ifaces, maps, wideKeys, modest, calm, conditions, laid).
  DERIVED. THE GIVEN ROWS OF THIS SEAT. 5 by the template 'for every input the law returns true; each argument reads behind the call as it read before'; 0 by the template 'total and deterministic' (their statements: YtbhenelehhiakaaGreatTotals.lean).
  GIVEN WITH THE SEED: the statements are not yours to turn. If you find one false, say at which input.
  Laid BY PROGRAM, IN A SANDBOX (cutbox-rows.mjs): the forced cells as the released guide's own fill.sh prints them over the translation e57eed018096ccf7… (all of the seat's roots in one cut). By AI agents, Wed Nov 11 2026. No macro, syntax, notation, axiom, sorry.
-/
import Derived.Test.YtbhenelehhiakaaGreatChecked
import GoSem.Claim
import GoSem.ClaimJoined
import GoSem.ClaimMapViews
import Derived.JoinedTies
import Derived.KernelRfl
namespace Go.Proofs.YtbhenelehhiakaaGreat
/- THE CELL 'sum', in the pinned program and in every row, IS THE sha256 OF THE DUMP (.gsa) THAT YtbhenelehhiakaaGreatProg.lean LOADS. Nothing in Lean hashes anything: it is a label: what it is worth is what the hold of that sum in a sandbox is worth. -/
noncomputable def Tryz.pinned : Pinned := { name := "ytbhenelehhiakaagreat", sum := "e57eed018096ccf794b522aa1c5ff8b8c7ea886ddb36a136005b50900fdce12a", checked := Tryz.checked }
namespace Rows
def none {H : Type} : Left H := { results := [], args := [] }

/-- 'similelaw11.QmatColumns': WHATEVER THE INPUT: true; the input reads as it did. -/
def qmatColumnsSpec : ChangeSpec := { name := "qmatColumns", fn := fun _ => fun
  | [d1, d2, d3] => { results := [.lit (.bool true)], args := [d1, d2, d3] }
  | _ => none }
def qmatColumnsRow : OpenClaim := { program := "ytbhenelehhiakaagreat", sum := "e57eed018096ccf794b522aa1c5ff8b8c7ea886ddb36a136005b50900fdce12a", func := "simile/similelaw11.QmatColumns", spec := "qmatColumns", unfollowed := true, recurses := true, apart := false }
def QmatColumnsSaid : Prop := qmatColumnsRow.holds Tryz.pinned (OpenSpec.ofChange qmatColumnsSpec)

/-- ITS FALSE NEIGHBOUR: 'it returns false'. Refute it at one input. -/
def qmatColumnsWrong : ChangeSpec := { name := "qmatColumns", fn := fun _ => fun
  | [d1, d2, d3] => { results := [.lit (.bool false)], args := [d1, d2, d3] }
  | _ => none }
def QmatColumnsWrongFalsely : Prop := qmatColumnsRow.holds Tryz.pinned (OpenSpec.ofChange qmatColumnsWrong)

/-- 'similelaw11.QmatForms': WHATEVER THE INPUT: true; the input reads as it did. -/
def qmatFormsSpec : ChangeSpec := { name := "qmatForms", fn := fun _ => fun
  | [d1, d2] => { results := [.lit (.bool true)], args := [d1, d2] }
  | _ => none }
def qmatFormsRow : OpenClaim := { program := "ytbhenelehhiakaagreat", sum := "e57eed018096ccf794b522aa1c5ff8b8c7ea886ddb36a136005b50900fdce12a", func := "simile/similelaw11.QmatForms", spec := "qmatForms", unfollowed := true, recurses := true, apart := false }
def QmatFormsSaid : Prop := qmatFormsRow.holds Tryz.pinned (OpenSpec.ofChange qmatFormsSpec)

/-- ITS FALSE NEIGHBOUR: 'it returns false'. Refute it at one input. -/
def qmatFormsWrong : ChangeSpec := { name := "qmatForms", fn := fun _ => fun
  | [d1, d2] => { results := [.lit (.bool false)], args := [d1, d2] }
  | _ => none }
def QmatFormsWrongFalsely : Prop := qmatFormsRow.holds Tryz.pinned (OpenSpec.ofChange qmatFormsWrong)

/-- 'similelaw11.QmatProducts': WHATEVER THE INPUT: true; the input reads as it did. -/
def qmatProductsSpec : ChangeSpec := { name := "qmatProducts", fn := fun _ => fun
  | [d1, d2] => { results := [.lit (.bool true)], args := [d1, d2] }
  | _ => none }
def qmatProductsRow : OpenClaim := { program := "ytbhenelehhiakaagreat", sum := "e57eed018096ccf794b522aa1c5ff8b8c7ea886ddb36a136005b50900fdce12a", func := "simile/similelaw11.QmatProducts", spec := "qmatProducts", unfollowed := true, recurses := true, apart := false }
def QmatProductsSaid : Prop := qmatProductsRow.holds Tryz.pinned (OpenSpec.ofChange qmatProductsSpec)

/-- ITS FALSE NEIGHBOUR: 'it returns false'. Refute it at one input. -/
def qmatProductsWrong : ChangeSpec := { name := "qmatProducts", fn := fun _ => fun
  | [d1, d2] => { results := [.lit (.bool false)], args := [d1, d2] }
  | _ => none }
def QmatProductsWrongFalsely : Prop := qmatProductsRow.holds Tryz.pinned (OpenSpec.ofChange qmatProductsWrong)

/-- 'similelaw11.QmatSums': WHATEVER THE INPUT: true; the input reads as it did. -/
def qmatSumsSpec : ChangeSpec := { name := "qmatSums", fn := fun _ => fun
  | [d1, d2, d3] => { results := [.lit (.bool true)], args := [d1, d2, d3] }
  | _ => none }
def qmatSumsRow : OpenClaim := { program := "ytbhenelehhiakaagreat", sum := "e57eed018096ccf794b522aa1c5ff8b8c7ea886ddb36a136005b50900fdce12a", func := "simile/similelaw11.QmatSums", spec := "qmatSums", unfollowed := true, recurses := true, apart := false }
def QmatSumsSaid : Prop := qmatSumsRow.holds Tryz.pinned (OpenSpec.ofChange qmatSumsSpec)

/-- ITS FALSE NEIGHBOUR: 'it returns false'. Refute it at one input. -/
def qmatSumsWrong : ChangeSpec := { name := "qmatSums", fn := fun _ => fun
  | [d1, d2, d3] => { results := [.lit (.bool false)], args := [d1, d2, d3] }
  | _ => none }
def QmatSumsWrongFalsely : Prop := qmatSumsRow.holds Tryz.pinned (OpenSpec.ofChange qmatSumsWrong)

/-- 'similelaw11.QmatVectors': WHATEVER THE INPUT: true; the input reads as it did. -/
def qmatVectorsSpec : ChangeSpec := { name := "qmatVectors", fn := fun _ => fun
  | [d1, d2, d3] => { results := [.lit (.bool true)], args := [d1, d2, d3] }
  | _ => none }
def qmatVectorsRow : OpenClaim := { program := "ytbhenelehhiakaagreat", sum := "e57eed018096ccf794b522aa1c5ff8b8c7ea886ddb36a136005b50900fdce12a", func := "simile/similelaw11.QmatVectors", spec := "qmatVectors", unfollowed := true, recurses := true, apart := false }
def QmatVectorsSaid : Prop := qmatVectorsRow.holds Tryz.pinned (OpenSpec.ofChange qmatVectorsSpec)

/-- ITS FALSE NEIGHBOUR: 'it returns false'. Refute it at one input. -/
def qmatVectorsWrong : ChangeSpec := { name := "qmatVectors", fn := fun _ => fun
  | [d1, d2, d3] => { results := [.lit (.bool false)], args := [d1, d2, d3] }
  | _ => none }
def QmatVectorsWrongFalsely : Prop := qmatVectorsRow.holds Tryz.pinned (OpenSpec.ofChange qmatVectorsWrong)

/- THE SECOND FORM. 'bulk': how many values and letters a reading holds, each counted each time it is reached (what is shared counts as often as it is met; a slice's spare places count too). A statement '..UptoSaid' is the law's where the arguments, and the package variables that the reading takes, are together of bulk at most 1048576: NARROWER than '..Said'. Prove '..Said' where nothing that the law and all that it calls make is longer than what came in: it says more and counts as full. Else prove '..UptoSaid'. A law counts once. -/
mutual
def uptoBulk {H : Type} : DataW H → Nat
  | .lit (.string bytes) => bytes.length + 1
  | .lit _ => 1
  | .nil => 1
  | .ptr d => uptoBulk d + 1
  | .slice elems spare => uptoBulkAll elems + uptoBulkAll spare + 1
  | .agg parts => uptoBulkAll parts + 1
  | .iface _ d => uptoBulk d + 1
  | .map entries => uptoBulkEntries entries + 1
  | .held _ => 1
def uptoBulkAll {H : Type} : List (DataW H) → Nat
  | [] => 0
  | d :: r => uptoBulk d + uptoBulkAll r
def uptoBulkEntries {H : Type} : List (Lit × DataW H) → Nat
  | [] => 0
  | x :: r => uptoBulkEntry x + uptoBulkEntries r
def uptoBulkEntry {H : Type} : Lit × DataW H → Nat
  | (.string bytes, d) => bytes.length + uptoBulk d + 1
  | (_, d) => uptoBulk d + 1
 end
def uptoSmall : (H : Type) → List (DataW H) → Bool := fun _ ds => decide (uptoBulkAll ds ≤ 1048576)
def OpenSpec.upto (s : _root_.Go.ChangeSpec) : _root_.Go.OpenSpec := { _root_.Go.OpenSpec.ofChange s with cond := some uptoSmall }

/-- 'similelaw11.QmatColumns', WHERE WHAT IT READS IS OF BULK AT MOST 1048576: true; the input reads as it did. -/
def qmatColumnsUptoRow : OpenClaim := { program := "ytbhenelehhiakaagreat", sum := "e57eed018096ccf794b522aa1c5ff8b8c7ea886ddb36a136005b50900fdce12a", func := "simile/similelaw11.QmatColumns", spec := "qmatColumns", unfollowed := true, recurses := true, apart := false, narrowed := true }
def QmatColumnsUptoSaid : Prop := qmatColumnsUptoRow.holds Tryz.pinned (OpenSpec.upto qmatColumnsSpec)

/-- 'similelaw11.QmatForms', WHERE WHAT IT READS IS OF BULK AT MOST 1048576: true; the input reads as it did. -/
def qmatFormsUptoRow : OpenClaim := { program := "ytbhenelehhiakaagreat", sum := "e57eed018096ccf794b522aa1c5ff8b8c7ea886ddb36a136005b50900fdce12a", func := "simile/similelaw11.QmatForms", spec := "qmatForms", unfollowed := true, recurses := true, apart := false, narrowed := true }
def QmatFormsUptoSaid : Prop := qmatFormsUptoRow.holds Tryz.pinned (OpenSpec.upto qmatFormsSpec)

/-- 'similelaw11.QmatProducts', WHERE WHAT IT READS IS OF BULK AT MOST 1048576: true; the input reads as it did. -/
def qmatProductsUptoRow : OpenClaim := { program := "ytbhenelehhiakaagreat", sum := "e57eed018096ccf794b522aa1c5ff8b8c7ea886ddb36a136005b50900fdce12a", func := "simile/similelaw11.QmatProducts", spec := "qmatProducts", unfollowed := true, recurses := true, apart := false, narrowed := true }
def QmatProductsUptoSaid : Prop := qmatProductsUptoRow.holds Tryz.pinned (OpenSpec.upto qmatProductsSpec)

/-- 'similelaw11.QmatSums', WHERE WHAT IT READS IS OF BULK AT MOST 1048576: true; the input reads as it did. -/
def qmatSumsUptoRow : OpenClaim := { program := "ytbhenelehhiakaagreat", sum := "e57eed018096ccf794b522aa1c5ff8b8c7ea886ddb36a136005b50900fdce12a", func := "simile/similelaw11.QmatSums", spec := "qmatSums", unfollowed := true, recurses := true, apart := false, narrowed := true }
def QmatSumsUptoSaid : Prop := qmatSumsUptoRow.holds Tryz.pinned (OpenSpec.upto qmatSumsSpec)

/-- 'similelaw11.QmatVectors', WHERE WHAT IT READS IS OF BULK AT MOST 1048576: true; the input reads as it did. -/
def qmatVectorsUptoRow : OpenClaim := { program := "ytbhenelehhiakaagreat", sum := "e57eed018096ccf794b522aa1c5ff8b8c7ea886ddb36a136005b50900fdce12a", func := "simile/similelaw11.QmatVectors", spec := "qmatVectors", unfollowed := true, recurses := true, apart := false, narrowed := true }
def QmatVectorsUptoSaid : Prop := qmatVectorsUptoRow.holds Tryz.pinned (OpenSpec.upto qmatVectorsSpec)

end Rows
end Go.Proofs.YtbhenelehhiakaaGreat
