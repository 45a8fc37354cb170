/-
  No cell of these rows narrows 'for every input' (looked for: loops, veiled, ifaces, maps, wideKeys, modest, calm, conditions, laid).
  DERIVED. THE GIVEN ROWS OF THIS SEAT. 11 by the template 'for every input the law returns true; each argument reads behind the call as it read before'; 0 by the template 'total and deterministic' (their statements: YtmhclkagdpbadaaGreatTotals.lean).
  GIVEN WITH THE SEED: the statements are not yours to turn. If you find one false, say at which input.
  Laid BY PROGRAM, IN A SANDBOX (cutbox-rows.mjs): the forced cells as the released guide's own fill.sh prints them over the translation 94d693d3ca43c9a6… (all of the seat's roots in one cut). By AI agents, Wed Nov 11 2026. No macro, syntax, notation, axiom, sorry.
-/
import Derived.Test.YtmhclkagdpbadaaGreatChecked
import GoSem.Claim
import GoSem.ClaimJoined
import GoSem.ClaimMapViews
import Derived.JoinedTies
import Derived.KernelRfl
namespace Go.Proofs.YtmhclkagdpbadaaGreat
/- THE CELL 'sum', in the pinned program and in every row, IS THE sha256 OF THE DUMP (.gsa) THAT YtmhclkagdpbadaaGreatProg.lean LOADS. Nothing in Lean hashes anything: it is a label: what it is worth is what the hold of that sum in a sandbox is worth. -/
noncomputable def Tryz.pinned : Pinned := { name := "ytmhclkagdpbadaagreat", sum := "94d693d3ca43c9a61d65f617044093b3b3a7720f423fcafaa9e0fd1cd15ff7f5", checked := Tryz.checked }
namespace Rows
def none {H : Type} : Left H := { results := [], args := [] }

/-- 'similelaw11.QmatColumns': WHATEVER THE INPUT: true; the input reads as it did. -/
def qmatColumnsSpec : ChangeSpec := { name := "qmatColumns", fn := fun _ => fun
  | [d1, d2, d3] => { results := [.lit (.bool true)], args := [d1, d2, d3] }
  | _ => none }
def qmatColumnsRow : OpenClaim := { program := "ytmhclkagdpbadaagreat", sum := "94d693d3ca43c9a61d65f617044093b3b3a7720f423fcafaa9e0fd1cd15ff7f5", func := "simile/similelaw11.QmatColumns", spec := "qmatColumns", unfollowed := true, recurses := true, apart := false }
def QmatColumnsSaid : Prop := qmatColumnsRow.holds Tryz.pinned (OpenSpec.ofChange qmatColumnsSpec)

/-- ITS FALSE NEIGHBOUR: 'it returns false'. Refute it at one input. -/
def qmatColumnsWrong : ChangeSpec := { name := "qmatColumns", fn := fun _ => fun
  | [d1, d2, d3] => { results := [.lit (.bool false)], args := [d1, d2, d3] }
  | _ => none }
def QmatColumnsWrongFalsely : Prop := qmatColumnsRow.holds Tryz.pinned (OpenSpec.ofChange qmatColumnsWrong)

/-- 'similelaw11.QmatForms': WHATEVER THE INPUT: true; the input reads as it did. -/
def qmatFormsSpec : ChangeSpec := { name := "qmatForms", fn := fun _ => fun
  | [d1, d2] => { results := [.lit (.bool true)], args := [d1, d2] }
  | _ => none }
def qmatFormsRow : OpenClaim := { program := "ytmhclkagdpbadaagreat", sum := "94d693d3ca43c9a61d65f617044093b3b3a7720f423fcafaa9e0fd1cd15ff7f5", func := "simile/similelaw11.QmatForms", spec := "qmatForms", unfollowed := true, recurses := true, apart := false }
def QmatFormsSaid : Prop := qmatFormsRow.holds Tryz.pinned (OpenSpec.ofChange qmatFormsSpec)

/-- ITS FALSE NEIGHBOUR: 'it returns false'. Refute it at one input. -/
def qmatFormsWrong : ChangeSpec := { name := "qmatForms", fn := fun _ => fun
  | [d1, d2] => { results := [.lit (.bool false)], args := [d1, d2] }
  | _ => none }
def QmatFormsWrongFalsely : Prop := qmatFormsRow.holds Tryz.pinned (OpenSpec.ofChange qmatFormsWrong)

/-- 'similelaw12.BareissProducts': WHATEVER THE INPUT: true; the input reads as it did. -/
def bareissProductsSpec : ChangeSpec := { name := "bareissProducts", fn := fun _ => fun
  | [d1, d2] => { results := [.lit (.bool true)], args := [d1, d2] }
  | _ => none }
def bareissProductsRow : OpenClaim := { program := "ytmhclkagdpbadaagreat", sum := "94d693d3ca43c9a61d65f617044093b3b3a7720f423fcafaa9e0fd1cd15ff7f5", func := "simile/similelaw12.BareissProducts", spec := "bareissProducts", unfollowed := true, recurses := true, apart := false }
def BareissProductsSaid : Prop := bareissProductsRow.holds Tryz.pinned (OpenSpec.ofChange bareissProductsSpec)

/-- ITS FALSE NEIGHBOUR: 'it returns false'. Refute it at one input. -/
def bareissProductsWrong : ChangeSpec := { name := "bareissProducts", fn := fun _ => fun
  | [d1, d2] => { results := [.lit (.bool false)], args := [d1, d2] }
  | _ => none }
def BareissProductsWrongFalsely : Prop := bareissProductsRow.holds Tryz.pinned (OpenSpec.ofChange bareissProductsWrong)

/-- 'similelaw12.BareissEchelons': WHATEVER THE INPUT: true; the input reads as it did. -/
def bareissEchelonsSpec : ChangeSpec := { name := "bareissEchelons", fn := fun _ => fun
  | [d] => { results := [.lit (.bool true)], args := [d] }
  | _ => none }
def bareissEchelonsRow : OpenClaim := { program := "ytmhclkagdpbadaagreat", sum := "94d693d3ca43c9a61d65f617044093b3b3a7720f423fcafaa9e0fd1cd15ff7f5", func := "simile/similelaw12.BareissEchelons", spec := "bareissEchelons", unfollowed := true, recurses := true, apart := false }
def BareissEchelonsSaid : Prop := bareissEchelonsRow.holds Tryz.pinned (OpenSpec.ofChange bareissEchelonsSpec)

/-- ITS FALSE NEIGHBOUR: 'it returns false'. Refute it at one input. -/
def bareissEchelonsWrong : ChangeSpec := { name := "bareissEchelons", fn := fun _ => fun
  | [d] => { results := [.lit (.bool false)], args := [d] }
  | _ => none }
def BareissEchelonsWrongFalsely : Prop := bareissEchelonsRow.holds Tryz.pinned (OpenSpec.ofChange bareissEchelonsWrong)

/-- 'similelaw12.BareissDets': WHATEVER THE INPUT: true; the input reads as it did. -/
def bareissDetsSpec : ChangeSpec := { name := "bareissDets", fn := fun _ => fun
  | [d] => { results := [.lit (.bool true)], args := [d] }
  | _ => none }
def bareissDetsRow : OpenClaim := { program := "ytmhclkagdpbadaagreat", sum := "94d693d3ca43c9a61d65f617044093b3b3a7720f423fcafaa9e0fd1cd15ff7f5", func := "simile/similelaw12.BareissDets", spec := "bareissDets", unfollowed := true, recurses := true, apart := false }
def BareissDetsSaid : Prop := bareissDetsRow.holds Tryz.pinned (OpenSpec.ofChange bareissDetsSpec)

/-- ITS FALSE NEIGHBOUR: 'it returns false'. Refute it at one input. -/
def bareissDetsWrong : ChangeSpec := { name := "bareissDets", fn := fun _ => fun
  | [d] => { results := [.lit (.bool false)], args := [d] }
  | _ => none }
def BareissDetsWrongFalsely : Prop := bareissDetsRow.holds Tryz.pinned (OpenSpec.ofChange bareissDetsWrong)

/-- 'similelaw14.EvalmBrackets': WHATEVER THE INPUT: true; the input reads as it did. -/
def evalmBracketsSpec : ChangeSpec := { name := "evalmBrackets", fn := fun _ => fun
  | [d1, d2] => { results := [.lit (.bool true)], args := [d1, d2] }
  | _ => none }
def evalmBracketsRow : OpenClaim := { program := "ytmhclkagdpbadaagreat", sum := "94d693d3ca43c9a61d65f617044093b3b3a7720f423fcafaa9e0fd1cd15ff7f5", func := "simile/similelaw14.EvalmBrackets", spec := "evalmBrackets", unfollowed := true, recurses := true, apart := false }
def EvalmBracketsSaid : Prop := evalmBracketsRow.holds Tryz.pinned (OpenSpec.ofChange evalmBracketsSpec)

/-- ITS FALSE NEIGHBOUR: 'it returns false'. Refute it at one input. -/
def evalmBracketsWrong : ChangeSpec := { name := "evalmBrackets", fn := fun _ => fun
  | [d1, d2] => { results := [.lit (.bool false)], args := [d1, d2] }
  | _ => none }
def EvalmBracketsWrongFalsely : Prop := evalmBracketsRow.holds Tryz.pinned (OpenSpec.ofChange evalmBracketsWrong)

/-- 'similelaw14.EvalmRing': WHATEVER THE INPUT: true; the input reads as it did. -/
def evalmRingSpec : ChangeSpec := { name := "evalmRing", fn := fun _ => fun
  | [d1, d2, d3] => { results := [.lit (.bool true)], args := [d1, d2, d3] }
  | _ => none }
def evalmRingRow : OpenClaim := { program := "ytmhclkagdpbadaagreat", sum := "94d693d3ca43c9a61d65f617044093b3b3a7720f423fcafaa9e0fd1cd15ff7f5", func := "simile/similelaw14.EvalmRing", spec := "evalmRing", unfollowed := true, recurses := true, apart := false }
def EvalmRingSaid : Prop := evalmRingRow.holds Tryz.pinned (OpenSpec.ofChange evalmRingSpec)

/-- ITS FALSE NEIGHBOUR: 'it returns false'. Refute it at one input. -/
def evalmRingWrong : ChangeSpec := { name := "evalmRing", fn := fun _ => fun
  | [d1, d2, d3] => { results := [.lit (.bool false)], args := [d1, d2, d3] }
  | _ => none }
def EvalmRingWrongFalsely : Prop := evalmRingRow.holds Tryz.pinned (OpenSpec.ofChange evalmRingWrong)

/-- 'similelaw14.EvalmCombines': WHATEVER THE INPUT: true; the input reads as it did. -/
def evalmCombinesSpec : ChangeSpec := { name := "evalmCombines", fn := fun _ => fun
  | [d1, d2] => { results := [.lit (.bool true)], args := [d1, d2] }
  | _ => none }
def evalmCombinesRow : OpenClaim := { program := "ytmhclkagdpbadaagreat", sum := "94d693d3ca43c9a61d65f617044093b3b3a7720f423fcafaa9e0fd1cd15ff7f5", func := "simile/similelaw14.EvalmCombines", spec := "evalmCombines", unfollowed := true, recurses := true, apart := false }
def EvalmCombinesSaid : Prop := evalmCombinesRow.holds Tryz.pinned (OpenSpec.ofChange evalmCombinesSpec)

/-- ITS FALSE NEIGHBOUR: 'it returns false'. Refute it at one input. -/
def evalmCombinesWrong : ChangeSpec := { name := "evalmCombines", fn := fun _ => fun
  | [d1, d2] => { results := [.lit (.bool false)], args := [d1, d2] }
  | _ => none }
def EvalmCombinesWrongFalsely : Prop := evalmCombinesRow.holds Tryz.pinned (OpenSpec.ofChange evalmCombinesWrong)

/-- 'similelaw14.EvalmTraces': WHATEVER THE INPUT: true; the input reads as it did. -/
def evalmTracesSpec : ChangeSpec := { name := "evalmTraces", fn := fun _ => fun
  | [d1, d2, d3] => { results := [.lit (.bool true)], args := [d1, d2, d3] }
  | _ => none }
def evalmTracesRow : OpenClaim := { program := "ytmhclkagdpbadaagreat", sum := "94d693d3ca43c9a61d65f617044093b3b3a7720f423fcafaa9e0fd1cd15ff7f5", func := "simile/similelaw14.EvalmTraces", spec := "evalmTraces", unfollowed := true, recurses := true, apart := false }
def EvalmTracesSaid : Prop := evalmTracesRow.holds Tryz.pinned (OpenSpec.ofChange evalmTracesSpec)

/-- ITS FALSE NEIGHBOUR: 'it returns false'. Refute it at one input. -/
def evalmTracesWrong : ChangeSpec := { name := "evalmTraces", fn := fun _ => fun
  | [d1, d2, d3] => { results := [.lit (.bool false)], args := [d1, d2, d3] }
  | _ => none }
def EvalmTracesWrongFalsely : Prop := evalmTracesRow.holds Tryz.pinned (OpenSpec.ofChange evalmTracesWrong)

/-- 'similelaw14.EvalmOns': WHATEVER THE INPUT: true; the input reads as it did. -/
def evalmOnsSpec : ChangeSpec := { name := "evalmOns", fn := fun _ => fun
  | [d1, d2, d3] => { results := [.lit (.bool true)], args := [d1, d2, d3] }
  | _ => none }
def evalmOnsRow : OpenClaim := { program := "ytmhclkagdpbadaagreat", sum := "94d693d3ca43c9a61d65f617044093b3b3a7720f423fcafaa9e0fd1cd15ff7f5", func := "simile/similelaw14.EvalmOns", spec := "evalmOns", unfollowed := true, recurses := true, apart := false }
def EvalmOnsSaid : Prop := evalmOnsRow.holds Tryz.pinned (OpenSpec.ofChange evalmOnsSpec)

/-- ITS FALSE NEIGHBOUR: 'it returns false'. Refute it at one input. -/
def evalmOnsWrong : ChangeSpec := { name := "evalmOns", fn := fun _ => fun
  | [d1, d2, d3] => { results := [.lit (.bool false)], args := [d1, d2, d3] }
  | _ => none }
def EvalmOnsWrongFalsely : Prop := evalmOnsRow.holds Tryz.pinned (OpenSpec.ofChange evalmOnsWrong)

/-- 'similelaw20.CharfreeTraces': WHATEVER THE INPUT: true; the input reads as it did. -/
def charfreeTracesSpec : ChangeSpec := { name := "charfreeTraces", fn := fun _ => fun
  | [d] => { results := [.lit (.bool true)], args := [d] }
  | _ => none }
def charfreeTracesRow : OpenClaim := { program := "ytmhclkagdpbadaagreat", sum := "94d693d3ca43c9a61d65f617044093b3b3a7720f423fcafaa9e0fd1cd15ff7f5", func := "simile/similelaw20.CharfreeTraces", spec := "charfreeTraces", unfollowed := true, recurses := true, apart := false }
def CharfreeTracesSaid : Prop := charfreeTracesRow.holds Tryz.pinned (OpenSpec.ofChange charfreeTracesSpec)

/-- ITS FALSE NEIGHBOUR: 'it returns false'. Refute it at one input. -/
def charfreeTracesWrong : ChangeSpec := { name := "charfreeTraces", fn := fun _ => fun
  | [d] => { results := [.lit (.bool false)], args := [d] }
  | _ => none }
def CharfreeTracesWrongFalsely : Prop := charfreeTracesRow.holds Tryz.pinned (OpenSpec.ofChange charfreeTracesWrong)

/- THE SECOND FORM. 'bulk': how many values and letters a reading holds, each counted each time it is reached (what is shared counts as often as it is met; a slice's spare places count too). A statement '..UptoSaid' is the law's where the arguments, and the package variables that the reading takes, are together of bulk at most 1048576: NARROWER than '..Said'. Prove '..Said' where nothing that the law and all that it calls make is longer than what came in: it says more and counts as full. Else prove '..UptoSaid'. A law counts once. -/
mutual
def uptoBulk {H : Type} : DataW H → Nat
  | .lit (.string bytes) => bytes.length + 1
  | .lit _ => 1
  | .nil => 1
  | .ptr d => uptoBulk d + 1
  | .slice elems spare => uptoBulkAll elems + uptoBulkAll spare + 1
  | .agg parts => uptoBulkAll parts + 1
  | .iface _ d => uptoBulk d + 1
  | .map entries => uptoBulkEntries entries + 1
  | .held _ => 1
def uptoBulkAll {H : Type} : List (DataW H) → Nat
  | [] => 0
  | d :: r => uptoBulk d + uptoBulkAll r
def uptoBulkEntries {H : Type} : List (Lit × DataW H) → Nat
  | [] => 0
  | x :: r => uptoBulkEntry x + uptoBulkEntries r
def uptoBulkEntry {H : Type} : Lit × DataW H → Nat
  | (.string bytes, d) => bytes.length + uptoBulk d + 1
  | (_, d) => uptoBulk d + 1
 end
def uptoSmall : (H : Type) → List (DataW H) → Bool := fun _ ds => decide (uptoBulkAll ds ≤ 1048576)
def OpenSpec.upto (s : _root_.Go.ChangeSpec) : _root_.Go.OpenSpec := { _root_.Go.OpenSpec.ofChange s with cond := some uptoSmall }

/-- 'similelaw11.QmatColumns', WHERE WHAT IT READS IS OF BULK AT MOST 1048576: true; the input reads as it did. -/
def qmatColumnsUptoRow : OpenClaim := { program := "ytmhclkagdpbadaagreat", sum := "94d693d3ca43c9a61d65f617044093b3b3a7720f423fcafaa9e0fd1cd15ff7f5", func := "simile/similelaw11.QmatColumns", spec := "qmatColumns", unfollowed := true, recurses := true, apart := false, narrowed := true }
def QmatColumnsUptoSaid : Prop := qmatColumnsUptoRow.holds Tryz.pinned (OpenSpec.upto qmatColumnsSpec)

/-- 'similelaw11.QmatForms', WHERE WHAT IT READS IS OF BULK AT MOST 1048576: true; the input reads as it did. -/
def qmatFormsUptoRow : OpenClaim := { program := "ytmhclkagdpbadaagreat", sum := "94d693d3ca43c9a61d65f617044093b3b3a7720f423fcafaa9e0fd1cd15ff7f5", func := "simile/similelaw11.QmatForms", spec := "qmatForms", unfollowed := true, recurses := true, apart := false, narrowed := true }
def QmatFormsUptoSaid : Prop := qmatFormsUptoRow.holds Tryz.pinned (OpenSpec.upto qmatFormsSpec)

/-- 'similelaw12.BareissProducts', WHERE WHAT IT READS IS OF BULK AT MOST 1048576: true; the input reads as it did. -/
def bareissProductsUptoRow : OpenClaim := { program := "ytmhclkagdpbadaagreat", sum := "94d693d3ca43c9a61d65f617044093b3b3a7720f423fcafaa9e0fd1cd15ff7f5", func := "simile/similelaw12.BareissProducts", spec := "bareissProducts", unfollowed := true, recurses := true, apart := false, narrowed := true }
def BareissProductsUptoSaid : Prop := bareissProductsUptoRow.holds Tryz.pinned (OpenSpec.upto bareissProductsSpec)

/-- 'similelaw12.BareissEchelons', WHERE WHAT IT READS IS OF BULK AT MOST 1048576: true; the input reads as it did. -/
def bareissEchelonsUptoRow : OpenClaim := { program := "ytmhclkagdpbadaagreat", sum := "94d693d3ca43c9a61d65f617044093b3b3a7720f423fcafaa9e0fd1cd15ff7f5", func := "simile/similelaw12.BareissEchelons", spec := "bareissEchelons", unfollowed := true, recurses := true, apart := false, narrowed := true }
def BareissEchelonsUptoSaid : Prop := bareissEchelonsUptoRow.holds Tryz.pinned (OpenSpec.upto bareissEchelonsSpec)

/-- 'similelaw12.BareissDets', WHERE WHAT IT READS IS OF BULK AT MOST 1048576: true; the input reads as it did. -/
def bareissDetsUptoRow : OpenClaim := { program := "ytmhclkagdpbadaagreat", sum := "94d693d3ca43c9a61d65f617044093b3b3a7720f423fcafaa9e0fd1cd15ff7f5", func := "simile/similelaw12.BareissDets", spec := "bareissDets", unfollowed := true, recurses := true, apart := false, narrowed := true }
def BareissDetsUptoSaid : Prop := bareissDetsUptoRow.holds Tryz.pinned (OpenSpec.upto bareissDetsSpec)

/-- 'similelaw14.EvalmBrackets', WHERE WHAT IT READS IS OF BULK AT MOST 1048576: true; the input reads as it did. -/
def evalmBracketsUptoRow : OpenClaim := { program := "ytmhclkagdpbadaagreat", sum := "94d693d3ca43c9a61d65f617044093b3b3a7720f423fcafaa9e0fd1cd15ff7f5", func := "simile/similelaw14.EvalmBrackets", spec := "evalmBrackets", unfollowed := true, recurses := true, apart := false, narrowed := true }
def EvalmBracketsUptoSaid : Prop := evalmBracketsUptoRow.holds Tryz.pinned (OpenSpec.upto evalmBracketsSpec)

/-- 'similelaw14.EvalmRing', WHERE WHAT IT READS IS OF BULK AT MOST 1048576: true; the input reads as it did. -/
def evalmRingUptoRow : OpenClaim := { program := "ytmhclkagdpbadaagreat", sum := "94d693d3ca43c9a61d65f617044093b3b3a7720f423fcafaa9e0fd1cd15ff7f5", func := "simile/similelaw14.EvalmRing", spec := "evalmRing", unfollowed := true, recurses := true, apart := false, narrowed := true }
def EvalmRingUptoSaid : Prop := evalmRingUptoRow.holds Tryz.pinned (OpenSpec.upto evalmRingSpec)

/-- 'similelaw14.EvalmCombines', WHERE WHAT IT READS IS OF BULK AT MOST 1048576: true; the input reads as it did. -/
def evalmCombinesUptoRow : OpenClaim := { program := "ytmhclkagdpbadaagreat", sum := "94d693d3ca43c9a61d65f617044093b3b3a7720f423fcafaa9e0fd1cd15ff7f5", func := "simile/similelaw14.EvalmCombines", spec := "evalmCombines", unfollowed := true, recurses := true, apart := false, narrowed := true }
def EvalmCombinesUptoSaid : Prop := evalmCombinesUptoRow.holds Tryz.pinned (OpenSpec.upto evalmCombinesSpec)

/-- 'similelaw14.EvalmTraces', WHERE WHAT IT READS IS OF BULK AT MOST 1048576: true; the input reads as it did. -/
def evalmTracesUptoRow : OpenClaim := { program := "ytmhclkagdpbadaagreat", sum := "94d693d3ca43c9a61d65f617044093b3b3a7720f423fcafaa9e0fd1cd15ff7f5", func := "simile/similelaw14.EvalmTraces", spec := "evalmTraces", unfollowed := true, recurses := true, apart := false, narrowed := true }
def EvalmTracesUptoSaid : Prop := evalmTracesUptoRow.holds Tryz.pinned (OpenSpec.upto evalmTracesSpec)

/-- 'similelaw14.EvalmOns', WHERE WHAT IT READS IS OF BULK AT MOST 1048576: true; the input reads as it did. -/
def evalmOnsUptoRow : OpenClaim := { program := "ytmhclkagdpbadaagreat", sum := "94d693d3ca43c9a61d65f617044093b3b3a7720f423fcafaa9e0fd1cd15ff7f5", func := "simile/similelaw14.EvalmOns", spec := "evalmOns", unfollowed := true, recurses := true, apart := false, narrowed := true }
def EvalmOnsUptoSaid : Prop := evalmOnsUptoRow.holds Tryz.pinned (OpenSpec.upto evalmOnsSpec)

/-- 'similelaw20.CharfreeTraces', WHERE WHAT IT READS IS OF BULK AT MOST 1048576: true; the input reads as it did. -/
def charfreeTracesUptoRow : OpenClaim := { program := "ytmhclkagdpbadaagreat", sum := "94d693d3ca43c9a61d65f617044093b3b3a7720f423fcafaa9e0fd1cd15ff7f5", func := "simile/similelaw20.CharfreeTraces", spec := "charfreeTraces", unfollowed := true, recurses := true, apart := false, narrowed := true }
def CharfreeTracesUptoSaid : Prop := charfreeTracesUptoRow.holds Tryz.pinned (OpenSpec.upto charfreeTracesSpec)

end Rows
end Go.Proofs.YtmhclkagdpbadaaGreat
