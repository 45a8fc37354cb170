/-
  qmat: rows of fractions: each, even.
-/
import Derived.Test.YtbhenelehhiakaaGreatSum30
import Derived.Test.YtbhenelehhiakaaGreatSum31
set_option linter.unusedVariables false
set_option linter.unusedSimpArgs false
namespace Go.Proofs.YtbhenelehhiakaaGreat
open Go.RowKit Go.Shelf
attribute [local go_sem] Oper.semAt_some

/-- a fraction that lies in the world w -/
structure FrAt (K : Nat) (w : World) where
  b : Bool
  a : Option Addr
  n : Nat
  c : Nat
  b2 : Bool
  a2 : Option Addr
  n2 : Nat
  c2 : Nat
  q : Int × Int
  ok : (rFr K).ok 0 w [.bool b, .slice a n c, .bool b2, .slice a2 n2 c2] q
def FrAt.v {K : Nat} {w : World} (x : FrAt K w) : Value := .agg #[.bool x.b, .slice x.a x.n x.c, .bool x.b2, .slice x.a2 x.n2 x.c2]
def FrAt.cells {K : Nat} {w : World} (x : FrAt K w) : List Value := [.bool x.b, .slice x.a x.n x.c, .bool x.b2, .slice x.a2 x.n2 x.c2]

end Go.Proofs.YtbhenelehhiakaaGreat
