/-
  The program's answers: Mul, Kronecker.
-/
import Derived.Test.YtbhenelehhiakaaGreatSum35
import Derived.Test.YtbhenelehhiakaaGreatSum39
import Derived.Test.YtbhenelehhiakaaGreatSum38
set_option linter.unusedVariables false
set_option linter.unusedSimpArgs false
namespace Go.Proofs.YtbhenelehhiakaaGreat
open Go.RowKit

theorem MatS.len2 {K : Nat} {w : World} {b : Bool} {a a2 : Option Addr} {n c n2 c2 : Nat} {d : Int} {zss : List (List Int)} (h : MatS K w b a n c a2 n2 c2 d zss) : zss.length = n2 := by
  obtain ⟨_, _, _, _, h4⟩ := h
  exact h4.len
theorem table_cols (zs : Nat → Nat → Int) (r c : Nat) : ∀ row ∈ tableZ zs r c, row.length = colsOf (tableZ zs r c) := colsOf_all _ c (table_len zs r c)

end Go.Proofs.YtbhenelehhiakaaGreat
