/-
  simileref11: Blocks.
-/
import Derived.Test.YtbhenelehhiakaaGreatSum36
import Derived.Test.YtbhenelehhiakaaGreatSum31
import Derived.Test.YtbhenelehhiakaaGreatSum33
set_option linter.unusedVariables false
set_option linter.unusedSimpArgs false
namespace Go.Proofs.YtbhenelehhiakaaGreat
open Go.RowKit

theorem MG.weakK {K K' B B' : Nat} {w : World} {a : Option Addr} {n c m : Nat} {L : List (Nat × List Rat)} (h : MG K B w a n c m L) (hK : K ≤ K') (hB : B' ≤ B) : MG K' B' w a n c m L :=
  ⟨h.sl.weak hB rfl fun _ _ ⟨e, hs⟩ => ⟨e, hs.weak hB rfl fun _ _ ⟨b, a, n, c, b2, a2, n2, c2, e, l, l2, g1, g2, g3, g4, g5, g6⟩ => ⟨b, a, n, c, b2, a2, n2, c2, e, l, l2, g1.mono hB (Kept.refl _ _), g2.mono hB (Kept.refl _ _), g3, g4, by omega, by omega⟩⟩, h.out, h.inj⟩

end Go.Proofs.YtbhenelehhiakaaGreat
/-
  simileref11: Blocks, the walk.
-/
namespace Go.Proofs.YtbhenelehhiakaaGreat
open Go.RowKit

theorem map_fst_set {α β : Type} (L : List (α × β)) (i : Nat) (h : i < L.length) (q : β) : (L.set i (L[i].1, q)).map Prod.fst = L.map Prod.fst := by
  rw [List.map_set]
  refine List.ext_getElem (by simp) fun k h1 h2 => ?_
  by_cases hk : k = i
  · subst hk; simp
  · rw [List.getElem_set_ne (by omega)]
end Go.Proofs.YtbhenelehhiakaaGreat
