/-
  A store beyond what is kept.
-/
import Derived.Deep.RegionHeld
import Derived.Test.YtbhenelehhiakaaGreatSum2
set_option linter.unusedVariables false
set_option linter.unusedSimpArgs false
namespace Go.Proofs.YtbhenelehhiakaaGreat
open Go.RowKit

theorem kept_step {B q i : Nat} {w w' : World} {v : Value} (h : Kept B w w') (hq : q < B ∨ w.heap.size ≤ q) : Kept B w (w'.setCell ⟨q, i, none⟩ v) := fun b o u hc => by
  have hb := hc.ge
  have hl : b < w.heap.size := cel_lt hc
  have hc2 := h b o u hc
  have hne : b ≠ q := by omega
  exact ⟨hc2.ge, (World.cell?_setCell_far _ _ _ _ (fun e => hne e.symm)).trans hc2.cell, by rw [World.frozen?_setCell]; exact hc2.free⟩
end Go.Proofs.YtbhenelehhiakaaGreat
