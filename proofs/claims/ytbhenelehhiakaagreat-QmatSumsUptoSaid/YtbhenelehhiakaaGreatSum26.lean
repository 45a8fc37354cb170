/-
  The references' matrices, part 1: fill.
-/
import Derived.Test.YtbhenelehhiakaaGreatSum25
import Derived.Test.YtbhenelehhiakaaGreatSum24
set_option linter.unusedVariables false
set_option linter.unusedSimpArgs false
namespace Go.Proofs.YtbhenelehhiakaaGreat
open Go.RowKit

theorem ratK_of {K B : Nat} {w : World} {a a2 : Option Addr} {n c n2 c2 : Nat} {q : Rat} (h : NatS B w a n c (limbs q.num.natAbs)) (h2 : NatS B w a2 n2 c2 (limbs q.den)) (hK : nl q.num.natAbs ≤ K) (hK2 : nl q.den ≤ K) (b : Bool) (hb : decide (q.num < 0) = b) : (rRatK K).ok B w [.bool b, .slice a n c, .bool false, .slice a2 n2 c2] q := by
  subst hb
  refine ⟨_, a, n, c, _, a2, n2, c2, rfl, _, _, h, h2, ?_, ?_, ?_, ?_⟩
  · rw [ival_limbs]; simp; have := q.den_pos; omega
  · rw [ival_norm, ival_limbs]; exact ratv_self q
  · have := h.len; rw [length_limbs] at this; omega
  · have := h2.len; rw [length_limbs] at this; omega

theorem ext_set4' {w w' : World} {b : Nat} (h : Ext w w') (o : Nat) (v0 v1 v2 v3 : Value) (hb : w.heap.size ≤ b := by first | exact Nat.le_refl _ | omega) : Ext w ((((w'.setCell ⟨b, o, none⟩ v0).setCell ⟨b, o + 1, none⟩ v1).setCell ⟨b, o + 2, none⟩ v2).setCell ⟨b, o + 3, none⟩ v3) :=
  Below.setCell (Below.setCell (Below.setCell (Below.setCell h (p := ⟨b, o, none⟩) hb _) (p := ⟨b, o + 1, none⟩) hb _) (p := ⟨b, o + 2, none⟩) hb _) (p := ⟨b, o + 3, none⟩) hb _
/-- where a list of its own lies -/
theorem own_head {w : World} {base e s n k c : Nat} {b o : Nat} {xs : List Value} (h : w.ownsRow base e s (.slice (some ⟨b, o, none⟩) k c) n xs) : (Value.slice (some ⟨b, o, none⟩) k c).ownBlock = some b := by
  rcases h.2 with ⟨h0, _⟩ | ⟨g, cap, cur, h1, _⟩
  · cases h0
  · cases h1; simp [Value.ownBlock]

/-- a grid of noughts, each row in a block of its own -/
def RFill (r c : Nat) (w : World) (e : Ending) (w' : World) : Prop := ∃ a c2 L, e = .returned (.slice a r c2) ∧ MG 1 w.heap.size w' a r c2 c L ∧ L.map Prod.snd = List.replicate r (List.replicate c (0 : Rat)) ∧ Ext w w'

end Go.Proofs.YtbhenelehhiakaaGreat
