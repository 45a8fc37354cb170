/-
  Fractions as they lie: simileref05.May, AllMay; simileref05.Same on raw data.
-/
import Derived.Test.YtbhenelehhiakaaGreatProd28
import Derived.Test.YtbhenelehhiakaaGreatProd29
import Derived.Test.YtbhenelehhiakaaGreatProd24
set_option linter.unusedVariables false
set_option linter.unusedSimpArgs false
namespace Go.Proofs.YtbhenelehhiakaaGreat
open Go.RowKit

/-- a fraction as it lies: two integers, not too long; the second may be 0 -/
def rFr (K : Nat) : Rd (Int × Int) where
  size := 4
  ok B w cs q := ∃ b a n c b2 a2 n2 c2, cs = [.bool b, .slice a n c, .bool b2, .slice a2 n2 c2] ∧ ∃ l l2, NatS B w a n c l ∧ NatS B w a2 n2 c2 l2 ∧ ival b l = q.1 ∧ ival b2 l2 = q.2 ∧ n ≤ K ∧ n2 ≤ K
  len h := by obtain ⟨b, a, n, c, b2, a2, n2, c2, h, _⟩ := h; rw [h]; rfl
  mono h hB hk := by
    obtain ⟨b, a, n, c, b2, a2, n2, c2, h, l, l2, h1, h2, h3⟩ := h
    exact ⟨b, a, n, c, b2, a2, n2, c2, h, l, l2, h1.mono hB hk, h2.mono hB hk, h3⟩
def frR (q : Int × Int) : Rat := ratv q.1 q.2
/-- fractions that may be are fractions -/
theorem Sl.fracs {K B : Nat} {w : World} {a : Option Addr} {n c : Nat} {qs : List (Int × Int)} (h : Sl (rFr K) B w a n c qs) (hm : ∀ q ∈ qs, q.2 ≠ 0) : Sl (rRatK K) B w a n c (qs.map frR) :=
  ⟨by rw [List.length_map]; exact h.len, h.cap, h.most, h.nil, fun i hi => by
    have hi' : i < qs.length := by simpa using hi
    obtain ⟨b, o, cs, ha, ⟨s, a1, n1, c1, s2, a2, n2, c2, rfl, l, l2, h1, h2, h3, h4, h5, h6⟩, hc⟩ := h.at_ i hi'
    refine ⟨b, o, _, ha, ⟨s, a1, n1, c1, s2, a2, n2, c2, rfl, l, l2, h1, h2, ?_, ?_, h5, h6⟩, hc⟩
    · rw [h4]; exact hm _ (List.getElem_mem _)
    · rw [h3, h4, List.getElem_map]; rfl⟩
end Go.Proofs.YtbhenelehhiakaaGreat
/-
  rat: Norm, Common's closure.
-/
namespace Go.Proofs.YtbhenelehhiakaaGreat
open Go.RowKit

/-- words that lay before the own block keep through its growth -/
theorem NatS.grown {B : Nat} {W0 w w' : World} {a : Option Addr} {n c : Nat} {l : Nt} {row : Option Nat} (h : NatS B w a n c l) (h0 : NatS B W0 a n c l) (hg : w.grownBy w' row) (hr : ∀ g, row = some g → W0.heap.size ≤ g) : NatS B w' a n c l :=
  ⟨h.len, h.cap, h.most, h.nil, fun k hk => by
    obtain ⟨b, o, cs, ha, hr1, hc⟩ := h.at_ k hk
    obtain ⟨b2, o2, cs2, ha2, hr2, hc2⟩ := h0.at_ k hk
    rw [ha] at ha2; cases ha2
    have hb : b < W0.heap.size := cel_lt (hc2 0 (by rw [hr2.1]; simp))
    refine ⟨b, o, cs, ha, hr1, fun j hj => ?_⟩
    have e : w'.heap[b]? = w.heap[b]? := hg.block b (cel_lt (hc j hj)) (fun e => by have := hr b e.symm; omega)
    obtain ⟨h1, h2, h3⟩ := hc j hj
    exact ⟨h1, (World.cell?_of_block (a := ⟨b, _, none⟩) e).trans h2, (World.frozen?_of_block (a := ⟨b, _, none⟩) e).trans h3⟩⟩

end Go.Proofs.YtbhenelehhiakaaGreat
