/-
  A part of the proof.
-/
import Derived.Test.YtmhclkagdpbadaaGreatEon51
import Derived.Test.YtmhclkagdpbadaaGreatEon49
import Derived.Test.YtmhclkagdpbadaaGreatEon42
set_option linter.unusedVariables false
set_option linter.unusedSimpArgs false
set_option linter.unusedSimpArgs false
set_option linter.unusedVariables false
namespace Go.Mt
open Go Go.Pm Go.Proofs
theorem fitsE_of {l : List QR} {m : MR} (h1 : fpE l = 0) (h2 : fitE m = 0) : fitsE l m = 0 := by
  unfold fitsE orE; rw [if_pos h1]; exact h2
end Go.Mt
/-
  A part of the proof.
-/
set_option linter.unusedSimpArgs false
set_option linter.unusedVariables false
namespace Go.Mt
open Go Go.Pm Go.Proofs
theorem Sq.rw {n K : Nat} {A : List (List Rat)} (h : Sq n K A) (h2 : ∀ r ∈ A, r.length = n) : (∀ r ∈ A, r.length < 1099511627776) ∧ A.length < 1099511627776 :=
  ⟨fun r hr => by have := h2 r hr; have := h.n1; omega, by have := h.l; have := h.n1; omega⟩
theorem add_sq {n K : Nat} {A B : List (List Rat)} (ha : Sq n K A) (hb : Sq n K B) (hK : 2 * K + 1 < 8589934592) : PCall Tryz.prog 78 [.d (md (nm A)), .d (md (nm B))] (.one (.d (md (nm (joinQ (· + ·) A B n n))))) := by
  have l1 : (nm A).2.length = n := by rw [nm_len, ha.l]
  have l2 : (nm B).2.length = n := by rw [nm_len, hb.l]
  have w1 : colsOf (nm A).2 = n := by rw [nm_cols, ha.c]
  have w2 : colsOf (nm B).2 = n := by rw [nm_cols, hb.c]
  have := ha.n1
  have h1 : n * n ≤ 1000 * 1000 := Nat.mul_le_mul this this
  have h := add11_p (nm A) (nm B) (gl_nm ha.g (by omega)) (gl_nm hb.g (by omega)) ha.g hb.g hK (by rw [l1, l2]) (by rw [w1, w2]) (by omega) (by rw [l1, w1]; omega)
  rw [valM_nm, valM_nm, l1, w1] at h
  exact h
end Go.Mt
/-
  A part of the proof.
-/
set_option linter.unusedSimpArgs false
set_option linter.unusedVariables false
namespace Go.Mt
open Go Go.Pm Go.Proofs Go.RowKit Go.ChangeShapes Go.WideShapes Go.ChangeAt
section
variable {H : Type} {enc : TypeId × Value → H} {w : World} {hd : Bool}
def PolyM (l : List QR) (b : Nat) : Prop := (∀ x ∈ l, Rq x ∧ x.1.2.length < b ∧ x.2.2.length < b) ∧ l.length < b
end
theorem Ip.of {l : List QR} {b : Nat} (h : PolyM l b) (hb : b ≤ 1048576) : Ip l := ⟨fun x hx => by
  obtain ⟨h1, h2, h3⟩ := h.1 x hx
  exact ⟨h1, by omega, by omega⟩, by have := h.2; omega⟩
end Go.Mt
