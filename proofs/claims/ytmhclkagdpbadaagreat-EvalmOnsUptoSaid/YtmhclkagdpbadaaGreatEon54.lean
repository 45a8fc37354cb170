/-
  A part of the proof.
-/
import Derived.Test.YtmhclkagdpbadaaGreatEon42
import Derived.Test.YtmhclkagdpbadaaGreatEon43
set_option linter.unusedVariables false
set_option linter.unusedSimpArgs false
set_option linter.unusedSimpArgs false
set_option linter.unusedVariables false
namespace Go.Mt
open Go Go.Pm Go.Proofs Go.RowKit Go.ChangeShapes Go.WideShapes Go.ChangeAt
section
variable {H : Type} {enc : TypeId × Value → H} {w : World} {hd : Bool}
def VecM (v : VR) (b : Nat) : Prop := Rz v.1 ∧ v.1.2.length + 1 ≤ b ∧ (∀ z ∈ v.2, Rz z ∧ z.2.length + 1 ≤ b) ∧ v.2.length + 1 ≤ b
theorem giv_vec {K : Nat} (hK : K < 1099511627776) : Giv K H enc w hd 32 vel VecM :=
  (giv_struct2 (F0 := zel) (F1 := fun r => [.sl (zes r)]) Tryz.underlying32 rfl (by kernel_rfl) (by kernel_rfl) (giv_int hK) (giv_row hK)).mono fun v b hb ⟨b0, b1, h0, h1, h2⟩ => by
    obtain ⟨h3, h4⟩ := h1
    exact ⟨h0.1, by have := h0.2; omega, fun z hz => ⟨(h3 z hz).1, by have := (h3 z hz).2; omega⟩, by omega⟩
def VecsM (l : List VR) (b : Nat) : Prop := (∀ v ∈ l, VecM v b) ∧ l.length + 1 ≤ b ∧ (l.map fun v => v.1.2.length).sum + 1 ≤ b
end
theorem Iv.of {l : List VR} {b : Nat} (h : VecsM l b) (hb : b ≤ 1048576) : Iv l :=
  ⟨fun v hv => ⟨(h.1 v hv).1, by have := (h.1 v hv).2.1; omega⟩, fun v hv z hz => ⟨((h.1 v hv).2.2.1 z hz).1, by have := ((h.1 v hv).2.2.1 z hz).2; omega⟩, fun v hv => by have := (h.1 v hv).2.2.2; omega, by have := h.2.1; omega, by have := h.2.2; omega⟩
end Go.Mt
