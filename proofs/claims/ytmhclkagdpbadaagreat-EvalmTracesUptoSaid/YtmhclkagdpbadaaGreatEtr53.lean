/-
  A part of the proof.
-/
import Derived.Test.YtmhclkagdpbadaaGreatEtr52
import Derived.Test.YtmhclkagdpbadaaGreatEtr50
import Derived.Test.YtmhclkagdpbadaaGreatEtr42
set_option linter.unusedVariables false
set_option linter.unusedSimpArgs false
set_option linter.unusedSimpArgs false
set_option linter.unusedVariables false
namespace Go.Mt
open Go Go.Pm Go.Proofs
def mulP (f g : List QR) : List QR := (trimQ (mul9A f g f.length)).map nq
end Go.Mt
/-
  A part of the proof.
-/
set_option linter.unusedSimpArgs false
set_option linter.unusedVariables false
namespace Go.Mt
open Go Go.Pm Go.Proofs
theorem at_mul (f g : List QR) (m : MR) : atQ (mulP f g) m = mulQ (atQ f m) (atQ g m) m.2.length m.2.length m.2.length := by
  unfold atQ mulP
  rw [plQ_tr]
  exact ho_mul _ _ f g
theorem at_mul2 (f g : List QR) (m : MR) : atQ (mulP f g) m = mulQ (atQ g m) (atQ f m) m.2.length m.2.length m.2.length := by
  rw [at_mul]
  exact ho_com _ _ _ _
theorem at_var (m : MR) (hr : ∀ r ∈ valM m, r.length = m.2.length) : atQ [nq 0, nq 1] m = valM m := by
  have e : plQ [nq 0, nq 1] = trimQ [0, 1] := plQ_nq [0, 1]
  unfold atQ
  rw [e, ho_trim]
  exact ho_x _ _ (valM_len m) hr
end Go.Mt
/-
  A part of the proof.
-/
set_option linter.unusedSimpArgs false
set_option linter.unusedVariables false
namespace Go.Mt
open Go Go.Pm Go.Proofs
theorem valM_dK {m : MR} {K : Nat} (h : Gm K m) : nl (comDen (valM m).flatten) ≤ K := by
  show nl (comDen (fracs _ _).flatten) ≤ K
  exact nrmD_nl _ h.ne _ _ h.kd
theorem Sq.fine {n K : Nat} {A : List (List Rat)} (h : Sq n K A) : Rz (nm A).1 ∧ Grw (nm A).2 ∧ checkE (nm A) = 0 ∧ (nm A).2.length = n ∧ colsOf (nm A).2 = n := by
  refine ⟨h.g.d, h.g.g, ?_, by rw [nm_len, h.l], by rw [nm_cols, h.c]⟩
  unfold checkE
  rw [if_neg h.g.ne, if_pos h.g.ev]
theorem even_all {rows : List (List ZR)} (h : evenB rows = true) : ∀ r ∈ rows, r.length = colsOf rows := fun r hr => by
  have := List.all_eq_true.1 h r hr
  simpa using this
theorem Im.vrow {m : MR} (h0 : fitE m = 0) : ∀ r ∈ valM m, r.length = m.2.length := fun r hr => by
  obtain ⟨c1, c2, c3, c4, c5⟩ := fit_zero h0
  rw [valM_rows] at hr
  obtain ⟨r0, h1, rfl⟩ := List.mem_map.1 hr
  rw [valR_len, even_all (check_parts c1).2 r0 h1]; omega
end Go.Mt
/-
  A part of the proof.
-/
set_option linter.unusedSimpArgs false
set_option linter.unusedVariables false
namespace Go.Mt
open Go Go.Pm Go.Proofs
theorem Sq.rw {n K : Nat} {A : List (List Rat)} (h : Sq n K A) (h2 : ∀ r ∈ A, r.length = n) : (∀ r ∈ A, r.length < 1099511627776) ∧ A.length < 1099511627776 :=
  ⟨fun r hr => by have := h2 r hr; have := h.n1; omega, by have := h.l; have := h.n1; omega⟩
theorem mul_sq {n K : Nat} {A B : List (List Rat)} (ha : Sq n K A) (hb : Sq n K B) (hK : 2 * K + 2 < 8589934592) : PCall Tryz.prog 47 [.d (md (nm A)), .d (md (nm B))] (.one (.d (md (nm (mulQ A B n n n))))) := by
  have l1 : (nm A).2.length = n := by rw [nm_len, ha.l]
  have l2 : (nm B).2.length = n := by rw [nm_len, hb.l]
  have w1 : colsOf (nm A).2 = n := by rw [nm_cols, ha.c]
  have w2 : colsOf (nm B).2 = n := by rw [nm_cols, hb.c]
  have := ha.n1
  have h1 : n * n ≤ 1000 * 1000 := Nat.mul_le_mul this this
  have h := mul11_p (nm A) (nm B) (gl_nm ha.g (by omega)) (gl_nm hb.g (by omega)) ha.g hb.g hK (by rw [l2, w1]) (by omega) (by rw [w2]; omega) (by rw [l1, w2]; omega)
  rw [valM_nm, valM_nm, l1, w1, w2] at h
  exact h
theorem tab_rows (f : Nat → Nat → Rat) (r c : Nat) : ∀ x ∈ tabQ f r c, x.length = c := fun x hx => row_tabQ _ _ _ x hx
theorem ho_rows (A : List (List Rat)) (n : Nat) (l : List Rat) : ∀ x ∈ hoQ A n l, x.length = n := by
  cases l <;> exact tab_rows _ _ _
end Go.Mt
/-
  A part of the proof.
-/
set_option linter.unusedSimpArgs false
set_option linter.unusedVariables false
namespace Go.Mt
open Go Go.Pm Go.Proofs Go.RowKit Go.ChangeShapes Go.WideShapes Go.ChangeAt
section
variable {H : Type} {enc : TypeId × Value → H} {w : World} {hd : Bool}
def PolyM (l : List QR) (b : Nat) : Prop := (∀ x ∈ l, Rq x ∧ x.1.2.length < b ∧ x.2.2.length < b) ∧ l.length < b
theorem giv_poly {K : Nat} (hK : K < 1099511627776) : Giv K H enc w hd 95 (fun l : List QR => [.sl (qes l)]) PolyM :=
  (giv_list (k := 4) Tryz.underlying95 (by kernel_rfl) (by decide) (fun _ => rfl) (giv_rat hK)).mono fun l b _ h => ⟨fun x hx => by
    obtain ⟨b', h1, ⟨⟨h2, h3, h4⟩, h5⟩⟩ := h.mem x hx
    exact ⟨h2, by omega, by omega⟩, by have := h.len (fun _ _ h => by have := h.2; omega); omega⟩
end
theorem Ip.of {l : List QR} {b : Nat} (h : PolyM l b) (hb : b ≤ 1048576) : Ip l := ⟨fun x hx => by
  obtain ⟨h1, h2, h3⟩ := h.1 x hx
  exact ⟨h1, by omega, by omega⟩, by have := h.2; omega⟩
end Go.Mt
