/-
  A part of the proof.
-/
import Derived.Test.YtpoocfmphcgmkaaGreatBre22
import Derived.Test.YtpoocfmphcgmkaaGreatBre39
import Derived.Test.YtpoocfmphcgmkaaGreatBre34
import Derived.Test.YtpoocfmphcgmkaaGreatBre17
import Derived.Test.YtpoocfmphcgmkaaGreatBre36
import Derived.Test.YtpoocfmphcgmkaaGreatBre21
set_option linter.unusedVariables false
set_option linter.unusedSimpArgs false
set_option linter.unusedSimpArgs false
set_option linter.unusedVariables false
namespace Go.Mt
open Go Go.Pm Go.Proofs
/-- rows of whole numbers, as they are given -/
def irel (r : List Int) : List D := [.sl (ies r)]
def iws (rows : List (List Int)) : List (List D) := rows.map irel
attribute [go_sem] irel
@[go_sem] theorem iws_len (l : List (List Int)) : (iws l).length = l.length := by simp [iws]
@[go_sem] theorem iws_ge {l : List (List Int)} {i : Nat} (h : i < (iws l).length) : (iws l)[i] = irel (l[i]'(by rw [iws_len] at h; exact h)) := by simp [iws]
/-- the matrix that they say -/
def iM (rows : List (List Int)) : MR := (nrm 1, rows.map fun r => r.map nrm)
theorem flat_w {α : Type} {V : List (List α)} {w : Nat} (h : ∀ r ∈ V, r.length ≤ w) : V.flatten.length ≤ V.length * w := by
  induction V with
  | nil => simp
  | cons r V ih =>
    have h1 := h r List.mem_cons_self
    have h2 := ih fun x hx => h x (List.mem_cons_of_mem _ hx)
    rw [List.flatten_cons, List.length_append, List.length_cons, Nat.succ_mul]
    omega
theorem iM_im (rows : List (List Int)) (hb : ∀ r ∈ rows, ∀ z ∈ r, zl z < 1000) (hn : rows.length < 1000) (hw : ∀ r ∈ rows, r.length < 1000) : Im (iM rows) := by
  have hz : ∀ r ∈ (iM rows).2, ∀ z ∈ r, Rz z ∧ z.2.length < 1048577 := fun r hr z hz => by
    obtain ⟨r0, h1, rfl⟩ := List.mem_map.1 hr
    obtain ⟨x, h2, rfl⟩ := List.mem_map.1 hz
    have := hb r0 h1 x h2
    exact ⟨rz (by omega), by rw [rz_len]; omega⟩
  have hw2 : ∀ r ∈ (iM rows).2, r.length ≤ 1000 := fun r hr => by
    obtain ⟨r0, h1, rfl⟩ := List.mem_map.1 hr
    have := hw r0 h1
    rw [List.length_map]; omega
  have hn2 : (iM rows).2.length = rows.length := by show (rows.map _).length = _; rw [List.length_map]
  have hfl := flat_w hw2
  refine ⟨rz (by decide), by show (nrm 1).2.length < _; rw [rz_len]; decide, hz, by omega, fun r hr => by have := hw2 r hr; omega, ?_⟩
  have : (iM rows).2.length * 1000 ≤ 1000 * 1000 := Nat.mul_le_mul_right _ (by omega)
  omega
end Go.Mt
/-
  A part of the proof.
-/
set_option linter.unusedSimpArgs false
set_option linter.unusedVariables false
namespace Go.Mt
open Go Go.Pm Go.Proofs
theorem valM_dK {m : MR} {K : Nat} (h : Gm K m) : nl (comDen (valM m).flatten) ≤ K := by
  show nl (comDen (fracs _ _).flatten) ≤ K
  exact nrmD_nl _ h.ne _ _ h.kd
theorem norm11_p (m : MR) {K : Nat} (ga : Gl m) (ha : Gm K m) (hK : K < 8589934592) (hr : m.2.length < 549755813888) (hf : (valM m).flatten.length < 549755813888) : PCall Tryz.prog 24 [.d (md m)] (.one (.d (md (nm (valM m))))) := by
  have hra := (rows11_t m ga).sto_d
  rw [tqs_d] at hra
  have hfr := from11_p (valM m) (fun q hq => by have := valM_ql ha q hq; omega) (by rw [valM_len]; exact hr) hf (by have := valM_dK ha; omega)
  generalize valM m = V at *
  refine pcall_of hmo Tryz.func24 rfl (by kernel_rfl) (by simp [Tryz.ntmps24]) ?_; simp -implicitDefEqProofs [go_sem, Tryz.ntmps24]; (repeat refine And.intro (by first | decide +kernel | omega | kernel_rfl) ?_); (try decide +kernel)
  refine .inl ⟨_, hra, ?_⟩; simp -implicitDefEqProofs [go_sem]; (repeat refine And.intro (by first | decide +kernel | omega | kernel_rfl) ?_); (try decide +kernel)
  refine .inl ⟨_, hfr, ?_⟩; simp -implicitDefEqProofs [go_sem]; (repeat refine And.intro (by first | decide +kernel | omega | kernel_rfl) ?_); (try decide +kernel)
theorem Sq.nz {n K : Nat} {A : List (List Rat)} (h : Sq n K A) (hK : K < 8589934592) : Nz A := by
  have g := gl_nm h.g hK
  exact ⟨by have := g.ld; unfold Lz; omega, fun r hr z hz => by have := g.lz r hr z hz; unfold Lz; omega⟩
theorem even_all {rows : List (List ZR)} (h : evenB rows = true) : ∀ r ∈ rows, r.length = colsOf rows := fun r hr => by
  have := List.all_eq_true.1 h r hr
  simpa using this
end Go.Mt
/-
  A part of the proof.
-/
set_option linter.unusedSimpArgs false
set_option linter.unusedVariables false
namespace Go.Mt
open Go Go.Pm Go.Proofs
theorem Sq.rw {n K : Nat} {A : List (List Rat)} (h : Sq n K A) (h2 : ∀ r ∈ A, r.length = n) : (∀ r ∈ A, r.length < 1099511627776) ∧ A.length < 1099511627776 :=
  ⟨fun r hr => by have := h2 r hr; have := h.n1; omega, by have := h.l; have := h.n1; omega⟩
end Go.Mt
