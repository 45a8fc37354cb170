/-
  The law QmatMade: the statement. (Began as the print of the seat's proof-skeleton.)
-/
import Derived.Test.YtbhenelehhiakaaRows
import Derived.WalkKit
import Derived.ProofKit
import Derived.OpenShut
import Derived.Test.YtbhenelehhiakaaMade31
import Derived.Test.YtbhenelehhiakaaMade32
import Derived.Test.YtbhenelehhiakaaMade33
import Derived.Test.YtbhenelehhiakaaMade34
import Derived.Test.YtbhenelehhiakaaMade35
set_option linter.unusedVariables false
set_option linter.unusedSimpArgs false
namespace Go.Proofs.Ytbhenelehhiakaa.qmatMade
open Go.ChangeShapes Go.WideShapes Go.ChangeAt Go.RowKit

theorem own : ownKnob Try.prog.godebug = none := by kernel_rfl

theorem walk (n c : Int) (w : World) : Calls Try.prog 3 #[.int .i64 n, .int .i64 c] w (Yes w) := by
  by_cases h1 : n < 0
  · exact made_a1 n c w h1
  by_cases h2 : 1000 < n
  · by_cases h3 : c < 0
    · exact made_a2 n c w h2 h3
    · exact made_a3 n c w h2 (by omega)
  by_cases h3 : c < 0
  · by_cases h4 : 60 < n
    · exact made_x1 n c w (by omega) (by omega) h4 h3
    · exact made_b1 n c w (by omega) (by omega) h3
  by_cases h5 : 1000 < c
  · by_cases h4 : 60 < n
    · exact made_x2 n c w (by omega) (by omega) h4 h5
    · exact made_b2 n c w (by omega) (by omega) h5
  by_cases h4 : 60 < n
  · exact made_x3 n c w (by omega) (by omega) h4 (by omega) (by omega)
  by_cases h6 : n ≤ 0
  · exact made_c1 n c w h6 (by omega) (by omega) (by omega)
  by_cases h7 : c = 0
  · exact made_c2 n c w (by omega) (by omega) h7
  by_cases h8 : Int.tdiv 4000 c < n
  · exact made_x4 n c w (by omega) (by omega) (by omega) (by omega) h8
  · exact made_c3 n c w (by omega) (by omega) (by omega) (by omega) (by omega)

set_option maxRecDepth 100000 in
theorem lifted (os : Os) (started : os.Started) (H : Type) (enc : TypeId × Value → H) :
    ReturnsInHanded {} Try.checked os 3 .any (Rows.qmatMadeSpec.pre6 enc Try.prog Try.f3 Rows.qmatMadeRow.domain false) (Rows.qmatMadeSpec.post enc Try.prog Try.f3 false true false false) := by
  refine returnsInHanded_of_change (C := Try.checked) own started (by kernel_rfl) Try.func3
    (ChangeSpec.witness6 (enc := enc) (C := Try.checked) false ⟨#[], #[.int .i64 0, .int .i64 0], []⟩ 8 (by kernel_rfl) (by kernel_rfl) (by kernel_rfl) (by kernel_rfl)) ?_
  intro W base args ds gs before hval0 hW hcnd _
  have hval : ∀ (j : Nat) t v, Try.f3.params[j]? = some t → args[j]? = some v → Value.okWide Try.prog W .any base t v := hval0
  have hW' := hW
  obtain ⟨p, q, hA0, hV, rfl, hfz, hnd⟩ := hW
  have hA : DataW.TrodAll enc Try.prog W 0 (fun _ => true) true Try.f3.params.toList args.toList ds p := hA0
  rw [Try.params3] at hA hval
  obtain ⟨v0, vs0, d0, ds0, p0, q0, hargs, rfl, rfl, h0, r0⟩ := trodAll_cons hA
  obtain ⟨v1, vs1, d1, ds1, p1, q1, rfl, rfl, rfl, h1, r1⟩ := trodAll_cons r0
  obtain ⟨rfl, rfl, rfl⟩ := trodAll_nil r1
  obtain rfl : args = #[v0, v1] := by cases args; simp_all
  obtain ⟨rfl, rfl⟩ := trodVars_none hV
  obtain ⟨a0, rfl, rfl, rfl, w0⟩ := open_int Try.underlying3 (hval 0 3 v0 rfl rfl) h0
  obtain ⟨a1, rfl, rfl, rfl, w1⟩ := open_int Try.underlying3 (hval 1 3 v1 rfl rfl) h1
  clear hA0 hval0
  simp only [List.append_nil] at hW'
  refine (walk a0 a1 W).mono fun e W' ⟨he, hE⟩ => ?_
  subst he
  exact ⟨_, rfl, post_of_ext (pa := []) (pv := []) hW' (fun _ _ _ => (trodAll_cons_mk (shut_bool Try.underlying4 _) trodAll_mk0)) (fun sp _ => (trodAll_cons_mk (shut_int Try.underlying3 w0) (trodAll_cons_mk (shut_int Try.underlying3 w1) trodAll_mk0))) (fun _ _ => rfl) rfl
    hE (ok_one (by kernel_rfl) rfl (okWide_bool_mk Try.underlying4 _))⟩

theorem over : Rows.qmatMadeRow.holds Try.pinned (OpenSpec.ofChange Rows.qmatMadeSpec) :=
  OpenClaim.holds_of_wide 3 Try.f3 rfl rfl rfl rfl rfl rfl rfl ⟨rfl, rfl, rfl, rfl, rfl⟩ rfl rfl rfl rfl rfl (by kernel_rfl) Try.func3 (by kernel_rfl)
    (of_decide_eq_true (by kernel_rfl)) (by unfold Func.isWrapper; first | (rw [if_pos (by decide +kernel)]; kernel_rfl) | (rw [if_neg (by decide +kernel)]; exact ⟨rfl, rfl⟩))
    (fun os started H enc _ => lifted os started H enc)

/-- the statement -/
theorem proved : Rows.QmatMadeSaid :=
  over
#print axioms proved
end Go.Proofs.Ytbhenelehhiakaa.qmatMade
