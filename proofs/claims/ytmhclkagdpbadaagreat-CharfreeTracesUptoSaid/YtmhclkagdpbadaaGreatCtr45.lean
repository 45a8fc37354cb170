/-
  A part of the proof.
-/
import Derived.Test.YtmhclkagdpbadaaGreatCtr42
import Derived.Test.YtmhclkagdpbadaaGreatCtr44
import Derived.Test.YtmhclkagdpbadaaGreatRows
import Derived.WalkKit
import Derived.ProofKit
import Derived.OpenShut
import Derived.JoinedCond
set_option linter.unusedVariables false
set_option linter.unusedSimpArgs false
set_option linter.unusedSimpArgs false
set_option linter.unusedVariables false
namespace Go.Mt
open Go Go.Pm Go.Proofs
theorem traces_a (l : List QR) {b : Nat} (h : RatsM l b) (hb : b ≤ 1048576) : PCall Tryz.prog 13 [.d (.sl (qes l))] (.one (.d (.v (.bool true)))) :=
  traces_p l (fun x hx => ⟨(h.1 x hx).1, by have := (h.1 x hx).2; omega, by have := (h.1 x hx).2; omega⟩) (by have := h.2; omega)
end Go.Mt
/-
  A part of the proof.
-/
set_option linter.unusedSimpArgs false
set_option linter.unusedVariables false
namespace Go.Proofs.YtmhclkagdpbadaaGreat.charfreeTraces
open Go.ChangeShapes Go.WideShapes Go.ChangeAt Go.RowKit Go.Pm Go.Mt
theorem own : ownKnob Tryz.prog.godebug = none := by kernel_rfl
set_option maxRecDepth 100000 in
theorem contract (H : Type) (enc : TypeId × Value → H) (W : World) (base : Nat) (args : Array Value) (ds gs : List (DataW H)) (before : List MemPlace)
    (hval : ∀ (j : Nat) t v, Tryz.f13.params[j]? = some t → args[j]? = some v → Value.okWide Tryz.prog W .any base t v)
    (hW : DataW.Whole enc Tryz.prog Tryz.f13.params.toList Rows.charfreeTracesSpec.vars false W args.toList ds gs before) (hk : Rows.uptoSmall H (ds ++ gs) = true) :
    Calls Tryz.prog 13 args W fun e W' => ∃ v, e = .returned v ∧ Rows.charfreeTracesSpec.post enc Tryz.prog Tryz.f13 false true false false W args v W' := by
  have hW' := hW
  obtain ⟨p, q, hA0, hV, rfl, hfz, hnd⟩ := hW
  have hA : DataW.TrodAll enc Tryz.prog W 0 (fun _ => true) true Tryz.f13.params.toList args.toList ds p := hA0
  rw [Tryz.params13] at hA hval
  obtain ⟨v0, vs0, d0, ds0, p0, q0, hargs, rfl, rfl, h0, r0⟩ := trodAll_cons hA
  obtain ⟨rfl, rfl, rfl⟩ := trodAll_nil r0
  obtain rfl : args = #[v0] := by cases args; simp_all
  obtain ⟨rfl, rfl⟩ := trodVars_none hV
  have hb : Rows.uptoBulk d0 ≤ 1048576 := by
    have h := of_decide_eq_true hk
    simp only [List.append_nil, Rows.uptoBulkAll] at h
    omega
  have hb0 : Rows.uptoBulk d0 ≤ 1048576 := by omega
  obtain ⟨a0, n0, c0, rfl⟩ := okWide_slice Tryz.underlying68 (hval 0 68 v0 rfl rfl)
  obtain ⟨fuel0, hf0⟩ := h0
  obtain ⟨x0, hr0, hM0⟩ := giv_rats (K := 1048576) (by decide) fuel0 _ _ hf0 (fun b o hm => hfz b o (List.mem_append_left _ (List.mem_append_left _ hm))) hb0
  have hlaw := traces_a x0 hM0 hb
  refine law_post (tb := 4) (xs := [.d (.sl (qes x0))]) hW' rfl (by kernel_rfl) (by rw [Tryz.params13]; intro t ht; simp at ht; first | (subst ht; exact ⟨by kernel_rfl, of_decide_eq_true (by kernel_rfl)⟩) | (rcases ht with rfl | rfl <;> exact ⟨by kernel_rfl, of_decide_eq_true (by kernel_rfl)⟩)) Tryz.underlying4 (by kernel_rfl) (fun H ds hd => ?_) hlaw rfl (fun j p v h1 h2 => ?_)
  · match ds, hd with
    | [e0], _ => exact ⟨rfl, rfl, rfl⟩
  · cases j with
    | zero => cases h1; cases h2; exact .d (RdC.slice hr0)
    | succ j =>
      cases h1
end Go.Proofs.YtmhclkagdpbadaaGreat.charfreeTraces
/-
  A part of the proof.
-/
set_option linter.unusedSimpArgs false
set_option linter.unusedVariables false
namespace Go.Proofs.YtmhclkagdpbadaaGreat.charfreeTraces
open Go.ChangeShapes Go.WideShapes Go.ChangeAt Go.RowKit Go.Pm Go.Mt
set_option maxRecDepth 100000 in
theorem lifted (os : Os) (started : os.Started) (H : Type) (enc : TypeId × Value → H) (F : Stop.Interp) :
    ReturnsInHanded {} Tryz.checked os 13 .any ((Rows.OpenSpec.upto Rows.charfreeTracesSpec).pre6 enc Tryz.prog Tryz.f13 Rows.charfreeTracesUptoRow.domain false) (((Rows.OpenSpec.upto Rows.charfreeTracesSpec).at F).post enc Tryz.prog Tryz.f13 false true false false) := by
  refine returnsInHanded_of_cond (C := Tryz.checked) (s := (Rows.OpenSpec.upto Rows.charfreeTracesSpec)) (k := Rows.uptoSmall) rfl own started (by kernel_rfl) Tryz.func13
    (OpenSpec.witness (enc := enc) (C := Tryz.checked) (s := (Rows.OpenSpec.upto Rows.charfreeTracesSpec)) (k := Rows.uptoSmall) rfl false ⟨#[], #[.slice none 0 0], []⟩ 8 (by kernel_rfl) (by kernel_rfl) (by kernel_rfl)
      (x := ([.nil], [], [])) (by kernel_rfl) rfl (by kernel_rfl)) ?_
  intro W base args ds gs before hval hW _ hk _
  exact contract H enc W base args ds gs before hval hW hk
end Go.Proofs.YtmhclkagdpbadaaGreat.charfreeTraces
