/-
  A part of the proof.
-/
import Derived.Test.YtmhclkagdpbadaaGreatEtr54
import Derived.Test.YtmhclkagdpbadaaGreatEtr53
import Derived.Test.YtmhclkagdpbadaaGreatRows
import Derived.WalkKit
import Derived.ProofKit
import Derived.OpenShut
import Derived.JoinedCond
import Derived.Test.YtmhclkagdpbadaaGreatEtr42
set_option linter.unusedVariables false
set_option linter.unusedSimpArgs false
set_option linter.unusedSimpArgs false
set_option linter.unusedVariables false
namespace Go.Mt
open Go Go.Pm Go.Proofs Go.RowKit Go.ChangeShapes Go.WideShapes Go.ChangeAt
section
variable {H : Type} {enc : TypeId × Value → H} {w : World} {hd : Bool}
theorem bounds_i16 {n : Int} (h : (Lit.int .i16 n).wf = true) : -32768 ≤ n ∧ n ≤ 32767 := by
  simp only [Lit.wf, Bool.and_eq_true, decide_eq_true_eq] at h
  exact h
theorem giv_i16 (K : Nat) : Giv K H enc w hd 194 (fun x : Int => [.v (.int .i16 x)]) (fun x b => (-32768 ≤ x ∧ x ≤ 32767) ∧ 1 ≤ b) := fun fuel cs x h hb _ => by
  obtain ⟨n, rfl, rfl, hw⟩ := DataW.trod_int Tryz.underlying194 h
  obtain ⟨h1, h2⟩ := bounds_i16 hw
  exact ⟨n, RdC.one (.v _) rfl, ⟨h1, h2⟩, by simp [YtmhclkagdpbadaaGreat.Rows.uptoBulk]⟩
theorem giv_int64 (K : Nat) : Giv K H enc w hd 3 (fun x : Int => [.v (.int .i64 x)]) (fun _ b => 1 ≤ b) := fun fuel cs x h hb _ => by
  obtain ⟨n, rfl, rfl, hw⟩ := DataW.trod_int Tryz.underlying3 h
  exact ⟨n, RdC.one (.v _) rfl, by simp [YtmhclkagdpbadaaGreat.Rows.uptoBulk]⟩
def TurnM (p : Int × List Int) (b : Nat) : Prop := (∀ x ∈ p.2, -32768 ≤ x ∧ x ≤ 32767) ∧ p.2.length < b
theorem giv_turn {K : Nat} (hK : K < 1099511627776) : Giv K H enc w hd 110 (fun p : Int × List Int => [.v (.int .i64 p.1), .sl (i16s p.2)]) TurnM :=
  (giv_struct2 (F0 := fun x : Int => [.v (.int .i64 x)]) (F1 := fun l => [.sl (i16s l)]) Tryz.underlying110 rfl (by kernel_rfl) (by kernel_rfl) (giv_int64 K) (giv_list (k := 1) Tryz.underlying108 (by kernel_rfl) (by decide) (fun _ => rfl) (giv_i16 K))).mono fun p b hb ⟨b0, b1, h0, h1, h2⟩ =>
    ⟨fun x hx => by
      obtain ⟨b', g1, g2, g3⟩ := h1.mem x hx
      exact g2, by have := h1.len (fun _ _ h => h.2); omega⟩
end
theorem trc_a (m : MR) (f : List QR) (p : Int × List Int) {b0 b1 b2 : Nat} (h0 : MatM m b0) (h1 : PolyM f b1) (h2 : TurnM p b2) (hb : b0 + b1 + b2 ≤ 1048576) : PCall Tryz.prog 11 [.d (md m), .d (.sl (qes f)), .d (td p.1 p.2)] (.one (.d (.v (.bool true)))) :=
  trc_p m f p.1 p.2 (.of h0 (by omega)) (.of h1 (by omega)) ⟨h2.1, by have := h2.2; omega⟩
end Go.Mt
/-
  A part of the proof.
-/
set_option linter.unusedSimpArgs false
set_option linter.unusedVariables false
namespace Go.Proofs.YtmhclkagdpbadaaGreat.evalmTraces
open Go.ChangeShapes Go.WideShapes Go.ChangeAt Go.RowKit Go.Pm Go.Mt
theorem own : ownKnob Tryz.prog.godebug = none := by kernel_rfl
set_option maxRecDepth 100000 in
theorem contract (H : Type) (enc : TypeId × Value → H) (W : World) (base : Nat) (args : Array Value) (ds gs : List (DataW H)) (before : List MemPlace)
    (hval : ∀ (j : Nat) t v, Tryz.f11.params[j]? = some t → args[j]? = some v → Value.okWide Tryz.prog W .any base t v)
    (hW : DataW.Whole enc Tryz.prog Tryz.f11.params.toList Rows.evalmTracesSpec.vars false W args.toList ds gs before) (hk : Rows.uptoSmall H (ds ++ gs) = true) :
    Calls Tryz.prog 11 args W fun e W' => ∃ v, e = .returned v ∧ Rows.evalmTracesSpec.post enc Tryz.prog Tryz.f11 false true false false W args v W' := by
  have hW' := hW
  obtain ⟨p, q, hA0, hV, rfl, hfz, hnd⟩ := hW
  have hA : DataW.TrodAll enc Tryz.prog W 0 (fun _ => true) true Tryz.f11.params.toList args.toList ds p := hA0
  rw [Tryz.params11] at hA hval
  obtain ⟨v0, vs0, d0, ds0, p0, q0, hargs, rfl, rfl, h0, r0⟩ := trodAll_cons hA
  obtain ⟨v1, vs1, d1, ds1, p1, q1, rfl, rfl, rfl, h1, r1⟩ := trodAll_cons r0
  obtain ⟨v2, vs2, d2, ds2, p2, q2, rfl, rfl, rfl, h2, r2⟩ := trodAll_cons r1
  obtain ⟨rfl, rfl, rfl⟩ := trodAll_nil r2
  obtain rfl : args = #[v0, v1, v2] := by cases args; simp_all
  obtain ⟨rfl, rfl⟩ := trodVars_none hV
  have hb : Rows.uptoBulk d0 + Rows.uptoBulk d1 + Rows.uptoBulk d2 ≤ 1048576 := by
    have h := of_decide_eq_true hk
    simp only [List.append_nil, Rows.uptoBulkAll] at h
    omega
  have hb0 : Rows.uptoBulk d0 ≤ 1048576 := by omega
  obtain ⟨cs0, rfl, _⟩ := okWide_struct Tryz.underlying28 (hval 0 28 v0 rfl rfl)
  obtain ⟨fuel0, hf0⟩ := h0
  obtain ⟨x0, hr0, hM0⟩ := giv_mat (K := 1048576) (by decide) fuel0 _ _ hf0 (fun b o hm => hfz b o (List.mem_append_left _ (List.mem_append_left _ hm))) hb0
  have hb1 : Rows.uptoBulk d1 ≤ 1048576 := by omega
  obtain ⟨a1, n1, c1, rfl⟩ := okWide_slice Tryz.underlying95 (hval 1 95 v1 rfl rfl)
  obtain ⟨fuel1, hf1⟩ := h1
  obtain ⟨x1, hr1, hM1⟩ := giv_poly (K := 1048576) (by decide) fuel1 _ _ hf1 (fun b o hm => hfz b o (List.mem_append_left _ (List.mem_append_right _ (List.mem_append_left _ hm)))) hb1
  have hb2 : Rows.uptoBulk d2 ≤ 1048576 := by omega
  obtain ⟨cs2, rfl, _⟩ := okWide_struct Tryz.underlying110 (hval 2 110 v2 rfl rfl)
  obtain ⟨fuel2, hf2⟩ := h2
  obtain ⟨x2, hr2, hM2⟩ := giv_turn (K := 1048576) (by decide) fuel2 _ _ hf2 (fun b o hm => hfz b o (List.mem_append_left _ (List.mem_append_right _ (List.mem_append_right _ (List.mem_append_left _ hm))))) hb2
  have hlaw := trc_a x0 x1 x2 hM0 hM1 hM2 hb
  refine law_post (tb := 4) (xs := [.d (md x0), .d (.sl (qes x1)), .d (td x2.1 x2.2)]) hW' rfl (by kernel_rfl) (by rw [Tryz.params11]; intro t ht; simp at ht; first | (subst ht; exact ⟨by kernel_rfl, of_decide_eq_true (by kernel_rfl)⟩) | (rcases ht with rfl | rfl | rfl <;> exact ⟨by kernel_rfl, of_decide_eq_true (by kernel_rfl)⟩)) Tryz.underlying4 (by kernel_rfl) (fun H ds hd => ?_) hlaw rfl (fun j p v h1 h2 => ?_)
  · match ds, hd with
    | [e0, e1, e2], _ => exact ⟨rfl, rfl, rfl⟩
  · cases j with
    | zero => cases h1; cases h2; exact .d (RdC.agg hr0)
    | succ j =>
      cases j with
      | zero => cases h1; cases h2; exact .d (RdC.slice hr1)
      | succ j =>
        cases j with
        | zero => cases h1; cases h2; exact .d (RdC.agg hr2)
        | succ j =>
          cases h1
end Go.Proofs.YtmhclkagdpbadaaGreat.evalmTraces
/-
  A part of the proof.
-/
set_option linter.unusedSimpArgs false
set_option linter.unusedVariables false
namespace Go.Proofs.YtmhclkagdpbadaaGreat.evalmTraces
open Go.ChangeShapes Go.WideShapes Go.ChangeAt Go.RowKit Go.Pm Go.Mt
set_option maxRecDepth 100000 in
theorem lifted (os : Os) (started : os.Started) (H : Type) (enc : TypeId × Value → H) (F : Stop.Interp) :
    ReturnsInHanded {} Tryz.checked os 11 .any ((Rows.OpenSpec.upto Rows.evalmTracesSpec).pre6 enc Tryz.prog Tryz.f11 Rows.evalmTracesUptoRow.domain false) (((Rows.OpenSpec.upto Rows.evalmTracesSpec).at F).post enc Tryz.prog Tryz.f11 false true false false) := by
  refine returnsInHanded_of_cond (C := Tryz.checked) (s := (Rows.OpenSpec.upto Rows.evalmTracesSpec)) (k := Rows.uptoSmall) rfl own started (by kernel_rfl) Tryz.func11
    (OpenSpec.witness (enc := enc) (C := Tryz.checked) (s := (Rows.OpenSpec.upto Rows.evalmTracesSpec)) (k := Rows.uptoSmall) rfl false ⟨#[], #[.agg #[.bool false, .slice none 0 0, .slice none 0 0], .slice none 0 0, .agg #[.int .i64 0, .slice none 0 0]], []⟩ 8 (by kernel_rfl) (by kernel_rfl) (by kernel_rfl)
      (x := ([.agg [.agg [.lit (.bool false), .nil], .nil], .nil, .agg [.lit (.int .i64 0), .nil]], [], [])) (by kernel_rfl) rfl (by kernel_rfl)) ?_
  intro W base args ds gs before hval hW _ hk _
  exact contract H enc W base args ds gs before hval hW hk
end Go.Proofs.YtmhclkagdpbadaaGreat.evalmTraces
