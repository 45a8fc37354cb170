/-
  A part of the proof.
-/
import Derived.Test.YtmhclkagdpbadaaGreatEon53
import Derived.Test.YtmhclkagdpbadaaGreatEon54
import Derived.Test.YtmhclkagdpbadaaGreatEon52
import Derived.Test.YtmhclkagdpbadaaGreatRows
import Derived.WalkKit
import Derived.ProofKit
import Derived.OpenShut
import Derived.JoinedCond
set_option linter.unusedVariables false
set_option linter.unusedSimpArgs false
set_option linter.unusedSimpArgs false
set_option linter.unusedVariables false
namespace Go.Mt
open Go Go.Pm Go.Proofs Go.RowKit Go.ChangeShapes Go.WideShapes Go.ChangeAt
section
variable {H : Type} {enc : TypeId × Value → H} {w : World} {hd : Bool}
theorem giv_row2 {K : Nat} (hK : K < 1099511627776) : Giv K H enc w hd 30 rel (fun r b => RowM r b ∧ (r.map fun z => z.2.length).sum + 1 ≤ b) :=
  (giv_list (k := 2) Tryz.underlying30 (by kernel_rfl) (by decide) (fun _ => rfl) (giv_int hK)).mono fun r b hb h => by
    refine ⟨⟨fun p hp => ?_, ?_⟩, h.sum (fun z => z.2.length) (fun v b h => by have := h.2; omega)⟩
    · obtain ⟨b', h1, h2, h3⟩ := h.mem p hp
      exact ⟨h2, by omega⟩
    · have := h.sum (fun _ => 3) (fun v b h => by have := h.2; omega)
      rw [List.map_const', List.sum_replicate_nat] at this
      omega
theorem sum_flat (V : List (List ZR)) (f : ZR → Nat) : (V.flatten.map f).sum = (V.map fun r => (r.map f).sum).sum := by
  induction V with
  | nil => rfl
  | cons r V ih => rw [List.flatten_cons, List.map_append, List.sum_append, List.map_cons, List.sum_cons, ih]
def MatN (m : MR) (b : Nat) : Prop := MatM m b ∧ limbsOf m < b
theorem giv_mat2 {K : Nat} (hK : K < 1099511627776) : Giv K H enc w hd 28 mel MatN :=
  (giv_struct2 (F0 := zel) (F1 := fun rows => [.sl (rws rows)]) Tryz.underlying28 rfl (by kernel_rfl) (by kernel_rfl) (giv_int hK) (giv_list (k := 1) Tryz.underlying26 (by kernel_rfl) (by decide) (fun _ => rfl) (giv_row2 hK))).mono fun m b hb ⟨b0, b1, h0, h1, h2⟩ => by
    have k1 := h1.len (fun _ _ h => by have := h.1.2; omega)
    have k2 := h1.sum List.length (fun r b h => by have := h.1.2; omega)
    have k3 := h1.sum (fun r => (r.map fun z => z.2.length).sum) (fun r b h => by have := h.2; omega)
    rw [← List.length_flatten] at k2
    rw [← sum_flat] at k3
    have k4 : limbsOf m + 1 ≤ b1 := k3
    refine ⟨⟨⟨h0.1, by have := h0.2; omega⟩, fun r hr p hp => ?_, by omega, fun r hr => ?_, by omega⟩, by omega⟩
    · obtain ⟨b', g1, g2, _⟩ := h1.mem r hr
      obtain ⟨g3, g4⟩ := g2.1 p hp
      exact ⟨g3, by omega⟩
    · obtain ⟨b', g1, g2, _⟩ := h1.mem r hr
      have := g2.2
      omega
theorem giv_rat2 {K : Nat} (hK : K < 1099511627776) : Giv K H enc w hd 72 qel (fun x b => Rq x ∧ x.1.2.length + x.2.2.length + 7 ≤ b) :=
  (giv_struct2 (F0 := zel) (F1 := zel) Tryz.underlying72 rfl (by kernel_rfl) (by kernel_rfl) (giv_int hK) (giv_int hK)).mono fun x b hb ⟨b0, b1, h0, h1, h2⟩ =>
    ⟨⟨h0.1, h1.1⟩, by have := h0.2; have := h1.2; omega⟩
def PolyN (l : List QR) (b : Nat) : Prop := PolyM l b ∧ (l.map fun x => x.2.2.length + 7).sum < b
theorem giv_poly2 {K : Nat} (hK : K < 1099511627776) : Giv K H enc w hd 95 (fun l : List QR => [.sl (qes l)]) PolyN :=
  (giv_list (k := 4) Tryz.underlying95 (by kernel_rfl) (by decide) (fun _ => rfl) (giv_rat2 hK)).mono fun l b _ h => ⟨⟨fun x hx => by
    obtain ⟨b', h1, h2, h3⟩ := h.mem x hx
    exact ⟨h2, by omega, by omega⟩, by have := h.len (fun _ _ h => by have := h.2; omega); omega⟩, by have := h.sum (fun x => x.2.2.length + 7) (fun v b h => by have := h.2; omega); omega⟩
end
theorem PolyN.len {l : List QR} {b : Nat} (h : PolyN l b) (ha : l.all mayQ = true) : 8 * l.length < b := by
  have h2 := h.2
  have key : ∀ l : List QR, l.all mayQ = true → 8 * l.length ≤ (l.map fun x => x.2.2.length + 7).sum := by
    intro l
    induction l with
    | nil => intro _; simp
    | cons x l ih =>
      intro ha
      rw [List.all_cons, Bool.and_eq_true] at ha
      have h1 := ih ha.2
      have h3 : x.2.2.length ≠ 0 := fun h0 => by
        have e : x.2.2 = [] := List.eq_nil_of_length_eq_zero h0
        have h4 : ofR x.2 ≠ 0 := by simpa [mayQ] using ha.1
        apply h4
        unfold ofR; rw [e]
        simp [ival, val]
      rw [List.map_cons, List.sum_cons, List.length_cons]
      omega
  have := key l ha
  omega
theorem Iw.of {v : VR} {b : Nat} (h : VecM v b) (hb : b ≤ 1048576) : Iw v := ⟨h.1, by have := h.2.1; omega, fun z hz => ⟨(h.2.2.1 z hz).1, by have := (h.2.2.1 z hz).2; omega⟩, by have := h.2.2.2; omega⟩
theorem ons_a (l : List QR) (m : MR) (v : VR) {b0 b1 b2 : Nat} (h0 : PolyN l b0) (h1 : MatN m b1) (h2 : VecM v b2) (hb : b0 + b1 + b2 ≤ 1048576) : PCall Tryz.prog 12 [.d (.sl (qes l)), .d (md m), .d (vd v)] (.one (.d (.v (.bool true)))) :=
  ons_p l m v (.of h0.1 (by omega)) (.of h1.1 (by omega)) (.of h2 (by omega)) (by have := h1.2; omega) (fun e => by have := h0.len (fpE_may e).1; omega)
end Go.Mt
/-
  A part of the proof.
-/
set_option linter.unusedSimpArgs false
set_option linter.unusedVariables false
namespace Go.Proofs.YtmhclkagdpbadaaGreat.evalmOns
open Go.ChangeShapes Go.WideShapes Go.ChangeAt Go.RowKit Go.Pm Go.Mt
theorem own : ownKnob Tryz.prog.godebug = none := by kernel_rfl
set_option maxRecDepth 100000 in
theorem contract (H : Type) (enc : TypeId × Value → H) (W : World) (base : Nat) (args : Array Value) (ds gs : List (DataW H)) (before : List MemPlace)
    (hval : ∀ (j : Nat) t v, Tryz.f12.params[j]? = some t → args[j]? = some v → Value.okWide Tryz.prog W .any base t v)
    (hW : DataW.Whole enc Tryz.prog Tryz.f12.params.toList Rows.evalmOnsSpec.vars false W args.toList ds gs before) (hk : Rows.uptoSmall H (ds ++ gs) = true) :
    Calls Tryz.prog 12 args W fun e W' => ∃ v, e = .returned v ∧ Rows.evalmOnsSpec.post enc Tryz.prog Tryz.f12 false true false false W args v W' := by
  have hW' := hW
  obtain ⟨p, q, hA0, hV, rfl, hfz, hnd⟩ := hW
  have hA : DataW.TrodAll enc Tryz.prog W 0 (fun _ => true) true Tryz.f12.params.toList args.toList ds p := hA0
  rw [Tryz.params12] at hA hval
  obtain ⟨v0, vs0, d0, ds0, p0, q0, hargs, rfl, rfl, h0, r0⟩ := trodAll_cons hA
  obtain ⟨v1, vs1, d1, ds1, p1, q1, rfl, rfl, rfl, h1, r1⟩ := trodAll_cons r0
  obtain ⟨v2, vs2, d2, ds2, p2, q2, rfl, rfl, rfl, h2, r2⟩ := trodAll_cons r1
  obtain ⟨rfl, rfl, rfl⟩ := trodAll_nil r2
  obtain rfl : args = #[v0, v1, v2] := by cases args; simp_all
  obtain ⟨rfl, rfl⟩ := trodVars_none hV
  have hb : Rows.uptoBulk d0 + Rows.uptoBulk d1 + Rows.uptoBulk d2 ≤ 1048576 := by
    have h := of_decide_eq_true hk
    simp only [List.append_nil, Rows.uptoBulkAll] at h
    omega
  have hb0 : Rows.uptoBulk d0 ≤ 1048576 := by omega
  obtain ⟨a0, n0, c0, rfl⟩ := okWide_slice Tryz.underlying95 (hval 0 95 v0 rfl rfl)
  obtain ⟨fuel0, hf0⟩ := h0
  obtain ⟨x0, hr0, hM0⟩ := giv_poly2 (K := 1048576) (by decide) fuel0 _ _ hf0 (fun b o hm => hfz b o (List.mem_append_left _ (List.mem_append_left _ hm))) hb0
  have hb1 : Rows.uptoBulk d1 ≤ 1048576 := by omega
  obtain ⟨cs1, rfl, _⟩ := okWide_struct Tryz.underlying28 (hval 1 28 v1 rfl rfl)
  obtain ⟨fuel1, hf1⟩ := h1
  obtain ⟨x1, hr1, hM1⟩ := giv_mat2 (K := 1048576) (by decide) fuel1 _ _ hf1 (fun b o hm => hfz b o (List.mem_append_left _ (List.mem_append_right _ (List.mem_append_left _ hm)))) hb1
  have hb2 : Rows.uptoBulk d2 ≤ 1048576 := by omega
  obtain ⟨cs2, rfl, _⟩ := okWide_struct Tryz.underlying32 (hval 2 32 v2 rfl rfl)
  obtain ⟨fuel2, hf2⟩ := h2
  obtain ⟨x2, hr2, hM2⟩ := giv_vec (K := 1048576) (by decide) fuel2 _ _ hf2 (fun b o hm => hfz b o (List.mem_append_left _ (List.mem_append_right _ (List.mem_append_right _ (List.mem_append_left _ hm))))) hb2
  have hlaw := ons_a x0 x1 x2 hM0 hM1 hM2 hb
  refine law_post (tb := 4) (xs := [.d (.sl (qes x0)), .d (md x1), .d (vd x2)]) hW' rfl (by kernel_rfl) (by rw [Tryz.params12]; intro t ht; simp at ht; first | (subst ht; exact ⟨by kernel_rfl, of_decide_eq_true (by kernel_rfl)⟩) | (rcases ht with rfl | rfl | rfl <;> exact ⟨by kernel_rfl, of_decide_eq_true (by kernel_rfl)⟩)) Tryz.underlying4 (by kernel_rfl) (fun H ds hd => ?_) hlaw rfl (fun j p v h1 h2 => ?_)
  · match ds, hd with
    | [e0, e1, e2], _ => exact ⟨rfl, rfl, rfl⟩
  · cases j with
    | zero => cases h1; cases h2; exact .d (RdC.slice hr0)
    | succ j =>
      cases j with
      | zero => cases h1; cases h2; exact .d (RdC.agg hr1)
      | succ j =>
        cases j with
        | zero => cases h1; cases h2; exact .d (RdC.agg hr2)
        | succ j =>
          cases h1
end Go.Proofs.YtmhclkagdpbadaaGreat.evalmOns
/-
  A part of the proof.
-/
set_option linter.unusedSimpArgs false
set_option linter.unusedVariables false
namespace Go.Proofs.YtmhclkagdpbadaaGreat.evalmOns
open Go.ChangeShapes Go.WideShapes Go.ChangeAt Go.RowKit Go.Pm Go.Mt
set_option maxRecDepth 100000 in
theorem lifted (os : Os) (started : os.Started) (H : Type) (enc : TypeId × Value → H) (F : Stop.Interp) :
    ReturnsInHanded {} Tryz.checked os 12 .any ((Rows.OpenSpec.upto Rows.evalmOnsSpec).pre6 enc Tryz.prog Tryz.f12 Rows.evalmOnsUptoRow.domain false) (((Rows.OpenSpec.upto Rows.evalmOnsSpec).at F).post enc Tryz.prog Tryz.f12 false true false false) := by
  refine returnsInHanded_of_cond (C := Tryz.checked) (s := (Rows.OpenSpec.upto Rows.evalmOnsSpec)) (k := Rows.uptoSmall) rfl own started (by kernel_rfl) Tryz.func12
    (OpenSpec.witness (enc := enc) (C := Tryz.checked) (s := (Rows.OpenSpec.upto Rows.evalmOnsSpec)) (k := Rows.uptoSmall) rfl false ⟨#[], #[.slice none 0 0, .agg #[.bool false, .slice none 0 0, .slice none 0 0], .agg #[.bool false, .slice none 0 0, .slice none 0 0]], []⟩ 8 (by kernel_rfl) (by kernel_rfl) (by kernel_rfl)
      (x := ([.nil, .agg [.agg [.lit (.bool false), .nil], .nil], .agg [.agg [.lit (.bool false), .nil], .nil]], [], [])) (by kernel_rfl) rfl (by kernel_rfl)) ?_
  intro W base args ds gs before hval hW _ hk _
  exact contract H enc W base args ds gs before hval hW hk
end Go.Proofs.YtmhclkagdpbadaaGreat.evalmOns
