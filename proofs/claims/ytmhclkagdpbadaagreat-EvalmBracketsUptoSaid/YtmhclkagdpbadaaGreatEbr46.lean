/-
  A part of the proof.
-/
import Derived.Test.YtmhclkagdpbadaaGreatEbr43
import Derived.Test.YtmhclkagdpbadaaGreatEbr45
import Derived.Test.YtmhclkagdpbadaaGreatRows
import Derived.WalkKit
import Derived.ProofKit
import Derived.OpenShut
import Derived.JoinedCond
import Derived.Test.YtmhclkagdpbadaaGreatEbr42
set_option linter.unusedVariables false
set_option linter.unusedSimpArgs false
set_option linter.unusedSimpArgs false
set_option linter.unusedVariables false
namespace Go.Mt
open Go Go.Pm Go.Proofs
theorem awake14_p : PCall Tryz.prog 69 [] (.one (.d (.v (.bool true)))) := Go.Tz.c323
set_option maxRecDepth 100000 in
set_option maxHeartbeats 2000000 in
theorem brackets_p (a b : MR) (ha : Im a) (hb : Im b) : PCall Tryz.prog 8 [.d (md a), .d (md b)] (.one (.d (.v (.bool true)))) := by
  have hbr := bracket_x a b ha.d ha.g ha.gm (by have := ha.vfl; omega) hb.d hb.g hb.gm (by have := hb.vfl; omega) (by decide)
  have fa := ha.fit
  have fb := hb.fit
  by_cases h1 : fitE a = 0
  · by_cases h2 : fitE b = 0
    · by_cases h3 : a.2.length = b.2.length
      · have e : brE a b = 0 := by unfold brE; rw [if_neg (by omega), if_neg (by omega), if_neg (by omega)]
        rw [e, if_pos rfl] at hbr
        obtain ⟨c1, c2, c3, c4, c5⟩ := fit_zero h1
        obtain ⟨d1, d2, d3, d4, d5⟩ := fit_zero h2
        have ga := ha.gm c1
        have gb := hb.gm d1
        have la := ha.gl (check_parts c1).1
        have lb := hb.gl (check_parts d1).1
        have h24 : a.2.length * a.2.length ≤ 24 * 24 := Nat.mul_le_mul c4 c4
        have m1 := mul11_p a b la lb ga gb (by decide) (by omega) (by omega) (by omega) (by rw [← d3, ← h3]; omega)
        have m2 := mul11_p b a lb la gb ga (by decide) (by omega) (by omega) (by omega) (by rw [← c3, ← h3]; omega)
        have g1 := mulm_bound a b ga gb (by decide) (by omega)
        have g2 := mulm_bound b a gb ga (by decide) (by omega)
        rw [← c3, ← d3, ← h3] at m1 m2 g1 g2
        obtain ⟨n, hn⟩ : ∃ n, n = a.2.length := ⟨_, rfl⟩
        rw [← hn] at m1 m2 g1 g2 hbr h24
        have l1 : (nm (mulQ (valM a) (valM b) n n n)).2.length = n := by rw [nm_len]; exact length_tabQ _ _ _
        have l2 : (nm (mulQ (valM b) (valM a) n n n)).2.length = n := by rw [nm_len]; exact length_tabQ _ _ _
        have w1 : colsOf (nm (mulQ (valM a) (valM b) n n n)).2 = n := by rw [nm_cols]; exact colsOf_tab _ (by omega)
        have w2 : colsOf (nm (mulQ (valM b) (valM a) n n n)).2 = n := by rw [nm_cols]; exact colsOf_tab _ (by omega)
        have hs := sub11_p _ _ (gl_nm g1 (by decide)) (gl_nm g2 (by decide)) g1 g2 (by decide) (by decide) (by rw [l1, l2]) (by rw [w1, w2]) (by rw [l1]; omega) (by rw [l1]; omega) (by rw [l1, w1]; omega)
        have hz := joinQ_nz (· - ·) (.inr rfl) g1 g2 (by rw [l1, l2]) (by rw [w1, w2]) (by decide)
        rw [l1, w1, valM_nm, valM_nm] at hs hz
        have hs : PCall Tryz.prog 70 [.d (md (nm (mulQ (valM a) (valM b) n n n))), .d (md (nm (mulQ (valM b) (valM a) n n n)))] (.one (.d (md (nm (bracketQ (valM a) (valM b) n))))) := hs
        have hz : Nz (bracketQ (valM a) (valM b) n) := hz
        have ht := told14_p _ hz (by show (tabQ _ _ _).length < _; rw [length_tabQ]; omega) (fun r hr => by rw [row_tabQ _ _ _ r hr]; omega)
        rw [h1] at fa
        rw [h2] at fb
        rw [h3] at hn
        generalize bracketQ (valM a) (valM b) n = R at *
        generalize mulQ (valM a) (valM b) n n n = P at *
        generalize mulQ (valM b) (valM a) n n n = Q at *
        refine pcall_of hmo Tryz.func8 rfl (by kernel_rfl) (by simp [Tryz.ntmps8]) ?_; simp -implicitDefEqProofs [go_sem, Tryz.ntmps8]; (repeat refine And.intro (by first | decide +kernel | omega | kernel_rfl) ?_); (try decide +kernel)
        refine .inl ⟨_, hbr, ?_⟩; simp -implicitDefEqProofs [go_sem]; (repeat refine And.intro (by first | decide +kernel | omega | kernel_rfl) ?_); (try decide +kernel)
        refine .inl ⟨_, fa, ?_⟩; simp -implicitDefEqProofs [go_sem]; (repeat refine And.intro (by first | decide +kernel | omega | kernel_rfl) ?_); (try decide +kernel)
        refine .inl ⟨_, fb, ?_⟩; simp -implicitDefEqProofs [go_sem, h3]; (repeat refine And.intro (by first | decide +kernel | omega | kernel_rfl) ?_); (try decide +kernel)
        refine .inl ⟨_, m1, ?_⟩; simp -implicitDefEqProofs [go_sem]; (repeat refine And.intro (by first | decide +kernel | omega | kernel_rfl) ?_); (try decide +kernel)
        refine .inl ⟨_, m2, ?_⟩; simp -implicitDefEqProofs [go_sem]; (repeat refine And.intro (by first | decide +kernel | omega | kernel_rfl) ?_); (try decide +kernel)
        refine .inl ⟨_, hs, ?_⟩; simp -implicitDefEqProofs [go_sem]; (repeat refine And.intro (by first | decide +kernel | omega | kernel_rfl) ?_); (try decide +kernel)
        refine .inl ⟨_, ht, ?_⟩; simp -implicitDefEqProofs [go_sem]; (repeat refine And.intro (by first | decide +kernel | omega | kernel_rfl) ?_); (try decide +kernel)
        refine .inl ⟨_, awake14_p, ?_⟩; simp -implicitDefEqProofs [go_sem]; (repeat refine And.intro (by first | decide +kernel | omega | kernel_rfl) ?_); (try decide +kernel)
      · have e : brE a b = 2 := by unfold brE; rw [if_neg (by omega), if_neg (by omega), if_pos h3]
        have h3z : ¬ ((a.2.length : Nat) : Int) = ((b.2.length : Nat) : Int) := by omega
        rw [e, if_neg (by decide)] at hbr
        rw [h1] at fa
        rw [h2] at fb
        refine pcall_of hmo Tryz.func8 rfl (by kernel_rfl) (by simp [Tryz.ntmps8]) ?_; simp -implicitDefEqProofs [go_sem, Tryz.ntmps8]; (repeat refine And.intro (by first | decide +kernel | omega | kernel_rfl) ?_); (try decide +kernel)
        refine .inl ⟨_, hbr, ?_⟩; simp -implicitDefEqProofs [go_sem]; (repeat refine And.intro (by first | decide +kernel | omega | kernel_rfl) ?_); (try decide +kernel)
        refine .inl ⟨_, fa, ?_⟩; simp -implicitDefEqProofs [go_sem]; (repeat refine And.intro (by first | decide +kernel | omega | kernel_rfl) ?_); (try decide +kernel)
        refine .inl ⟨_, fb, ?_⟩; simp -implicitDefEqProofs [go_sem, h3, h3z]; (repeat refine And.intro (by first | decide +kernel | omega | kernel_rfl) ?_); (try decide +kernel)
        refine .inl ⟨_, told14_e 2 (by decide), ?_⟩; simp -implicitDefEqProofs [go_sem]; (repeat refine And.intro (by first | decide +kernel | omega | kernel_rfl) ?_); (try decide +kernel)
        refine .inl ⟨_, awake14_p, ?_⟩; simp -implicitDefEqProofs [go_sem]; (repeat refine And.intro (by first | decide +kernel | omega | kernel_rfl) ?_); (try decide +kernel)
    · have e : brE a b = fitE b := by unfold brE; rw [if_neg (by omega), if_pos h2]
      rw [e, if_neg h2] at hbr
      rw [h1] at fa
      refine pcall_of hmo Tryz.func8 rfl (by kernel_rfl) (by simp [Tryz.ntmps8]) ?_; simp -implicitDefEqProofs [go_sem, Tryz.ntmps8]; (repeat refine And.intro (by first | decide +kernel | omega | kernel_rfl) ?_); (try decide +kernel)
      refine .inl ⟨_, hbr, ?_⟩; simp -implicitDefEqProofs [go_sem]; (repeat refine And.intro (by first | decide +kernel | omega | kernel_rfl) ?_); (try decide +kernel)
      refine .inl ⟨_, fa, ?_⟩; simp -implicitDefEqProofs [go_sem]; (repeat refine And.intro (by first | decide +kernel | omega | kernel_rfl) ?_); (try decide +kernel)
      refine .inl ⟨_, fb, ?_⟩; simp -implicitDefEqProofs [go_sem, h2]; (repeat refine And.intro (by first | decide +kernel | omega | kernel_rfl) ?_); (try decide +kernel)
      refine .inl ⟨_, told14_e (fitE b) h2, ?_⟩; simp -implicitDefEqProofs [go_sem]; (repeat refine And.intro (by first | decide +kernel | omega | kernel_rfl) ?_); (try decide +kernel)
      refine .inl ⟨_, awake14_p, ?_⟩; simp -implicitDefEqProofs [go_sem]; (repeat refine And.intro (by first | decide +kernel | omega | kernel_rfl) ?_); (try decide +kernel)
  · have e : brE a b = fitE a := by unfold brE; rw [if_pos h1]
    rw [e, if_neg h1] at hbr
    refine pcall_of hmo Tryz.func8 rfl (by kernel_rfl) (by simp [Tryz.ntmps8]) ?_; simp -implicitDefEqProofs [go_sem, Tryz.ntmps8]; (repeat refine And.intro (by first | decide +kernel | omega | kernel_rfl) ?_); (try decide +kernel)
    refine .inl ⟨_, hbr, ?_⟩; simp -implicitDefEqProofs [go_sem]; (repeat refine And.intro (by first | decide +kernel | omega | kernel_rfl) ?_); (try decide +kernel)
    refine .inl ⟨_, fa, ?_⟩; simp -implicitDefEqProofs [go_sem, h1]; (repeat refine And.intro (by first | decide +kernel | omega | kernel_rfl) ?_); (try decide +kernel)
    refine .inl ⟨_, told14_e (fitE a) h1, ?_⟩; simp -implicitDefEqProofs [go_sem]; (repeat refine And.intro (by first | decide +kernel | omega | kernel_rfl) ?_); (try decide +kernel)
    refine .inl ⟨_, awake14_p, ?_⟩; simp -implicitDefEqProofs [go_sem]; (repeat refine And.intro (by first | decide +kernel | omega | kernel_rfl) ?_); (try decide +kernel)
theorem brackets_a (a b : MR) {b0 b1 : Nat} (h0 : MatM a b0) (h1 : MatM b b1) (hb : b0 + b1 ≤ 1048576) : PCall Tryz.prog 8 [.d (md a), .d (md b)] (.one (.d (.v (.bool true)))) :=
  brackets_p a b (.of h0 (by omega)) (.of h1 (by omega))
end Go.Mt
/-
  A part of the proof.
-/
set_option linter.unusedSimpArgs false
set_option linter.unusedVariables false
namespace Go.Proofs.YtmhclkagdpbadaaGreat.evalmBrackets
open Go.ChangeShapes Go.WideShapes Go.ChangeAt Go.RowKit Go.Pm Go.Mt
theorem own : ownKnob Tryz.prog.godebug = none := by kernel_rfl
set_option maxRecDepth 100000 in
theorem contract (H : Type) (enc : TypeId × Value → H) (W : World) (base : Nat) (args : Array Value) (ds gs : List (DataW H)) (before : List MemPlace)
    (hval : ∀ (j : Nat) t v, Tryz.f8.params[j]? = some t → args[j]? = some v → Value.okWide Tryz.prog W .any base t v)
    (hW : DataW.Whole enc Tryz.prog Tryz.f8.params.toList Rows.evalmBracketsSpec.vars false W args.toList ds gs before) (hk : Rows.uptoSmall H (ds ++ gs) = true) :
    Calls Tryz.prog 8 args W fun e W' => ∃ v, e = .returned v ∧ Rows.evalmBracketsSpec.post enc Tryz.prog Tryz.f8 false true false false W args v W' := by
  have hW' := hW
  obtain ⟨p, q, hA0, hV, rfl, hfz, hnd⟩ := hW
  have hA : DataW.TrodAll enc Tryz.prog W 0 (fun _ => true) true Tryz.f8.params.toList args.toList ds p := hA0
  rw [Tryz.params8] at hA hval
  obtain ⟨v0, vs0, d0, ds0, p0, q0, hargs, rfl, rfl, h0, r0⟩ := trodAll_cons hA
  obtain ⟨v1, vs1, d1, ds1, p1, q1, rfl, rfl, rfl, h1, r1⟩ := trodAll_cons r0
  obtain ⟨rfl, rfl, rfl⟩ := trodAll_nil r1
  obtain rfl : args = #[v0, v1] := by cases args; simp_all
  obtain ⟨rfl, rfl⟩ := trodVars_none hV
  have hb : Rows.uptoBulk d0 + Rows.uptoBulk d1 ≤ 1048576 := by
    have h := of_decide_eq_true hk
    simp only [List.append_nil, Rows.uptoBulkAll] at h
    omega
  have hb0 : Rows.uptoBulk d0 ≤ 1048576 := by omega
  obtain ⟨cs0, rfl, _⟩ := okWide_struct Tryz.underlying28 (hval 0 28 v0 rfl rfl)
  obtain ⟨fuel0, hf0⟩ := h0
  obtain ⟨x0, hr0, hM0⟩ := giv_mat (K := 1048576) (by decide) fuel0 _ _ hf0 (fun b o hm => hfz b o (List.mem_append_left _ (List.mem_append_left _ hm))) hb0
  have hb1 : Rows.uptoBulk d1 ≤ 1048576 := by omega
  obtain ⟨cs1, rfl, _⟩ := okWide_struct Tryz.underlying28 (hval 1 28 v1 rfl rfl)
  obtain ⟨fuel1, hf1⟩ := h1
  obtain ⟨x1, hr1, hM1⟩ := giv_mat (K := 1048576) (by decide) fuel1 _ _ hf1 (fun b o hm => hfz b o (List.mem_append_left _ (List.mem_append_right _ (List.mem_append_left _ hm)))) hb1
  have hlaw := brackets_a x0 x1 hM0 hM1 hb
  refine law_post (tb := 4) (xs := [.d (md x0), .d (md x1)]) hW' rfl (by kernel_rfl) (by rw [Tryz.params8]; intro t ht; simp at ht; first | (subst ht; exact ⟨by kernel_rfl, of_decide_eq_true (by kernel_rfl)⟩) | (rcases ht with rfl | rfl <;> exact ⟨by kernel_rfl, of_decide_eq_true (by kernel_rfl)⟩)) Tryz.underlying4 (by kernel_rfl) (fun H ds hd => ?_) hlaw rfl (fun j p v h1 h2 => ?_)
  · match ds, hd with
    | [e0, e1], _ => exact ⟨rfl, rfl, rfl⟩
  · cases j with
    | zero => cases h1; cases h2; exact .d (RdC.agg hr0)
    | succ j =>
      cases j with
      | zero => cases h1; cases h2; exact .d (RdC.agg hr1)
      | succ j =>
        cases h1
end Go.Proofs.YtmhclkagdpbadaaGreat.evalmBrackets
/-
  A part of the proof.
-/
set_option linter.unusedSimpArgs false
set_option linter.unusedVariables false
namespace Go.Proofs.YtmhclkagdpbadaaGreat.evalmBrackets
open Go.ChangeShapes Go.WideShapes Go.ChangeAt Go.RowKit Go.Pm Go.Mt
set_option maxRecDepth 100000 in
theorem lifted (os : Os) (started : os.Started) (H : Type) (enc : TypeId × Value → H) (F : Stop.Interp) :
    ReturnsInHanded {} Tryz.checked os 8 .any ((Rows.OpenSpec.upto Rows.evalmBracketsSpec).pre6 enc Tryz.prog Tryz.f8 Rows.evalmBracketsUptoRow.domain false) (((Rows.OpenSpec.upto Rows.evalmBracketsSpec).at F).post enc Tryz.prog Tryz.f8 false true false false) := by
  refine returnsInHanded_of_cond (C := Tryz.checked) (s := (Rows.OpenSpec.upto Rows.evalmBracketsSpec)) (k := Rows.uptoSmall) rfl own started (by kernel_rfl) Tryz.func8
    (OpenSpec.witness (enc := enc) (C := Tryz.checked) (s := (Rows.OpenSpec.upto Rows.evalmBracketsSpec)) (k := Rows.uptoSmall) rfl false ⟨#[], #[.agg #[.bool false, .slice none 0 0, .slice none 0 0], .agg #[.bool false, .slice none 0 0, .slice none 0 0]], []⟩ 8 (by kernel_rfl) (by kernel_rfl) (by kernel_rfl)
      (x := ([.agg [.agg [.lit (.bool false), .nil], .nil], .agg [.agg [.lit (.bool false), .nil], .nil]], [], [])) (by kernel_rfl) rfl (by kernel_rfl)) ?_
  intro W base args ds gs before hval hW _ hk _
  exact contract H enc W base args ds gs before hval hW hk
end Go.Proofs.YtmhclkagdpbadaaGreat.evalmBrackets
