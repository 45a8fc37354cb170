/-
  A part of the proof.
-/
import Derived.Test.YtmhclkagdpbadaaGreatEbr43
import Derived.Test.YtmhclkagdpbadaaGreatEbr45
set_option linter.unusedVariables false
set_option linter.unusedSimpArgs false
set_option linter.unusedSimpArgs false
set_option linter.unusedVariables false
namespace Go.Mt
open Go Go.Pm Go.Proofs
theorem awake14_p : PCall Tryz.prog 69 [] (.one (.d (.v (.bool true)))) := Go.Tz.c323
set_option maxRecDepth 100000 in
set_option maxHeartbeats 2000000 in
theorem brackets_p (a b : MR) (ha : Im a) (hb : Im b) : PCall Tryz.prog 8 [.d (md a), .d (md b)] (.one (.d (.v (.bool true)))) := by
  have hbr := bracket_x a b ha.d ha.g ha.gm (by have := ha.vfl; omega) hb.d hb.g hb.gm (by have := hb.vfl; omega) (by decide)
  have fa := ha.fit
  have fb := hb.fit
  by_cases h1 : fitE a = 0
  · by_cases h2 : fitE b = 0
    · by_cases h3 : a.2.length = b.2.length
      · have e : brE a b = 0 := by unfold brE; rw [if_neg (by omega), if_neg (by omega), if_neg (by omega)]
        rw [e, if_pos rfl] at hbr
        obtain ⟨c1, c2, c3, c4, c5⟩ := fit_zero h1
        obtain ⟨d1, d2, d3, d4, d5⟩ := fit_zero h2
        have ga := ha.gm c1
        have gb := hb.gm d1
        have la := ha.gl (check_parts c1).1
        have lb := hb.gl (check_parts d1).1
        have h24 : a.2.length * a.2.length ≤ 24 * 24 := Nat.mul_le_mul c4 c4
        have m1 := mul11_p a b la lb ga gb (by decide) (by omega) (by omega) (by omega) (by rw [← d3, ← h3]; omega)
        have m2 := mul11_p b a lb la gb ga (by decide) (by omega) (by omega) (by omega) (by rw [← c3, ← h3]; omega)
        have g1 := mulm_bound a b ga gb (by decide) (by omega)
        have g2 := mulm_bound b a gb ga (by decide) (by omega)
        rw [← c3, ← d3, ← h3] at m1 m2 g1 g2
        obtain ⟨n, hn⟩ : ∃ n, n = a.2.length := ⟨_, rfl⟩
        rw [← hn] at m1 m2 g1 g2 hbr h24
        have l1 : (nm (mulQ (valM a) (valM b) n n n)).2.length = n := by rw [nm_len]; exact length_tabQ _ _ _
        have l2 : (nm (mulQ (valM b) (valM a) n n n)).2.length = n := by rw [nm_len]; exact length_tabQ _ _ _
        have w1 : colsOf (nm (mulQ (valM a) (valM b) n n n)).2 = n := by rw [nm_cols]; exact colsOf_tab _ (by omega)
        have w2 : colsOf (nm (mulQ (valM b) (valM a) n n n)).2 = n := by rw [nm_cols]; exact colsOf_tab _ (by omega)
        have hs := sub11_p _ _ (gl_nm g1 (by decide)) (gl_nm g2 (by decide)) g1 g2 (by decide) (by decide) (by rw [l1, l2]) (by rw [w1, w2]) (by rw [l1]; omega) (by rw [l1]; omega) (by rw [l1, w1]; omega)
        have hz := joinQ_nz (· - ·) (.inr rfl) g1 g2 (by rw [l1, l2]) (by rw [w1, w2]) (by decide)
        rw [l1, w1, valM_nm, valM_nm] at hs hz
        have hs : PCall Tryz.prog 70 [.d (md (nm (mulQ (valM a) (valM b) n n n))), .d (md (nm (mulQ (valM b) (valM a) n n n)))] (.one (.d (md (nm (bracketQ (valM a) (valM b) n))))) := hs
        have hz : Nz (bracketQ (valM a) (valM b) n) := hz
        have ht := told14_p _ hz (by show (tabQ _ _ _).length < _; rw [length_tabQ]; omega) (fun r hr => by rw [row_tabQ _ _ _ r hr]; omega)
        rw [h1] at fa
        rw [h2] at fb
        rw [h3] at hn
        generalize bracketQ (valM a) (valM b) n = R at *
        generalize mulQ (valM a) (valM b) n n n = P at *
        generalize mulQ (valM b) (valM a) n n n = Q at *
        refine pcall_of hmo Tryz.func8 rfl (by kernel_rfl) (by simp [Tryz.ntmps8]) ?_; simp -implicitDefEqProofs [go_sem, Tryz.ntmps8]; (repeat refine And.intro (by first | decide +kernel | omega | kernel_rfl) ?_); (try decide +kernel)
        refine .inl ⟨_, hbr, ?_⟩; simp -implicitDefEqProofs [go_sem]; (repeat refine And.intro (by first | decide +kernel | omega | kernel_rfl) ?_); (try decide +kernel)
        refine .inl ⟨_, fa, ?_⟩; simp -implicitDefEqProofs [go_sem]; (repeat refine And.intro (by first | decide +kernel | omega | kernel_rfl) ?_); (try decide +kernel)
        refine .inl ⟨_, fb, ?_⟩; simp -implicitDefEqProofs [go_sem, h3]; (repeat refine And.intro (by first | decide +kernel | omega | kernel_rfl) ?_); (try decide +kernel)
        refine .inl ⟨_, m1, ?_⟩; simp -implicitDefEqProofs [go_sem]; (repeat refine And.intro (by first | decide +kernel | omega | kernel_rfl) ?_); (try decide +kernel)
        refine .inl ⟨_, m2, ?_⟩; simp -implicitDefEqProofs [go_sem]; (repeat refine And.intro (by first | decide +kernel | omega | kernel_rfl) ?_); (try decide +kernel)
        refine .inl ⟨_, hs, ?_⟩; simp -implicitDefEqProofs [go_sem]; (repeat refine And.intro (by first | decide +kernel | omega | kernel_rfl) ?_); (try decide +kernel)
        refine .inl ⟨_, ht, ?_⟩; simp -implicitDefEqProofs [go_sem]; (repeat refine And.intro (by first | decide +kernel | omega | kernel_rfl) ?_); (try decide +kernel)
        refine .inl ⟨_, awake14_p, ?_⟩; simp -implicitDefEqProofs [go_sem]; (repeat refine And.intro (by first | decide +kernel | omega | kernel_rfl) ?_); (try decide +kernel)
      · have e : brE a b = 2 := by unfold brE; rw [if_neg (by omega), if_neg (by omega), if_pos h3]
        have h3z : ¬ ((a.2.length : Nat) : Int) = ((b.2.length : Nat) : Int) := by omega
        rw [e, if_neg (by decide)] at hbr
        rw [h1] at fa
        rw [h2] at fb
        refine pcall_of hmo Tryz.func8 rfl (by kernel_rfl) (by simp [Tryz.ntmps8]) ?_; simp -implicitDefEqProofs [go_sem, Tryz.ntmps8]; (repeat refine And.intro (by first | decide +kernel | omega | kernel_rfl) ?_); (try decide +kernel)
        refine .inl ⟨_, hbr, ?_⟩; simp -implicitDefEqProofs [go_sem]; (repeat refine And.intro (by first | decide +kernel | omega | kernel_rfl) ?_); (try decide +kernel)
        refine .inl ⟨_, fa, ?_⟩; simp -implicitDefEqProofs [go_sem]; (repeat refine And.intro (by first | decide +kernel | omega | kernel_rfl) ?_); (try decide +kernel)
        refine .inl ⟨_, fb, ?_⟩; simp -implicitDefEqProofs [go_sem, h3, h3z]; (repeat refine And.intro (by first | decide +kernel | omega | kernel_rfl) ?_); (try decide +kernel)
        refine .inl ⟨_, told14_e 2 (by decide), ?_⟩; simp -implicitDefEqProofs [go_sem]; (repeat refine And.intro (by first | decide +kernel | omega | kernel_rfl) ?_); (try decide +kernel)
        refine .inl ⟨_, awake14_p, ?_⟩; simp -implicitDefEqProofs [go_sem]; (repeat refine And.intro (by first | decide +kernel | omega | kernel_rfl) ?_); (try decide +kernel)
    · have e : brE a b = fitE b := by unfold brE; rw [if_neg (by omega), if_pos h2]
      rw [e, if_neg h2] at hbr
      rw [h1] at fa
      refine pcall_of hmo Tryz.func8 rfl (by kernel_rfl) (by simp [Tryz.ntmps8]) ?_; simp -implicitDefEqProofs [go_sem, Tryz.ntmps8]; (repeat refine And.intro (by first | decide +kernel | omega | kernel_rfl) ?_); (try decide +kernel)
      refine .inl ⟨_, hbr, ?_⟩; simp -implicitDefEqProofs [go_sem]; (repeat refine And.intro (by first | decide +kernel | omega | kernel_rfl) ?_); (try decide +kernel)
      refine .inl ⟨_, fa, ?_⟩; simp -implicitDefEqProofs [go_sem]; (repeat refine And.intro (by first | decide +kernel | omega | kernel_rfl) ?_); (try decide +kernel)
      refine .inl ⟨_, fb, ?_⟩; simp -implicitDefEqProofs [go_sem, h2]; (repeat refine And.intro (by first | decide +kernel | omega | kernel_rfl) ?_); (try decide +kernel)
      refine .inl ⟨_, told14_e (fitE b) h2, ?_⟩; simp -implicitDefEqProofs [go_sem]; (repeat refine And.intro (by first | decide +kernel | omega | kernel_rfl) ?_); (try decide +kernel)
      refine .inl ⟨_, awake14_p, ?_⟩; simp -implicitDefEqProofs [go_sem]; (repeat refine And.intro (by first | decide +kernel | omega | kernel_rfl) ?_); (try decide +kernel)
  · have e : brE a b = fitE a := by unfold brE; rw [if_pos h1]
    rw [e, if_neg h1] at hbr
    refine pcall_of hmo Tryz.func8 rfl (by kernel_rfl) (by simp [Tryz.ntmps8]) ?_; simp -implicitDefEqProofs [go_sem, Tryz.ntmps8]; (repeat refine And.intro (by first | decide +kernel | omega | kernel_rfl) ?_); (try decide +kernel)
    refine .inl ⟨_, hbr, ?_⟩; simp -implicitDefEqProofs [go_sem]; (repeat refine And.intro (by first | decide +kernel | omega | kernel_rfl) ?_); (try decide +kernel)
    refine .inl ⟨_, fa, ?_⟩; simp -implicitDefEqProofs [go_sem, h1]; (repeat refine And.intro (by first | decide +kernel | omega | kernel_rfl) ?_); (try decide +kernel)
    refine .inl ⟨_, told14_e (fitE a) h1, ?_⟩; simp -implicitDefEqProofs [go_sem]; (repeat refine And.intro (by first | decide +kernel | omega | kernel_rfl) ?_); (try decide +kernel)
    refine .inl ⟨_, awake14_p, ?_⟩; simp -implicitDefEqProofs [go_sem]; (repeat refine And.intro (by first | decide +kernel | omega | kernel_rfl) ?_); (try decide +kernel)
theorem brackets_a (a b : MR) {b0 b1 : Nat} (h0 : MatM a b0) (h1 : MatM b b1) (hb : b0 + b1 ≤ 1048576) : PCall Tryz.prog 8 [.d (md a), .d (md b)] (.one (.d (.v (.bool true)))) :=
  brackets_p a b (.of h0 (by omega)) (.of h1 (by omega))
end Go.Mt
