/-
  A part of the proof.
-/
import Derived.Test.YtpoocfmphcgmkaaGreatBre18
import Derived.Test.YtpoocfmphcgmkaaGreatBre28
set_option linter.unusedVariables false
set_option linter.unusedSimpArgs false
set_option linter.unusedSimpArgs false
set_option linter.unusedVariables false
namespace Go.Mt
open Go Go.Pm Go.Proofs
theorem norm3_p (p : ZR) (hp : Rz p) : PCall Tryz.prog 105 [.d (zd p)] (.one (.d (zd (nrm (ofR p))))) := by
  obtain ⟨b, l⟩ := p
  have h2 : l.length < 1099511627776 := hp.2
  have hno := rnorm_p l hp.1 (by omega)
  have hz := zi_norm b (val l)
  have e : (if b = true then -((val l : Nat) : Int) else ((val l : Nat) : Int)) = ofR (b, l) := by unfold ofR ival; cases b <;> rfl
  rw [e] at hz
  have hz : zd (nrm (ofR (b, l))) = .agg [.v (.bool (b && decide (0 < val l))), .sl (les (limbs (val l)))] := hz.symm
  rw [hz]
  generalize val l = n at *
  by_cases h0 : n = 0
  · subst h0
    cases b with
    | true =>
      refine pcall_of hmo Tryz.func105 rfl (by kernel_rfl) (by simp [Tryz.ntmps105]) ?_; simp -implicitDefEqProofs [go_sem, Tryz.ntmps105]; (repeat refine And.intro (by first | decide +kernel | omega | kernel_rfl) ?_); (try decide +kernel)
      refine .inl ⟨_, hno, ?_⟩; simp -implicitDefEqProofs [go_sem, length_limbs, nl_zero]; (repeat refine And.intro (by first | decide +kernel | omega | kernel_rfl) ?_); (try decide +kernel)
    | false =>
      refine pcall_of hmo Tryz.func105 rfl (by kernel_rfl) (by simp [Tryz.ntmps105]) ?_; simp -implicitDefEqProofs [go_sem, Tryz.ntmps105]; (repeat refine And.intro (by first | decide +kernel | omega | kernel_rfl) ?_); (try decide +kernel)
      refine .inl ⟨_, hno, ?_⟩; simp -implicitDefEqProofs [go_sem, length_limbs, nl_zero]; (repeat refine And.intro (by first | decide +kernel | omega | kernel_rfl) ?_); (try decide +kernel)
  · have hn := nl_pos (n := n) (by omega)
    have hn2 : 0 < n := by omega
    cases b with
    | true =>
      refine pcall_of hmo Tryz.func105 rfl (by kernel_rfl) (by simp [Tryz.ntmps105]) ?_; simp -implicitDefEqProofs [go_sem, Tryz.ntmps105]; (repeat refine And.intro (by first | decide +kernel | omega | kernel_rfl) ?_); (try decide +kernel)
      refine .inl ⟨_, hno, ?_⟩; simp -implicitDefEqProofs [go_sem, length_limbs, hn, hn2]; (repeat refine And.intro (by first | decide +kernel | omega | kernel_rfl) ?_); (try decide +kernel)
    | false =>
      refine pcall_of hmo Tryz.func105 rfl (by kernel_rfl) (by simp [Tryz.ntmps105]) ?_; simp -implicitDefEqProofs [go_sem, Tryz.ntmps105]; (repeat refine And.intro (by first | decide +kernel | omega | kernel_rfl) ?_); (try decide +kernel)
      refine .inl ⟨_, hno, ?_⟩; simp -implicitDefEqProofs [go_sem, length_limbs, hn, hn2]; (repeat refine And.intro (by first | decide +kernel | omega | kernel_rfl) ?_); (try decide +kernel)
theorem n3_c (b : Bool) (n : Nat) (z : Int) (h : (if b then -(n : Int) else n) = z) (hn : nl n < 1099511627776) : PCall Tryz.prog 105 [.d (.agg [.v (.bool b), .sl (les (limbs n))])] (.one (.d (zd (nrm z)))) := by
  have := norm3_p (b, limbs n) ⟨small_limbs n, by rw [length_limbs]; exact hn⟩
  have e : ofR (b, limbs n) = z := by rw [← h]; unfold ofR ival; rw [val_limbs]
  rw [e] at this
  exact this
theorem of3_p (z : Int) (h1 : -9223372036854775808 ≤ z) (h2 : z ≤ 9223372036854775807) : PCall Tryz.prog 27 [.d (.v (.int .i64 z))] (.one (.d (zd (nrm z)))) := by
  by_cases h : 0 ≤ z
  · obtain ⟨n, rfl⟩ : ∃ n : Nat, z = n := ⟨z.toNat, by omega⟩
    have hof := rof_p n (by omega)
    have e : zd (nrm (n : Int)) = .agg [.v (.bool false), .sl (les (limbs n))] := by unfold zd nrm; simp
    have e2 : (n : Int) % 18446744073709551616 = n := by omega
    rw [e]
    refine pcall_of hmo Tryz.func27 rfl (by kernel_rfl) (by simp [Tryz.ntmps27]) ?_; simp -implicitDefEqProofs [go_sem, Tryz.ntmps27]; (repeat refine And.intro (by first | decide +kernel | omega | kernel_rfl) ?_); (try decide +kernel)
    simp -implicitDefEqProofs [go_sem, h, e2]; (repeat refine And.intro (by first | decide +kernel | omega | kernel_rfl) ?_); (try decide +kernel)
    refine .inl ⟨_, hof, ?_⟩; simp -implicitDefEqProofs [go_sem]; (repeat refine And.intro (by first | decide +kernel | omega | kernel_rfl) ?_); (try decide +kernel)
  · obtain ⟨n, hn⟩ : ∃ n : Nat, n = z.natAbs := ⟨_, rfl⟩
    have hof := rof_p n (by omega)
    have e : zd (nrm z) = .agg [.v (.bool true), .sl (les (limbs n))] := by unfold zd nrm; rw [← hn]; simp; omega
    have e3 : (-(z + 1) + 1) % 18446744073709551616 = (n : Int) := by omega
    rw [e]
    refine pcall_of hmo Tryz.func27 rfl (by kernel_rfl) (by simp [Tryz.ntmps27]) ?_; simp -implicitDefEqProofs [go_sem, Tryz.ntmps27]; (repeat refine And.intro (by first | decide +kernel | omega | kernel_rfl) ?_); (try decide +kernel)
    simp -implicitDefEqProofs [go_sem, h, e3]; (repeat refine And.intro (by first | decide +kernel | omega | kernel_rfl) ?_); (try decide +kernel)
    refine .inl ⟨_, hof, ?_⟩; simp -implicitDefEqProofs [go_sem, e3]; (repeat refine And.intro (by first | decide +kernel | omega | kernel_rfl) ?_); (try decide +kernel)
theorem sign3_p (p : ZR) (hp : Rz p) : PCall Tryz.prog 111 [.d (zd p)] (.one (.d (.v (.int .i64 (ofR p).sign)))) := by
  obtain ⟨b, l⟩ := p
  have h2 : l.length < 1099511627776 := hp.2
  have hz := rzero_p l hp.1 (by omega)
  have hv := ival_zero (p := (b, l))
  by_cases h0 : val l = 0
  · have e : ofR (b, l) = 0 := by unfold ofR ival; rw [h0]; cases b <;> rfl
    have e2 : decide (val l = 0) = true := decide_eq_true h0
    rw [e]
    rw [e2] at hz
    refine pcall_of hmo Tryz.func111 rfl (by kernel_rfl) (by simp [Tryz.ntmps111]) ?_; simp -implicitDefEqProofs [go_sem, Tryz.ntmps111]; (repeat refine And.intro (by first | decide +kernel | omega | kernel_rfl) ?_); (try decide +kernel)
    refine .inl ⟨_, hz, ?_⟩; simp -implicitDefEqProofs [go_sem]; (repeat refine And.intro (by first | decide +kernel | omega | kernel_rfl) ?_); (try decide +kernel)
  · have e2 : decide (val l = 0) = false := decide_eq_false h0
    rw [e2] at hz
    cases b with
    | true =>
      have e : (ofR (true, l)).sign = -1 := Int.sign_eq_neg_one_of_neg (by unfold ofR ival; simp; omega)
      rw [e]
      refine pcall_of hmo Tryz.func111 rfl (by kernel_rfl) (by simp [Tryz.ntmps111]) ?_; simp -implicitDefEqProofs [go_sem, Tryz.ntmps111]; (repeat refine And.intro (by first | decide +kernel | omega | kernel_rfl) ?_); (try decide +kernel)
      refine .inl ⟨_, hz, ?_⟩; simp -implicitDefEqProofs [go_sem]; (repeat refine And.intro (by first | decide +kernel | omega | kernel_rfl) ?_); (try decide +kernel)
    | false =>
      have e : (ofR (false, l)).sign = 1 := Int.sign_eq_one_of_pos (by unfold ofR ival; simp; omega)
      rw [e]
      refine pcall_of hmo Tryz.func111 rfl (by kernel_rfl) (by simp [Tryz.ntmps111]) ?_; simp -implicitDefEqProofs [go_sem, Tryz.ntmps111]; (repeat refine And.intro (by first | decide +kernel | omega | kernel_rfl) ?_); (try decide +kernel)
      refine .inl ⟨_, hz, ?_⟩; simp -implicitDefEqProofs [go_sem]; (repeat refine And.intro (by first | decide +kernel | omega | kernel_rfl) ?_); (try decide +kernel)
theorem neg3_p (p : ZR) (hp : Rz p) : PCall Tryz.prog 29 [.d (zd p)] (.one (.d (zd (nrm (-(ofR p)))))) := by
  have h := norm3_p (!p.1, p.2) hp
  have e : ofR (!p.1, p.2) = -(ofR p) := by unfold ofR ival; cases p.1 <;> simp
  rw [e] at h
  refine pcall_of hmo Tryz.func29 rfl (by kernel_rfl) (by simp [Tryz.ntmps29]) ?_; simp -implicitDefEqProofs [go_sem, Tryz.ntmps29]; (repeat refine And.intro (by first | decide +kernel | omega | kernel_rfl) ?_); (try decide +kernel)
  refine .inl ⟨_, h, ?_⟩; simp -implicitDefEqProofs [go_sem]; (repeat refine And.intro (by first | decide +kernel | omega | kernel_rfl) ?_); (try decide +kernel)
theorem abs3_p (p : ZR) (hp : Rz p) : PCall Tryz.prog 202 [.d (zd p)] (.one (.d (zd (nrm ((ofR p).natAbs : Int))))) := by
  have hno := rnorm_p p.2 hp.1 (by have := hp.2; omega)
  have e : zd (nrm ((ofR p).natAbs : Int)) = .agg [.v (.bool false), .sl (les (limbs (val p.2)))] := by
    have : (ofR p).natAbs = val p.2 := mag p.1 p.2
    rw [this]; unfold zd nrm; simp
  rw [e]
  refine pcall_of hmo Tryz.func202 rfl (by kernel_rfl) (by simp [Tryz.ntmps202]) ?_; simp -implicitDefEqProofs [go_sem, Tryz.ntmps202]; (repeat refine And.intro (by first | decide +kernel | omega | kernel_rfl) ?_); (try decide +kernel)
  refine .inl ⟨_, hno, ?_⟩; simp -implicitDefEqProofs [go_sem]; (repeat refine And.intro (by first | decide +kernel | omega | kernel_rfl) ?_); (try decide +kernel)
theorem mul3_p (p q : ZR) (hp : Rz p) (hq : Rz q) (hpl : p.2.length < 274877906944) (hql : q.2.length < 274877906944) : PCall Tryz.prog 134 [.d (zd p), .d (zd q)] (.one (.d (zd (nrm (ofR p * ofR q))))) := by
  obtain ⟨b, l⟩ := p
  obtain ⟨c, m⟩ := q
  have hm := rmul_p l m hp.1 hq.1 hpl hql
  have hl := nl_mul (val l) (val m)
  have h1 : nl (val l) ≤ l.length := nl_val hp.1
  have h2 : nl (val m) ≤ m.length := nl_val hq.1
  have hpl : l.length < 274877906944 := hpl
  have hql : m.length < 274877906944 := hql
  have hn := n3_c (b != c) (val l * val m) (ofR (b, l) * ofR (c, m)) (by unfold ofR ival; cases b <;> cases c <;> simp [Int.neg_mul, Int.mul_neg]) (by omega)
  refine pcall_of hmo Tryz.func134 rfl (by kernel_rfl) (by simp [Tryz.ntmps134]) ?_; simp -implicitDefEqProofs [go_sem, Tryz.ntmps134]; (repeat refine And.intro (by first | decide +kernel | omega | kernel_rfl) ?_); (try decide +kernel)
  refine .inl ⟨_, hm, ?_⟩; simp -implicitDefEqProofs [go_sem]; (repeat refine And.intro (by first | decide +kernel | omega | kernel_rfl) ?_); (try decide +kernel)
  refine .inl ⟨_, hn, ?_⟩; simp -implicitDefEqProofs [go_sem]; (repeat refine And.intro (by first | decide +kernel | omega | kernel_rfl) ?_); (try decide +kernel)
end Go.Mt
