/-
  A part of the proof.
-/
import Derived.Test.YtpoocfmphcgmkaaGreatBre10
import Derived.Test.YtpoocfmphcgmkaaGreatBre20
import Derived.Test.YtpoocfmphcgmkaaGreatBre14
import Derived.Test.YtpoocfmphcgmkaaGreatBre25
set_option linter.unusedVariables false
set_option linter.unusedSimpArgs false
set_option linter.unusedSimpArgs false
set_option linter.unusedVariables false
namespace Go.Mt
open Go Go.Pm Go.Proofs
theorem fill_next (l : List Nat) (n i : Nat) (hi : i < n) (hn : n ≤ l.length) : (les (l.take i ++ List.replicate (n - i) 0)).set i [D.v (.int .u32 ((l[i]'(by omega) : Nat) : Int))] = les (l.take (i + 1) ++ List.replicate (n - (i + 1)) 0) := by
  refine (les_set (l.take i ++ List.replicate (n - i) 0) i (l[i]'(by omega))).trans ?_
  congr 1
  rw [List.set_append_right _ _ (by simp; omega)]
  rw [List.take_add_one, List.getElem?_eq_getElem (by omega), List.append_assoc]
  congr 1
  rw [List.length_take, Nat.min_eq_left (by omega), Nat.sub_self, show n - i = (n - (i + 1)) + 1 by omega, List.replicate_succ]
  rfl
theorem rnorm_p (l : List Nat) (hl : Small l) (hn : l.length < 4398046511104) : PCall Tryz.prog 156 [.d (.sl (les l))] (.one (.d (.sl (les (limbs (val l)))))) := by
  refine pcallS_of Tryz.func156 rfl (by kernel_rfl) (by simp [Tryz.ntmps156]) ?_; rw [Tryz.ntmps156]
  refine .seq (.of_fn hmo ?_); simp -implicitDefEqProofs [go_sem]; (repeat refine And.intro (by first | decide +kernel | omega | kernel_rfl) ?_); (try decide +kernel)
  refine .seq (.of_fn hmo ?_); simp -implicitDefEqProofs [go_sem]; (repeat refine And.intro (by first | decide +kernel | omega | kernel_rfl) ?_); (try decide +kernel)
  refine .cuts (fun (k : Nat) => ⟨35, [(0, .d (.sl (les l))), (3, intP .i64 (k : Int))], [], 2000⟩) (fun k => k ≤ l.length ∧ l.take k = limbs (val l)) (.of_fn hmo ?_) (fun k ⟨hkl, hkv⟩ => ?_)
  · simp -implicitDefEqProofs [go_sem]; (repeat refine And.intro (by first | decide +kernel | omega | kernel_rfl) ?_); (try decide +kernel)
    refine loop_rule [] (fun (k : Nat) => ⟨35, [(0, .d (.sl (les l))), (3, intP .i64 (k : Int))], [], 1000⟩) (fun k => k ≤ l.length ∧ val (l.take k) = val l) id l.length (by simp) (by simp) (by simp -implicitDefEqProofs [go_sem]) (fun k ⟨hk1, hk2⟩ => ?_)
    have fin : k = 0 ∨ l[k-1]?.getD 0 ≠ 0 → l.take k = limbs (val l) := fun h => limbs_take_val hl hk1 h hk2
    by_cases hk : k = 0
    · have f1 := fin (.inl hk)
      subst hk
      simp -implicitDefEqProofs [go_sem]; (repeat refine And.intro (by first | decide +kernel | omega | kernel_rfl) ?_); (try decide +kernel)
      refine ⟨0, ?_⟩; (repeat' apply And.intro) <;> first | omega | assumption | rfl
    have h0 : 0 < k := by omega
    have h0z : (0 : Int) < k := by omega
    have hg : (les l)[k - 1]? = some [ud (l[k-1]?.getD 0)] := les_get (by omega)
    have e1 : ((k : Int) - 1).toNat = k - 1 := by omega
    by_cases hx : l[k-1]?.getD 0 = 0
    · simp -implicitDefEqProofs [go_sem, h0, h0z, hg, hx, ud, e1]; (repeat refine And.intro (by first | decide +kernel | omega | kernel_rfl) ?_); (try decide +kernel)
      refine ⟨k - 1, ?_⟩; (repeat' apply And.intro) <;> first | omega | (exact (val_take_pred h0 hk1 hx).trans hk2) | assumption | rfl
    · have hxz : ¬ ((l[k-1]?.getD 0 : Nat) : Int) = 0 := by omega
      have f1 := fin (.inr hx)
      simp -implicitDefEqProofs [go_sem, h0, h0z, hg, hx, hxz, ud, e1]; (repeat refine And.intro (by first | decide +kernel | omega | kernel_rfl) ?_); (try decide +kernel)
      refine ⟨k, ?_⟩; (repeat' apply And.intro) <;> first | omega | assumption | rfl
  rw [← hkv]
  refine .seq (.of_fn hmo ?_); simp -implicitDefEqProofs [go_sem]; (repeat refine And.intro (by first | decide +kernel | omega | kernel_rfl) ?_); (try decide +kernel)
  refine .seq (.of_fn hmo ?_); simp -implicitDefEqProofs [go_sem]; (repeat refine And.intro (by first | decide +kernel | omega | kernel_rfl) ?_); (try decide +kernel)
  refine loop_rule [] (fun (i : Nat) => ⟨35, [(0, .d (.sl (les l))), (3, intP .i64 (k : Int)), (4, .sr 2004 0), (5, intP .i64 (i : Int))], [(2004, .arr ⟨190, 1, 0, false, les (l.take i ++ List.replicate (k - i) 0)⟩)], 3000⟩) (fun i => i ≤ k) (fun i => k - i) 0 (Nat.zero_le _) (by simp) (by simp -implicitDefEqProofs [go_sem, les, ud]) (fun i hi => ?_)
  by_cases hik : i < k
  · have hil : i < l.length := by omega
    have hlen : (les (l.take i ++ List.replicate (k - i) 0)).length = k := by simp -implicitDefEqProofs [go_sem]; omega
    have hst := fill_next l k i hik hkl
    have hlen2 : (l.take i ++ List.replicate (k - i) 0).length = k := by simp; omega
    have hg : (les (l.take i ++ List.replicate (k - i) 0))[i]? = some [ud ((l.take i ++ List.replicate (k - i) 0)[i]?.getD 0)] := les_get (by omega)
    simp -implicitDefEqProofs [go_sem, hik, hil, hlen, hlen2, hg, ud]; (repeat refine And.intro (by first | decide +kernel | omega | kernel_rfl) ?_); (try decide +kernel)
    refine ⟨i + 1, ?_⟩; (repeat' apply And.intro) <;> first | omega | assumption | rfl
  · obtain rfl : i = k := by omega
    simp -implicitDefEqProofs [go_sem]; (repeat refine And.intro (by first | decide +kernel | omega | kernel_rfl) ?_); (try decide +kernel)
    refine .seq (.of_fn hmo ?_); simp -implicitDefEqProofs [go_sem]; (repeat refine And.intro (by first | decide +kernel | omega | kernel_rfl) ?_); (try decide +kernel)
    refine .of_fn hmo ?_
    simp -implicitDefEqProofs [go_sem]; (repeat refine And.intro (by first | decide +kernel | omega | kernel_rfl) ?_); (try decide +kernel)
end Go.Mt
/-
  A part of the proof.
-/
set_option linter.unusedSimpArgs false
set_option linter.unusedVariables false
namespace Go.Mt
open Go Go.Pm Go.Proofs
theorem rof_p (n : Nat) (hn : n < 18446744073709551616) : PCall Tryz.prog 104 [.d (.v (.int .u64 n))] (.one (.d (.sl (les (limbs n))))) := by
  have h := rnorm_p [n % 4294967296, n / 4294967296] (small_cons (by omega) (small_cons (by omega) small_nil)) (by simp)
  have e : val [n % 4294967296, n / 4294967296] = n := by simp [val]; omega
  rw [e] at h
  simp [les, ud] at h
  have e1 : ((n : Int).tmod 4294967296) = (n : Int) % 4294967296 := rfl
  have e2 : (n : Int) / 4294967296 % 4294967296 = n / 4294967296 := by omega
  have e4 : (n : Int) / 4294967296 % 18446744073709551616 = n / 4294967296 := by omega
  refine pcall_of hmo Tryz.func104 rfl (by kernel_rfl) (by simp [Tryz.ntmps104]) ?_; simp -implicitDefEqProofs [go_sem, Tryz.ntmps104]; (repeat refine And.intro (by first | decide +kernel | omega | kernel_rfl) ?_); (try decide +kernel)
  simp -implicitDefEqProofs [go_sem, e1, e2, e4]; (repeat refine And.intro (by first | decide +kernel | omega | kernel_rfl) ?_); (try decide +kernel)
  refine .inl ⟨_, h, ?_⟩; simp -implicitDefEqProofs [go_sem]; (repeat refine And.intro (by first | decide +kernel | omega | kernel_rfl) ?_); (try decide +kernel)
  rfl
theorem limb_p (l : List Nat) (i : Nat) (hl : Small l) (hn : l.length < 4398046511104) (hi : i < 4398046511104) : PCall Tryz.prog 211 [.d (.sl (les l)), .d (.v (.int .i64 (i : Int)))] (.one (.d (.v (.int .u64 ((l[i]?.getD 0 : Nat) : Int))))) := by
  have hs := hl.get i
  by_cases h : i < l.length
  · have hz : ¬ ((l.length : Nat) : Int) ≤ (i : Int) := by omega
    have hz2 : ¬ l.length ≤ i := by omega
    have hn0 : ¬ (i : Int) < 0 := by omega
    have e : ((l[i] : Nat) : Int) % 18446744073709551616 = (l[i] : Nat) := by
      have : l[i] < 4294967296 := hl _ (List.getElem_mem h)
      omega
    refine pcall_of hmo Tryz.func211 rfl (by kernel_rfl) (by simp [Tryz.ntmps211]) ?_; simp -implicitDefEqProofs [go_sem, Tryz.ntmps211]; (repeat refine And.intro (by first | decide +kernel | omega | kernel_rfl) ?_); (try decide +kernel)
    simp -implicitDefEqProofs [go_sem, hz, hz2, hn0, h, ud, e]; (repeat refine And.intro (by first | decide +kernel | omega | kernel_rfl) ?_); (try decide +kernel)
  · have hz : ((l.length : Nat) : Int) ≤ (i : Int) := by omega
    have hz2 : l.length ≤ i := by omega
    have hn0 : ¬ (i : Int) < 0 := by omega
    refine pcall_of hmo Tryz.func211 rfl (by kernel_rfl) (by simp [Tryz.ntmps211]) ?_; simp -implicitDefEqProofs [go_sem, Tryz.ntmps211]; (repeat refine And.intro (by first | decide +kernel | omega | kernel_rfl) ?_); (try decide +kernel)
    simp -implicitDefEqProofs [go_sem, hz, hz2, hn0, h]; (repeat refine And.intro (by first | decide +kernel | omega | kernel_rfl) ?_); (try decide +kernel)
theorem rzero_p (l : List Nat) (hl : Small l) (hn : l.length < 4398046511104) : PCall Tryz.prog 162 [.d (.sl (les l))] (.one (.d (.v (.bool (decide (val l = 0)))))) := by
  refine pcall_of hmo Tryz.func162 rfl (by kernel_rfl) (by simp [Tryz.ntmps162]) ?_; simp -implicitDefEqProofs [go_sem, Tryz.ntmps162]; (repeat refine And.intro (by first | decide +kernel | omega | kernel_rfl) ?_); (try decide +kernel)
  refine loop_rule [] (fun (k : Nat) => ⟨14, [(2, .d (.v (.bool false))), (5, .d (.sl (les l))), (6, intP .i64 (l.length : Int)), (7, intP .i64 (k : Int))], [], 1000⟩)
    (fun k => k ≤ l.length ∧ allK (fun x => decide (x = 0)) l k) (fun k => l.length - k) 0 ⟨Nat.zero_le _, allK_zero _ _⟩ (by simp) (by simp -implicitDefEqProofs [go_sem]) (fun k ⟨hk, ha⟩ => ?_)
  by_cases hkl : k < l.length
  · by_cases h0 : l[k] = 0
    · have h2 : allK (fun x : Nat => decide (x = 0)) l (k + 1) := allK_succ hkl ha (decide_eq_true h0)
      simp -implicitDefEqProofs [go_sem, hkl, ud, h0]; (repeat refine And.intro (by first | decide +kernel | omega | kernel_rfl) ?_); (try decide +kernel)
      refine ⟨k + 1, ?_⟩; (repeat' apply And.intro) <;> first | omega | assumption | rfl
    · have h0z : ¬ ((l[k] : Nat) : Int) = 0 := by omega
      have hv : ¬ val l = 0 := fun e => h0 (by
        have := val_split_at (l := l) (j := k) hkl
        rw [e, List.getElem?_eq_getElem hkl] at this
        have h1 : 0 < 4294967296 ^ k := Nat.pow_pos (by decide)
        rcases Nat.eq_zero_or_pos l[k] with h | h
        · exact h
        · exfalso
          have h3 : 4294967296 ^ k * 1 ≤ 4294967296 ^ k * ((some l[k]).getD 0 + 4294967296 * val (l.drop (k + 1))) := Nat.mul_le_mul_left _ (by show 1 ≤ l[k] + _; omega)
          omega)
      simp -implicitDefEqProofs [go_sem, hkl, ud, h0, h0z]; (repeat refine And.intro (by first | decide +kernel | omega | kernel_rfl) ?_); (try decide +kernel)
      simp -implicitDefEqProofs [go_sem, hv]; (repeat refine And.intro (by first | decide +kernel | omega | kernel_rfl) ?_); (try decide +kernel)
  · obtain rfl : k = l.length := by omega
    have hv : val l = 0 := val_eq_zero fun x hx => by
      have := allK_all ha
      rw [List.all_eq_true] at this
      exact of_decide_eq_true (this x hx)
    simp -implicitDefEqProofs [go_sem, hv]; (repeat refine And.intro (by first | decide +kernel | omega | kernel_rfl) ?_); (try decide +kernel)
end Go.Mt
