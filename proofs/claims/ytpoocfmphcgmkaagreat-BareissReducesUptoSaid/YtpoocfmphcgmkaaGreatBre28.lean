/-
  A part of the proof.
-/
import Derived.Test.YtpoocfmphcgmkaaGreatBre27
import Derived.Test.YtpoocfmphcgmkaaGreatBre11
set_option linter.unusedVariables false
set_option linter.unusedSimpArgs false
set_option linter.unusedSimpArgs false
set_option linter.unusedVariables false
namespace Go.Mt
open Go Go.Pm Go.Proofs
theorem val_zeros (k : Nat) (l : List Nat) : val (List.replicate k 0 ++ l) = 4294967296 ^ k * val l := by
  induction k with
  | zero => simp
  | succ k ih =>
    show 0 + 4294967296 * val (List.replicate k 0 ++ l) = _
    rw [ih, Nat.pow_succ]
    rw [Nat.zero_add, Nat.mul_left_comm, Nat.mul_assoc]
set_option maxRecDepth 100000 in
theorem rleft_p (l : List Nat) (n : Nat) (hl : Small l) (hln : l.length < 274877906944) (hn : n < 4398046511104) : PCall Tryz.prog 222 [.d (.sl (les l)), .d (.v (.int .i64 (n : Int)))] (.one (.d (.sl (les (limbs (val l * 2 ^ n)))))) := by
  have hno := rnorm_p l hl (by omega)
  have b1 := nl_val hl
  have hlim := val_limbs (val l)
  have hsl := small_limbs (val l)
  have hll := length_limbs (val l)
  generalize val l = x at *
  obtain ⟨k, hk⟩ : ∃ k, k = n / 32 := ⟨_, rfl⟩
  obtain ⟨r, hr⟩ : ∃ r, r = n % 32 := ⟨_, rfl⟩
  have hr32 : r < 32 := by omega
  have hw : 2 ^ r < 4294967296 := by
    have : 2 ^ r ≤ 2 ^ 31 := Nat.pow_le_pow_right (by decide) (by omega)
    have : (2 : Nat) ^ 31 = 2147483648 := by decide
    omega
  have hs := rsmall_p (List.replicate k 0 ++ limbs x) (2 ^ r) (by
    intro y hy
    rcases List.mem_append.1 hy with h | h
    · rw [List.mem_replicate] at h; omega
    · exact hsl y h) hw (by simp; omega)
  have e : val (List.replicate k 0 ++ limbs x) * 2 ^ r = x * 2 ^ n := by
    rw [val_zeros, hlim, Nat.mul_right_comm]
    have e1 : (4294967296 : Nat) ^ k = 2 ^ (32 * k) := by rw [Nat.pow_mul]
    rw [e1, ← Nat.pow_add, show 32 * k + r = n by omega, Nat.mul_comm]
  rw [e] at hs
  have e2 : List.replicate k [D.v (.int .u32 0)] ++ les (limbs x) = les (List.replicate k 0 ++ limbs x) := by simp [les, ud]
  have e3 : (n : Int).tdiv 32 = (k : Int) := by rw [hk]; rfl
  have e3' : (n : Int) / 32 = (k : Int) := by omega
  have e4 : (n : Int).tmod 32 = (r : Int) := by rw [hr]; rfl
  have e5 : ((n : Int).tmod 32 % 18446744073709551616).toNat = r := by rw [e4]; omega
  have e6 : min r 32 = r := by omega
  obtain ⟨p, hp⟩ : ∃ p, p = 2 ^ r := ⟨_, rfl⟩
  rw [← hp] at hs hw
  have hpz : (2 : Int) ^ r = (p : Int) := by rw [hp]; simp
  have e7 : (2 : Int) ^ r % 4294967296 = (p : Int) := by rw [hpz]; omega
  refine pcall_of hmo Tryz.func222 rfl (by kernel_rfl) (by simp [Tryz.ntmps222]) ?_; simp -implicitDefEqProofs [go_sem, Tryz.ntmps222]; (repeat refine And.intro (by first | decide +kernel | omega | kernel_rfl) ?_); (try decide +kernel)
  simp -implicitDefEqProofs [go_sem, e3, e3']; (repeat refine And.intro (by first | decide +kernel | omega | kernel_rfl) ?_); (try decide +kernel)
  refine .inl ⟨_, hno, ?_⟩; simp -implicitDefEqProofs [go_sem, e3, e3', e2, e5, e6, e7]; (repeat refine And.intro (by first | decide +kernel | omega | kernel_rfl) ?_); (try decide +kernel)
  refine .inl ⟨_, hs, ?_⟩; simp -implicitDefEqProofs [go_sem]; (repeat refine And.intro (by first | decide +kernel | omega | kernel_rfl) ?_); (try decide +kernel)
end Go.Mt
/-
  A part of the proof.
-/
set_option linter.unusedSimpArgs false
set_option linter.unusedVariables false
namespace Go.Mt
open Go Go.Pm Go.Proofs
theorem odd_low {x : Nat} (hx : 0 < x) : (limbs x)[0]?.getD 0 % 2 = x % 2 := by
  have h := val_odd (l := limbs x) (by rw [length_limbs]; exact nl_pos hx)
  rw [val_limbs] at h; exact h
theorem low_get {x : Nat} (hx : 0 < x) : ∃ w, (∀ h : 0 < (limbs x).length, (limbs x)[0]'h = w) ∧ w % 2 = x % 2 ∧ w < 4294967296 := by
  refine ⟨(limbs x)[0]?.getD 0, fun h => by rw [List.getElem?_eq_getElem h]; rfl, odd_low hx, (small_limbs x).get 0⟩
theorem blen_nl (n : Nat) : blen n ≤ 32 * nl n := by
  have h := lt_pow_nl n
  have e : (4294967296 : Nat) ^ nl n = 2 ^ (32 * nl n) := by rw [Nat.pow_mul]
  rw [e] at h
  exact blen_le_of_lt h
theorem half_n (x : Nat) (h : nl x < 1099511627776) : PCall Tryz.prog 221 [.d (.sl (les (limbs x)))] (.one (.d (.sl (les (limbs (x / 2)))))) := by
  have := rhalf_p (limbs x) (small_limbs x) (by rw [length_limbs]; exact h)
  rwa [val_limbs] at this
theorem rcmp_n (x y : Nat) (h : nl x < 1099511627776) (h2 : nl y < 1099511627776) : PCall Tryz.prog 179 [.d (.sl (les (limbs x))), .d (.sl (les (limbs y)))] (.one (.d (.v (.int .i64 (cmpZ x y))))) := by
  have := rcmp_p (limbs x) (limbs y) (small_limbs x) (small_limbs y) (by rw [length_limbs]; exact h) (by rw [length_limbs]; exact h2)
  rwa [val_limbs, val_limbs] at this
theorem rsub_n (x y : Nat) (h : nl x < 1099511627776) (hyx : y ≤ x) : PCall Tryz.prog 180 [.d (.sl (les (limbs x))), .d (.sl (les (limbs y)))] (.one (.d (.sl (les (limbs (x - y)))))) := by
  have := rsub_p (limbs x) (limbs y) (small_limbs x) (small_limbs y) (by rw [length_limbs]; exact h) (by rw [length_limbs, length_limbs]; exact nl_mono hyx) (by rw [val_limbs, val_limbs]; exact hyx)
  rwa [val_limbs, val_limbs] at this
theorem nl_ne {x : Nat} (h : 0 < x) : ¬ nl x = 0 := by have := nl_pos h; omega
set_option maxHeartbeats 4000000 in
theorem rgcd_p (l m : List Nat) (hl : Small l) (hm : Small m) (hln : l.length < 137438953472) (hmn : m.length < 137438953472) : PCall Tryz.prog 200 [.d (.sl (les l)), .d (.sl (les m))] (.one (.d (.sl (les (limbs (Nat.gcd (val l) (val m))))))) := by
  have b1 := nl_val hl
  have b2 := nl_val hm
  have n1 := rnorm_p l hl (by omega)
  have n2 := rnorm_p m hm (by omega)
  generalize val l = x at *
  generalize val m = y at *
  by_cases hx0 : x = 0
  · subst hx0
    rw [Nat.gcd_zero_left]
    refine pcall_of hmo Tryz.func200 rfl (by kernel_rfl) (by simp [Tryz.ntmps200]) ?_; simp -implicitDefEqProofs [go_sem, Tryz.ntmps200]; (repeat refine And.intro (by first | decide +kernel | omega | kernel_rfl) ?_); (try decide +kernel)
    refine .inl ⟨_, n1, ?_⟩; simp -implicitDefEqProofs [go_sem]; (repeat refine And.intro (by first | decide +kernel | omega | kernel_rfl) ?_); (try decide +kernel)
    refine .inl ⟨_, n2, ?_⟩; simp -implicitDefEqProofs [go_sem, length_limbs, nl_zero]; (repeat refine And.intro (by first | decide +kernel | omega | kernel_rfl) ?_); (try decide +kernel)
  have hx := nl_pos (n := x) (by omega)
  have hxz : ¬ nl x = 0 := by omega
  have hxi : ¬ (nl x : Int) = 0 := by omega
  by_cases hy0 : y = 0
  · subst hy0
    rw [Nat.gcd_zero_right]
    refine pcall_of hmo Tryz.func200 rfl (by kernel_rfl) (by simp [Tryz.ntmps200]) ?_; simp -implicitDefEqProofs [go_sem, Tryz.ntmps200]; (repeat refine And.intro (by first | decide +kernel | omega | kernel_rfl) ?_); (try decide +kernel)
    refine .inl ⟨_, n1, ?_⟩; simp -implicitDefEqProofs [go_sem]; (repeat refine And.intro (by first | decide +kernel | omega | kernel_rfl) ?_); (try decide +kernel)
    refine .inl ⟨_, n2, ?_⟩; simp -implicitDefEqProofs [go_sem, length_limbs, nl_zero, hxz, hxi]; (repeat refine And.intro (by first | decide +kernel | omega | kernel_rfl) ?_); (try decide +kernel)
  have hy := nl_pos (n := y) (by omega)
  have hyz : ¬ nl y = 0 := by omega
  have hyi : ¬ (nl y : Int) = 0 := by omega
  refine pcallS_of Tryz.func200 rfl (by kernel_rfl) (by simp [Tryz.ntmps200]) ?_; rw [Tryz.ntmps200]
  refine .seq (.of_fn hmo ?_); simp -implicitDefEqProofs [go_sem]; (repeat refine And.intro (by first | decide +kernel | omega | kernel_rfl) ?_); (try decide +kernel)
  refine .seq (.of_fn hmo ?_)
  simp -implicitDefEqProofs [go_sem]; (repeat refine And.intro (by first | decide +kernel | omega | kernel_rfl) ?_); (try decide +kernel)
  refine .inl ⟨_, n1, ?_⟩; simp -implicitDefEqProofs [go_sem]; (repeat refine And.intro (by first | decide +kernel | omega | kernel_rfl) ?_); (try decide +kernel)
  refine .inl ⟨_, n2, ?_⟩; simp -implicitDefEqProofs [go_sem]; (repeat refine And.intro (by first | decide +kernel | omega | kernel_rfl) ?_); (try decide +kernel)
  refine .seq (.of_fn hmo ?_); simp -implicitDefEqProofs [go_sem, length_limbs, hxz, hxi]; (repeat refine And.intro (by first | decide +kernel | omega | kernel_rfl) ?_); (try decide +kernel)
  refine .seq (.of_fn hmo ?_); simp -implicitDefEqProofs [go_sem, length_limbs, hyz, hyi]; (repeat refine And.intro (by first | decide +kernel | omega | kernel_rfl) ?_); (try decide +kernel)
  refine .seq (.of_fn hmo ?_); simp -implicitDefEqProofs [go_sem]; (repeat refine And.intro (by first | decide +kernel | omega | kernel_rfl) ?_); (try decide +kernel)
  -- both even
  refine .cuts (fun (p : Nat × Nat × Nat) => ⟨78, [(0, .d (.sl (les (limbs p.1)))), (1, .d (.sl (les (limbs p.2.1)))), (5, intP .i64 (p.2.2 : Int))], [], 2000⟩)
    (fun p => 0 < p.1 ∧ 0 < p.2.1 ∧ p.1 ≤ x ∧ p.2.1 ≤ y ∧ Nat.gcd x y = 2 ^ p.2.2 * Nat.gcd p.1 p.2.1 ∧ (p.1 % 2 = 1 ∨ p.2.1 % 2 = 1) ∧ p.2.2 ≤ 32 * nl x) (.of_fn hmo ?_) (fun ⟨a0, b0, t⟩ ⟨ha0, hb0, hax, hby, hg, hodd, htx⟩ => ?_)
  · simp -implicitDefEqProofs [go_sem]; (repeat refine And.intro (by first | decide +kernel | omega | kernel_rfl) ?_); (try decide +kernel)
    refine loop_rule [] (fun (p : Nat × Nat × Nat) => ⟨78, [(0, .d (.sl (les (limbs p.1)))), (1, .d (.sl (les (limbs p.2.1)))), (5, intP .i64 (p.2.2 : Int))], [], 1000⟩)
      (fun p => 0 < p.1 ∧ 0 < p.2.1 ∧ p.1 * 2 ^ p.2.2 ≤ x ∧ p.2.1 ≤ y ∧ Nat.gcd x y = 2 ^ p.2.2 * Nat.gcd p.1 p.2.1) (fun p => p.1) (x, y, 0) ⟨show 0 < x by omega, show 0 < y by omega, by simp, Nat.le_refl _, by simp⟩ (by simp) (by simp -implicitDefEqProofs [go_sem]) (fun ⟨a, b, t⟩ ⟨ha, hb, hax, hby, hg⟩ => ?_)
    dsimp only at ha hb hax hby hg ⊢
    have hp1 : 0 < 2 ^ t := Nat.pow_pos (by decide)
    have hax2 : a ≤ x := Nat.le_trans (Nat.le_mul_of_pos_right _ hp1) hax
    have ht : t ≤ 32 * nl x := by
      have h1 : 2 ^ t ≤ x := Nat.le_trans (Nat.le_mul_of_pos_left _ ha) hax
      have h2 := blen_nl x
      have h3 := lt_pow_blen x
      have h4 : t < blen x := (Nat.pow_lt_pow_iff_right (by decide)).1 (Nat.lt_of_le_of_lt h1 h3)
      omega
    have nla := nl_mono hax2
    have nlb := nl_mono hby
    obtain ⟨w, gw, ow, lw⟩ := low_get ha
    obtain ⟨v, gv, ov, lv⟩ := low_get hb
    have hla : 0 < (limbs a).length := by rw [length_limbs]; exact nl_pos ha
    have hlb : 0 < (limbs b).length := by rw [length_limbs]; exact nl_pos hb
    by_cases hwe : w % 2 = 0
    · have ew : (w : Int).tmod 2 = 0 := by show ((w % 2 : Nat) : Int) = 0; omega
      have ew2 : (w : Int) % 2 = 0 := by omega
      by_cases hve : v % 2 = 0
      · have ev : (v : Int).tmod 2 = 0 := by show ((v % 2 : Nat) : Int) = 0; omega
        have h1 := half_n a (by omega)
        have h2 := half_n b (by omega)
        have hgd := gcd_half_both (a := a) (b := b) (by omega) (by omega)
        simp -implicitDefEqProofs [go_sem, gw, gv, ud, ew, ev, hla, hlb]; (repeat refine And.intro (by first | decide +kernel | omega | kernel_rfl) ?_); (try decide +kernel)
        refine .inl ⟨_, h1, ?_⟩; simp -implicitDefEqProofs [go_sem]; (repeat refine And.intro (by first | decide +kernel | omega | kernel_rfl) ?_); (try decide +kernel)
        refine .inl ⟨_, h2, ?_⟩; simp -implicitDefEqProofs [go_sem]; (repeat refine And.intro (by first | decide +kernel | omega | kernel_rfl) ?_); (try decide +kernel)
        refine ⟨a / 2, b / 2, t + 1, ⟨by omega, by omega, ?_, by omega, ?_⟩, by omega, rfl, rfl, by omega⟩
        · rw [Nat.pow_succ, Nat.mul_comm (2 ^ t), ← Nat.mul_assoc]
          exact Nat.le_trans (Nat.mul_le_mul_right _ (by omega)) hax
        · rw [hg, hgd, Nat.pow_succ, Nat.mul_assoc]
      · have ev : ¬ (v : Int).tmod 2 = 0 := by show ¬ ((v % 2 : Nat) : Int) = 0; omega
        simp -implicitDefEqProofs [go_sem, gw, gv, ud, ew, ev, hla, hlb]; (repeat refine And.intro (by first | decide +kernel | omega | kernel_rfl) ?_); (try decide +kernel)
        refine ⟨a, b, t, ⟨ha, hb, hax2, hby, hg, by omega, ht⟩, rfl, rfl, rfl⟩
    · have ew : ¬ (w : Int).tmod 2 = 0 := by show ¬ ((w % 2 : Nat) : Int) = 0; omega
      simp -implicitDefEqProofs [go_sem, gw, gv, ud, ew, hla, hlb]; (repeat refine And.intro (by first | decide +kernel | omega | kernel_rfl) ?_); (try decide +kernel)
      refine ⟨a, b, t, ⟨ha, hb, hax2, hby, hg, by omega, ht⟩, rfl, rfl, rfl⟩
  dsimp only at ha0 hb0 hax hby hg hodd htx ⊢
  have nlx0 := nl_mono hax
  have nly0 := nl_mono hby
  refine .cuts (fun (p : Nat × Nat) => ⟨78, [(0, .d (.sl (les (limbs p.1)))), (1, .d (.sl (les (limbs p.2)))), (5, intP .i64 (t : Int))], [], 6000⟩)
    (fun p => p.1 ≤ x ∧ p.2 ≤ y ∧ Nat.gcd x y = 2 ^ t * Nat.gcd p.1 p.2 ∧ (p.1 = 0 ∨ p.2 = 0))
    (.block (.loopI [] (fun (p : Nat × Nat) => ⟨78, [(0, .d (.sl (les (limbs p.1)))), (1, .d (.sl (les (limbs p.2)))), (5, intP .i64 (t : Int))], [], 3000⟩)
      (fun p => p.1 ≤ x ∧ p.2 ≤ y ∧ Nat.gcd x y = 2 ^ t * Nat.gcd p.1 p.2 ∧ (p.1 % 2 = 1 ∨ p.2 % 2 = 1)) (fun p => p.1 + p.2) (a0, b0) ⟨hax, hby, hg, hodd⟩ (by simp) (by simp -implicitDefEqProofs [go_sem]) (fun ⟨a, b⟩ ⟨hax, hby, hg, hodd⟩ => ?_))) (fun ⟨a, b⟩ ⟨hax, hby, hg, hab⟩ => ?_)
  · dsimp only at hax hby hg hodd ⊢
    have nla := nl_mono hax
    have nlb := nl_mono hby
    by_cases ha : a = 0
    · subst ha
      refine .seq (.of_fn hmo ?_)
      simp -implicitDefEqProofs [go_sem, length_limbs, nl_zero]; (repeat refine And.intro (by first | decide +kernel | omega | kernel_rfl) ?_); (try decide +kernel)
      refine ⟨0, b, ?_⟩; (repeat' apply And.intro) <;> first | omega | assumption | rfl
    have hap := nl_pos (n := a) (by omega)
    by_cases hb : b = 0
    · subst hb
      refine .seq (.of_fn hmo ?_)
      simp -implicitDefEqProofs [go_sem, length_limbs, nl_zero, hap]; (repeat refine And.intro (by first | decide +kernel | omega | kernel_rfl) ?_); (try decide +kernel)
      refine ⟨a, 0, ?_⟩; (repeat' apply And.intro) <;> first | omega | assumption | rfl
    have hbp := nl_pos (n := b) (by omega)
    refine .seq (.of_fn hmo ?_); simp -implicitDefEqProofs [go_sem, length_limbs, hap, hbp]; (repeat refine And.intro (by first | decide +kernel | omega | kernel_rfl) ?_); (try decide +kernel)
    -- a odd
    refine .block (.cuts (fun (u : Nat) => ⟨78, [(0, .d (.sl (les (limbs u)))), (1, .d (.sl (les (limbs b)))), (5, intP .i64 (t : Int))], [], 4000⟩)
      (fun u => 0 < u ∧ u ≤ a ∧ Nat.gcd a b = Nat.gcd u b ∧ u % 2 = 1) (.of_fn hmo ?_) (fun u ⟨hu0, hua, hug, huo⟩ => ?_))
    · simp -implicitDefEqProofs [go_sem]; (repeat refine And.intro (by first | decide +kernel | omega | kernel_rfl) ?_); (try decide +kernel)
      refine loop_rule [] (fun (u : Nat) => ⟨78, [(0, .d (.sl (les (limbs u)))), (1, .d (.sl (les (limbs b)))), (5, intP .i64 (t : Int))], [], 3500⟩)
        (fun u => 0 < u ∧ u ≤ a ∧ Nat.gcd a b = Nat.gcd u b ∧ (u % 2 = 1 ∨ b % 2 = 1)) id a ⟨by omega, Nat.le_refl _, rfl, hodd⟩ (by simp) (by simp -implicitDefEqProofs [go_sem]) (fun u ⟨hu0, hua, hug, huo⟩ => ?_)
      obtain ⟨w, gw, ow, lw⟩ := low_get hu0
      have hlu : 0 < (limbs u).length := by rw [length_limbs]; exact nl_pos hu0
      have nlu := nl_mono hua
      by_cases hwe : w % 2 = 0
      · have ew : (w : Int).tmod 2 = 0 := by show ((w % 2 : Nat) : Int) = 0; omega
        have hgd := gcd_half_left (a := u) (b := b) (by omega) (by omega)
        simp -implicitDefEqProofs [go_sem, gw, ud, ew, hlu]; (repeat refine And.intro (by first | decide +kernel | omega | kernel_rfl) ?_); (try decide +kernel)
        refine .inl ⟨_, half_n u (by omega), ?_⟩; simp -implicitDefEqProofs [go_sem]; (repeat refine And.intro (by first | decide +kernel | omega | kernel_rfl) ?_); (try decide +kernel)
        refine ⟨u / 2, ?_⟩; (repeat' apply And.intro) <;> first | omega | (exact (by rw [hug, hgd])) | assumption | rfl
      · have ew : ¬ (w : Int).tmod 2 = 0 := by show ¬ ((w % 2 : Nat) : Int) = 0; omega
        simp -implicitDefEqProofs [go_sem, gw, ud, ew, hlu]; (repeat refine And.intro (by first | decide +kernel | omega | kernel_rfl) ?_); (try decide +kernel)
        refine ⟨u, ?_⟩; (repeat' apply And.intro) <;> first | omega | assumption | rfl
    refine .cuts (fun (v : Nat) => ⟨78, [(0, .d (.sl (les (limbs u)))), (1, .d (.sl (les (limbs v)))), (5, intP .i64 (t : Int))], [], 5000⟩)
      (fun v => 0 < v ∧ v ≤ b ∧ Nat.gcd u b = Nat.gcd u v ∧ v % 2 = 1) (.of_fn hmo ?_) (fun v ⟨hv0, hvb, hvg, hvo⟩ => ?_)
    · simp -implicitDefEqProofs [go_sem]; (repeat refine And.intro (by first | decide +kernel | omega | kernel_rfl) ?_); (try decide +kernel)
      refine loop_rule [] (fun (v : Nat) => ⟨78, [(0, .d (.sl (les (limbs u)))), (1, .d (.sl (les (limbs v)))), (5, intP .i64 (t : Int))], [], 4500⟩)
        (fun v => 0 < v ∧ v ≤ b ∧ Nat.gcd u b = Nat.gcd u v) id b ⟨by omega, Nat.le_refl _, rfl⟩ (by simp) (by simp -implicitDefEqProofs [go_sem]) (fun v ⟨hv0, hvb, hvg⟩ => ?_)
      obtain ⟨w, gw, ow, lw⟩ := low_get hv0
      have hlv : 0 < (limbs v).length := by rw [length_limbs]; exact nl_pos hv0
      have nlv := nl_mono hvb
      by_cases hwe : w % 2 = 0
      · have ew : (w : Int).tmod 2 = 0 := by show ((w % 2 : Nat) : Int) = 0; omega
        have hgd := gcd_half_right (a := u) (b := v) (by omega) (by omega)
        simp -implicitDefEqProofs [go_sem, gw, ud, ew, hlv]; (repeat refine And.intro (by first | decide +kernel | omega | kernel_rfl) ?_); (try decide +kernel)
        refine .inl ⟨_, half_n v (by omega), ?_⟩; simp -implicitDefEqProofs [go_sem]; (repeat refine And.intro (by first | decide +kernel | omega | kernel_rfl) ?_); (try decide +kernel)
        refine ⟨v / 2, ?_⟩; (repeat' apply And.intro) <;> first | omega | (exact (by rw [hvg, hgd])) | assumption | rfl
      · have ew : ¬ (w : Int).tmod 2 = 0 := by show ¬ ((w % 2 : Nat) : Int) = 0; omega
        simp -implicitDefEqProofs [go_sem, gw, ud, ew, hlv]; (repeat refine And.intro (by first | decide +kernel | omega | kernel_rfl) ?_); (try decide +kernel)
        refine ⟨v, ?_⟩; (repeat' apply And.intro) <;> first | omega | assumption | rfl
    have nlu := nl_mono hua
    have nlv := nl_mono hvb
    refine .seq (.of_fn hmo ?_)
    simp -implicitDefEqProofs [go_sem]; (repeat refine And.intro (by first | decide +kernel | omega | kernel_rfl) ?_); (try decide +kernel)
    refine .inl ⟨_, rcmp_n u v (by omega) (by omega), ?_⟩; simp -implicitDefEqProofs [go_sem]; (repeat refine And.intro (by first | decide +kernel | omega | kernel_rfl) ?_); (try decide +kernel)
    refine .of_fn hmo ?_
    by_cases huv : v ≤ u
    · have hc : 0 ≤ cmpZ u v := by unfold cmpZ; rw [if_neg (by omega)]; split <;> omega
      have hgs := gcd_sub_left huv
      simp -implicitDefEqProofs [go_sem, hc]; (repeat refine And.intro (by first | decide +kernel | omega | kernel_rfl) ?_); (try decide +kernel)
      refine .inl ⟨_, rsub_n u v (by omega) huv, ?_⟩; simp -implicitDefEqProofs [go_sem]; (repeat refine And.intro (by first | decide +kernel | omega | kernel_rfl) ?_); (try decide +kernel)
      refine ⟨u - v, v, ?_⟩; (repeat' apply And.intro) <;> first | omega | (exact (by rw [hg, hug, hvg, hgs])) | assumption | rfl
    · have hc : ¬ 0 ≤ cmpZ u v := by unfold cmpZ; rw [if_pos (by omega)]; omega
      have hgs := gcd_sub_right (a := u) (b := v) (by omega)
      simp -implicitDefEqProofs [go_sem, hc]; (repeat refine And.intro (by first | decide +kernel | omega | kernel_rfl) ?_); (try decide +kernel)
      refine .inl ⟨_, rsub_n v u (by omega) (by omega), ?_⟩; simp -implicitDefEqProofs [go_sem]; (repeat refine And.intro (by first | decide +kernel | omega | kernel_rfl) ?_); (try decide +kernel)
      refine ⟨u, v - u, ?_⟩; (repeat' apply And.intro) <;> first | omega | (exact (by rw [hg, hug, hvg, hgs])) | assumption | rfl
  · dsimp only at hax hby hg hab ⊢
    have nla := nl_mono hax
    have nlb := nl_mono hby
    refine .cut ⟨78, [(0, .d (.sl (les (limbs (Nat.gcd a b))))), (5, intP .i64 (t : Int))], [], 7000⟩ (.of_fn hmo ?_) ?_
    · by_cases ha : a = 0
      · subst ha
        simp -implicitDefEqProofs [go_sem, length_limbs, nl_zero, Nat.gcd_zero_left]; (repeat refine And.intro (by first | decide +kernel | omega | kernel_rfl) ?_); (try decide +kernel)
      · have hb : b = 0 := by omega
        subst hb
        have hap := nl_ne (x := a) (by omega)
        have hai : ¬ (nl a : Int) = 0 := by omega
        simp -implicitDefEqProofs [go_sem, length_limbs, hap, hai, Nat.gcd_zero_right]; (repeat refine And.intro (by first | decide +kernel | omega | kernel_rfl) ?_); (try decide +kernel)
    have hgl : Nat.gcd a b ≤ max x y := by
      rcases hab with h | h
      · subst h; rw [Nat.gcd_zero_left]; omega
      · subst h; rw [Nat.gcd_zero_right]; omega
    have nlg : nl (Nat.gcd a b) ≤ max (nl x) (nl y) := by
      have := nl_mono hgl
      by_cases h : x ≤ y
      · rw [Nat.max_eq_right h] at this; omega
      · rw [Nat.max_eq_left (by omega)] at this; omega
    have hL := rleft_p (limbs (Nat.gcd a b)) t (small_limbs _) (by rw [length_limbs]; omega) (by omega)
    rw [val_limbs, Nat.mul_comm, ← hg] at hL
    refine .seq (.of_fn hmo ?_); simp -implicitDefEqProofs [go_sem]; (repeat refine And.intro (by first | decide +kernel | omega | kernel_rfl) ?_); (try decide +kernel)
    refine .inl ⟨_, hL, ?_⟩; simp -implicitDefEqProofs [go_sem]; (repeat refine And.intro (by first | decide +kernel | omega | kernel_rfl) ?_); (try decide +kernel)
    refine .of_fn hmo ?_
    simp -implicitDefEqProofs [go_sem]; (repeat refine And.intro (by first | decide +kernel | omega | kernel_rfl) ?_); (try decide +kernel)
end Go.Mt
/-
  A part of the proof.
-/
set_option linter.unusedSimpArgs false
set_option linter.unusedVariables false
namespace Go.Mt
open Go Go.Pm Go.Proofs
theorem or_bit {m k : Nat} : m * 2 ^ (k + 1) ||| 2 ^ k = m * 2 ^ (k + 1) + 2 ^ k := by
  have h : 2 ^ k < 2 ^ (k + 1) := by rw [Nat.pow_succ]; have : 0 < 2 ^ k := Nat.pow_pos (by decide); omega
  have := Nat.two_pow_add_eq_or_of_lt h m
  rw [Nat.mul_comm m]; exact this.symm
theorem rsmall_n (x w : Nat) (hw : w < 4294967296) (h : nl x < 1099511627776) : PCall Tryz.prog 213 [.d (.sl (les (limbs x))), .d (ud w)] (.one (.d (.sl (les (limbs (x * w)))))) := by
  have := rsmall_p (limbs x) w (small_limbs x) hw (by rw [length_limbs]; exact h)
  rwa [val_limbs] at this
theorem rshift_n (x w : Nat) (hw : w < 4294967296) (h : nl x < 1099511627776) : PCall Tryz.prog 212 [.d (.sl (les (limbs x))), .d (ud w)] (.one (.d (.sl (les (limbs (w + 4294967296 * x)))))) := by
  have := rshift_p (limbs x) w (small_limbs x) hw (by rw [length_limbs]; exact h)
  rwa [val_limbs] at this
theorem nl_word (x w : Nat) (hw : w < 4294967296) : nl (x * w) ≤ nl x + 1 := Nat.le_trans (nl_mul x w) (by have : nl w ≤ 1 := nl_le_of_lt (by rw [Nat.pow_one]; exact hw); omega)
theorem nl_up (b : Nat) : nl (b * 4294967296) ≤ nl b + 1 := nl_le_of_lt (by rw [Nat.pow_succ]; exact Nat.mul_lt_mul_of_pos_right (lt_pow_nl b) (by decide))
set_option maxHeartbeats 4000000 in
theorem rdiv_p (l m : List Nat) (hl : Small l) (hm : Small m) (hln : l.length < 274877906944) (hmn : m.length < 274877906944) (h0 : 0 < val m) :
    PCall Tryz.prog 223 [.d (.sl (les l)), .d (.sl (les m))] (.tup [.d (.sl (les (limbs (val l / val m)))), .d (.sl (les (limbs (val l % val m))))]) := by
  have b1 := nl_val hl
  have b2 := nl_val hm
  have n1 := rnorm_p l hl (by omega)
  have n2 := rnorm_p m hm (by omega)
  generalize val l = x at *
  generalize val m = b at *
  have hlx := length_limbs x
  refine pcallS_of Tryz.func223 rfl (by kernel_rfl) (by simp [Tryz.ntmps223]) ?_; rw [Tryz.ntmps223]
  refine .seq (.of_fn hmo ?_); simp -implicitDefEqProofs [go_sem]; (repeat refine And.intro (by first | decide +kernel | omega | kernel_rfl) ?_); (try decide +kernel)
  refine .seq (.of_fn hmo ?_)
  simp -implicitDefEqProofs [go_sem]; (repeat refine And.intro (by first | decide +kernel | omega | kernel_rfl) ?_); (try decide +kernel)
  refine .inl ⟨_, n1, ?_⟩; simp -implicitDefEqProofs [go_sem]; (repeat refine And.intro (by first | decide +kernel | omega | kernel_rfl) ?_); (try decide +kernel)
  refine .inl ⟨_, n2, ?_⟩; simp -implicitDefEqProofs [go_sem]; (repeat refine And.intro (by first | decide +kernel | omega | kernel_rfl) ?_); (try decide +kernel)
  refine .seq (.of_fn hmo ?_); simp -implicitDefEqProofs [go_sem, hlx]; (repeat refine And.intro (by first | decide +kernel | omega | kernel_rfl) ?_); (try decide +kernel)
  refine .seq (.of_fn hmo ?_); simp -implicitDefEqProofs [go_sem]; (repeat refine And.intro (by first | decide +kernel | omega | kernel_rfl) ?_); (try decide +kernel)
  refine .seq (.of_fn hmo ?_)
  simp -implicitDefEqProofs [go_sem, hlx]; (repeat refine And.intro (by first | decide +kernel | omega | kernel_rfl) ?_); (try decide +kernel)
  have hsx := small_limbs x
  have hvx := val_limbs x
  refine loop_rule [.nilS 7] (fun (p : Nat × List Nat) => ⟨64, [(0, .d (.sl (les (limbs x)))), (1, .d (.sl (les (limbs b)))), (6, .sr 40 0), (7, .d (.sl (les (limbs (x / 4294967296 ^ p.1 % b))))), (8, intP .i64 ((p.1 : Int) - 1))], [(40, .arr ⟨190, 1, 0, false, les (List.replicate p.1 0 ++ p.2)⟩)], 1000⟩)
    (fun p => p.1 ≤ nl x ∧ p.2.length = nl x - p.1 ∧ Small p.2 ∧ val p.2 = x / 4294967296 ^ p.1 / b) (fun p => p.1) (nl x, [])
    ⟨Nat.le_refl _, by simp, small_nil, by rw [Nat.div_eq_of_lt (lt_pow_nl x), Nat.zero_div]; rfl⟩ (by simp) (by
      have e : x / 4294967296 ^ nl x = 0 := Nat.div_eq_of_lt (lt_pow_nl x)
      simp -implicitDefEqProofs [go_sem, e, limbs_zero, les_nil, les, ud]) (fun ⟨k, Q⟩ ⟨hk, hQl, hQs, hQv⟩ => ?_)
  dsimp only at hk hQl hQs hQv ⊢
  by_cases hk0 : k = 0
  · subst hk0
    rw [Nat.pow_zero, Nat.div_one] at hQv
    have e7 : x / 4294967296 ^ 0 = x := by rw [Nat.pow_zero, Nat.div_one]
    rw [e7]
    have hno := rnorm_p Q hQs (by omega)
    rw [hQv] at hno
    simp -implicitDefEqProofs [go_sem]; (repeat refine And.intro (by first | decide +kernel | omega | kernel_rfl) ?_); (try decide +kernel)
    refine .seq (.of_fn hmo ?_); simp -implicitDefEqProofs [go_sem]; (repeat refine And.intro (by first | decide +kernel | omega | kernel_rfl) ?_); (try decide +kernel)
    refine .inl ⟨_, hno, ?_⟩; simp -implicitDefEqProofs [go_sem]; (repeat refine And.intro (by first | decide +kernel | omega | kernel_rfl) ?_); (try decide +kernel)
    refine .of_fn hmo ?_
    simp -implicitDefEqProofs [go_sem]; (repeat refine And.intro (by first | decide +kernel | omega | kernel_rfl) ?_); (try decide +kernel)
  obtain ⟨j, rfl⟩ : ∃ j, k = j + 1 := ⟨k - 1, by omega⟩
  have ej : ((j + 1 : Nat) : Int) - 1 = (j : Int) := by omega
  simp only [ej]
  have hjl : j < (limbs x).length := by omega
  have hw := hsx.get j
  have hgw : ∀ h : j < (limbs x).length, (limbs x)[j]'h = (limbs x)[j]?.getD 0 := fun h => by rw [List.getElem?_eq_getElem h]; rfl
  have hst := val_div_step hsx j
  rw [hvx] at hst
  generalize (limbs x)[j]?.getD 0 = w at *
  obtain ⟨X, hX⟩ : ∃ X, x / 4294967296 ^ (j + 1) = X := ⟨_, rfl⟩
  obtain ⟨Y, hY⟩ : ∃ Y, x / 4294967296 ^ j = Y := ⟨_, rfl⟩
  rw [hX] at hst hQv
  rw [hY] at hst
  rw [hX]
  have hrem := div_rem X b w
  have hquo := div_quo X b w h0
  rw [← hst] at hrem hquo
  have hXb : X % b < b := Nat.mod_lt _ h0
  have nXb := nl_mono (Nat.le_of_lt hXb)
  obtain ⟨r, hr⟩ : ∃ r, r = w + 4294967296 * (X % b) := ⟨_, rfl⟩
  rw [← hr] at hrem hquo
  have hrB : r < b * 4294967296 := by omega
  have hrl : nl r ≤ nl b + 1 := Nat.le_trans (nl_mono (Nat.le_of_lt hrB)) (nl_up b)
  have cs := rshift_n (X % b) w hw (by omega)
  rw [← hr] at cs
  have cc := rcmp_n r b (by omega) (by omega)
  by_cases hrb : r < b
  · have hcz : cmpZ r b < 0 := by unfold cmpZ; rw [if_pos hrb]; decide
    rw [Nat.mod_eq_of_lt hrb] at hrem
    rw [Nat.div_eq_of_lt hrb, Nat.zero_add, ← hQv] at hquo
    simp -implicitDefEqProofs [go_sem, hjl, hgw]; (repeat refine And.intro (by first | decide +kernel | omega | kernel_rfl) ?_); (try decide +kernel)
    refine .inl ⟨_, cs, ?_⟩; simp -implicitDefEqProofs [go_sem]; (repeat refine And.intro (by first | decide +kernel | omega | kernel_rfl) ?_); (try decide +kernel)
    refine .inl ⟨_, cc, ?_⟩; simp -implicitDefEqProofs [go_sem, hcz]; (repeat refine And.intro (by first | decide +kernel | omega | kernel_rfl) ?_); (try decide +kernel)
    refine ⟨j, 0 :: Q, ⟨by omega, by simp; omega, small_cons (by decide) hQs, ?_⟩, by omega, ⟨?_, by omega⟩, ?_⟩
    · rw [hY, hquo]; simp [val]
    · rw [hY, ← hrem]
    · rw [List.replicate_succ']; simp
  · have hcz : ¬ cmpZ r b < 0 := by unfold cmpZ; rw [if_neg hrb]; split <;> omega
    have hdlt : r / b < 4294967296 := (Nat.div_lt_iff_lt_mul h0).2 (by rw [Nat.mul_comm]; exact hrB)
    simp -implicitDefEqProofs [go_sem, hjl, hgw]; (repeat refine And.intro (by first | decide +kernel | omega | kernel_rfl) ?_); (try decide +kernel)
    refine .inl ⟨_, cs, ?_⟩; simp -implicitDefEqProofs [go_sem]; (repeat refine And.intro (by first | decide +kernel | omega | kernel_rfl) ?_); (try decide +kernel)
    refine .inl ⟨_, cc, ?_⟩; simp -implicitDefEqProofs [go_sem, hcz]; (repeat refine And.intro (by first | decide +kernel | omega | kernel_rfl) ?_); (try decide +kernel)
    -- the digit, bit by bit
    refine loop_rule [] (fun (i : Nat) => ⟨64, [(0, .d (.sl (les (limbs x)))), (1, .d (.sl (les (limbs b)))), (6, .sr 40 0), (7, .d (.sl (les (limbs r)))), (8, intP .i64 (j : Int)), (9, .d (ud (r / b / 2 ^ i * 2 ^ i))), (10, intP .i64 ((i : Int) - 1))], [(40, .arr ⟨190, 1, 0, false, les (List.replicate (j + 1) 0 ++ Q)⟩)], 2000⟩)
      (fun i => i ≤ 32) id 32 (by decide) (by simp) (by
        have e : r / b / 2 ^ 32 = 0 := Nat.div_eq_of_lt hdlt
        simp -implicitDefEqProofs [go_sem, ud]; omega) (fun i hi => ?_)
    by_cases hi0 : i = 0
    · subst hi0
      have e0 : r / b / 2 ^ 0 * 2 ^ 0 = r / b := by simp
      rw [e0]
      obtain ⟨q, hq⟩ : ∃ q, q = r / b := ⟨_, rfl⟩
      have hqr : b * q ≤ r := hq ▸ Nat.mul_div_le r b
      have hqm : r - b * q = r % b := by have := Nat.div_add_mod r b; rw [← hq] at this; omega
      rw [← hq] at hquo hdlt ⊢
      rw [← hQv] at hquo
      have cm := rsmall_n b q hdlt (by omega)
      have csb := rsub_n r (b * q) (by omega) hqr
      rw [hqm] at csb
      have gO : (les (List.replicate (j + 1) 0 ++ Q))[j]? = some [ud 0] := by
        rw [les_get (by simp; omega), List.getElem?_append_left (by simp)]; simp
      have lO : j < (les (List.replicate (j + 1) 0 ++ Q)).length := by simp [les_len]; omega
      have sO : (les (List.replicate (j + 1) 0 ++ Q)).set j [D.v (.int .u32 (q : Int))] = les (List.replicate j 0 ++ q :: Q) := by
        have : (List.replicate (j + 1) 0 ++ Q).set j q = List.replicate j 0 ++ q :: Q := by
          rw [List.replicate_succ', List.append_assoc, List.set_append_right _ _ (by simp)]; simp
        rw [← this]; exact les_set _ _ _
      have lO2 : j < j + 1 + Q.length := by omega
      simp -implicitDefEqProofs [go_sem, gO, lO, lO2, sO, ud]; (repeat refine And.intro (by first | decide +kernel | omega | kernel_rfl) ?_); (try decide +kernel)
      refine .inl ⟨_, cm, ?_⟩; simp -implicitDefEqProofs [go_sem]; (repeat refine And.intro (by first | decide +kernel | omega | kernel_rfl) ?_); (try decide +kernel)
      refine .inl ⟨_, csb, ?_⟩; simp -implicitDefEqProofs [go_sem]; (repeat refine And.intro (by first | decide +kernel | omega | kernel_rfl) ?_); (try decide +kernel)
      refine ⟨j, q :: Q, ⟨by omega, by simp; omega, small_cons hdlt hQs, ?_⟩, by omega, ⟨?_, by omega⟩, rfl⟩
      · rw [hY, hquo]; simp [val]
      · rw [hY, ← hrem]
    · obtain ⟨t, rfl⟩ : ∃ t, i = t + 1 := ⟨i - 1, by omega⟩
      have et : ((t + 1 : Nat) : Int) - 1 = (t : Int) := by omega
      simp only [et]
      obtain ⟨d, hd⟩ : ∃ d, d = r / b / 2 ^ (t + 1) * 2 ^ (t + 1) := ⟨_, rfl⟩
      have hdle : d ≤ r / b := by rw [hd]; exact Nat.div_mul_le_self _ _
      have hstep := bit_step (r := r) (b := b) (k := t) h0
      have hstay := bit_stay (r := r) (b := b) (k := t) h0
      have hor := or_bit (m := r / b / 2 ^ (t + 1)) (k := t)
      rw [← hd] at hstep hstay hor
      have hp : 2 ^ t < 4294967296 := by
        have : 2 ^ t ≤ 2 ^ 31 := Nat.pow_le_pow_right (by decide) (by omega)
        have : (2 : Nat) ^ 31 = 2147483648 := by decide
        omega
      obtain ⟨p, hpp⟩ : ∃ p, p = 2 ^ t := ⟨_, rfl⟩
      have hpz : (2 : Int) ^ t = (p : Int) := by rw [hpp]; simp
      rw [← hpp] at hstep hstay hor hp
      have hso : d + p < 4294967296 := by
        rw [← hor]
        have e : (4294967296 : Nat) = 2 ^ 32 := by decide
        rw [e]
        exact Nat.or_lt_two_pow (by omega) (by omega)
      have hO := bOr32 (x := d) (y := p) (by omega) hp
      rw [hor] at hO
      have e1 : (t : Int) % 18446744073709551616 = t := by omega
      have e2 : min t 32 = t := by omega
      have e3 : (2 : Int) ^ t % 4294967296 = (p : Int) := by rw [hpz]; omega
      rw [← hd]
      have cm := rsmall_n b (d + p) hso (by omega)
      have nlm := nl_word b (d + p) hso
      have cc2 := rcmp_n (b * (d + p)) r (by omega) (by omega)
      obtain ⟨s, hs⟩ : ∃ s, s = d + p := ⟨_, rfl⟩
      rw [← hs] at hO cm cc2 hstep hstay
      by_cases hle : b * s ≤ r
      · have hc : cmpZ (b * s) r ≤ 0 := by unfold cmpZ; split; omega; split <;> omega
        have hn := hstep (by rw [Nat.mul_comm]; exact hle)
        have hnz : ((r / b / 2 ^ t * 2 ^ t : Nat) : Int) = (s : Int) := by rw [← hn, hpp]
        simp at hnz
        simp -implicitDefEqProofs [go_sem, ud, e1, e2, e3, hO]; (repeat refine And.intro (by first | decide +kernel | omega | kernel_rfl) ?_); (try decide +kernel)
        refine .inl ⟨_, cm, ?_⟩; simp -implicitDefEqProofs [go_sem]; (repeat refine And.intro (by first | decide +kernel | omega | kernel_rfl) ?_); (try decide +kernel)
        refine .inl ⟨_, cc2, ?_⟩; simp -implicitDefEqProofs [go_sem, hc]; (repeat refine And.intro (by first | decide +kernel | omega | kernel_rfl) ?_); (try decide +kernel)
        refine ⟨t, ?_⟩; (repeat' apply And.intro) <;> first | omega | (exact hnz.symm) | assumption | rfl
      · have hc : ¬ cmpZ (b * s) r ≤ 0 := by unfold cmpZ; rw [if_neg (by omega), if_pos (by omega)]; decide
        have hn := hstay (by rw [Nat.mul_comm]; omega)
        have hnz : ((r / b / 2 ^ t * 2 ^ t : Nat) : Int) = (d : Int) := by rw [← hn, hpp]
        simp at hnz
        simp -implicitDefEqProofs [go_sem, ud, e1, e2, e3, hO]; (repeat refine And.intro (by first | decide +kernel | omega | kernel_rfl) ?_); (try decide +kernel)
        refine .inl ⟨_, cm, ?_⟩; simp -implicitDefEqProofs [go_sem]; (repeat refine And.intro (by first | decide +kernel | omega | kernel_rfl) ?_); (try decide +kernel)
        refine .inl ⟨_, cc2, ?_⟩; simp -implicitDefEqProofs [go_sem, hc]; (repeat refine And.intro (by first | decide +kernel | omega | kernel_rfl) ?_); (try decide +kernel)
        refine ⟨t, ?_⟩; (repeat' apply And.intro) <;> first | omega | (exact hnz.symm) | assumption | rfl
end Go.Mt
