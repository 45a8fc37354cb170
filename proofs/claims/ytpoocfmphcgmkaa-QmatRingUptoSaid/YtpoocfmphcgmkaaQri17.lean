/-
  A part of the proof.
-/
import Derived.Test.YtpoocfmphcgmkaaQri16
import Derived.Test.YtpoocfmphcgmkaaQri11
import Derived.Test.YtpoocfmphcgmkaaQri13
set_option linter.unusedVariables false
set_option linter.unusedSimpArgs false
set_option linter.unusedSimpArgs false
set_option linter.unusedVariables false
namespace Go.Mt
open Go Go.Pm Go.Proofs
theorem div_ok (l m : List Nat) (hl : Small l) (hm : Small m) (hln : l.length < 1099511627776) (hmn : m.length < 1099511627776) (h0 : 0 < val m) :
    PCall Try.prog 73 [.d (.sl (les l)), .d (.sl (les m))] (.tup [.d (.sl (les (limbs (val l / val m)))), .d (.sl (les (limbs (val l % val m)))), .d (.v (.int .i64 0))]) := by
  refine pcall_of hmo Try.func73 rfl (by kernel_rfl) (by simp [Try.ntmps73]) ?_
  simp -implicitDefEqProofs [go_sem, Try.ntmps73]
  refine .inl ⟨_, trim_ok l hl (by omega), ?_⟩
  simp -implicitDefEqProofs [go_sem]
  refine .inl ⟨_, trim_ok m hm (by omega), ?_⟩
  have b1 := nl_val hl
  have b2 := nl_val hm
  obtain ⟨x, hx⟩ : ∃ x, val l = x := ⟨_, rfl⟩
  obtain ⟨y, hy⟩ : ∃ y, val m = y := ⟨_, rfl⟩
  rw [hx] at b1
  rw [hy] at b2 h0
  rw [hx, hy]
  have hy0 := nl_pos h0
  have hy1 : ¬ nl y = 0 := by omega
  have hy2 : ¬ (nl y : Int) = 0 := by omega
  have hcmp := cmp_ok (limbs x) (limbs y) (small_limbs x) (small_limbs y) (by rw [length_limbs]; omega) (by rw [length_limbs]; omega)
  rw [val_limbs, val_limbs] at hcmp
  simp -implicitDefEqProofs [go_sem, length_limbs, hy1, hy2]
  refine .inl ⟨_, hcmp, ?_⟩
  by_cases hlt : x < y
  · have hc : cmpZ x y < 0 := by simp [cmpZ, hlt]
    have hown := own_ok (limbs x) (small_limbs x) (by rw [length_limbs]; omega)
    rw [val_limbs] at hown
    simp -implicitDefEqProofs [go_sem, hc]
    refine .inl ⟨_, hown, ?_⟩
    simp -implicitDefEqProofs [go_sem, Nat.div_eq_of_lt hlt, Nat.mod_eq_of_lt hlt, limbs_zero, les_nil]
  · have hc : ¬ cmpZ x y < 0 := by unfold cmpZ; rw [if_neg hlt]; split <;> omega
    by_cases h1 : nl y = 1
    · obtain ⟨g1, g2, g3⟩ := one_limb h1
      have hg : (les (limbs y))[0]? = some [ud y] := by rw [les_get (by rw [length_limbs]; omega), g1]
      have e0 : ∀ h : 0 < (limbs y).length, (limbs y)[0]'h = y := fun h => by rw [List.getElem?_eq_getElem h] at g1; exact g1
      have hs := short_ok (limbs x) y (small_limbs x) (by rw [length_limbs]; omega) g2 g3
      rw [val_limbs] at hs
      have hr : x % y < y := Nat.mod_lt _ g2
      have hof := of_ok (x % y) (by omega)
      obtain ⟨r, hrr⟩ : ∃ r, x % y = r := ⟨_, rfl⟩
      obtain ⟨q, hqq⟩ : ∃ q, x / y = q := ⟨_, rfl⟩
      rw [hrr] at hs hof hr
      rw [hqq] at hs
      rw [hrr, hqq]
      have e1 : (r : Int) % 18446744073709551616 = r := by omega
      simp -implicitDefEqProofs [go_sem, hc, length_limbs, h1, hg, e0]
      refine .inl ⟨_, hs, ?_⟩
      simp -implicitDefEqProofs [go_sem, ud, e1]
      refine .inl ⟨_, hof, ?_⟩
      simp -implicitDefEqProofs [go_sem]
    · have h1' : ¬ (nl y : Int) = 1 := by omega
      simp -implicitDefEqProofs [go_sem, hc, length_limbs, h1, h1']
      refine .inl ⟨_, long_ok x y (by omega) (by omega) (by omega), ?_⟩
      simp -implicitDefEqProofs [go_sem]
theorem gcd_ok (l m : List Nat) (hl : Small l) (hm : Small m) (hln : l.length < 1099511627776) (hmn : m.length < 1099511627776) :
    PCall Try.prog 74 [.d (.sl (les l)), .d (.sl (les m))] (.one (.d (.sl (les (limbs (Nat.gcd (val l) (val m))))))) := by
  refine pcall_of hmo Try.func74 rfl (by kernel_rfl) (by simp [Try.ntmps74]) ?_
  simp -implicitDefEqProofs [go_sem, Try.ntmps74]
  refine .inl ⟨_, own_ok l hl (by omega), ?_⟩
  simp -implicitDefEqProofs [go_sem]
  refine .inl ⟨_, own_ok m hm (by omega), ?_⟩
  have b1 := nl_val hl
  have b2 := nl_val hm
  obtain ⟨x, hx⟩ : ∃ x, val l = x := ⟨_, rfl⟩
  obtain ⟨y, hy⟩ : ∃ y, val m = y := ⟨_, rfl⟩
  rw [hx] at b1
  rw [hy] at b2
  rw [hx, hy]
  simp -implicitDefEqProofs [go_sem]
  refine loop_rule [] (fun (p : Nat × Nat) => ⟨26, [(0, .d (.sl (les (limbs p.1)))), (1, .d (.sl (les (limbs p.2))))], [], 1000⟩) (fun p => nl p.1 < 1099511627776 ∧ nl p.2 < 1099511627776 ∧ Nat.gcd p.1 p.2 = Nat.gcd x y) (fun p => p.2) (x, y) ⟨by show nl x < _; omega, by show nl y < _; omega, rfl⟩ (by simp) (by simp -implicitDefEqProofs [go_sem]) (fun ⟨a, b⟩ ⟨h1, h2, h3⟩ => ?_)
  dsimp only at h1 h2 h3 ⊢
  by_cases hb : b = 0
  · subst hb
    have hown := own_ok (limbs a) (small_limbs a) (by rw [length_limbs]; omega)
    rw [val_limbs] at hown
    rw [Nat.gcd_zero_right] at h3
    simp -implicitDefEqProofs [go_sem, limbs_zero, les_nil]
    refine .inl ⟨_, hown, ?_⟩
    simp -implicitDefEqProofs [go_sem, h3]
  · have hn := nl_pos (n := b) (by omega)
    have hdiv := div_ok (limbs a) (limbs b) (small_limbs a) (small_limbs b) (by rw [length_limbs]; omega) (by rw [length_limbs]; omega) (by rw [val_limbs]; omega)
    rw [val_limbs, val_limbs] at hdiv
    simp -implicitDefEqProofs [go_sem, length_limbs, hn]
    refine .inl ⟨_, hdiv, ?_⟩
    simp -implicitDefEqProofs [go_sem]
    have hlt := Nat.mod_lt a (show 0 < b by omega)
    refine ⟨b, a % b, ⟨h2, ?_, ?_⟩, hlt, rfl, rfl⟩
    · have := nl_mono (Nat.le_of_lt hlt); omega
    · rw [← h3, Nat.gcd_comm b, ← Nat.gcd_rec, Nat.gcd_comm]
end Go.Mt
