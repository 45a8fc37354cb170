/-
  A part of the proof.
-/
import Derived.Test.YtmhclkagdpbadaaGreatEtr10
import Derived.Test.YtmhclkagdpbadaaGreatEtr11
import Derived.Test.YtmhclkagdpbadaaGreatEtr12
import Derived.Test.YtmhclkagdpbadaaGreatEtr13
import Derived.Test.YtmhclkagdpbadaaGreatEtr15
set_option linter.unusedVariables false
set_option linter.unusedSimpArgs false
set_option linter.unusedSimpArgs false
set_option linter.unusedVariables false
namespace Go.Mt
open Go Go.Pm Go.Proofs
/-- an integer as it lies, and in normal form -/
def zi (b : Bool) (l : List Nat) : D := .agg [.v (.bool b), .sl (les l)]
def ival (b : Bool) (l : List Nat) : Int := if b then -(val l : Int) else val l
def iN (z : Int) : D := zi (decide (z < 0)) (limbs z.natAbs)
theorem zi_norm (b : Bool) (n : Nat) : zi (b && decide (0 < n)) (limbs n) = iN (if b then -(n : Int) else n) := by
  unfold iN
  cases b with
  | true =>
    have : (-(n : Int)).natAbs = n := by omega
    simp only [if_true, this, Bool.true_and]
    congr 1
    simp
  | false =>
    have h : ¬ (n : Int) < 0 := by omega
    simp [h]
theorem make1_ok (b : Bool) (n : Nat) : PCall Tryz.prog 186 [.d (.v (.bool b)), .d (.sl (les (limbs n)))] (.one (.d (iN (if b then -(n : Int) else n)))) := by
  refine pcall_of hmo Tryz.func186 rfl (by kernel_rfl) (by simp [Tryz.ntmps186]) ?_
  rw [← zi_norm]
  by_cases h0 : nl n = 0
  · have hn : n = 0 := by
      rcases Nat.eq_zero_or_pos n with h | h
      · exact h
      · have := nl_pos h; omega
    subst hn
    cases b <;> simp -implicitDefEqProofs [go_sem, Tryz.ntmps186, limbs_zero, les_nil, zi]
  · have hn : 0 < n := by
      rcases Nat.eq_zero_or_pos n with h | h
      · subst h; exact absurd nl_zero h0
      · exact h
    cases b <;> simp -implicitDefEqProofs [go_sem, Tryz.ntmps186, length_limbs, h0, hn, zi]
    exact nl_pos hn
theorem sign_ok (b : Bool) (l : List Nat) (hl : Small l) (hln : l.length < 1099511627776) : PCall Tryz.prog 124 [.d (zi b l)] (.one (.d (.v (.int .i64 (ival b l).sign)))) := by
  refine pcall_of hmo Tryz.func124 rfl (by kernel_rfl) (by simp [Tryz.ntmps124]) ?_
  simp -implicitDefEqProofs [go_sem, Tryz.ntmps124, zi]
  refine .inl ⟨_, len_ok l hl hln, ?_⟩
  by_cases h0 : val l = 0
  · simp -implicitDefEqProofs [go_sem, h0, blen_zero, ival]
  · have hb : blen (val l) ≠ 0 := fun h => h0 (blen_eq_zero.1 h)
    have hb' : ¬ ((blen (val l) : Nat) : Int) = 0 := by omega
    have hp : (0 : Int) < val l := by omega
    cases b with
    | true =>
      have : (-(val l : Int)).sign = -1 := Int.sign_eq_neg_one_of_neg (by omega)
      simp -implicitDefEqProofs [go_sem, hb, hb', ival, this]
    | false =>
      have : ((val l : Int)).sign = 1 := Int.sign_eq_one_of_pos hp
      simp -implicitDefEqProofs [go_sem, hb, hb', ival, this]
/-- raw integers that a contract takes -/
def Raw (l : List Nat) : Prop := Small l ∧ l.length < 1099511627776
theorem mag (b : Bool) (l : List Nat) : (ival b l).natAbs = val l := by unfold ival; cases b <;> simp
theorem abs_ok (b : Bool) (l : List Nat) (h : Raw l) : PCall Tryz.prog 191 [.d (zi b l)] (.one (.d (iN (val l)))) := by
  refine pcall_of hmo Tryz.func191 rfl (by kernel_rfl) (by simp [Tryz.ntmps191]) ?_
  simp -implicitDefEqProofs [go_sem, Tryz.ntmps191, zi]
  refine .inl ⟨_, norm_ok l h.1 (by have := h.2; omega), ?_⟩
  simp -implicitDefEqProofs [go_sem]
  have hm := make1_ok false (val l)
  simp only [Bool.false_eq_true, if_false] at hm
  refine .inl ⟨_, hm, ?_⟩
  simp -implicitDefEqProofs [go_sem, iN, zi]
theorem make1_z (p : Bool) (n : Nat) {z : Int} (h : (if p then -(n : Int) else n) = z) : PCall Tryz.prog 186 [.d (.v (.bool p)), .d (.sl (les (limbs n)))] (.one (.d (iN z))) := h ▸ make1_ok p n
theorem neg_ok (b : Bool) (l : List Nat) (h : Raw l) : PCall Tryz.prog 192 [.d (zi b l)] (.one (.d (iN (-(ival b l))))) := by
  refine pcall_of hmo Tryz.func192 rfl (by kernel_rfl) (by simp [Tryz.ntmps192]) ?_
  simp -implicitDefEqProofs [go_sem, Tryz.ntmps192, zi]
  refine .inl ⟨_, sign_ok b l h.1 h.2, ?_⟩
  simp -implicitDefEqProofs [go_sem]
  refine .inl ⟨_, norm_ok l h.1 (by have := h.2; omega), ?_⟩
  simp -implicitDefEqProofs [go_sem]
  refine .inl ⟨_, make1_z (decide (0 < ival b l)) (val l) (z := -(ival b l)) (by unfold ival; cases b <;> simp <;> omega), ?_⟩
  simp -implicitDefEqProofs [go_sem, iN, zi]
  decide +kernel
theorem mul_zok (b c : Bool) (l k : List Nat) (h : Raw l) (h2 : Raw k) : PCall Tryz.prog 111 [.d (zi b l), .d (zi c k)] (.one (.d (iN (ival b l * ival c k)))) := by
  refine pcall_of hmo Tryz.func111 rfl (by kernel_rfl) (by simp [Tryz.ntmps111]) ?_
  simp -implicitDefEqProofs [go_sem, Tryz.ntmps111, zi]
  refine .inl ⟨_, mul_ok l k h.1 h2.1 h.2 h2.2, ?_⟩
  simp -implicitDefEqProofs [go_sem]
  refine .inl ⟨_, make1_z (b != c) (val l * val k) (z := ival b l * ival c k) (by unfold ival; cases b <;> cases c <;> simp [Int.neg_mul, Int.mul_neg]), ?_⟩
  simp -implicitDefEqProofs [go_sem, iN, zi]
  decide +kernel
theorem joined_ok (b c : Bool) (l k : List Nat) (h : Raw l) (h2 : Raw k) (hbc : b ≠ c) : PCall Tryz.prog 265 [.d (zi b l), .d (zi c k)] (.one (.d (iN (ival b l + ival c k)))) := by
  refine pcall_of hmo Tryz.func265 rfl (by kernel_rfl) (by simp [Tryz.ntmps265]) ?_
  simp -implicitDefEqProofs [go_sem, Tryz.ntmps265, zi]
  refine .inl ⟨_, cmp_ok l k h.1 h2.1 (by have := h.2; omega) (by have := h2.2; omega), ?_⟩
  by_cases hlt : val l < val k
  · have hc : cmpZ (val l) (val k) < 0 := by simp [cmpZ, hlt]
    simp -implicitDefEqProofs [go_sem, hc]
    refine .inl ⟨_, sub_ok k l h2.1 h.1 h2.2 h.2 (by omega), ?_⟩
    simp -implicitDefEqProofs [go_sem]
    refine .inl ⟨_, make1_z c (val k - val l) (z := ival b l + ival c k) (by unfold ival; cases b <;> cases c <;> simp at hbc ⊢ <;> omega), ?_⟩
    simp -implicitDefEqProofs [go_sem, iN, zi]
  · have hc : ¬ cmpZ (val l) (val k) < 0 := by unfold cmpZ; rw [if_neg hlt]; split <;> omega
    simp -implicitDefEqProofs [go_sem, hc]
    refine .inl ⟨_, sub_ok l k h.1 h2.1 h.2 h2.2 (by omega), ?_⟩
    simp -implicitDefEqProofs [go_sem]
    refine .inl ⟨_, make1_z b (val l - val k) (z := ival b l + ival c k) (by unfold ival; cases b <;> cases c <;> simp at hbc ⊢ <;> omega), ?_⟩
    simp -implicitDefEqProofs [go_sem, iN, zi]
theorem add_zok (b c : Bool) (l k : List Nat) (h : Raw l) (h2 : Raw k) : PCall Tryz.prog 222 [.d (zi b l), .d (zi c k)] (.one (.d (iN (ival b l + ival c k)))) := by
  refine pcall_of hmo Tryz.func222 rfl (by kernel_rfl) (by simp [Tryz.ntmps222]) ?_
  by_cases hbc : b = c
  · subst hbc
    simp -implicitDefEqProofs [go_sem, Tryz.ntmps222, zi]
    refine .inl ⟨_, add_ok l k h.1 h2.1 h.2 h2.2, ?_⟩
    simp -implicitDefEqProofs [go_sem]
    refine .inl ⟨_, make1_z b (val l + val k) (z := ival b l + ival b k) (by unfold ival; cases b <;> simp <;> omega), ?_⟩
    simp -implicitDefEqProofs [go_sem, iN, zi]
    decide +kernel
  · have hbc' : (b == c) = false := by simpa using hbc
    simp -implicitDefEqProofs [go_sem, Tryz.ntmps222, zi, hbc, hbc']
    have hj := joined_ok b c l k h h2 hbc
    simp only [zi] at hj
    refine .inl ⟨_, hj, ?_⟩
    simp -implicitDefEqProofs [go_sem, iN, zi]
end Go.Mt
/-
  A part of the proof.
-/
set_option linter.unusedSimpArgs false
set_option linter.unusedVariables false
namespace Go.Mt
open Go Go.Pm Go.Proofs
theorem ival_iN (z : Int) : ival (decide (z < 0)) (limbs z.natAbs) = z := by
  unfold ival
  rw [val_limbs]
  by_cases h : z < 0 <;> simp [h] <;> omega
theorem raw_limbs {n : Nat} (h : nl n < 1099511627776) : Raw (limbs n) := ⟨small_limbs n, by rw [length_limbs]; exact h⟩
theorem sub_zok (b c : Bool) (l k : List Nat) (h : Raw l) (h2 : Raw k) : PCall Tryz.prog 224 [.d (zi b l), .d (zi c k)] (.one (.d (iN (ival b l - ival c k)))) := by
  refine pcall_of hmo Tryz.func224 rfl (by kernel_rfl) (by simp [Tryz.ntmps224]) ?_
  have hn := neg_ok c k h2
  have hr : Raw (limbs (-(ival c k)).natAbs) := by
    refine raw_limbs ?_
    rw [Int.natAbs_neg, mag]
    have := nl_val h2.1
    have := h2.2
    omega
  have ha := add_zok b (decide (-(ival c k) < 0)) l (limbs (-(ival c k)).natAbs) h hr
  rw [ival_iN, ← Int.sub_eq_add_neg] at ha
  have hn' : PCall Tryz.prog 192 [.d (.agg [.v (.bool c), .sl (les k)])] (.one (.d (.agg [.v (.bool (decide (-(ival c k) < 0))), .sl (les (limbs (-(ival c k)).natAbs))]))) := hn
  have ha' : PCall Tryz.prog 222 [.d (.agg [.v (.bool b), .sl (les l)]), .d (.agg [.v (.bool (decide (-(ival c k) < 0))), .sl (les (limbs (-(ival c k)).natAbs))])] (.one (.d (iN (ival b l - ival c k)))) := ha
  generalize decide (-(ival c k) < 0) = d1 at hn' ha'
  generalize limbs (-(ival c k)).natAbs = d2 at hn' ha'
  simp -implicitDefEqProofs [go_sem, Tryz.ntmps224, zi]
  refine .inl ⟨_, hn', ?_⟩
  simp -implicitDefEqProofs [go_sem]
  refine .inl ⟨_, ha', ?_⟩
  simp -implicitDefEqProofs [go_sem, iN, zi]
  decide +kernel
theorem of_zok (z : Int) (h1 : -9223372036854775808 ≤ z) (h2 : z ≤ 9223372036854775807) : PCall Tryz.prog 105 [.d (.v (.int .i64 z))] (.one (.d (iN z))) := by
  refine pcall_of hmo Tryz.func105 rfl (by kernel_rfl) (by simp [Tryz.ntmps105]) ?_
  by_cases h : z < 0
  · obtain ⟨n, hn⟩ : ∃ n : Nat, n = z.natAbs := ⟨_, rfl⟩
    have e3 : (-(z + 1) + 1) % 18446744073709551616 = (n : Int) := by omega
    have hof := of_ok n (by omega)
    simp -implicitDefEqProofs [go_sem, Tryz.ntmps105, h]
    rw [e3]
    refine ⟨by omega, by omega, .inl ⟨_, hof, ?_⟩⟩
    simp -implicitDefEqProofs [go_sem]
    refine .inl ⟨_, make1_z true n (z := z) (by simp; omega), ?_⟩
    simp -implicitDefEqProofs [go_sem, iN, zi]
  · obtain ⟨n, rfl⟩ : ∃ n : Nat, z = n := ⟨z.natAbs, by omega⟩
    have e2 : (n : Int) % 18446744073709551616 = n := by omega
    have hof := of_ok n (by omega)
    simp -implicitDefEqProofs [go_sem, Tryz.ntmps105, h, e2]
    refine .inl ⟨_, hof, ?_⟩
    simp -implicitDefEqProofs [go_sem]
    refine .inl ⟨_, make1_z false n (z := (n : Int)) (by simp), ?_⟩
    simp -implicitDefEqProofs [go_sem, iN, zi]
end Go.Mt
/-
  A part of the proof.
-/
set_option linter.unusedSimpArgs false
set_option linter.unusedVariables false
namespace Go.Mt
open Go Go.Pm Go.Proofs
abbrev ZR := Bool × List Nat
def zel (p : ZR) : List D := [.v (.bool p.1), .sl (les p.2)]
def zes (l : List ZR) : List (List D) := l.map zel
@[go_sem] theorem zes_len (l : List ZR) : (zes l).length = l.length := by simp [zes]
@[go_sem] theorem zes_ge {l : List ZR} {i : Nat} (h : i < (zes l).length) : (zes l)[i] = zel (l[i]'(by rw [zes_len] at h; exact h)) := by simp [zes]
def nrm (z : Int) : ZR := (decide (z < 0), limbs z.natAbs)
def ofR (p : ZR) : Int := ival p.1 p.2
theorem ofR_nrm (z : Int) : ofR (nrm z) = z := ival_iN z
/-- an operation over a list, from a number on -/
theorem folded_ok {g : FuncId} {f : Int → Int → Int} {I : Int → Prop} (hI : ∀ z, I z → nl z.natAbs < 1099511627776) (l : List ZR) (hl : ∀ p ∈ l, Raw p.2) (hn : l.length < 1099511627776)
    (hg : ∀ (a x : ZR), Raw a.2 → I (ofR a) → x ∈ l → PCall Tryz.prog g [.d (zi a.1 a.2), .d (zi x.1 x.2)] (.one (.d (iN (f (ofR a) (ofR x))))) ∧ I (f (ofR a) (ofR x))) (a : ZR) (ha : Raw a.2) (hIa : I (ofR a)) (hne : l ≠ []) :
    PCall Tryz.prog 188 [.d (zi a.1 a.2), .d (.sl (zes l)), .fn g []] (.one (.d (iN (l.foldl (fun z p => f z (ofR p)) (ofR a))))) := by
  refine pcall_of hmo Tryz.func188 rfl (by kernel_rfl) (by simp [Tryz.ntmps188]) ?_
  simp -implicitDefEqProofs [go_sem, Tryz.ntmps188, zi]
  refine loop_rule [] (fun (q : Nat × ZR) => ⟨21, [(2, .fn g []), (3, .pr 0 0 0 0), (6, .pr 4 0 0 0), (9, .d (.sl (zes l))), (10, intP .i64 (l.length : Int)), (11, intP .i64 (q.1 : Int))],
      [(4, .box [.d (.v (.bool false)), .nl]), (0, .box [.d (.v (.bool q.2.1)), .d (.sl (les q.2.2))])], 1000⟩)
    (fun q => q.1 ≤ l.length ∧ Raw q.2.2 ∧ I (ofR q.2) ∧ ofR q.2 = (l.take q.1).foldl (fun z p => f z (ofR p)) (ofR a) ∧ (q.1 = 0 ∨ q.2 = nrm (ofR q.2))) (fun q => l.length - q.1) (0, a)
    ⟨by omega, ha, hIa, by simp, .inl rfl⟩ (by simp) (by simp -implicitDefEqProofs [go_sem]) (fun ⟨k, p⟩ ⟨h1, h2, h3, h4, h5⟩ => ?_)
  dsimp only at h1 h2 h3 h4 h5 ⊢
  by_cases hk : k < l.length
  · obtain ⟨x, hx⟩ : ∃ x, x = l[k] := ⟨_, rfl⟩
    have hxm : x ∈ l := hx ▸ List.getElem_mem hk
    obtain ⟨c1, c2⟩ := hg p x h2 h3 hxm
    have c1' : PCall Tryz.prog g [.d (.agg [.v (.bool p.1), .sl (les p.2)]), .d (.agg [.v (.bool x.1), .sl (les x.2)])] (.one (.d (.agg [.v (.bool (nrm (f (ofR p) (ofR x))).1), .sl (les (nrm (f (ofR p) (ofR x))).2)]))) := c1
    simp -implicitDefEqProofs [go_sem, hk, zel]
    rw [← hx]
    refine .inl ⟨_, c1', ?_⟩
    simp -implicitDefEqProofs [go_sem]
    have r1 : Raw (nrm (f (ofR p) (ofR x))).2 := raw_limbs (hI _ c2)
    have r2 : I (ofR (nrm (f (ofR p) (ofR x)))) := by rw [ofR_nrm]; exact c2
    have r3 : ofR (nrm (f (ofR p) (ofR x))) = (l.take (k + 1)).foldl (fun z p => f z (ofR p)) (ofR a) := by
      rw [ofR_nrm, List.take_add_one, List.foldl_append, ← h4, List.getElem?_eq_getElem hk, ← hx]; rfl
    have r4 : nrm (f (ofR p) (ofR x)) = nrm (ofR (nrm (f (ofR p) (ofR x)))) := by rw [ofR_nrm]
    generalize nrm (f (ofR p) (ofR x)) = q at *
    obtain ⟨qb, ql⟩ := q
    refine ⟨by omega, k + 1, ?_⟩
    cases qb with
    | false => exact .inl ⟨ql, ⟨by omega, r1, r2, r3, .inr r4⟩, by omega, by omega, rfl, rfl⟩
    | true => exact .inr ⟨ql, ⟨by omega, r1, r2, r3, .inr r4⟩, by omega, by omega, rfl, rfl⟩
  · obtain rfl : k = l.length := by omega
    rw [List.take_length] at h4
    have hl0 : l.length ≠ 0 := fun h => hne (List.eq_nil_of_length_eq_zero h)
    have h5 : p = nrm (ofR p) := h5.resolve_left hl0
    rw [← h4]
    have e : iN (ofR p) = .agg [.v (.bool p.1), .sl (les p.2)] := by
      conv => rhs; rw [h5]
      rfl
    rw [e]
    simp -implicitDefEqProofs [go_sem]
end Go.Mt
