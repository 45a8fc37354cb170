/-
  A part of the proof.
-/
import Derived.Test.YtpoocfmphcgmkaaQri11
import Derived.Test.YtpoocfmphcgmkaaQri13
set_option linter.unusedVariables false
set_option linter.unusedSimpArgs false
set_option linter.unusedSimpArgs false
set_option linter.unusedVariables false
namespace Go.Mt
open Go Go.Pm Go.Proofs
/-- an integer as it lies, and in normal form -/
def zi (b : Bool) (l : List Nat) : D := .agg [.v (.bool b), .sl (les l)]
def ival (b : Bool) (l : List Nat) : Int := if b then -(val l : Int) else val l
def iN (z : Int) : D := zi (decide (z < 0)) (limbs z.natAbs)
theorem zi_norm (b : Bool) (n : Nat) : zi (b && decide (0 < n)) (limbs n) = iN (if b then -(n : Int) else n) := by
  unfold iN
  cases b with
  | true =>
    have : (-(n : Int)).natAbs = n := by omega
    simp only [if_true, this, Bool.true_and]
    congr 1
    simp
  | false =>
    have h : ¬ (n : Int) < 0 := by omega
    simp [h]
theorem make1_ok (b : Bool) (n : Nat) : PCall Try.prog 48 [.d (.v (.bool b)), .d (.sl (les (limbs n)))] (.one (.d (iN (if b then -(n : Int) else n)))) := by
  refine pcall_of hmo Try.func48 rfl (by kernel_rfl) (by simp [Try.ntmps48]) ?_
  rw [← zi_norm]
  by_cases h0 : nl n = 0
  · have hn : n = 0 := by
      rcases Nat.eq_zero_or_pos n with h | h
      · exact h
      · have := nl_pos h; omega
    subst hn
    cases b <;> simp -implicitDefEqProofs [go_sem, Try.ntmps48, limbs_zero, les_nil, zi]
  · have hn : 0 < n := by
      rcases Nat.eq_zero_or_pos n with h | h
      · subst h; exact absurd nl_zero h0
      · exact h
    cases b <;> simp -implicitDefEqProofs [go_sem, Try.ntmps48, length_limbs, h0, hn, zi]
    exact nl_pos hn
theorem sign_ok (b : Bool) (l : List Nat) (hl : Small l) (hln : l.length < 1099511627776) : PCall Try.prog 45 [.d (zi b l)] (.one (.d (.v (.int .i64 (ival b l).sign)))) := by
  refine pcall_of hmo Try.func45 rfl (by kernel_rfl) (by simp [Try.ntmps45]) ?_
  simp -implicitDefEqProofs [go_sem, Try.ntmps45, zi]
  refine .inl ⟨_, len_ok l hl hln, ?_⟩
  by_cases h0 : val l = 0
  · simp -implicitDefEqProofs [go_sem, h0, blen_zero, ival]
  · have hb : blen (val l) ≠ 0 := fun h => h0 (blen_eq_zero.1 h)
    have hb' : ¬ ((blen (val l) : Nat) : Int) = 0 := by omega
    have hp : (0 : Int) < val l := by omega
    cases b with
    | true =>
      have : (-(val l : Int)).sign = -1 := Int.sign_eq_neg_one_of_neg (by omega)
      simp -implicitDefEqProofs [go_sem, hb, hb', ival, this]
    | false =>
      have : ((val l : Int)).sign = 1 := Int.sign_eq_one_of_pos hp
      simp -implicitDefEqProofs [go_sem, hb, hb', ival, this]
/-- raw integers that a contract takes -/
def Raw (l : List Nat) : Prop := Small l ∧ l.length < 1099511627776
theorem mag (b : Bool) (l : List Nat) : (ival b l).natAbs = val l := by unfold ival; cases b <;> simp
theorem abs_ok (b : Bool) (l : List Nat) (h : Raw l) : PCall Try.prog 46 [.d (zi b l)] (.one (.d (iN (val l)))) := by
  refine pcall_of hmo Try.func46 rfl (by kernel_rfl) (by simp [Try.ntmps46]) ?_
  simp -implicitDefEqProofs [go_sem, Try.ntmps46, zi]
  refine .inl ⟨_, norm_ok l h.1 (by have := h.2; omega), ?_⟩
  simp -implicitDefEqProofs [go_sem]
  have hm := make1_ok false (val l)
  simp only [Bool.false_eq_true, if_false] at hm
  refine .inl ⟨_, hm, ?_⟩
  simp -implicitDefEqProofs [go_sem, iN, zi]
theorem make1_z (p : Bool) (n : Nat) {z : Int} (h : (if p then -(n : Int) else n) = z) : PCall Try.prog 48 [.d (.v (.bool p)), .d (.sl (les (limbs n)))] (.one (.d (iN z))) := h ▸ make1_ok p n
theorem neg_ok (b : Bool) (l : List Nat) (h : Raw l) : PCall Try.prog 47 [.d (zi b l)] (.one (.d (iN (-(ival b l))))) := by
  refine pcall_of hmo Try.func47 rfl (by kernel_rfl) (by simp [Try.ntmps47]) ?_
  simp -implicitDefEqProofs [go_sem, Try.ntmps47, zi]
  refine .inl ⟨_, sign_ok b l h.1 h.2, ?_⟩
  simp -implicitDefEqProofs [go_sem]
  refine .inl ⟨_, norm_ok l h.1 (by have := h.2; omega), ?_⟩
  simp -implicitDefEqProofs [go_sem]
  refine .inl ⟨_, make1_z (decide (0 < ival b l)) (val l) (z := -(ival b l)) (by unfold ival; cases b <;> simp <;> omega), ?_⟩
  simp -implicitDefEqProofs [go_sem, iN, zi]
  decide +kernel
theorem mul_zok (b c : Bool) (l k : List Nat) (h : Raw l) (h2 : Raw k) : PCall Try.prog 24 [.d (zi b l), .d (zi c k)] (.one (.d (iN (ival b l * ival c k)))) := by
  refine pcall_of hmo Try.func24 rfl (by kernel_rfl) (by simp [Try.ntmps24]) ?_
  simp -implicitDefEqProofs [go_sem, Try.ntmps24, zi]
  refine .inl ⟨_, mul_ok l k h.1 h2.1 h.2 h2.2, ?_⟩
  simp -implicitDefEqProofs [go_sem]
  refine .inl ⟨_, make1_z (b != c) (val l * val k) (z := ival b l * ival c k) (by unfold ival; cases b <;> cases c <;> simp [Int.neg_mul, Int.mul_neg]), ?_⟩
  simp -implicitDefEqProofs [go_sem, iN, zi]
  decide +kernel
theorem joined_ok (b c : Bool) (l k : List Nat) (h : Raw l) (h2 : Raw k) (hbc : b ≠ c) : PCall Try.prog 51 [.d (zi b l), .d (zi c k)] (.one (.d (iN (ival b l + ival c k)))) := by
  refine pcall_of hmo Try.func51 rfl (by kernel_rfl) (by simp [Try.ntmps51]) ?_
  simp -implicitDefEqProofs [go_sem, Try.ntmps51, zi]
  refine .inl ⟨_, cmp_ok l k h.1 h2.1 (by have := h.2; omega) (by have := h2.2; omega), ?_⟩
  by_cases hlt : val l < val k
  · have hc : cmpZ (val l) (val k) < 0 := by simp [cmpZ, hlt]
    simp -implicitDefEqProofs [go_sem, hc]
    refine .inl ⟨_, sub_ok k l h2.1 h.1 h2.2 h.2 (by omega), ?_⟩
    simp -implicitDefEqProofs [go_sem]
    refine .inl ⟨_, make1_z c (val k - val l) (z := ival b l + ival c k) (by unfold ival; cases b <;> cases c <;> simp at hbc ⊢ <;> omega), ?_⟩
    simp -implicitDefEqProofs [go_sem, iN, zi]
  · have hc : ¬ cmpZ (val l) (val k) < 0 := by unfold cmpZ; rw [if_neg hlt]; split <;> omega
    simp -implicitDefEqProofs [go_sem, hc]
    refine .inl ⟨_, sub_ok l k h.1 h2.1 h.2 h2.2 (by omega), ?_⟩
    simp -implicitDefEqProofs [go_sem]
    refine .inl ⟨_, make1_z b (val l - val k) (z := ival b l + ival c k) (by unfold ival; cases b <;> cases c <;> simp at hbc ⊢ <;> omega), ?_⟩
    simp -implicitDefEqProofs [go_sem, iN, zi]
theorem add_zok (b c : Bool) (l k : List Nat) (h : Raw l) (h2 : Raw k) : PCall Try.prog 27 [.d (zi b l), .d (zi c k)] (.one (.d (iN (ival b l + ival c k)))) := by
  refine pcall_of hmo Try.func27 rfl (by kernel_rfl) (by simp [Try.ntmps27]) ?_
  by_cases hbc : b = c
  · subst hbc
    simp -implicitDefEqProofs [go_sem, Try.ntmps27, zi]
    refine .inl ⟨_, add_ok l k h.1 h2.1 h.2 h2.2, ?_⟩
    simp -implicitDefEqProofs [go_sem]
    refine .inl ⟨_, make1_z b (val l + val k) (z := ival b l + ival b k) (by unfold ival; cases b <;> simp <;> omega), ?_⟩
    simp -implicitDefEqProofs [go_sem, iN, zi]
    decide +kernel
  · have hbc' : (b == c) = false := by simpa using hbc
    simp -implicitDefEqProofs [go_sem, Try.ntmps27, zi, hbc, hbc']
    have hj := joined_ok b c l k h h2 hbc
    simp only [zi] at hj
    refine .inl ⟨_, hj, ?_⟩
    simp -implicitDefEqProofs [go_sem, iN, zi]
end Go.Mt
/-
  A part of the proof.
-/
set_option linter.unusedSimpArgs false
set_option linter.unusedVariables false
namespace Go.Mt
open Go Go.Pm Go.Proofs
theorem ival_iN (z : Int) : ival (decide (z < 0)) (limbs z.natAbs) = z := by
  unfold ival
  rw [val_limbs]
  by_cases h : z < 0 <;> simp [h] <;> omega
theorem raw_limbs {n : Nat} (h : nl n < 1099511627776) : Raw (limbs n) := ⟨small_limbs n, by rw [length_limbs]; exact h⟩
theorem of_zok (z : Int) (h1 : -9223372036854775808 ≤ z) (h2 : z ≤ 9223372036854775807) : PCall Try.prog 34 [.d (.v (.int .i64 z))] (.one (.d (iN z))) := by
  refine pcall_of hmo Try.func34 rfl (by kernel_rfl) (by simp [Try.ntmps34]) ?_
  by_cases h : z < 0
  · obtain ⟨n, hn⟩ : ∃ n : Nat, n = z.natAbs := ⟨_, rfl⟩
    have e3 : (-(z + 1) + 1) % 18446744073709551616 = (n : Int) := by omega
    have hof := of_ok n (by omega)
    simp -implicitDefEqProofs [go_sem, Try.ntmps34, h]
    rw [e3]
    refine ⟨by omega, by omega, .inl ⟨_, hof, ?_⟩⟩
    simp -implicitDefEqProofs [go_sem]
    refine .inl ⟨_, make1_z true n (z := z) (by simp; omega), ?_⟩
    simp -implicitDefEqProofs [go_sem, iN, zi]
  · obtain ⟨n, rfl⟩ : ∃ n : Nat, z = n := ⟨z.natAbs, by omega⟩
    have e2 : (n : Int) % 18446744073709551616 = n := by omega
    have hof := of_ok n (by omega)
    simp -implicitDefEqProofs [go_sem, Try.ntmps34, h, e2]
    refine .inl ⟨_, hof, ?_⟩
    simp -implicitDefEqProofs [go_sem]
    refine .inl ⟨_, make1_z false n (z := (n : Int)) (by simp), ?_⟩
    simp -implicitDefEqProofs [go_sem, iN, zi]
end Go.Mt
/-
  A part of the proof.
-/
set_option linter.unusedSimpArgs false
set_option linter.unusedVariables false
namespace Go.Mt
open Go Go.Pm Go.Proofs
abbrev ZR := Bool × List Nat
def zel (p : ZR) : List D := [.v (.bool p.1), .sl (les p.2)]
def zes (l : List ZR) : List (List D) := l.map zel
@[go_sem] theorem zes_len (l : List ZR) : (zes l).length = l.length := by simp [zes]
@[go_sem] theorem zes_ge {l : List ZR} {i : Nat} (h : i < (zes l).length) : (zes l)[i] = zel (l[i]'(by rw [zes_len] at h; exact h)) := by simp [zes]
def nrm (z : Int) : ZR := (decide (z < 0), limbs z.natAbs)
def ofR (p : ZR) : Int := ival p.1 p.2
theorem ofR_nrm (z : Int) : ofR (nrm z) = z := ival_iN z
/-- an operation over a list, from a number on -/
theorem folded_ok {g : FuncId} {f : Int → Int → Int} {I : Int → Prop} (hI : ∀ z, I z → nl z.natAbs < 1099511627776) (l : List ZR) (hl : ∀ p ∈ l, Raw p.2) (hn : l.length < 1099511627776)
    (hg : ∀ (a x : ZR), Raw a.2 → I (ofR a) → x ∈ l → PCall Try.prog g [.d (zi a.1 a.2), .d (zi x.1 x.2)] (.one (.d (iN (f (ofR a) (ofR x))))) ∧ I (f (ofR a) (ofR x))) (a : ZR) (ha : Raw a.2) (hIa : I (ofR a)) (hne : l ≠ []) :
    PCall Try.prog 61 [.d (zi a.1 a.2), .d (.sl (zes l)), .fn g []] (.one (.d (iN (l.foldl (fun z p => f z (ofR p)) (ofR a))))) := by
  refine pcall_of hmo Try.func61 rfl (by kernel_rfl) (by simp [Try.ntmps61]) ?_
  simp -implicitDefEqProofs [go_sem, Try.ntmps61, zi]
  refine loop_rule [] (fun (q : Nat × ZR) => ⟨21, [(2, .fn g []), (3, .pr 0 0 0 0), (6, .pr 4 0 0 0), (9, .d (.sl (zes l))), (10, intP .i64 (l.length : Int)), (11, intP .i64 (q.1 : Int))],
      [(4, .box [.d (.v (.bool false)), .nl]), (0, .box [.d (.v (.bool q.2.1)), .d (.sl (les q.2.2))])], 1000⟩)
    (fun q => q.1 ≤ l.length ∧ Raw q.2.2 ∧ I (ofR q.2) ∧ ofR q.2 = (l.take q.1).foldl (fun z p => f z (ofR p)) (ofR a) ∧ (q.1 = 0 ∨ q.2 = nrm (ofR q.2))) (fun q => l.length - q.1) (0, a)
    ⟨by omega, ha, hIa, by simp, .inl rfl⟩ (by simp) (by simp -implicitDefEqProofs [go_sem]) (fun ⟨k, p⟩ ⟨h1, h2, h3, h4, h5⟩ => ?_)
  dsimp only at h1 h2 h3 h4 h5 ⊢
  by_cases hk : k < l.length
  · obtain ⟨x, hx⟩ : ∃ x, x = l[k] := ⟨_, rfl⟩
    have hxm : x ∈ l := hx ▸ List.getElem_mem hk
    obtain ⟨c1, c2⟩ := hg p x h2 h3 hxm
    have c1' : PCall Try.prog g [.d (.agg [.v (.bool p.1), .sl (les p.2)]), .d (.agg [.v (.bool x.1), .sl (les x.2)])] (.one (.d (.agg [.v (.bool (nrm (f (ofR p) (ofR x))).1), .sl (les (nrm (f (ofR p) (ofR x))).2)]))) := c1
    simp -implicitDefEqProofs [go_sem, hk, zel]
    rw [← hx]
    refine .inl ⟨_, c1', ?_⟩
    simp -implicitDefEqProofs [go_sem]
    have r1 : Raw (nrm (f (ofR p) (ofR x))).2 := raw_limbs (hI _ c2)
    have r2 : I (ofR (nrm (f (ofR p) (ofR x)))) := by rw [ofR_nrm]; exact c2
    have r3 : ofR (nrm (f (ofR p) (ofR x))) = (l.take (k + 1)).foldl (fun z p => f z (ofR p)) (ofR a) := by
      rw [ofR_nrm, List.take_add_one, List.foldl_append, ← h4, List.getElem?_eq_getElem hk, ← hx]; rfl
    have r4 : nrm (f (ofR p) (ofR x)) = nrm (ofR (nrm (f (ofR p) (ofR x)))) := by rw [ofR_nrm]
    generalize nrm (f (ofR p) (ofR x)) = q at *
    obtain ⟨qb, ql⟩ := q
    refine ⟨by omega, k + 1, ?_⟩
    cases qb with
    | false => exact .inl ⟨ql, ⟨by omega, r1, r2, r3, .inr r4⟩, by omega, by omega, rfl, rfl⟩
    | true => exact .inr ⟨ql, ⟨by omega, r1, r2, r3, .inr r4⟩, by omega, by omega, rfl, rfl⟩
  · obtain rfl : k = l.length := by omega
    rw [List.take_length] at h4
    have hl0 : l.length ≠ 0 := fun h => hne (List.eq_nil_of_length_eq_zero h)
    have h5 : p = nrm (ofR p) := h5.resolve_left hl0
    rw [← h4]
    have e : iN (ofR p) = .agg [.v (.bool p.1), .sl (les p.2)] := by
      conv => rhs; rw [h5]
      rfl
    rw [e]
    simp -implicitDefEqProofs [go_sem]
end Go.Mt
/-
  A part of the proof.
-/
set_option linter.unusedSimpArgs false
set_option linter.unusedVariables false
namespace Go.Mt
open Go Go.Pm Go.Proofs
theorem or_low {a c s : Nat} (ha : a % 2 ^ s = 0) (hc : c < 2 ^ s) : a ||| c = a + c := by
  have e : a = 2 ^ s * (a / 2 ^ s) := by have := Nat.div_add_mod a (2 ^ s); omega
  rw [e]
  exact (Nat.two_pow_add_eq_or_of_lt hc _).symm
def lOut (s : Nat) (c x _y : Nat) : Nat := (x * 2 ^ s) % 4294967296 + c
def lNxt (s : Nat) (_c x _y : Nat) : Nat := x * 2 ^ s / 4294967296
theorem left_facts {a : List Nat} {s : Nat} (sa : Small a) (hs : s < 32) : ∀ k, k ≤ a.length → stp (lNxt s) 0 a [] k < 2 ^ s ∧ Small (Go.Mt.outs (lOut s) (lNxt s) 0 a [] k) ∧ val (Go.Mt.outs (lOut s) (lNxt s) 0 a [] k) + 4294967296 ^ k * stp (lNxt s) 0 a [] k = val (a.take k) * 2 ^ s
  | 0, _ => ⟨Nat.pow_pos (by decide), small_nil, by simp [val, Go.Mt.outs, stp]⟩
  | k + 1, hk => by
    obtain ⟨h1, h2, h3⟩ := left_facts sa hs k (by omega)
    exact ⟨left_carry (sa.get k), h2.append (small_cons (left_fit hs h1) small_nil), left_round (length_outs _ _ _ _ _ _) h3 rfl⟩
set_option maxRecDepth 100000 in
theorem left_ok (l : List Nat) (s : Nat) (hl : Small l) (hln : l.length < 1099511627776) (hs : s < 32) : ∃ R : List Nat, Small R ∧ val R = val l * 2 ^ s ∧ (R.length = nl (val l) ∨ (R.length = nl (val l) + 1 ∧ 4294967296 ^ nl (val l) ≤ val R)) ∧
    PCall Try.prog 82 [.d (.sl (les l)), .d (.v (.int .i64 (s : Int)))] (.one (.so 80 1 (les R))) := by
  have b1 := nl_val hl
  have n1 := length_limbs (val l)
  have ea := val_limbs (val l)
  have sa := small_limbs (val l)
  obtain ⟨a, ha⟩ : ∃ a, a = limbs (val l) := ⟨_, rfl⟩
  rw [← ha] at n1 ea sa
  have hf := left_facts sa hs
  have hend := hf a.length (Nat.le_refl _)
  rw [List.take_length, ea] at hend
  obtain ⟨f1, f2, f3⟩ := hend
  have hlo := length_outs (lOut s) (lNxt s) 0 a [] a.length
  have hp := pow_s_le hs
  have t1 : (s : Int).tmod 32 = s := by rw [Int.tmod_eq_emod_of_nonneg (by omega)]; omega
  have t2 : (s : Int).tdiv 32 = 0 := by rw [Int.tdiv_eq_ediv_of_nonneg (by omega)]; omega
  have m1 : min s 32 = s := by omega
  have m2 : min s 64 = s := by omega
  have body : PCall Try.prog 82 [.d (.sl (les l)), .d (.v (.int .i64 (s : Int)))] (.one (.so 80 1 (les (if stp (lNxt s) 0 a [] a.length = 0 then Go.Mt.outs (lOut s) (lNxt s) 0 a [] a.length else Go.Mt.outs (lOut s) (lNxt s) 0 a [] a.length ++ [stp (lNxt s) 0 a [] a.length])))) := by
    refine pcall_of hmo Try.func82 rfl (by kernel_rfl) (by simp [Try.ntmps82]) ?_
    simp -implicitDefEqProofs [go_sem, Try.ntmps82]
    refine .inl ⟨_, trim_ok l hl (by omega), ?_⟩
    rw [← ha]
    simp -implicitDefEqProofs [go_sem, t1, t2]
    refine ⟨by omega, ⟨by omega, by omega⟩, ⟨by omega, by omega, by omega⟩, ?_⟩
    refine loop_rule [] (fun (k : Nat) => ⟨50, [(1, .d (.v (.int .i64 (s : Int)))), (5, .sr 48 k), (6, .d (ud (stp (lNxt s) 0 a [] k))), (20, .d (.sl (les a))), (21, intP .i64 (a.length : Int)), (22, intP .i64 (k : Int))],
      [(48, .arr ⟨80, 1, k, false, les (Go.Mt.outs (lOut s) (lNxt s) 0 a [] k)⟩)], 1000⟩) (fun k => k ≤ a.length) (fun k => a.length - k) 0 (by omega) (by simp) (by simp -implicitDefEqProofs [go_sem, Go.Mt.outs, stp, les, ud]) (fun k hk => ?_)
    obtain ⟨g1, g2, g3⟩ := hf k hk
    have hlk := length_outs (lOut s) (lNxt s) 0 a [] k
    by_cases hka : k < a.length
    · obtain ⟨x, hx⟩ : ∃ x, x = a[k] := ⟨_, rfl⟩
      have hx2 : x < 4294967296 := hx ▸ sa _ (List.getElem_mem hka)
      have hxe : a[k]?.getD 0 = x := by simp [hka, hx]
      obtain ⟨c, hc⟩ : ∃ c, c = stp (lNxt s) 0 a [] k := ⟨_, rfl⟩
      have o1 : Go.Mt.outs (lOut s) (lNxt s) 0 a [] (k + 1) = Go.Mt.outs (lOut s) (lNxt s) 0 a [] k ++ [(x * 2 ^ s) % 4294967296 + c] := by rw [Go.Mt.outs, hxe, ← hc]; rfl
      have o2 : stp (lNxt s) 0 a [] (k + 1) = x * 2 ^ s / 4294967296 := by rw [stp, hxe]; rfl
      rw [← hc] at g1
      have hor : bOr .u32 ((x : Int) * 2 ^ s % 4294967296) (c : Int) = (((x * 2 ^ s) % 4294967296 + c : Nat) : Int) := by
        have := bOr32 (x := (x * 2 ^ s) % 4294967296) (y := c) (Nat.mod_lt _ (by decide)) (by omega)
        rw [or_low (left_low_mod hs) g1] at this
        simpa using this
      have hpl := mul_pow_lt hx2 hs
      have e64 : (x : Int) % 18446744073709551616 = x := by omega
      have hpe : (x : Int) * 2 ^ s = ((x * 2 ^ s : Nat) : Int) := by simp
      have hcar : (x : Int) * 2 ^ s % 18446744073709551616 / 4294967296 % 4294967296 = ((x * 2 ^ s / 4294967296 : Nat) : Int) := by rw [hpe]; omega
      rw [← hc]
      simp -implicitDefEqProofs [go_sem, hka]
      rw [← hx]
      simp -implicitDefEqProofs [go_sem, ud, t1, m1, m2, hor, e64, hcar]
      refine ⟨⟨by omega, by omega⟩, ⟨by omega, by omega⟩, k + 1, by omega, by omega, ⟨rfl, by rw [o2]; rfl, by omega⟩, rfl, ?_⟩
      rw [o1, ← les_append]
      rfl
    · obtain rfl : k = a.length := by omega
      by_cases hc : stp (lNxt s) 0 a [] a.length = 0
      · simp -implicitDefEqProofs [go_sem, hc, ud]
      · simp -implicitDefEqProofs [go_sem, hc, ud]
        refine ⟨⟨by omega, by omega⟩, ?_⟩
        rw [← les_append]
        rfl
  by_cases hc : stp (lNxt s) 0 a [] a.length = 0
  · rw [if_pos hc] at body
    rw [hc] at f3
    exact ⟨_, f2, by simpa using f3, .inl (by rw [hlo, n1]), body⟩
  · rw [if_neg hc] at body
    refine ⟨_, f2.append (small_cons (by omega) small_nil), ?_, .inr ⟨by rw [List.length_append, hlo, n1]; rfl, ?_⟩, body⟩
    · rw [val_append, val_one, hlo]; exact f3
    · rw [val_append, val_one, hlo, ← n1]
      exact Nat.le_trans (Nat.le_mul_of_pos_right _ (by omega)) (Nat.le_add_left _ _)
end Go.Mt
/-
  A part of the proof.
-/
set_option linter.unusedSimpArgs false
set_option linter.unusedVariables false
namespace Go.Mt
open Go Go.Pm Go.Proofs
theorem bOr64' {x y : Nat} (hy : y < 4294967296) (hx : x < 4294967296) : bOr .u64 (y : Int) ((x : Int) * 4294967296) = ((y + 4294967296 * x : Nat) : Int) := by
  have h := bOr64 hy hx
  have e : bOr .u64 (y : Int) ((x : Int) * 4294967296) = bOr .u64 ((x : Int) * 4294967296) (y : Int) := by unfold bOr; rw [BitVec.or_comm]
  rw [e, h]
  omega
theorem fdiv_pow (t s : Nat) : (t : Int).fdiv (2 ^ s) = ((t / 2 ^ s : Nat) : Int) := by
  have e : (2 : Int) ^ s = ((2 ^ s : Nat) : Int) := by simp
  rw [e, Int.fdiv_eq_ediv_of_nonneg _ (Int.natCast_nonneg _)]
  rfl
set_option maxRecDepth 100000 in
theorem right_ok (l : List Nat) (s : Nat) (hl : Small l) (hln : l.length < 4398046511104) (hs : s < 32) : PCall Try.prog 83 [.d (.sl (les l)), .d (.v (.int .i64 (s : Int)))] (.tup [.d (.sl (les (limbs (val l / 2 ^ s)))), .d (.v (.int .i64 0))]) := by
  have b1 := nl_val hl
  have n1 := length_limbs (val l)
  have ea := val_limbs (val l)
  have sa := small_limbs (val l)
  obtain ⟨a, ha⟩ : ∃ a, a = limbs (val l) := ⟨_, rfl⟩
  rw [← ha] at n1 ea sa
  have t1 : (s : Int).tmod 32 = s := by rw [Int.tmod_eq_emod_of_nonneg (by omega)]; omega
  have t2 : (s : Int).tdiv 32 = 0 := by rw [Int.tdiv_eq_ediv_of_nonneg (by omega)]; omega
  have m2 : min s 64 = s := by omega
  refine pcall_of hmo Try.func83 rfl (by kernel_rfl) (by simp [Try.ntmps83]) ?_
  have hs0 : ¬ (s : Int) < 0 := by omega
  simp -implicitDefEqProofs [go_sem, Try.ntmps83, hs0]
  refine .inl ⟨_, trim_ok l hl (by omega), ?_⟩
  rw [← ha]
  by_cases h0 : a.length = 0
  · have : val l = 0 := by rw [← ea, List.eq_nil_of_length_eq_zero h0]; rfl
    have h0' : ((a.length : Nat) : Int) ≤ 0 := by omega
    rw [this]
    simp -implicitDefEqProofs [go_sem, t2, h0, limbs_zero, les_nil]
  · have h0' : ¬ ((a.length : Nat) : Int) ≤ 0 := by omega
    have htk : List.take a.length (les a) = les a := List.take_of_length_le (by simp -implicitDefEqProofs [go_sem])
    simp -implicitDefEqProofs [go_sem, t2, h0, h0', htk]
    refine ⟨⟨by omega, by omega⟩, ?_⟩
    refine loop_rule [] (fun (k : Nat) => ⟨60, [(0, .d (.sl (les a))), (1, .d (.v (.int .i64 (s : Int)))), (6, .sr 76 0), (26, .d (.sl (les a))), (27, intP .i64 (a.length : Int)), (28, intP .i64 (k : Int))],
      [(76, .arr ⟨80, 1, 0, false, les (rights s a k ++ List.replicate (a.length - k) 0)⟩)], 1000⟩) (fun k => k ≤ a.length) (fun k => a.length - k) 0 (by omega) (by simp) (by simp -implicitDefEqProofs [go_sem, rights, les, ud]) (fun k hk => ?_)
    have hlk := length_rights s a k
    by_cases hka : k < a.length
    · obtain ⟨x, hx⟩ : ∃ x, x = a[k] := ⟨_, rfl⟩
      have hx2 : x < 4294967296 := hx ▸ sa _ (List.getElem_mem hka)
      have hxe : a[k]?.getD 0 = x := by simp [hka, hx]
      have e64 : (x : Int) % 18446744073709551616 = x := by omega
      have hfill := rights_fill s a k a.length hka
      rw [hxe] at hfill
      have hg : (les (rights s a k ++ List.replicate (a.length - k) 0))[k]? = some [ud ((rights s a k ++ List.replicate (a.length - k) 0)[k]?.getD 0)] := les_get (by simp; omega)
      by_cases hk1 : k + 1 < a.length
      · obtain ⟨y, hy⟩ : ∃ y, y = a[k + 1] := ⟨_, rfl⟩
        have hy2 : y < 4294967296 := hy ▸ sa _ (List.getElem_mem hk1)
        have hye : a[k + 1]?.getD 0 = y := by simp [hk1, hy]
        have hyg : (les a)[k + 1]? = some [ud y] := by rw [les_get hk1, hye]
        have ey : (y : Int) % 18446744073709551616 = y := by omega
        have ey2 : (y : Int) * 4294967296 % 18446744073709551616 = (y : Int) * 4294967296 := by omega
        have ek : ((k : Int) + 1).toNat = k + 1 := by omega
        have hk1' : (k : Int) + 1 < a.length := by omega
        rw [hye] at hfill
        simp -implicitDefEqProofs [go_sem, hka, hk1, hk1', ek, hyg]
        rw [← hx]
        simp -implicitDefEqProofs [go_sem, ud, e64, ey, ey2, t1, m2, bOr64' hx2 hy2, hg, hk1']
        have hc : ((((x + 4294967296 * y) / 2 ^ s : Nat) : Int)) % 4294967296 = (((x + 4294967296 * y) / 2 ^ s % 4294967296 : Nat) : Int) := by simp
        refine ⟨⟨by omega, by omega⟩, by omega, by omega, ⟨by omega, by omega⟩, k + 1, by omega, by omega, by omega, ?_⟩
        rw [← hy, ey, ey2, bOr64' hx2 hy2, fdiv_pow, hc, ← hfill, ← les_set]
        rfl
      · have hye : a[k + 1]?.getD 0 = 0 := by simp [hk1]
        have hk1' : ¬ (k : Int) + 1 < a.length := by omega
        rw [hye] at hfill
        simp -implicitDefEqProofs [go_sem, hka, hk1, hk1']
        rw [← hx]
        simp -implicitDefEqProofs [go_sem, ud, e64, t1, m2, hg, hk1']
        have hc : (((x / 2 ^ s : Nat) : Int)) % 4294967296 = ((x / 2 ^ s % 4294967296 : Nat) : Int) := by simp
        refine ⟨⟨by omega, by omega⟩, by omega, ⟨by omega, by omega⟩, k + 1, by omega, by omega, by omega, ?_⟩
        rw [fdiv_pow, hc, ← hfill, ← les_set]
        rfl
    · obtain rfl : k = a.length := by omega
      have hown := own_ok (rights s a a.length) (small_rights _ _ _) (by omega)
      rw [rights_end sa hs (Nat.le_refl _), ea] at hown
      simp -implicitDefEqProofs [go_sem]
      refine .inl ⟨_, hown, ?_⟩
      simp -implicitDefEqProofs [go_sem]
end Go.Mt
