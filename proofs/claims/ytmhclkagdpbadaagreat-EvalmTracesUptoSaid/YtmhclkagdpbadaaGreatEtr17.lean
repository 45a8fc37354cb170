/-
  A part of the proof.
-/
import Derived.Test.YtmhclkagdpbadaaGreatEtr10
set_option linter.unusedVariables false
set_option linter.unusedSimpArgs false
set_option linter.unusedSimpArgs false
set_option linter.unusedVariables false
namespace Go.Mt
open Go Go.Pm Go.Proofs
theorem or_low {a c s : Nat} (ha : a % 2 ^ s = 0) (hc : c < 2 ^ s) : a ||| c = a + c := by
  have e : a = 2 ^ s * (a / 2 ^ s) := by have := Nat.div_add_mod a (2 ^ s); omega
  rw [e]
  exact (Nat.two_pow_add_eq_or_of_lt hc _).symm
def lOut (s : Nat) (c x _y : Nat) : Nat := (x * 2 ^ s) % 4294967296 + c
def lNxt (s : Nat) (_c x _y : Nat) : Nat := x * 2 ^ s / 4294967296
theorem left_facts {a : List Nat} {s : Nat} (sa : Small a) (hs : s < 32) : ∀ k, k ≤ a.length → stp (lNxt s) 0 a [] k < 2 ^ s ∧ Small (Go.Mt.outs (lOut s) (lNxt s) 0 a [] k) ∧ val (Go.Mt.outs (lOut s) (lNxt s) 0 a [] k) + 4294967296 ^ k * stp (lNxt s) 0 a [] k = val (a.take k) * 2 ^ s
  | 0, _ => ⟨Nat.pow_pos (by decide), small_nil, by simp [val, Go.Mt.outs, stp]⟩
  | k + 1, hk => by
    obtain ⟨h1, h2, h3⟩ := left_facts sa hs k (by omega)
    exact ⟨left_carry (sa.get k), h2.append (small_cons (left_fit hs h1) small_nil), left_round (length_outs _ _ _ _ _ _) h3 rfl⟩
set_option maxRecDepth 100000 in
theorem left_ok (l : List Nat) (s : Nat) (hl : Small l) (hln : l.length < 1099511627776) (hs : s < 32) : ∃ R : List Nat, Small R ∧ val R = val l * 2 ^ s ∧ (R.length = nl (val l) ∨ (R.length = nl (val l) + 1 ∧ 4294967296 ^ nl (val l) ≤ val R)) ∧
    PCall Tryz.prog 286 [.d (.sl (les l)), .d (.v (.int .i64 (s : Int)))] (.one (.so 86 1 (les R))) := by
  have b1 := nl_val hl
  have n1 := length_limbs (val l)
  have ea := val_limbs (val l)
  have sa := small_limbs (val l)
  obtain ⟨a, ha⟩ : ∃ a, a = limbs (val l) := ⟨_, rfl⟩
  rw [← ha] at n1 ea sa
  have hf := left_facts sa hs
  have hend := hf a.length (Nat.le_refl _)
  rw [List.take_length, ea] at hend
  obtain ⟨f1, f2, f3⟩ := hend
  have hlo := length_outs (lOut s) (lNxt s) 0 a [] a.length
  have hp := pow_s_le hs
  have t1 : (s : Int).tmod 32 = s := by rw [Int.tmod_eq_emod_of_nonneg (by omega)]; omega
  have t2 : (s : Int).tdiv 32 = 0 := by rw [Int.tdiv_eq_ediv_of_nonneg (by omega)]; omega
  have m1 : min s 32 = s := by omega
  have m2 : min s 64 = s := by omega
  have body : PCall Tryz.prog 286 [.d (.sl (les l)), .d (.v (.int .i64 (s : Int)))] (.one (.so 86 1 (les (if stp (lNxt s) 0 a [] a.length = 0 then Go.Mt.outs (lOut s) (lNxt s) 0 a [] a.length else Go.Mt.outs (lOut s) (lNxt s) 0 a [] a.length ++ [stp (lNxt s) 0 a [] a.length])))) := by
    refine pcall_of hmo Tryz.func286 rfl (by kernel_rfl) (by simp [Tryz.ntmps286]) ?_
    simp -implicitDefEqProofs [go_sem, Tryz.ntmps286]
    refine .inl ⟨_, trim_ok l hl (by omega), ?_⟩
    rw [← ha]
    simp -implicitDefEqProofs [go_sem, t1, t2]
    refine ⟨by omega, ⟨by omega, by omega⟩, ⟨by omega, by omega, by omega⟩, ?_⟩
    refine loop_rule [] (fun (k : Nat) => ⟨50, [(1, .d (.v (.int .i64 (s : Int)))), (5, .sr 48 k), (6, .d (ud (stp (lNxt s) 0 a [] k))), (20, .d (.sl (les a))), (21, intP .i64 (a.length : Int)), (22, intP .i64 (k : Int))],
      [(48, .arr ⟨86, 1, k, false, les (Go.Mt.outs (lOut s) (lNxt s) 0 a [] k)⟩)], 1000⟩) (fun k => k ≤ a.length) (fun k => a.length - k) 0 (by omega) (by simp) (by simp -implicitDefEqProofs [go_sem, Go.Mt.outs, stp, les, ud]) (fun k hk => ?_)
    obtain ⟨g1, g2, g3⟩ := hf k hk
    have hlk := length_outs (lOut s) (lNxt s) 0 a [] k
    by_cases hka : k < a.length
    · obtain ⟨x, hx⟩ : ∃ x, x = a[k] := ⟨_, rfl⟩
      have hx2 : x < 4294967296 := hx ▸ sa _ (List.getElem_mem hka)
      have hxe : a[k]?.getD 0 = x := by simp [hka, hx]
      obtain ⟨c, hc⟩ : ∃ c, c = stp (lNxt s) 0 a [] k := ⟨_, rfl⟩
      have o1 : Go.Mt.outs (lOut s) (lNxt s) 0 a [] (k + 1) = Go.Mt.outs (lOut s) (lNxt s) 0 a [] k ++ [(x * 2 ^ s) % 4294967296 + c] := by rw [Go.Mt.outs, hxe, ← hc]; rfl
      have o2 : stp (lNxt s) 0 a [] (k + 1) = x * 2 ^ s / 4294967296 := by rw [stp, hxe]; rfl
      rw [← hc] at g1
      have hor : bOr .u32 ((x : Int) * 2 ^ s % 4294967296) (c : Int) = (((x * 2 ^ s) % 4294967296 + c : Nat) : Int) := by
        have := bOr32 (x := (x * 2 ^ s) % 4294967296) (y := c) (Nat.mod_lt _ (by decide)) (by omega)
        rw [or_low (left_low_mod hs) g1] at this
        simpa using this
      have hpl := mul_pow_lt hx2 hs
      have e64 : (x : Int) % 18446744073709551616 = x := by omega
      have hpe : (x : Int) * 2 ^ s = ((x * 2 ^ s : Nat) : Int) := by simp
      have hcar : (x : Int) * 2 ^ s % 18446744073709551616 / 4294967296 % 4294967296 = ((x * 2 ^ s / 4294967296 : Nat) : Int) := by rw [hpe]; omega
      rw [← hc]
      simp -implicitDefEqProofs [go_sem, hka]
      rw [← hx]
      simp -implicitDefEqProofs [go_sem, ud, t1, m1, m2, hor, e64, hcar]
      refine ⟨⟨by omega, by omega⟩, ⟨by omega, by omega⟩, k + 1, by omega, by omega, ⟨rfl, by rw [o2]; rfl, by omega⟩, rfl, ?_⟩
      rw [o1, ← les_append]
      rfl
    · obtain rfl : k = a.length := by omega
      by_cases hc : stp (lNxt s) 0 a [] a.length = 0
      · simp -implicitDefEqProofs [go_sem, hc, ud]
      · simp -implicitDefEqProofs [go_sem, hc, ud]
        refine ⟨⟨by omega, by omega⟩, ?_⟩
        rw [← les_append]
        rfl
  by_cases hc : stp (lNxt s) 0 a [] a.length = 0
  · rw [if_pos hc] at body
    rw [hc] at f3
    exact ⟨_, f2, by simpa using f3, .inl (by rw [hlo, n1]), body⟩
  · rw [if_neg hc] at body
    refine ⟨_, f2.append (small_cons (by omega) small_nil), ?_, .inr ⟨by rw [List.length_append, hlo, n1]; rfl, ?_⟩, body⟩
    · rw [val_append, val_one, hlo]; exact f3
    · rw [val_append, val_one, hlo, ← n1]
      exact Nat.le_trans (Nat.le_mul_of_pos_right _ (by omega)) (Nat.le_add_left _ _)
end Go.Mt
/-
  A part of the proof.
-/
set_option linter.unusedSimpArgs false
set_option linter.unusedVariables false
namespace Go.Mt
open Go Go.Pm Go.Proofs
theorem bOr64' {x y : Nat} (hy : y < 4294967296) (hx : x < 4294967296) : bOr .u64 (y : Int) ((x : Int) * 4294967296) = ((y + 4294967296 * x : Nat) : Int) := by
  have h := bOr64 hy hx
  have e : bOr .u64 (y : Int) ((x : Int) * 4294967296) = bOr .u64 ((x : Int) * 4294967296) (y : Int) := by unfold bOr; rw [BitVec.or_comm]
  rw [e, h]
  omega
theorem fdiv_pow (t s : Nat) : (t : Int).fdiv (2 ^ s) = ((t / 2 ^ s : Nat) : Int) := by
  have e : (2 : Int) ^ s = ((2 ^ s : Nat) : Int) := by simp
  rw [e, Int.fdiv_eq_ediv_of_nonneg _ (Int.natCast_nonneg _)]
  rfl
set_option maxRecDepth 100000 in
theorem right_ok (l : List Nat) (s : Nat) (hl : Small l) (hln : l.length < 4398046511104) (hs : s < 32) : PCall Tryz.prog 287 [.d (.sl (les l)), .d (.v (.int .i64 (s : Int)))] (.tup [.d (.sl (les (limbs (val l / 2 ^ s)))), .d (.v (.int .i64 0))]) := by
  have b1 := nl_val hl
  have n1 := length_limbs (val l)
  have ea := val_limbs (val l)
  have sa := small_limbs (val l)
  obtain ⟨a, ha⟩ : ∃ a, a = limbs (val l) := ⟨_, rfl⟩
  rw [← ha] at n1 ea sa
  have t1 : (s : Int).tmod 32 = s := by rw [Int.tmod_eq_emod_of_nonneg (by omega)]; omega
  have t2 : (s : Int).tdiv 32 = 0 := by rw [Int.tdiv_eq_ediv_of_nonneg (by omega)]; omega
  have m2 : min s 64 = s := by omega
  refine pcall_of hmo Tryz.func287 rfl (by kernel_rfl) (by simp [Tryz.ntmps287]) ?_
  have hs0 : ¬ (s : Int) < 0 := by omega
  simp -implicitDefEqProofs [go_sem, Tryz.ntmps287, hs0]
  refine .inl ⟨_, trim_ok l hl (by omega), ?_⟩
  rw [← ha]
  by_cases h0 : a.length = 0
  · have : val l = 0 := by rw [← ea, List.eq_nil_of_length_eq_zero h0]; rfl
    have h0' : ((a.length : Nat) : Int) ≤ 0 := by omega
    rw [this]
    simp -implicitDefEqProofs [go_sem, t2, h0, limbs_zero, les_nil]
  · have h0' : ¬ ((a.length : Nat) : Int) ≤ 0 := by omega
    have htk : List.take a.length (les a) = les a := List.take_of_length_le (by simp -implicitDefEqProofs [go_sem])
    simp -implicitDefEqProofs [go_sem, t2, h0, h0', htk]
    refine ⟨⟨by omega, by omega⟩, ?_⟩
    refine loop_rule [] (fun (k : Nat) => ⟨60, [(0, .d (.sl (les a))), (1, .d (.v (.int .i64 (s : Int)))), (6, .sr 76 0), (26, .d (.sl (les a))), (27, intP .i64 (a.length : Int)), (28, intP .i64 (k : Int))],
      [(76, .arr ⟨86, 1, 0, false, les (rights s a k ++ List.replicate (a.length - k) 0)⟩)], 1000⟩) (fun k => k ≤ a.length) (fun k => a.length - k) 0 (by omega) (by simp) (by simp -implicitDefEqProofs [go_sem, rights, les, ud]) (fun k hk => ?_)
    have hlk := length_rights s a k
    by_cases hka : k < a.length
    · obtain ⟨x, hx⟩ : ∃ x, x = a[k] := ⟨_, rfl⟩
      have hx2 : x < 4294967296 := hx ▸ sa _ (List.getElem_mem hka)
      have hxe : a[k]?.getD 0 = x := by simp [hka, hx]
      have e64 : (x : Int) % 18446744073709551616 = x := by omega
      have hfill := rights_fill s a k a.length hka
      rw [hxe] at hfill
      have hg : (les (rights s a k ++ List.replicate (a.length - k) 0))[k]? = some [ud ((rights s a k ++ List.replicate (a.length - k) 0)[k]?.getD 0)] := les_get (by simp; omega)
      by_cases hk1 : k + 1 < a.length
      · obtain ⟨y, hy⟩ : ∃ y, y = a[k + 1] := ⟨_, rfl⟩
        have hy2 : y < 4294967296 := hy ▸ sa _ (List.getElem_mem hk1)
        have hye : a[k + 1]?.getD 0 = y := by simp [hk1, hy]
        have hyg : (les a)[k + 1]? = some [ud y] := by rw [les_get hk1, hye]
        have ey : (y : Int) % 18446744073709551616 = y := by omega
        have ey2 : (y : Int) * 4294967296 % 18446744073709551616 = (y : Int) * 4294967296 := by omega
        have ek : ((k : Int) + 1).toNat = k + 1 := by omega
        have hk1' : (k : Int) + 1 < a.length := by omega
        rw [hye] at hfill
        simp -implicitDefEqProofs [go_sem, hka, hk1, hk1', ek, hyg]
        rw [← hx]
        simp -implicitDefEqProofs [go_sem, ud, e64, ey, ey2, t1, m2, bOr64' hx2 hy2, hg, hk1']
        have hc : ((((x + 4294967296 * y) / 2 ^ s : Nat) : Int)) % 4294967296 = (((x + 4294967296 * y) / 2 ^ s % 4294967296 : Nat) : Int) := by simp
        refine ⟨⟨by omega, by omega⟩, by omega, by omega, ⟨by omega, by omega⟩, k + 1, by omega, by omega, by omega, ?_⟩
        rw [← hy, ey, ey2, bOr64' hx2 hy2, fdiv_pow, hc, ← hfill, ← les_set]
        rfl
      · have hye : a[k + 1]?.getD 0 = 0 := by simp [hk1]
        have hk1' : ¬ (k : Int) + 1 < a.length := by omega
        rw [hye] at hfill
        simp -implicitDefEqProofs [go_sem, hka, hk1, hk1']
        rw [← hx]
        simp -implicitDefEqProofs [go_sem, ud, e64, t1, m2, hg, hk1']
        have hc : (((x / 2 ^ s : Nat) : Int)) % 4294967296 = ((x / 2 ^ s % 4294967296 : Nat) : Int) := by simp
        refine ⟨⟨by omega, by omega⟩, by omega, ⟨by omega, by omega⟩, k + 1, by omega, by omega, by omega, ?_⟩
        rw [fdiv_pow, hc, ← hfill, ← les_set]
        rfl
    · obtain rfl : k = a.length := by omega
      have hown := own_ok (rights s a a.length) (small_rights _ _ _) (by omega)
      rw [rights_end sa hs (Nat.le_refl _), ea] at hown
      simp -implicitDefEqProofs [go_sem]
      refine .inl ⟨_, hown, ?_⟩
      simp -implicitDefEqProofs [go_sem]
end Go.Mt
