/-
  A part of the proof.
-/
import Derived.Test.YtpoocfmphcgmkaaQri11
import Derived.Test.YtpoocfmphcgmkaaQri12
set_option linter.unusedVariables false
set_option linter.unusedSimpArgs false
set_option linter.unusedSimpArgs false
set_option linter.unusedVariables false
namespace Go.Mt
open Go Go.Pm Go.Proofs
theorem wrap8 (z : Int) : IntKind.u8.wrap z = z % 256 := by simp [IntKind.wrap, IntKind.signed, IntKind.bits]
theorem got_mk' {α : Type} {x : Option α} {σ : St} {k : St → α → Prop} (a : α) (h : x = some a) (hk : k σ a) : Got x σ k := by rw [h]; exact hk
theorem u8_blen {z : Nat} (h : z < 256) : (UInt8.ofNat (blen z)).toNat = blen z ∧ blen z ≤ 8 := by
  have := blen_le_of_lt (n := z) (k := 8) h
  refine ⟨?_, this⟩
  rw [UInt8.toNat_ofNat']
  omega
theorem wl (n : Nat) (h : n ≤ 8) : IntKind.i64.wrap (n : Int) = n := by rw [IntKind.wrap_i64]; omega
set_option maxRecDepth 100000 in
theorem len32_ok (x : Nat) (hx : x < 4294967296) : PCall Try.prog 75 [.d (ud x)] (.one (.d (.v (.int .i64 (blen x : Int))))) := by
  refine pcall_of hmo Try.func75 rfl (by kernel_rfl) (by simp [Try.ntmps75]) ?_
  obtain ⟨y, hy⟩ : ∃ y, y = x / 65536 := ⟨_, rfl⟩
  have f16 : (x : Int).fdiv 65536 = (y : Int) := by rw [Int.fdiv_eq_ediv_of_nonneg _ (by decide)]; omega
  by_cases h1 : 65536 ≤ x
  · have h1' : (65536 : Int) ≤ x := by omega
    obtain ⟨z, hz⟩ : ∃ z, z = y / 256 := ⟨_, rfl⟩
    have f8 : (y : Int).fdiv 256 = (z : Int) := by rw [Int.fdiv_eq_ediv_of_nonneg _ (by decide)]; omega
    by_cases h2 : 256 ≤ y
    · have h2' : (256 : Int) ≤ y := by omega
      have hz2 : z < 256 := by omega
      have e8 : (z : Int) % 256 = z := by omega
      have hb : blen x = 16 + (8 + blen z) := by rw [blen_shift 16 (by omega), show x / 2 ^ 16 = y by rw [hy], blen_shift 8 (by omega), show y / 2 ^ 8 = z by rw [hz]]
      obtain ⟨u1, u2⟩ := u8_blen hz2
      rw [hb]
      simp -implicitDefEqProofs [go_sem, Try.ntmps75, ud, h1', f16, h2', f8, wrap8, e8]
      refine ⟨by kernel_rfl, got_mk' (UInt8.ofNat (blen z)) (by clear u1 u2 hb e8 f8 hz; revert z; decide +kernel) ?_⟩
      simp -implicitDefEqProofs [go_sem, u1, wl _ u2]
      omega
    · have h2' : ¬ (256 : Int) ≤ y := by omega
      have hz2 : y < 256 := by omega
      have e8 : (y : Int) % 256 = y := by omega
      have hb : blen x = 16 + blen y := by rw [blen_shift 16 (by omega), show x / 2 ^ 16 = y by rw [hy]]
      obtain ⟨u1, u2⟩ := u8_blen hz2
      rw [hb]
      simp -implicitDefEqProofs [go_sem, Try.ntmps75, ud, h1', f16, h2', wrap8, e8]
      refine ⟨by kernel_rfl, got_mk' (UInt8.ofNat (blen y)) (by clear u1 u2 hb e8 f8 hz f16 hy h2 h2'; revert y; decide +kernel) ?_⟩
      simp -implicitDefEqProofs [go_sem, u1, wl _ u2]
      omega
  · have h1' : ¬ (65536 : Int) ≤ x := by omega
    obtain ⟨z, hz⟩ : ∃ z, z = x / 256 := ⟨_, rfl⟩
    have f8 : (x : Int).fdiv 256 = (z : Int) := by rw [Int.fdiv_eq_ediv_of_nonneg _ (by decide)]; omega
    by_cases h2 : 256 ≤ x
    · have h2' : (256 : Int) ≤ x := by omega
      have hz2 : z < 256 := by omega
      have e8 : (z : Int) % 256 = z := by omega
      have hb : blen x = 8 + blen z := by rw [blen_shift 8 (by omega), show x / 2 ^ 8 = z by rw [hz]]
      obtain ⟨u1, u2⟩ := u8_blen hz2
      rw [hb]
      simp -implicitDefEqProofs [go_sem, Try.ntmps75, ud, h1', h2', f8, wrap8, e8]
      refine ⟨by kernel_rfl, got_mk' (UInt8.ofNat (blen z)) (by clear u1 u2 hb e8 f8 hz; revert z; decide +kernel) ?_⟩
      simp -implicitDefEqProofs [go_sem, u1, wl _ u2]
      omega
    · have h2' : ¬ (256 : Int) ≤ x := by omega
      have hz2 : x < 256 := by omega
      have e8 : (x : Int) % 256 = x := by omega
      obtain ⟨u1, u2⟩ := u8_blen hz2
      simp -implicitDefEqProofs [go_sem, Try.ntmps75, ud, h1', h2', wrap8, e8]
      refine ⟨by kernel_rfl, got_mk' (UInt8.ofNat (blen x)) (by clear u1 u2 e8 f8 hz f16 hy h1 h1' h2 h2' hx; revert x; decide +kernel) ?_⟩
      simp -implicitDefEqProofs [go_sem, u1, wl _ u2]
      omega
theorem lead_ok (x : Nat) (hx : x < 4294967296) : PCall Try.prog 81 [.d (ud x)] (.one (.d (.v (.int .i64 ((32 - blen x : Nat) : Int))))) := by
  refine pcall_of hmo Try.func81 rfl (by kernel_rfl) (by simp [Try.ntmps81]) ?_
  have hb := blen_le_of_lt (n := x) (k := 32) hx
  simp -implicitDefEqProofs [go_sem, Try.ntmps81]
  refine .inl ⟨_, len32_ok x hx, ?_⟩
  simp -implicitDefEqProofs [go_sem]
  omega
set_option maxRecDepth 100000 in
theorem len_ok (l : List Nat) (hl : Small l) (hln : l.length < 1099511627776) : PCall Try.prog 63 [.d (.sl (les l))] (.one (.d (.v (.int .i64 (blen (val l) : Int))))) := by
  refine pcall_of hmo Try.func63 rfl (by kernel_rfl) (by simp [Try.ntmps63]) ?_
  simp -implicitDefEqProofs [go_sem, Try.ntmps63]
  refine .inl ⟨_, trim_ok l hl (by omega), ?_⟩
  have b1 := nl_val hl
  have n1 := length_limbs (val l)
  have ea := val_limbs (val l)
  have sa := small_limbs (val l)
  obtain ⟨v, hv⟩ : ∃ v, v = val l := ⟨_, rfl⟩
  rw [← hv] at b1 n1 ea sa
  rw [← hv]
  by_cases h0 : nl v = 0
  · have : v = 0 := by
      rcases Nat.eq_zero_or_pos v with h | h
      · exact h
      · have := nl_pos h; omega
    subst this
    simp -implicitDefEqProofs [go_sem, limbs_zero, les_nil, blen_zero]
  · have hlast : nl v - 1 < (limbs v).length := by omega
    have e1 : ((nl v : Int) - 1).toNat = nl v - 1 := by omega
    have e2 : (1 : Int) ≤ nl v := by omega
    obtain ⟨x, hx⟩ : ∃ x, x = (limbs v)[nl v - 1] := ⟨_, rfl⟩
    have hx2 : x < 4294967296 := hx ▸ sa _ (List.getElem_mem hlast)
    have hg : (les (limbs v))[nl v - 1]? = some [ud x] := by rw [les_get hlast, List.getElem?_eq_getElem hlast, hx]; rfl
    simp -implicitDefEqProofs [go_sem, length_limbs, h0, e1, e2, show 0 < nl v by omega, hg]
    refine ⟨by omega, by omega, by omega, .inl ⟨_, len32_ok x hx2, ?_⟩⟩
    simp -implicitDefEqProofs [go_sem]
    obtain ⟨_, h2⟩ := limbs_top (x := v) (j := nl v - 1) (by omega)
    rw [List.getElem?_eq_getElem hlast] at h2
    have h2 : blen v = 32 * (nl v - 1) + blen x := by rw [hx]; exact h2
    have h3 := blen_le_of_lt (n := x) (k := 32) hx2
    omega
end Go.Mt
