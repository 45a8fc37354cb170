/-
  Facts on the bits of words: plain lemmas, no program.
-/
import Derived.WalkKit
import Derived.Laws.BitsAllLaws
import Derived.Test.YtbhenelehhiakaaGreatSum1
set_option linter.unusedVariables false
set_option linter.unusedSimpArgs false
namespace Go.Proofs.YtbhenelehhiakaaGreat
open Go.RowKit

theorem top_bit {n : Nat} (h : n < 4294967296) : n / 2147483648 = (n.testBit 31).toNat := by
  rw [Nat.testBit_eq_decide_div_mod_eq]
  have e : (2 : Nat) ^ 31 = 2147483648 := by decide
  rw [e]
  by_cases h1 : n / 2147483648 % 2 = 1
  · rw [decide_eq_true h1]; simp; omega
  · rw [decide_eq_false h1]; simp; omega

theorem testBit31 {n : Nat} (h : n < 4294967296) : n.testBit 31 = decide (2147483648 ≤ n) := by
  rw [Nat.testBit_eq_decide_div_mod_eq]
  have e : (2 : Nat) ^ 31 = 2147483648 := by decide
  rw [e, decide_eq_decide]
  omega

theorem borrow_nat (x y s d : Nat) (hx : x < 4294967296) (hy : y < 4294967296) (hs : s ≤ 1) (hd : d < 4294967296) (h : d + y + s = x + 4294967296 * (if x < y + s then 1 else 0)) :
    (((4294967295 ^^^ x) &&& y) ||| ((4294967295 ^^^ (x ^^^ y)) &&& d)) / 2147483648 = if x < y + s then 1 else 0 := by
  have e2 : (4294967296 : Nat) = 2 ^ 32 := by decide
  have hl : (((4294967295 ^^^ x) &&& y) ||| ((4294967295 ^^^ (x ^^^ y)) &&& d)) < 4294967296 := by
    rw [e2] at *
    exact Nat.or_lt_two_pow (Nat.and_lt_two_pow _ hy) (Nat.and_lt_two_pow _ hd)
  rw [top_bit hl]
  simp only [Nat.testBit_or, Nat.testBit_and, Nat.testBit_xor]
  rw [testBit31 hx, testBit31 hy, testBit31 hd, testBit31 (by decide : 4294967295 < 4294967296)]
  split at h
  · rename_i hc
    rw [if_pos hc]
    by_cases h1 : 2147483648 ≤ x <;> by_cases h2 : 2147483648 ≤ y <;> by_cases h3 : 2147483648 ≤ d <;> simp [h1, h2, h3] <;> omega
  · rename_i hc
    rw [if_neg hc]
    by_cases h1 : 2147483648 ≤ x <;> by_cases h2 : 2147483648 ≤ y <;> by_cases h3 : 2147483648 ≤ d <;> simp [h1, h2, h3] <;> omega

theorem sub_int (x y s : Nat) (hx : x < 4294967296) (hy : y < 4294967296) (hs : s ≤ 1) : ((x : Int) - y - s) % 4294967296 = ((subOut s x y : Nat) : Int) := by
  unfold subOut
  have e : (((x + 4294967296 - y - s) % 4294967296 : Nat) : Int) = ((x : Int) + 4294967296 - y - s) % 4294967296 := by omega
  rw [e]
  omega

theorem borrow_bits (x y s : Nat) (hx : x < 4294967296) (hy : y < 4294967296) (hs : s ≤ 1) :
    bits BinOp.or IntKind.u32 (bits BinOp.and IntKind.u32 (bits BinOp.xor IntKind.u32 IntKind.u32.max (x : Int)) (y : Int))
      (bits BinOp.and IntKind.u32 (bits BinOp.xor IntKind.u32 IntKind.u32.max (bits BinOp.xor IntKind.u32 (x : Int) (y : Int))) (((x : Int) - y - s) % 4294967296)) / 2147483648 = ((subNxt s x y : Nat) : Int) := by
  have hd : subOut s x y < 4294967296 := Nat.mod_lt _ (by decide)
  have hm : IntKind.u32.max = ((4294967295 : Nat) : Int) := by decide
  have e2 : (4294967296 : Nat) = 2 ^ 32 := by decide
  have hmx : 4294967295 ^^^ x < 4294967296 := by rw [e2] at *; exact Nat.xor_lt_two_pow (by decide) hx
  have hxy : x ^^^ y < 4294967296 := by rw [e2] at *; exact Nat.xor_lt_two_pow hx hy
  have hmxy : 4294967295 ^^^ (x ^^^ y) < 4294967296 := by rw [e2] at *; exact Nat.xor_lt_two_pow (by decide) hxy
  have ha1 : (4294967295 ^^^ x) &&& y < 4294967296 := by rw [e2] at *; exact Nat.and_lt_two_pow _ hy
  have ha2 : (4294967295 ^^^ (x ^^^ y)) &&& subOut s x y < 4294967296 := by rw [e2] at *; exact Nat.and_lt_two_pow _ hd
  rw [sub_int x y s hx hy hs, hm, u32_xor_nat x y hx hy, u32_xor_nat 4294967295 x (by decide) hx, u32_xor_nat 4294967295 _ (by decide) hxy, u32_and_nat _ _ hmx hy, u32_and_nat _ _ hmxy hd, u32_or_nat _ _ ha1 ha2]
  have key := borrow_nat x y s (subOut s x y) hx hy hs hd (by unfold subOut; exact sub_limb _ x y s hx hy hs)
  unfold subNxt
  rw [← key]
  rfl

theorem wrap_shl {x s : Nat} (hx : x < 4294967296) (hs : s < 32) : IntKind.u64.wrap ((x : Int) * 2 ^ s) / 4294967296 % 4294967296 = ((x * 2 ^ s / 4294967296 : Nat) : Int) := by
  have h1 := mul_pow_lt hx hs
  have h2 := left_carry (s := s) hx
  have h3 := pow_s_le hs
  have e : (x : Int) * 2 ^ s = ((x * 2 ^ s : Nat) : Int) := by rw [Int.natCast_mul, Int.natCast_pow]; rfl
  have e2 : IntKind.u64.wrap ((x * 2 ^ s : Nat) : Int) = ((x * 2 ^ s : Nat) : Int) := by
    simp only [IntKind.wrap, IntKind.bits, IntKind.signed]
    generalize x * 2 ^ s = y at *
    simp
    omega
  rw [e, e2]
  generalize x * 2 ^ s = y at *
  omega

theorem wrap_u64_eq (n : Int) : IntKind.u64.wrap n = n % 18446744073709551616 := by simp [IntKind.wrap, IntKind.bits, IntKind.signed]

theorem wrap_sub_lo (u p s : Nat) (hu : u < 4294967296) (hp : p < 4294967296) (hs : s ≤ 1) : IntKind.u64.wrap (IntKind.u64.wrap ((u : Int) - (p : Int)) - (s : Int)) % 4294967296 = ((subOut s u p : Nat) : Int) := by
  rw [← sub_int u p s hu hp hs, wrap_u64_eq, wrap_u64_eq]
  omega
theorem wrap_sub_hi (u p s : Nat) (hu : u < 4294967296) (hp : p < 4294967296) (hs : s ≤ 1) : IntKind.u64.wrap (IntKind.u64.wrap ((u : Int) - (p : Int)) - (s : Int)) / 9223372036854775808 = ((subNxt s u p : Nat) : Int) := by
  unfold subNxt
  rw [wrap_u64_eq, wrap_u64_eq]
  split <;> omega

end Go.Proofs.YtbhenelehhiakaaGreat
