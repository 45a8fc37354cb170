/-
  A part of the proof.
-/
import Derived.Test.YtmhclkagdpbadaaGreatEtr8
import Derived.Test.YtmhclkagdpbadaaGreatEtr9
set_option linter.unusedVariables false
set_option linter.unusedSimpArgs false
set_option linter.unusedSimpArgs false
set_option linter.unusedVariables false
namespace Go.Mt
open Go Go.Pm Go.Proofs
theorem hmo : Tryz.prog.follows .mixedOrders = true := by kernel_rfl
def ud (x : Nat) : D := .v (.int .u32 (x : Int))
def les (l : List Nat) : List (List D) := l.map fun x => [ud x]
@[go_sem] theorem les_len (l : List Nat) : (les l).length = l.length := by simp [les]
@[go_sem] theorem les_one (l : List Nat) : (∀ e ∈ les l, e.length = 1) = True := by simp [les]
theorem les_at (l : List Nat) (i : Nat) : (les l)[i]? = (l[i]?).map fun x => [ud x] := by simp [les]
theorem les_get {l : List Nat} {i : Nat} (h : i < l.length) : (les l)[i]? = some [ud (l[i]?.getD 0)] := by rw [les_at, List.getElem?_eq_getElem h]; rfl
@[go_sem] theorem les_ge {l : List Nat} {i : Nat} (h : i < (les l).length) : (les l)[i] = [ud (l[i]'(by rw [les_len] at h; exact h))] := by simp [les]
theorem les_take (l : List Nat) (k : Nat) : (les l).take k = les (l.take k) := by simp [les, List.map_take]
section
variable {m n : Nat} {t : Slots} {h : Heap}
@[go_sem] theorem elem_eq {es : List (List D)} {i : Nat} {k : St → List D → Prop} : Elem es i ⟨m, t, h, n⟩ k = (match es[i]? with
    | some e => k ⟨m, t, h, n⟩ e
    | none => False) := by
  unfold Elem
  cases es[i]? with
  | none => simp
  | some e => simp
end
theorem limbs_take_val {l : List Nat} (hl : Small l) {j : Nat} (hj : j ≤ l.length) (h : j = 0 ∨ l[j-1]?.getD 0 ≠ 0) (hv : val (l.take j) = val l) : l.take j = limbs (val l) := by
  rw [← hv, limbs_of_val (hl.take j)]
  rcases h with h | h
  · left; subst h; rfl
  · right
    by_cases h0 : j = 0
    · subst h0
      simp at h
      cases l with
      | nil => simp at h
      | cons x l => simp [val] at hv; simp at h; omega
    · rw [List.length_take, show min j l.length = j by omega, List.getElem?_take_of_lt (by omega)]; exact h
theorem val_take_pred {l : List Nat} {k : Nat} (hk : 0 < k) (hl : k ≤ l.length) (h : l[k-1]?.getD 0 = 0) : val (l.take (k - 1)) = val (l.take k) := by
  have := val_take_succ (l := l) (k := k - 1) (by omega)
  rw [show k - 1 + 1 = k by omega, h] at this
  omega
theorem les_append (l m : List Nat) : les l ++ les m = les (l ++ m) := by simp [les]
theorem les_set (l : List Nat) (i x : Nat) : (les l).set i [ud x] = les (l.set i x) := by simp [les, List.map_set]
theorem les_nil : les [] = [] := rfl
@[go_sem] theorem wrap32 (z : Int) : IntKind.u32.wrap z = z % 4294967296 := by simp [IntKind.wrap, IntKind.signed, IntKind.bits]
@[go_sem] theorem wrap64 (z : Int) : IntKind.u64.wrap z = z % 18446744073709551616 := by simp [IntKind.wrap, IntKind.signed, IntKind.bits]
@[go_sem] theorem wrapi (z : Int) (h : -9223372036854775808 ≤ z ∧ z ≤ 9223372036854775807) : IntKind.i64.wrap z = z := by rw [IntKind.wrap_i64]; omega
@[go_sem] theorem fdiv32 (z : Int) : z.fdiv 4294967296 = z / 4294967296 := Int.fdiv_eq_ediv_of_nonneg _ (by decide)
section
variable (x : Nat)
@[go_sem] theorem cellsP_ud : cellsP (.d (ud x)) = [.d (ud x)] := rfl
@[go_sem] theorem one_ud : PV.one (.d (ud x)) = True := rfl
@[go_sem] theorem ren_ud (γ : Nat → Nat) : ren γ (.d (ud x)) = .d (ud x) := rfl
end
theorem bAnd32 {x y : Nat} (hx : x < 4294967296) (hy : y < 4294967296) : bAnd .u32 (x : Int) (y : Int) = ((x &&& y : Nat) : Int) := by
  rw [← band hx hy, ← wrap32]; rfl
theorem bOr32 {x y : Nat} (hx : x < 4294967296) (hy : y < 4294967296) : bOr .u32 (x : Int) (y : Int) = ((x ||| y : Nat) : Int) := by
  rw [← bor hx hy, ← wrap32]; rfl
theorem bXor32 {x y : Nat} (hx : x < 4294967296) (hy : y < 4294967296) : bXor .u32 (x : Int) (y : Int) = ((x ^^^ y : Nat) : Int) := by
  rw [← bxor hx hy, ← wrap32]; rfl
theorem bNot32 {x : Nat} (hx : x < 4294967296) : bNot .u32 (x : Int) = ((4294967295 ^^^ x : Nat) : Int) := by
  rw [← bxor (by decide) hx, ← wrap32]; rfl
theorem bOr64 {x y : Nat} (hy : y < 4294967296) (hx : x < 4294967296) : bOr .u64 ((x : Int) * 4294967296) (y : Int) = ((x * 4294967296 + y : Nat) : Int) := by
  have e : BitVec.ofInt 64 ((x : Int) * 4294967296) = BitVec.ofNat 64 (x * 4294967296) := by rw [← BitVec.ofInt_natCast]; congr 1
  have h1 : x * 4294967296 ||| y = x * 4294967296 + y := by
    have := Nat.two_pow_add_eq_or_of_lt (i := 32) (b := y) hy x
    rw [show (2:Nat)^32 = 4294967296 by decide, Nat.mul_comm] at this
    exact this.symm
  show IntKind.u64.wrap (BitVec.ofInt 64 ((x : Int) * 4294967296) ||| BitVec.ofInt 64 (y : Int)).toNat = _
  rw [e, BitVec.ofInt_natCast, BitVec.toNat_or, BitVec.toNat_ofNat, BitVec.toNat_ofNat, Nat.mod_eq_of_lt (by omega), Nat.mod_eq_of_lt (by omega), h1, wrap64]
  omega
@[go_sem] theorem fdiv31 (z : Int) : z.fdiv 2147483648 = z / 2147483648 := Int.fdiv_eq_ediv_of_nonneg _ (by decide)
theorem loop_rule {P : Program} {M : Md} {b : Code} {K : Exit → St → Prop} {σ : St} {α : Type} (gs : List Gh) (inv : α → St) (φ : α → Prop) (m : α → Nat) (x0 : α) (h0 : φ x0) (hn : ∀ x, φ x → σ.n ≤ (inv x).n) (hs : ghosts gs σ (Sub (inv x0)))
    (h : ∀ x, φ x → vc P M b (loopK inv φ m x K) (inv x)) : vc P M (.loop b) K σ := ⟨gs, α, inv, φ, m, x0, h0, hn, hs, h⟩
end Go.Mt
/-
  A part of the proof.
-/
set_option linter.unusedSimpArgs false
set_option linter.unusedVariables false
namespace Go.Mt
open Go Go.Pm Go.Proofs
theorem trim_ok (l : List Nat) (hl : Small l) (hn : l.length < 4398046511104) : PCall Tryz.prog 249 [.d (.sl (les l))] (.one (.d (.sl (les (limbs (val l)))))) := by
  refine pcall_of hmo Tryz.func249 rfl (by kernel_rfl) (by simp [Tryz.ntmps249]) ?_
  simp -implicitDefEqProofs [go_sem, Tryz.ntmps249]
  refine loop_rule [] (fun k => ⟨21, [(0, .d (.sl (les (l.take k))))], [], 4⟩) (fun k => k ≤ l.length ∧ val (l.take k) = val l) id l.length (by simp) (by simp) (by simp -implicitDefEqProofs [go_sem]) (fun k ⟨hk1, hk2⟩ => ?_)
  have hlen : (l.take k).length = k := by simp; omega
  by_cases hk : k = 0
  · simp -implicitDefEqProofs [go_sem, hlen, hk]
    rw [← limbs_take_val hl (j := 0) (by omega) (.inl rfl) (hk ▸ hk2)]; rfl
  have h0 : 0 < k := by omega
  have hg : (les (l.take k))[k - 1]? = some [ud (l[k-1]?.getD 0)] := by
    rw [les_get (by omega), List.getElem?_take_of_lt (by omega)]
  have e1 : ((k : Int) - 1).toNat = k - 1 := by omega
  by_cases hx : l[k-1]?.getD 0 = 0
  · simp -implicitDefEqProofs [go_sem, hlen, h0, hg, hx, ud, les_take, e1]
    refine ⟨by omega, by omega, by omega, by omega, k - 1, ⟨by omega, ?_⟩, by omega, ?_⟩
    · rw [val_take_pred h0 hk1 hx, hk2]
    · rw [List.take_take, show min (k - 1) k = k - 1 by omega]
  · simp -implicitDefEqProofs [go_sem, hlen, h0, hg, hx, ud]
    refine ⟨by omega, by omega, ?_⟩
    rw [limbs_take_val hl hk1 (.inr hx) hk2]
theorem own_ok (l : List Nat) (hl : Small l) (hn : l.length < 4398046511104) : PCall Tryz.prog 245 [.d (.sl (les l))] (.one (.d (.sl (les (limbs (val l)))))) := by
  refine pcall_of hmo Tryz.func245 rfl (by kernel_rfl) (by simp [Tryz.ntmps245]) ?_
  simp -implicitDefEqProofs [go_sem, Tryz.ntmps245]
  refine .inl ⟨_, trim_ok l hl hn, ?_⟩
  have h1 := nl_val hl
  by_cases h0 : val l = 0
  · simp -implicitDefEqProofs [go_sem, h0, limbs_zero, les_nil]
  · have h2 : nl (val l) ≠ 0 := by have := nl_pos (n := val l) (by omega); omega
    simp -implicitDefEqProofs [go_sem, length_limbs, h2]
    exact ⟨by omega, List.take_of_length_le (by simp -implicitDefEqProofs [go_sem, length_limbs])⟩
theorem norm_ok (l : List Nat) (hl : Small l) (hn : l.length < 4398046511104) : PCall Tryz.prog 247 [.d (.sl (les l))] (.one (.d (.sl (les (limbs (val l)))))) := by
  refine pcall_of hmo Tryz.func247 rfl (by kernel_rfl) (by simp [Tryz.ntmps247]) ?_
  simp -implicitDefEqProofs [go_sem, Tryz.ntmps247]
  refine .inl ⟨_, own_ok l hl hn, ?_⟩
  simp -implicitDefEqProofs [go_sem]
theorem of_ok (n : Nat) (hn : n < 18446744073709551616) : PCall Tryz.prog 187 [.d (.v (.int .u64 n))] (.one (.d (.sl (les (limbs n))))) := by
  refine pcall_of hmo Tryz.func187 rfl (by kernel_rfl) (by simp [Tryz.ntmps187]) ?_
  have h := own_ok [n % 4294967296, n / 4294967296] (small_cons (by omega) (small_cons (by omega) small_nil)) (by simp)
  have e : val [n % 4294967296, n / 4294967296] = n := by simp [val]; omega
  rw [e] at h
  simp [les, ud] at h
  have e2 : (n : Int) / 4294967296 % 4294967296 = n / 4294967296 := by omega
  simp -implicitDefEqProofs [go_sem, Tryz.ntmps187, e2]
  refine .inl ⟨_, h, ?_⟩
  simp -implicitDefEqProofs [go_sem]
  rfl
theorem add32_ok (x y c : Nat) (hx : x < 4294967296) (hy : y < 4294967296) (hc : c < 4294967296) : PCall Tryz.prog 282 [.d (ud x), .d (ud y), .d (ud c)] (.tup [.d (ud (addOut c x y)), .d (ud (addNxt c x y))]) := by
  refine pcall_of hmo Tryz.func282 rfl (by kernel_rfl) (by simp [Tryz.ntmps282]) ?_
  simp -implicitDefEqProofs [go_sem, Tryz.ntmps282, ud, addOut, addNxt]
  omega
theorem sub32_ok (x y c : Nat) (hx : x < 4294967296) (hy : y < 4294967296) (hc : c ≤ 1) : PCall Tryz.prog 291 [.d (ud x), .d (ud y), .d (ud c)] (.tup [.d (ud (subOut c x y)), .d (ud (subNxt c x y))]) := by
  refine pcall_of hmo Tryz.func291 rfl (by kernel_rfl) (by simp [Tryz.ntmps291]) ?_
  have e2 : (4294967296 : Nat) = 2 ^ 32 := by decide
  have hd : subOut c x y < 4294967296 := Nat.mod_lt _ (by decide)
  have hmx : 4294967295 ^^^ x < 4294967296 := by rw [e2] at *; exact Nat.xor_lt_two_pow (by decide) hx
  have hxy : x ^^^ y < 4294967296 := by rw [e2] at *; exact Nat.xor_lt_two_pow hx hy
  have hmxy : 4294967295 ^^^ (x ^^^ y) < 4294967296 := by rw [e2] at *; exact Nat.xor_lt_two_pow (by decide) hxy
  have ha1 : (4294967295 ^^^ x) &&& y < 4294967296 := by rw [e2] at *; exact Nat.and_lt_two_pow _ hy
  have ha2 : (4294967295 ^^^ (x ^^^ y)) &&& subOut c x y < 4294967296 := by rw [e2] at *; exact Nat.and_lt_two_pow _ hd
  have key := borrow_nat x y c (subOut c x y) hx hy hc hd (by unfold subOut; exact sub_limb _ x y c hx hy hc)
  simp -implicitDefEqProofs [go_sem, Tryz.ntmps291, ud, sub_int x y c hx hy hc]
  rw [bNot32 hx, bXor32 hx hy, bNot32 hxy, bAnd32 hmx hy, bAnd32 hmxy hd, bOr32 ha1 ha2]
  unfold subNxt
  omega
/-- the sum's next limb; its carry lies in a box -/
theorem addC_ok (x y c id n : Nat) (hn : id < n) (hx : x < 4294967296) (hy : y < 4294967296) (hc : c < 4294967296) : HCall Tryz.prog 281 [.d (ud x), .d (ud y), .pr id 0 0 0] [(id, .box [.d (ud c)])] n (.d (ud (addOut c x y))) [(id, .box [.d (ud (addNxt c x y))])] := by
  refine hcall_of (L := []) hmo Tryz.func281 rfl (by kernel_rfl) (by simp [Tryz.ntmps281]) (by simp -implicitDefEqProofs [go_sem, hn]) (by simp -implicitDefEqProofs [go_sem, hn]) ?_
  simp -implicitDefEqProofs [go_sem, Tryz.ntmps281]
  refine .inl ⟨_, add32_ok x y c hx hy hc, ?_⟩
  simp -implicitDefEqProofs [go_sem, ud]
end Go.Mt
/-
  A part of the proof.
-/
set_option linter.unusedSimpArgs false
set_option linter.unusedVariables false
namespace Go.Mt
open Go Go.Pm Go.Proofs
def cmpZ (a b : Nat) : Int := if a < b then -1 else if b < a then 1 else 0
theorem cmp_ok (l m : List Nat) (hl : Small l) (hm : Small m) (hln : l.length < 4398046511104) (hmn : m.length < 4398046511104) : PCall Tryz.prog 250 [.d (.sl (les l)), .d (.sl (les m))] (.one (.d (.v (.int .i64 (cmpZ (val l) (val m)))))) := by
  refine pcall_of hmo Tryz.func250 rfl (by kernel_rfl) (by simp [Tryz.ntmps250]) ?_
  simp -implicitDefEqProofs [go_sem, Tryz.ntmps250]
  refine .inl ⟨_, trim_ok l hl hln, ?_⟩
  simp -implicitDefEqProofs [go_sem]
  refine .inl ⟨_, trim_ok m hm hmn, ?_⟩
  have b1 := nl_val hl
  have b2 := nl_val hm
  obtain ⟨a, ha⟩ : ∃ a, a = val l := ⟨_, rfl⟩
  obtain ⟨b, hb⟩ : ∃ b, b = val m := ⟨_, rfl⟩
  rw [← ha] at b1
  rw [← hb] at b2
  rw [← ha, ← hb]
  by_cases h1 : nl a = nl b
  · simp -implicitDefEqProofs [go_sem, length_limbs, h1]
    refine ⟨by omega, ?_⟩
    refine loop_rule [] (fun (k : Nat) => ⟨45, [(5, intP .i64 ((k : Int) - 1)), (0, .d (.sl (les (limbs a)))), (1, .d (.sl (les (limbs b))))], [], 1000⟩) (fun (k : Nat) => k ≤ nl b ∧ (limbs a).drop k = (limbs b).drop k) id (nl b) (by
      refine ⟨Nat.le_refl _, ?_⟩
      rw [List.drop_eq_nil_of_le (by rw [length_limbs]; omega), List.drop_eq_nil_of_le (by rw [length_limbs]; omega)]) (by simp) (by simp -implicitDefEqProofs [go_sem]) (fun k ⟨hk1, hk2⟩ => ?_)
    by_cases hk : k = 0
    · simp -implicitDefEqProofs [go_sem, hk]
      subst hk
      have e : a = b := limbs_inj (by simpa using hk2)
      simp [cmpZ, e]
    have h0 : 0 < k := by omega
    have h0' : (1 : Int) ≤ k := by omega
    have hka : k - 1 < (limbs a).length := by rw [length_limbs]; omega
    have hkb : k - 1 < (limbs b).length := by rw [length_limbs]; omega
    have g1 : (les (limbs a))[k - 1]? = some [ud ((limbs a)[k-1]?.getD 0)] := les_get hka
    have g2 : (les (limbs b))[k - 1]? = some [ud ((limbs b)[k-1]?.getD 0)] := les_get hkb
    have e1 : ((k : Int) - 1).toNat = k - 1 := by omega
    have ea := val_limbs a
    have eb := val_limbs b
    obtain ⟨x, hx⟩ : ∃ x, x = (limbs a)[k-1]?.getD 0 := ⟨_, rfl⟩
    obtain ⟨y, hy⟩ : ∃ y, y = (limbs b)[k-1]?.getD 0 := ⟨_, rfl⟩
    rw [← hx] at g1
    rw [← hy] at g2
    have hd : (limbs a).drop (k - 1 + 1) = (limbs b).drop (k - 1 + 1) := by rw [show k - 1 + 1 = k by omega]; exact hk2
    have hxy' : x ≠ y → ¬ ((x : Int) = y) := fun h e => h (by omega)
    by_cases hxy : x = y
    · simp -implicitDefEqProofs [go_sem, h0, h0', g1, g2, hxy, ud, e1, length_limbs, h1]
      refine ⟨by kernel_rfl, ⟨by omega, by omega⟩, k - 1, ⟨by omega, ?_⟩, by omega, by omega⟩
      exact drop_eq_step hka hkb hd (by rw [← hx, ← hy, hxy])
    · by_cases hlt : x < y
      · have hv := val_lt_at (small_limbs a) hka hkb hd (by rw [← hx, ← hy]; exact hlt)
        rw [ea, eb] at hv
        simp -implicitDefEqProofs [go_sem, h0, h0', g1, g2, hxy, hxy' hxy, ud, e1, length_limbs, h1, hlt]
        refine ⟨by kernel_rfl, by kernel_rfl, ?_⟩
        simp [cmpZ, hv]
      · have hv := val_lt_at (small_limbs b) hkb hka hd.symm (by rw [← hx, ← hy]; omega)
        rw [ea, eb] at hv
        simp -implicitDefEqProofs [go_sem, h0, h0', g1, g2, hxy, hxy' hxy, ud, e1, length_limbs, h1, hlt]
        refine ⟨by kernel_rfl, by kernel_rfl, ?_⟩
        have : ¬ a < b := by omega
        simp [cmpZ, hv, this]
  · have h1' : ¬ ((nl a : Int) = nl b) := by omega
    by_cases h2 : nl a < nl b
    · have := lt_of_nl_lt h2
      simp -implicitDefEqProofs [go_sem, length_limbs, h1, h1', h2]
      simp [cmpZ, this]
    · have := lt_of_nl_lt (m := b) (n := a) (by omega)
      simp -implicitDefEqProofs [go_sem, length_limbs, h1, h1', h2]
      simp [cmpZ, this]
      omega
end Go.Mt
