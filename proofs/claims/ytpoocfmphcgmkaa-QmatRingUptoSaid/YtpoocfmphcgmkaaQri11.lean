/-
  A part of the proof.
-/
import Derived.Test.YtpoocfmphcgmkaaQri10
import Derived.Test.YtpoocfmphcgmkaaQri1
set_option linter.unusedVariables false
set_option linter.unusedSimpArgs false
set_option linter.unusedSimpArgs false
set_option linter.unusedVariables false
namespace Go.Mt
open Go Go.Pm Go.Proofs
theorem hmo : Try.prog.follows .mixedOrders = true := by kernel_rfl
def ud (x : Nat) : D := .v (.int .u32 (x : Int))
def les (l : List Nat) : List (List D) := l.map fun x => [ud x]
@[go_sem] theorem les_len (l : List Nat) : (les l).length = l.length := by simp [les]
@[go_sem] theorem les_one (l : List Nat) : (∀ e ∈ les l, e.length = 1) = True := by simp [les]
theorem les_at (l : List Nat) (i : Nat) : (les l)[i]? = (l[i]?).map fun x => [ud x] := by simp [les]
theorem les_get {l : List Nat} {i : Nat} (h : i < l.length) : (les l)[i]? = some [ud (l[i]?.getD 0)] := by rw [les_at, List.getElem?_eq_getElem h]; rfl
@[go_sem] theorem les_ge {l : List Nat} {i : Nat} (h : i < (les l).length) : (les l)[i] = [ud (l[i]'(by rw [les_len] at h; exact h))] := by simp [les]
theorem les_take (l : List Nat) (k : Nat) : (les l).take k = les (l.take k) := by simp [les, List.map_take]
section
variable {m n : Nat} {t : Slots} {h : Heap}
@[go_sem] theorem elem_eq {es : List (List D)} {i : Nat} {k : St → List D → Prop} : Elem es i ⟨m, t, h, n⟩ k = (match es[i]? with
    | some e => k ⟨m, t, h, n⟩ e
    | none => False) := by
  unfold Elem
  cases es[i]? with
  | none => simp
  | some e => simp
end
theorem limbs_take_val {l : List Nat} (hl : Small l) {j : Nat} (hj : j ≤ l.length) (h : j = 0 ∨ l[j-1]?.getD 0 ≠ 0) (hv : val (l.take j) = val l) : l.take j = limbs (val l) := by
  rw [← hv, limbs_of_val (hl.take j)]
  rcases h with h | h
  · left; subst h; rfl
  · right
    by_cases h0 : j = 0
    · subst h0
      simp at h
      cases l with
      | nil => simp at h
      | cons x l => simp [val] at hv; simp at h; omega
    · rw [List.length_take, show min j l.length = j by omega, List.getElem?_take_of_lt (by omega)]; exact h
theorem val_take_pred {l : List Nat} {k : Nat} (hk : 0 < k) (hl : k ≤ l.length) (h : l[k-1]?.getD 0 = 0) : val (l.take (k - 1)) = val (l.take k) := by
  have := val_take_succ (l := l) (k := k - 1) (by omega)
  rw [show k - 1 + 1 = k by omega, h] at this
  omega
theorem les_append (l m : List Nat) : les l ++ les m = les (l ++ m) := by simp [les]
theorem les_set (l : List Nat) (i x : Nat) : (les l).set i [ud x] = les (l.set i x) := by simp [les, List.map_set]
theorem les_nil : les [] = [] := rfl
@[go_sem] theorem wrap32 (z : Int) : IntKind.u32.wrap z = z % 4294967296 := by simp [IntKind.wrap, IntKind.signed, IntKind.bits]
@[go_sem] theorem wrap64 (z : Int) : IntKind.u64.wrap z = z % 18446744073709551616 := by simp [IntKind.wrap, IntKind.signed, IntKind.bits]
@[go_sem] theorem wrapi (z : Int) (h : -9223372036854775808 ≤ z ∧ z ≤ 9223372036854775807) : IntKind.i64.wrap z = z := by rw [IntKind.wrap_i64]; omega
@[go_sem] theorem fdiv32 (z : Int) : z.fdiv 4294967296 = z / 4294967296 := Int.fdiv_eq_ediv_of_nonneg _ (by decide)
section
variable (x : Nat)
@[go_sem] theorem cellsP_ud : cellsP (.d (ud x)) = [.d (ud x)] := rfl
@[go_sem] theorem one_ud : PV.one (.d (ud x)) = True := rfl
@[go_sem] theorem ren_ud (γ : Nat → Nat) : ren γ (.d (ud x)) = .d (ud x) := rfl
end
theorem bAnd32 {x y : Nat} (hx : x < 4294967296) (hy : y < 4294967296) : bAnd .u32 (x : Int) (y : Int) = ((x &&& y : Nat) : Int) := by
  rw [← band hx hy, ← wrap32]; rfl
theorem bOr32 {x y : Nat} (hx : x < 4294967296) (hy : y < 4294967296) : bOr .u32 (x : Int) (y : Int) = ((x ||| y : Nat) : Int) := by
  rw [← bor hx hy, ← wrap32]; rfl
theorem bXor32 {x y : Nat} (hx : x < 4294967296) (hy : y < 4294967296) : bXor .u32 (x : Int) (y : Int) = ((x ^^^ y : Nat) : Int) := by
  rw [← bxor hx hy, ← wrap32]; rfl
theorem bNot32 {x : Nat} (hx : x < 4294967296) : bNot .u32 (x : Int) = ((4294967295 ^^^ x : Nat) : Int) := by
  rw [← bxor (by decide) hx, ← wrap32]; rfl
theorem bOr64 {x y : Nat} (hy : y < 4294967296) (hx : x < 4294967296) : bOr .u64 ((x : Int) * 4294967296) (y : Int) = ((x * 4294967296 + y : Nat) : Int) := by
  have e : BitVec.ofInt 64 ((x : Int) * 4294967296) = BitVec.ofNat 64 (x * 4294967296) := by rw [← BitVec.ofInt_natCast]; congr 1
  have h1 : x * 4294967296 ||| y = x * 4294967296 + y := by
    have := Nat.two_pow_add_eq_or_of_lt (i := 32) (b := y) hy x
    rw [show (2:Nat)^32 = 4294967296 by decide, Nat.mul_comm] at this
    exact this.symm
  show IntKind.u64.wrap (BitVec.ofInt 64 ((x : Int) * 4294967296) ||| BitVec.ofInt 64 (y : Int)).toNat = _
  rw [e, BitVec.ofInt_natCast, BitVec.toNat_or, BitVec.toNat_ofNat, BitVec.toNat_ofNat, Nat.mod_eq_of_lt (by omega), Nat.mod_eq_of_lt (by omega), h1, wrap64]
  omega
@[go_sem] theorem fdiv31 (z : Int) : z.fdiv 2147483648 = z / 2147483648 := Int.fdiv_eq_ediv_of_nonneg _ (by decide)
theorem loop_rule {P : Program} {M : Md} {b : Code} {K : Exit → St → Prop} {σ : St} {α : Type} (gs : List Gh) (inv : α → St) (φ : α → Prop) (m : α → Nat) (x0 : α) (h0 : φ x0) (hn : ∀ x, φ x → σ.n ≤ (inv x).n) (hs : ghosts gs σ (Sub (inv x0)))
    (h : ∀ x, φ x → vc P M b (loopK inv φ m x K) (inv x)) : vc P M (.loop b) K σ := ⟨gs, α, inv, φ, m, x0, h0, hn, hs, h⟩
end Go.Mt
/-
  A part of the proof.
-/
set_option linter.unusedSimpArgs false
set_option linter.unusedVariables false
namespace Go.Mt
open Go Go.Pm Go.Proofs
theorem trim_ok (l : List Nat) (hl : Small l) (hn : l.length < 4398046511104) : PCall Try.prog 65 [.d (.sl (les l))] (.one (.d (.sl (les (limbs (val l)))))) := by
  refine pcall_of hmo Try.func65 rfl (by kernel_rfl) (by simp [Try.ntmps65]) ?_
  simp -implicitDefEqProofs [go_sem, Try.ntmps65]
  refine loop_rule [] (fun k => ⟨21, [(0, .d (.sl (les (l.take k))))], [], 4⟩) (fun k => k ≤ l.length ∧ val (l.take k) = val l) id l.length (by simp) (by simp) (by simp -implicitDefEqProofs [go_sem]) (fun k ⟨hk1, hk2⟩ => ?_)
  have hlen : (l.take k).length = k := by simp; omega
  by_cases hk : k = 0
  · simp -implicitDefEqProofs [go_sem, hlen, hk]
    rw [← limbs_take_val hl (j := 0) (by omega) (.inl rfl) (hk ▸ hk2)]; rfl
  have h0 : 0 < k := by omega
  have hg : (les (l.take k))[k - 1]? = some [ud (l[k-1]?.getD 0)] := by
    rw [les_get (by omega), List.getElem?_take_of_lt (by omega)]
  have e1 : ((k : Int) - 1).toNat = k - 1 := by omega
  by_cases hx : l[k-1]?.getD 0 = 0
  · simp -implicitDefEqProofs [go_sem, hlen, h0, hg, hx, ud, les_take, e1]
    refine ⟨by omega, by omega, by omega, by omega, k - 1, ⟨by omega, ?_⟩, by omega, ?_⟩
    · rw [val_take_pred h0 hk1 hx, hk2]
    · rw [List.take_take, show min (k - 1) k = k - 1 by omega]
  · simp -implicitDefEqProofs [go_sem, hlen, h0, hg, hx, ud]
    refine ⟨by omega, by omega, ?_⟩
    rw [limbs_take_val hl hk1 (.inr hx) hk2]
theorem own_ok (l : List Nat) (hl : Small l) (hn : l.length < 4398046511104) : PCall Try.prog 66 [.d (.sl (les l))] (.one (.d (.sl (les (limbs (val l)))))) := by
  refine pcall_of hmo Try.func66 rfl (by kernel_rfl) (by simp [Try.ntmps66]) ?_
  simp -implicitDefEqProofs [go_sem, Try.ntmps66]
  refine .inl ⟨_, trim_ok l hl hn, ?_⟩
  have h1 := nl_val hl
  by_cases h0 : val l = 0
  · simp -implicitDefEqProofs [go_sem, h0, limbs_zero, les_nil]
  · have h2 : nl (val l) ≠ 0 := by have := nl_pos (n := val l) (by omega); omega
    simp -implicitDefEqProofs [go_sem, length_limbs, h2]
    exact ⟨by omega, List.take_of_length_le (by simp -implicitDefEqProofs [go_sem, length_limbs])⟩
theorem norm_ok (l : List Nat) (hl : Small l) (hn : l.length < 4398046511104) : PCall Try.prog 64 [.d (.sl (les l))] (.one (.d (.sl (les (limbs (val l)))))) := by
  refine pcall_of hmo Try.func64 rfl (by kernel_rfl) (by simp [Try.ntmps64]) ?_
  simp -implicitDefEqProofs [go_sem, Try.ntmps64]
  refine .inl ⟨_, own_ok l hl hn, ?_⟩
  simp -implicitDefEqProofs [go_sem]
theorem of_ok (n : Nat) (hn : n < 18446744073709551616) : PCall Try.prog 54 [.d (.v (.int .u64 n))] (.one (.d (.sl (les (limbs n))))) := by
  refine pcall_of hmo Try.func54 rfl (by kernel_rfl) (by simp [Try.ntmps54]) ?_
  have h := own_ok [n % 4294967296, n / 4294967296] (small_cons (by omega) (small_cons (by omega) small_nil)) (by simp)
  have e : val [n % 4294967296, n / 4294967296] = n := by simp [val]; omega
  rw [e] at h
  simp [les, ud] at h
  have e2 : (n : Int) / 4294967296 % 4294967296 = n / 4294967296 := by omega
  simp -implicitDefEqProofs [go_sem, Try.ntmps54, e2]
  refine .inl ⟨_, h, ?_⟩
  simp -implicitDefEqProofs [go_sem]
  rfl
theorem add32_ok (x y c : Nat) (hx : x < 4294967296) (hy : y < 4294967296) (hc : c < 4294967296) : PCall Try.prog 69 [.d (ud x), .d (ud y), .d (ud c)] (.tup [.d (ud (addOut c x y)), .d (ud (addNxt c x y))]) := by
  refine pcall_of hmo Try.func69 rfl (by kernel_rfl) (by simp [Try.ntmps69]) ?_
  simp -implicitDefEqProofs [go_sem, Try.ntmps69, ud, addOut, addNxt]
  omega
theorem sub32_ok (x y c : Nat) (hx : x < 4294967296) (hy : y < 4294967296) (hc : c ≤ 1) : PCall Try.prog 80 [.d (ud x), .d (ud y), .d (ud c)] (.tup [.d (ud (subOut c x y)), .d (ud (subNxt c x y))]) := by
  refine pcall_of hmo Try.func80 rfl (by kernel_rfl) (by simp [Try.ntmps80]) ?_
  have e2 : (4294967296 : Nat) = 2 ^ 32 := by decide
  have hd : subOut c x y < 4294967296 := Nat.mod_lt _ (by decide)
  have hmx : 4294967295 ^^^ x < 4294967296 := by rw [e2] at *; exact Nat.xor_lt_two_pow (by decide) hx
  have hxy : x ^^^ y < 4294967296 := by rw [e2] at *; exact Nat.xor_lt_two_pow hx hy
  have hmxy : 4294967295 ^^^ (x ^^^ y) < 4294967296 := by rw [e2] at *; exact Nat.xor_lt_two_pow (by decide) hxy
  have ha1 : (4294967295 ^^^ x) &&& y < 4294967296 := by rw [e2] at *; exact Nat.and_lt_two_pow _ hy
  have ha2 : (4294967295 ^^^ (x ^^^ y)) &&& subOut c x y < 4294967296 := by rw [e2] at *; exact Nat.and_lt_two_pow _ hd
  have key := borrow_nat x y c (subOut c x y) hx hy hc hd (by unfold subOut; exact sub_limb _ x y c hx hy hc)
  simp -implicitDefEqProofs [go_sem, Try.ntmps80, ud, sub_int x y c hx hy hc]
  rw [bNot32 hx, bXor32 hx hy, bNot32 hxy, bAnd32 hmx hy, bAnd32 hmxy hd, bOr32 ha1 ha2]
  unfold subNxt
  omega
/-- the sum's next limb; its carry lies in a box -/
theorem addC_ok (x y c id n : Nat) (hn : id < n) (hx : x < 4294967296) (hy : y < 4294967296) (hc : c < 4294967296) : HCall Try.prog 68 [.d (ud x), .d (ud y), .pr id 0 0 0] [(id, .box [.d (ud c)])] n (.d (ud (addOut c x y))) [(id, .box [.d (ud (addNxt c x y))])] := by
  refine hcall_of (L := []) hmo Try.func68 rfl (by kernel_rfl) (by simp [Try.ntmps68]) (by simp -implicitDefEqProofs [go_sem, hn]) (by simp -implicitDefEqProofs [go_sem, hn]) ?_
  simp -implicitDefEqProofs [go_sem, Try.ntmps68]
  refine .inl ⟨_, add32_ok x y c hx hy hc, ?_⟩
  simp -implicitDefEqProofs [go_sem, ud]
end Go.Mt
/-
  A part of the proof.
-/
set_option linter.unusedSimpArgs false
set_option linter.unusedVariables false
namespace Go.Mt
open Go Go.Pm Go.Proofs
def cmpZ (a b : Nat) : Int := if a < b then -1 else if b < a then 1 else 0
theorem cmp_ok (l m : List Nat) (hl : Small l) (hm : Small m) (hln : l.length < 4398046511104) (hmn : m.length < 4398046511104) : PCall Try.prog 70 [.d (.sl (les l)), .d (.sl (les m))] (.one (.d (.v (.int .i64 (cmpZ (val l) (val m)))))) := by
  refine pcall_of hmo Try.func70 rfl (by kernel_rfl) (by simp [Try.ntmps70]) ?_
  simp -implicitDefEqProofs [go_sem, Try.ntmps70]
  refine .inl ⟨_, trim_ok l hl hln, ?_⟩
  simp -implicitDefEqProofs [go_sem]
  refine .inl ⟨_, trim_ok m hm hmn, ?_⟩
  have b1 := nl_val hl
  have b2 := nl_val hm
  obtain ⟨a, ha⟩ : ∃ a, a = val l := ⟨_, rfl⟩
  obtain ⟨b, hb⟩ : ∃ b, b = val m := ⟨_, rfl⟩
  rw [← ha] at b1
  rw [← hb] at b2
  rw [← ha, ← hb]
  by_cases h1 : nl a = nl b
  · simp -implicitDefEqProofs [go_sem, length_limbs, h1]
    refine ⟨by omega, ?_⟩
    refine loop_rule [] (fun (k : Nat) => ⟨45, [(5, intP .i64 ((k : Int) - 1)), (0, .d (.sl (les (limbs a)))), (1, .d (.sl (les (limbs b))))], [], 1000⟩) (fun (k : Nat) => k ≤ nl b ∧ (limbs a).drop k = (limbs b).drop k) id (nl b) (by
      refine ⟨Nat.le_refl _, ?_⟩
      rw [List.drop_eq_nil_of_le (by rw [length_limbs]; omega), List.drop_eq_nil_of_le (by rw [length_limbs]; omega)]) (by simp) (by simp -implicitDefEqProofs [go_sem]) (fun k ⟨hk1, hk2⟩ => ?_)
    by_cases hk : k = 0
    · simp -implicitDefEqProofs [go_sem, hk]
      subst hk
      have e : a = b := limbs_inj (by simpa using hk2)
      simp [cmpZ, e]
    have h0 : 0 < k := by omega
    have h0' : (1 : Int) ≤ k := by omega
    have hka : k - 1 < (limbs a).length := by rw [length_limbs]; omega
    have hkb : k - 1 < (limbs b).length := by rw [length_limbs]; omega
    have g1 : (les (limbs a))[k - 1]? = some [ud ((limbs a)[k-1]?.getD 0)] := les_get hka
    have g2 : (les (limbs b))[k - 1]? = some [ud ((limbs b)[k-1]?.getD 0)] := les_get hkb
    have e1 : ((k : Int) - 1).toNat = k - 1 := by omega
    have ea := val_limbs a
    have eb := val_limbs b
    obtain ⟨x, hx⟩ : ∃ x, x = (limbs a)[k-1]?.getD 0 := ⟨_, rfl⟩
    obtain ⟨y, hy⟩ : ∃ y, y = (limbs b)[k-1]?.getD 0 := ⟨_, rfl⟩
    rw [← hx] at g1
    rw [← hy] at g2
    have hd : (limbs a).drop (k - 1 + 1) = (limbs b).drop (k - 1 + 1) := by rw [show k - 1 + 1 = k by omega]; exact hk2
    have hxy' : x ≠ y → ¬ ((x : Int) = y) := fun h e => h (by omega)
    by_cases hxy : x = y
    · simp -implicitDefEqProofs [go_sem, h0, h0', g1, g2, hxy, ud, e1, length_limbs, h1]
      refine ⟨by kernel_rfl, ⟨by omega, by omega⟩, k - 1, ⟨by omega, ?_⟩, by omega, by omega⟩
      exact drop_eq_step hka hkb hd (by rw [← hx, ← hy, hxy])
    · by_cases hlt : x < y
      · have hv := val_lt_at (small_limbs a) hka hkb hd (by rw [← hx, ← hy]; exact hlt)
        rw [ea, eb] at hv
        simp -implicitDefEqProofs [go_sem, h0, h0', g1, g2, hxy, hxy' hxy, ud, e1, length_limbs, h1, hlt]
        refine ⟨by kernel_rfl, by kernel_rfl, ?_⟩
        simp [cmpZ, hv]
      · have hv := val_lt_at (small_limbs b) hkb hka hd.symm (by rw [← hx, ← hy]; omega)
        rw [ea, eb] at hv
        simp -implicitDefEqProofs [go_sem, h0, h0', g1, g2, hxy, hxy' hxy, ud, e1, length_limbs, h1, hlt]
        refine ⟨by kernel_rfl, by kernel_rfl, ?_⟩
        have : ¬ a < b := by omega
        simp [cmpZ, hv, this]
  · have h1' : ¬ ((nl a : Int) = nl b) := by omega
    by_cases h2 : nl a < nl b
    · have := lt_of_nl_lt h2
      simp -implicitDefEqProofs [go_sem, length_limbs, h1, h1', h2]
      simp [cmpZ, this]
    · have := lt_of_nl_lt (m := b) (n := a) (by omega)
      simp -implicitDefEqProofs [go_sem, length_limbs, h1, h1', h2]
      simp [cmpZ, this]
      omega
end Go.Mt
/-
  A part of the proof.
-/
set_option linter.unusedSimpArgs false
set_option linter.unusedVariables false
namespace Go.Mt
open Go Go.Pm Go.Proofs
/-- what two limbs and a state make, and leave in a box -/
structure Clo (g : FuncId) (out nxt : Nat → Nat → Nat → Nat) (I : Nat → Prop) : Prop where
  call : ∀ (x y s id n : Nat), id < n → x < 4294967296 → y < 4294967296 → I s → HCall Try.prog g [.d (ud x), .d (ud y), .pr id 0 0 0] [(id, .box [.d (ud s)])] n (.d (ud (out s x y))) [(id, .box [.d (ud (nxt s x y))])]
  next : ∀ (x y s : Nat), x < 4294967296 → y < 4294967296 → I s → I (nxt s x y)
set_option maxRecDepth 100000 in
theorem each_ok {g : FuncId} {out nxt : Nat → Nat → Nat → Nat} {I : Nat → Prop} (hc : Clo g out nxt I) (l m : List Nat) (hl : Small l) (hm : Small m) (hln : l.length < 4398046511104) (hmn : m.length < 4398046511104) (s id n : Nat) (hs : I s) (hid : id < n) :
    HCall Try.prog 67 [.d (.sl (les l)), .d (.sl (les m)), .fn g [.pr id 0 0 0]] [(id, .box [.d (ud s)])] n (.sr n 0) [(id, .box [.d (ud (stp nxt s l m (max l.length m.length)))]), (n, .arr ⟨80, 1, 0, false, les (Go.Mt.outs out nxt s l m (max l.length m.length))⟩)] := by
  obtain ⟨N, hN⟩ : ∃ N, N = max l.length m.length := ⟨_, rfl⟩
  have hif : (if l.length < m.length then (m.length : Int) else (l.length : Int)) = (N : Int) := by split <;> omega
  have hlN : l.length ≤ N := by omega
  have hmN : m.length ≤ N := by omega
  have hNn : N < 4398046511104 := by omega
  rw [← hN]
  have hI : ∀ k, I (stp nxt s l m k) := fun k => by
    induction k with
    | zero => exact hs
    | succ k ih => exact hc.next _ _ _ (hl.get k) (hm.get k) ih
  refine hcall_of (L := [n + 4 + 24 + 12]) hmo Try.func67 rfl (by kernel_rfl) (by simp [Try.ntmps67]) (by simp -implicitDefEqProofs [go_sem, hid]) (by simp -implicitDefEqProofs [go_sem, hid]) ?_
  simp -implicitDefEqProofs [go_sem, Try.ntmps67, hif]
  refine ⟨by omega, ⟨by omega, by omega⟩, ?_⟩
  refine loop_rule [] (fun (k : Nat) => ⟨51, [(0, .d (.sl (les l))), (1, .d (.sl (les m))), (2, .fn g [.pr id 0 0 0]), (8, .sr (n + 4 + 24 + 12) 0), (22, intP .i64 (N : Int)), (23, intP .i64 (k : Int))],
      [(n + 4 + 24 + 12, .arr ⟨80, 1, 0, false, les (Go.Mt.outs out nxt s l m k ++ List.replicate (N - k) 0)⟩), (id, .box [.d (ud (stp nxt s l m k))])], n + 1000⟩) (fun k => k ≤ N) (fun k => N - k) 0 (by omega) (by simp) (by
        simp -implicitDefEqProofs [go_sem, Go.Mt.outs, stp, ud, les]
        exact ⟨by omega, by omega⟩) (fun k hk => ?_)
  have ne1 : ¬ n + 4 + 24 + 12 = id := by omega
  have ne2 : ¬ id = n + 4 + 24 + 12 := by omega
  have hlen : (les (Go.Mt.outs out nxt s l m k ++ List.replicate (N - k) 0)).length = N := by simp -implicitDefEqProofs [go_sem, length_outs]; omega
  by_cases hkN : k < N
  · have hx : l[k]?.getD 0 < 4294967296 := hl.get k
    have hy : m[k]?.getD 0 < 4294967296 := hm.get k
    by_cases ha : k < l.length
    · have ea : l[k]?.getD 0 = l[k] := by simp [ha]
      rw [ea] at hx
      by_cases hb : k < m.length
      · have eb : m[k]?.getD 0 = m[k] := by simp [hb]
        rw [eb] at hy
        simp -implicitDefEqProofs [go_sem, hkN, ha, hb, ne1, ne2, hlen]
        refine .inr ⟨[(id, .box [.d (ud (stp nxt s l m k))])], _, _, hc.call l[k] m[k] _ id _ (by omega) hx hy (hI k), by simp -implicitDefEqProofs [go_sem, ne1, ne2], ?_⟩
        simp -implicitDefEqProofs [go_sem, ne1, ne2, hlen, ud]
        rw [les_get (by simp [length_outs]; omega)]
        have hf := Go.Mt.outs_fill out nxt s l m k N hkN
        rw [ea, eb] at hf
        refine ⟨hkN, ⟨by omega, by omega⟩, k + 1, by omega, by omega, by omega, ⟨?_, by rw [stp, ea, eb]⟩, by omega⟩
        rw [← hf, ← les_set]
        rfl
      · have eb : m[k]?.getD 0 = 0 := by simp [hb]
        simp -implicitDefEqProofs [go_sem, hkN, ha, hb, ne1, ne2, hlen]
        refine .inr ⟨[(id, .box [.d (ud (stp nxt s l m k))])], _, _, hc.call l[k] 0 _ id _ (by omega) hx (by decide) (hI k), by simp -implicitDefEqProofs [go_sem, ne1, ne2], ?_⟩
        simp -implicitDefEqProofs [go_sem, ne1, ne2, hlen, ud]
        rw [les_get (by simp [length_outs]; omega)]
        have hf := Go.Mt.outs_fill out nxt s l m k N hkN
        rw [ea, eb] at hf
        refine ⟨hkN, ⟨by omega, by omega⟩, k + 1, by omega, by omega, by omega, ⟨?_, by rw [stp, ea, eb]⟩, by omega⟩
        rw [← hf, ← les_set]
        rfl
    · have ea : l[k]?.getD 0 = 0 := by simp [ha]
      by_cases hb : k < m.length
      · have eb : m[k]?.getD 0 = m[k] := by simp [hb]
        rw [eb] at hy
        simp -implicitDefEqProofs [go_sem, hkN, ha, hb, ne1, ne2, hlen]
        refine .inr ⟨[(id, .box [.d (ud (stp nxt s l m k))])], _, _, hc.call 0 m[k] _ id _ (by omega) (by decide) hy (hI k), by simp -implicitDefEqProofs [go_sem, ne1, ne2], ?_⟩
        simp -implicitDefEqProofs [go_sem, ne1, ne2, hlen, ud]
        rw [les_get (by simp [length_outs]; omega)]
        have hf := Go.Mt.outs_fill out nxt s l m k N hkN
        rw [ea, eb] at hf
        refine ⟨hkN, ⟨by omega, by omega⟩, k + 1, by omega, by omega, by omega, ⟨?_, by rw [stp, ea, eb]⟩, by omega⟩
        rw [← hf, ← les_set]
        rfl
      · omega
  · simp -implicitDefEqProofs [go_sem, hkN, ne1, ne2, hlen]
    obtain rfl : k = N := by omega
    exact ⟨by omega, rfl, by simp⟩
end Go.Mt
/-
  A part of the proof.
-/
set_option linter.unusedSimpArgs false
set_option linter.unusedVariables false
namespace Go.Mt
open Go Go.Pm Go.Proofs
theorem addClo : Clo 68 addOut addNxt (fun s => s < 4294967296) where
  call x y s id n hid hx hy hs := addC_ok x y s id n hid hx hy hs
  next x y s hx hy hs := by show (x + y + s) / 4294967296 < 4294967296; omega
set_option maxRecDepth 100000 in
theorem add_ok (l m : List Nat) (hl : Small l) (hm : Small m) (hln : l.length < 1099511627776) (hmn : m.length < 1099511627776) : PCall Try.prog 50 [.d (.sl (les l)), .d (.sl (les m))] (.one (.d (.sl (les (limbs (val l + val m)))))) := by
  refine pcall_of hmo Try.func50 rfl (by kernel_rfl) (by simp [Try.ntmps50]) ?_
  simp -implicitDefEqProofs [go_sem, Try.ntmps50]
  refine .inl ⟨_, trim_ok l hl (by omega), ?_⟩
  simp -implicitDefEqProofs [go_sem]
  refine .inl ⟨_, trim_ok m hm (by omega), ?_⟩
  have b1 := nl_val hl
  have b2 := nl_val hm
  simp -implicitDefEqProofs [go_sem]
  have n1 := length_limbs (val l)
  have n2 := length_limbs (val m)
  have ea := val_limbs (val l)
  have eb := val_limbs (val m)
  have sa := small_limbs (val l)
  have sb := small_limbs (val m)
  obtain ⟨a, ha⟩ : ∃ a, a = limbs (val l) := ⟨_, rfl⟩
  obtain ⟨b, hb⟩ : ∃ b, b = limbs (val m) := ⟨_, rfl⟩
  rw [← ha] at n1 ea sa
  rw [← hb] at n2 eb sb
  rw [← ha, ← hb]
  refine .inr ⟨[(4, .box [.d (ud 0)])], _, _, each_ok addClo a b sa sb (by omega) (by omega) 0 4 _ (by decide) (by omega), by simp -implicitDefEqProofs [go_sem, ud], ?_⟩
  obtain ⟨N, hN⟩ : ∃ N, N = max a.length b.length := ⟨_, rfl⟩
  have hs := add_outs a b 0 N
  have hsm := small_outs addOut addNxt 0 a b (fun s x y => Nat.mod_lt _ (by decide)) N
  have hln2 := length_outs addOut addNxt 0 a b N
  have hc : stp addNxt 0 a b N < 4294967296 := by
    clear hs hsm hln2 hN
    induction N with
    | zero => show 0 < 4294967296; decide
    | succ k ih => show (_ + _ + _) / 4294967296 < 4294967296; have := sa.get k; have := sb.get k; omega
  rw [← hN]
  obtain ⟨O, hO⟩ : ∃ O, O = Go.Mt.outs addOut addNxt 0 a b N := ⟨_, rfl⟩
  obtain ⟨c, hcc⟩ : ∃ c, c = stp addNxt 0 a b N := ⟨_, rfl⟩
  rw [← hO, ← hcc] at hs
  rw [← hO] at hsm hln2
  rw [← hcc] at hc
  rw [← hO, ← hcc]
  have hown := own_ok (O ++ [c]) (hsm.append (small_cons hc small_nil)) (by simp; omega)
  have hv : val (O ++ [c]) = val l + val m := by
    rw [val_append, val_one, hln2, hs, List.take_of_length_le (by omega), List.take_of_length_le (by omega), ea, eb]; rfl
  rw [hv, ← les_append] at hown
  simp -implicitDefEqProofs [go_sem, ud, hln2]
  refine ⟨⟨by omega, by omega⟩, .inl ⟨_, hown, ?_⟩⟩
  simp -implicitDefEqProofs [go_sem]
end Go.Mt
/-
  A part of the proof.
-/
set_option linter.unusedSimpArgs false
set_option linter.unusedVariables false
namespace Go.Mt
open Go Go.Pm Go.Proofs
theorem subC_ok (x y c id n : Nat) (hn : id < n) (hx : x < 4294967296) (hy : y < 4294967296) (hc : c ≤ 1) : HCall Try.prog 79 [.d (ud x), .d (ud y), .pr id 0 0 0] [(id, .box [.d (ud c)])] n (.d (ud (subOut c x y))) [(id, .box [.d (ud (subNxt c x y))])] := by
  refine hcall_of (L := []) hmo Try.func79 rfl (by kernel_rfl) (by simp [Try.ntmps79]) (by simp -implicitDefEqProofs [go_sem, hn]) (by simp -implicitDefEqProofs [go_sem, hn]) ?_
  simp -implicitDefEqProofs [go_sem, Try.ntmps79]
  refine .inl ⟨_, sub32_ok x y c hx hy hc, ?_⟩
  simp -implicitDefEqProofs [go_sem, ud]
theorem subClo : Clo 79 subOut subNxt (fun s => s ≤ 1) where
  call x y s id n hid hx hy hs := subC_ok x y s id n hid hx hy hs
  next x y s _ _ _ := subNxt_le s x y
set_option maxRecDepth 100000 in
theorem less_ok (l m : List Nat) (hl : Small l) (hm : Small m) (hln : l.length < 1099511627776) (hmn : m.length < 1099511627776) (hle : val m ≤ val l) : PCall Try.prog 76 [.d (.sl (les l)), .d (.sl (les m))] (.one (.d (.sl (les (limbs (val l - val m)))))) := by
  refine pcall_of hmo Try.func76 rfl (by kernel_rfl) (by simp [Try.ntmps76]) ?_
  simp -implicitDefEqProofs [go_sem, Try.ntmps76]
  refine .inl ⟨_, trim_ok l hl (by omega), ?_⟩
  simp -implicitDefEqProofs [go_sem]
  refine .inl ⟨_, trim_ok m hm (by omega), ?_⟩
  have b1 := nl_val hl
  have b2 := nl_val hm
  simp -implicitDefEqProofs [go_sem]
  have n1 := length_limbs (val l)
  have n2 := length_limbs (val m)
  have ea := val_limbs (val l)
  have eb := val_limbs (val m)
  have sa := small_limbs (val l)
  have sb := small_limbs (val m)
  obtain ⟨a, ha⟩ : ∃ a, a = limbs (val l) := ⟨_, rfl⟩
  obtain ⟨b, hb⟩ : ∃ b, b = limbs (val m) := ⟨_, rfl⟩
  rw [← ha] at n1 ea sa
  rw [← hb] at n2 eb sb
  rw [← ha, ← hb]
  refine .inr ⟨[(4, .box [.d (ud 0)])], _, _, each_ok subClo a b sa sb (by omega) (by omega) 0 4 _ (by decide) (by omega), by simp -implicitDefEqProofs [go_sem, ud], ?_⟩
  obtain ⟨N, hN⟩ : ∃ N, N = max a.length b.length := ⟨_, rfl⟩
  have hs := sub_end sa sb (by rw [ea, eb]; exact hle) N (by omega) (by omega)
  have hsm := small_outs subOut subNxt 0 a b (fun s x y => Nat.mod_lt _ (by decide)) N
  have hln2 := length_outs subOut subNxt 0 a b N
  rw [← hN]
  obtain ⟨O, hO⟩ : ∃ O, O = Go.Mt.outs subOut subNxt 0 a b N := ⟨_, rfl⟩
  obtain ⟨c, hcc⟩ : ∃ c, c = stp subNxt 0 a b N := ⟨_, rfl⟩
  rw [← hO] at hs hsm hln2
  rw [← hO, ← hcc]
  have hown := own_ok O hsm (by omega)
  rw [hs, ea, eb] at hown
  simp -implicitDefEqProofs [go_sem]
  refine .inl ⟨_, hown, ?_⟩
  simp -implicitDefEqProofs [go_sem]
theorem sub_ok (l m : List Nat) (hl : Small l) (hm : Small m) (hln : l.length < 1099511627776) (hmn : m.length < 1099511627776) (hle : val m ≤ val l) : PCall Try.prog 71 [.d (.sl (les l)), .d (.sl (les m))] (.tup [.d (.sl (les (limbs (val l - val m)))), .d (.v (.int .i64 0))]) := by
  refine pcall_of hmo Try.func71 rfl (by kernel_rfl) (by simp [Try.ntmps71]) ?_
  simp -implicitDefEqProofs [go_sem, Try.ntmps71]
  refine .inl ⟨_, cmp_ok l m hl hm (by omega) (by omega), ?_⟩
  have h : ¬ cmpZ (val l) (val m) < 0 := by unfold cmpZ; split; omega; split <;> omega
  simp -implicitDefEqProofs [go_sem, h]
  refine .inl ⟨_, less_ok l m hl hm hln hmn hle, ?_⟩
  simp -implicitDefEqProofs [go_sem]
end Go.Mt
/-
  A part of the proof.
-/
set_option linter.unusedSimpArgs false
set_option linter.unusedVariables false
namespace Go.Mt
open Go Go.Pm Go.Proofs
set_option maxRecDepth 100000 in
theorem mul_ok (l m : List Nat) (hl : Small l) (hm : Small m) (hln : l.length < 1099511627776) (hmn : m.length < 1099511627776) : PCall Try.prog 49 [.d (.sl (les l)), .d (.sl (les m))] (.one (.d (.sl (les (limbs (val l * val m)))))) := by
  refine pcall_of hmo Try.func49 rfl (by kernel_rfl) (by simp [Try.ntmps49]) ?_
  simp -implicitDefEqProofs [go_sem, Try.ntmps49]
  refine .inl ⟨_, trim_ok l hl (by omega), ?_⟩
  simp -implicitDefEqProofs [go_sem]
  refine .inl ⟨_, trim_ok m hm (by omega), ?_⟩
  have b1 := nl_val hl
  have b2 := nl_val hm
  have n1 := length_limbs (val l)
  have n2 := length_limbs (val m)
  have ea := val_limbs (val l)
  have eb := val_limbs (val m)
  have sa := small_limbs (val l)
  have sb := small_limbs (val m)
  obtain ⟨a, ha⟩ : ∃ a, a = limbs (val l) := ⟨_, rfl⟩
  obtain ⟨b, hb⟩ : ∃ b, b = limbs (val m) := ⟨_, rfl⟩
  rw [← ha] at n1 ea sa
  rw [← hb] at n2 eb sb
  rw [← ha, ← hb]
  by_cases ha0 : a.length = 0
  · have e : val l = 0 := by rw [← ea, List.eq_nil_of_length_eq_zero ha0]; rfl
    simp -implicitDefEqProofs [go_sem, ha0, e, limbs_zero, les_nil]
  by_cases hb0 : b.length = 0
  · have e : val m = 0 := by rw [← eb, List.eq_nil_of_length_eq_zero hb0]; rfl
    simp -implicitDefEqProofs [go_sem, ha0, hb0, e, limbs_zero, les_nil]
  have hz : (Int.toNat (↑a.length + ↑b.length)) = a.length + b.length := by omega
  simp -implicitDefEqProofs [go_sem, ha0, hb0]
  refine ⟨⟨by omega, by omega⟩, ⟨by omega, by omega, by omega⟩, ?_⟩
  refine loop_rule [] (fun (p : Nat × List Nat) => ⟨80, [(0, .d (.sl (les a))), (1, .d (.sl (les b))), (5, .sr 80 0), (30, .d (.sl (les a))), (31, intP .i64 (a.length : Int)), (32, intP .i64 (p.1 : Int))], [(80, .arr ⟨80, 1, 0, false, les p.2⟩)], 1000⟩)
    (fun p => p.1 ≤ a.length ∧ p.2.length = a.length + b.length ∧ Small p.2 ∧ (∀ t, p.1 + b.length ≤ t → p.2[t]?.getD 0 = 0) ∧ val p.2 = val (a.take p.1) * val b) (fun p => a.length - p.1) (0, List.replicate (a.length + b.length) 0)
    (by refine ⟨by omega, by simp, small_replicate _, fun t _ => ?_, by simp [val_replicate, val]⟩
        rw [List.getElem?_replicate]; split <;> rfl) (by simp) (by simp -implicitDefEqProofs [go_sem, hz, les, ud]) (fun ⟨i, O⟩ ⟨hi, hO, hsO, hzO, hvO⟩ => ?_)
  dsimp only at hi hO hsO hzO hvO ⊢
  by_cases hia : i < a.length
  · have hx : a[i] < 4294967296 := sa _ (List.getElem_mem hia)
    obtain ⟨x, hxe⟩ : ∃ x, x = a[i] := ⟨_, rfl⟩
    simp -implicitDefEqProofs [go_sem, hia]
    rw [← hxe] at hx ⊢
    refine loop_rule [] (fun (p : Nat × List Nat × Nat) => ⟨80, [(0, .d (.sl (les a))), (1, .d (.sl (les b))), (5, .sr 80 0), (30, .d (.sl (les a))), (31, intP .i64 (a.length : Int)), (32, intP .i64 (i : Int)), (6, intP .i64 (i : Int)), (7, .d (ud x)), (8, intP .u64 (p.2.2 : Int)), (37, .d (.sl (les b))), (38, intP .i64 (b.length : Int)), (39, intP .i64 (p.1 : Int))], [(80, .arr ⟨80, 1, 0, false, les p.2.1⟩)], 2000⟩)
      (fun p => p.1 ≤ b.length ∧ p.2.1.length = a.length + b.length ∧ Small p.2.1 ∧ (∀ t, i + b.length ≤ t → p.2.1[t]?.getD 0 = 0) ∧ p.2.2 < 4294967296 ∧ val p.2.1 + 4294967296 ^ (i + p.1) * p.2.2 = val (a.take i) * val b + 4294967296 ^ i * (x * val (b.take p.1))) (fun p => b.length - p.1) (0, O, 0)
      (by exact ⟨by omega, hO, hsO, hzO, (show 0 < 4294967296 by decide), by simp [val, hvO]⟩) (by simp) (by simp -implicitDefEqProofs [go_sem]) (fun ⟨k, Q, c⟩ ⟨hk, hQ, hsQ, hzQ, hc, hvQ⟩ => ?_)
    dsimp only at hk hQ hsQ hzQ hc hvQ ⊢
    by_cases hkb : k < b.length
    · have hikl : i + k < Q.length := by omega
      have hy : b[k] < 4294967296 := sb _ (List.getElem_mem hkb)
      have ho : Q[i + k] < 4294967296 := hsQ _ (List.getElem_mem hikl)
      obtain ⟨y, hye⟩ : ∃ y, y = b[k] := ⟨_, rfl⟩
      obtain ⟨o, hoe⟩ : ∃ o, o = Q[i + k] := ⟨_, rfl⟩
      have hw := carry_lt hx (hye ▸ hy) (hoe ▸ ho) hc
      have hik : ((i : Int) + k).toNat = i + k := by omega
      simp -implicitDefEqProofs [go_sem, hkb, hikl, ud, hik]
      rw [← hye, ← hoe]
      have hr := mul_round (O := Q) (V := val (a.take i) * val b) (x := x) (c := c) (Y := b) hikl hvQ rfl
      have eo : Q[i + k]?.getD 0 = o := by simp [hikl, hoe]
      have ey : b[k]?.getD 0 = y := by simp [hkb, hye]
      rw [eo, ey] at hr
      refine ⟨⟨by omega, by omega⟩, by omega, ⟨by omega, by omega⟩, by omega, ⟨by omega, by omega⟩, k + 1, Q.set (i + k) ((x * y + o + c) % 4294967296), (x * y + o + c) / 4294967296, ?_⟩
      have e1 : (x : Int) % 18446744073709551616 = x := by omega
      have e2 : (y : Int) % 18446744073709551616 = y := by omega
      have e3 : (x : Int) * (y : Int) = ((x * y : Nat) : Int) := by simp
      rw [e1, e2, e3]
      refine ⟨⟨by omega, by simp [hQ], hsQ.set _ (Nat.mod_lt _ (by decide)), fun t ht => ?_, by omega, hr⟩, by omega, ⟨by omega, by omega⟩, ?_⟩
      · rw [get_set_ne (by omega), hzQ t (by omega)]
      · rw [← les_set]; rfl
    · obtain rfl : k = b.length := by omega
      have hil : i + b.length < Q.length := by omega
      have hib : ((i : Int) + b.length).toNat = i + b.length := by omega
      simp -implicitDefEqProofs [go_sem, ud, hib, hil]
      have he := mul_end (X := a) (n := 0) hil rfl hvQ rfl (by simp [hia, hxe]) (hzQ _ (by omega)) rfl
      have hcm : (c : Int) % 4294967296 = c := by omega
      refine ⟨⟨by omega, by omega⟩, by omega, ⟨by omega, by omega⟩, i + 1, Q.set (i + b.length) c, ⟨by omega, by simp [hQ], hsQ.set _ hc, fun t ht => ?_, by rw [he]; rfl⟩, by omega, by omega, ?_⟩
      · rw [get_set_ne (by omega), hzQ t (by omega)]
      · rw [hcm, ← les_set]; rfl
  · simp -implicitDefEqProofs [go_sem, hia]
    obtain rfl : i = a.length := by omega
    have hown := own_ok O hsO (by omega)
    rw [hvO, List.take_of_length_le (by omega), ea, eb] at hown
    refine .inl ⟨_, hown, ?_⟩
    simp -implicitDefEqProofs [go_sem]
end Go.Mt
