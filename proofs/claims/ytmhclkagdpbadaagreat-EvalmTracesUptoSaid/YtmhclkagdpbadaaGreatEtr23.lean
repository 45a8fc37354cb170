/-
  A part of the proof.
-/
import Derived.Test.YtmhclkagdpbadaaGreatEtr10
set_option linter.unusedVariables false
set_option linter.unusedSimpArgs false
set_option linter.unusedSimpArgs false
set_option linter.unusedVariables false
namespace Go.Mt
open Go Go.Pm Go.Proofs
set_option maxRecDepth 100000 in
theorem short_ok (l : List Nat) (d : Nat) (hl : Small l) (hln : l.length < 1099511627776) (hd0 : 0 < d) (hd : d < 4294967296) : PCall Tryz.prog 274 [.d (.sl (les l)), .d (ud d)] (.tup [.d (.sl (les (limbs (val l / d)))), .d (ud (val l % d))]) := by
  refine pcall_of hmo Tryz.func274 rfl (by kernel_rfl) (by simp [Tryz.ntmps274]) ?_
  simp -implicitDefEqProofs [go_sem, Tryz.ntmps274]
  refine ⟨by omega, by omega, ?_⟩

  refine loop_rule [] (fun (p : Nat × List Nat × Nat) => ⟨44, [(0, .d (.sl (les l))), (1, .d (ud d)), (6, .sr 16 0), (7, intP .u64 (p.2.2 : Int)), (8, intP .i64 ((p.1 : Int) - 1))], [(16, .arr ⟨86, 1, 0, false, les (List.replicate p.1 0 ++ p.2.1)⟩)], 1000⟩)
    (fun p => p.1 ≤ l.length ∧ p.2.1.length = l.length - p.1 ∧ Small p.2.1 ∧ p.2.2 < d ∧ val p.2.1 * d + p.2.2 = val (l.drop p.1)) (fun p => p.1) (l.length, [], 0)
    (by refine ⟨by omega, by simp, small_nil, hd0, by simp [val]⟩) (by simp) (by simp -implicitDefEqProofs [go_sem, les, ud]) (fun ⟨k, Q, r⟩ ⟨hk, hQ, hsQ, hr, hv⟩ => ?_)
  dsimp only at hk hQ hsQ hr hv ⊢
  by_cases h0 : k = 0
  · subst h0
    have hown := own_ok Q hsQ (by omega)
    have hv : val Q * d + r = val l := hv
    have hq : val l / d = val Q := by rw [← hv, Nat.mul_comm, Nat.mul_add_div hd0, Nat.div_eq_of_lt hr]; rfl
    have hm : val l % d = r := by rw [← hv, Nat.mul_comm, Nat.mul_add_mod]; exact Nat.mod_eq_of_lt hr
    rw [hq, hm]
    have e : (r : Int) % 4294967296 = r := by omega
    simp -implicitDefEqProofs [go_sem, ud]
    refine .inl ⟨_, hown, ?_⟩
    simp -implicitDefEqProofs [go_sem, e]
  · have h1 : (1 : Int) ≤ k := by omega
    have hkl : k - 1 < l.length := by omega
    have ek : ((k : Int) - 1).toNat = k - 1 := by omega
    obtain ⟨x, hxe⟩ : ∃ x, x = l[k - 1] := ⟨_, rfl⟩
    have hx : x < 4294967296 := hxe ▸ hl _ (List.getElem_mem hkl)
    simp -implicitDefEqProofs [go_sem, h1, hkl, ek]
    rw [← hxe]
    have e1 : (r : Int) * 4294967296 % 18446744073709551616 = (r : Int) * 4294967296 := by omega
    have e2 : (x : Int) % 18446744073709551616 = x := by omega
    have e3 : (d : Int) % 18446744073709551616 = d := by omega
    have e4 : ¬ (d : Int) = 0 := by omega
    have q1 : (((r * 4294967296 + x : Nat) : Int)).tmod (d : Int) = (((r * 4294967296 + x) % d : Nat) : Int) := rfl
    have q2 : (((r * 4294967296 + x : Nat) : Int)).tdiv (d : Int) = (((r * 4294967296 + x) / d : Nat) : Int) := rfl
    have hq := short_q hr hx
    simp -implicitDefEqProofs [go_sem, ud, e1, e2, e3]
    rw [bOr64 hx (by omega), q1, q2, les_get (by simp; omega)]
    have hrd := short_round (l := l) (Q := Q) (i := k - 1) (rr := r) (x := x) (d := d) hkl (by simp [hkl, hxe]) (by rw [show k - 1 + 1 = k by omega]; exact hv)
    have e5 : ∀ q : Nat, q < 4294967296 → ((q : Nat) : Int) % 4294967296 = q := fun q h => by omega
    have hs : (List.replicate k 0 ++ Q).set (k - 1) ((r * 4294967296 + x) / d) = List.replicate (k - 1) 0 ++ (r * 4294967296 + x) / d :: Q := by
      have := set_fill Q (k - 1) ((r * 4294967296 + x) / d)
      rwa [show k - 1 + 1 = k by omega] at this
    refine ⟨by omega, by omega, by omega, ⟨by omega, by omega⟩, k - 1, (r * 4294967296 + x) / d :: Q, (r * 4294967296 + x) % d, ⟨by omega, by simp; omega, small_cons hq hsQ, Nat.mod_lt _ hd0, hrd⟩, by omega, ⟨rfl, by omega⟩, ?_⟩
    rw [e5 _ hq, ← hs, ← les_set]
    rfl
end Go.Mt
