/-
  A part of the proof.
-/
import Derived.Test.YtmhclkagdpbadaaGreatEtr10
set_option linter.unusedVariables false
set_option linter.unusedSimpArgs false
set_option linter.unusedSimpArgs false
set_option linter.unusedVariables false
namespace Go.Mt
open Go Go.Pm Go.Proofs
/-- what two limbs and a state make, and leave in a box -/
structure Clo (g : FuncId) (out nxt : Nat → Nat → Nat → Nat) (I : Nat → Prop) : Prop where
  call : ∀ (x y s id n : Nat), id < n → x < 4294967296 → y < 4294967296 → I s → HCall Tryz.prog g [.d (ud x), .d (ud y), .pr id 0 0 0] [(id, .box [.d (ud s)])] n (.d (ud (out s x y))) [(id, .box [.d (ud (nxt s x y))])]
  next : ∀ (x y s : Nat), x < 4294967296 → y < 4294967296 → I s → I (nxt s x y)
set_option maxRecDepth 100000 in
theorem each_ok {g : FuncId} {out nxt : Nat → Nat → Nat → Nat} {I : Nat → Prop} (hc : Clo g out nxt I) (l m : List Nat) (hl : Small l) (hm : Small m) (hln : l.length < 4398046511104) (hmn : m.length < 4398046511104) (s id n : Nat) (hs : I s) (hid : id < n) :
    HCall Tryz.prog 280 [.d (.sl (les l)), .d (.sl (les m)), .fn g [.pr id 0 0 0]] [(id, .box [.d (ud s)])] n (.sr n 0) [(id, .box [.d (ud (stp nxt s l m (max l.length m.length)))]), (n, .arr ⟨86, 1, 0, false, les (Go.Mt.outs out nxt s l m (max l.length m.length))⟩)] := by
  obtain ⟨N, hN⟩ : ∃ N, N = max l.length m.length := ⟨_, rfl⟩
  have hif : (if l.length < m.length then (m.length : Int) else (l.length : Int)) = (N : Int) := by split <;> omega
  have hlN : l.length ≤ N := by omega
  have hmN : m.length ≤ N := by omega
  have hNn : N < 4398046511104 := by omega
  rw [← hN]
  have hI : ∀ k, I (stp nxt s l m k) := fun k => by
    induction k with
    | zero => exact hs
    | succ k ih => exact hc.next _ _ _ (hl.get k) (hm.get k) ih
  refine hcall_of (L := [n + 4 + 24 + 12]) hmo Tryz.func280 rfl (by kernel_rfl) (by simp [Tryz.ntmps280]) (by simp -implicitDefEqProofs [go_sem, hid]) (by simp -implicitDefEqProofs [go_sem, hid]) ?_
  simp -implicitDefEqProofs [go_sem, Tryz.ntmps280, hif]
  refine ⟨by omega, ⟨by omega, by omega⟩, ?_⟩
  refine loop_rule [] (fun (k : Nat) => ⟨51, [(0, .d (.sl (les l))), (1, .d (.sl (les m))), (2, .fn g [.pr id 0 0 0]), (8, .sr (n + 4 + 24 + 12) 0), (22, intP .i64 (N : Int)), (23, intP .i64 (k : Int))],
      [(n + 4 + 24 + 12, .arr ⟨86, 1, 0, false, les (Go.Mt.outs out nxt s l m k ++ List.replicate (N - k) 0)⟩), (id, .box [.d (ud (stp nxt s l m k))])], n + 1000⟩) (fun k => k ≤ N) (fun k => N - k) 0 (by omega) (by simp) (by
        simp -implicitDefEqProofs [go_sem, Go.Mt.outs, stp, ud, les]
        exact ⟨by omega, by omega⟩) (fun k hk => ?_)
  have ne1 : ¬ n + 4 + 24 + 12 = id := by omega
  have ne2 : ¬ id = n + 4 + 24 + 12 := by omega
  have hlen : (les (Go.Mt.outs out nxt s l m k ++ List.replicate (N - k) 0)).length = N := by simp -implicitDefEqProofs [go_sem, length_outs]; omega
  by_cases hkN : k < N
  · have hx : l[k]?.getD 0 < 4294967296 := hl.get k
    have hy : m[k]?.getD 0 < 4294967296 := hm.get k
    by_cases ha : k < l.length
    · have ea : l[k]?.getD 0 = l[k] := by simp [ha]
      rw [ea] at hx
      by_cases hb : k < m.length
      · have eb : m[k]?.getD 0 = m[k] := by simp [hb]
        rw [eb] at hy
        simp -implicitDefEqProofs [go_sem, hkN, ha, hb, ne1, ne2, hlen]
        refine .inr ⟨[(id, .box [.d (ud (stp nxt s l m k))])], _, _, hc.call l[k] m[k] _ id _ (by omega) hx hy (hI k), by simp -implicitDefEqProofs [go_sem, ne1, ne2], ?_⟩
        simp -implicitDefEqProofs [go_sem, ne1, ne2, hlen, ud]
        rw [les_get (by simp [length_outs]; omega)]
        have hf := Go.Mt.outs_fill out nxt s l m k N hkN
        rw [ea, eb] at hf
        refine ⟨hkN, ⟨by omega, by omega⟩, k + 1, by omega, by omega, by omega, ⟨?_, by rw [stp, ea, eb]⟩, by omega⟩
        rw [← hf, ← les_set]
        rfl
      · have eb : m[k]?.getD 0 = 0 := by simp [hb]
        simp -implicitDefEqProofs [go_sem, hkN, ha, hb, ne1, ne2, hlen]
        refine .inr ⟨[(id, .box [.d (ud (stp nxt s l m k))])], _, _, hc.call l[k] 0 _ id _ (by omega) hx (by decide) (hI k), by simp -implicitDefEqProofs [go_sem, ne1, ne2], ?_⟩
        simp -implicitDefEqProofs [go_sem, ne1, ne2, hlen, ud]
        rw [les_get (by simp [length_outs]; omega)]
        have hf := Go.Mt.outs_fill out nxt s l m k N hkN
        rw [ea, eb] at hf
        refine ⟨hkN, ⟨by omega, by omega⟩, k + 1, by omega, by omega, by omega, ⟨?_, by rw [stp, ea, eb]⟩, by omega⟩
        rw [← hf, ← les_set]
        rfl
    · have ea : l[k]?.getD 0 = 0 := by simp [ha]
      by_cases hb : k < m.length
      · have eb : m[k]?.getD 0 = m[k] := by simp [hb]
        rw [eb] at hy
        simp -implicitDefEqProofs [go_sem, hkN, ha, hb, ne1, ne2, hlen]
        refine .inr ⟨[(id, .box [.d (ud (stp nxt s l m k))])], _, _, hc.call 0 m[k] _ id _ (by omega) (by decide) hy (hI k), by simp -implicitDefEqProofs [go_sem, ne1, ne2], ?_⟩
        simp -implicitDefEqProofs [go_sem, ne1, ne2, hlen, ud]
        rw [les_get (by simp [length_outs]; omega)]
        have hf := Go.Mt.outs_fill out nxt s l m k N hkN
        rw [ea, eb] at hf
        refine ⟨hkN, ⟨by omega, by omega⟩, k + 1, by omega, by omega, by omega, ⟨?_, by rw [stp, ea, eb]⟩, by omega⟩
        rw [← hf, ← les_set]
        rfl
      · omega
  · simp -implicitDefEqProofs [go_sem, hkN, ne1, ne2, hlen]
    obtain rfl : k = N := by omega
    exact ⟨by omega, rfl, by simp⟩
end Go.Mt
/-
  A part of the proof.
-/
set_option linter.unusedSimpArgs false
set_option linter.unusedVariables false
namespace Go.Mt
open Go Go.Pm Go.Proofs
theorem addClo : Clo 281 addOut addNxt (fun s => s < 4294967296) where
  call x y s id n hid hx hy hs := addC_ok x y s id n hid hx hy hs
  next x y s hx hy hs := by show (x + y + s) / 4294967296 < 4294967296; omega
set_option maxRecDepth 100000 in
theorem add_ok (l m : List Nat) (hl : Small l) (hm : Small m) (hln : l.length < 1099511627776) (hmn : m.length < 1099511627776) : PCall Tryz.prog 264 [.d (.sl (les l)), .d (.sl (les m))] (.one (.d (.sl (les (limbs (val l + val m)))))) := by
  refine pcall_of hmo Tryz.func264 rfl (by kernel_rfl) (by simp [Tryz.ntmps264]) ?_
  simp -implicitDefEqProofs [go_sem, Tryz.ntmps264]
  refine .inl ⟨_, trim_ok l hl (by omega), ?_⟩
  simp -implicitDefEqProofs [go_sem]
  refine .inl ⟨_, trim_ok m hm (by omega), ?_⟩
  have b1 := nl_val hl
  have b2 := nl_val hm
  simp -implicitDefEqProofs [go_sem]
  have n1 := length_limbs (val l)
  have n2 := length_limbs (val m)
  have ea := val_limbs (val l)
  have eb := val_limbs (val m)
  have sa := small_limbs (val l)
  have sb := small_limbs (val m)
  obtain ⟨a, ha⟩ : ∃ a, a = limbs (val l) := ⟨_, rfl⟩
  obtain ⟨b, hb⟩ : ∃ b, b = limbs (val m) := ⟨_, rfl⟩
  rw [← ha] at n1 ea sa
  rw [← hb] at n2 eb sb
  rw [← ha, ← hb]
  refine .inr ⟨[(4, .box [.d (ud 0)])], _, _, each_ok addClo a b sa sb (by omega) (by omega) 0 4 _ (by decide) (by omega), by simp -implicitDefEqProofs [go_sem, ud], ?_⟩
  obtain ⟨N, hN⟩ : ∃ N, N = max a.length b.length := ⟨_, rfl⟩
  have hs := add_outs a b 0 N
  have hsm := small_outs addOut addNxt 0 a b (fun s x y => Nat.mod_lt _ (by decide)) N
  have hln2 := length_outs addOut addNxt 0 a b N
  have hc : stp addNxt 0 a b N < 4294967296 := by
    clear hs hsm hln2 hN
    induction N with
    | zero => show 0 < 4294967296; decide
    | succ k ih => show (_ + _ + _) / 4294967296 < 4294967296; have := sa.get k; have := sb.get k; omega
  rw [← hN]
  obtain ⟨O, hO⟩ : ∃ O, O = Go.Mt.outs addOut addNxt 0 a b N := ⟨_, rfl⟩
  obtain ⟨c, hcc⟩ : ∃ c, c = stp addNxt 0 a b N := ⟨_, rfl⟩
  rw [← hO, ← hcc] at hs
  rw [← hO] at hsm hln2
  rw [← hcc] at hc
  rw [← hO, ← hcc]
  have hown := own_ok (O ++ [c]) (hsm.append (small_cons hc small_nil)) (by simp; omega)
  have hv : val (O ++ [c]) = val l + val m := by
    rw [val_append, val_one, hln2, hs, List.take_of_length_le (by omega), List.take_of_length_le (by omega), ea, eb]; rfl
  rw [hv, ← les_append] at hown
  simp -implicitDefEqProofs [go_sem, ud, hln2]
  refine ⟨⟨by omega, by omega⟩, .inl ⟨_, hown, ?_⟩⟩
  simp -implicitDefEqProofs [go_sem]
end Go.Mt
