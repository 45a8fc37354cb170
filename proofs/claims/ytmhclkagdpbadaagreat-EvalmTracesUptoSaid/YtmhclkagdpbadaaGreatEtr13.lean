/-
  A part of the proof.
-/
import Derived.Test.YtmhclkagdpbadaaGreatEtr10
set_option linter.unusedVariables false
set_option linter.unusedSimpArgs false
set_option linter.unusedSimpArgs false
set_option linter.unusedVariables false
namespace Go.Mt
open Go Go.Pm Go.Proofs
set_option maxRecDepth 100000 in
theorem mul_ok (l m : List Nat) (hl : Small l) (hm : Small m) (hln : l.length < 1099511627776) (hmn : m.length < 1099511627776) : PCall Tryz.prog 195 [.d (.sl (les l)), .d (.sl (les m))] (.one (.d (.sl (les (limbs (val l * val m)))))) := by
  refine pcall_of hmo Tryz.func195 rfl (by kernel_rfl) (by simp [Tryz.ntmps195]) ?_
  simp -implicitDefEqProofs [go_sem, Tryz.ntmps195]
  refine .inl ⟨_, trim_ok l hl (by omega), ?_⟩
  simp -implicitDefEqProofs [go_sem]
  refine .inl ⟨_, trim_ok m hm (by omega), ?_⟩
  have b1 := nl_val hl
  have b2 := nl_val hm
  have n1 := length_limbs (val l)
  have n2 := length_limbs (val m)
  have ea := val_limbs (val l)
  have eb := val_limbs (val m)
  have sa := small_limbs (val l)
  have sb := small_limbs (val m)
  obtain ⟨a, ha⟩ : ∃ a, a = limbs (val l) := ⟨_, rfl⟩
  obtain ⟨b, hb⟩ : ∃ b, b = limbs (val m) := ⟨_, rfl⟩
  rw [← ha] at n1 ea sa
  rw [← hb] at n2 eb sb
  rw [← ha, ← hb]
  by_cases ha0 : a.length = 0
  · have e : val l = 0 := by rw [← ea, List.eq_nil_of_length_eq_zero ha0]; rfl
    simp -implicitDefEqProofs [go_sem, ha0, e, limbs_zero, les_nil]
  by_cases hb0 : b.length = 0
  · have e : val m = 0 := by rw [← eb, List.eq_nil_of_length_eq_zero hb0]; rfl
    simp -implicitDefEqProofs [go_sem, ha0, hb0, e, limbs_zero, les_nil]
  have hz : (Int.toNat (↑a.length + ↑b.length)) = a.length + b.length := by omega
  simp -implicitDefEqProofs [go_sem, ha0, hb0]
  refine ⟨⟨by omega, by omega⟩, ⟨by omega, by omega, by omega⟩, ?_⟩
  refine loop_rule [] (fun (p : Nat × List Nat) => ⟨80, [(0, .d (.sl (les a))), (1, .d (.sl (les b))), (5, .sr 80 0), (30, .d (.sl (les a))), (31, intP .i64 (a.length : Int)), (32, intP .i64 (p.1 : Int))], [(80, .arr ⟨86, 1, 0, false, les p.2⟩)], 1000⟩)
    (fun p => p.1 ≤ a.length ∧ p.2.length = a.length + b.length ∧ Small p.2 ∧ (∀ t, p.1 + b.length ≤ t → p.2[t]?.getD 0 = 0) ∧ val p.2 = val (a.take p.1) * val b) (fun p => a.length - p.1) (0, List.replicate (a.length + b.length) 0)
    (by refine ⟨by omega, by simp, small_replicate _, fun t _ => ?_, by simp [val_replicate, val]⟩
        rw [List.getElem?_replicate]; split <;> rfl) (by simp) (by simp -implicitDefEqProofs [go_sem, hz, les, ud]) (fun ⟨i, O⟩ ⟨hi, hO, hsO, hzO, hvO⟩ => ?_)
  dsimp only at hi hO hsO hzO hvO ⊢
  by_cases hia : i < a.length
  · have hx : a[i] < 4294967296 := sa _ (List.getElem_mem hia)
    obtain ⟨x, hxe⟩ : ∃ x, x = a[i] := ⟨_, rfl⟩
    simp -implicitDefEqProofs [go_sem, hia]
    rw [← hxe] at hx ⊢
    refine loop_rule [] (fun (p : Nat × List Nat × Nat) => ⟨80, [(0, .d (.sl (les a))), (1, .d (.sl (les b))), (5, .sr 80 0), (30, .d (.sl (les a))), (31, intP .i64 (a.length : Int)), (32, intP .i64 (i : Int)), (6, intP .i64 (i : Int)), (7, .d (ud x)), (8, intP .u64 (p.2.2 : Int)), (37, .d (.sl (les b))), (38, intP .i64 (b.length : Int)), (39, intP .i64 (p.1 : Int))], [(80, .arr ⟨86, 1, 0, false, les p.2.1⟩)], 2000⟩)
      (fun p => p.1 ≤ b.length ∧ p.2.1.length = a.length + b.length ∧ Small p.2.1 ∧ (∀ t, i + b.length ≤ t → p.2.1[t]?.getD 0 = 0) ∧ p.2.2 < 4294967296 ∧ val p.2.1 + 4294967296 ^ (i + p.1) * p.2.2 = val (a.take i) * val b + 4294967296 ^ i * (x * val (b.take p.1))) (fun p => b.length - p.1) (0, O, 0)
      (by exact ⟨by omega, hO, hsO, hzO, (show 0 < 4294967296 by decide), by simp [val, hvO]⟩) (by simp) (by simp -implicitDefEqProofs [go_sem]) (fun ⟨k, Q, c⟩ ⟨hk, hQ, hsQ, hzQ, hc, hvQ⟩ => ?_)
    dsimp only at hk hQ hsQ hzQ hc hvQ ⊢
    by_cases hkb : k < b.length
    · have hikl : i + k < Q.length := by omega
      have hy : b[k] < 4294967296 := sb _ (List.getElem_mem hkb)
      have ho : Q[i + k] < 4294967296 := hsQ _ (List.getElem_mem hikl)
      obtain ⟨y, hye⟩ : ∃ y, y = b[k] := ⟨_, rfl⟩
      obtain ⟨o, hoe⟩ : ∃ o, o = Q[i + k] := ⟨_, rfl⟩
      have hw := carry_lt hx (hye ▸ hy) (hoe ▸ ho) hc
      have hik : ((i : Int) + k).toNat = i + k := by omega
      simp -implicitDefEqProofs [go_sem, hkb, hikl, ud, hik]
      rw [← hye, ← hoe]
      have hr := mul_round (O := Q) (V := val (a.take i) * val b) (x := x) (c := c) (Y := b) hikl hvQ rfl
      have eo : Q[i + k]?.getD 0 = o := by simp [hikl, hoe]
      have ey : b[k]?.getD 0 = y := by simp [hkb, hye]
      rw [eo, ey] at hr
      refine ⟨⟨by omega, by omega⟩, by omega, ⟨by omega, by omega⟩, by omega, ⟨by omega, by omega⟩, k + 1, Q.set (i + k) ((x * y + o + c) % 4294967296), (x * y + o + c) / 4294967296, ?_⟩
      have e1 : (x : Int) % 18446744073709551616 = x := by omega
      have e2 : (y : Int) % 18446744073709551616 = y := by omega
      have e3 : (x : Int) * (y : Int) = ((x * y : Nat) : Int) := by simp
      rw [e1, e2, e3]
      refine ⟨⟨by omega, by simp [hQ], hsQ.set _ (Nat.mod_lt _ (by decide)), fun t ht => ?_, by omega, hr⟩, by omega, ⟨by omega, by omega⟩, ?_⟩
      · rw [get_set_ne (by omega), hzQ t (by omega)]
      · rw [← les_set]; rfl
    · obtain rfl : k = b.length := by omega
      have hil : i + b.length < Q.length := by omega
      have hib : ((i : Int) + b.length).toNat = i + b.length := by omega
      simp -implicitDefEqProofs [go_sem, ud, hib, hil]
      have he := mul_end (X := a) (n := 0) hil rfl hvQ rfl (by simp [hia, hxe]) (hzQ _ (by omega)) rfl
      have hcm : (c : Int) % 4294967296 = c := by omega
      refine ⟨⟨by omega, by omega⟩, by omega, ⟨by omega, by omega⟩, i + 1, Q.set (i + b.length) c, ⟨by omega, by simp [hQ], hsQ.set _ hc, fun t ht => ?_, by rw [he]; rfl⟩, by omega, by omega, ?_⟩
      · rw [get_set_ne (by omega), hzQ t (by omega)]
      · rw [hcm, ← les_set]; rfl
  · simp -implicitDefEqProofs [go_sem, hia]
    obtain rfl : i = a.length := by omega
    have hown := own_ok O hsO (by omega)
    rw [hvO, List.take_of_length_le (by omega), ea, eb] at hown
    refine .inl ⟨_, hown, ?_⟩
    simp -implicitDefEqProofs [go_sem]
end Go.Mt
