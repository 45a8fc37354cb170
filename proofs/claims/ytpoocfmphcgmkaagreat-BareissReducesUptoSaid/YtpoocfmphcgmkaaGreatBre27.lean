/-
  A part of the proof.
-/
import Derived.Test.YtpoocfmphcgmkaaGreatBre26
import Derived.Test.YtpoocfmphcgmkaaGreatBre10
set_option linter.unusedVariables false
set_option linter.unusedSimpArgs false
set_option linter.unusedSimpArgs false
set_option linter.unusedVariables false
namespace Go.Mt
open Go Go.Pm Go.Proofs
theorem radd_p (l m : List Nat) (hl : Small l) (hm : Small m) (hln : l.length < 1099511627776) (hmn : m.length < 1099511627776) : PCall Tryz.prog 178 [.d (.sl (les l)), .d (.sl (les m))] (.one (.d (.sl (les (limbs (val l + val m)))))) := by
  obtain ⟨N, hN⟩ : ∃ N, N = max l.length m.length := ⟨_, rfl⟩
  have hv := add_end1 hl hm (k := N) (by omega) (by omega)
  have hsm := small_outs addOut addNxt 0 l m (fun s x y => Nat.mod_lt _ (by decide)) (N + 1)
  have hln2 := length_outs addOut addNxt 0 l m (N + 1)
  have hno := rnorm_p (outs addOut addNxt 0 l m (N + 1)) hsm (by omega)
  rw [hv] at hno
  have hbd : ∀ k, stp addNxt 0 l m k ≤ 1 := fun k => add_stp_le l m hl hm k
  refine pcallS_of Tryz.func178 rfl (by kernel_rfl) (by simp [Tryz.ntmps178]) ?_; rw [Tryz.ntmps178]
  refine .seq (.of_fn hmo ?_); simp -implicitDefEqProofs [go_sem]; (repeat refine And.intro (by first | decide +kernel | omega | kernel_rfl) ?_); (try decide +kernel)
  refine .seq (.of_fn hmo ?_); simp -implicitDefEqProofs [go_sem]; (repeat refine And.intro (by first | decide +kernel | omega | kernel_rfl) ?_); (try decide +kernel)
  refine .cut ⟨46, [(0, .d (.sl (les l))), (1, .d (.sl (les m))), (5, intP .i64 (N : Int))], [], 2000⟩ (.of_fn hmo ?_) ?_
  · by_cases h : l.length < m.length
    · have e : N = m.length := by omega
      have hz : (l.length : Int) < m.length := by omega
      subst e
      simp -implicitDefEqProofs [go_sem, h, hz]; (repeat refine And.intro (by first | decide +kernel | omega | kernel_rfl) ?_); (try decide +kernel)
    · have e : N = l.length := by omega
      have hz : ¬ (l.length : Int) < m.length := by omega
      subst e
      simp -implicitDefEqProofs [go_sem, h, hz]; (repeat refine And.intro (by first | decide +kernel | omega | kernel_rfl) ?_); (try decide +kernel)
  refine .seq (.of_fn hmo ?_); simp -implicitDefEqProofs [go_sem]; (repeat refine And.intro (by first | decide +kernel | omega | kernel_rfl) ?_); (try decide +kernel)
  refine .seq (.of_fn hmo ?_); simp -implicitDefEqProofs [go_sem]; (repeat refine And.intro (by first | decide +kernel | omega | kernel_rfl) ?_); (try decide +kernel)
  refine .seq (.of_fn hmo ?_)
  simp -implicitDefEqProofs [go_sem]; (repeat refine And.intro (by first | decide +kernel | omega | kernel_rfl) ?_); (try decide +kernel)
  refine loop_rule [] (fun (k : Nat) => ⟨46, [(0, .d (.sl (les l))), (1, .d (.sl (les m))), (6, .sr 2008 0), (7, intP .u64 (stp addNxt 0 l m k : Int)), (22, intP .i64 ((N : Int) + 1)), (23, intP .i64 (k : Int))], [(2008, .arr ⟨190, 1, 0, false, les (Go.Mt.outs addOut addNxt 0 l m k ++ List.replicate (N + 1 - k) 0)⟩)], 3000⟩)
    (fun k => k ≤ N + 1) (fun k => N + 1 - k) 0 (Nat.zero_le _) (by simp) (by simp -implicitDefEqProofs [go_sem, les, ud, Go.Mt.outs, stp]) (fun k hk => ?_)
  by_cases hkN : k < N + 1
  · have hz : (k : Int) < (N : Int) + 1 := by omega
    have c1 := limb_p l k hl (by omega) (by omega)
    have c2 := limb_p m k hm (by omega) (by omega)
    have hx := hl.get k
    have hy := hm.get k
    have hc := hbd k
    have hf := outs_fill addOut addNxt 0 l m k (N + 1) hkN
    have hst : stp addNxt 0 l m (k + 1) = addNxt (stp addNxt 0 l m k) (l[k]?.getD 0) (m[k]?.getD 0) := rfl
    have hlen : (Go.Mt.outs addOut addNxt 0 l m k ++ List.replicate (N + 1 - k) 0).length = N + 1 := by simp [length_outs]; omega
    have hg : (les (Go.Mt.outs addOut addNxt 0 l m k ++ List.replicate (N + 1 - k) 0))[k]? = some [ud ((Go.Mt.outs addOut addNxt 0 l m k ++ List.replicate (N + 1 - k) 0)[k]?.getD 0)] := les_get (by omega)
    generalize l[k]?.getD 0 = x at *
    generalize m[k]?.getD 0 = y at *
    generalize stp addNxt 0 l m k = c at *
    obtain ⟨u, hu⟩ : ∃ u, u = x + y := ⟨_, rfl⟩
    obtain ⟨s, hs⟩ : ∃ s, s = x + y + c := ⟨_, rfl⟩
    have e1 : ((x : Int) + y) % 18446744073709551616 = (u : Int) := by omega
    have e2 : ((u : Int) + c) % 18446744073709551616 = (s : Int) := by omega
    have ho : addOut c x y = s % 4294967296 := by unfold addOut; rw [hs]
    have hq : addNxt c x y = s / 4294967296 := by unfold addNxt; rw [hs]
    generalize addOut c x y = o at *
    generalize addNxt c x y = q at *
    have e3 : (s : Int).tmod 4294967296 = (o : Int) := by rw [ho]; rfl
    have e4 : (o : Int) % 4294967296 = (o : Int) := by omega
    have e5 : (s : Int) / 4294967296 = (q : Int) := by omega
    have e6 : (q : Int) % 18446744073709551616 = (q : Int) := by omega
    have hset : (les (Go.Mt.outs addOut addNxt 0 l m k ++ List.replicate (N + 1 - k) 0)).set k [D.v (.int .u32 (o : Int))] = les (Go.Mt.outs addOut addNxt 0 l m (k + 1) ++ List.replicate (N + 1 - (k + 1)) 0) := (les_set _ _ _).trans (by rw [hf])
    simp -implicitDefEqProofs [go_sem, hz, hkN]; (repeat refine And.intro (by first | decide +kernel | omega | kernel_rfl) ?_); (try decide +kernel)
    refine .inl ⟨_, c1, ?_⟩; simp -implicitDefEqProofs [go_sem]; (repeat refine And.intro (by first | decide +kernel | omega | kernel_rfl) ?_); (try decide +kernel)
    refine .inl ⟨_, c2, ?_⟩; simp -implicitDefEqProofs [go_sem, e1, e2, e3, e4, e5, e6, hlen, hg, hset, hkN, hz, ud]; (repeat refine And.intro (by first | decide +kernel | omega | kernel_rfl) ?_); (try decide +kernel)
    refine ⟨k + 1, ?_⟩; (repeat' apply And.intro) <;> first | omega | (exact (by rw [hst])) | (exact (by rw [Nat.add_sub_add_right])) | assumption | rfl
  · obtain rfl : k = N + 1 := by omega
    simp -implicitDefEqProofs [go_sem]; (repeat refine And.intro (by first | decide +kernel | omega | kernel_rfl) ?_); (try decide +kernel)
    refine .seq (.of_fn hmo ?_); simp -implicitDefEqProofs [go_sem]; (repeat refine And.intro (by first | decide +kernel | omega | kernel_rfl) ?_); (try decide +kernel)
    refine .inl ⟨_, hno, ?_⟩; simp -implicitDefEqProofs [go_sem]; (repeat refine And.intro (by first | decide +kernel | omega | kernel_rfl) ?_); (try decide +kernel)
    refine .of_fn hmo ?_
    simp -implicitDefEqProofs [go_sem]; (repeat refine And.intro (by first | decide +kernel | omega | kernel_rfl) ?_); (try decide +kernel)
theorem rsub_p (l m : List Nat) (hl : Small l) (hm : Small m) (hln : l.length < 1099511627776) (hmn : m.length ≤ l.length) (hle : val m ≤ val l) : PCall Tryz.prog 180 [.d (.sl (les l)), .d (.sl (les m))] (.one (.d (.sl (les (limbs (val l - val m)))))) := by
  have hv := sub_end hl hm hle l.length (Nat.le_refl _) hmn
  have hsm := small_outs subOut subNxt 0 l m (fun s x y => Nat.mod_lt _ (by decide)) l.length
  have hln2 := length_outs subOut subNxt 0 l m l.length
  have hno := rnorm_p (Go.Mt.outs subOut subNxt 0 l m l.length) hsm (by omega)
  rw [hv] at hno
  have hbd : ∀ k, stp subNxt 0 l m k ≤ 1 := fun k => by
    cases k with
    | zero => exact Nat.zero_le _
    | succ k => exact subNxt_le _ _ _
  refine pcall_of hmo Tryz.func180 rfl (by kernel_rfl) (by simp [Tryz.ntmps180]) ?_; simp -implicitDefEqProofs [go_sem, Tryz.ntmps180]; (repeat refine And.intro (by first | decide +kernel | omega | kernel_rfl) ?_); (try decide +kernel)
  refine loop_rule [] (fun (k : Nat) => ⟨39, [(0, .d (.sl (les l))), (1, .d (.sl (les m))), (5, .sr 12 0), (6, intP .u64 (stp subNxt 0 l m k : Int)), (13, intP .i64 (l.length : Int)), (14, intP .i64 (k : Int))], [(12, .arr ⟨190, 1, 0, false, les (Go.Mt.outs subOut subNxt 0 l m k ++ List.replicate (l.length - k) 0)⟩)], 3000⟩)
    (fun k => k ≤ l.length) (fun k => l.length - k) 0 (Nat.zero_le _) (by simp) (by simp -implicitDefEqProofs [go_sem, les, ud, Go.Mt.outs, stp]) (fun k hk => ?_)
  by_cases hkN : k < l.length
  · have c1 := limb_p l k hl (by omega) (by omega)
    have c2 := limb_p m k hm (by omega) (by omega)
    have hx := hl.get k
    have hy := hm.get k
    have hc := hbd k
    have hf := outs_fill subOut subNxt 0 l m k l.length hkN
    have hst : stp subNxt 0 l m (k + 1) = subNxt (stp subNxt 0 l m k) (l[k]?.getD 0) (m[k]?.getD 0) := rfl
    have hlen : (Go.Mt.outs subOut subNxt 0 l m k ++ List.replicate (l.length - k) 0).length = l.length := by simp [length_outs]; omega
    have hg : (les (Go.Mt.outs subOut subNxt 0 l m k ++ List.replicate (l.length - k) 0))[k]? = some [ud ((Go.Mt.outs subOut subNxt 0 l m k ++ List.replicate (l.length - k) 0)[k]?.getD 0)] := les_get (by omega)
    generalize l[k]?.getD 0 = x at *
    generalize m[k]?.getD 0 = y at *
    generalize stp subNxt 0 l m k = c at *
    obtain ⟨u0, hu0⟩ : ∃ u, u = 4294967296 + x := ⟨_, rfl⟩
    obtain ⟨u, hu⟩ : ∃ u, u = 4294967296 + x - y := ⟨_, rfl⟩
    obtain ⟨s, hs⟩ : ∃ s, s = 4294967296 + x - y - c := ⟨_, rfl⟩
    have e0 : ((4294967296 : Int) + x) % 18446744073709551616 = (u0 : Int) := by omega
    have e1 : ((u0 : Int) - y) % 18446744073709551616 = (u : Int) := by omega
    have e2 : ((u : Int) - c) % 18446744073709551616 = (s : Int) := by omega
    have ho : subOut c x y = s % 4294967296 := by unfold subOut; rw [hs, Nat.add_comm x]
    have hq : subNxt c x y = 1 - s / 4294967296 := by unfold subNxt; split <;> omega
    generalize subOut c x y = o at *
    generalize subNxt c x y = q at *
    have e3 : (s : Int).tmod 4294967296 = (o : Int) := by rw [ho]; rfl
    have e4 : (o : Int) % 4294967296 = (o : Int) := by omega
    obtain ⟨d, hd⟩ : ∃ d, d = s / 4294967296 := ⟨_, rfl⟩
    have e5 : (s : Int) / 4294967296 = (d : Int) := by omega
    have e6 : (d : Int) % 18446744073709551616 = (d : Int) := by omega
    have e7 : ((1 : Int) - d) % 18446744073709551616 = (q : Int) := by omega
    have hset : (les (Go.Mt.outs subOut subNxt 0 l m k ++ List.replicate (l.length - k) 0)).set k [D.v (.int .u32 (o : Int))] = les (Go.Mt.outs subOut subNxt 0 l m (k + 1) ++ List.replicate (l.length - (k + 1)) 0) := (les_set _ _ _).trans (by rw [hf])
    simp -implicitDefEqProofs [go_sem, hkN]; (repeat refine And.intro (by first | decide +kernel | omega | kernel_rfl) ?_); (try decide +kernel)
    refine .inl ⟨_, c1, ?_⟩; simp -implicitDefEqProofs [go_sem, e0]; (repeat refine And.intro (by first | decide +kernel | omega | kernel_rfl) ?_); (try decide +kernel)
    refine .inl ⟨_, c2, ?_⟩; simp -implicitDefEqProofs [go_sem, e1, e2, e3, e4, e5, e6, e7, hlen, hg, hset, hkN, ud]; (repeat refine And.intro (by first | decide +kernel | omega | kernel_rfl) ?_); (try decide +kernel)
    refine ⟨k + 1, ?_⟩; (repeat' apply And.intro) <;> first | omega | (exact (by rw [hst])) | (exact (by rw [Nat.add_sub_add_right])) | assumption | rfl
  · obtain rfl : k = l.length := by omega
    simp -implicitDefEqProofs [go_sem]; (repeat refine And.intro (by first | decide +kernel | omega | kernel_rfl) ?_); (try decide +kernel)
    refine .inl ⟨_, hno, ?_⟩; simp -implicitDefEqProofs [go_sem]; (repeat refine And.intro (by first | decide +kernel | omega | kernel_rfl) ?_); (try decide +kernel)
theorem rsmall_p (l : List Nat) (w : Nat) (hl : Small l) (hw : w < 4294967296) (hln : l.length < 1099511627776) : PCall Tryz.prog 213 [.d (.sl (les l)), .d (ud w)] (.one (.d (.sl (les (limbs (val l * w)))))) := by
  have hv := sm_end hw hl []
  have hsm := small_outs (smOut w) (smNxt w) 0 l [] (fun s x y => Nat.mod_lt _ (by decide)) (l.length + 1)
  have hln2 := length_outs (smOut w) (smNxt w) 0 l [] (l.length + 1)
  have hno := rnorm_p (Go.Mt.outs (smOut w) (smNxt w) 0 l [] (l.length + 1)) hsm (by omega)
  rw [hv] at hno
  have hbd : ∀ k, stp (smNxt w) 0 l [] k < 4294967296 := fun k => sm_stp_lt hw hl k
  refine pcall_of hmo Tryz.func213 rfl (by kernel_rfl) (by simp [Tryz.ntmps213]) ?_; simp -implicitDefEqProofs [go_sem, Tryz.ntmps213]; (repeat refine And.intro (by first | decide +kernel | omega | kernel_rfl) ?_); (try decide +kernel)
  refine loop_rule [] (fun (k : Nat) => ⟨37, [(0, .d (.sl (les l))), (1, .d (ud w)), (5, .sr 16 0), (6, intP .u64 (stp (smNxt w) 0 l [] k : Int)), (14, intP .i64 ((l.length : Int) + 1)), (15, intP .i64 (k : Int))], [(16, .arr ⟨190, 1, 0, false, les (Go.Mt.outs (smOut w) (smNxt w) 0 l [] k ++ List.replicate (l.length + 1 - k) 0)⟩)], 3000⟩)
    (fun k => k ≤ l.length + 1) (fun k => l.length + 1 - k) 0 (Nat.zero_le _) (by simp) (by simp -implicitDefEqProofs [go_sem, les, ud, Go.Mt.outs, stp]) (fun k hk => ?_)
  by_cases hkN : k < l.length + 1
  · have hz : (k : Int) < (l.length : Int) + 1 := by omega
    have c1 := limb_p l k hl (by omega) (by omega)
    have hx := hl.get k
    have hc := hbd k
    have hf := outs_fill (smOut w) (smNxt w) 0 l [] k (l.length + 1) hkN
    have hst : stp (smNxt w) 0 l [] (k + 1) = smNxt w (stp (smNxt w) 0 l [] k) (l[k]?.getD 0) (([] : List Nat)[k]?.getD 0) := rfl
    have hlen : (Go.Mt.outs (smOut w) (smNxt w) 0 l [] k ++ List.replicate (l.length + 1 - k) 0).length = l.length + 1 := by simp [length_outs]; omega
    have hg : (les (Go.Mt.outs (smOut w) (smNxt w) 0 l [] k ++ List.replicate (l.length + 1 - k) 0))[k]? = some [ud ((Go.Mt.outs (smOut w) (smNxt w) 0 l [] k ++ List.replicate (l.length + 1 - k) 0)[k]?.getD 0)] := les_get (by omega)
    generalize l[k]?.getD 0 = x at *
    generalize stp (smNxt w) 0 l [] k = c at *
    obtain ⟨P, hP⟩ : ∃ P, P = x * w := ⟨_, rfl⟩
    have hPb : P ≤ 4294967295 * 4294967295 := hP ▸ Nat.mul_le_mul (by omega) (by omega)
    obtain ⟨s, hs⟩ : ∃ s, s = P + c := ⟨_, rfl⟩
    have e0 : (w : Int) % 18446744073709551616 = (w : Int) := by omega
    have e1 : ((x : Int) * w) % 18446744073709551616 = (P : Int) := by
      have : (x : Int) * w = (P : Int) := by rw [hP]; simp
      rw [this]; omega
    have e2 : ((P : Int) + c) % 18446744073709551616 = (s : Int) := by omega
    have ho : smOut w c x (([] : List Nat)[k]?.getD 0) = s % 4294967296 := by unfold smOut; rw [hs, hP]
    have hq : smNxt w c x (([] : List Nat)[k]?.getD 0) = s / 4294967296 := by unfold smNxt; rw [hs, hP]
    generalize smOut w c x (([] : List Nat)[k]?.getD 0) = o at *
    generalize smNxt w c x (([] : List Nat)[k]?.getD 0) = q at *
    have e3 : (s : Int).tmod 4294967296 = (o : Int) := by rw [ho]; rfl
    have e4 : (o : Int) % 4294967296 = (o : Int) := by omega
    have e5 : (s : Int) / 4294967296 = (q : Int) := by omega
    have e6 : (q : Int) % 18446744073709551616 = (q : Int) := by omega
    have hset : (les (Go.Mt.outs (smOut w) (smNxt w) 0 l [] k ++ List.replicate (l.length + 1 - k) 0)).set k [D.v (.int .u32 (o : Int))] = les (Go.Mt.outs (smOut w) (smNxt w) 0 l [] (k + 1) ++ List.replicate (l.length + 1 - (k + 1)) 0) := (les_set _ _ _).trans (by rw [hf])
    simp -implicitDefEqProofs [go_sem, hkN, hz]; (repeat refine And.intro (by first | decide +kernel | omega | kernel_rfl) ?_); (try decide +kernel)
    refine .inl ⟨_, c1, ?_⟩; simp -implicitDefEqProofs [go_sem, e0, e1, e2, e3, e4, e5, e6, hlen, hg, hset, hkN, hz, ud]; (repeat refine And.intro (by first | decide +kernel | omega | kernel_rfl) ?_); (try decide +kernel)
    refine ⟨k + 1, ?_⟩; (repeat' apply And.intro) <;> first | omega | (exact (by rw [hst])) | (exact (by rw [Nat.add_sub_add_right])) | assumption | rfl
  · obtain rfl : k = l.length + 1 := by omega
    simp -implicitDefEqProofs [go_sem]; (repeat refine And.intro (by first | decide +kernel | omega | kernel_rfl) ?_); (try decide +kernel)
    refine .inl ⟨_, hno, ?_⟩; simp -implicitDefEqProofs [go_sem]; (repeat refine And.intro (by first | decide +kernel | omega | kernel_rfl) ?_); (try decide +kernel)
theorem rshift_p (l : List Nat) (w : Nat) (hl : Small l) (hw : w < 4294967296) (hln : l.length < 1099511627776) : PCall Tryz.prog 212 [.d (.sl (les l)), .d (ud w)] (.one (.d (.sl (les (limbs (w + 4294967296 * val l)))))) := by
  have hno := rnorm_p (w :: l) (small_cons hw hl) (by simp; omega)
  have e : val (w :: l) = w + 4294967296 * val l := by simp [val]
  rw [e] at hno
  have e2 : [D.v (.int .u32 (w : Int))] :: les l = les (w :: l) := rfl
  refine pcall_of hmo Tryz.func212 rfl (by kernel_rfl) (by simp [Tryz.ntmps212]) ?_; simp -implicitDefEqProofs [go_sem, Tryz.ntmps212]; (repeat refine And.intro (by first | decide +kernel | omega | kernel_rfl) ?_); (try decide +kernel)
  simp -implicitDefEqProofs [go_sem, ud]; (repeat refine And.intro (by first | decide +kernel | omega | kernel_rfl) ?_); (try decide +kernel)
  refine .inl ⟨_, hno, ?_⟩; simp -implicitDefEqProofs [go_sem]; (repeat refine And.intro (by first | decide +kernel | omega | kernel_rfl) ?_); (try decide +kernel)
end Go.Mt
/-
  A part of the proof.
-/
set_option linter.unusedSimpArgs false
set_option linter.unusedVariables false
namespace Go.Mt
open Go Go.Pm Go.Proofs
theorem rcmp_p (l m : List Nat) (hl : Small l) (hm : Small m) (hln : l.length < 1099511627776) (hmn : m.length < 1099511627776) : PCall Tryz.prog 179 [.d (.sl (les l)), .d (.sl (les m))] (.one (.d (.v (.int .i64 (cmpZ (val l) (val m)))))) := by
  obtain ⟨N, hN⟩ : ∃ N, N = max l.length m.length := ⟨_, rfl⟩
  refine pcallS_of Tryz.func179 rfl (by kernel_rfl) (by simp [Tryz.ntmps179]) ?_; rw [Tryz.ntmps179]
  refine .seq (.of_fn hmo ?_); simp -implicitDefEqProofs [go_sem]; (repeat refine And.intro (by first | decide +kernel | omega | kernel_rfl) ?_); (try decide +kernel)
  refine .seq (.of_fn hmo ?_); simp -implicitDefEqProofs [go_sem]; (repeat refine And.intro (by first | decide +kernel | omega | kernel_rfl) ?_); (try decide +kernel)
  refine .cut ⟨35, [(0, .d (.sl (les l))), (1, .d (.sl (les m))), (5, intP .i64 (N : Int))], [], 2000⟩ (.of_fn hmo ?_) ?_
  · by_cases h : l.length < m.length
    · have e : N = m.length := by omega
      have hz : (l.length : Int) < m.length := by omega
      subst e
      simp -implicitDefEqProofs [go_sem, h, hz]; (repeat refine And.intro (by first | decide +kernel | omega | kernel_rfl) ?_); (try decide +kernel)
    · have e : N = l.length := by omega
      have hz : ¬ (l.length : Int) < m.length := by omega
      subst e
      simp -implicitDefEqProofs [go_sem, h, hz]; (repeat refine And.intro (by first | decide +kernel | omega | kernel_rfl) ?_); (try decide +kernel)
  refine .seq (.of_fn hmo ?_)
  simp -implicitDefEqProofs [go_sem]; (repeat refine And.intro (by first | decide +kernel | omega | kernel_rfl) ?_); (try decide +kernel)
  refine loop_rule [] (fun (k : Nat) => ⟨35, [(0, .d (.sl (les l))), (1, .d (.sl (les m))), (6, intP .i64 ((k : Int) - 1))], [], 3000⟩) (fun k => k ≤ N ∧ val l / 4294967296 ^ k = val m / 4294967296 ^ k) id N
    ⟨Nat.le_refl _, by rw [val_div_len hl (by omega), val_div_len hm (by omega)]⟩ (by simp) (by simp -implicitDefEqProofs [go_sem]) (fun k ⟨hk, he⟩ => ?_)
  by_cases h0 : k = 0
  · subst h0
    have e : val l = val m := by simpa using he
    have e2 : cmpZ (val l) (val m) = 0 := by unfold cmpZ; rw [e]; simp
    rw [e2]
    simp -implicitDefEqProofs [go_sem]; (repeat refine And.intro (by first | decide +kernel | omega | kernel_rfl) ?_); (try decide +kernel)
    refine .of_fn hmo ?_
    simp -implicitDefEqProofs [go_sem]; (repeat refine And.intro (by first | decide +kernel | omega | kernel_rfl) ?_); (try decide +kernel)
  · obtain ⟨j, rfl⟩ : ∃ j, k = j + 1 := ⟨k - 1, by omega⟩
    have ej : ((j + 1 : Nat) : Int) - 1 = (j : Int) := by omega
    simp only [ej]
    have c1 := limb_p l j hl (by omega) (by omega)
    have c2 := limb_p m j hm (by omega) (by omega)
    have hlt1 := cmp_step_lt hl hm (i := j) he
    have hlt2 := cmp_step_lt hm hl (i := j) he.symm
    have heq := cmp_step_eq hl hm (i := j) he
    generalize l[j]?.getD 0 = x at *
    generalize m[j]?.getD 0 = y at *
    by_cases hx : x < y
    · have hv := hlt1 hx
      have e2 : cmpZ (val l) (val m) = -1 := by unfold cmpZ; rw [if_pos hv]
      rw [e2]
      simp -implicitDefEqProofs [go_sem]; (repeat refine And.intro (by first | decide +kernel | omega | kernel_rfl) ?_); (try decide +kernel)
      refine .inl ⟨_, c1, ?_⟩; simp -implicitDefEqProofs [go_sem]; (repeat refine And.intro (by first | decide +kernel | omega | kernel_rfl) ?_); (try decide +kernel)
      refine .inl ⟨_, c2, ?_⟩; simp -implicitDefEqProofs [go_sem, hx]; (repeat refine And.intro (by first | decide +kernel | omega | kernel_rfl) ?_); (try decide +kernel)
    · by_cases hy : y < x
      · have hv := hlt2 hy
        have e2 : cmpZ (val l) (val m) = 1 := by unfold cmpZ; rw [if_neg (by omega), if_pos hv]
        rw [e2]
        simp -implicitDefEqProofs [go_sem]; (repeat refine And.intro (by first | decide +kernel | omega | kernel_rfl) ?_); (try decide +kernel)
        refine .inl ⟨_, c1, ?_⟩; simp -implicitDefEqProofs [go_sem]; (repeat refine And.intro (by first | decide +kernel | omega | kernel_rfl) ?_); (try decide +kernel)
        refine .inl ⟨_, c2, ?_⟩; simp -implicitDefEqProofs [go_sem, hx]; (repeat refine And.intro (by first | decide +kernel | omega | kernel_rfl) ?_); (try decide +kernel)
        refine .inl ⟨_, c1, ?_⟩; simp -implicitDefEqProofs [go_sem]; (repeat refine And.intro (by first | decide +kernel | omega | kernel_rfl) ?_); (try decide +kernel)
        refine .inl ⟨_, c2, ?_⟩; simp -implicitDefEqProofs [go_sem, hy]; (repeat refine And.intro (by first | decide +kernel | omega | kernel_rfl) ?_); (try decide +kernel)
      · have hv := heq (by omega)
        simp -implicitDefEqProofs [go_sem]; (repeat refine And.intro (by first | decide +kernel | omega | kernel_rfl) ?_); (try decide +kernel)
        refine .inl ⟨_, c1, ?_⟩; simp -implicitDefEqProofs [go_sem]; (repeat refine And.intro (by first | decide +kernel | omega | kernel_rfl) ?_); (try decide +kernel)
        refine .inl ⟨_, c2, ?_⟩; simp -implicitDefEqProofs [go_sem, hx]; (repeat refine And.intro (by first | decide +kernel | omega | kernel_rfl) ?_); (try decide +kernel)
        refine .inl ⟨_, c1, ?_⟩; simp -implicitDefEqProofs [go_sem]; (repeat refine And.intro (by first | decide +kernel | omega | kernel_rfl) ?_); (try decide +kernel)
        refine .inl ⟨_, c2, ?_⟩; simp -implicitDefEqProofs [go_sem, hy]; (repeat refine And.intro (by first | decide +kernel | omega | kernel_rfl) ?_); (try decide +kernel)
        refine ⟨j, ?_⟩; (repeat' apply And.intro) <;> first | omega | assumption | rfl
theorem rmul_p (l m : List Nat) (hl : Small l) (hm : Small m) (hln : l.length < 274877906944) (hmn : m.length < 274877906944) : PCall Tryz.prog 181 [.d (.sl (les l)), .d (.sl (les m))] (.one (.d (.sl (les (limbs (val l * val m)))))) := by
  have b1 := nl_val hl
  have b2 := nl_val hm
  obtain ⟨x, hx⟩ : ∃ x, val l = x := ⟨_, rfl⟩
  obtain ⟨y, hy⟩ : ∃ y, val m = y := ⟨_, rfl⟩
  have n1 := rnorm_p l hl (by omega)
  have n2 := rnorm_p m hm (by omega)
  rw [hx] at b1 n1
  rw [hy] at b2 n2
  rw [hx, hy]
  have hvd : ∀ k, val ((limbs y).drop k) = y / 4294967296 ^ k := fun k => by rw [val_drop_div (small_limbs y), val_limbs]
  refine pcall_of hmo Tryz.func181 rfl (by kernel_rfl) (by simp [Tryz.ntmps181]) ?_; simp -implicitDefEqProofs [go_sem, Tryz.ntmps181]; (repeat refine And.intro (by first | decide +kernel | omega | kernel_rfl) ?_); (try decide +kernel)
  refine .inl ⟨_, n1, ?_⟩; simp -implicitDefEqProofs [go_sem]; (repeat refine And.intro (by first | decide +kernel | omega | kernel_rfl) ?_); (try decide +kernel)
  refine .inl ⟨_, n2, ?_⟩; simp -implicitDefEqProofs [go_sem, length_limbs]; (repeat refine And.intro (by first | decide +kernel | omega | kernel_rfl) ?_); (try decide +kernel)
  refine loop_rule [.nilS 5] (fun (k : Nat) => ⟨29, [(0, .d (.sl (les (limbs x)))), (1, .d (.sl (les (limbs y)))), (5, .d (.sl (les (limbs (x * val ((limbs y).drop k)))))), (6, intP .i64 ((k : Int) - 1))], [], 3000⟩) (fun k => k ≤ nl y) id (nl y) (Nat.le_refl _) (by simp) (by
    have e : (limbs y).drop (nl y) = [] := List.drop_of_length_le (by rw [length_limbs]; exact Nat.le_refl _)
    simp -implicitDefEqProofs [go_sem, e, val, limbs_zero, les_nil]) (fun k hk => ?_)
  by_cases h0 : k = 0
  · subst h0
    have e : x * val ((limbs y).drop 0) = x * y := by rw [List.drop_zero, val_limbs]
    rw [e]
    have hl3 := nl_mul x y
    have n3 := rnorm_p (limbs (x * y)) (small_limbs _) (by rw [length_limbs]; omega)
    rw [val_limbs] at n3
    simp -implicitDefEqProofs [go_sem]; (repeat refine And.intro (by first | decide +kernel | omega | kernel_rfl) ?_); (try decide +kernel)
    refine .inl ⟨_, n3, ?_⟩; simp -implicitDefEqProofs [go_sem]; (repeat refine And.intro (by first | decide +kernel | omega | kernel_rfl) ?_); (try decide +kernel)
  · obtain ⟨j, rfl⟩ : ∃ j, k = j + 1 := ⟨k - 1, by omega⟩
    have ej : ((j + 1 : Nat) : Int) - 1 = (j : Int) := by omega
    simp only [ej]
    have hjl : j < (limbs y).length := by rw [length_limbs]; omega
    have hg : (les (limbs y))[j]? = some [ud ((limbs y)[j]?.getD 0)] := les_get hjl
    have hd := val_drop' (limbs y) j
    have hw := (small_limbs y).get j
    have hle : val ((limbs y).drop (j + 1)) ≤ y := by rw [hvd]; exact Nat.div_le_self _ _
    have hle0 : val ((limbs y).drop j) ≤ y := by rw [hvd]; exact Nat.div_le_self _ _
    generalize (limbs y)[j]?.getD 0 = w at *
    obtain ⟨v, hv⟩ : ∃ v, v = val ((limbs y).drop (j + 1)) := ⟨_, rfl⟩
    obtain ⟨v0, hv0⟩ : ∃ v0, v0 = val ((limbs y).drop j) := ⟨_, rfl⟩
    rw [← hv] at hd hle
    rw [← hv0] at hd hle0
    have hb1 : nl (x * v) ≤ nl x + nl y := Nat.le_trans (nl_mul x v) (by have := nl_mono hle; omega)
    have hb0 : nl (x * v0) ≤ nl x + nl y := Nat.le_trans (nl_mul x v0) (by have := nl_mono hle0; omega)
    have s1 := rshift_p (limbs (x * v)) 0 (small_limbs _) (by decide) (by rw [length_limbs]; omega)
    have s2 := rsmall_p (limbs x) w (small_limbs _) hw (by rw [length_limbs]; omega)
    rw [val_limbs, Nat.zero_add] at s1
    rw [val_limbs] at s2
    have e3 : 4294967296 * (x * v) + x * w = x * v0 := by rw [hd, Nat.mul_add, Nat.mul_left_comm, Nat.add_comm]
    have hb2 : nl (4294967296 * (x * v)) ≤ nl x + nl y := Nat.le_trans (nl_mono (by omega)) hb0
    have hb3 : nl (x * w) ≤ nl x + nl y := Nat.le_trans (nl_mono (by omega)) hb0
    have s3 := radd_p (limbs (4294967296 * (x * v))) (limbs (x * w)) (small_limbs _) (small_limbs _) (by rw [length_limbs]; omega) (by rw [length_limbs]; omega)
    rw [val_limbs, val_limbs, e3, hv0] at s3
    rw [← hv]
    simp -implicitDefEqProofs [go_sem, hg, ud]; (repeat refine And.intro (by first | decide +kernel | omega | kernel_rfl) ?_); (try decide +kernel)
    refine .inl ⟨_, s1, ?_⟩; simp -implicitDefEqProofs [go_sem, hg, ud]; (repeat refine And.intro (by first | decide +kernel | omega | kernel_rfl) ?_); (try decide +kernel)
    refine .inl ⟨_, s2, ?_⟩; simp -implicitDefEqProofs [go_sem]; (repeat refine And.intro (by first | decide +kernel | omega | kernel_rfl) ?_); (try decide +kernel)
    refine .inl ⟨_, s3, ?_⟩; simp -implicitDefEqProofs [go_sem]; (repeat refine And.intro (by first | decide +kernel | omega | kernel_rfl) ?_); (try decide +kernel)
    refine ⟨j, ?_⟩; (repeat' apply And.intro) <;> first | omega | assumption | rfl
end Go.Mt
/-
  A part of the proof.
-/
set_option linter.unusedSimpArgs false
set_option linter.unusedVariables false
namespace Go.Mt
open Go Go.Pm Go.Proofs
def hlf : List Nat → List Nat
  | [] => []
  | x :: l => (x / 2 + (l[0]?.getD 0 % 2) * 2147483648) :: hlf l
theorem hlf_len (l : List Nat) : (hlf l).length = l.length := by
  induction l with
  | nil => rfl
  | cons x l ih => simp [hlf, ih]
theorem hlf_get (l : List Nat) {i : Nat} (hi : i < (hlf l).length) : (hlf l)[i] = l[i]?.getD 0 / 2 + (l[i + 1]?.getD 0 % 2) * 2147483648 := by
  induction l generalizing i with
  | nil => simp [hlf] at hi
  | cons x l ih =>
    cases i with
    | zero => simp [hlf]
    | succ i =>
      have := ih (i := i) (by simpa [hlf] using hi)
      simpa [hlf] using this
theorem hlf_small {l : List Nat} (hl : Small l) : Small (hlf l) := fun x hx => by
  obtain ⟨i, hi, rfl⟩ := List.getElem_of_mem hx
  rw [hlf_get]
  have := hl.get i
  omega
theorem hlf_val {l : List Nat} (hl : Small l) : val (hlf l) = val l / 2 := by
  induction l with
  | nil => rfl
  | cons x l ih =>
    have h1 := ih (fun y hy => hl y (List.mem_cons_of_mem _ hy))
    have h2 : l[0]?.getD 0 % 2 = val l % 2 := by
      cases l with
      | nil => rfl
      | cons y l => simp [val]; omega
    show x / 2 + (l[0]?.getD 0 % 2) * 2147483648 + 4294967296 * val (hlf l) = (x + 4294967296 * val l) / 2
    rw [h1, h2]
    omega
theorem rhalf_p (l : List Nat) (hl : Small l) (hln : l.length < 1099511627776) : PCall Tryz.prog 221 [.d (.sl (les l))] (.one (.d (.sl (les (limbs (val l / 2)))))) := by
  have hno := rnorm_p (hlf l) (hlf_small hl) (by rw [hlf_len]; omega)
  rw [hlf_val hl] at hno
  have hhl := hlf_len l
  refine pcall_of hmo Tryz.func221 rfl (by kernel_rfl) (by simp [Tryz.ntmps221]) ?_; simp -implicitDefEqProofs [go_sem, Tryz.ntmps221]; (repeat refine And.intro (by first | decide +kernel | omega | kernel_rfl) ?_); (try decide +kernel)
  refine loop_rule [] (fun (k : Nat) => ⟨31, [(0, .d (.sl (les l))), (3, .sr 12 0), (9, intP .i64 (l.length : Int)), (10, intP .i64 (k : Int))], [(12, .arr ⟨190, 1, 0, false, les ((hlf l).take k ++ List.replicate (l.length - k) 0)⟩)], 3000⟩)
    (fun k => k ≤ l.length) (fun k => l.length - k) 0 (Nat.zero_le _) (by simp) (by simp -implicitDefEqProofs [go_sem, les, ud]) (fun k hk => ?_)
  by_cases hkN : k < l.length
  · have c1 := limb_p l k hl (by omega) (by omega)
    have c2 := limb_p l (k + 1) hl (by omega) (by omega)
    have hx := hl.get k
    have hy := hl.get (k + 1)
    have hf := fill_next (hlf l) l.length k hkN (by omega)
    have hhg := hlf_get l (i := k) (by omega)
    have hlen : ((hlf l).take k ++ List.replicate (l.length - k) 0).length = l.length := by simp [hlf_len]; omega
    have hg : (les ((hlf l).take k ++ List.replicate (l.length - k) 0))[k]? = some [ud (((hlf l).take k ++ List.replicate (l.length - k) 0)[k]?.getD 0)] := les_get (by omega)
    rw [hhg] at hf
    have ek : ((k + 1 : Nat) : Int) = (k : Int) + 1 := by omega
    rw [ek] at c2
    generalize l[k]?.getD 0 = x at *
    generalize l[k + 1]?.getD 0 = y at *
    obtain ⟨o, ho⟩ : ∃ o, o = x / 2 + (y % 2) * 2147483648 := ⟨_, rfl⟩
    rw [← ho] at hf
    have e0 : (y : Int).tmod 2 = ((y % 2 : Nat) : Int) := rfl
    have e1 : (x : Int) / 2 % 18446744073709551616 = (x : Int) / 2 := by omega
    have e2 : ((y : Int) % 2 * 2147483648) % 18446744073709551616 = (y : Int) % 2 * 2147483648 := by omega
    have e3 : ((x : Int) / 2 + (y : Int) % 2 * 2147483648) % 18446744073709551616 = (o : Int) := by omega
    have e4 : (o : Int) % 4294967296 = (o : Int) := by omega
    simp -implicitDefEqProofs [go_sem, hkN]; (repeat refine And.intro (by first | decide +kernel | omega | kernel_rfl) ?_); (try decide +kernel)
    refine .inl ⟨_, c1, ?_⟩; simp -implicitDefEqProofs [go_sem, e1]; (repeat refine And.intro (by first | decide +kernel | omega | kernel_rfl) ?_); (try decide +kernel)
    refine .inl ⟨_, c2, ?_⟩; simp -implicitDefEqProofs [go_sem, e0, e1, e2, e3, e4, hlen, hg, hf, hkN, ud]; (repeat refine And.intro (by first | decide +kernel | omega | kernel_rfl) ?_); (try decide +kernel)
    refine ⟨k + 1, ?_⟩; (repeat' apply And.intro) <;> first | omega | assumption | rfl
  · obtain rfl : k = l.length := by omega
    rw [take_all (hlf_len l)]
    simp -implicitDefEqProofs [go_sem]; (repeat refine And.intro (by first | decide +kernel | omega | kernel_rfl) ?_); (try decide +kernel)
    refine .inl ⟨_, hno, ?_⟩; simp -implicitDefEqProofs [go_sem]; (repeat refine And.intro (by first | decide +kernel | omega | kernel_rfl) ?_); (try decide +kernel)
theorem same01_p (l m : List Nat) (hln : l.length < 1099511627776) (hmn : m.length < 1099511627776) : PCall Tryz.prog 142 [.d (.sl (les l)), .d (.sl (les m))] (.one (.d (.v (.bool (decide (l = m)))))) := by
  by_cases hl : l.length = m.length
  · refine pcall_of hmo Tryz.func142 rfl (by kernel_rfl) (by simp [Tryz.ntmps142]) ?_; simp -implicitDefEqProofs [go_sem, Tryz.ntmps142]; (repeat refine And.intro (by first | decide +kernel | omega | kernel_rfl) ?_); (try decide +kernel)
    simp -implicitDefEqProofs [go_sem, hl]; (repeat refine And.intro (by first | decide +kernel | omega | kernel_rfl) ?_); (try decide +kernel)
    refine loop_rule [] (fun (k : Nat) => ⟨26, [(0, .d (.sl (les l))), (1, .d (.sl (les m))), (4, .d (.v (.bool false))), (12, intP .i64 (m.length : Int)), (13, intP .i64 (k : Int))], [], 3000⟩)
      (fun k => k ≤ m.length ∧ l.take k = m.take k) (fun k => m.length - k) 0 ⟨Nat.zero_le _, by simp⟩ (by simp) (by simp -implicitDefEqProofs [go_sem]) (fun k ⟨hk, he⟩ => ?_)
    by_cases hkl : k < m.length
    · have hkl2 : k < l.length := by omega
      by_cases hx : l[k] = m[k]
      · have h2 : l.take (k + 1) = m.take (k + 1) := by
          rw [List.take_add_one, List.take_add_one, he, List.getElem?_eq_getElem hkl, List.getElem?_eq_getElem hkl2, hx]
        simp -implicitDefEqProofs [go_sem, hkl, hkl2, ud, hx]; (repeat refine And.intro (by first | decide +kernel | omega | kernel_rfl) ?_); (try decide +kernel)
        refine ⟨k + 1, ?_⟩; (repeat' apply And.intro) <;> first | omega | assumption | rfl
      · have hxz : ¬ ((l[k] : Nat) : Int) = ((m[k] : Nat) : Int) := by omega
        have hne : ¬ l = m := fun e => hx (by subst e; rfl)
        have e2 : decide (l = m) = false := decide_eq_false hne
        rw [e2]
        simp -implicitDefEqProofs [go_sem, hkl, hkl2, ud, hx, hxz]; (repeat refine And.intro (by first | decide +kernel | omega | kernel_rfl) ?_); (try decide +kernel)
    · obtain rfl : k = m.length := by omega
      have e : l = m := by rw [take_all hl, take_all rfl] at he; exact he
      have e2 : decide (l = m) = true := decide_eq_true e
      rw [e2]
      simp -implicitDefEqProofs [go_sem]; (repeat refine And.intro (by first | decide +kernel | omega | kernel_rfl) ?_); (try decide +kernel)
  · have hz : ¬ ((l.length : Nat) : Int) = ((m.length : Nat) : Int) := by omega
    have hne : ¬ l = m := fun e => hl (by rw [e])
    have e2 : decide (l = m) = false := decide_eq_false hne
    rw [e2]
    refine pcall_of hmo Tryz.func142 rfl (by kernel_rfl) (by simp [Tryz.ntmps142]) ?_; simp -implicitDefEqProofs [go_sem, Tryz.ntmps142]; (repeat refine And.intro (by first | decide +kernel | omega | kernel_rfl) ?_); (try decide +kernel)
    simp -implicitDefEqProofs [go_sem, hl, hz]; (repeat refine And.intro (by first | decide +kernel | omega | kernel_rfl) ?_); (try decide +kernel)
end Go.Mt
