/-
  A part of the proof.
-/
import Derived.Test.YtpoocfmphcgmkaaGreatBre29
import Derived.Test.YtpoocfmphcgmkaaGreatBre21
set_option linter.unusedVariables false
set_option linter.unusedSimpArgs false
set_option linter.unusedSimpArgs false
set_option linter.unusedVariables false
namespace Go.Mt
open Go Go.Pm Go.Proofs
theorem radd_n (x y : Nat) (h : nl x < 1099511627776) (h2 : nl y < 1099511627776) : PCall Tryz.prog 178 [.d (.sl (les (limbs x))), .d (.sl (les (limbs y)))] (.one (.d (.sl (les (limbs (x + y)))))) := by
  have := radd_p (limbs x) (limbs y) (small_limbs x) (small_limbs y) (by rw [length_limbs]; exact h) (by rw [length_limbs]; exact h2)
  rwa [val_limbs, val_limbs] at this
theorem nrm_2 (z : Int) : (nrm z).2 = limbs z.natAbs := rfl
set_option maxRecDepth 100000 in
set_option maxHeartbeats 2000000 in
theorem add3_p (p q : ZR) (hp : Rz p) (hq : Rz q) (hpl : zl (ofR p) < 549755813888) (hql : zl (ofR q) < 549755813888) : PCall Tryz.prog 133 [.d (zd p), .d (zd q)] (.one (.d (zd (nrm (ofR p + ofR q))))) := by
  have n1 := norm3_p p hp
  have n2 := norm3_p q hq
  generalize ofR p = x at *
  generalize ofR q = y at *
  obtain ⟨b, hb⟩ : ∃ b, (nrm x).1 = b := ⟨_, rfl⟩
  obtain ⟨c, hc⟩ : ∃ c, (nrm y).1 = c := ⟨_, rfl⟩
  have hb' : decide (x < 0) = b := hb
  have hc' : decide (y < 0) = c := hc
  have h2x := nrm_2 x
  have h2y := nrm_2 y
  have e1 : zd (nrm x) = .agg [.v (.bool b), .sl (les (limbs x.natAbs))] := by unfold zd; rw [hb, h2x]
  have e2 : zd (nrm y) = .agg [.v (.bool c), .sl (les (limbs y.natAbs))] := by unfold zd; rw [hc, h2y]
  rw [e1] at n1
  rw [e2] at n2
  have hzx : (if b = true then -(x.natAbs : Int) else x.natAbs) = x := by
    rw [← hb']; by_cases h : x < 0 <;> simp [h] <;> omega
  have hzy : (if c = true then -(y.natAbs : Int) else y.natAbs) = y := by
    rw [← hc']; by_cases h : y < 0 <;> simp [h] <;> omega
  obtain ⟨u, hu⟩ : ∃ u, u = x.natAbs := ⟨_, rfl⟩
  obtain ⟨v, hv⟩ : ∃ v, v = y.natAbs := ⟨_, rfl⟩
  have hpl : nl u < 549755813888 := hu ▸ hpl
  have hql : nl v < 549755813888 := hv ▸ hql
  rw [← hu] at n1 hzx
  rw [← hv] at n2 hzy
  by_cases hbc : b = c
  · subst hbc
    have ha := radd_n u v (by omega) (by omega)
    have hnl := nl_add u v
    have hn := n3_c b (u + v) (x + y) (by rw [← hzx, ← hzy]; cases b <;> simp <;> omega) (by omega)
    refine pcall_of hmo Tryz.func133 rfl (by kernel_rfl) (by simp [Tryz.ntmps133]) ?_; simp -implicitDefEqProofs [go_sem, Tryz.ntmps133]; (repeat refine And.intro (by first | decide +kernel | omega | kernel_rfl) ?_); (try decide +kernel)
    refine .inl ⟨_, n1, ?_⟩; simp -implicitDefEqProofs [go_sem]; (repeat refine And.intro (by first | decide +kernel | omega | kernel_rfl) ?_); (try decide +kernel)
    refine .inl ⟨_, n2, ?_⟩; simp -implicitDefEqProofs [go_sem]; (repeat refine And.intro (by first | decide +kernel | omega | kernel_rfl) ?_); (try decide +kernel)
    refine .inl ⟨_, ha, ?_⟩; simp -implicitDefEqProofs [go_sem]; (repeat refine And.intro (by first | decide +kernel | omega | kernel_rfl) ?_); (try decide +kernel)
    refine .inl ⟨_, hn, ?_⟩; simp -implicitDefEqProofs [go_sem]; (repeat refine And.intro (by first | decide +kernel | omega | kernel_rfl) ?_); (try decide +kernel)
  · have hbc' : (b == c) = false := by simpa using hbc
    have hcmp := rcmp_n u v (by omega) (by omega)
    by_cases hlt : u < v
    · have hz : cmpZ u v < 0 := by unfold cmpZ; rw [if_pos hlt]; decide
      have hs := rsub_n v u (by omega) (by omega)
      have hnl := nl_mono (Nat.sub_le v u)
      have hn := n3_c c (v - u) (x + y) (by rw [← hzx, ← hzy]; cases b <;> cases c <;> simp at hbc ⊢ <;> omega) (by omega)
      refine pcall_of hmo Tryz.func133 rfl (by kernel_rfl) (by simp [Tryz.ntmps133]) ?_; simp -implicitDefEqProofs [go_sem, Tryz.ntmps133]; (repeat refine And.intro (by first | decide +kernel | omega | kernel_rfl) ?_); (try decide +kernel)
      refine .inl ⟨_, n1, ?_⟩; simp -implicitDefEqProofs [go_sem]; (repeat refine And.intro (by first | decide +kernel | omega | kernel_rfl) ?_); (try decide +kernel)
      refine .inl ⟨_, n2, ?_⟩; simp -implicitDefEqProofs [go_sem, hbc, hbc']; (repeat refine And.intro (by first | decide +kernel | omega | kernel_rfl) ?_); (try decide +kernel)
      refine .inl ⟨_, hcmp, ?_⟩; simp -implicitDefEqProofs [go_sem, hz]; (repeat refine And.intro (by first | decide +kernel | omega | kernel_rfl) ?_); (try decide +kernel)
      refine .inl ⟨_, hs, ?_⟩; simp -implicitDefEqProofs [go_sem]; (repeat refine And.intro (by first | decide +kernel | omega | kernel_rfl) ?_); (try decide +kernel)
      refine .inl ⟨_, hn, ?_⟩; simp -implicitDefEqProofs [go_sem]; (repeat refine And.intro (by first | decide +kernel | omega | kernel_rfl) ?_); (try decide +kernel)
    · have hz : ¬ cmpZ u v < 0 := by unfold cmpZ; rw [if_neg hlt]; split <;> omega
      have hs := rsub_n u v (by omega) (by omega)
      have hnl := nl_mono (Nat.sub_le u v)
      have hn := n3_c b (u - v) (x + y) (by rw [← hzx, ← hzy]; cases b <;> cases c <;> simp at hbc ⊢ <;> omega) (by omega)
      refine pcall_of hmo Tryz.func133 rfl (by kernel_rfl) (by simp [Tryz.ntmps133]) ?_; simp -implicitDefEqProofs [go_sem, Tryz.ntmps133]; (repeat refine And.intro (by first | decide +kernel | omega | kernel_rfl) ?_); (try decide +kernel)
      refine .inl ⟨_, n1, ?_⟩; simp -implicitDefEqProofs [go_sem]; (repeat refine And.intro (by first | decide +kernel | omega | kernel_rfl) ?_); (try decide +kernel)
      refine .inl ⟨_, n2, ?_⟩; simp -implicitDefEqProofs [go_sem, hbc, hbc']; (repeat refine And.intro (by first | decide +kernel | omega | kernel_rfl) ?_); (try decide +kernel)
      refine .inl ⟨_, hcmp, ?_⟩; simp -implicitDefEqProofs [go_sem, hz]; (repeat refine And.intro (by first | decide +kernel | omega | kernel_rfl) ?_); (try decide +kernel)
      refine .inl ⟨_, hs, ?_⟩; simp -implicitDefEqProofs [go_sem]; (repeat refine And.intro (by first | decide +kernel | omega | kernel_rfl) ?_); (try decide +kernel)
      refine .inl ⟨_, hn, ?_⟩; simp -implicitDefEqProofs [go_sem]; (repeat refine And.intro (by first | decide +kernel | omega | kernel_rfl) ?_); (try decide +kernel)
theorem sub3_p (p q : ZR) (hp : Rz p) (hq : Rz q) (hpl : zl (ofR p) < 549755813888) (hql : zl (ofR q) < 549755813888) : PCall Tryz.prog 224 [.d (zd p), .d (zd q)] (.one (.d (zd (nrm (ofR p - ofR q))))) := by
  have hn := neg3_p q hq
  have ha := add3_p p (nrm (-(ofR q))) hp (rz (by rw [zl_neg]; omega)) hpl (by rw [ofR_nrm, zl_neg]; exact hql)
  rw [ofR_nrm, ← Int.sub_eq_add_neg] at ha
  refine pcall_of hmo Tryz.func224 rfl (by kernel_rfl) (by simp [Tryz.ntmps224]) ?_; simp -implicitDefEqProofs [go_sem, Tryz.ntmps224]; (repeat refine And.intro (by first | decide +kernel | omega | kernel_rfl) ?_); (try decide +kernel)
  refine .inl ⟨_, hn, ?_⟩; simp -implicitDefEqProofs [go_sem]; (repeat refine And.intro (by first | decide +kernel | omega | kernel_rfl) ?_); (try decide +kernel)
  refine .inl ⟨_, ha, ?_⟩; simp -implicitDefEqProofs [go_sem]; (repeat refine And.intro (by first | decide +kernel | omega | kernel_rfl) ?_); (try decide +kernel)
theorem gcd3_p (p q : ZR) (hp : Rz p) (hq : Rz q) (hpl : p.2.length < 137438953472) (hql : q.2.length < 137438953472) : PCall Tryz.prog 163 [.d (zd p), .d (zd q)] (.one (.d (zd (nrm (gcdI (ofR p) (ofR q)))))) := by
  have hg := rgcd_p p.2 q.2 hp.1 hq.1 hpl hql
  have e : zd (nrm (gcdI (ofR p) (ofR q))) = .agg [.v (.bool false), .sl (les (limbs (Nat.gcd (val p.2) (val q.2))))] := by
    have : gcdI (ofR p) (ofR q) = ((Nat.gcd (val p.2) (val q.2) : Nat) : Int) := by unfold gcdI Int.gcd ofR; rw [mag, mag]
    rw [this]; unfold zd nrm; simp
  rw [e]
  refine pcall_of hmo Tryz.func163 rfl (by kernel_rfl) (by simp [Tryz.ntmps163]) ?_; simp -implicitDefEqProofs [go_sem, Tryz.ntmps163]; (repeat refine And.intro (by first | decide +kernel | omega | kernel_rfl) ?_); (try decide +kernel)
  refine .inl ⟨_, hg, ?_⟩; simp -implicitDefEqProofs [go_sem]; (repeat refine And.intro (by first | decide +kernel | omega | kernel_rfl) ?_); (try decide +kernel)
end Go.Mt
/-
  A part of the proof.
-/
set_option linter.unusedSimpArgs false
set_option linter.unusedVariables false
namespace Go.Mt
open Go Go.Pm Go.Proofs
theorem rz_len (z : Int) : (nrm z).2.length = zl z := length_limbs _
theorem zl_tdiv (a b : Int) : zl (a.tdiv b) ≤ zl a := by
  unfold zl
  rw [Int.natAbs_tdiv]
  exact nl_mono (Nat.div_le_self _ _)
theorem trunc3_p (p q : ZR) (hp : Rz p) (hq : Rz q) (hpl : p.2.length < 137438953472) (hql : q.2.length < 137438953472) (h0 : ofR q ≠ 0) :
    PCall Tryz.prog 201 [.d (zd p), .d (zd q)] (.tup [.d (zd (nrm ((ofR p).tdiv (ofR q)))), .d (zd (nrm ((ofR p).tmod (ofR q))))]) := by
  have hv := ival_zero.1 h0
  have hd := rdiv_p p.2 q.2 hp.1 hq.1 (by omega) (by omega) hv
  have h1 : nl (val p.2) ≤ p.2.length := nl_val hp.1
  have h2 : nl (val p.2 / val q.2) ≤ nl (val p.2) := nl_mono (Nat.div_le_self _ _)
  have hn := n3_c (p.1 != q.1) (val p.2 / val q.2) ((ofR p).tdiv (ofR q)) (by unfold ofR ival; cases p.1 <;> cases q.1 <;> simp [Int.neg_tdiv, Int.tdiv_neg]) (by omega)
  have hzp := zl_ofR hp
  have hzq := zl_ofR hq
  have hzt := zl_tdiv (ofR p) (ofR q)
  have hm := mul3_p (nrm ((ofR p).tdiv (ofR q))) q (rz (by omega)) hq (by rw [rz_len]; omega) (by omega)
  rw [ofR_nrm] at hm
  have hml := zl_mul ((ofR p).tdiv (ofR q)) (ofR q)
  have hs := sub3_p p (nrm ((ofR p).tdiv (ofR q) * ofR q)) hp (rz (by omega)) (by omega) (by rw [ofR_nrm]; omega)
  rw [ofR_nrm] at hs
  have e : ofR p - (ofR p).tdiv (ofR q) * ofR q = (ofR p).tmod (ofR q) := by
    have := Int.mul_tdiv_add_tmod (ofR p) (ofR q)
    rw [Int.mul_comm] at this
    omega
  rw [e] at hs
  refine pcall_of hmo Tryz.func201 rfl (by kernel_rfl) (by simp [Tryz.ntmps201]) ?_; simp -implicitDefEqProofs [go_sem, Tryz.ntmps201]; (repeat refine And.intro (by first | decide +kernel | omega | kernel_rfl) ?_); (try decide +kernel)
  refine .inl ⟨_, hd, ?_⟩; simp -implicitDefEqProofs [go_sem]; (repeat refine And.intro (by first | decide +kernel | omega | kernel_rfl) ?_); (try decide +kernel)
  refine .inl ⟨_, hn, ?_⟩; simp -implicitDefEqProofs [go_sem]; (repeat refine And.intro (by first | decide +kernel | omega | kernel_rfl) ?_); (try decide +kernel)
  refine .inl ⟨_, hm, ?_⟩; simp -implicitDefEqProofs [go_sem]; (repeat refine And.intro (by first | decide +kernel | omega | kernel_rfl) ?_); (try decide +kernel)
  refine .inl ⟨_, hs, ?_⟩; simp -implicitDefEqProofs [go_sem]; (repeat refine And.intro (by first | decide +kernel | omega | kernel_rfl) ?_); (try decide +kernel)
theorem exact3_p (p q : ZR) (hp : Rz p) (hq : Rz q) (hpl : p.2.length < 137438953472) (hql : q.2.length < 137438953472) (h0 : ofR q ≠ 0) (hdv : ofR q ∣ ofR p) :
    PCall Tryz.prog 164 [.d (zd p), .d (zd q)] (.tup [.d (zd (nrm (ofR p / ofR q))), .d (.v (.bool true))]) := by
  have ht := trunc3_p p q hp hq hpl hql h0
  rw [Int.tdiv_eq_ediv_of_dvd hdv, Int.tmod_eq_zero_of_dvd hdv] at ht
  have hs := sign3_p (nrm 0) (rz (by decide))
  rw [ofR_nrm] at hs
  refine pcall_of hmo Tryz.func164 rfl (by kernel_rfl) (by simp [Tryz.ntmps164]) ?_; simp -implicitDefEqProofs [go_sem, Tryz.ntmps164]; (repeat refine And.intro (by first | decide +kernel | omega | kernel_rfl) ?_); (try decide +kernel)
  refine .inl ⟨_, ht, ?_⟩; simp -implicitDefEqProofs [go_sem]; (repeat refine And.intro (by first | decide +kernel | omega | kernel_rfl) ?_); (try decide +kernel)
  refine .inl ⟨_, hs, ?_⟩; simp -implicitDefEqProofs [go_sem]; (repeat refine And.intro (by first | decide +kernel | omega | kernel_rfl) ?_); (try decide +kernel)
theorem exact3_n (a b : Int) (ha : zl a < 137438953472) (hb : zl b < 137438953472) (h0 : b ≠ 0) (hdv : b ∣ a) :
    PCall Tryz.prog 164 [.d (zd (nrm a)), .d (zd (nrm b))] (.tup [.d (zd (nrm (a / b))), .d (.v (.bool true))]) := by
  have h := exact3_p (nrm a) (nrm b) (rz (by omega)) (rz (by omega)) (by rw [rz_len]; exact ha) (by rw [rz_len]; exact hb) (by rw [ofR_nrm]; exact h0) (by rw [ofR_nrm, ofR_nrm]; exact hdv)
  rwa [ofR_nrm, ofR_nrm] at h
theorem mul3_n (a b : Int) (ha : zl a < 137438953472) (hb : zl b < 137438953472) : PCall Tryz.prog 134 [.d (zd (nrm a)), .d (zd (nrm b))] (.one (.d (zd (nrm (a * b))))) := by
  have h := mul3_p (nrm a) (nrm b) (rz (by omega)) (rz (by omega)) (by rw [rz_len]; omega) (by rw [rz_len]; omega)
  rwa [ofR_nrm, ofR_nrm] at h
theorem add3_n (a b : Int) (ha : zl a < 549755813888) (hb : zl b < 549755813888) : PCall Tryz.prog 133 [.d (zd (nrm a)), .d (zd (nrm b))] (.one (.d (zd (nrm (a + b))))) := by
  have h := add3_p (nrm a) (nrm b) (rz (by omega)) (rz (by omega)) (by rw [ofR_nrm]; exact ha) (by rw [ofR_nrm]; exact hb)
  rwa [ofR_nrm, ofR_nrm] at h
theorem gcd3_n (a b : Int) (ha : zl a < 137438953472) (hb : zl b < 137438953472) : PCall Tryz.prog 163 [.d (zd (nrm a)), .d (zd (nrm b))] (.one (.d (zd (nrm (gcdI a b))))) := by
  have h := gcd3_p (nrm a) (nrm b) (rz (by omega)) (rz (by omega)) (by rw [rz_len]; exact ha) (by rw [rz_len]; exact hb)
  rwa [ofR_nrm, ofR_nrm] at h
theorem sign3_n (a : Int) (ha : zl a < 1099511627776) : PCall Tryz.prog 111 [.d (zd (nrm a))] (.one (.d (.v (.int .i64 a.sign)))) := by
  have h := sign3_p (nrm a) (rz ha)
  rwa [ofR_nrm] at h
set_option maxRecDepth 100000 in
theorem same3_p (p q : ZR) (hp : p.2.length < 1099511627776) (hq : q.2.length < 1099511627776) : PCall Tryz.prog 90 [.d (zd p), .d (zd q)] (.one (.d (.v (.bool (decide (p = q)))))) := by
  obtain ⟨b, l⟩ := p
  obtain ⟨c, m⟩ := q
  have hs := same01_p l m hp hq
  by_cases hbc : b = c
  · subst hbc
    have e : decide ((b, l) = (b, m)) = decide (l = m) := by simp
    rw [e]
    refine pcall_of hmo Tryz.func90 rfl (by kernel_rfl) (by simp [Tryz.ntmps90]) ?_; simp -implicitDefEqProofs [go_sem, Tryz.ntmps90]; (repeat refine And.intro (by first | decide +kernel | omega | kernel_rfl) ?_); (try decide +kernel)
    refine .inl ⟨_, hs, ?_⟩; simp -implicitDefEqProofs [go_sem]; (repeat refine And.intro (by first | decide +kernel | omega | kernel_rfl) ?_); (try decide +kernel)
  · have e : decide ((b, l) = (c, m)) = false := by simp [hbc]
    have hbc' : (b == c) = false := by simpa using hbc
    rw [e]
    refine pcall_of hmo Tryz.func90 rfl (by kernel_rfl) (by simp [Tryz.ntmps90]) ?_; simp -implicitDefEqProofs [go_sem, Tryz.ntmps90]; (repeat refine And.intro (by first | decide +kernel | omega | kernel_rfl) ?_); (try decide +kernel)
    simp -implicitDefEqProofs [go_sem, hbc, hbc']; (repeat refine And.intro (by first | decide +kernel | omega | kernel_rfl) ?_); (try decide +kernel)
end Go.Mt
/-
  A part of the proof.
-/
set_option linter.unusedSimpArgs false
set_option linter.unusedVariables false
namespace Go.Mt
open Go Go.Pm Go.Proofs
theorem abs3_n (a : Int) (ha : zl a < 1099511627776) : PCall Tryz.prog 202 [.d (zd (nrm a))] (.one (.d (zd (nrm (a.natAbs : Int))))) := by
  have h := abs3_p (nrm a) (rz ha)
  rwa [ofR_nrm] at h
theorem lcm3_p (zs : List Int) (h0 : ∀ z ∈ zs, z ≠ 0) (hn : zs.length < 1099511627776) (hD : nl (lcms zs) < 137438953472) (hz : ∀ z ∈ zs, zl z < 137438953472) :
    PCall Tryz.prog 165 [.d (.sl (zes (zs.map nrm)))] (.one (.d (zd (nrm ((lcms zs : Nat) : Int))))) := by
  have hof := of3_p 1 (by decide) (by decide)
  refine pcall_of hmo Tryz.func165 rfl (by kernel_rfl) (by simp [Tryz.ntmps165]) ?_; simp -implicitDefEqProofs [go_sem, Tryz.ntmps165]; (repeat refine And.intro (by first | decide +kernel | omega | kernel_rfl) ?_); (try decide +kernel)
  refine .inl ⟨_, hof, ?_⟩; simp -implicitDefEqProofs [go_sem]; (repeat refine And.intro (by first | decide +kernel | omega | kernel_rfl) ?_); (try decide +kernel)
  refine loop_rule [] (fun (k : Nat) => ⟨33, [(2, .pr 0 0 0 0), (3, .pr 8 0 0 0), (9, .d (.sl (zes (zs.map nrm)))), (10, intP .i64 (zs.length : Int)), (11, intP .i64 (k : Int))],
      [(0, .box [.d (.v (.bool false)), .nl]), (8, .box [.d (.v (.bool (nrm ((lcms (zs.take k) : Nat) : Int)).1)), .d (.sl (les (nrm ((lcms (zs.take k) : Nat) : Int)).2))])], 1000⟩)
    (fun k => k ≤ zs.length) (fun k => zs.length - k) 0 (Nat.zero_le _) (by simp) (by simp -implicitDefEqProofs [go_sem, lcms]) (fun k hk => ?_)
  by_cases hkl : k < zs.length
  · have hm : zs[k] ∈ zs := List.getElem_mem hkl
    have hb : nl (lcms (zs.take k)) < 137438953472 := by
      refine Nat.lt_of_le_of_lt (nl_mono (Nat.le_of_dvd (lcms_pos _ h0) ?_)) hD
      conv => rhs; rw [← List.take_append_drop k zs]
      exact lcms_append_dvd _ _
    have hz1 := hz _ hm
    have h01 := h0 _ hm
    have hs := sign3_n zs[k] (by omega)
    have ha := abs3_n zs[k] (by omega)
    have hg := gcd3_n ((lcms (zs.take k) : Nat) : Int) zs[k] (by rw [zl_nat]; omega) hz1
    have hgp := gcdI_pos (n := ((lcms (zs.take k) : Nat) : Int)) h01
    have hgl := zl_gcdI ((lcms (zs.take k) : Nat) : Int) zs[k]
    rw [zl_nat] at hgl
    have hdv : gcdI ((lcms (zs.take k) : Nat) : Int) zs[k] ∣ (zs[k].natAbs : Int) := by unfold gcdI; exact Int.natCast_dvd_natCast.2 (Nat.gcd_dvd_right ..)
    have hab : zl (zs[k].natAbs : Int) = zl zs[k] := by unfold zl; rw [Int.natAbs_natCast]
    have he := exact3_n (zs[k].natAbs : Int) _ (by omega) (by omega) (by omega : gcdI ((lcms (zs.take k) : Nat) : Int) zs[k] ≠ 0) hdv
    have hdl := zl_div hdv
    have hml := mul3_n ((lcms (zs.take k) : Nat) : Int) _ (by rw [zl_nat]; omega) (by omega : zl ((zs[k].natAbs : Int) / gcdI ((lcms (zs.take k) : Nat) : Int) zs[k]) < 137438953472)
    have e : ((lcms (zs.take k) : Nat) : Int) * ((zs[k].natAbs : Int) / gcdI ((lcms (zs.take k) : Nat) : Int) zs[k]) = ((lcms (zs.take (k + 1)) : Nat) : Int) := by
      have e1 : zs.take (k + 1) = zs.take k ++ [zs[k]] := by rw [List.take_add_one, List.getElem?_eq_getElem hkl]; rfl
      rw [e1, lcms_snoc, ← lcm_exact]
      unfold gcdI
      rw [← Int.natCast_ediv, ← Int.natCast_mul]
      rfl
    rw [e] at hml
    have hsg : ¬ (zs[k]).sign = 0 := fun h => h01 (Int.sign_eq_zero_iff_zero.1 h)
    simp -implicitDefEqProofs [go_sem, hkl]; (repeat refine And.intro (by first | decide +kernel | omega | kernel_rfl) ?_); (try decide +kernel)
    refine .inl ⟨_, hs, ?_⟩; simp -implicitDefEqProofs [go_sem, hsg]; (repeat refine And.intro (by first | decide +kernel | omega | kernel_rfl) ?_); (try decide +kernel)
    refine .inl ⟨_, ha, ?_⟩; simp -implicitDefEqProofs [go_sem]; (repeat refine And.intro (by first | decide +kernel | omega | kernel_rfl) ?_); (try decide +kernel)
    refine .inl ⟨_, hg, ?_⟩; simp -implicitDefEqProofs [go_sem]; (repeat refine And.intro (by first | decide +kernel | omega | kernel_rfl) ?_); (try decide +kernel)
    refine .inl ⟨_, he, ?_⟩; simp -implicitDefEqProofs [go_sem]; (repeat refine And.intro (by first | decide +kernel | omega | kernel_rfl) ?_); (try decide +kernel)
    refine .inl ⟨_, hml, ?_⟩; simp -implicitDefEqProofs [go_sem]; (repeat refine And.intro (by first | decide +kernel | omega | kernel_rfl) ?_); (try decide +kernel)
    refine ⟨k + 1, ?_⟩; (repeat' apply And.intro) <;> first | omega | assumption | rfl
  · obtain rfl : k = zs.length := by omega
    rw [List.take_length]
    simp -implicitDefEqProofs [go_sem]; (repeat refine And.intro (by first | decide +kernel | omega | kernel_rfl) ?_); (try decide +kernel)
theorem sameAll3_p (l m : List ZR) (hl : ∀ p ∈ l, p.2.length < 1099511627776) (hm : ∀ p ∈ m, p.2.length < 1099511627776) (hln : l.length < 1099511627776) (hmn : m.length < 1099511627776) :
    PCall Tryz.prog 91 [.d (.sl (zes l)), .d (.sl (zes m))] (.one (.d (.v (.bool (decide (l = m)))))) := by
  by_cases hlm : l.length = m.length
  · refine pcall_of hmo Tryz.func91 rfl (by kernel_rfl) (by simp [Tryz.ntmps91]) ?_; simp -implicitDefEqProofs [go_sem, Tryz.ntmps91]; (repeat refine And.intro (by first | decide +kernel | omega | kernel_rfl) ?_); (try decide +kernel)
    simp -implicitDefEqProofs [go_sem, hlm]; (repeat refine And.intro (by first | decide +kernel | omega | kernel_rfl) ?_); (try decide +kernel)
    refine loop_rule [] (fun (k : Nat) => ⟨27, [(0, .d (.sl (zes l))), (1, .d (.sl (zes m))), (4, .d (.v (.bool false))), (12, intP .i64 (m.length : Int)), (13, intP .i64 (k : Int))], [], 3000⟩)
      (fun k => k ≤ m.length ∧ l.take k = m.take k) (fun k => m.length - k) 0 ⟨Nat.zero_le _, by simp⟩ (by simp) (by simp -implicitDefEqProofs [go_sem]) (fun k ⟨hk, he⟩ => ?_)
    by_cases hkl : k < m.length
    · have hkl2 : k < l.length := by omega
      have hs := same3_p l[k] m[k] (hl _ (List.getElem_mem _)) (hm _ (List.getElem_mem _))
      by_cases hx : l[k] = m[k]
      · have h2 : l.take (k + 1) = m.take (k + 1) := by
          rw [List.take_add_one, List.take_add_one, he, List.getElem?_eq_getElem hkl, List.getElem?_eq_getElem hkl2, hx]
        rw [decide_eq_true hx] at hs
        simp -implicitDefEqProofs [go_sem, hkl, hkl2]; (repeat refine And.intro (by first | decide +kernel | omega | kernel_rfl) ?_); (try decide +kernel)
        refine .inl ⟨_, hs, ?_⟩; simp -implicitDefEqProofs [go_sem]; (repeat refine And.intro (by first | decide +kernel | omega | kernel_rfl) ?_); (try decide +kernel)
        refine ⟨k + 1, ?_⟩; (repeat' apply And.intro) <;> first | omega | assumption | rfl
      · have hne : ¬ l = m := fun e => hx (by subst e; rfl)
        have e2 : decide (l = m) = false := decide_eq_false hne
        rw [e2]
        rw [decide_eq_false hx] at hs
        simp -implicitDefEqProofs [go_sem, hkl, hkl2]; (repeat refine And.intro (by first | decide +kernel | omega | kernel_rfl) ?_); (try decide +kernel)
        refine .inl ⟨_, hs, ?_⟩; simp -implicitDefEqProofs [go_sem]; (repeat refine And.intro (by first | decide +kernel | omega | kernel_rfl) ?_); (try decide +kernel)
    · obtain rfl : k = m.length := by omega
      have e : l = m := by rw [take_all hlm, take_all rfl] at he; exact he
      have e2 : decide (l = m) = true := decide_eq_true e
      rw [e2]
      simp -implicitDefEqProofs [go_sem]; (repeat refine And.intro (by first | decide +kernel | omega | kernel_rfl) ?_); (try decide +kernel)
  · have hz : ¬ ((l.length : Nat) : Int) = ((m.length : Nat) : Int) := by omega
    have hne : ¬ l = m := fun e => hlm (by rw [e])
    have e2 : decide (l = m) = false := decide_eq_false hne
    rw [e2]
    refine pcall_of hmo Tryz.func91 rfl (by kernel_rfl) (by simp [Tryz.ntmps91]) ?_; simp -implicitDefEqProofs [go_sem, Tryz.ntmps91]; (repeat refine And.intro (by first | decide +kernel | omega | kernel_rfl) ?_); (try decide +kernel)
    simp -implicitDefEqProofs [go_sem, hlm, hz]; (repeat refine And.intro (by first | decide +kernel | omega | kernel_rfl) ?_); (try decide +kernel)
theorem copy3_p (p : ZR) (h : p.2.length < 1099511627776) : PCall Tryz.prog 81 [.d (zd p)] (.one (.d (zd p))) := by
  refine pcall_of hmo Tryz.func81 rfl (by kernel_rfl) (by simp [Tryz.ntmps81]) ?_; simp -implicitDefEqProofs [go_sem, Tryz.ntmps81]; (repeat refine And.intro (by first | decide +kernel | omega | kernel_rfl) ?_); (try decide +kernel)
end Go.Mt
/-
  A part of the proof.
-/
set_option linter.unusedSimpArgs false
set_option linter.unusedVariables false
namespace Go.Mt
open Go Go.Pm Go.Proofs
theorem of3_1 : PCall Tryz.prog 27 [.d (.v (.int .i64 1))] (.one (.d (zd (nrm 1)))) := of3_p 1 (by decide) (by decide)
theorem neg3_n (a : Int) (ha : zl a < 1099511627776) : PCall Tryz.prog 29 [.d (zd (nrm a))] (.one (.d (zd (nrm (-a))))) := by
  have h := neg3_p (nrm a) (rz ha)
  rwa [ofR_nrm] at h
theorem rat_num_pos {a b : Int} (hb : 0 < b) : a / gcdI a b = (ratv a b).num ∧ b / gcdI a b = ((ratv a b).den : Int) := by
  have h1 := qG_num (n := a) (d := b) (by omega)
  have h2 := qG_den (n := a) (d := b) (by omega)
  unfold qG at h1 h2
  rw [if_neg (by omega)] at h1 h2
  exact ⟨h1, h2⟩
theorem gcdI_dvd (a b : Int) : gcdI a b ∣ a ∧ gcdI a b ∣ b := ⟨by unfold gcdI; exact Int.gcd_dvd_left .., by unfold gcdI; exact Int.gcd_dvd_right ..⟩
theorem make5_n (a b : Int) (ha : zl a < 68719476736) (hb : zl b < 68719476736) (h0 : b ≠ 0) : PCall Tryz.prog 114 [.d (zd (nrm a)), .d (zd (nrm b))] (.one (.d (qd (nq (ratv a b))))) := by
  have hs := sign3_n b (by omega)
  have key : ∀ x y : Int, zl x < 68719476736 → zl y < 68719476736 → 0 < y → ratv x y = ratv a b →
      PCall Tryz.prog 163 [.d (zd (nrm x)), .d (zd (nrm y))] (.one (.d (zd (nrm (gcdI x y))))) ∧
      PCall Tryz.prog 164 [.d (zd (nrm x)), .d (zd (nrm (gcdI x y)))] (.tup [.d (zd (nrm (ratv a b).num)), .d (.v (.bool true))]) ∧
      PCall Tryz.prog 164 [.d (zd (nrm y)), .d (zd (nrm (gcdI x y)))] (.tup [.d (zd (nrm ((ratv a b).den : Int))), .d (.v (.bool true))]) := fun x y hx hy hp e => by
    have hg := gcdI_pos (n := x) (d := y) (by omega)
    have hl := zl_gcdI x y
    have h1 := exact3_n x (gcdI x y) (by omega) (by omega) (by omega) (gcdI_dvd x y).1
    have h2 := exact3_n y (gcdI x y) (by omega) (by omega) (by omega) (gcdI_dvd x y).2
    rw [(rat_num_pos hp).1, e] at h1
    rw [(rat_num_pos hp).2, e] at h2
    exact ⟨gcd3_n x y (by omega) (by omega), h1, h2⟩
  by_cases hlt : b < 0
  · have h2 : b.sign < 0 := by rw [Int.sign_eq_neg_one_of_neg hlt]; decide
    obtain ⟨k1, k2, k3⟩ := key (-a) (-b) (by rw [zl_neg]; exact ha) (by rw [zl_neg]; exact hb) (by omega) (ratv_neg a b)
    refine pcall_of hmo Tryz.func114 rfl (by kernel_rfl) (by simp [Tryz.ntmps114]) ?_; simp -implicitDefEqProofs [go_sem, Tryz.ntmps114]; (repeat refine And.intro (by first | decide +kernel | omega | kernel_rfl) ?_); (try decide +kernel)
    refine .inl ⟨_, hs, ?_⟩; simp -implicitDefEqProofs [go_sem, h2]; (repeat refine And.intro (by first | decide +kernel | omega | kernel_rfl) ?_); (try decide +kernel)
    refine .inl ⟨_, neg3_n a (by omega), ?_⟩; simp -implicitDefEqProofs [go_sem]; (repeat refine And.intro (by first | decide +kernel | omega | kernel_rfl) ?_); (try decide +kernel)
    refine .inl ⟨_, neg3_n b (by omega), ?_⟩; simp -implicitDefEqProofs [go_sem]; (repeat refine And.intro (by first | decide +kernel | omega | kernel_rfl) ?_); (try decide +kernel)
    refine .inl ⟨_, k1, ?_⟩; simp -implicitDefEqProofs [go_sem]; (repeat refine And.intro (by first | decide +kernel | omega | kernel_rfl) ?_); (try decide +kernel)
    refine .inl ⟨_, k2, ?_⟩; simp -implicitDefEqProofs [go_sem]; (repeat refine And.intro (by first | decide +kernel | omega | kernel_rfl) ?_); (try decide +kernel)
    refine .inl ⟨_, k3, ?_⟩; simp -implicitDefEqProofs [go_sem]; (repeat refine And.intro (by first | decide +kernel | omega | kernel_rfl) ?_); (try decide +kernel)
  · have h2 : ¬ b.sign < 0 := by rw [Int.sign_eq_one_of_pos (by omega)]; decide
    obtain ⟨k1, k2, k3⟩ := key a b ha hb (by omega) rfl
    refine pcall_of hmo Tryz.func114 rfl (by kernel_rfl) (by simp [Tryz.ntmps114]) ?_; simp -implicitDefEqProofs [go_sem, Tryz.ntmps114]; (repeat refine And.intro (by first | decide +kernel | omega | kernel_rfl) ?_); (try decide +kernel)
    refine .inl ⟨_, hs, ?_⟩; simp -implicitDefEqProofs [go_sem, h2]; (repeat refine And.intro (by first | decide +kernel | omega | kernel_rfl) ?_); (try decide +kernel)
    refine .inl ⟨_, k1, ?_⟩; simp -implicitDefEqProofs [go_sem]; (repeat refine And.intro (by first | decide +kernel | omega | kernel_rfl) ?_); (try decide +kernel)
    refine .inl ⟨_, k2, ?_⟩; simp -implicitDefEqProofs [go_sem]; (repeat refine And.intro (by first | decide +kernel | omega | kernel_rfl) ?_); (try decide +kernel)
    refine .inl ⟨_, k3, ?_⟩; simp -implicitDefEqProofs [go_sem]; (repeat refine And.intro (by first | decide +kernel | omega | kernel_rfl) ?_); (try decide +kernel)
theorem norm5_n (q : Rat) (h : ql q < 68719476736) : PCall Tryz.prog 166 [.d (qd (nq q))] (.one (.d (qd (nq q)))) := by
  have := ql_num q; have := ql_den q
  have hm := make5_n q.num q.den (by omega) (by omega) (den_ne q)
  rw [ratv_self] at hm
  refine pcall_of hmo Tryz.func166 rfl (by kernel_rfl) (by simp [Tryz.ntmps166]) ?_; simp -implicitDefEqProofs [go_sem, Tryz.ntmps166]; (repeat refine And.intro (by first | decide +kernel | omega | kernel_rfl) ?_); (try decide +kernel)
  refine .inl ⟨_, hm, ?_⟩; simp -implicitDefEqProofs [go_sem]; (repeat refine And.intro (by first | decide +kernel | omega | kernel_rfl) ?_); (try decide +kernel)
theorem of5_p (z : Int) (h1 : -9223372036854775808 ≤ z) (h2 : z ≤ 9223372036854775807) : PCall Tryz.prog 64 [.d (.v (.int .i64 z))] (.one (.d (qd (nq (z : Rat))))) := by
  refine pcall_of hmo Tryz.func64 rfl (by kernel_rfl) (by simp [Tryz.ntmps64]) ?_; simp -implicitDefEqProofs [go_sem, Tryz.ntmps64]; (repeat refine And.intro (by first | decide +kernel | omega | kernel_rfl) ?_); (try decide +kernel)
  refine .inl ⟨_, of3_p z h1 h2, ?_⟩; simp -implicitDefEqProofs [go_sem]; (repeat refine And.intro (by first | decide +kernel | omega | kernel_rfl) ?_); (try decide +kernel)
  refine .inl ⟨_, of3_1, ?_⟩; simp -implicitDefEqProofs [go_sem]; (repeat refine And.intro (by first | decide +kernel | omega | kernel_rfl) ?_); (try decide +kernel)
theorem int5_n (z : Int) (h : zl z < 1099511627776) : PCall Tryz.prog 32 [.d (zd (nrm z))] (.one (.d (qd (nq (z : Rat))))) := by
  have hn := norm3_p (nrm z) (rz h)
  rw [ofR_nrm] at hn
  refine pcall_of hmo Tryz.func32 rfl (by kernel_rfl) (by simp [Tryz.ntmps32]) ?_; simp -implicitDefEqProofs [go_sem, Tryz.ntmps32]; (repeat refine And.intro (by first | decide +kernel | omega | kernel_rfl) ?_); (try decide +kernel)
  refine .inl ⟨_, hn, ?_⟩; simp -implicitDefEqProofs [go_sem]; (repeat refine And.intro (by first | decide +kernel | omega | kernel_rfl) ?_); (try decide +kernel)
  refine .inl ⟨_, of3_1, ?_⟩; simp -implicitDefEqProofs [go_sem]; (repeat refine And.intro (by first | decide +kernel | omega | kernel_rfl) ?_); (try decide +kernel)
theorem sign5_n (q : Rat) (h : ql q < 1099511627776) : PCall Tryz.prog 57 [.d (qd (nq q))] (.one (.d (.v (.int .i64 q.num.sign)))) := by
  have := ql_num q; have := ql_den q
  have hd : ((q.den : Int)).sign = 1 := Int.sign_eq_one_of_pos (by have := q.den_pos; omega)
  have h1 := sign3_n q.num (by omega)
  have h2 := sign3_n (q.den : Int) (by omega)
  rw [hd] at h2
  have hb : -1 ≤ q.num.sign ∧ q.num.sign ≤ 1 := by
    rcases Int.lt_trichotomy q.num 0 with h | h | h
    · rw [Int.sign_eq_neg_one_of_neg h]; omega
    · rw [h]; decide
    · rw [Int.sign_eq_one_of_pos h]; omega
  refine pcall_of hmo Tryz.func57 rfl (by kernel_rfl) (by simp [Tryz.ntmps57]) ?_; simp -implicitDefEqProofs [go_sem, Tryz.ntmps57]; (repeat refine And.intro (by first | decide +kernel | omega | kernel_rfl) ?_); (try decide +kernel)
  refine .inl ⟨_, h1, ?_⟩; simp -implicitDefEqProofs [go_sem]; (repeat refine And.intro (by first | decide +kernel | omega | kernel_rfl) ?_); (try decide +kernel)
  refine .inl ⟨_, h2, ?_⟩; simp -implicitDefEqProofs [go_sem]; (repeat refine And.intro (by first | decide +kernel | omega | kernel_rfl) ?_); (try decide +kernel)
theorem add5_n (a b : Rat) (ha : ql a < 17179869184) (hb : ql b < 17179869184) : PCall Tryz.prog 66 [.d (qd (nq a)), .d (qd (nq b))] (.one (.d (qd (nq (a + b))))) := by
  have := ql_num a; have := ql_num b; have := ql_den a; have := ql_den b
  have h1 := zl_add (a.num * (b.den : Int)) (b.num * (a.den : Int))
  have h2 := zl_mul a.num b.den
  have h3 := zl_mul b.num a.den
  have h4 := zl_mul a.den b.den
  have hm := make5_n (a.num * (b.den : Int) + b.num * (a.den : Int)) ((a.den : Int) * (b.den : Int)) (by omega) (by omega) (Int.mul_ne_zero (den_ne a) (den_ne b))
  rw [rat_add] at hm
  refine pcall_of hmo Tryz.func66 rfl (by kernel_rfl) (by simp [Tryz.ntmps66]) ?_; simp -implicitDefEqProofs [go_sem, Tryz.ntmps66]; (repeat refine And.intro (by first | decide +kernel | omega | kernel_rfl) ?_); (try decide +kernel)
  refine .inl ⟨_, mul3_n a.num b.den (by omega) (by omega), ?_⟩; simp -implicitDefEqProofs [go_sem]; (repeat refine And.intro (by first | decide +kernel | omega | kernel_rfl) ?_); (try decide +kernel)
  refine .inl ⟨_, mul3_n b.num a.den (by omega) (by omega), ?_⟩; simp -implicitDefEqProofs [go_sem]; (repeat refine And.intro (by first | decide +kernel | omega | kernel_rfl) ?_); (try decide +kernel)
  refine .inl ⟨_, add3_n (a.num * (b.den : Int)) (b.num * (a.den : Int)) (by omega) (by omega), ?_⟩; simp -implicitDefEqProofs [go_sem]; (repeat refine And.intro (by first | decide +kernel | omega | kernel_rfl) ?_); (try decide +kernel)
  refine .inl ⟨_, mul3_n a.den b.den (by omega) (by omega), ?_⟩; simp -implicitDefEqProofs [go_sem]; (repeat refine And.intro (by first | decide +kernel | omega | kernel_rfl) ?_); (try decide +kernel)
  refine .inl ⟨_, hm, ?_⟩; simp -implicitDefEqProofs [go_sem]; (repeat refine And.intro (by first | decide +kernel | omega | kernel_rfl) ?_); (try decide +kernel)
theorem neg5_n (a : Rat) (ha : ql a < 17179869184) : PCall Tryz.prog 115 [.d (qd (nq a))] (.one (.d (qd (nq (-a))))) := by
  have := ql_num a; have := ql_den a
  have hm := make5_n (-a.num) a.den (by rw [zl_neg]; omega) (by omega) (den_ne a)
  have e : ratv (-a.num) (a.den : Int) = -a := by
    have := ratv_self (-a)
    rw [Rat.neg_num, Rat.neg_den] at this
    exact this
  rw [e] at hm
  refine pcall_of hmo Tryz.func115 rfl (by kernel_rfl) (by simp [Tryz.ntmps115]) ?_; simp -implicitDefEqProofs [go_sem, Tryz.ntmps115]; (repeat refine And.intro (by first | decide +kernel | omega | kernel_rfl) ?_); (try decide +kernel)
  refine .inl ⟨_, neg3_n a.num (by omega), ?_⟩; simp -implicitDefEqProofs [go_sem]; (repeat refine And.intro (by first | decide +kernel | omega | kernel_rfl) ?_); (try decide +kernel)
  refine .inl ⟨_, hm, ?_⟩; simp -implicitDefEqProofs [go_sem]; (repeat refine And.intro (by first | decide +kernel | omega | kernel_rfl) ?_); (try decide +kernel)
theorem sub5_n (a b : Rat) (ha : ql a < 17179869184) (hb : ql b < 17179869184) : PCall Tryz.prog 145 [.d (qd (nq a)), .d (qd (nq b))] (.one (.d (qd (nq (a - b))))) := by
  have h1 := neg5_n b hb
  have h2 := add5_n a (-b) ha (by rw [ql_neg]; exact hb)
  rw [← Rat.sub_eq_add_neg] at h2
  obtain ⟨c, hc⟩ : ∃ c, c = -b := ⟨_, rfl⟩
  rw [← hc] at h1 h2
  refine pcall_of hmo Tryz.func145 rfl (by kernel_rfl) (by simp [Tryz.ntmps145]) ?_; simp -implicitDefEqProofs [go_sem, Tryz.ntmps145]; (repeat refine And.intro (by first | decide +kernel | omega | kernel_rfl) ?_); (try decide +kernel)
  refine .inl ⟨_, h1, ?_⟩; simp -implicitDefEqProofs [go_sem]; (repeat refine And.intro (by first | decide +kernel | omega | kernel_rfl) ?_); (try decide +kernel)
  refine .inl ⟨_, h2, ?_⟩; simp -implicitDefEqProofs [go_sem]; (repeat refine And.intro (by first | decide +kernel | omega | kernel_rfl) ?_); (try decide +kernel)
theorem mul5_n (a b : Rat) (ha : ql a < 17179869184) (hb : ql b < 17179869184) : PCall Tryz.prog 67 [.d (qd (nq a)), .d (qd (nq b))] (.one (.d (qd (nq (a * b))))) := by
  have := ql_num a; have := ql_num b; have := ql_den a; have := ql_den b
  have h3 := zl_mul a.num b.num
  have h4 := zl_mul a.den b.den
  have hm := make5_n (a.num * b.num) ((a.den : Int) * (b.den : Int)) (by omega) (by omega) (Int.mul_ne_zero (den_ne a) (den_ne b))
  rw [rat_mul] at hm
  refine pcall_of hmo Tryz.func67 rfl (by kernel_rfl) (by simp [Tryz.ntmps67]) ?_; simp -implicitDefEqProofs [go_sem, Tryz.ntmps67]; (repeat refine And.intro (by first | decide +kernel | omega | kernel_rfl) ?_); (try decide +kernel)
  refine .inl ⟨_, mul3_n a.num b.num (by omega) (by omega), ?_⟩; simp -implicitDefEqProofs [go_sem]; (repeat refine And.intro (by first | decide +kernel | omega | kernel_rfl) ?_); (try decide +kernel)
  refine .inl ⟨_, mul3_n a.den b.den (by omega) (by omega), ?_⟩; simp -implicitDefEqProofs [go_sem]; (repeat refine And.intro (by first | decide +kernel | omega | kernel_rfl) ?_); (try decide +kernel)
  refine .inl ⟨_, hm, ?_⟩; simp -implicitDefEqProofs [go_sem]; (repeat refine And.intro (by first | decide +kernel | omega | kernel_rfl) ?_); (try decide +kernel)
theorem inv_ratv {a : Rat} (h : a ≠ 0) : ratv (a.den : Int) a.num = a⁻¹ := by
  unfold ratv
  rw [← Rat.inv_divInt]
  have : Rat.divInt a.num a.den = a := ratv_self a
  rw [this]
theorem ql_inv {a : Rat} (h : a ≠ 0) : ql a⁻¹ ≤ ql a := by
  have h1 := ql_ratv (a.den : Int) a.num (num_ne h)
  rw [inv_ratv h] at h1
  have := ql_num a; have := ql_den a
  omega
theorem inv5_n (a : Rat) (ha : ql a < 17179869184) (h0 : a ≠ 0) : PCall Tryz.prog 144 [.d (qd (nq a))] (.one (.d (qd (nq a⁻¹)))) := by
  have := ql_num a; have := ql_den a
  have hm := make5_n (a.den : Int) a.num (by omega) (by omega) (num_ne h0)
  rw [inv_ratv h0] at hm
  refine pcall_of hmo Tryz.func144 rfl (by kernel_rfl) (by simp [Tryz.ntmps144]) ?_; simp -implicitDefEqProofs [go_sem, Tryz.ntmps144]; (repeat refine And.intro (by first | decide +kernel | omega | kernel_rfl) ?_); (try decide +kernel)
  refine .inl ⟨_, hm, ?_⟩; simp -implicitDefEqProofs [go_sem]; (repeat refine And.intro (by first | decide +kernel | omega | kernel_rfl) ?_); (try decide +kernel)
theorem same5_p (x y : QR) (hx : x.1.2.length < 1099511627776 ∧ x.2.2.length < 1099511627776) (hy : y.1.2.length < 1099511627776 ∧ y.2.2.length < 1099511627776) : PCall Tryz.prog 31 [.d (qd x), .d (qd y)] (.one (.d (.v (.bool (decide (x = y)))))) := by
  have h1 := same3_p x.1 y.1 hx.1 hy.1
  have h2 := same3_p x.2 y.2 hx.2 hy.2
  by_cases e1 : x.1 = y.1
  · rw [decide_eq_true e1] at h1
    have e : decide (x = y) = decide (x.2 = y.2) := by
      by_cases e2 : x.2 = y.2 <;> simp [Prod.ext_iff, e1, e2]
    rw [e]
    refine pcall_of hmo Tryz.func31 rfl (by kernel_rfl) (by simp [Tryz.ntmps31]) ?_; simp -implicitDefEqProofs [go_sem, Tryz.ntmps31]; (repeat refine And.intro (by first | decide +kernel | omega | kernel_rfl) ?_); (try decide +kernel)
    refine .inl ⟨_, h1, ?_⟩; simp -implicitDefEqProofs [go_sem]; (repeat refine And.intro (by first | decide +kernel | omega | kernel_rfl) ?_); (try decide +kernel)
    refine .inl ⟨_, h2, ?_⟩; simp -implicitDefEqProofs [go_sem]; (repeat refine And.intro (by first | decide +kernel | omega | kernel_rfl) ?_); (try decide +kernel)
  · rw [decide_eq_false e1] at h1
    have e : decide (x = y) = false := by simp [Prod.ext_iff, e1]
    rw [e]
    refine pcall_of hmo Tryz.func31 rfl (by kernel_rfl) (by simp [Tryz.ntmps31]) ?_; simp -implicitDefEqProofs [go_sem, Tryz.ntmps31]; (repeat refine And.intro (by first | decide +kernel | omega | kernel_rfl) ?_); (try decide +kernel)
    refine .inl ⟨_, h1, ?_⟩; simp -implicitDefEqProofs [go_sem]; (repeat refine And.intro (by first | decide +kernel | omega | kernel_rfl) ?_); (try decide +kernel)
end Go.Mt
/-
  A part of the proof.
-/
set_option linter.unusedSimpArgs false
set_option linter.unusedVariables false
namespace Go.Mt
open Go Go.Pm Go.Proofs
theorem common5_p (qs : List Rat) (hq : ∀ q ∈ qs, ql q < 8589934592) (hn : qs.length < 549755813888) (hD : nl (comDen qs) < 8589934592) :
    PCall Tryz.prog 116 [.d (.sl (qes (qs.map nq)))] (.tup [.d (zd (nrm (comDen qs : Int))), .d (.sl (zes (qs.map fun q => nrm (comNum (comDen qs) q))))]) := by
  refine pcall_of hmo Tryz.func116 rfl (by kernel_rfl) (by simp [Tryz.ntmps116]) ?_; simp -implicitDefEqProofs [go_sem, Tryz.ntmps116]; (repeat refine And.intro (by first | decide +kernel | omega | kernel_rfl) ?_); (try decide +kernel)
  refine .inl ⟨_, of3_1, ?_⟩; simp -implicitDefEqProofs [go_sem]; (repeat refine And.intro (by first | decide +kernel | omega | kernel_rfl) ?_); (try decide +kernel)
  refine loop_rule [] (fun (k : Nat) => ⟨41, [(0, .d (.sl (qes (qs.map nq)))), (2, .pr 0 0 0 0), (3, .nl), (4, .pr 12 0 0 0), (11, .d (.sl (qes (qs.map nq)))), (12, intP .i64 (qs.length : Int)), (13, intP .i64 (k : Int))],
    [(12, .box [.d (.v (.bool (nrm (comDen (qs.take k) : Int)).1)), .d (.sl (les (nrm (comDen (qs.take k) : Int)).2))]), (0, .box [.d (.v (.bool false)), .nl])], 1000⟩)
    (fun k => k ≤ qs.length) (fun k => qs.length - k) 0 (Nat.zero_le _) (by simp) (by simp -implicitDefEqProofs [go_sem, comDen]) (fun k hk => ?_)
  by_cases hkl : k < qs.length
  · have hqk := hq qs[k] (List.getElem_mem hkl)
    have hd1 : nl qs[k].den < 8589934592 := Nat.lt_of_le_of_lt (Nat.le_max_right _ _) hqk
    have hd2 := nl_take qs k
    have hd3 := nl_take qs (k + 1)
    rw [comDen_succ qs hkl] at hd3
    have hno := norm5_n qs[k] (by omega)
    have hL := lcm3_p [(comDen (qs.take k) : Int), (qs[k].den : Int)] (by
      have h1 := comDen_pos (qs.take k)
      have h2 := qs[k].den_pos
      intro p hp
      simp at hp
      rcases hp with rfl | rfl
      · omega
      · omega) (by simp) (by rw [lcms_two]; omega) (by
      intro p hp
      simp at hp
      rcases hp with rfl | rfl
      · rw [zl_nat]; omega
      · rw [zl_nat]; omega)
    simp only [List.map_cons, List.map_nil, lcms_two] at hL
    rw [← comDen_succ qs hkl] at hL
    simp -implicitDefEqProofs [go_sem, hkl]; (repeat refine And.intro (by first | decide +kernel | omega | kernel_rfl) ?_); (try decide +kernel)
    refine .inl ⟨_, hno, ?_⟩; simp -implicitDefEqProofs [go_sem]; (repeat refine And.intro (by first | decide +kernel | omega | kernel_rfl) ?_); (try decide +kernel)
    refine .inl ⟨_, hL, ?_⟩; simp -implicitDefEqProofs [go_sem]; (repeat refine And.intro (by first | decide +kernel | omega | kernel_rfl) ?_); (try decide +kernel)
    exact ⟨k + 1, by omega, by omega, by omega, rfl, rfl⟩
  · obtain rfl : k = qs.length := by omega
    rw [List.take_length]
    simp -implicitDefEqProofs [go_sem]; (repeat refine And.intro (by first | decide +kernel | omega | kernel_rfl) ?_); (try decide +kernel)
    refine loop_rule [.arr 7 26 2] (fun (k : Nat) => ⟨41, [(2, .pr 0 0 0 0), (3, .nl), (4, .pr 12 0 0 0), (7, .sr 1020 k), (24, .d (.sl (qes (qs.map nq)))), (25, intP .i64 (qs.length : Int)), (26, intP .i64 (k : Int))],
      [(12, .box [.d (.v (.bool (nrm (comDen qs : Int)).1)), .d (.sl (les (nrm (comDen qs : Int)).2))]), (0, .box [.d (.v (.bool false)), .nl]), (1020, .arr ⟨26, 2, k, false, zes ((qs.take k).map fun q => nrm (comNum (comDen qs) q))⟩)], 2000⟩)
      (fun k => k ≤ qs.length) (fun k => qs.length - k) 0 (Nat.zero_le _) (by simp) (by simp -implicitDefEqProofs [go_sem, zes]) (fun k hk => ?_)
    by_cases hkl : k < qs.length
    · have hqk := hq qs[k] (List.getElem_mem hkl)
      have hi := int5_n (comDen qs : Int) (by rw [zl_nat]; omega)
      have hm := mul5_n qs[k] (((comDen qs : Nat) : Int) : Rat) (by omega) (by
        have : ql (((comDen qs : Nat) : Int) : Rat) ≤ nl (comDen qs) + 1 := by
          show max (nl (((comDen qs : Nat) : Int) : Rat).num.natAbs) (nl (((comDen qs : Nat) : Int) : Rat).den) ≤ _
          rw [Rat.num_intCast, Rat.den_intCast, Int.natAbs_natCast]
          have : nl 1 = 1 := by decide
          omega
        omega)
      have e : (qs[k] * (((comDen qs : Nat) : Int) : Rat)).num = comNum (comDen qs) qs[k] := by
        rw [comNum_eq _ _ (den_dvd_comDen qs qs[k] (List.getElem_mem hkl)), Rat.num_intCast]
      simp -implicitDefEqProofs [go_sem, hkl]; (repeat refine And.intro (by first | decide +kernel | omega | kernel_rfl) ?_); (try decide +kernel)
      refine .inl ⟨_, hi, ?_⟩; simp -implicitDefEqProofs [go_sem]; (repeat refine And.intro (by first | decide +kernel | omega | kernel_rfl) ?_); (try decide +kernel)
      refine .inl ⟨_, hm, ?_⟩; simp -implicitDefEqProofs [go_sem]; (repeat refine And.intro (by first | decide +kernel | omega | kernel_rfl) ?_); (try decide +kernel)
      rw [e]
      exact ⟨k + 1, by omega, by omega, by omega, rfl, take_snoc zel (qs.map fun q => nrm (comNum (comDen qs) q)) (by simpa using hkl) (by simp [zel])⟩
    · obtain rfl : k = qs.length := by omega
      rw [List.take_length]
      simp -implicitDefEqProofs [go_sem]; (repeat refine And.intro (by first | decide +kernel | omega | kernel_rfl) ?_); (try decide +kernel)
def hs2 (q : Rat) : Nat → Nat
  | 0 => 0
  | 1 => blen q.num.natAbs
  | _ => max (blen q.num.natAbs) (blen q.den)
end Go.Mt
/-
  A part of the proof.
-/
set_option linter.unusedSimpArgs false
set_option linter.unusedVariables false
namespace Go.Mt
open Go Go.Pm Go.Proofs
theorem fill_g {α : Type} (l : List α) (z : α) {k : Nat} (h : k < l.length) : (l.take k ++ List.replicate (l.length - k) z).set k l[k] = l.take (k + 1) ++ List.replicate (l.length - (k + 1)) z := by
  have e : l.length - k = (l.length - (k + 1)) + 1 := by omega
  rw [e, List.replicate_succ, List.set_append, if_neg (by simp; omega)]
  have e2 : k - (l.take k).length = 0 := by simp; omega
  rw [e2, List.set_cons_zero, List.take_add_one, List.getElem?_eq_getElem h]
  simp only [Option.toList_some, List.append_assoc, List.singleton_append]
theorem fill_get {α : Type} (l : List α) (z : α) {k : Nat} (h : k < l.length) : (l.take k ++ List.replicate (l.length - k) z)[k]? = some z := by
  rw [List.getElem?_append_right (by simp; omega)]
  simp [List.getElem?_replicate]; omega
theorem fill_len {α : Type} (l : List α) (z : α) {k : Nat} (h : k ≤ l.length) : (l.take k ++ List.replicate (l.length - k) z).length = l.length := by simp; omega
theorem fill_end {α : Type} (l : List α) (z : α) : l.take l.length ++ List.replicate (l.length - l.length) z = l := by simp
theorem fill_x {α : Type} (l : List α) (z x : α) {k n : Nat} (hn : l.length = n) (h : l[k]? = some x) : (l.take k ++ List.replicate (n - k) z).set k x = l.take (k + 1) ++ List.replicate (n - (k + 1)) z := by
  subst hn
  obtain ⟨hk, rfl⟩ := List.getElem?_eq_some_iff.1 h
  exact fill_g l z hk
def zfil (l : List ZR) (k : Nat) : List (List D) := zes l |>.take k |>.append (List.replicate (l.length - k) [.v (.bool false), .sl []])
theorem copyAll3_p (l : List ZR) (h : ∀ p ∈ l, p.2.length < 1099511627776) (hn : l.length < 1099511627776) : PCall Tryz.prog 82 [.d (.sl (zes l))] (.one (.d (.sl (zes l)))) := by
  refine pcall_of hmo Tryz.func82 rfl (by kernel_rfl) (by simp [Tryz.ntmps82]) ?_; simp -implicitDefEqProofs [go_sem, Tryz.ntmps82]; (repeat refine And.intro (by first | decide +kernel | omega | kernel_rfl) ?_); (try decide +kernel)
  refine loop_rule [] (fun (k : Nat) => ⟨23, [(2, .nl), (3, .sr 12 0), (9, .d (.sl (zes l))), (10, intP .i64 (l.length : Int)), (11, intP .i64 (k : Int))], [(12, .arr ⟨26, 2, 0, false, zfil l k⟩)], 1000⟩)
    (fun k => k ≤ l.length) (fun k => l.length - k) 0 (Nat.zero_le _) (by simp) (by simp -implicitDefEqProofs [go_sem, zfil]) (fun k hk => ?_)
  have hzl : (zfil l k).length = l.length := by unfold zfil; rw [← zes_len l]; exact fill_len (zes l) _ (by rw [zes_len]; exact hk)
  by_cases hkl : k < l.length
  · have hc := copy3_p l[k] (h _ (List.getElem_mem hkl))
    have hg : (zfil l k)[k]? = some [.v (.bool false), .sl []] := by unfold zfil; rw [← zes_len l]; exact fill_get (zes l) _ (by rw [zes_len]; exact hkl)
    have hst : (zfil l k).set k (zel l[k]) = zfil l (k + 1) := fill_x (zes l) _ _ (zes_len l) (by rw [List.getElem?_eq_getElem (by rw [zes_len]; exact hkl), zes_ge (by rw [zes_len]; exact hkl)])
    simp -implicitDefEqProofs [go_sem, hkl]; (repeat refine And.intro (by first | decide +kernel | omega | kernel_rfl) ?_); (try decide +kernel)
    refine .inl ⟨_, hc, ?_⟩; simp -implicitDefEqProofs [go_sem, hzl, hg]; (repeat refine And.intro (by first | decide +kernel | omega | kernel_rfl) ?_); (try decide +kernel)
    exact ⟨k + 1, by omega, by omega, by omega, hst⟩
  · obtain rfl : k = l.length := by omega
    have e : zfil l l.length = zes l := by unfold zfil; rw [← zes_len l]; exact fill_end (zes l) _
    simp -implicitDefEqProofs [go_sem, e]; (repeat refine And.intro (by first | decide +kernel | omega | kernel_rfl) ?_); (try decide +kernel)
def qfil (l : List QR) (k : Nat) : List (List D) := qes l |>.take k |>.append (List.replicate (l.length - k) [.v (.bool false), .sl [], .v (.bool false), .sl []])
end Go.Mt
/-
  A part of the proof.
-/
set_option linter.unusedSimpArgs false
set_option linter.unusedVariables false
namespace Go.Mt
open Go Go.Pm Go.Proofs
theorem make5_p (p q : ZR) (hp : Rz p) (hq : Rz q) (hpl : p.2.length < 68719476736) (hql : q.2.length < 68719476736) (h0 : ofR q ≠ 0) : PCall Tryz.prog 114 [.d (zd p), .d (zd q)] (.one (.d (qd (nq (ratv (ofR p) (ofR q)))))) := by
  have hs := sign3_p q hq
  have hpz := zl_ofR hp
  have hqz := zl_ofR hq
  by_cases hlt : ofR q < 0
  · have h2 : (ofR q).sign < 0 := by rw [Int.sign_eq_neg_one_of_neg hlt]; decide
    have n1 := neg3_p p hp
    have n2 := neg3_p q hq
    have e := ratv_neg (ofR p) (ofR q)
    have hg := gcdI_pos (n := -ofR p) (d := -ofR q) (by omega)
    have hl := zl_gcdI (-ofR p) (-ofR q)
    rw [zl_neg, zl_neg] at hl
    have k1 := gcd3_n (-ofR p) (-ofR q) (by rw [zl_neg]; omega) (by rw [zl_neg]; omega)
    have k2 := exact3_n (-ofR p) (gcdI (-ofR p) (-ofR q)) (by rw [zl_neg]; omega) (by omega) (by omega) (gcdI_dvd _ _).1
    have k3 := exact3_n (-ofR q) (gcdI (-ofR p) (-ofR q)) (by rw [zl_neg]; omega) (by omega) (by omega) (gcdI_dvd _ _).2
    rw [(rat_num_pos (a := -ofR p) (b := -ofR q) (by omega)).1, e] at k2
    rw [(rat_num_pos (a := -ofR p) (b := -ofR q) (by omega)).2, e] at k3
    refine pcall_of hmo Tryz.func114 rfl (by kernel_rfl) (by simp [Tryz.ntmps114]) ?_; simp -implicitDefEqProofs [go_sem, Tryz.ntmps114]; (repeat refine And.intro (by first | decide +kernel | omega | kernel_rfl) ?_); (try decide +kernel)
    refine .inl ⟨_, hs, ?_⟩; simp -implicitDefEqProofs [go_sem, h2]; (repeat refine And.intro (by first | decide +kernel | omega | kernel_rfl) ?_); (try decide +kernel)
    refine .inl ⟨_, n1, ?_⟩; simp -implicitDefEqProofs [go_sem]; (repeat refine And.intro (by first | decide +kernel | omega | kernel_rfl) ?_); (try decide +kernel)
    refine .inl ⟨_, n2, ?_⟩; simp -implicitDefEqProofs [go_sem]; (repeat refine And.intro (by first | decide +kernel | omega | kernel_rfl) ?_); (try decide +kernel)
    refine .inl ⟨_, k1, ?_⟩; simp -implicitDefEqProofs [go_sem]; (repeat refine And.intro (by first | decide +kernel | omega | kernel_rfl) ?_); (try decide +kernel)
    refine .inl ⟨_, k2, ?_⟩; simp -implicitDefEqProofs [go_sem]; (repeat refine And.intro (by first | decide +kernel | omega | kernel_rfl) ?_); (try decide +kernel)
    refine .inl ⟨_, k3, ?_⟩; simp -implicitDefEqProofs [go_sem]; (repeat refine And.intro (by first | decide +kernel | omega | kernel_rfl) ?_); (try decide +kernel)
  · have h2 : ¬ (ofR q).sign < 0 := by rw [Int.sign_eq_one_of_pos (by omega)]; decide
    have hg := gcdI_pos (n := ofR p) (d := ofR q) h0
    have hl := zl_gcdI (ofR p) (ofR q)
    have k1 := gcd3_p p q hp hq (by omega) (by omega)
    have k2 := exact3_p p (nrm (gcdI (ofR p) (ofR q))) hp (rz (by omega)) (by omega) (by rw [rz_len]; omega) (by rw [ofR_nrm]; omega) (by rw [ofR_nrm]; exact (gcdI_dvd _ _).1)
    have k3 := exact3_p q (nrm (gcdI (ofR p) (ofR q))) hq (rz (by omega)) (by omega) (by rw [rz_len]; omega) (by rw [ofR_nrm]; omega) (by rw [ofR_nrm]; exact (gcdI_dvd _ _).2)
    rw [ofR_nrm, (rat_num_pos (a := ofR p) (b := ofR q) (by omega)).1] at k2
    rw [ofR_nrm, (rat_num_pos (a := ofR p) (b := ofR q) (by omega)).2] at k3
    refine pcall_of hmo Tryz.func114 rfl (by kernel_rfl) (by simp [Tryz.ntmps114]) ?_; simp -implicitDefEqProofs [go_sem, Tryz.ntmps114]; (repeat refine And.intro (by first | decide +kernel | omega | kernel_rfl) ?_); (try decide +kernel)
    refine .inl ⟨_, hs, ?_⟩; simp -implicitDefEqProofs [go_sem, h2]; (repeat refine And.intro (by first | decide +kernel | omega | kernel_rfl) ?_); (try decide +kernel)
    refine .inl ⟨_, k1, ?_⟩; simp -implicitDefEqProofs [go_sem]; (repeat refine And.intro (by first | decide +kernel | omega | kernel_rfl) ?_); (try decide +kernel)
    refine .inl ⟨_, k2, ?_⟩; simp -implicitDefEqProofs [go_sem]; (repeat refine And.intro (by first | decide +kernel | omega | kernel_rfl) ?_); (try decide +kernel)
    refine .inl ⟨_, k3, ?_⟩; simp -implicitDefEqProofs [go_sem]; (repeat refine And.intro (by first | decide +kernel | omega | kernel_rfl) ?_); (try decide +kernel)
/-- a fraction that means something, as it came -/
structure Lq (x : QR) : Prop where
  rq : Rq x
  ne : ofR x.2 ≠ 0
  l1 : x.1.2.length < 8589934592
  l2 : x.2.2.length < 8589934592
theorem Lq.ql {x : QR} (h : Lq x) : ql (ofQ x) < 8589934592 := by
  have := ql_ratv (ofR x.1) (ofR x.2) h.ne
  have := zl_ofR h.rq.1
  have := zl_ofR h.rq.2
  have := h.l1
  have := h.l2
  unfold ofQ
  omega
theorem Lq.n {q : Rat} (h : Go.Mt.ql q < 8589934592) : Lq (nq q) := by
  have := ql_num q; have := ql_den q
  exact ⟨Go.Mt.rq (by omega), by show ofR (nrm _) ≠ 0; rw [ofR_nrm]; exact den_ne q, by show (nrm _).2.length < _; rw [rz_len]; omega, by show (nrm _).2.length < _; rw [rz_len]; omega⟩
end Go.Mt
