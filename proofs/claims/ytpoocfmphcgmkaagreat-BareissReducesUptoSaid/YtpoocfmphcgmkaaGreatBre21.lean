/-
  A part of the proof.
-/
import Derived.Test.YtpoocfmphcgmkaaGreatBre19
import Derived.Test.YtpoocfmphcgmkaaGreatBre20
set_option linter.unusedVariables false
set_option linter.unusedSimpArgs false
set_option linter.unusedSimpArgs false
set_option linter.unusedVariables false
namespace Go.Mt
open Go Go.Pm Go.Proofs
theorem norm_p (x : QR) (h : Rq x) (h0 : ofR x.2 ≠ 0) : PCall Tryz.prog 176 [.d (qd x)] (.tup [.d (qd (nq (ofQ x))), .d (.v (.int .i64 0))]) := by
  refine pcall_of hmo Tryz.func176 rfl (by kernel_rfl) (by simp [Tryz.ntmps176]) ?_; simp -implicitDefEqProofs [go_sem, Tryz.ntmps176]; (repeat refine And.intro (by first | decide +kernel | omega | kernel_rfl) ?_); (try decide +kernel)
  refine .inl ⟨_, make_p x.1 x.2 h.1 h.2 h0, ?_⟩; simp -implicitDefEqProofs [go_sem]; (repeat refine And.intro (by first | decide +kernel | omega | kernel_rfl) ?_); (try decide +kernel)
  rfl
theorem qof_p (z : Int) (h1 : -9223372036854775808 ≤ z) (h2 : z ≤ 9223372036854775807) : PCall Tryz.prog 154 [.d (.v (.int .i64 z))] (.one (.d (qd (nq (z : Rat))))) := by
  refine pcall_of hmo Tryz.func154 rfl (by kernel_rfl) (by simp [Tryz.ntmps154]) ?_; simp -implicitDefEqProofs [go_sem, Tryz.ntmps154]; (repeat refine And.intro (by first | decide +kernel | omega | kernel_rfl) ?_); (try decide +kernel)
  refine .inl ⟨_, of_p z h1 h2, ?_⟩; simp -implicitDefEqProofs [go_sem]; (repeat refine And.intro (by first | decide +kernel | omega | kernel_rfl) ?_); (try decide +kernel)
  refine .inl ⟨_, of_p 1 (by decide) (by decide), ?_⟩; simp -implicitDefEqProofs [go_sem]; (repeat refine And.intro (by first | decide +kernel | omega | kernel_rfl) ?_); (try decide +kernel)
theorem madeR_p {g : FuncId} {x : QR} {e : Int} (l : List QR) (hl : ∀ q ∈ l, Rq q ∧ ofR q.2 ≠ 0) (hn : l.length < 549755813888) (hg : PCall Tryz.prog g [.d (.sl (qes (l.map fun q => nq (ofQ q))))] (.tup [.d (qd x), .d (.v (.int .i64 e))])) :
    PCall Tryz.prog 186 [.fn g [], .d (.sl (qes l))] (.tup [.d (qd x), .d (.v (.int .i64 e))]) := by
  refine pcall_of hmo Tryz.func186 rfl (by kernel_rfl) (by simp [Tryz.ntmps186]) ?_; simp -implicitDefEqProofs [go_sem, Tryz.ntmps186]; (repeat refine And.intro (by first | decide +kernel | omega | kernel_rfl) ?_); (try decide +kernel)
  refine loop_rule [] (fun (k : Nat) => ⟨40, [(0, .fn g []), (4, .pr 0 0 0 0), (5, intP .i64 0), (6, .pr 8 0 0 0), (7, .sr 20 k), (15, .d (.sl (qes l))), (16, intP .i64 (l.length : Int)), (17, intP .i64 (k : Int))],
    [(20, .arr ⟨56, 4, k, false, qes ((l.take k).map fun q => nq (ofQ q))⟩), (8, .box [.d (.v (.bool false)), .nl, .d (.v (.bool false)), .nl]), (0, .box [.d (.v (.bool false)), .nl, .d (.v (.bool false)), .nl])], 1000⟩)
    (fun k => k ≤ l.length) (fun k => l.length - k) 0 (Nat.zero_le _) (by simp) (by simp -implicitDefEqProofs [go_sem, qes]) (fun k hk => ?_)
  by_cases hkl : k < l.length
  · obtain ⟨h1, h2⟩ := hl l[k] (List.getElem_mem hkl)
    have hcn := norm_p l[k] h1 h2
    simp -implicitDefEqProofs [go_sem, hkl]; (repeat refine And.intro (by first | decide +kernel | omega | kernel_rfl) ?_); (try decide +kernel)
    refine .inl ⟨_, hcn, ?_⟩; simp -implicitDefEqProofs [go_sem]; (repeat refine And.intro (by first | decide +kernel | omega | kernel_rfl) ?_); (try decide +kernel)
    refine ⟨k + 1, by omega, by omega, ⟨rfl, by omega⟩, rfl, ?_⟩
    exact take_snoc qel (l.map fun q => nq (ofQ q)) (by simpa using hkl) (by simp [qel, nq_1, nq_2])
  · obtain rfl : k = l.length := by omega
    rw [List.take_length]
    simp -implicitDefEqProofs [go_sem]; (repeat refine And.intro (by first | decide +kernel | omega | kernel_rfl) ?_); (try decide +kernel)
    refine .inl ⟨_, hg, ?_⟩; simp -implicitDefEqProofs [go_sem]; (repeat refine And.intro (by first | decide +kernel | omega | kernel_rfl) ?_); (try decide +kernel)
/-- a denominator with numerators -/
def cmd (p : ZR) (l : List ZR) : D := .agg [.v (.bool p.1), .sl (les p.2), .sl (zes l)]
attribute [go_sem] cmd
theorem madeC_p {g : FuncId} {p : ZR} {r : List ZR} {e : Int} (l : List QR) (hl : ∀ q ∈ l, Rq q ∧ ofR q.2 ≠ 0) (hn : l.length < 549755813888) (hg : PCall Tryz.prog g [.d (.sl (qes (l.map fun q => nq (ofQ q))))] (.tup [.d (cmd p r), .d (.v (.int .i64 e))])) :
    PCall Tryz.prog 217 [.fn g [], .d (.sl (qes l))] (.tup [.d (cmd p r), .d (.v (.int .i64 e))]) := by
  refine pcall_of hmo Tryz.func217 rfl (by kernel_rfl) (by simp [Tryz.ntmps217]) ?_; simp -implicitDefEqProofs [go_sem, Tryz.ntmps217]; (repeat refine And.intro (by first | decide +kernel | omega | kernel_rfl) ?_); (try decide +kernel)
  refine loop_rule [] (fun (k : Nat) => ⟨40, [(0, .fn g []), (4, .pr 0 0 0 0), (5, intP .i64 0), (6, .pr 8 0 0 0), (7, .sr 20 k), (15, .d (.sl (qes l))), (16, intP .i64 (l.length : Int)), (17, intP .i64 (k : Int))],
    [(20, .arr ⟨56, 4, k, false, qes ((l.take k).map fun q => nq (ofQ q))⟩), (8, .box [.d (.v (.bool false)), .nl, .nl]), (0, .box [.d (.v (.bool false)), .nl, .nl])], 1000⟩)
    (fun k => k ≤ l.length) (fun k => l.length - k) 0 (Nat.zero_le _) (by simp) (by simp -implicitDefEqProofs [go_sem, qes]) (fun k hk => ?_)
  by_cases hkl : k < l.length
  · obtain ⟨h1, h2⟩ := hl l[k] (List.getElem_mem hkl)
    have hcn := norm_p l[k] h1 h2
    simp -implicitDefEqProofs [go_sem, hkl]; (repeat refine And.intro (by first | decide +kernel | omega | kernel_rfl) ?_); (try decide +kernel)
    refine .inl ⟨_, hcn, ?_⟩; simp -implicitDefEqProofs [go_sem]; (repeat refine And.intro (by first | decide +kernel | omega | kernel_rfl) ?_); (try decide +kernel)
    refine ⟨k + 1, by omega, by omega, ⟨rfl, by omega⟩, rfl, ?_⟩
    exact take_snoc qel (l.map fun q => nq (ofQ q)) (by simpa using hkl) (by simp [qel, nq_1, nq_2])
  · obtain rfl : k = l.length := by omega
    rw [List.take_length]
    simp -implicitDefEqProofs [go_sem]; (repeat refine And.intro (by first | decide +kernel | omega | kernel_rfl) ?_); (try decide +kernel)
    refine .inl ⟨_, hg, ?_⟩; simp -implicitDefEqProofs [go_sem]; (repeat refine And.intro (by first | decide +kernel | omega | kernel_rfl) ?_); (try decide +kernel)
end Go.Mt
/-
  A part of the proof.
-/
set_option linter.unusedSimpArgs false
set_option linter.unusedVariables false
namespace Go.Mt
open Go Go.Pm Go.Proofs
def lcmI (x y : Int) : Int := (Int.lcm x y : Nat)
theorem lcm_split {a b : Nat} : a / Nat.gcd a b * b = Nat.lcm a b := by
  unfold Nat.lcm
  rw [Nat.mul_comm, ← Nat.mul_div_assoc _ (Nat.gcd_dvd_left a b), Nat.mul_comm]
theorem lcm1_p (p q : ZR) (hp : Rz p) (hq : Rz q) (h0 : ofR q ≠ 0) : PCall Tryz.prog 205 [.d (zd p), .d (zd q)] (.one (.d (zd (nrm (lcmI (ofR p) (ofR q)))))) := by
  have hg := gcdI_pos (n := ofR p) h0
  have hgl : zl (gcdI (ofR p) (ofR q)) < 1099511627776 := by
    have := zl_gcdI (ofR p) (ofR q); have := zl_lt hp; have := zl_lt hq; omega
  have hs := sign_p (nrm (gcdI (ofR p) (ofR q))) (rz hgl)
  rw [ofR_nrm, Int.sign_eq_one_of_pos hg] at hs
  have hpl : zl ((ofR p).natAbs : Int) < 1099511627776 := by unfold zl; rw [Int.natAbs_natCast]; exact zl_lt hp
  have hql : zl ((ofR q).natAbs : Int) < 1099511627776 := by unfold zl; rw [Int.natAbs_natCast]; exact zl_lt hq
  have hdv : gcdI (ofR p) (ofR q) ∣ ((ofR p).natAbs : Int) := by unfold gcdI; exact Int.natCast_dvd_natCast.2 (Nat.gcd_dvd_left ..)
  have he := exact_p (nrm ((ofR p).natAbs : Int)) (nrm (gcdI (ofR p) (ofR q))) (rz hpl) (rz hgl) (by rw [ofR_nrm]; omega) (by rw [ofR_nrm, ofR_nrm]; exact hdv)
  rw [ofR_nrm, ofR_nrm] at he
  have hql2 := zl_div hdv
  have hm := mul_p (nrm (((ofR p).natAbs : Int) / gcdI (ofR p) (ofR q))) (nrm ((ofR q).natAbs : Int)) (rz (by omega)) (rz hql)
  rw [ofR_nrm, ofR_nrm] at hm
  have e : ((ofR p).natAbs : Int) / gcdI (ofR p) (ofR q) * ((ofR q).natAbs : Int) = lcmI (ofR p) (ofR q) := by
    unfold gcdI lcmI Int.gcd Int.lcm
    rw [← Int.natCast_ediv, ← Int.natCast_mul, lcm_split]
  rw [e] at hm
  refine pcall_of hmo Tryz.func205 rfl (by kernel_rfl) (by simp [Tryz.ntmps205]) ?_; simp -implicitDefEqProofs [go_sem, Tryz.ntmps205]; (repeat refine And.intro (by first | decide +kernel | omega | kernel_rfl) ?_); (try decide +kernel)
  refine .inl ⟨_, gcd1_p p q hp hq, ?_⟩; simp -implicitDefEqProofs [go_sem]; (repeat refine And.intro (by first | decide +kernel | omega | kernel_rfl) ?_); (try decide +kernel)
  refine .inl ⟨_, hs, ?_⟩; simp -implicitDefEqProofs [go_sem]; (repeat refine And.intro (by first | decide +kernel | omega | kernel_rfl) ?_); (try decide +kernel)
  refine .inl ⟨_, abs_p p hp, ?_⟩; simp -implicitDefEqProofs [go_sem]; (repeat refine And.intro (by first | decide +kernel | omega | kernel_rfl) ?_); (try decide +kernel)
  refine .inl ⟨_, he, ?_⟩; simp -implicitDefEqProofs [go_sem]; (repeat refine And.intro (by first | decide +kernel | omega | kernel_rfl) ?_); (try decide +kernel)
  refine .inl ⟨_, abs_p q hq, ?_⟩; simp -implicitDefEqProofs [go_sem]; (repeat refine And.intro (by first | decide +kernel | omega | kernel_rfl) ?_); (try decide +kernel)
  refine .inl ⟨_, hm, ?_⟩; simp -implicitDefEqProofs [go_sem]; (repeat refine And.intro (by first | decide +kernel | omega | kernel_rfl) ?_); (try decide +kernel)
theorem mem_lcms {zs : List Int} {z : Int} (h : z ∈ zs) : z.natAbs ∣ lcms zs := by
  obtain ⟨xs, ys, rfl⟩ := List.append_of_mem h
  have h1 : z.natAbs ∣ lcms (xs ++ [z]) := by rw [lcms_snoc]; exact Nat.dvd_lcm_right _ _
  have h2 := lcms_append_dvd (xs ++ [z]) ys
  rw [List.append_assoc] at h2
  exact Nat.dvd_trans h1 h2
theorem lcml_p (l : List ZR) (hl : ∀ p ∈ l, Rz p ∧ ofR p ≠ 0) (hn : l.length < 1099511627776) (hne : l ≠ []) (hD : nl (lcms (l.map ofR)) < 1099511627776) : PCall Tryz.prog 169 [.d (.sl (zes l))] (.one (.d (zd (nrm ((lcms (l.map ofR) : Nat) : Int))))) := by
  have hpos : 0 < lcms (l.map ofR) := lcms_pos _ fun z hz => by
    obtain ⟨p, hp, rfl⟩ := List.mem_map.1 hz; exact (hl p hp).2
  have hI : ∀ z : Int, z.natAbs ∣ lcms (l.map ofR) → zl z < 1099511627776 := fun z h => Nat.lt_of_le_of_lt (nl_mono (Nat.le_of_dvd hpos h)) hD
  have hf := folded_ok (g := 205) (f := lcmI) (I := fun z => z.natAbs ∣ lcms (l.map ofR)) hI l (fun p hp => (hl p hp).1) hn (fun a x ha hI2 hx => ⟨lcm1_p a x ha (hl x hx).1 (hl x hx).2, by
    show ((Int.lcm (ofR a) (ofR x) : Nat) : Int).natAbs ∣ _
    rw [Int.natAbs_natCast]
    exact Nat.lcm_dvd hI2 (mem_lcms (List.mem_map.2 ⟨x, hx, rfl⟩))⟩) (nrm 1) (rz (by decide)) (by rw [ofR_nrm]; exact Nat.one_dvd _) hne
  have e : l.foldl (fun z p => lcmI z (ofR p)) (ofR (nrm 1)) = ((lcms (l.map ofR) : Nat) : Int) := by
    rw [ofR_nrm]
    unfold lcms
    rw [List.foldl_map]
    have key : ∀ (l : List ZR) (m : Nat), l.foldl (fun z p => lcmI z (ofR p)) (m : Int) = ((l.foldl (fun (m : Nat) p => Nat.lcm m (ofR p).natAbs) m : Nat) : Int) := by
      intro l
      induction l with
      | nil => intro m; rfl
      | cons p l ih => intro m; exact ih _
    exact key l 1
  rw [e] at hf
  have hf : PCall Tryz.prog 204 [.d (zd (nrm 1)), .d (.sl (zes l)), .fn 205 []] (.one (.d (zd (nrm ((lcms (l.map ofR) : Nat) : Int))))) := hf
  refine pcall_of hmo Tryz.func169 rfl (by kernel_rfl) (by simp [Tryz.ntmps169]) ?_; simp -implicitDefEqProofs [go_sem, Tryz.ntmps169]; (repeat refine And.intro (by first | decide +kernel | omega | kernel_rfl) ?_); (try decide +kernel)
  refine .inl ⟨_, of_p 1 (by decide) (by decide), ?_⟩; simp -implicitDefEqProofs [go_sem]; (repeat refine And.intro (by first | decide +kernel | omega | kernel_rfl) ?_); (try decide +kernel)
  refine .inl ⟨_, hf, ?_⟩; simp -implicitDefEqProofs [go_sem]; (repeat refine And.intro (by first | decide +kernel | omega | kernel_rfl) ?_); (try decide +kernel)
end Go.Mt
/-
  A part of the proof.
-/
set_option linter.unusedSimpArgs false
set_option linter.unusedVariables false
namespace Go.Mt
open Go Go.Pm Go.Proofs
theorem comDen_take_dvd (qs : List Rat) (k : Nat) : comDen (qs.take k) ∣ comDen qs := by
  have := comDen_append_dvd (qs.take k) (qs.drop k)
  rwa [List.take_append_drop] at this
theorem nl_take (qs : List Rat) (k : Nat) : nl (comDen (qs.take k)) ≤ nl (comDen qs) := nl_mono (Nat.le_of_dvd (comDen_pos _) (comDen_take_dvd qs k))
theorem comDen_succ (qs : List Rat) {k : Nat} (hk : k < qs.length) : comDen (qs.take (k + 1)) = Nat.lcm (comDen (qs.take k)) qs[k].den := by
  rw [List.take_add_one, List.getElem?_eq_getElem hk]
  exact comDen_snoc _ _
theorem zl_nat (n : Nat) : zl (n : Int) = nl n := by unfold zl; rw [Int.natAbs_natCast]
set_option maxRecDepth 100000 in
theorem common1_p (qs : List Rat) (hq : ∀ q ∈ qs, ql q < 549755813888) (hn : qs.length < 549755813888) (hD : nl (comDen qs) < 549755813888) :
    PCall Tryz.prog 218 [.d (.sl (qes (qs.map nq)))] (.tup [.d (cmd (nrm (comDen qs : Int)) (qs.map fun q => nrm (comNum (comDen qs) q))), .d (.v (.int .i64 0))]) := by
  refine pcall_of hmo Tryz.func218 rfl (by kernel_rfl) (by simp [Tryz.ntmps218]) ?_; simp -implicitDefEqProofs [go_sem, Tryz.ntmps218]; (repeat refine And.intro (by first | decide +kernel | omega | kernel_rfl) ?_); (try decide +kernel)
  refine .inl ⟨_, of_p 1 (by decide) (by decide), ?_⟩; simp -implicitDefEqProofs [go_sem]; (repeat refine And.intro (by first | decide +kernel | omega | kernel_rfl) ?_); (try decide +kernel)
  refine loop_rule [] (fun (k : Nat) => ⟨52, [(0, .d (.sl (qes (qs.map nq)))), (2, .pr 0 0 0 0), (3, intP .i64 0), (4, .pr 16 0 0 0), (13, .d (.sl (qes (qs.map nq)))), (14, intP .i64 (qs.length : Int)), (15, intP .i64 (k : Int))],
    [(16, .box [.d (.v (.bool (nrm (comDen (qs.take k) : Int)).1)), .d (.sl (les (nrm (comDen (qs.take k) : Int)).2)), .nl]), (0, .box [.d (.v (.bool false)), .nl, .nl])], 1000⟩)
    (fun k => k ≤ qs.length) (fun k => qs.length - k) 0 (Nat.zero_le _) (by simp) (by simp -implicitDefEqProofs [go_sem, comDen]) (fun k hk => ?_)
  by_cases hkl : k < qs.length
  · have hqk := hq qs[k] (List.getElem_mem hkl)
    have hd1 : nl qs[k].den < 549755813888 := Nat.lt_of_le_of_lt (Nat.le_max_right _ _) hqk
    have hd2 := nl_take qs k
    have hd3 := nl_take qs (k + 1)
    rw [comDen_succ qs hkl] at hd3
    have hL := lcml_p [nrm (comDen (qs.take k) : Int), nrm (qs[k].den : Int)] (by
      have h1 := comDen_pos (qs.take k)
      have h2 := qs[k].den_pos
      intro p hp
      simp at hp
      rcases hp with rfl | rfl
      · exact ⟨rz (by rw [zl_nat]; omega), by rw [ofR_nrm]; omega⟩
      · exact ⟨rz (by rw [zl_nat]; omega), by rw [ofR_nrm]; omega⟩) (by simp) (by simp) (by
        simp only [List.map_cons, List.map_nil, ofR_nrm, lcms_two]; omega)
    simp only [List.map_cons, List.map_nil, ofR_nrm, lcms_two] at hL
    rw [← comDen_succ qs hkl] at hL
    simp -implicitDefEqProofs [go_sem, hkl]; (repeat refine And.intro (by first | decide +kernel | omega | kernel_rfl) ?_); (try decide +kernel)
    refine .inl ⟨_, hL, ?_⟩; simp -implicitDefEqProofs [go_sem]; (repeat refine And.intro (by first | decide +kernel | omega | kernel_rfl) ?_); (try decide +kernel)
    exact ⟨k + 1, by omega, by omega, by omega, rfl, rfl⟩
  · obtain rfl : k = qs.length := by omega
    rw [List.take_length]
    simp -implicitDefEqProofs [go_sem]; (repeat refine And.intro (by first | decide +kernel | omega | kernel_rfl) ?_); (try decide +kernel)
    refine loop_rule [.arrB 16 2 26 2] (fun (k : Nat) => ⟨52, [(2, .pr 0 0 0 0), (3, intP .i64 0), (4, .pr 16 0 0 0), (27, .d (.sl (qes (qs.map nq)))), (28, intP .i64 (qs.length : Int)), (29, intP .i64 (k : Int))],
      [(16, .box [.d (.v (.bool (nrm (comDen qs : Int)).1)), .d (.sl (les (nrm (comDen qs : Int)).2)), .sr 1016 k]), (0, .box [.d (.v (.bool false)), .nl, .nl]), (1016, .arr ⟨26, 2, k, false, zes ((qs.take k).map fun q => nrm (comNum (comDen qs) q))⟩)], 2000⟩)
      (fun k => k ≤ qs.length) (fun k => qs.length - k) 0 (Nat.zero_le _) (by simp) (by simp -implicitDefEqProofs [go_sem, zes]) (fun k hk => ?_)
    by_cases hkl : k < qs.length
    · have hqk := hq qs[k] (List.getElem_mem hkl)
      have hd1 : nl qs[k].den < 549755813888 := Nat.lt_of_le_of_lt (Nat.le_max_right _ _) hqk
      have hd2 : nl qs[k].num.natAbs < 549755813888 := Nat.lt_of_le_of_lt (Nat.le_max_left _ _) hqk
      have hdv := den_dvd_comDen qs qs[k] (List.getElem_mem hkl)
      have he := exact_p (nrm (comDen qs : Int)) (nrm (qs[k].den : Int)) (rz (by rw [zl_nat]; omega)) (rz (by rw [zl_nat]; omega)) (by rw [ofR_nrm]; exact den_ne _) (by rw [ofR_nrm, ofR_nrm]; exact Int.natCast_dvd_natCast.2 hdv)
      rw [ofR_nrm, ofR_nrm, ← Int.natCast_ediv] at he
      have hdl := nl_mono (Nat.div_le_self (comDen qs) qs[k].den)
      have hm := mul_p (nrm qs[k].num) (nrm ((comDen qs / qs[k].den : Nat) : Int)) (rz (by show nl _ < _; omega)) (rz (by rw [zl_nat]; omega))
      rw [ofR_nrm, ofR_nrm] at hm
      have hm : PCall Tryz.prog 173 [.d (zd (nrm qs[k].num)), .d (zd (nrm ((comDen qs / qs[k].den : Nat) : Int)))] (.one (.d (zd (nrm (comNum (comDen qs) qs[k]))))) := hm
      simp -implicitDefEqProofs [go_sem, hkl]; (repeat refine And.intro (by first | decide +kernel | omega | kernel_rfl) ?_); (try decide +kernel)
      refine .inl ⟨_, he, ?_⟩; simp -implicitDefEqProofs [go_sem]; (repeat refine And.intro (by first | decide +kernel | omega | kernel_rfl) ?_); (try decide +kernel)
      refine .inl ⟨_, hm, ?_⟩; simp -implicitDefEqProofs [go_sem]; (repeat refine And.intro (by first | decide +kernel | omega | kernel_rfl) ?_); (try decide +kernel)
      exact ⟨k + 1, by omega, by omega, by omega, rfl, take_snoc zel (qs.map fun q => nrm (comNum (comDen qs) q)) (by simpa using hkl) (by simp [zel])⟩
    · obtain rfl : k = qs.length := by omega
      rw [List.take_length]
      simp -implicitDefEqProofs [go_sem]; (repeat refine And.intro (by first | decide +kernel | omega | kernel_rfl) ?_); (try decide +kernel)
theorem common_p (l : List QR) (hl : ∀ q ∈ l, Rq q ∧ ofR q.2 ≠ 0) (hn : l.length < 549755813888) (hb : ∀ q ∈ l, ql (ofQ q) < 549755813888) (hD : nl (comDen (l.map ofQ)) < 549755813888) :
    PCall Tryz.prog 190 [.d (.sl (qes l))] (.tup [.d (zd (nrm (comDen (l.map ofQ) : Int))), .d (.sl (zes ((l.map ofQ).map fun q => nrm (comNum (comDen (l.map ofQ)) q)))), .d (.v (.int .i64 0))]) := by
  have h1 := common1_p (l.map ofQ) (fun q hq => by obtain ⟨x, hx, rfl⟩ := List.mem_map.1 hq; exact hb x hx) (by simpa using hn) hD
  rw [List.map_map] at h1
  have hm := madeC_p l hl hn h1
  refine pcall_of hmo Tryz.func190 rfl (by kernel_rfl) (by simp [Tryz.ntmps190]) ?_; simp -implicitDefEqProofs [go_sem, Tryz.ntmps190]; (repeat refine And.intro (by first | decide +kernel | omega | kernel_rfl) ?_); (try decide +kernel)
  refine .inl ⟨_, hm, ?_⟩; simp -implicitDefEqProofs [go_sem]; (repeat refine And.intro (by first | decide +kernel | omega | kernel_rfl) ?_); (try decide +kernel)
end Go.Mt
/-
  A part of the proof.
-/
set_option linter.unusedSimpArgs false
set_option linter.unusedVariables false
namespace Go.Mt
open Go Go.Pm Go.Proofs
theorem ql_num (q : Rat) : zl q.num ≤ ql q := Nat.le_max_left _ _
theorem ql_den (q : Rat) : zl (q.den : Int) ≤ ql q := by rw [zl_nat]; exact Nat.le_max_right _ _
theorem zl_mul (a b : Int) : zl (a * b) ≤ zl a + zl b := by unfold zl; rw [Int.natAbs_mul]; exact nl_mul _ _
theorem zl_add (a b : Int) : zl (a + b) ≤ max (zl a) (zl b) + 1 := by
  unfold zl
  exact Nat.le_trans (nl_mono (Int.natAbs_add_le a b)) (nl_add _ _)
theorem zl_neg (a : Int) : zl (-a) = zl a := by unfold zl; rw [Int.natAbs_neg]
theorem rat_add (a b : Rat) : ratv (a.num * (b.den : Int) + b.num * (a.den : Int)) ((a.den : Int) * (b.den : Int)) = a + b := by
  have := ratv_add a.num b.num (den_ne a) (den_ne b)
  rw [ratv_self, ratv_self] at this
  exact this.symm
theorem rat_mul (a b : Rat) : ratv (a.num * b.num) ((a.den : Int) * (b.den : Int)) = a * b := by
  have := ratv_mul a.num a.den b.num b.den
  rw [ratv_self, ratv_self] at this
  exact this.symm
theorem ql_mul (a b : Rat) : ql (a * b) ≤ ql a + ql b := by
  have h := ql_ratv (a.num * b.num) ((a.den : Int) * (b.den : Int)) (Int.mul_ne_zero (den_ne a) (den_ne b))
  rw [rat_mul] at h
  have h2 := zl_mul a.num b.num
  have h4 := zl_mul a.den b.den
  have := ql_num a; have := ql_num b; have := ql_den a; have := ql_den b
  omega
theorem num_ne {a : Rat} (h : a ≠ 0) : a.num ≠ 0 := fun e => h (Rat.num_eq_zero.1 e)
theorem ql_neg (a : Rat) : ql (-a) = ql a := by unfold ql; show max (nl (-a.num).natAbs) (nl a.den) = _; rw [Int.natAbs_neg]
/-- products and sums of numbers in normal form -/
theorem mul_n (a b : Int) (ha : zl a < 1099511627776) (hb : zl b < 1099511627776) : PCall Tryz.prog 173 [.d (zd (nrm a)), .d (zd (nrm b))] (.one (.d (zd (nrm (a * b))))) := by
  have h := mul_p (nrm a) (nrm b) (rz ha) (rz hb)
  rwa [ofR_nrm, ofR_nrm] at h
theorem sub_n (a b : Int) (ha : zl a < 1099511627776) (hb : zl b < 1099511627776) : PCall Tryz.prog 197 [.d (zd (nrm a)), .d (zd (nrm b))] (.one (.d (zd (nrm (a - b))))) := by
  have h := sub_p (nrm a) (nrm b) (rz ha) (rz hb)
  rwa [ofR_nrm, ofR_nrm] at h
theorem neg_n (a : Int) (ha : zl a < 1099511627776) : PCall Tryz.prog 109 [.d (zd (nrm a))] (.one (.d (zd (nrm (-a))))) := by
  have h := neg_p (nrm a) (rz ha)
  rwa [ofR_nrm] at h
theorem sign_n (a : Int) (ha : zl a < 1099511627776) : PCall Tryz.prog 138 [.d (zd (nrm a))] (.one (.d (.v (.int .i64 a.sign)))) := by
  have h := sign_p (nrm a) (rz ha)
  rwa [ofR_nrm] at h
set_option maxRecDepth 100000 in
set_option maxHeartbeats 1000000 in
theorem qneg1_p (a : Rat) (ha : ql a < 274877906944) : PCall Tryz.prog 187 [.d (.sl (qes [nq a]))] (.tup [.d (qd (nq (-a))), .d (.v (.int .i64 0))]) := by
  have := ql_num a
  refine pcall_of hmo Tryz.func187 rfl (by kernel_rfl) (by simp [Tryz.ntmps187]) ?_; simp -implicitDefEqProofs [go_sem, Tryz.ntmps187]; (repeat refine And.intro (by first | decide +kernel | omega | kernel_rfl) ?_); (try decide +kernel)
  simp -implicitDefEqProofs [go_sem, qes]; (repeat refine And.intro (by first | decide +kernel | omega | kernel_rfl) ?_); (try decide +kernel)
  refine .inl ⟨_, neg_n a.num (by omega), ?_⟩; simp -implicitDefEqProofs [go_sem]; (repeat refine And.intro (by first | decide +kernel | omega | kernel_rfl) ?_); (try decide +kernel)
/-- fractions that mean something -/
structure Gq (x : QR) : Prop where
  rq : Rq x
  ne : ofR x.2 ≠ 0
theorem Gq.n (q : Rat) (h : ql q < 1099511627776) : Gq (nq q) := ⟨Go.Mt.rq h, by show ofR (nrm _) ≠ 0; rw [ofR_nrm]; exact den_ne q⟩
theorem Gq.one {x : QR} (hx : Gq x) : ∀ q ∈ [x], Rq q ∧ ofR q.2 ≠ 0 := fun q hq => by
  simp only [List.mem_cons, List.not_mem_nil, or_false] at hq
  subst hq; exact ⟨hx.rq, hx.ne⟩
theorem qneg_p (x : QR) (hx : Gq x) (ha : ql (ofQ x) < 274877906944) : PCall Tryz.prog 141 [.d (qd x)] (.tup [.d (qd (nq (-(ofQ x)))), .d (.v (.int .i64 0))]) := by
  have hm := madeR_p [x] hx.one (by simp) (qneg1_p (ofQ x) ha)
  refine pcall_of hmo Tryz.func141 rfl (by kernel_rfl) (by simp [Tryz.ntmps141]) ?_; simp -implicitDefEqProofs [go_sem, Tryz.ntmps141]; (repeat refine And.intro (by first | decide +kernel | omega | kernel_rfl) ?_); (try decide +kernel)
  refine .inl ⟨_, hm, ?_⟩; simp -implicitDefEqProofs [go_sem]; (repeat refine And.intro (by first | decide +kernel | omega | kernel_rfl) ?_); (try decide +kernel)
end Go.Mt
/-
  A part of the proof.
-/
set_option linter.unusedSimpArgs false
set_option linter.unusedVariables false
namespace Go.Mt
open Go Go.Pm Go.Proofs
/-- rows of integers, and a matrix, as they lie -/
def rel (r : List ZR) : List D := [.sl (zes r)]
def rws (rows : List (List ZR)) : List (List D) := rows.map rel
abbrev MR := ZR × List (List ZR)
def md (m : MR) : D := .agg [.v (.bool m.1.1), .sl (les m.1.2), .sl (rws m.2)]
def mel (m : MR) : List D := [.v (.bool m.1.1), .sl (les m.1.2), .sl (rws m.2)]
def mes (l : List MR) : List (List D) := l.map mel
def mE : D := .agg [.v (.bool false), .sl [], .sl []]
attribute [go_sem] rel md mel mE
@[go_sem] theorem rws_len (l : List (List ZR)) : (rws l).length = l.length := by simp [rws]
@[go_sem] theorem rws_ge {l : List (List ZR)} {i : Nat} (h : i < (rws l).length) : (rws l)[i] = rel (l[i]'(by rw [rws_len] at h; exact h)) := by simp [rws]
@[go_sem] theorem mes_len (l : List MR) : (mes l).length = l.length := by simp [mes]
@[go_sem] theorem mes_ge {l : List MR} {i : Nat} (h : i < (mes l).length) : (mes l)[i] = mel (l[i]'(by rw [mes_len] at h; exact h)) := by simp [mes]
/-- rows that a contract takes -/
structure Grw (rows : List (List ZR)) : Prop where
  rz : ∀ r ∈ rows, ∀ z ∈ r, Rz z
  nr : rows.length < 549755813888
  nc : ∀ r ∈ rows, r.length < 549755813888
theorem colsOf_lt {rows : List (List ZR)} (h : Grw rows) : colsOf rows < 549755813888 := by
  cases rows with
  | nil => show 0 < _; decide
  | cons r l => exact h.nc r (List.mem_cons_self ..)
theorem cols_p (rows : List (List ZR)) (h : Grw rows) : PCall Tryz.prog 195 [.d (.sl (rws rows))] (.one (.d (.v (.int .i64 (colsOf rows : Int))))) := by
  cases rows with
  | nil =>
    refine pcall_of hmo Tryz.func195 rfl (by kernel_rfl) (by simp [Tryz.ntmps195]) ?_; simp -implicitDefEqProofs [go_sem, Tryz.ntmps195]; (repeat refine And.intro (by first | decide +kernel | omega | kernel_rfl) ?_); (try decide +kernel)
  | cons r l =>
    have h0 : ¬ ((l.length + 1 : Nat) : Int) = 0 := by omega
    have h1 : ¬ ((l.length : Int) + 1 = 0) := by omega
    refine pcall_of hmo Tryz.func195 rfl (by kernel_rfl) (by simp [Tryz.ntmps195]) ?_; simp -implicitDefEqProofs [go_sem, Tryz.ntmps195]; (repeat refine And.intro (by first | decide +kernel | omega | kernel_rfl) ?_); (try decide +kernel)
    simp -implicitDefEqProofs [go_sem, h0, h1]; (repeat refine And.intro (by first | decide +kernel | omega | kernel_rfl) ?_); (try decide +kernel)
    rfl
def evenB (rows : List (List ZR)) : Bool := rows.all fun r => decide (r.length = colsOf rows)
theorem even_p (rows : List (List ZR)) (h : Grw rows) : PCall Tryz.prog 192 [.d (.sl (rws rows))] (.one (.d (.v (.bool (evenB rows))))) := by
  refine pcall_of hmo Tryz.func192 rfl (by kernel_rfl) (by simp [Tryz.ntmps192]) ?_; simp -implicitDefEqProofs [go_sem, Tryz.ntmps192]; (repeat refine And.intro (by first | decide +kernel | omega | kernel_rfl) ?_); (try decide +kernel)
  refine loop_rule [] (fun (k : Nat) => ⟨19, [(0, .d (.sl (rws rows))), (2, .d (.v (.bool false))), (5, .d (.sl (rws rows))), (6, intP .i64 (rows.length : Int)), (7, intP .i64 (k : Int))], [], 1000⟩)
    (fun k => k ≤ rows.length ∧ allK (fun r => decide (r.length = colsOf rows)) rows k) (fun k => rows.length - k) 0 ⟨Nat.zero_le _, allK_zero _ _⟩ (by simp) (by simp -implicitDefEqProofs [go_sem]) (fun k ⟨hk, ha⟩ => ?_)
  have hn := h.nr
  by_cases hkl : k < rows.length
  · have h0 : 0 < rows.length := by omega
    have e0 : ∀ hh : 0 < rows.length, (rows[0]'hh).length = colsOf rows := fun hh => by
      cases rows with
      | nil => simp at hh
      | cons r l => rfl
    by_cases hr : rows[k].length = colsOf rows
    · simp -implicitDefEqProofs [go_sem, hkl, h0, e0, hr]; (repeat refine And.intro (by first | decide +kernel | omega | kernel_rfl) ?_); (try decide +kernel)
      exact ⟨k + 1, ⟨by omega, allK_succ hkl ha (by simp [hr])⟩, by omega, by omega⟩
    · have hr' : ¬ ((rows[k].length : Nat) : Int) = ((colsOf rows : Nat) : Int) := by omega
      simp -implicitDefEqProofs [go_sem, hkl, h0, e0, hr, hr']; (repeat refine And.intro (by first | decide +kernel | omega | kernel_rfl) ?_); (try decide +kernel)
      exact allK_not hkl (decide_eq_false hr)
  · obtain rfl : k = rows.length := by omega
    simp -implicitDefEqProofs [go_sem]; (repeat refine And.intro (by first | decide +kernel | omega | kernel_rfl) ?_); (try decide +kernel)
    exact allK_all ha
/-- what Check answers -/
def checkE (m : MR) : Int := if ofR m.1 = 0 then 6 else if evenB m.2 = true then 0 else 2
theorem check_p (m : MR) (hd : Rz m.1) (h : Grw m.2) : PCall Tryz.prog 148 [.d (md m)] (.one (.d (.v (.int .i64 (checkE m))))) := by
  by_cases h0 : ofR m.1 = 0
  · refine pcall_of hmo Tryz.func148 rfl (by kernel_rfl) (by simp [Tryz.ntmps148]) ?_; simp -implicitDefEqProofs [go_sem, Tryz.ntmps148]; (repeat refine And.intro (by first | decide +kernel | omega | kernel_rfl) ?_); (try decide +kernel)
    refine .inl ⟨_, sign_p m.1 hd, ?_⟩; simp -implicitDefEqProofs [go_sem, h0]; (repeat refine And.intro (by first | decide +kernel | omega | kernel_rfl) ?_); (try decide +kernel)
    simp [checkE, h0]
  · have h1 : ¬ (ofR m.1).sign = 0 := fun h => h0 (Int.sign_eq_zero_iff_zero.1 h)
    refine pcall_of hmo Tryz.func148 rfl (by kernel_rfl) (by simp [Tryz.ntmps148]) ?_; simp -implicitDefEqProofs [go_sem, Tryz.ntmps148]; (repeat refine And.intro (by first | decide +kernel | omega | kernel_rfl) ?_); (try decide +kernel)
    refine .inl ⟨_, sign_p m.1 hd, ?_⟩; simp -implicitDefEqProofs [go_sem, h0, h1]; (repeat refine And.intro (by first | decide +kernel | omega | kernel_rfl) ?_); (try decide +kernel)
    have he := even_p m.2 h
    cases hb : evenB m.2 with
    | true =>
      rw [hb] at he
      refine .inl ⟨_, he, ?_⟩; simp -implicitDefEqProofs [go_sem]; (repeat refine And.intro (by first | decide +kernel | omega | kernel_rfl) ?_); (try decide +kernel)
      simp [checkE, h0, hb]
    | false =>
      rw [hb] at he
      refine .inl ⟨_, he, ?_⟩; simp -implicitDefEqProofs [go_sem]; (repeat refine And.intro (by first | decide +kernel | omega | kernel_rfl) ?_); (try decide +kernel)
      simp [checkE, h0, hb]
end Go.Mt
/-
  A part of the proof.
-/
set_option linter.unusedSimpArgs false
set_option linter.unusedVariables false
namespace Go.Mt
open Go Go.Pm Go.Proofs
theorem eachI_h (rows : List (List ZR)) (n : Nat) : HCall Tryz.prog 193 [.d (.sl (rws rows))] [] n (.fn 219 [.pr n 0 0 0]) [(n, .box [.d (.sl (rws rows))])] := by
  refine hcall_of (L := [n]) hmo Tryz.func193 rfl (by kernel_rfl) (by simp [Tryz.ntmps193]) (by simp -implicitDefEqProofs [go_sem]) (by simp -implicitDefEqProofs [go_sem]) ?_
  simp -implicitDefEqProofs [go_sem, Tryz.ntmps193]
theorem nrm_zero : nrm 0 = (false, []) := by unfold nrm; simp [limbs_zero]
theorem zl_gcds {l : List Int} {B : Nat} (hB : 0 < B) (h : ∀ z ∈ l, zl z < B) : zl (gcds l) < B := by
  have key : ∀ (l : List Int) (a : Int), zl a < B → (∀ z ∈ l, zl z < B) → zl (l.foldl gcdI a) < B := by
    intro l
    induction l with
    | nil => intro a ha _; exact ha
    | cons z l ih =>
      intro a ha hl
      refine ih _ ?_ (fun x hx => hl x (List.mem_cons_of_mem _ hx))
      have := zl_gcdI a z
      have := hl z (List.mem_cons_self ..)
      omega
  exact key l 0 (by show nl 0 < B; rw [nl_zero]; exact hB) h
theorem gcd2_p (a : Int) (p : ZR) (ha : zl a < 1099511627776) (hp : Rz p) : PCall Tryz.prog 175 [.d (.sl [[.v (.bool (nrm a).1), .sl (les (nrm a).2)], [.v (.bool p.1), .sl (les p.2)]])] (.one (.d (zd (nrm (gcdI a (ofR p)))))) := by
  have h := gcdl_p [nrm a, p] (by simp; exact ⟨rz ha, hp⟩) (by simp) (by simp)
  have e : gcds ([nrm a, p].map ofR) = gcdI a (ofR p) := by
    simp only [List.map_cons, List.map_nil, ofR_nrm]
    unfold gcds gcdI; simp [Int.gcd]
  rw [e] at h
  exact h
/-- the numbers that have come -/
def upTo (rows : List (List ZR)) (i : Nat) : List Int := ((rows.take i).flatten).map ofR
theorem upTo_zero (rows : List (List ZR)) : upTo rows 0 = [] := by simp [upTo]
theorem upTo_succ {rows : List (List ZR)} {i : Nat} (hi : i < rows.length) : upTo rows (i + 1) = upTo rows i ++ rows[i].map ofR := by
  unfold upTo
  rw [List.take_add_one, List.getElem?_eq_getElem hi, List.flatten_append, List.map_append]
  simp
def upIn (l : List Int) (r : List ZR) (j : Nat) : List Int := l ++ (r.take j).map ofR
theorem upIn_zero (l : List Int) (r : List ZR) : upIn l r 0 = l := by simp [upIn]
theorem gcds_step (l : List Int) (r : List ZR) {j : Nat} (hj : j < r.length) : gcds (upIn l r (j + 1)) = gcdI (gcds (upIn l r j)) (ofR r[j]) := by
  unfold upIn
  rw [List.take_add_one, List.getElem?_eq_getElem hj, List.map_append, ← List.append_assoc]
  exact gcds_snoc _ _
def ents (rows : List (List ZR)) : List Int := rows.flatten.map ofR
theorem upTo_all (rows : List (List ZR)) : upTo rows rows.length = ents rows := by unfold upTo ents; rw [List.take_length]
theorem ents_lt {rows : List (List ZR)} (h : Grw rows) : ∀ z ∈ ents rows, zl z < 1099511627776 := fun z hz => by
  obtain ⟨p, hp, rfl⟩ := List.mem_map.1 hz
  obtain ⟨r, hr, hp⟩ := List.mem_flatten.1 hp
  exact zl_lt (h.rz r hr p hp)
theorem upTo_lt {rows : List (List ZR)} (h : Grw rows) (i : Nat) : ∀ z ∈ upTo rows i, zl z < 1099511627776 := fun z hz => by
  obtain ⟨p, hp, rfl⟩ := List.mem_map.1 hz
  obtain ⟨r, hr, hp⟩ := List.mem_flatten.1 hp
  exact zl_lt (h.rz r (List.mem_of_mem_take hr) p hp)
def qrow (G : Int) (r : List ZR) : List ZR := r.map fun z => nrm (ofR z / G)
def qrows (G : Int) (rows : List (List ZR)) : List (List ZR) := rows.map (qrow G)
@[go_sem] theorem qrow_len (G : Int) (r : List ZR) : (qrow G r).length = r.length := by simp [qrow]
@[go_sem] theorem qrows_len (G : Int) (rows : List (List ZR)) : (qrows G rows).length = rows.length := by simp [qrows]
def mkD (D : Int) (rows : List (List ZR)) : Int := if colsOf rows = 0 then 1 else D / madeG D (ents rows)
/-- what made answers -/
def mkM (D : Int) (rows : List (List ZR)) : MR := (nrm (mkD D rows), qrows (madeG D (ents rows)) rows)
theorem madeG_ne {D : Int} (h0 : D ≠ 0) (l : List Int) : madeG D l ≠ 0 := by
  have := gcdI_pos (n := gcds l) h0
  unfold madeG; split <;> omega
theorem madeG_dvd (D : Int) (l : List Int) : madeG D l ∣ D ∧ ∀ z ∈ l, madeG D l ∣ z := by
  have h1 : gcdI (gcds l) D ∣ D := by unfold gcdI; exact Int.gcd_dvd_right ..
  have h2 : ∀ z ∈ l, gcdI (gcds l) D ∣ z := fun z hz => Int.dvd_trans (by unfold gcdI; exact Int.gcd_dvd_left ..) (gcds_dvd l z hz)
  unfold madeG
  split
  · exact ⟨Int.neg_dvd.2 h1, fun z hz => Int.neg_dvd.2 (h2 z hz)⟩
  · exact ⟨h1, h2⟩
set_option maxRecDepth 100000 in
set_option maxHeartbeats 4000000 in
theorem made_p (d : ZR) (rows : List (List ZR)) (hd : Rz d) (h0 : ofR d ≠ 0) (h : Grw rows) :
    PCall Tryz.prog 149 [.d (zd d), .d (.sl (rws rows))] (.one (.d (md (mkM (ofR d) rows)))) := by
  have hnr := h.nr
  have hgE : zl (gcds (ents rows)) < 1099511627776 := zl_gcds (by decide) (ents_lt h)
  have hg1 : zl (gcdI (gcds (ents rows)) (ofR d)) < 1099511627776 := by have := zl_gcdI (gcds (ents rows)) (ofR d); have := zl_lt hd; omega
  have hg2 : zl (madeG (ofR d) (ents rows)) < 1099511627776 := by
    unfold madeG; split
    · rw [zl_neg]; exact hg1
    · exact hg1
  refine pcallS_of Tryz.func149 rfl (by kernel_rfl) (by simp [Tryz.ntmps149]) ?_; rw [Tryz.ntmps149]
  refine .seq (.of_fn hmo ?_); simp -implicitDefEqProofs [go_sem]; (repeat refine And.intro (by first | decide +kernel | omega | kernel_rfl) ?_); (try decide +kernel)
  refine .seq (.of_fn hmo ?_); simp -implicitDefEqProofs [go_sem]; (repeat refine And.intro (by first | decide +kernel | omega | kernel_rfl) ?_); (try decide +kernel)
  refine .seq (.of_fn hmo ?_)
  simp -implicitDefEqProofs [go_sem]; (repeat refine And.intro (by first | decide +kernel | omega | kernel_rfl) ?_); (try decide +kernel)
  refine .inr ⟨[], _, _, eachI_h rows _, by simp -implicitDefEqProofs [go_sem], ?_⟩
  simp -implicitDefEqProofs [go_sem]; (repeat refine And.intro (by first | decide +kernel | omega | kernel_rfl) ?_); (try decide +kernel)
  refine ⟨_, rfl, by decide +kernel, ?_⟩
  simp -implicitDefEqProofs [go_sem]; (repeat refine And.intro (by first | decide +kernel | omega | kernel_rfl) ?_); (try decide +kernel)
  refine loop_rule [.nilB 8 1] (fun (i : Nat) => ⟨25, [(0, .yd), (7, .d (.sl (rws rows))), (8, intP .i64 (rows.length : Int)), (9, intP .i64 (i : Int))],
    [(8, .box [.d (.v (.bool (nrm (gcds (upTo rows i))).1)), .d (.sl (les (nrm (gcds (upTo rows i))).2))]), (4, .box [.d (.v (.bool false)), .nl, .nl]), (0, .box [.d (.v (.bool d.1)), .d (.sl (les d.2))])], 1000⟩)
    (fun i => i ≤ rows.length) (fun i => rows.length - i) 0 (Nat.zero_le _) (by simp) (by simp -implicitDefEqProofs [go_sem, upTo_zero, gcds, nrm_zero, les_nil]) (fun i hi => ?_)
  by_cases hil : i < rows.length
  · obtain ⟨row, hrow⟩ : ∃ row, row = rows[i] := ⟨_, rfl⟩
    have hrm : row ∈ rows := hrow ▸ List.getElem_mem hil
    have hrl := h.nc row hrm
    simp -implicitDefEqProofs [go_sem, hil]; (repeat refine And.intro (by first | decide +kernel | omega | kernel_rfl) ?_); (try decide +kernel)
    rw [← hrow]
    refine loop_rule [] (fun (j : Nat) => ⟨25, [(0, .yd), (7, .d (.sl (rws rows))), (8, intP .i64 (rows.length : Int)), (9, intP .i64 (i : Int)), (13, .d (.sl (zes row))), (14, intP .i64 (row.length : Int)), (15, intP .i64 (j : Int))],
      [(8, .box [.d (.v (.bool (nrm (gcds (upIn (upTo rows i) row j))).1)), .d (.sl (les (nrm (gcds (upIn (upTo rows i) row j))).2))]), (4, .box [.d (.v (.bool false)), .nl, .nl]), (0, .box [.d (.v (.bool d.1)), .d (.sl (les d.2))])], 2000⟩)
      (fun j => j ≤ row.length) (fun j => row.length - j) 0 (Nat.zero_le _) (by simp) (by simp -implicitDefEqProofs [go_sem, upIn_zero]) (fun j hj => ?_)
    by_cases hjl : j < row.length
    · have hg : zl (gcds (upIn (upTo rows i) row j)) < 1099511627776 := zl_gcds (by decide) (fun z hz => by
        rcases List.mem_append.1 hz with hz | hz
        · exact upTo_lt h i z hz
        · obtain ⟨p, hp, rfl⟩ := List.mem_map.1 hz
          exact zl_lt (h.rz row hrm p (List.mem_of_mem_take hp)))
      have hc := gcd2_p _ row[j] hg (h.rz row hrm _ (List.getElem_mem hjl))
      rw [← gcds_step (upTo rows i) row hjl] at hc
      simp -implicitDefEqProofs [go_sem, hjl]; (repeat refine And.intro (by first | decide +kernel | omega | kernel_rfl) ?_); (try decide +kernel)
      refine .inl ⟨_, hc, ?_⟩; simp -implicitDefEqProofs [go_sem]; (repeat refine And.intro (by first | decide +kernel | omega | kernel_rfl) ?_); (try decide +kernel)
      exact ⟨j + 1, by omega, by omega, by omega, rfl, rfl⟩
    · obtain rfl : j = row.length := by omega
      have e : upIn (upTo rows i) row row.length = upTo rows (i + 1) := by unfold upIn; rw [List.take_length, upTo_succ hil, hrow]
      rw [e]
      simp -implicitDefEqProofs [go_sem]; (repeat refine And.intro (by first | decide +kernel | omega | kernel_rfl) ?_); (try decide +kernel)
      exact ⟨i + 1, by omega, by omega, by omega, rfl, rfl⟩
  · obtain rfl : i = rows.length := by omega
    rw [upTo_all]
    simp -implicitDefEqProofs [go_sem]; (repeat refine And.intro (by first | decide +kernel | omega | kernel_rfl) ?_); (try decide +kernel)
    -- the divisor
    refine .cut ⟨83, [(1, .d (.sl (rws rows))), (2, .pr 0 0 0 0), (4, .pr 4 0 0 0), (5, .pr 8 0 0 0)], [(8, .box [.d (.v (.bool (nrm (gcdI (gcds (ents rows)) (ofR d))).1)), .d (.sl (les (nrm (gcdI (gcds (ents rows)) (ofR d))).2))]), (4, .box [.d (.v (.bool false)), .nl, .nl]), (0, .box [.d (.v (.bool d.1)), .d (.sl (les d.2))])], 3000⟩ (.of_fn hmo ?_) ?_
    · by_cases hz : gcds (ents rows) = 0
      · have hs := sign_n (gcds (ents rows)) hgE
        rw [hz] at hs
        have ha := abs_p d hd
        have e : ((ofR d).natAbs : Int) = gcdI (gcds (ents rows)) (ofR d) := by rw [hz]; unfold gcdI Int.gcd; simp
        rw [e, hz] at ha
        rw [hz]
        simp -implicitDefEqProofs [go_sem]; (repeat refine And.intro (by first | decide +kernel | omega | kernel_rfl) ?_); (try decide +kernel)
        refine .inl ⟨_, hs, ?_⟩; simp -implicitDefEqProofs [go_sem]; (repeat refine And.intro (by first | decide +kernel | omega | kernel_rfl) ?_); (try decide +kernel)
        refine .inl ⟨_, ha, ?_⟩; simp -implicitDefEqProofs [go_sem, cutK]; (repeat refine And.intro (by first | decide +kernel | omega | kernel_rfl) ?_); (try decide +kernel)
      · have hs := sign_n (gcds (ents rows)) hgE
        have hz' : ¬ (gcds (ents rows)).sign = 0 := fun h => hz (Int.sign_eq_zero_iff_zero.1 h)
        have hc := gcd2_p _ d hgE hd
        simp -implicitDefEqProofs [go_sem]; (repeat refine And.intro (by first | decide +kernel | omega | kernel_rfl) ?_); (try decide +kernel)
        refine .inl ⟨_, hs, ?_⟩; simp -implicitDefEqProofs [go_sem, hz, hz']; (repeat refine And.intro (by first | decide +kernel | omega | kernel_rfl) ?_); (try decide +kernel)
        refine .inl ⟨_, hc, ?_⟩; simp -implicitDefEqProofs [go_sem, cutK]; (repeat refine And.intro (by first | decide +kernel | omega | kernel_rfl) ?_); (try decide +kernel)
    refine .cut ⟨83, [(1, .d (.sl (rws rows))), (2, .pr 0 0 0 0), (4, .pr 4 0 0 0), (5, .pr 8 0 0 0)], [(8, .box [.d (.v (.bool (nrm (madeG (ofR d) (ents rows))).1)), .d (.sl (les (nrm (madeG (ofR d) (ents rows))).2))]), (4, .box [.d (.v (.bool false)), .nl, .nl]), (0, .box [.d (.v (.bool d.1)), .d (.sl (les d.2))])], 4000⟩ (.of_fn hmo ?_) ?_
    · by_cases hlt : ofR d < 0
      · have hs : (ofR d).sign < 0 := by rw [Int.sign_eq_neg_one_of_neg hlt]; decide
        have hc := neg_n _ hg1
        have e : -(gcdI (gcds (ents rows)) (ofR d)) = madeG (ofR d) (ents rows) := by unfold madeG; rw [if_pos hlt]
        rw [e] at hc
        simp -implicitDefEqProofs [go_sem]; (repeat refine And.intro (by first | decide +kernel | omega | kernel_rfl) ?_); (try decide +kernel)
        refine .inl ⟨_, sign_p d hd, ?_⟩; simp -implicitDefEqProofs [go_sem, hlt, hs]; (repeat refine And.intro (by first | decide +kernel | omega | kernel_rfl) ?_); (try decide +kernel)
        refine .inl ⟨_, hc, ?_⟩; simp -implicitDefEqProofs [go_sem, cutK]; (repeat refine And.intro (by first | decide +kernel | omega | kernel_rfl) ?_); (try decide +kernel)
      · have hs : ¬ (ofR d).sign < 0 := by rw [Int.sign_eq_one_of_pos (by omega)]; decide
        have e : gcdI (gcds (ents rows)) (ofR d) = madeG (ofR d) (ents rows) := by unfold madeG; rw [if_neg hlt]
        rw [e]
        simp -implicitDefEqProofs [go_sem]; (repeat refine And.intro (by first | decide +kernel | omega | kernel_rfl) ?_); (try decide +kernel)
        refine .inl ⟨_, sign_p d hd, ?_⟩; simp -implicitDefEqProofs [go_sem, hlt, hs, cutK]; (repeat refine And.intro (by first | decide +kernel | omega | kernel_rfl) ?_); (try decide +kernel)
    have he := exact_p d (nrm (madeG (ofR d) (ents rows))) hd (rz hg2) (by rw [ofR_nrm]; exact madeG_ne h0 _) (by rw [ofR_nrm]; exact (madeG_dvd _ _).1)
    rw [ofR_nrm] at he
    refine .seq (.of_fn hmo ?_); simp -implicitDefEqProofs [go_sem]; (repeat refine And.intro (by first | decide +kernel | omega | kernel_rfl) ?_); (try decide +kernel)
    refine .seq (.of_fn hmo ?_); simp -implicitDefEqProofs [go_sem]; (repeat refine And.intro (by first | decide +kernel | omega | kernel_rfl) ?_); (try decide +kernel)
    refine .inl ⟨_, he, ?_⟩; simp -implicitDefEqProofs [go_sem]; (repeat refine And.intro (by first | decide +kernel | omega | kernel_rfl) ?_); (try decide +kernel)
    refine .cut ⟨83, [(1, .d (.sl (rws rows))), (2, .pr 0 0 0 0), (4, .pr 4 0 0 0), (5, .pr 8 0 0 0), (7, .pr 4004 0 0 0)], [(4004, .box [.d (.v (.bool (nrm (mkD (ofR d) rows)).1)), .d (.sl (les (nrm (mkD (ofR d) rows)).2)), .nl]), (8, .box [.d (.v (.bool (nrm (madeG (ofR d) (ents rows))).1)), .d (.sl (les (nrm (madeG (ofR d) (ents rows))).2))]), (4, .box [.d (.v (.bool false)), .nl, .nl]), (0, .box [.d (.v (.bool d.1)), .d (.sl (les d.2))])], 6000⟩ (.of_fn hmo ?_) ?_
    · have hcol := cols_p rows h
      by_cases hc0 : colsOf rows = 0
      · have e : mkD (ofR d) rows = 1 := by unfold mkD; rw [if_pos hc0]
        rw [e]
        rw [hc0] at hcol
        simp -implicitDefEqProofs [go_sem]; (repeat refine And.intro (by first | decide +kernel | omega | kernel_rfl) ?_); (try decide +kernel)
        refine .inl ⟨_, hcol, ?_⟩; simp -implicitDefEqProofs [go_sem]; (repeat refine And.intro (by first | decide +kernel | omega | kernel_rfl) ?_); (try decide +kernel)
        refine .inl ⟨_, of_p 1 (by decide) (by decide), ?_⟩; simp -implicitDefEqProofs [go_sem, cutK]; (repeat refine And.intro (by first | decide +kernel | omega | kernel_rfl) ?_); (try decide +kernel)
      · have e : mkD (ofR d) rows = ofR d / madeG (ofR d) (ents rows) := by unfold mkD; rw [if_neg hc0]
        have hc1 : ¬ ((colsOf rows : Nat) : Int) = 0 := by omega
        rw [e]
        simp -implicitDefEqProofs [go_sem]; (repeat refine And.intro (by first | decide +kernel | omega | kernel_rfl) ?_); (try decide +kernel)
        refine .inl ⟨_, hcol, ?_⟩; simp -implicitDefEqProofs [go_sem, hc0, hc1, cutK]; (repeat refine And.intro (by first | decide +kernel | omega | kernel_rfl) ?_); (try decide +kernel)
    have e1 : (mkM (ofR d) rows).1 = nrm (mkD (ofR d) rows) := rfl
    have e2 : (mkM (ofR d) rows).2 = qrows (madeG (ofR d) (ents rows)) rows := rfl
    rw [e1, e2]
    generalize mkD (ofR d) rows = dn
    have hdv := (madeG_dvd (ofR d) (ents rows)).2
    have hGn := madeG_ne h0 (ents rows)
    obtain ⟨G, hG⟩ : ∃ G, G = madeG (ofR d) (ents rows) := ⟨_, rfl⟩
    rw [← hG] at hdv hGn hg2
    rw [← hG]
    refine .seq (.of_fn hmo ?_)
    simp -implicitDefEqProofs [go_sem]; (repeat refine And.intro (by first | decide +kernel | omega | kernel_rfl) ?_); (try decide +kernel)
    refine loop_rule [.arrB 4004 2 27 1] (fun (i : Nat) => ⟨83, [(2, .pr 0 0 0 0), (4, .pr 4 0 0 0), (5, .pr 8 0 0 0), (7, .pr 4004 0 0 0), (49, .d (.sl (rws rows))), (50, intP .i64 (rows.length : Int)), (51, intP .i64 (i : Int))],
      [(4004, .box [.d (.v (.bool (nrm dn).1)), .d (.sl (les (nrm dn).2)), .sr 6012 i]), (6012, .arr ⟨27, 1, i, false, rws ((qrows G rows).take i)⟩), (8, .box [.d (.v (.bool (nrm G).1)), .d (.sl (les (nrm G).2))]), (4, .box [.d (.v (.bool false)), .nl, .nl]), (0, .box [.d (.v (.bool d.1)), .d (.sl (les d.2))])], 7000⟩)
      (fun i => i ≤ rows.length) (fun i => rows.length - i) 0 (Nat.zero_le _) (by simp) (by simp -implicitDefEqProofs [go_sem, rws]) (fun i hi => ?_)
    by_cases hil : i < rows.length
    · obtain ⟨row, hrow⟩ : ∃ row, row = rows[i] := ⟨_, rfl⟩
      have hrm : row ∈ rows := hrow ▸ List.getElem_mem hil
      have hrl := h.nc row hrm
      have hrl2 : rows[i].length < 549755813888 := hrow ▸ hrl
      simp -implicitDefEqProofs [go_sem, hil]; (repeat refine And.intro (by first | decide +kernel | omega | kernel_rfl) ?_); (try decide +kernel)
      rw [← hrow]
      refine loop_rule [] (fun (j : Nat) => ⟨83, [(2, .pr 0 0 0 0), (4, .pr 4 0 0 0), (5, .pr 8 0 0 0), (7, .pr 4004 0 0 0), (10, .sr 7024 j), (49, .d (.sl (rws rows))), (50, intP .i64 (rows.length : Int)), (51, intP .i64 (i : Int)), (58, .d (.sl (zes row))), (59, intP .i64 (row.length : Int)), (60, intP .i64 (j : Int))],
        [(7024, .arr ⟨26, 2, j, false, zes ((qrow G row).take j)⟩), (4004, .box [.d (.v (.bool (nrm dn).1)), .d (.sl (les (nrm dn).2)), .sr 6012 i]), (6012, .arr ⟨27, 1, i, false, rws ((qrows G rows).take i)⟩), (8, .box [.d (.v (.bool (nrm G).1)), .d (.sl (les (nrm G).2))]), (4, .box [.d (.v (.bool false)), .nl, .nl]), (0, .box [.d (.v (.bool d.1)), .d (.sl (les d.2))])], 8000⟩)
        (fun j => j ≤ row.length) (fun j => row.length - j) 0 (Nat.zero_le _) (by simp) (by simp -implicitDefEqProofs [go_sem, zes]) (fun j hj => ?_)
      by_cases hjl : j < row.length
      · have hx := h.rz row hrm _ (List.getElem_mem hjl)
        have he := exact_p row[j] (nrm G) hx (rz hg2) (by rw [ofR_nrm]; exact hGn) (by rw [ofR_nrm]; exact hdv _ (List.mem_map.2 ⟨_, List.mem_flatten.2 ⟨row, hrm, List.getElem_mem hjl⟩, rfl⟩))
        rw [ofR_nrm] at he
        simp -implicitDefEqProofs [go_sem, hjl]; (repeat refine And.intro (by first | decide +kernel | omega | kernel_rfl) ?_); (try decide +kernel)
        refine .inl ⟨_, he, ?_⟩; simp -implicitDefEqProofs [go_sem]; (repeat refine And.intro (by first | decide +kernel | omega | kernel_rfl) ?_); (try decide +kernel)
        exact ⟨j + 1, by omega, by omega, ⟨rfl, by omega⟩, rfl, take_snoc zel (qrow G row) (by rw [qrow_len]; exact hjl) (by simp [zel, qrow])⟩
      · obtain rfl : j = row.length := by omega
        have e : (qrow G row).take row.length = qrow G row := List.take_of_length_le (by rw [qrow_len]; exact Nat.le_refl _)
        rw [e]
        simp -implicitDefEqProofs [go_sem]; (repeat refine And.intro (by first | decide +kernel | omega | kernel_rfl) ?_); (try decide +kernel)
        exact ⟨i + 1, by omega, by omega, by omega, rfl, take_snoc rel (qrows G rows) (by rw [qrows_len]; exact hil) (by simp [rel, qrows, hrow])⟩
    · obtain rfl : i = rows.length := by omega
      have e : (qrows G rows).take rows.length = qrows G rows := List.take_of_length_le (by rw [qrows_len]; exact Nat.le_refl _)
      rw [e]
      simp -implicitDefEqProofs [go_sem]; (repeat refine And.intro (by first | decide +kernel | omega | kernel_rfl) ?_); (try decide +kernel)
      refine .seq (.of_fn hmo ?_); simp -implicitDefEqProofs [go_sem]; (repeat refine And.intro (by first | decide +kernel | omega | kernel_rfl) ?_); (try decide +kernel)
      refine .of_fn hmo ?_
      simp -implicitDefEqProofs [go_sem]; (repeat refine And.intro (by first | decide +kernel | omega | kernel_rfl) ?_); (try decide +kernel)
end Go.Mt
/-
  A part of the proof.
-/
set_option linter.unusedSimpArgs false
set_option linter.unusedVariables false
namespace Go.Mt
open Go Go.Pm Go.Proofs
def zrow (f : Nat → Nat → Int) (c i : Nat) : List ZR := (List.range c).map fun k => nrm (f i k)
def ztab (f : Nat → Nat → Int) (r c : Nat) : List (List ZR) := (List.range r).map (zrow f c)
@[go_sem] theorem zrow_len (f : Nat → Nat → Int) (c i : Nat) : (zrow f c i).length = c := by simp [zrow]
@[go_sem] theorem ztab_len (f : Nat → Nat → Int) (r c : Nat) : (ztab f r c).length = r := by simp [ztab]
theorem zrow_get (f : Nat → Nat → Int) (c i : Nat) {k : Nat} (hk : k < (zrow f c i).length) : (zrow f c i)[k] = nrm (f i k) := by simp [zrow]
theorem ztab_get (f : Nat → Nat → Int) (r c : Nat) {i : Nat} (hi : i < (ztab f r c).length) : (ztab f r c)[i] = zrow f c i := by simp [ztab]
/-- the numbers of rows -/
def zz (rows : List (List ZR)) : List (List Int) := rows.map fun r => r.map ofR
theorem ents_zz (rows : List (List ZR)) : ents rows = (zz rows).flatten := by unfold ents zz; rw [List.map_flatten]
theorem zz_cols (rows : List (List ZR)) : colsOf (zz rows) = colsOf rows := by cases rows <;> simp [zz, colsOf]
theorem zz_tab (f : Nat → Nat → Int) (r c : Nat) : zz (ztab f r c) = tableZ f r c := by
  unfold zz ztab tableZ zrow
  simp [Function.comp_def, ofR_nrm]
theorem zl_sumZ {n K : Nat} {f : Nat → Int} (h : ∀ j, j < n → zl (f j) ≤ K) (hn : n < 18446744073709551616) : zl (sumZ n f) ≤ K + 2 := by
  have key : ∀ m, m ≤ n → (sumZ m f).natAbs ≤ m * 4294967296 ^ K := by
    intro m
    induction m with
    | zero => intro _; show (0 : Int).natAbs ≤ _; omega
    | succ m ih =>
      intro hm
      have h1 := ih (by omega)
      have h2 : (f m).natAbs < 4294967296 ^ K := Nat.lt_of_lt_of_le (lt_pow_nl _) (Nat.pow_le_pow_right (by decide) (h m (by omega)))
      have h3 : (sumZ m f + f m).natAbs ≤ (sumZ m f).natAbs + (f m).natAbs := Int.natAbs_add_le _ _
      show (sumZ m f + f m).natAbs ≤ _
      rw [Nat.add_mul, Nat.one_mul]
      omega
  refine nl_le_of_lt (Nat.lt_of_le_of_lt (key n (Nat.le_refl _)) ?_)
  rw [Nat.pow_add, Nat.mul_comm]
  exact Nat.mul_lt_mul_of_pos_left (show n < 4294967296 ^ 2 from hn) (Nat.pow_pos (by decide))
/-- rows of one length whose numbers are bounded -/
structure Gm (K : Nat) (m : MR) : Prop where
  d : Rz m.1
  ne : ofR m.1 ≠ 0
  g : Grw m.2
  ev : evenB m.2 = true
  k : ∀ r ∈ m.2, ∀ z ∈ r, zl (ofR z) ≤ K
  kd : zl (ofR m.1) ≤ K
theorem even_row {rows : List (List ZR)} (h : evenB rows = true) {r : List ZR} (hr : r ∈ rows) : r.length = colsOf rows := by
  unfold evenB at h
  rw [List.all_eq_true] at h
  exact of_decide_eq_true (h r hr)
theorem Gm.row {K : Nat} {m : MR} (h : Gm K m) {i : Nat} (hi : i < m.2.length) : m.2[i].length = colsOf m.2 := even_row h.ev (List.getElem_mem hi)
end Go.Mt
