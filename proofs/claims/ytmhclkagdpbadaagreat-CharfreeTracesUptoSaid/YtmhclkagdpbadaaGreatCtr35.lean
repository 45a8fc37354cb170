/-
  A part of the proof.
-/
import Derived.Test.YtmhclkagdpbadaaGreatCtr28
import Derived.Test.YtmhclkagdpbadaaGreatCtr29
set_option linter.unusedVariables false
set_option linter.unusedSimpArgs false
set_option linter.unusedSimpArgs false
set_option linter.unusedVariables false
namespace Go.Mt
open Go Go.Pm Go.Proofs
theorem norm_p (x : QR) (h : Rq x) (h0 : ofR x.2 ≠ 0) : PCall Tryz.prog 232 [.d (qd x)] (.tup [.d (qd (nq (ofQ x))), .d (.v (.int .i64 0))]) := by
  refine pcall_of hmo Tryz.func232 rfl (by kernel_rfl) (by simp [Tryz.ntmps232]) ?_; simp -implicitDefEqProofs [go_sem, Tryz.ntmps232]; (repeat refine And.intro (by first | decide +kernel | omega | kernel_rfl) ?_); (try decide +kernel)
  refine .inl ⟨_, make_p x.1 x.2 h.1 h.2 h0, ?_⟩; simp -implicitDefEqProofs [go_sem]; (repeat refine And.intro (by first | decide +kernel | omega | kernel_rfl) ?_); (try decide +kernel)
  rfl
theorem norm_e (x : QR) (h : Rq x) (h0 : ofR x.2 = 0) : PCall Tryz.prog 232 [.d (qd x)] (.tup [.d qE, .d (.v (.int .i64 6))]) := by
  refine pcall_of hmo Tryz.func232 rfl (by kernel_rfl) (by simp [Tryz.ntmps232]) ?_; simp -implicitDefEqProofs [go_sem, Tryz.ntmps232]; (repeat refine And.intro (by first | decide +kernel | omega | kernel_rfl) ?_); (try decide +kernel)
  refine .inl ⟨_, make_e x.1 x.2 h.1 h.2 h0, ?_⟩; simp -implicitDefEqProofs [go_sem]; (repeat refine And.intro (by first | decide +kernel | omega | kernel_rfl) ?_); (try decide +kernel)
theorem qof_p (z : Int) (h1 : -9223372036854775808 ≤ z) (h2 : z ≤ 9223372036854775807) : PCall Tryz.prog 172 [.d (.v (.int .i64 z))] (.one (.d (qd (nq (z : Rat))))) := by
  refine pcall_of hmo Tryz.func172 rfl (by kernel_rfl) (by simp [Tryz.ntmps172]) ?_; simp -implicitDefEqProofs [go_sem, Tryz.ntmps172]; (repeat refine And.intro (by first | decide +kernel | omega | kernel_rfl) ?_); (try decide +kernel)
  refine .inl ⟨_, of_p z h1 h2, ?_⟩; simp -implicitDefEqProofs [go_sem]; (repeat refine And.intro (by first | decide +kernel | omega | kernel_rfl) ?_); (try decide +kernel)
  refine .inl ⟨_, of_p 1 (by decide) (by decide), ?_⟩; simp -implicitDefEqProofs [go_sem]; (repeat refine And.intro (by first | decide +kernel | omega | kernel_rfl) ?_); (try decide +kernel)
theorem madeR_p {g : FuncId} {x : QR} {e : Int} (l : List QR) (hl : ∀ q ∈ l, Rq q ∧ ofR q.2 ≠ 0) (hn : l.length < 549755813888) (hg : PCall Tryz.prog g [.d (.sl (qes (l.map fun q => nq (ofQ q))))] (.tup [.d (qd x), .d (.v (.int .i64 e))])) :
    PCall Tryz.prog 208 [.fn g [], .d (.sl (qes l))] (.tup [.d (qd x), .d (.v (.int .i64 e))]) := by
  refine pcall_of hmo Tryz.func208 rfl (by kernel_rfl) (by simp [Tryz.ntmps208]) ?_; simp -implicitDefEqProofs [go_sem, Tryz.ntmps208]; (repeat refine And.intro (by first | decide +kernel | omega | kernel_rfl) ?_); (try decide +kernel)
  refine loop_rule [] (fun (k : Nat) => ⟨40, [(0, .fn g []), (4, .pr 0 0 0 0), (5, intP .i64 0), (6, .pr 8 0 0 0), (7, .sr 20 k), (15, .d (.sl (qes l))), (16, intP .i64 (l.length : Int)), (17, intP .i64 (k : Int))],
    [(20, .arr ⟨72, 4, k, false, qes ((l.take k).map fun q => nq (ofQ q))⟩), (8, .box [.d (.v (.bool false)), .nl, .d (.v (.bool false)), .nl]), (0, .box [.d (.v (.bool false)), .nl, .d (.v (.bool false)), .nl])], 1000⟩)
    (fun k => k ≤ l.length) (fun k => l.length - k) 0 (Nat.zero_le _) (by simp) (by simp -implicitDefEqProofs [go_sem, qes]) (fun k hk => ?_)
  by_cases hkl : k < l.length
  · obtain ⟨h1, h2⟩ := hl l[k] (List.getElem_mem hkl)
    have hcn := norm_p l[k] h1 h2
    simp -implicitDefEqProofs [go_sem, hkl]; (repeat refine And.intro (by first | decide +kernel | omega | kernel_rfl) ?_); (try decide +kernel)
    refine .inl ⟨_, hcn, ?_⟩; simp -implicitDefEqProofs [go_sem]; (repeat refine And.intro (by first | decide +kernel | omega | kernel_rfl) ?_); (try decide +kernel)
    refine ⟨k + 1, by omega, by omega, ⟨rfl, by omega⟩, rfl, ?_⟩
    exact take_snoc qel (l.map fun q => nq (ofQ q)) (by simpa using hkl) (by simp [qel, nq_1, nq_2])
  · obtain rfl : k = l.length := by omega
    rw [List.take_length]
    simp -implicitDefEqProofs [go_sem]; (repeat refine And.intro (by first | decide +kernel | omega | kernel_rfl) ?_); (try decide +kernel)
    refine .inl ⟨_, hg, ?_⟩; simp -implicitDefEqProofs [go_sem]; (repeat refine And.intro (by first | decide +kernel | omega | kernel_rfl) ?_); (try decide +kernel)
theorem madeI_p {g : FuncId} {x : Int} {e : Int} (l : List QR) (hl : ∀ q ∈ l, Rq q ∧ ofR q.2 ≠ 0) (hn : l.length < 549755813888) (hg : PCall Tryz.prog g [.d (.sl (qes (l.map fun q => nq (ofQ q))))] (.tup [.d (.v (.int .i64 x)), .d (.v (.int .i64 e))])) :
    PCall Tryz.prog 199 [.fn g [], .d (.sl (qes l))] (.tup [.d (.v (.int .i64 x)), .d (.v (.int .i64 e))]) := by
  refine pcall_of hmo Tryz.func199 rfl (by kernel_rfl) (by simp [Tryz.ntmps199]) ?_; simp -implicitDefEqProofs [go_sem, Tryz.ntmps199]; (repeat refine And.intro (by first | decide +kernel | omega | kernel_rfl) ?_); (try decide +kernel)
  refine loop_rule [] (fun (k : Nat) => ⟨40, [(0, .fn g []), (4, intP .i64 0), (5, intP .i64 0), (6, intP .i64 0), (7, .sr 20 k), (15, .d (.sl (qes l))), (16, intP .i64 (l.length : Int)), (17, intP .i64 (k : Int))],
    [(20, .arr ⟨72, 4, k, false, qes ((l.take k).map fun q => nq (ofQ q))⟩)], 1000⟩)
    (fun k => k ≤ l.length) (fun k => l.length - k) 0 (Nat.zero_le _) (by simp) (by simp -implicitDefEqProofs [go_sem, qes]) (fun k hk => ?_)
  by_cases hkl : k < l.length
  · obtain ⟨h1, h2⟩ := hl l[k] (List.getElem_mem hkl)
    have hcn := norm_p l[k] h1 h2
    simp -implicitDefEqProofs [go_sem, hkl]; (repeat refine And.intro (by first | decide +kernel | omega | kernel_rfl) ?_); (try decide +kernel)
    refine .inl ⟨_, hcn, ?_⟩; simp -implicitDefEqProofs [go_sem]; (repeat refine And.intro (by first | decide +kernel | omega | kernel_rfl) ?_); (try decide +kernel)
    refine ⟨k + 1, by omega, by omega, ⟨rfl, by omega⟩, rfl, ?_⟩
    exact take_snoc qel (l.map fun q => nq (ofQ q)) (by simpa using hkl) (by simp [qel, nq_1, nq_2])
  · obtain rfl : k = l.length := by omega
    rw [List.take_length]
    simp -implicitDefEqProofs [go_sem]; (repeat refine And.intro (by first | decide +kernel | omega | kernel_rfl) ?_); (try decide +kernel)
    refine .inl ⟨_, hg, ?_⟩; simp -implicitDefEqProofs [go_sem]; (repeat refine And.intro (by first | decide +kernel | omega | kernel_rfl) ?_); (try decide +kernel)
def goodQ (l : List QR) : Prop := ∀ q ∈ l, ofR q.2 ≠ 0
/-- a denominator with numerators -/
def cmd (p : ZR) (l : List ZR) : D := .agg [.v (.bool p.1), .sl (les p.2), .sl (zes l)]
attribute [go_sem] cmd
theorem madeI_e {g : FuncId} (l : List QR) (hl : ∀ q ∈ l, Rq q) (hb : ∃ q ∈ l, ofR q.2 = 0) (hn : l.length < 549755813888) :
    PCall Tryz.prog 199 [.fn g [], .d (.sl (qes l))] (.tup [.d (.v (.int .i64 0)), .d (.v (.int .i64 6))]) := by
  refine pcall_of hmo Tryz.func199 rfl (by kernel_rfl) (by simp [Tryz.ntmps199]) ?_; simp -implicitDefEqProofs [go_sem, Tryz.ntmps199]; (repeat refine And.intro (by first | decide +kernel | omega | kernel_rfl) ?_); (try decide +kernel)
  refine loop_rule [] (fun (k : Nat) => ⟨40, [(0, .fn g []), (4, intP .i64 0), (5, intP .i64 0), (6, intP .i64 0), (7, .sr 20 k), (15, .d (.sl (qes l))), (16, intP .i64 (l.length : Int)), (17, intP .i64 (k : Int))],
    [(20, .arr ⟨72, 4, k, false, qes ((l.take k).map fun q => nq (ofQ q))⟩)], 1000⟩)
    (fun k => k ≤ l.length ∧ goodQ (l.take k)) (fun k => l.length - k) 0 ⟨Nat.zero_le _, by simp [goodQ]⟩ (by simp) (by simp -implicitDefEqProofs [go_sem, qes]) (fun k ⟨hk, hgood⟩ => ?_)
  by_cases hkl : k < l.length
  · have h1 := hl l[k] (List.getElem_mem hkl)
    by_cases h2 : ofR l[k].2 = 0
    · have hcn := norm_e l[k] h1 h2
      simp -implicitDefEqProofs [go_sem, hkl]; (repeat refine And.intro (by first | decide +kernel | omega | kernel_rfl) ?_); (try decide +kernel)
      refine .inl ⟨_, hcn, ?_⟩; simp -implicitDefEqProofs [go_sem]; (repeat refine And.intro (by first | decide +kernel | omega | kernel_rfl) ?_); (try decide +kernel)
    · have hcn := norm_p l[k] h1 h2
      simp -implicitDefEqProofs [go_sem, hkl]; (repeat refine And.intro (by first | decide +kernel | omega | kernel_rfl) ?_); (try decide +kernel)
      refine .inl ⟨_, hcn, ?_⟩; simp -implicitDefEqProofs [go_sem]; (repeat refine And.intro (by first | decide +kernel | omega | kernel_rfl) ?_); (try decide +kernel)
      refine ⟨k + 1, ⟨by omega, fun q hq => ?_⟩, by omega, ⟨rfl, by omega⟩, rfl, ?_⟩
      · rw [List.take_add_one, List.getElem?_eq_getElem hkl] at hq
        rcases List.mem_append.1 hq with h | h
        · exact hgood q h
        · simp at h; subst h; exact h2
      · exact take_snoc qel (l.map fun q => nq (ofQ q)) (by simpa using hkl) (by simp [qel, nq_1, nq_2])
  · obtain rfl : k = l.length := by omega
    rw [List.take_length] at hgood
    obtain ⟨q, hq1, hq2⟩ := hb
    exact absurd hq2 (hgood q hq1)
end Go.Mt
/-
  A part of the proof.
-/
set_option linter.unusedSimpArgs false
set_option linter.unusedVariables false
namespace Go.Mt
open Go Go.Pm Go.Proofs
theorem zl_nat (n : Nat) : zl (n : Int) = nl n := by unfold zl; rw [Int.natAbs_natCast]
end Go.Mt
/-
  A part of the proof.
-/
set_option linter.unusedSimpArgs false
set_option linter.unusedVariables false
namespace Go.Mt
open Go Go.Pm Go.Proofs
/-- the most bits of a fraction; of many -/
def qh (q : Rat) : Nat := max (blen q.num.natAbs) (blen q.den)
def qhs (qs : List Rat) : Nat := qs.foldl (fun n q => max n (qh q)) 0
theorem qhs_snoc (qs : List Rat) {k : Nat} (hk : k < qs.length) : qhs (qs.take (k + 1)) = max (qhs (qs.take k)) (qh qs[k]) := by
  unfold qhs
  rw [List.take_add_one, List.getElem?_eq_getElem hk, List.foldl_append]; rfl
theorem height1_p (qs : List Rat) (hq : ∀ q ∈ qs, ql q < 549755813888) (hn : qs.length < 549755813888) :
    PCall Tryz.prog 200 [.d (.sl (qes (qs.map nq)))] (.tup [.d (.v (.int .i64 (qhs qs : Int))), .d (.v (.int .i64 0))]) := by
  refine pcall_of hmo Tryz.func200 rfl (by kernel_rfl) (by simp [Tryz.ntmps200]) ?_; simp -implicitDefEqProofs [go_sem, Tryz.ntmps200]; (repeat refine And.intro (by first | decide +kernel | omega | kernel_rfl) ?_); (try decide +kernel)
  refine loop_rule [] (fun (k : Nat) => ⟨25, [(2, intP .i64 0), (3, intP .i64 0), (4, intP .i64 (qhs (qs.take k) : Int)), (7, .d (.sl (qes (qs.map nq)))), (8, intP .i64 (qs.length : Int)), (9, intP .i64 (k : Int))], [], 1000⟩)
    (fun k => k ≤ qs.length) (fun k => qs.length - k) 0 (Nat.zero_le _) (by simp) (by simp -implicitDefEqProofs [go_sem, qhs]) (fun k hk => ?_)
  by_cases hkl : k < qs.length
  · have hqk := hq qs[k] (List.getElem_mem hkl)
    have hd1 : nl qs[k].den < 549755813888 := Nat.lt_of_le_of_lt (Nat.le_max_right _ _) hqk
    have hd2 : nl qs[k].num.natAbs < 549755813888 := Nat.lt_of_le_of_lt (Nat.le_max_left _ _) hqk
    have r1 := rz (z := qs[k].num) (by show nl _ < _; omega)
    have r2 := rz (z := (qs[k].den : Int)) (by rw [zl_nat]; omega)
    have h1 := len_ok (nrm qs[k].num).2 r1.1 r1.2
    have h2 := len_ok (nrm (qs[k].den : Int)).2 r2.1 r2.2
    have e1 : val (nrm qs[k].num).2 = qs[k].num.natAbs := val_limbs _
    have e2 : val (nrm (qs[k].den : Int)).2 = qs[k].den := by show val (limbs _) = _; rw [val_limbs, Int.natAbs_natCast]
    rw [e1] at h1
    rw [e2] at h2
    simp -implicitDefEqProofs [go_sem, hkl]; (repeat refine And.intro (by first | decide +kernel | omega | kernel_rfl) ?_); (try decide +kernel)
    refine .inl ⟨_, h1, ?_⟩; simp -implicitDefEqProofs [go_sem]; (repeat refine And.intro (by first | decide +kernel | omega | kernel_rfl) ?_); (try decide +kernel)
    refine .inl ⟨_, h2, ?_⟩; simp -implicitDefEqProofs [go_sem]; (repeat refine And.intro (by first | decide +kernel | omega | kernel_rfl) ?_); (try decide +kernel)
    refine ⟨k + 1, by omega, by omega, ?_, by omega⟩
    rw [qhs_snoc qs hkl]
    unfold qh
    split <;> split <;> omega
  · obtain rfl : k = qs.length := by omega
    rw [List.take_length]
    simp -implicitDefEqProofs [go_sem]; (repeat refine And.intro (by first | decide +kernel | omega | kernel_rfl) ?_); (try decide +kernel)
theorem height_p (l : List QR) (hl : ∀ q ∈ l, Rq q ∧ ofR q.2 ≠ 0) (hn : l.length < 549755813888) (hb : ∀ q ∈ l, ql (ofQ q) < 549755813888) :
    PCall Tryz.prog 123 [.d (.sl (qes l))] (.tup [.d (.v (.int .i64 (qhs (l.map ofQ) : Int))), .d (.v (.int .i64 0))]) := by
  have h1 := height1_p (l.map ofQ) (fun q hq => by obtain ⟨x, hx, rfl⟩ := List.mem_map.1 hq; exact hb x hx) (by simpa using hn)
  rw [List.map_map] at h1
  have hm := madeI_p l hl hn h1
  refine pcall_of hmo Tryz.func123 rfl (by kernel_rfl) (by simp [Tryz.ntmps123]) ?_; simp -implicitDefEqProofs [go_sem, Tryz.ntmps123]; (repeat refine And.intro (by first | decide +kernel | omega | kernel_rfl) ?_); (try decide +kernel)
  refine .inl ⟨_, hm, ?_⟩; simp -implicitDefEqProofs [go_sem]; (repeat refine And.intro (by first | decide +kernel | omega | kernel_rfl) ?_); (try decide +kernel)
theorem height_e (l : List QR) (hl : ∀ q ∈ l, Rq q) (hb : ∃ q ∈ l, ofR q.2 = 0) (hn : l.length < 549755813888) :
    PCall Tryz.prog 123 [.d (.sl (qes l))] (.tup [.d (.v (.int .i64 0)), .d (.v (.int .i64 6))]) := by
  have hm := madeI_e (g := 200) l hl hb hn
  refine pcall_of hmo Tryz.func123 rfl (by kernel_rfl) (by simp [Tryz.ntmps123]) ?_; simp -implicitDefEqProofs [go_sem, Tryz.ntmps123]; (repeat refine And.intro (by first | decide +kernel | omega | kernel_rfl) ?_); (try decide +kernel)
  refine .inl ⟨_, hm, ?_⟩; simp -implicitDefEqProofs [go_sem]; (repeat refine And.intro (by first | decide +kernel | omega | kernel_rfl) ?_); (try decide +kernel)
end Go.Mt
/-
  A part of the proof.
-/
set_option linter.unusedSimpArgs false
set_option linter.unusedVariables false
namespace Go.Mt
open Go Go.Pm Go.Proofs
theorem ql_num (q : Rat) : zl q.num ≤ ql q := Nat.le_max_left _ _
theorem ql_den (q : Rat) : zl (q.den : Int) ≤ ql q := by rw [zl_nat]; exact Nat.le_max_right _ _
theorem zl_mul (a b : Int) : zl (a * b) ≤ zl a + zl b := by unfold zl; rw [Int.natAbs_mul]; exact nl_mul _ _
theorem zl_add (a b : Int) : zl (a + b) ≤ max (zl a) (zl b) + 1 := by
  unfold zl
  exact Nat.le_trans (nl_mono (Int.natAbs_add_le a b)) (nl_add _ _)
theorem zl_neg (a : Int) : zl (-a) = zl a := by unfold zl; rw [Int.natAbs_neg]
theorem rat_add (a b : Rat) : ratv (a.num * (b.den : Int) + b.num * (a.den : Int)) ((a.den : Int) * (b.den : Int)) = a + b := by
  have := ratv_add a.num b.num (den_ne a) (den_ne b)
  rw [ratv_self, ratv_self] at this
  exact this.symm
theorem rat_mul (a b : Rat) : ratv (a.num * b.num) ((a.den : Int) * (b.den : Int)) = a * b := by
  have := ratv_mul a.num a.den b.num b.den
  rw [ratv_self, ratv_self] at this
  exact this.symm
theorem rat_div (a b : Rat) : ratv (a.num * (b.den : Int)) ((a.den : Int) * b.num) = a / b := by
  have ha : a = (a.num : Rat) * ((a.den : Int) : Rat)⁻¹ := by conv => lhs; rw [← ratv_self a]; unfold ratv; rw [Rat.divInt_eq_div, Rat.div_def]
  have hb : b = (b.num : Rat) * ((b.den : Int) : Rat)⁻¹ := by conv => lhs; rw [← ratv_self b]; unfold ratv; rw [Rat.divInt_eq_div, Rat.div_def]
  unfold ratv
  rw [Rat.divInt_eq_div, Rat.div_def, Rat.div_def, Rat.intCast_mul, Rat.intCast_mul]
  conv => rhs; rw [ha, hb]
  rw [Rat.inv_mul_rev, Rat.inv_mul_rev, Rat.inv_inv]
  grind
theorem ql_add (a b : Rat) : ql (a + b) ≤ ql a + ql b + 1 := by
  have h := ql_ratv (a.num * (b.den : Int) + b.num * (a.den : Int)) ((a.den : Int) * (b.den : Int)) (Int.mul_ne_zero (den_ne a) (den_ne b))
  rw [rat_add] at h
  have h1 := zl_add (a.num * (b.den : Int)) (b.num * (a.den : Int))
  have h2 := zl_mul a.num b.den
  have h3 := zl_mul b.num a.den
  have h4 := zl_mul a.den b.den
  have := ql_num a; have := ql_num b; have := ql_den a; have := ql_den b
  omega
theorem ql_mul (a b : Rat) : ql (a * b) ≤ ql a + ql b := by
  have h := ql_ratv (a.num * b.num) ((a.den : Int) * (b.den : Int)) (Int.mul_ne_zero (den_ne a) (den_ne b))
  rw [rat_mul] at h
  have h2 := zl_mul a.num b.num
  have h4 := zl_mul a.den b.den
  have := ql_num a; have := ql_num b; have := ql_den a; have := ql_den b
  omega
theorem num_ne {a : Rat} (h : a ≠ 0) : a.num ≠ 0 := fun e => h (Rat.num_eq_zero.1 e)
theorem ql_div (a b : Rat) (hb : b ≠ 0) : ql (a / b) ≤ ql a + ql b := by
  have h := ql_ratv (a.num * (b.den : Int)) ((a.den : Int) * b.num) (Int.mul_ne_zero (den_ne a) (num_ne hb))
  rw [rat_div] at h
  have h2 := zl_mul a.num b.den
  have h4 := zl_mul a.den b.num
  have := ql_num a; have := ql_num b; have := ql_den a; have := ql_den b
  omega
theorem ql_neg (a : Rat) : ql (-a) = ql a := by unfold ql; show max (nl (-a.num).natAbs) (nl a.den) = _; rw [Int.natAbs_neg]
/-- products and sums of numbers in normal form -/
theorem mul_n (a b : Int) (ha : zl a < 1099511627776) (hb : zl b < 1099511627776) : PCall Tryz.prog 111 [.d (zd (nrm a)), .d (zd (nrm b))] (.one (.d (zd (nrm (a * b))))) := by
  have h := mul_p (nrm a) (nrm b) (rz ha) (rz hb)
  rwa [ofR_nrm, ofR_nrm] at h
theorem add_n (a b : Int) (ha : zl a < 1099511627776) (hb : zl b < 1099511627776) : PCall Tryz.prog 222 [.d (zd (nrm a)), .d (zd (nrm b))] (.one (.d (zd (nrm (a + b))))) := by
  have h := add_p (nrm a) (nrm b) (rz ha) (rz hb)
  rwa [ofR_nrm, ofR_nrm] at h
theorem sign_n (a : Int) (ha : zl a < 1099511627776) : PCall Tryz.prog 124 [.d (zd (nrm a))] (.one (.d (.v (.int .i64 a.sign)))) := by
  have h := sign_p (nrm a) (rz ha)
  rwa [ofR_nrm] at h
theorem make_n (a b : Int) (ha : zl a < 1099511627776) (hb : zl b < 1099511627776) (h0 : b ≠ 0) : PCall Tryz.prog 118 [.d (zd (nrm a)), .d (zd (nrm b))] (.tup [.d (qd (nq (ratv a b))), .d (.v (.int .i64 0))]) := by
  have h := make_p (nrm a) (nrm b) (rz ha) (rz hb) (by rw [ofR_nrm]; exact h0)
  rwa [ofR_nrm, ofR_nrm] at h
set_option maxRecDepth 100000 in
set_option maxHeartbeats 1000000 in
theorem qadd1_p (a b : Rat) (ha : ql a < 274877906944) (hb : ql b < 274877906944) : PCall Tryz.prog 239 [.d (.sl (qes [nq a, nq b]))] (.tup [.d (qd (nq (a + b))), .d (.v (.int .i64 0))]) := by
  have := ql_num a; have := ql_num b; have := ql_den a; have := ql_den b
  have h1 := zl_add (a.num * (b.den : Int)) (b.num * (a.den : Int))
  have h2 := zl_mul a.num b.den
  have h3 := zl_mul b.num a.den
  have h4 := zl_mul a.den b.den
  have hm := make_n (a.num * (b.den : Int) + b.num * (a.den : Int)) ((a.den : Int) * (b.den : Int)) (by omega) (by omega) (Int.mul_ne_zero (den_ne a) (den_ne b))
  rw [rat_add] at hm
  refine pcall_of hmo Tryz.func239 rfl (by kernel_rfl) (by simp [Tryz.ntmps239]) ?_; simp -implicitDefEqProofs [go_sem, Tryz.ntmps239]; (repeat refine And.intro (by first | decide +kernel | omega | kernel_rfl) ?_); (try decide +kernel)
  simp -implicitDefEqProofs [go_sem, qes]; (repeat refine And.intro (by first | decide +kernel | omega | kernel_rfl) ?_); (try decide +kernel)
  refine .inl ⟨_, mul_n a.num b.den (by omega) (by omega), ?_⟩; simp -implicitDefEqProofs [go_sem]; (repeat refine And.intro (by first | decide +kernel | omega | kernel_rfl) ?_); (try decide +kernel)
  refine .inl ⟨_, mul_n b.num a.den (by omega) (by omega), ?_⟩; simp -implicitDefEqProofs [go_sem]; (repeat refine And.intro (by first | decide +kernel | omega | kernel_rfl) ?_); (try decide +kernel)
  refine .inl ⟨_, add_n (a.num * (b.den : Int)) (b.num * (a.den : Int)) (by omega) (by omega), ?_⟩; simp -implicitDefEqProofs [go_sem]; (repeat refine And.intro (by first | decide +kernel | omega | kernel_rfl) ?_); (try decide +kernel)
  refine .inl ⟨_, mul_n a.den b.den (by omega) (by omega), ?_⟩; simp -implicitDefEqProofs [go_sem]; (repeat refine And.intro (by first | decide +kernel | omega | kernel_rfl) ?_); (try decide +kernel)
  refine .inl ⟨_, hm, ?_⟩; simp -implicitDefEqProofs [go_sem]; (repeat refine And.intro (by first | decide +kernel | omega | kernel_rfl) ?_); (try decide +kernel)
set_option maxRecDepth 100000 in
set_option maxHeartbeats 1000000 in
theorem qmul1_p (a b : Rat) (ha : ql a < 274877906944) (hb : ql b < 274877906944) : PCall Tryz.prog 238 [.d (.sl (qes [nq a, nq b]))] (.tup [.d (qd (nq (a * b))), .d (.v (.int .i64 0))]) := by
  have := ql_num a; have := ql_num b; have := ql_den a; have := ql_den b
  have h3 := zl_mul a.num b.num
  have h4 := zl_mul a.den b.den
  have hm := make_n (a.num * b.num) ((a.den : Int) * (b.den : Int)) (by omega) (by omega) (Int.mul_ne_zero (den_ne a) (den_ne b))
  rw [rat_mul] at hm
  refine pcall_of hmo Tryz.func238 rfl (by kernel_rfl) (by simp [Tryz.ntmps238]) ?_; simp -implicitDefEqProofs [go_sem, Tryz.ntmps238]; (repeat refine And.intro (by first | decide +kernel | omega | kernel_rfl) ?_); (try decide +kernel)
  simp -implicitDefEqProofs [go_sem, qes]; (repeat refine And.intro (by first | decide +kernel | omega | kernel_rfl) ?_); (try decide +kernel)
  refine .inl ⟨_, mul_n a.num b.num (by omega) (by omega), ?_⟩; simp -implicitDefEqProofs [go_sem]; (repeat refine And.intro (by first | decide +kernel | omega | kernel_rfl) ?_); (try decide +kernel)
  refine .inl ⟨_, mul_n a.den b.den (by omega) (by omega), ?_⟩; simp -implicitDefEqProofs [go_sem]; (repeat refine And.intro (by first | decide +kernel | omega | kernel_rfl) ?_); (try decide +kernel)
  refine .inl ⟨_, hm, ?_⟩; simp -implicitDefEqProofs [go_sem]; (repeat refine And.intro (by first | decide +kernel | omega | kernel_rfl) ?_); (try decide +kernel)
set_option maxRecDepth 100000 in
set_option maxHeartbeats 1000000 in
theorem qquo1_p (a b : Rat) (ha : ql a < 274877906944) (hb : ql b < 274877906944) (h0 : b ≠ 0) : PCall Tryz.prog 240 [.d (.sl (qes [nq a, nq b]))] (.tup [.d (qd (nq (a / b))), .d (.v (.int .i64 0))]) := by
  have := ql_num a; have := ql_num b; have := ql_den a; have := ql_den b
  have h3 := zl_mul a.num b.den
  have h4 := zl_mul a.den b.num
  have hn := num_ne h0
  have hs : ¬ b.num.sign = 0 := fun h => hn (Int.sign_eq_zero_iff_zero.1 h)
  have hm := make_n (a.num * b.den) ((a.den : Int) * b.num) (by omega) (by omega) (Int.mul_ne_zero (den_ne a) hn)
  rw [rat_div] at hm
  refine pcall_of hmo Tryz.func240 rfl (by kernel_rfl) (by simp [Tryz.ntmps240]) ?_; simp -implicitDefEqProofs [go_sem, Tryz.ntmps240]; (repeat refine And.intro (by first | decide +kernel | omega | kernel_rfl) ?_); (try decide +kernel)
  simp -implicitDefEqProofs [go_sem, qes]; (repeat refine And.intro (by first | decide +kernel | omega | kernel_rfl) ?_); (try decide +kernel)
  refine .inl ⟨_, sign_n b.num (by omega), ?_⟩; simp -implicitDefEqProofs [go_sem, hs, hn]; (repeat refine And.intro (by first | decide +kernel | omega | kernel_rfl) ?_); (try decide +kernel)
  refine .inl ⟨_, mul_n a.num b.den (by omega) (by omega), ?_⟩; simp -implicitDefEqProofs [go_sem]; (repeat refine And.intro (by first | decide +kernel | omega | kernel_rfl) ?_); (try decide +kernel)
  refine .inl ⟨_, mul_n a.den b.num (by omega) (by omega), ?_⟩; simp -implicitDefEqProofs [go_sem]; (repeat refine And.intro (by first | decide +kernel | omega | kernel_rfl) ?_); (try decide +kernel)
  refine .inl ⟨_, hm, ?_⟩; simp -implicitDefEqProofs [go_sem]; (repeat refine And.intro (by first | decide +kernel | omega | kernel_rfl) ?_); (try decide +kernel)
/-- fractions that mean something -/
structure Gq (x : QR) : Prop where
  rq : Rq x
  ne : ofR x.2 ≠ 0
theorem Gq.n (q : Rat) (h : ql q < 1099511627776) : Gq (nq q) := ⟨Go.Mt.rq h, by show ofR (nrm _) ≠ 0; rw [ofR_nrm]; exact den_ne q⟩
theorem Gq.two {x y : QR} (hx : Gq x) (hy : Gq y) : ∀ q ∈ [x, y], Rq q ∧ ofR q.2 ≠ 0 := fun q hq => by
  simp only [List.mem_cons, List.not_mem_nil, or_false] at hq
  rcases hq with rfl | rfl
  · exact ⟨hx.rq, hx.ne⟩
  · exact ⟨hy.rq, hy.ne⟩
theorem Gq.one {x : QR} (hx : Gq x) : ∀ q ∈ [x], Rq q ∧ ofR q.2 ≠ 0 := fun q hq => by
  simp only [List.mem_cons, List.not_mem_nil, or_false] at hq
  subst hq; exact ⟨hx.rq, hx.ne⟩
theorem qadd_p (x y : QR) (hx : Gq x) (hy : Gq y) (ha : ql (ofQ x) < 274877906944) (hb : ql (ofQ y) < 274877906944) : PCall Tryz.prog 174 [.d (qd x), .d (qd y)] (.tup [.d (qd (nq (ofQ x + ofQ y))), .d (.v (.int .i64 0))]) := by
  have hm := madeR_p [x, y] (hx.two hy) (by simp) (qadd1_p (ofQ x) (ofQ y) ha hb)
  refine pcall_of hmo Tryz.func174 rfl (by kernel_rfl) (by simp [Tryz.ntmps174]) ?_; simp -implicitDefEqProofs [go_sem, Tryz.ntmps174]; (repeat refine And.intro (by first | decide +kernel | omega | kernel_rfl) ?_); (try decide +kernel)
  refine .inl ⟨_, hm, ?_⟩; simp -implicitDefEqProofs [go_sem]; (repeat refine And.intro (by first | decide +kernel | omega | kernel_rfl) ?_); (try decide +kernel)
theorem qmul_p (x y : QR) (hx : Gq x) (hy : Gq y) (ha : ql (ofQ x) < 274877906944) (hb : ql (ofQ y) < 274877906944) : PCall Tryz.prog 173 [.d (qd x), .d (qd y)] (.tup [.d (qd (nq (ofQ x * ofQ y))), .d (.v (.int .i64 0))]) := by
  have hm := madeR_p [x, y] (hx.two hy) (by simp) (qmul1_p (ofQ x) (ofQ y) ha hb)
  refine pcall_of hmo Tryz.func173 rfl (by kernel_rfl) (by simp [Tryz.ntmps173]) ?_; simp -implicitDefEqProofs [go_sem, Tryz.ntmps173]; (repeat refine And.intro (by first | decide +kernel | omega | kernel_rfl) ?_); (try decide +kernel)
  refine .inl ⟨_, hm, ?_⟩; simp -implicitDefEqProofs [go_sem]; (repeat refine And.intro (by first | decide +kernel | omega | kernel_rfl) ?_); (try decide +kernel)
theorem qquo_p (x y : QR) (hx : Gq x) (hy : Gq y) (ha : ql (ofQ x) < 274877906944) (hb : ql (ofQ y) < 274877906944) (h0 : ofQ y ≠ 0) : PCall Tryz.prog 175 [.d (qd x), .d (qd y)] (.tup [.d (qd (nq (ofQ x / ofQ y))), .d (.v (.int .i64 0))]) := by
  have hm := madeR_p [x, y] (hx.two hy) (by simp) (qquo1_p (ofQ x) (ofQ y) ha hb h0)
  refine pcall_of hmo Tryz.func175 rfl (by kernel_rfl) (by simp [Tryz.ntmps175]) ?_; simp -implicitDefEqProofs [go_sem, Tryz.ntmps175]; (repeat refine And.intro (by first | decide +kernel | omega | kernel_rfl) ?_); (try decide +kernel)
  refine .inl ⟨_, hm, ?_⟩; simp -implicitDefEqProofs [go_sem]; (repeat refine And.intro (by first | decide +kernel | omega | kernel_rfl) ?_); (try decide +kernel)
end Go.Mt
/-
  A part of the proof.
-/
set_option linter.unusedSimpArgs false
set_option linter.unusedVariables false
namespace Go.Mt
open Go Go.Pm Go.Proofs
/-- rows of integers, and a matrix, as they lie -/
def rel (r : List ZR) : List D := [.sl (zes r)]
def rws (rows : List (List ZR)) : List (List D) := rows.map rel
abbrev MR := ZR × List (List ZR)
def md (m : MR) : D := .agg [.v (.bool m.1.1), .sl (les m.1.2), .sl (rws m.2)]
def mel (m : MR) : List D := [.v (.bool m.1.1), .sl (les m.1.2), .sl (rws m.2)]
def mes (l : List MR) : List (List D) := l.map mel
def mE : D := .agg [.v (.bool false), .sl [], .sl []]
attribute [go_sem] rel md mel mE
@[go_sem] theorem rws_len (l : List (List ZR)) : (rws l).length = l.length := by simp [rws]
@[go_sem] theorem rws_ge {l : List (List ZR)} {i : Nat} (h : i < (rws l).length) : (rws l)[i] = rel (l[i]'(by rw [rws_len] at h; exact h)) := by simp [rws]
@[go_sem] theorem mes_len (l : List MR) : (mes l).length = l.length := by simp [mes]
@[go_sem] theorem mes_ge {l : List MR} {i : Nat} (h : i < (mes l).length) : (mes l)[i] = mel (l[i]'(by rw [mes_len] at h; exact h)) := by simp [mes]
/-- rows that a contract takes -/
structure Grw (rows : List (List ZR)) : Prop where
  rz : ∀ r ∈ rows, ∀ z ∈ r, Rz z
  nr : rows.length < 549755813888
  nc : ∀ r ∈ rows, r.length < 549755813888
end Go.Mt
