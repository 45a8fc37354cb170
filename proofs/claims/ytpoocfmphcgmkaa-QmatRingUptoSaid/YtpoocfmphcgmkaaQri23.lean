/-
  A part of the proof.
-/
import Derived.Test.YtpoocfmphcgmkaaQri18
import Derived.Test.YtpoocfmphcgmkaaQri2
set_option linter.unusedVariables false
set_option linter.unusedSimpArgs false
set_option linter.unusedSimpArgs false
set_option linter.unusedVariables false
namespace Go.Mt
open Go Go.Pm Go.Proofs
/-- a fraction as it lies -/
abbrev QR := ZR × ZR
def qd (x : QR) : D := .agg [.v (.bool x.1.1), .sl (les x.1.2), .v (.bool x.2.1), .sl (les x.2.2)]
def qel (x : QR) : List D := [.v (.bool x.1.1), .sl (les x.1.2), .v (.bool x.2.1), .sl (les x.2.2)]
def qes (l : List QR) : List (List D) := l.map qel
attribute [go_sem] qd qel
@[go_sem] theorem qes_len (l : List QR) : (qes l).length = l.length := by simp [qes]
@[go_sem] theorem qes_ge {l : List QR} {i : Nat} (h : i < (qes l).length) : (qes l)[i] = qel (l[i]'(by rw [qes_len] at h; exact h)) := by simp [qes]
abbrev Rq (x : QR) : Prop := Rz x.1 ∧ Rz x.2
def ofQ (x : QR) : Rat := ratv (ofR x.1) (ofR x.2)
def nq (q : Rat) : QR := (nrm q.num, nrm (q.den : Int))
abbrev ql (q : Rat) : Nat := max (nl q.num.natAbs) (nl q.den)
@[go_sem] theorem nq_1 (q : Rat) : (nq q).1 = nrm q.num := rfl
@[go_sem] theorem nq_2 (q : Rat) : (nq q).2 = nrm (q.den : Int) := rfl
theorem rq {q : Rat} (h : ql q < 1099511627776) : Rq (nq q) := ⟨rz (Nat.lt_of_le_of_lt (Nat.le_max_left _ _) h), rz (by show nl (q.den : Int).natAbs < _; rw [Int.natAbs_natCast]; exact Nat.lt_of_le_of_lt (Nat.le_max_right _ _) h)⟩
def qE : D := .agg [.v (.bool false), .sl [], .v (.bool false), .sl []]
attribute [go_sem] qE
/-- lowest terms by division by the divisor with the denominator's sign -/
def qG (n d : Int) : Int := if d < 0 then -(gcdI n d) else gcdI n d
theorem gcdI_pos {n d : Int} (hd : d ≠ 0) : 0 < gcdI n d := by
  unfold gcdI
  have : Int.gcd n d ≠ 0 := fun h => hd (Int.gcd_eq_zero_iff.1 h).2
  omega
theorem qG_ne {n d : Int} (hd : d ≠ 0) : qG n d ≠ 0 := by
  have := gcdI_pos (n := n) hd
  unfold qG; split <;> omega
theorem qG_dvd (n d : Int) : qG n d ∣ n ∧ qG n d ∣ d := by
  unfold qG gcdI
  split
  · exact ⟨Int.neg_dvd.2 (Int.gcd_dvd_left ..), Int.neg_dvd.2 (Int.gcd_dvd_right ..)⟩
  · exact ⟨Int.gcd_dvd_left .., Int.gcd_dvd_right ..⟩
theorem qG_num {n d : Int} (hd : d ≠ 0) : n / qG n d = (ratv n d).num := by
  unfold qG gcdI
  split
  · rename_i h
    rw [← ratv_neg, ratv_num (by omega), Int.gcd_neg, Int.neg_gcd, Int.ediv_neg, Int.neg_ediv_of_dvd (Int.gcd_dvd_left ..)]
  · rw [ratv_num (by omega)]
theorem qG_den {n d : Int} (hd : d ≠ 0) : d / qG n d = ((ratv n d).den : Int) := by
  unfold qG gcdI
  split
  · rename_i h
    rw [← ratv_neg, ratv_den (by omega), Int.gcd_neg, Int.neg_gcd, Int.ediv_neg, Int.neg_ediv_of_dvd (Int.gcd_dvd_right ..)]
  · rw [ratv_den (by omega)]
theorem zl_div {a b : Int} (h : b ∣ a) : zl (a / b) ≤ zl a := by
  obtain ⟨c, rfl⟩ := h
  by_cases hb : b = 0
  · subst hb; simp
  · rw [Int.mul_ediv_cancel_left _ hb]
    refine nl_mono ?_
    rw [Int.natAbs_mul]
    exact Nat.le_mul_of_pos_left _ (by omega)
theorem ql_ratv (n d : Int) (hd : d ≠ 0) : ql (ratv n d) ≤ max (zl n) (zl d) := by
  have h1 := zl_div (qG_dvd n d).1
  have h2 := zl_div (qG_dvd n d).2
  rw [qG_num hd] at h1
  rw [qG_den hd] at h2
  have e : zl ((ratv n d).den : Int) = nl (ratv n d).den := by unfold zl; rw [Int.natAbs_natCast]
  rw [e] at h2
  show max (nl _) (nl _) ≤ _
  have h3 : nl (ratv n d).num.natAbs ≤ zl n := h1
  omega
theorem make_p (p q : ZR) (hp : Rz p) (hq : Rz q) (h0 : ofR q ≠ 0) : PCall Try.prog 32 [.d (zd p), .d (zd q)] (.tup [.d (qd (nq (ratv (ofR p) (ofR q)))), .d (.v (.int .i64 0))]) := by
  have hg := gcdl_p [p, q] (by simp; exact ⟨hp, hq⟩) (by simp) (by simp)
  have eg : gcds ([p, q].map ofR) = gcdI (ofR p) (ofR q) := by
    unfold gcds gcdI; simp [Int.gcd]
  rw [eg] at hg
  have hgl : zl (gcdI (ofR p) (ofR q)) < 1099511627776 := by
    have := zl_gcdI (ofR p) (ofR q); have := zl_lt hp; have := zl_lt hq; omega
  have hG : zl (qG (ofR p) (ofR q)) < 1099511627776 := by
    unfold qG; split
    · unfold zl at *; rw [Int.natAbs_neg]; exact hgl
    · exact hgl
  have he1 := exact_p p (nrm (qG (ofR p) (ofR q))) hp (rz hG) (by rw [ofR_nrm]; exact qG_ne h0) (by rw [ofR_nrm]; exact (qG_dvd _ _).1)
  have he2 := exact_p q (nrm (qG (ofR p) (ofR q))) hq (rz hG) (by rw [ofR_nrm]; exact qG_ne h0) (by rw [ofR_nrm]; exact (qG_dvd _ _).2)
  rw [ofR_nrm, qG_num h0] at he1
  rw [ofR_nrm, qG_den h0] at he2
  have hs := sign_p q hq
  have hneg := neg_p (nrm (gcdI (ofR p) (ofR q))) (rz hgl)
  rw [ofR_nrm] at hneg
  have h1 : ¬ (ofR q).sign = 0 := fun h => h0 (Int.sign_eq_zero_iff_zero.1 h)
  by_cases hlt : ofR q < 0
  · have h2 : (ofR q).sign < 0 := by rw [Int.sign_eq_neg_one_of_neg hlt]; decide
    have eG : qG (ofR p) (ofR q) = -(gcdI (ofR p) (ofR q)) := by unfold qG; rw [if_pos hlt]
    rw [eG] at he1 he2
    refine pcall_of hmo Try.func32 rfl (by kernel_rfl) (by simp [Try.ntmps32]) ?_; simp -implicitDefEqProofs [go_sem, Try.ntmps32]; (repeat refine And.intro (by first | decide +kernel | omega | kernel_rfl) ?_); (try decide +kernel)
    refine .inl ⟨_, hs, ?_⟩; simp -implicitDefEqProofs [go_sem, h0, h1]; (repeat refine And.intro (by first | decide +kernel | omega | kernel_rfl) ?_); (try decide +kernel)
    refine .inl ⟨_, hg, ?_⟩; simp -implicitDefEqProofs [go_sem]; (repeat refine And.intro (by first | decide +kernel | omega | kernel_rfl) ?_); (try decide +kernel)
    refine .inl ⟨_, hs, ?_⟩; simp -implicitDefEqProofs [go_sem, hlt, h2]; (repeat refine And.intro (by first | decide +kernel | omega | kernel_rfl) ?_); (try decide +kernel)
    refine .inl ⟨_, hneg, ?_⟩; simp -implicitDefEqProofs [go_sem]; (repeat refine And.intro (by first | decide +kernel | omega | kernel_rfl) ?_); (try decide +kernel)
    refine .inl ⟨_, he1, ?_⟩; simp -implicitDefEqProofs [go_sem]; (repeat refine And.intro (by first | decide +kernel | omega | kernel_rfl) ?_); (try decide +kernel)
    refine .inl ⟨_, he2, ?_⟩; simp -implicitDefEqProofs [go_sem]; (repeat refine And.intro (by first | decide +kernel | omega | kernel_rfl) ?_); (try decide +kernel)
  · have h2 : ¬ (ofR q).sign < 0 := by rw [Int.sign_eq_one_of_pos (by omega)]; decide
    have eG : qG (ofR p) (ofR q) = gcdI (ofR p) (ofR q) := by unfold qG; rw [if_neg hlt]
    rw [eG] at he1 he2
    refine pcall_of hmo Try.func32 rfl (by kernel_rfl) (by simp [Try.ntmps32]) ?_; simp -implicitDefEqProofs [go_sem, Try.ntmps32]; (repeat refine And.intro (by first | decide +kernel | omega | kernel_rfl) ?_); (try decide +kernel)
    refine .inl ⟨_, hs, ?_⟩; simp -implicitDefEqProofs [go_sem, h0, h1]; (repeat refine And.intro (by first | decide +kernel | omega | kernel_rfl) ?_); (try decide +kernel)
    refine .inl ⟨_, hg, ?_⟩; simp -implicitDefEqProofs [go_sem]; (repeat refine And.intro (by first | decide +kernel | omega | kernel_rfl) ?_); (try decide +kernel)
    refine .inl ⟨_, hs, ?_⟩; simp -implicitDefEqProofs [go_sem, hlt, h2]; (repeat refine And.intro (by first | decide +kernel | omega | kernel_rfl) ?_); (try decide +kernel)
    refine .inl ⟨_, he1, ?_⟩; simp -implicitDefEqProofs [go_sem]; (repeat refine And.intro (by first | decide +kernel | omega | kernel_rfl) ?_); (try decide +kernel)
    refine .inl ⟨_, he2, ?_⟩; simp -implicitDefEqProofs [go_sem]; (repeat refine And.intro (by first | decide +kernel | omega | kernel_rfl) ?_); (try decide +kernel)
end Go.Mt
