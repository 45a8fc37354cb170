/-
  A part of the proof.
-/
import Derived.Test.YtmhclkagdpbadaaGreatCtr36
import Derived.Test.YtmhclkagdpbadaaGreatCtr37
import Derived.Test.YtmhclkagdpbadaaGreatCtr38
set_option linter.unusedVariables false
set_option linter.unusedSimpArgs false
set_option linter.unusedSimpArgs false
set_option linter.unusedVariables false
namespace Go.Mt
open Go Go.Pm Go.Proofs
/-- a list of fractions as it came, as a function -/
def pf (l : List QR) (i : Nat) : Rat := ((l.map ofQ)[i]?).getD 0
theorem pf_get {l : List QR} {i : Nat} (h : i < l.length) : pf l i = ofQ l[i] := by
  unfold pf; rw [List.getElem?_map, List.getElem?_eq_getElem h]; rfl
theorem pf_ql {l : List QR} {B : Nat} (hB : ∀ x ∈ l, ql (ofQ x) ≤ B) (h1 : 1 ≤ B) (i : Nat) : ql (pf l i) ≤ B := by
  by_cases h : i < l.length
  · rw [pf_get h]; exact hB _ (List.getElem_mem h)
  · unfold pf
    rw [List.getElem?_eq_none (by simpa using h)]
    show ql 0 ≤ B
    rw [ql_zero]; exact h1
/-- the polynomial -/
def ftQ (p : Nat → Rat) (n : Nat) : List Rat := (List.range (n + 1)).map fun i => cN p (n - i)
def eL (p : Nat → Rat) (k : Nat) : List Rat := (List.range k).map (eN p)
theorem eL_len (p : Nat → Rat) (k : Nat) : (eL p k).length = k := by simp [eL]
theorem eL_get (p : Nat → Rat) {k i : Nat} (h : i < k) : (eL p k)[i]? = some (eN p i) := by simp [eL, h]
/-- the sum so far -/
def eSu (l : List QR) (k j : Nat) : Rat := sumN j fun i => sgn i * (eN (pf l) (k - i) * pf l i)
theorem of5_0 : PCall Tryz.prog 130 [.d (.v (.int .i64 0))] (.one (.d (qd (nq 0)))) := of5_p 0 (by decide) (by decide)
theorem of5_1 : PCall Tryz.prog 130 [.d (.v (.int .i64 1))] (.one (.d (qd (nq 1)))) := of5_p 1 (by decide) (by decide)
def zq : List D := [.v (.bool false), .sl [], .v (.bool false), .sl []]
/-- the coefficients so far, the greatest power's last -/
def fl (p : Nat → Rat) (n k : Nat) : List (List D) := (List.range (n + 1)).map fun j => if n - j < k then qel (nq (cN p (n - j))) else zq
theorem fl_len (p : Nat → Rat) (n k : Nat) : (fl p n k).length = n + 1 := by simp [fl]
theorem fl_get (p : Nat → Rat) {n k i : Nat} (hi : i ≤ n) (hk : i < k) : (fl p n k)[n - i]? = some (qel (nq (cN p i))) := by
  unfold fl
  have e : n - (n - i) = i := by omega
  rw [List.getElem?_map, List.getElem?_range (by omega)]
  simp [e, hk]
theorem fl_zq (p : Nat → Rat) {n k : Nat} (hk : k ≤ n) : (fl p n k)[n - k]? = some zq := by
  unfold fl
  have e : n - (n - k) = k := by omega
  rw [List.getElem?_map, List.getElem?_range (by omega)]
  simp [e]
theorem fl_at (p : Nat → Rat) {n k j : Nat} (h : j < (fl p n k).length) : (fl p n k)[j] = if n - j < k then qel (nq (cN p (n - j))) else zq := by simp [fl]
theorem fl_set (p : Nat → Rat) {n k : Nat} (hk : k ≤ n) : (fl p n k).set (n - k) (qel (nq (cN p k))) = fl p n (k + 1) := by
  refine List.ext_getElem (by simp [fl_len]) fun j h1 h2 => ?_
  have hj : j < n + 1 := by rw [fl_len] at h2; exact h2
  rw [List.getElem_set, fl_at, fl_at]
  by_cases e : n - k = j
  · have : n - j = k := by omega
    rw [if_pos e, this, if_pos (by omega)]
  · rw [if_neg e]
    by_cases h : n - j < k
    · rw [if_pos h, if_pos (by omega)]
    · rw [if_neg h, if_neg (by omega)]
theorem fl_all (p : Nat → Rat) (n : Nat) : fl p n (n + 1) = qes ((ftQ p n).map nq) := by
  unfold fl qes ftQ
  rw [List.map_map, List.map_map]
  refine List.map_congr_left fun j hj => ?_
  rw [if_pos (by omega)]; rfl
theorem fl_nil (p : Nat → Rat) (n : Nat) : List.replicate (n + 1) zq = fl p n 0 := by
  refine List.ext_getElem (by simp [fl_len]) fun j h1 h2 => ?_
  rw [fl_at]
  simp
theorem fl_zero (p : Nat → Rat) (n : Nat) : (List.replicate (n + 1) zq).set n (qel (nq 1)) = fl p n 1 := by
  rw [← fl_set p (k := 0) (Nat.zero_le _), cN_zero, ← fl_nil]
  rfl
set_option maxHeartbeats 1000000 in
theorem from20_p (l : List QR) (hl : ∀ x ∈ l, Lq x) {B : Nat} (hB : ∀ x ∈ l, ql (ofQ x) ≤ B) (hB1 : 1 ≤ B) (hB2 : B < 500) (hn : l.length ≤ 24) :
    PCall Tryz.prog 98 [.d (.sl (qes l))] (.one (.d (.sl (qes ((ftQ (pf l) l.length).map nq))))) := by
  refine pcall_of hmo Tryz.func98 rfl (by kernel_rfl) (by simp [Tryz.ntmps98]) ?_; simp -implicitDefEqProofs [go_sem, Tryz.ntmps98]; (repeat refine And.intro (by first | decide +kernel | omega | kernel_rfl) ?_); (try decide +kernel)
  refine .inl ⟨_, of5_1, ?_⟩; simp -implicitDefEqProofs [go_sem]; (repeat refine And.intro (by first | decide +kernel | omega | kernel_rfl) ?_); (try decide +kernel)
  refine loop_rule [] (fun (k : Nat) => ⟨77, [(0, .d (.sl (qes l))), (3, .sr 8 k), (4, intP .i64 (k + 1 : Int))], [(8, .arr ⟨72, 4, k, false, qes ((eL (pf l) (k + 1)).map nq)⟩)], 1000⟩)
    (fun k => k ≤ l.length) (fun k => l.length - k) 0 (Nat.zero_le _) (by simp) (by simp -implicitDefEqProofs [go_sem, qes, eL, eN_zero]) (fun k hk => ?_)
  by_cases hkl : k < l.length
  · have hz : (k : Int) + 1 ≤ (l.length : Int) := by omega
    simp -implicitDefEqProofs [go_sem, hkl, hz]; (repeat refine And.intro (by first | decide +kernel | omega | kernel_rfl) ?_); (try decide +kernel)
    refine .inl ⟨_, of5_0, ?_⟩; simp -implicitDefEqProofs [go_sem]; (repeat refine And.intro (by first | decide +kernel | omega | kernel_rfl) ?_); (try decide +kernel)
    refine loop_rule [] (fun (j : Nat) => ⟨77, [(0, .d (.sl (qes l))), (3, .sr 8 k), (4, intP .i64 (k + 1 : Int)), (5, .pr 1020 0 0 0), (6, intP .i64 (j + 1 : Int))],
        [(1020, .box [.d (.v (.bool (nrm (eSu l k j).num).1)), .d (.sl (les (nrm (eSu l k j).num).2)), .d (.v (.bool (nrm ((eSu l k j).den : Int)).1)), .d (.sl (les (nrm ((eSu l k j).den : Int)).2))]), (8, .arr ⟨72, 4, k, false, qes ((eL (pf l) (k + 1)).map nq)⟩)], 2000⟩)
      (fun j => j ≤ k + 1) (fun j => k + 1 - j) 0 (Nat.zero_le _) (by simp) (by simp -implicitDefEqProofs [go_sem, eSu, sumN]) (fun j hj => ?_)
    have hS := eS_ql (pf_ql hB hB1) (k + 1) j hj (by omega)
    have h2 : 2 ^ (k + 1) ≤ 2 ^ 24 := Nat.pow_le_pow_right (by decide) (by omega)
    have h3 := Nat.mul_le_mul h2 (show B + 3 ≤ 503 by omega)
    have hS : ql (eSu l k j) ≤ 2 ^ (k + 1) * (B + 3) := hS
    by_cases hjk : j < k + 1
    · have hjl : j < l.length := by omega
      have hz1 : (j : Int) + 1 ≤ (k : Int) + 1 := by omega
      have hz2 : (k : Int) + 1 - ((j : Int) + 1) = ((k - j : Nat) : Int) := by omega
      have hz3 : (j : Int) + 1 - 1 = (j : Int) := by omega
      have hge : (qes ((eL (pf l) (k + 1)).map nq))[k - j]? = some (qel (nq (eN (pf l) (k - j)))) := by
        unfold qes; rw [List.getElem?_map, List.getElem?_map, eL_get _ (by omega)]; rfl
      have hE := eN_ql (pf_ql hB hB1) (k - j) (by omega)
      have h4 : 2 ^ (k - j) ≤ 2 ^ 24 := Nat.pow_le_pow_right (by decide) (by omega)
      have h5 := Nat.mul_le_mul h4 (show B + 3 ≤ 503 by omega)
      have hm := mul5_p (nq (eN (pf l) (k - j))) l[j] (.n (by omega)) (hl _ (List.getElem_mem _))
      rw [ofQ_nq, ← pf_get hjl] at hm
      have hX : ql (eN (pf l) (k - j) * pf l j) ≤ 2 ^ (k - j) * (B + 3) := by
        have := ql_mul (eN (pf l) (k - j)) (pf l j)
        have := pf_ql hB hB1 j
        omega
      have hA := add5_n (eSu l k j) (sgn j * (eN (pf l) (k - j) * pf l j)) (by omega) (by rw [ql_sgn]; omega)
      have hA : PCall Tryz.prog 131 [.d (qd (nq (eSu l k j))), .d (qd (nq (sgn j * (eN (pf l) (k - j) * pf l j))))] (.one (.d (qd (nq (eSu l k (j + 1)))))) := hA
      have hN := neg5_n (eN (pf l) (k - j) * pf l j) (by omega)
      have ht : ((j : Int) + 1).tmod 2 = (((j + 1) % 2 : Nat) : Int) := by rw [Int.tmod_eq_emod_of_nonneg (by omega)]; omega
      by_cases he : j % 2 = 1
      · have es : -(eN (pf l) (k - j) * pf l j) = sgn j * (eN (pf l) (k - j) * pf l j) := by
          unfold sgn; rw [if_pos he]; grind
        rw [es] at hN
        have ht2 : ((j : Int) + 1).tmod 2 = 0 := by rw [ht]; omega
        generalize sgn j * (eN (pf l) (k - j) * pf l j) = Y at *
        generalize eN (pf l) (k - j) * pf l j = X at *
        generalize eN (pf l) (k - j) = e at *
        simp -implicitDefEqProofs [go_sem, hz1, hz2, hz3, hge, hjl, ht2, eL_len]; (repeat refine And.intro (by first | decide +kernel | omega | kernel_rfl) ?_); (try decide +kernel)
        refine .inl ⟨_, hm, ?_⟩; simp -implicitDefEqProofs [go_sem, ht2]; (repeat refine And.intro (by first | decide +kernel | omega | kernel_rfl) ?_); (try decide +kernel)
        refine .inl ⟨_, hN, ?_⟩; simp -implicitDefEqProofs [go_sem]; (repeat refine And.intro (by first | decide +kernel | omega | kernel_rfl) ?_); (try decide +kernel)
        refine .inl ⟨_, hA, ?_⟩; simp -implicitDefEqProofs [go_sem]; (repeat refine And.intro (by first | decide +kernel | omega | kernel_rfl) ?_); (try decide +kernel)
        refine ⟨j + 1, ?_⟩; (repeat' apply And.intro) <;> first | omega | assumption | rfl
      · have es : eN (pf l) (k - j) * pf l j = sgn j * (eN (pf l) (k - j) * pf l j) := by
          unfold sgn; rw [if_neg he]; grind
        rw [← es] at hA
        have ht2 : ¬ ((j : Int) + 1).tmod 2 = 0 := by rw [ht]; omega
        generalize eN (pf l) (k - j) * pf l j = X at *
        generalize eN (pf l) (k - j) = e at *
        simp -implicitDefEqProofs [go_sem, hz1, hz2, hz3, hge, hjl, ht2, eL_len]; (repeat refine And.intro (by first | decide +kernel | omega | kernel_rfl) ?_); (try decide +kernel)
        refine .inl ⟨_, hm, ?_⟩; simp -implicitDefEqProofs [go_sem, ht2]; (repeat refine And.intro (by first | decide +kernel | omega | kernel_rfl) ?_); (try decide +kernel)
        refine .inl ⟨_, hA, ?_⟩; simp -implicitDefEqProofs [go_sem]; (repeat refine And.intro (by first | decide +kernel | omega | kernel_rfl) ?_); (try decide +kernel)
        refine ⟨j + 1, ?_⟩; (repeat' apply And.intro) <;> first | omega | assumption | rfl
    · obtain rfl : j = k + 1 := by omega
      have hz1 : ¬ (k : Int) + 1 ≤ (k : Int) := by omega
      have hQ := quo5_n (eSu l k (k + 1)) (((k + 1 : Nat) : Int) : Rat) (by omega) (by
        have := ql_neg_int (k := k + 1) (by omega) (by omega); rw [ql_neg] at this; omega) (fun h => neg_int_ne (k := k + 1) (by omega) (by rw [h]; rfl))
      have hQ : PCall Tryz.prog 144 [.d (qd (nq (eSu l k (k + 1)))), .d (qd (nq (((k + 1 : Nat) : Int) : Rat)))] (.one (.d (qd (nq (eN (pf l) (k + 1)))))) := by
        rw [eN_pos (pf l) (k := k + 1) (by omega)]; exact hQ
      have hof := of5_p ((k + 1 : Nat) : Int) (by omega) (by omega)
      generalize (((k + 1 : Nat) : Int) : Rat) = q1 at hof hQ
      have hof : PCall Tryz.prog 130 [.d (.v (.int .i64 ((k : Int) + 1)))] (.one (.d (qd (nq q1)))) := hof
      have hsn : qes ((eL (pf l) (k + 1)).map nq) ++ [qel (nq (eN (pf l) (k + 1)))] = qes ((eL (pf l) (k + 1 + 1)).map nq) := by
        conv => rhs; rw [eL, List.range_succ]
        simp [qes, eL]
      simp -implicitDefEqProofs [go_sem, hz1]; (repeat refine And.intro (by first | decide +kernel | omega | kernel_rfl) ?_); (try decide +kernel)
      refine .inl ⟨_, hof, ?_⟩; simp -implicitDefEqProofs [go_sem]; (repeat refine And.intro (by first | decide +kernel | omega | kernel_rfl) ?_); (try decide +kernel)
      refine .inl ⟨_, hQ, ?_⟩; simp -implicitDefEqProofs [go_sem, eL_len]; (repeat refine And.intro (by first | decide +kernel | omega | kernel_rfl) ?_); (try decide +kernel)
      refine ⟨k + 1, ?_⟩; (repeat' apply And.intro) <;> first | omega | (exact hsn) | assumption | rfl
  · obtain rfl : k = l.length := by omega
    have hz : ¬ (l.length : Int) + 1 ≤ (l.length : Int) := by omega
    have hg0 : ∀ j, j < l.length + 1 → (qes ((eL (pf l) (l.length + 1)).map nq))[j]? = some (qel (nq (eN (pf l) j))) := fun j hj => by
      unfold qes; rw [List.getElem?_map, List.getElem?_map, eL_get _ hj]; rfl
    simp -implicitDefEqProofs [go_sem, hz, eL_len]; (repeat refine And.intro (by first | decide +kernel | omega | kernel_rfl) ?_); (try decide +kernel)
    have hnil := fl_nil (pf l) l.length
    refine loop_rule [] (fun (j : Nat) => ⟨77, [(3, .sr 8 l.length), (8, .sr 1024 0), (55, .sr 8 l.length), (56, intP .i64 (l.length + 1 : Int)), (57, intP .i64 (j : Int))],
        [(1024, .arr ⟨72, 4, 0, false, fl (pf l) l.length j⟩), (8, .arr ⟨72, 4, l.length, false, qes ((eL (pf l) (l.length + 1)).map nq)⟩)], 3000⟩)
      (fun j => j ≤ l.length + 1) (fun j => l.length + 1 - j) 0 (Nat.zero_le _) (by simp) (by simp -implicitDefEqProofs [go_sem]; exact hnil) (fun j hj => ?_)
    by_cases hjk : j < l.length + 1
    · have hz1 : (j : Int) < (l.length : Int) + 1 := by omega
      have hz3 : (l.length : Int) - (j : Int) = ((l.length - j : Nat) : Int) := by omega
      have hge := hg0 j hjk
      have hgz : (fl (pf l) l.length j)[l.length - j]? = some [.v (.bool false), .sl [], .v (.bool false), .sl []] := fl_zq (pf l) (by omega)
      have hst := fl_set (pf l) (n := l.length) (k := j) (by omega)
      have hE := eN_ql (pf_ql hB hB1) j (by omega)
      have h4 : 2 ^ j ≤ 2 ^ 24 := Nat.pow_le_pow_right (by decide) (by omega)
      have h5 := Nat.mul_le_mul h4 (show B + 3 ≤ 503 by omega)
      have hN := neg5_n (eN (pf l) j) (by omega)
      have ht : ((j : Int)).tmod 2 = ((j % 2 : Nat) : Int) := by rw [Int.tmod_eq_emod_of_nonneg (by omega)]; omega
      by_cases he : j % 2 = 1
      · have es : -(eN (pf l) j) = cN (pf l) j := by
          rw [cN_eq]; unfold sgn; rw [if_pos he]; grind
        rw [es] at hN
        have ht2 : (j : Int).tmod 2 = 1 := by rw [ht]; omega
        simp -implicitDefEqProofs [go_sem, hz1, hz3, hge, eL_len, ht2]; (repeat refine And.intro (by first | decide +kernel | omega | kernel_rfl) ?_); (try decide +kernel)
        refine .inl ⟨_, hN, ?_⟩; simp -implicitDefEqProofs [go_sem, ht2, hz3, hgz, fl_len, eL_len]; (repeat refine And.intro (by first | decide +kernel | omega | kernel_rfl) ?_); (try decide +kernel)
        refine ⟨j + 1, ?_⟩; (repeat' apply And.intro) <;> first | omega | (exact hst) | assumption | rfl
      · have es : eN (pf l) j = cN (pf l) j := by
          rw [cN_eq]; unfold sgn; rw [if_neg he]; grind
        rw [es] at hge
        have ht2 : ¬ (j : Int).tmod 2 = 1 := by rw [ht]; omega
        simp -implicitDefEqProofs [go_sem, hz1, hz3, hge, eL_len, ht2, hgz, fl_len]; (repeat refine And.intro (by first | decide +kernel | omega | kernel_rfl) ?_); (try decide +kernel)
        refine ⟨j + 1, ?_⟩; (repeat' apply And.intro) <;> first | omega | (exact hst) | assumption | rfl
    · obtain rfl : j = l.length + 1 := by omega
      have hz1 : ¬ (l.length : Int) + 1 < (l.length : Int) + 1 := by omega
      have hall := fl_all (pf l) l.length
      simp -implicitDefEqProofs [go_sem, hz1, hall]; (repeat refine And.intro (by first | decide +kernel | omega | kernel_rfl) ?_); (try decide +kernel)
end Go.Mt
/-
  A part of the proof.
-/
set_option linter.unusedSimpArgs false
set_option linter.unusedVariables false
namespace Go.Mt
open Go Go.Pm Go.Proofs
/-- a sum as it lies: the first number as it came -/
def sv (l : List QR) (k i : Nat) : QR := if i = 1 then (l[k - 1]?).getD ((false, []), (false, [])) else nq (sumN i fun j => cN (pf l) j * pf l (k - 1 - j))
theorem sv_of {l : List QR} (hl : ∀ x ∈ l, Lq x) {k i : Nat} (hk : 0 < k) (hkl : k ≤ l.length) (hi : 0 < i) : ofQ (sv l k i) = sumN i fun j => cN (pf l) j * pf l (k - 1 - j) := by
  unfold sv
  by_cases h : i = 1
  · subst h
    rw [if_pos rfl, List.getElem?_eq_getElem (by omega)]
    show ofQ l[k - 1] = 0 + cN (pf l) 0 * pf l (k - 1 - 0)
    rw [cN_zero, Nat.sub_zero, pf_get (by omega), Rat.one_mul, Rat.zero_add]
  · rw [if_neg h, ofQ_nq]
theorem sv_gq {l : List QR} (hl : ∀ x ∈ l, Lq x) {B : Nat} (hB : ∀ x ∈ l, ql (ofQ x) ≤ B) (hB1 : 1 ≤ B) (hB2 : B < 500) {k i : Nat} (hk : 0 < k) (hkl : k ≤ l.length) (hn : l.length ≤ 24) (hi : i ≤ k) : Gq (sv l k i) := by
  unfold sv
  split
  · rw [List.getElem?_eq_getElem (by omega)]
    have := hl _ (List.getElem_mem (l := l) (n := k - 1) (by omega))
    exact ⟨this.rq, this.ne⟩
  · refine Gq.n _ ?_
    have h1 := cS_ql (pf_ql hB hB1) k i hi (by omega)
    have h2 : 2 ^ i ≤ 2 ^ 24 := Nat.pow_le_pow_right (by decide) (by omega)
    have h3 := Nat.mul_le_mul h2 (show B + 3 ≤ 503 by omega)
    omega
theorem ft94_p (l : List QR) (hl : ∀ x ∈ l, Lq x) (hh : qhs (l.map ofQ) ≤ 4096) (hn : l.length ≤ 24) :
    PCall Tryz.prog 94 [.d (.sl (qes l))] (.tup [.d (.sl (qes ((ftQ (pf l) l.length).map nq))), .d (.v (.int .i64 0))]) := by
  have hB : ∀ x ∈ l, ql (ofQ x) ≤ 128 := fun x hx => ql_of_qh (Nat.le_trans (qhs_mem (List.mem_map.2 ⟨x, hx, rfl⟩)) (by omega))
  have hht := height_p l (fun x hx => ⟨(hl x hx).rq, (hl x hx).ne⟩) (by omega) (fun x hx => by have := hB x hx; omega)
  have hz : ¬ (24 : Int) < (l.length : Int) := by omega
  have hz2 : ¬ (4096 : Int) < ((qhs (l.map ofQ) : Nat) : Int) := by omega
  have hof1 := qof_p 1 (by decide) (by decide)
  have hz0 := fl_zero (pf l) l.length
  refine pcall_of hmo Tryz.func94 rfl (by kernel_rfl) (by simp [Tryz.ntmps94]) ?_; simp -implicitDefEqProofs [go_sem, Tryz.ntmps94]; (repeat refine And.intro (by first | decide +kernel | omega | kernel_rfl) ?_); (try decide +kernel)
  refine .inl ⟨_, hht, ?_⟩; simp -implicitDefEqProofs [go_sem, hz, hz2]; (repeat refine And.intro (by first | decide +kernel | omega | kernel_rfl) ?_); (try decide +kernel)
  refine .inl ⟨_, hof1, ?_⟩; simp -implicitDefEqProofs [go_sem]; (repeat refine And.intro (by first | decide +kernel | omega | kernel_rfl) ?_); (try decide +kernel)
  refine loop_rule [] (fun (m : Nat) => ⟨89, [(0, .d (.sl (qes l))), (3, intP .i64 0), (6, intP .i64 (l.length : Int)), (7, .sr 92 0), (8, intP .i64 (m + 1 : Int))],
      [(92, .arr ⟨72, 4, 0, false, fl (pf l) l.length (m + 1)⟩)], 7000⟩)
    (fun m => m ≤ l.length) (fun m => l.length - m) 0 (Nat.zero_le _) (by simp) (by simp -implicitDefEqProofs [go_sem]; exact hz0) (fun m hm => ?_)
  by_cases hml : m < l.length
  · have hz1 : (m : Int) + 1 ≤ (l.length : Int) := by omega
    have hsv1 : sv l (m + 1) 1 = l[m] := by
      unfold sv; rw [if_pos rfl]; simp [hml]
    simp -implicitDefEqProofs [go_sem, hz1, hml]; (repeat refine And.intro (by first | decide +kernel | omega | kernel_rfl) ?_); (try decide +kernel)
    refine loop_rule [] (fun (j : Nat) => ⟨89, [(0, .d (.sl (qes l))), (3, intP .i64 0), (6, intP .i64 (l.length : Int)), (7, .sr 92 0), (8, intP .i64 (m + 1 : Int)), (9, .pr 7032 0 0 0), (10, intP .i64 (j + 1 : Int))],
        [(7032, .box [.d (.v (.bool (sv l (m + 1) (j + 1)).1.1)), .d (.sl (les (sv l (m + 1) (j + 1)).1.2)), .d (.v (.bool (sv l (m + 1) (j + 1)).2.1)), .d (.sl (les (sv l (m + 1) (j + 1)).2.2))]), (92, .arr ⟨72, 4, 0, false, fl (pf l) l.length (m + 1)⟩)], 8000⟩)
      (fun j => j ≤ m) (fun j => m - j) 0 (Nat.zero_le _) (by simp) (by simp -implicitDefEqProofs [go_sem, hsv1]) (fun j hj => ?_)
    have hg := sv_gq hl hB (by decide) (by decide) (k := m + 1) (i := j + 1) (by omega) (by omega) hn (by omega)
    have hv := sv_of hl (k := m + 1) (i := j + 1) (by omega) (by omega) (by omega)
    have hS := cS_ql (pf_ql hB (by decide)) (m + 1) (j + 1) (by omega) (by omega)
    have h2 : 2 ^ (j + 1) ≤ 2 ^ 24 := Nat.pow_le_pow_right (by decide) (by omega)
    have h3 := Nat.mul_le_mul h2 (show 128 + 3 ≤ 131 by omega)
    by_cases hjm : j < m
    · have hc := cN_ql (pf_ql hB (by decide)) (j + 1) (by omega)
      have hpl := pf_ql hB (by decide) (m - j - 1)
      have hxl := hl _ (List.getElem_mem (l := l) (n := m - j - 1) (by omega))
      have hm1 := qmul_p (nq (cN (pf l) (j + 1))) l[m - j - 1] (.n _ (by omega)) ⟨hxl.rq, hxl.ne⟩ (by rw [ofQ_nq]; omega) (by have := hxl.ql; omega)
      rw [ofQ_nq, ← pf_get (show m - j - 1 < l.length by omega)] at hm1
      have hml2 := ql_mul (cN (pf l) (j + 1)) (pf l (m - j - 1))
      have ha := qadd_p (sv l (m + 1) (j + 1)) (nq (cN (pf l) (j + 1) * pf l (m - j - 1))) hg (.n _ (by omega)) (by rw [hv]; omega) (by rw [ofQ_nq]; omega)
      have e : nq (ofQ (sv l (m + 1) (j + 1)) + ofQ (nq (cN (pf l) (j + 1) * pf l (m - j - 1)))) = sv l (m + 1) (j + 1 + 1) := by
        rw [hv, ofQ_nq]
        conv => rhs; unfold sv
        rw [if_neg (by omega)]
        have : m - j - 1 = m + 1 - 1 - (j + 1) := by omega
        rw [this]; rfl
      rw [e] at ha
      have hz2 : (j : Int) + 1 < (m : Int) + 1 := by omega
      have hz3 : (l.length : Int) - ((j : Int) + 1) = ((l.length - (j + 1) : Nat) : Int) := by omega
      have hz4 : (m : Int) + 1 - ((j : Int) + 1) - 1 = ((m - j - 1 : Nat) : Int) := by omega
      have hge := fl_get (pf l) (n := l.length) (k := m + 1) (i := j + 1) (by omega) (by omega)
      have hjl : m - j - 1 < l.length := by omega
      generalize cN (pf l) (j + 1) * pf l (m - j - 1) = X at *
      generalize cN (pf l) (j + 1) = c at *
      simp -implicitDefEqProofs [go_sem, hjm, hz3, hz4, hge, fl_len, hjl]; (repeat refine And.intro (by first | decide +kernel | omega | kernel_rfl) ?_); (try decide +kernel)
      refine .inl ⟨_, hm1, ?_⟩; simp -implicitDefEqProofs [go_sem, hz3, hz4, hge, hjl]; (repeat refine And.intro (by first | decide +kernel | omega | kernel_rfl) ?_); (try decide +kernel)
      refine .inl ⟨_, ha, ?_⟩; simp -implicitDefEqProofs [go_sem]; (repeat refine And.intro (by first | decide +kernel | omega | kernel_rfl) ?_); (try decide +kernel)
      refine ⟨j + 1, ?_⟩; (repeat' apply And.intro) <;> first | omega | assumption | rfl
    · obtain rfl : j = m := by omega
      have hz2 : ¬ (j : Int) + 1 < (j : Int) + 1 := by omega
      have hQ := qquo_p (sv l (j + 1) (j + 1)) (nq (-(((j + 1 : Nat) : Int) : Rat))) hg (.n _ (by have := ql_neg_int (k := j + 1) (by omega) (by omega); omega)) (by rw [hv]; omega) (by rw [ofQ_nq]; have := ql_neg_int (k := j + 1) (by omega) (by omega); omega) (by rw [ofQ_nq]; exact neg_int_ne (by omega))
      rw [hv, ofQ_nq, ← cN_pos (pf l) (k := j + 1) (by omega)] at hQ
      have hof := qof_p (-((j + 1 : Nat) : Int)) (by omega) (by omega)
      rw [Rat.intCast_neg] at hof
      generalize -(((j + 1 : Nat) : Int) : Rat) = q1 at hof hQ
      have hof : PCall Tryz.prog 172 [.d (.v (.int .i64 (-((j : Int) + 1))))] (.one (.d (qd (nq q1)))) := hof
      have hz3 : (l.length : Int) - ((j : Int) + 1) = ((l.length - (j + 1) : Nat) : Int) := by omega
      have hgz : (fl (pf l) l.length (j + 1))[l.length - (j + 1)]? = some [.v (.bool false), .sl [], .v (.bool false), .sl []] := fl_zq (pf l) (by omega)
      have hst := fl_set (pf l) (n := l.length) (k := j + 1) (by omega)
      simp -implicitDefEqProofs [go_sem, hz2, hz3]; (repeat refine And.intro (by first | decide +kernel | omega | kernel_rfl) ?_); (try decide +kernel)
      refine .inl ⟨_, hof, ?_⟩; simp -implicitDefEqProofs [go_sem]; (repeat refine And.intro (by first | decide +kernel | omega | kernel_rfl) ?_); (try decide +kernel)
      refine .inl ⟨_, hQ, ?_⟩; simp -implicitDefEqProofs [go_sem, hz3, hgz, fl_len]; (repeat refine And.intro (by first | decide +kernel | omega | kernel_rfl) ?_); (try decide +kernel)
      refine ⟨j + 1, ?_⟩; (repeat' apply And.intro) <;> first | omega | (exact hst) | assumption | rfl
  · obtain rfl : m = l.length := by omega
    have hz1 : ¬ (l.length : Int) + 1 ≤ (l.length : Int) := by omega
    have hall := fl_all (pf l) l.length
    simp -implicitDefEqProofs [go_sem, hz1, hall]; (repeat refine And.intro (by first | decide +kernel | omega | kernel_rfl) ?_); (try decide +kernel)
end Go.Mt
