/-
  A part of the proof.
-/
import Derived.Test.YtmhclkagdpbadaaGreatEtr43
import Derived.Test.YtmhclkagdpbadaaGreatEtr36
set_option linter.unusedVariables false
set_option linter.unusedSimpArgs false
set_option linter.unusedSimpArgs false
set_option linter.unusedVariables false
namespace Go.Mt
open Go Go.Pm Go.Proofs
/-- how many are left without the noughts at the end -/
def trN (qs : List Rat) : Nat → Nat
  | 0 => 0
  | n + 1 => if (qs[n]?).getD 0 = 0 then trN qs n else n + 1
def trimQ (qs : List Rat) : List Rat := qs.take (trN qs qs.length)
theorem trN_le (qs : List Rat) (n : Nat) : trN qs n ≤ n := by
  induction n with
  | zero => exact Nat.le_refl _
  | succ n ih => unfold trN; split <;> omega
theorem trimQ_len (qs : List Rat) : (trimQ qs).length = trN qs qs.length := by
  have := trN_le qs qs.length
  unfold trimQ; rw [List.length_take]; omega
theorem trimQ_mem {qs : List Rat} {q : Rat} (h : q ∈ trimQ qs) : q ∈ qs := List.mem_of_mem_take h
theorem trim_p (qs : List Rat) (hq : ∀ q ∈ qs, ql q < 549755813888) (hn : qs.length < 549755813888) : PCall Tryz.prog 284 [.d (.sl (qes (qs.map nq)))] (.one (.d (.sl (qes ((trimQ qs).map nq))))) := by
  obtain ⟨N, hN⟩ : ∃ N, N = trN qs qs.length := ⟨_, rfl⟩
  have hNl : N ≤ qs.length := hN ▸ trN_le _ _
  refine pcallS_of Tryz.func284 rfl (by kernel_rfl) (by simp [Tryz.ntmps284]) ?_; rw [Tryz.ntmps284]
  refine .seq (.of_fn hmo ?_); simp -implicitDefEqProofs [go_sem]; (repeat refine And.intro (by first | decide +kernel | omega | kernel_rfl) ?_); (try decide +kernel)
  refine .seq (.of_fn hmo ?_); simp -implicitDefEqProofs [go_sem]; (repeat refine And.intro (by first | decide +kernel | omega | kernel_rfl) ?_); (try decide +kernel)
  refine .cut ⟨26, [(0, .d (.sl (qes (qs.map nq)))), (3, intP .i64 (N : Int))], [], 5000⟩ (.of_fn hmo ?_) (.of_fn hmo ?_)
  · simp -implicitDefEqProofs [go_sem]; (repeat refine And.intro (by first | decide +kernel | omega | kernel_rfl) ?_); (try decide +kernel)
    refine loop_rule [] (fun (n : Nat) => ⟨26, [(0, .d (.sl (qes (qs.map nq)))), (3, intP .i64 (n : Int))], [], 1000⟩)
      (fun n => n ≤ qs.length ∧ N = trN qs n) (fun n => n) qs.length ⟨Nat.le_refl _, hN⟩ (by simp) (by simp -implicitDefEqProofs [go_sem]) (fun n ⟨hn2, he⟩ => ?_)
    cases n with
    | zero =>
      have he : N = 0 := he
      rw [he]
      simp -implicitDefEqProofs [go_sem, undef]; (repeat refine And.intro (by first | decide +kernel | omega | kernel_rfl) ?_); (try decide +kernel)
    | succ n =>
      have hnl : n < qs.length := by omega
      have hqn := hq _ (List.getElem_mem hnl)
      have hs := sign_n qs[n].num (by have := ql_num qs[n]; omega)
      have e1 : (qs[n]?).getD 0 = qs[n] := by rw [List.getElem?_eq_getElem hnl]; rfl
      by_cases h0 : qs[n] = 0
      · have he2 : N = trN qs n := by rw [he, trN, e1, if_pos h0]
        rw [h0] at hs
        have hs : PCall Tryz.prog 124 [.d (zd (nrm qs[n].num))] (.one (.d (.v (.int .i64 0)))) := by rw [h0]; exact hs
        simp -implicitDefEqProofs [go_sem, hnl]; (repeat refine And.intro (by first | decide +kernel | omega | kernel_rfl) ?_); (try decide +kernel)
        refine .inl ⟨_, hs, ?_⟩; simp -implicitDefEqProofs [go_sem]; (repeat refine And.intro (by first | decide +kernel | omega | kernel_rfl) ?_); (try decide +kernel)
        exact ⟨n, ⟨by omega, he2⟩, by omega, by omega⟩
      · have he2 : N = n + 1 := by rw [he, trN, e1, if_neg h0]
        have hsn : ¬ qs[n].num.sign = 0 := fun h => num_ne h0 (Int.sign_eq_zero_iff_zero.1 h)
        rw [he2]
        simp -implicitDefEqProofs [go_sem, hnl]; (repeat refine And.intro (by first | decide +kernel | omega | kernel_rfl) ?_); (try decide +kernel)
        refine .inl ⟨_, hs, ?_⟩; simp -implicitDefEqProofs [go_sem, hsn]; (repeat refine And.intro (by first | decide +kernel | omega | kernel_rfl) ?_); (try decide +kernel)
  · have e : trimQ qs = qs.take N := by rw [hN]; rfl
    rw [e]
    by_cases h0 : N = 0
    · rw [h0]
      simp -implicitDefEqProofs [go_sem]; (repeat refine And.intro (by first | decide +kernel | omega | kernel_rfl) ?_); (try decide +kernel)
    · have h0z : ¬ ((N : Nat) : Int) = 0 := by omega
      have hNz : (N : Int) ≤ (qs.length : Int) := by omega
      simp -implicitDefEqProofs [go_sem, h0, h0z, hNl, hNz]; (repeat refine And.intro (by first | decide +kernel | omega | kernel_rfl) ?_); (try decide +kernel)
      unfold qes; rw [List.map_take]
theorem sign5_p (x : QR) (h : Rq x) : PCall Tryz.prog 93 [.d (qd x)] (.one (.d (.v (.int .i64 ((ofR x.1).sign * (ofR x.2).sign))))) := by
  have h1 := sign3_p x.1 h.1
  have h2 := sign3_p x.2 h.2
  have key : ∀ z : Int, -1 ≤ z.sign ∧ z.sign ≤ 1 := fun z => by
    rcases Int.lt_trichotomy z 0 with h | h | h
    · rw [Int.sign_eq_neg_one_of_neg h]; omega
    · rw [h]; decide
    · rw [Int.sign_eq_one_of_pos h]; omega
  have k1 := key (ofR x.1)
  have k2 := key (ofR x.2)
  generalize (ofR x.1).sign = a at *
  generalize (ofR x.2).sign = b at *
  have k3 : -1 ≤ a * b ∧ a * b ≤ 1 := by
    have : a = -1 ∨ a = 0 ∨ a = 1 := by omega
    rcases this with rfl | rfl | rfl <;> omega
  refine pcall_of hmo Tryz.func93 rfl (by kernel_rfl) (by simp [Tryz.ntmps93]) ?_; simp -implicitDefEqProofs [go_sem, Tryz.ntmps93]; (repeat refine And.intro (by first | decide +kernel | omega | kernel_rfl) ?_); (try decide +kernel)
  refine .inl ⟨_, h1, ?_⟩; simp -implicitDefEqProofs [go_sem]; (repeat refine And.intro (by first | decide +kernel | omega | kernel_rfl) ?_); (try decide +kernel)
  refine .inl ⟨_, h2, ?_⟩; simp -implicitDefEqProofs [go_sem]; (repeat refine And.intro (by first | decide +kernel | omega | kernel_rfl) ?_); (try decide +kernel)
end Go.Mt
/-
  A part of the proof.
-/
set_option linter.unusedSimpArgs false
set_option linter.unusedVariables false
namespace Go.Mt
open Go Go.Pm Go.Proofs
theorem ratv_zero {z d : Int} (hd : d ≠ 0) (h : ratv z d = 0) : z = 0 := by
  have h1 := ratv_mul z d d 1
  rw [h, Rat.zero_mul, Int.mul_one, Int.mul_comm z d] at h1
  have h2 : ratv (d * z) d = ratv z 1 := by
    have := ratv_scale hd z 1
    rw [Int.mul_one] at this; exact this
  rw [h2, ratv_one] at h1
  exact (Rat.intCast_inj.1 (show ((0 : Int) : Rat) = (z : Rat) from h1)).symm
/-- a polynomial's numbers -/
def plQ (l : List QR) : List Rat := trimQ (l.map ofQ)
set_option maxRecDepth 100000 in
theorem norm9_p (l : List QR) (hl : ∀ x ∈ l, Lq x) (hn : l.length < 549755813888) : PCall Tryz.prog 157 [.d (.sl (qes l))] (.one (.d (.sl (qes ((plQ l).map nq))))) := by
  obtain ⟨N, hN⟩ : ∃ N, N = trN (l.map ofQ) l.length := ⟨_, rfl⟩
  have hNl : N ≤ l.length := hN ▸ trN_le _ _
  have hp : plQ l = (l.take N).map ofQ := by unfold plQ trimQ; rw [List.length_map, ← hN, List.map_take]
  obtain ⟨L, hL⟩ : ∃ L, L = (plQ l).map nq := ⟨_, rfl⟩
  have hLl : L.length = N := by rw [hL, hp]; simp; omega
  have hLq : ∀ k, k < N → L[k]? = (l[k]?).map fun x => nq (ofQ x) := fun k hk => by
    rw [hL, hp]; simp [List.getElem?_take, hk]; rfl
  have hLg : ∀ k (hk : k < N), L[k]? = some (nq (ofQ (l[k]'(by omega)))) := fun k hk => by
    rw [hLq k hk, List.getElem?_eq_getElem (show k < l.length by omega)]; rfl
  rw [← hL]
  refine pcallS_of Tryz.func157 rfl (by kernel_rfl) (by simp [Tryz.ntmps157]) ?_; rw [Tryz.ntmps157]
  refine .seq (.of_fn hmo ?_); simp -implicitDefEqProofs [go_sem]; (repeat refine And.intro (by first | decide +kernel | omega | kernel_rfl) ?_); (try decide +kernel)
  refine .seq (.of_fn hmo ?_); simp -implicitDefEqProofs [go_sem]; (repeat refine And.intro (by first | decide +kernel | omega | kernel_rfl) ?_); (try decide +kernel)
  refine .cut ⟨38, [(0, .d (.sl (qes l))), (3, intP .i64 (N : Int))], [], 5000⟩ (.of_fn hmo ?_) (.of_fn hmo ?_)
  · simp -implicitDefEqProofs [go_sem]; (repeat refine And.intro (by first | decide +kernel | omega | kernel_rfl) ?_); (try decide +kernel)
    refine loop_rule [] (fun (n : Nat) => ⟨38, [(0, .d (.sl (qes l))), (3, intP .i64 (n : Int))], [], 1000⟩)
      (fun n => n ≤ l.length ∧ N = trN (l.map ofQ) n) (fun n => n) l.length ⟨Nat.le_refl _, hN⟩ (by simp) (by simp -implicitDefEqProofs [go_sem]) (fun n ⟨hn2, he⟩ => ?_)
    cases n with
    | zero =>
      have he : N = 0 := he
      rw [he]
      simp -implicitDefEqProofs [go_sem, undef]; (repeat refine And.intro (by first | decide +kernel | omega | kernel_rfl) ?_); (try decide +kernel)
    | succ n =>
      have hnl : n < l.length := by omega
      have hx := hl _ (List.getElem_mem hnl)
      have hs := sign5_p l[n] hx.rq
      have e1 : ((l.map ofQ)[n]?).getD 0 = ofQ l[n] := by rw [List.getElem?_map, List.getElem?_eq_getElem hnl]; rfl
      have hden : (ofR l[n].2).sign ≠ 0 := fun h => hx.ne (Int.sign_eq_zero_iff_zero.1 h)
      by_cases h0 : ofQ l[n] = 0
      · have he2 : N = trN (l.map ofQ) n := by rw [he, trN, e1, if_pos h0]
        have hz : ofR l[n].1 = 0 := by
          by_cases hh : ofR l[n].1 = 0
          · exact hh
          · exact absurd h0 (fun h => by
              exact hh (ratv_zero hx.ne h))
        rw [hz] at hs
        have hs : PCall Tryz.prog 93 [.d (qd l[n])] (.one (.d (.v (.int .i64 0)))) := by
          have e : (0 : Int).sign * (ofR l[n].2).sign = 0 := by simp
          rw [e] at hs; exact hs
        simp -implicitDefEqProofs [go_sem, hnl]; (repeat refine And.intro (by first | decide +kernel | omega | kernel_rfl) ?_); (try decide +kernel)
        refine .inl ⟨_, hs, ?_⟩; simp -implicitDefEqProofs [go_sem]; (repeat refine And.intro (by first | decide +kernel | omega | kernel_rfl) ?_); (try decide +kernel)
        exact ⟨n, ⟨by omega, he2⟩, by omega, by omega⟩
      · have he2 : N = n + 1 := by rw [he, trN, e1, if_neg h0]
        have hsn : ¬ (ofR l[n].1).sign * (ofR l[n].2).sign = 0 := fun h => by
          rcases Int.mul_eq_zero.1 h with h | h
          · exact h0 (by unfold ofQ; rw [Int.sign_eq_zero_iff_zero.1 h]; exact ratv_z _)
          · exact hden h
        rw [he2]
        generalize (ofR l[n].1).sign * (ofR l[n].2).sign = SG at *
        simp -implicitDefEqProofs [go_sem, hnl]; (repeat refine And.intro (by first | decide +kernel | omega | kernel_rfl) ?_); (try decide +kernel)
        refine .inl ⟨_, hs, ?_⟩; simp -implicitDefEqProofs [go_sem, hsn]; (repeat refine And.intro (by first | decide +kernel | omega | kernel_rfl) ?_); (try decide +kernel)
  · simp -implicitDefEqProofs [go_sem]; (repeat refine And.intro (by first | decide +kernel | omega | kernel_rfl) ?_); (try decide +kernel)
    refine loop_rule [] (fun (k : Nat) => ⟨38, [(0, .d (.sl (qes l))), (4, .sr 5004 0), (24, intP .i64 (N : Int)), (25, intP .i64 (k : Int))],
        [(5004, .arr ⟨72, 4, 0, false, qfil L k⟩)], 8000⟩)
      (fun k => k ≤ N) (fun k => N - k) 0 (Nat.zero_le _) (by simp) (by simp -implicitDefEqProofs [go_sem, qfil, hLl]) (fun k hk => ?_)
    have hzl : (qfil L k).length = N := by unfold qfil; rw [← hLl, ← qes_len L]; exact fill_len (qes L) _ (by rw [qes_len]; omega)
    by_cases hkl : k < N
    · have hkl2 : k < l.length := by omega
      have hno := norm5_p l[k] (hl _ (List.getElem_mem hkl2))
      have hg : (qfil L k)[k]? = some [.v (.bool false), .sl [], .v (.bool false), .sl []] := by unfold qfil; rw [← qes_len L]; exact fill_get (qes L) _ (by rw [qes_len]; omega)
      have hst : (qfil L k).set k (qel (nq (ofQ l[k]))) = qfil L (k + 1) := fill_x (qes L) _ _ (qes_len L) (by unfold qes; rw [List.getElem?_map, hLg k hkl]; rfl)
      generalize ofQ l[k] = Q at *
      simp -implicitDefEqProofs [go_sem, hkl, hkl2]; (repeat refine And.intro (by first | decide +kernel | omega | kernel_rfl) ?_); (try decide +kernel)
      refine .inl ⟨_, hno, ?_⟩; simp -implicitDefEqProofs [go_sem, hzl, hg]; (repeat refine And.intro (by first | decide +kernel | omega | kernel_rfl) ?_); (try decide +kernel)
      refine ⟨k + 1, ?_⟩; (repeat' apply And.intro) <;> first | omega | (exact hst) | assumption | rfl
    · obtain rfl : k = N := by omega
      have e : qfil L k = qes L := by unfold qfil; rw [← hLl, ← qes_len L]; exact fill_end (qes L) _
      simp -implicitDefEqProofs [go_sem, e]; (repeat refine And.intro (by first | decide +kernel | omega | kernel_rfl) ?_); (try decide +kernel)
set_option maxRecDepth 100000 in
theorem qpnorm_p (l : List QR) (hl : ∀ x ∈ l, Rq x ∧ x.1.2.length < 8589934592 ∧ x.2.2.length < 8589934592) (hn : l.length < 549755813888) :
    PCall Tryz.prog 267 [.d (.sl (qes l))] (.tup [.d (.sl (qes (if l.all mayQ = true then (plQ l).map nq else []))), .d (.v (.int .i64 (if l.all mayQ = true then 0 else 6)))]) := by
  obtain ⟨L0, hL0⟩ : ∃ L0 : List QR, L0 = l.map fun x => nq (ofQ x) := ⟨_, rfl⟩
  have hL0l : L0.length = l.length := by rw [hL0, List.length_map]
  refine pcall_of hmo Tryz.func267 rfl (by kernel_rfl) (by simp [Tryz.ntmps267]) ?_; simp -implicitDefEqProofs [go_sem, Tryz.ntmps267]; (repeat refine And.intro (by first | decide +kernel | omega | kernel_rfl) ?_); (try decide +kernel)
  refine loop_rule [.arr 4 72 4] (fun (k : Nat) => ⟨30, [(4, .sr 24 k), (9, .d (.sl (qes l))), (10, intP .i64 (l.length : Int)), (11, intP .i64 (k : Int))],
      [(24, .arr ⟨72, 4, k, false, qes (L0.take k)⟩)], 1000⟩)
    (fun k => k ≤ l.length ∧ allK mayQ l k) (fun k => l.length - k) 0 ⟨Nat.zero_le _, allK_zero _ _⟩ (by simp) (by simp -implicitDefEqProofs [go_sem, qes]) (fun k ⟨hk, ha⟩ => ?_)
  by_cases hkl : k < l.length
  · obtain ⟨h1, h2, h3⟩ := hl _ (List.getElem_mem hkl)
    by_cases h0 : ofR (l[k]).2 = 0
    · have hno := norm_e l[k] h1 h0
      have e : l.all mayQ = false := by
        rw [List.all_eq_false]; exact ⟨l[k], List.getElem_mem hkl, by simp [mayQ, h0]⟩
      rw [e]
      simp -implicitDefEqProofs [go_sem, hkl]; (repeat refine And.intro (by first | decide +kernel | omega | kernel_rfl) ?_); (try decide +kernel)
      refine .inl ⟨_, hno, ?_⟩; simp -implicitDefEqProofs [go_sem]; (repeat refine And.intro (by first | decide +kernel | omega | kernel_rfl) ?_); (try decide +kernel)
    · have hno := norm_p l[k] h1 h0
      have hsn := take_snoc (e := qel (nq (ofQ l[k]))) qel L0 (k := k) (by omega) (by
        have : L0[k]'(by omega) = nq (ofQ l[k]) := by subst hL0; simp
        rw [this])
      obtain ⟨R, hR⟩ : ∃ R, R = (if l.all mayQ = true then (plQ l).map nq else []) := ⟨_, rfl⟩
      obtain ⟨E, hE⟩ : ∃ E : Int, E = (if l.all mayQ = true then 0 else 6) := ⟨_, rfl⟩
      rw [← hR, ← hE]
      generalize ofQ l[k] = Q at *
      simp -implicitDefEqProofs [go_sem, hkl]; (repeat refine And.intro (by first | decide +kernel | omega | kernel_rfl) ?_); (try decide +kernel)
      refine .inl ⟨_, hno, ?_⟩; simp -implicitDefEqProofs [go_sem]; (repeat refine And.intro (by first | decide +kernel | omega | kernel_rfl) ?_); (try decide +kernel)
      exact ⟨k + 1, ⟨by omega, allK_succ hkl ha (by simp [mayQ, h0])⟩, by omega, by omega, by omega, hsn⟩
  · obtain rfl : k = l.length := by omega
    have hall := allK_all ha
    have hL : ∀ x ∈ l, Lq x := fun x hx => ⟨(hl x hx).1, by have := List.all_eq_true.1 hall x hx; simpa [mayQ] using this, (hl x hx).2.1, (hl x hx).2.2⟩
    have ht := trim_p (l.map ofQ) (fun q hq => by
      obtain ⟨x, hx, rfl⟩ := List.mem_map.1 hq
      have := (hL x hx).ql; omega) (by simpa using hn)
    have ht : PCall Tryz.prog 284 [.d (.sl (qes ((l.map ofQ).map nq)))] (.one (.d (.sl (qes ((plQ l).map nq))))) := ht
    have e : (l.map ofQ).map nq = L0 := by rw [hL0, List.map_map]; rfl
    rw [e] at ht
    rw [hall, take_all hL0l]
    simp -implicitDefEqProofs [go_sem]; (repeat refine And.intro (by first | decide +kernel | omega | kernel_rfl) ?_); (try decide +kernel)
    refine .inl ⟨_, ht, ?_⟩; simp -implicitDefEqProofs [go_sem]; (repeat refine And.intro (by first | decide +kernel | omega | kernel_rfl) ?_); (try decide +kernel)
/-- a polynomial's faults -/
def fpE (l : List QR) : Int := if l.all mayQ = true then (if 101 < (plQ l).length ∨ 4096 < qhs (plQ l) then 4 else 0) else 6
end Go.Mt
/-
  A part of the proof.
-/
set_option linter.unusedSimpArgs false
set_option linter.unusedVariables false
namespace Go.Mt
open Go Go.Pm Go.Proofs
/-- a polynomial that came in -/
structure Ip (l : List QR) : Prop where
  q : ∀ x ∈ l, Rq x ∧ x.1.2.length < 1048577 ∧ x.2.2.length < 1048577
  n : l.length < 1048577
theorem Ip.lq {l : List QR} (h : Ip l) (ha : l.all mayQ = true) : ∀ x ∈ l, Lq x := fun x hx => by
  obtain ⟨h1, h2, h3⟩ := h.q x hx
  exact ⟨h1, by have := List.all_eq_true.1 ha x hx; simpa [mayQ] using this, by omega, by omega⟩
theorem plQ_ql {l : List QR} (h : Ip l) (ha : l.all mayQ = true) : ∀ q ∈ plQ l, ql q < 8589934592 := fun q hq => by
  obtain ⟨x, hx, rfl⟩ := List.mem_map.1 (trimQ_mem hq)
  exact (h.lq ha x hx).ql
theorem plQ_len (l : List QR) : (plQ l).length ≤ l.length := by
  have := trN_le (l.map ofQ) (l.map ofQ).length
  unfold plQ; rw [trimQ_len]; simpa using this
/-- what is left of a polynomial that fits -/
def fpX (l : List QR) : List QR := if fpE l = 0 then (plQ l).map nq else []
theorem fpE_may {l : List QR} (h : fpE l = 0) : l.all mayQ = true ∧ (plQ l).length ≤ 101 ∧ qhs (plQ l) ≤ 4096 := by
  unfold fpE at h
  by_cases ha : l.all mayQ = true
  · rw [if_pos ha] at h
    by_cases hb : 101 < (plQ l).length ∨ 4096 < qhs (plQ l)
    · rw [if_pos hb] at h; exact absurd h (by decide)
    · exact ⟨ha, by omega, by omega⟩
  · rw [if_neg ha] at h; exact absurd h (by decide)
theorem fitPoly14_p (l : List QR) (h : Ip l) : PCall Tryz.prog 71 [.d (.sl (qes l))] (.one (.d (.v (.int .i64 (fpE l))))) := by
  have ham := allMay5_p l (fun x hx => (h.q x hx).1) (by have := h.n; omega)
  have hmay : PCall Tryz.prog 156 [.d (.sl (qes l))] (.one (.d (.v (.bool (l.all mayQ))))) := by
    refine pcall_of hmo Tryz.func156 rfl (by kernel_rfl) (by simp [Tryz.ntmps156]) ?_; simp -implicitDefEqProofs [go_sem, Tryz.ntmps156]; (repeat refine And.intro (by first | decide +kernel | omega | kernel_rfl) ?_); (try decide +kernel)
    refine .inl ⟨_, ham, ?_⟩; simp -implicitDefEqProofs [go_sem]; (repeat refine And.intro (by first | decide +kernel | omega | kernel_rfl) ?_); (try decide +kernel)
  by_cases ha : l.all mayQ = true
  · rw [ha] at hmay
    have hno := norm9_p l (h.lq ha) (by have := h.n; omega)
    have hht := height5_r ((plQ l).map nq) (fun x hx => by
      obtain ⟨q, hq, rfl⟩ := List.mem_map.1 hx
      exact .n (plQ_ql h ha q hq)) (by rw [List.length_map]; have := plQ_len l; have := h.n; omega)
    have e : ((plQ l).map nq).map ofQ = plQ l := by
      rw [List.map_map]
      conv => rhs; rw [← List.map_id (plQ l)]
      exact List.map_congr_left fun q _ => ofQ_nq q
    rw [e] at hht
    have hlen : ((plQ l).map nq).length = (plQ l).length := List.length_map _
    have hn := h.n
    have hpl := plQ_len l
    by_cases h1 : 101 < (plQ l).length
    · have e : fpE l = 4 := by unfold fpE; rw [if_pos ha, if_pos (.inl h1)]
      have hz : (101 : Int) < ((plQ l).length : Int) := by omega
      rw [e]
      rw [← hlen] at h1 hz
      generalize (plQ l).map nq = L at *
      refine pcall_of hmo Tryz.func71 rfl (by kernel_rfl) (by simp [Tryz.ntmps71]) ?_; simp -implicitDefEqProofs [go_sem, Tryz.ntmps71]; (repeat refine And.intro (by first | decide +kernel | omega | kernel_rfl) ?_); (try decide +kernel)
      refine .inl ⟨_, hmay, ?_⟩; simp -implicitDefEqProofs [go_sem]; (repeat refine And.intro (by first | decide +kernel | omega | kernel_rfl) ?_); (try decide +kernel)
      refine .inl ⟨_, hno, ?_⟩; simp -implicitDefEqProofs [go_sem, h1, hz]; (repeat refine And.intro (by first | decide +kernel | omega | kernel_rfl) ?_); (try decide +kernel)
    · have hz : ¬ (101 : Int) < ((plQ l).length : Int) := by omega
      by_cases h2 : 4096 < qhs (plQ l)
      · have e : fpE l = 4 := by unfold fpE; rw [if_pos ha, if_pos (.inr h2)]
        have hz2 : (4096 : Int) < ((qhs (plQ l) : Nat) : Int) := by omega
        rw [e]
        rw [← hlen] at h1 hz
        generalize qhs (plQ l) = H at *
        generalize (plQ l).map nq = L at *
        refine pcall_of hmo Tryz.func71 rfl (by kernel_rfl) (by simp [Tryz.ntmps71]) ?_; simp -implicitDefEqProofs [go_sem, Tryz.ntmps71]; (repeat refine And.intro (by first | decide +kernel | omega | kernel_rfl) ?_); (try decide +kernel)
        refine .inl ⟨_, hmay, ?_⟩; simp -implicitDefEqProofs [go_sem]; (repeat refine And.intro (by first | decide +kernel | omega | kernel_rfl) ?_); (try decide +kernel)
        refine .inl ⟨_, hno, ?_⟩; simp -implicitDefEqProofs [go_sem, h1, hz]; (repeat refine And.intro (by first | decide +kernel | omega | kernel_rfl) ?_); (try decide +kernel)
        refine .inl ⟨_, hht, ?_⟩; simp -implicitDefEqProofs [go_sem, h2, hz2]; (repeat refine And.intro (by first | decide +kernel | omega | kernel_rfl) ?_); (try decide +kernel)
      · have e : fpE l = 0 := by unfold fpE; rw [if_pos ha, if_neg (by omega)]
        have hz2 : ¬ (4096 : Int) < ((qhs (plQ l) : Nat) : Int) := by omega
        rw [e]
        rw [← hlen] at h1 hz
        generalize qhs (plQ l) = H at *
        generalize (plQ l).map nq = L at *
        refine pcall_of hmo Tryz.func71 rfl (by kernel_rfl) (by simp [Tryz.ntmps71]) ?_; simp -implicitDefEqProofs [go_sem, Tryz.ntmps71]; (repeat refine And.intro (by first | decide +kernel | omega | kernel_rfl) ?_); (try decide +kernel)
        refine .inl ⟨_, hmay, ?_⟩; simp -implicitDefEqProofs [go_sem]; (repeat refine And.intro (by first | decide +kernel | omega | kernel_rfl) ?_); (try decide +kernel)
        refine .inl ⟨_, hno, ?_⟩; simp -implicitDefEqProofs [go_sem, h1, hz]; (repeat refine And.intro (by first | decide +kernel | omega | kernel_rfl) ?_); (try decide +kernel)
        refine .inl ⟨_, hht, ?_⟩; simp -implicitDefEqProofs [go_sem, h2, hz2]; (repeat refine And.intro (by first | decide +kernel | omega | kernel_rfl) ?_); (try decide +kernel)
  · have e : fpE l = 6 := by unfold fpE; rw [if_neg ha]
    rw [eq_false_of_ne_true ha] at hmay
    rw [e]
    refine pcall_of hmo Tryz.func71 rfl (by kernel_rfl) (by simp [Tryz.ntmps71]) ?_; simp -implicitDefEqProofs [go_sem, Tryz.ntmps71]; (repeat refine And.intro (by first | decide +kernel | omega | kernel_rfl) ?_); (try decide +kernel)
    refine .inl ⟨_, hmay, ?_⟩; simp -implicitDefEqProofs [go_sem]; (repeat refine And.intro (by first | decide +kernel | omega | kernel_rfl) ?_); (try decide +kernel)
theorem fitPoly_p (l : List QR) (h : Ip l) : PCall Tryz.prog 226 [.d (.sl (qes l))] (.tup [.d (.sl (qes (fpX l))), .d (.v (.int .i64 (fpE l)))]) := by
  have hno := qpnorm_p l (fun x hx => by obtain ⟨h1, h2, h3⟩ := h.q x hx; exact ⟨h1, by omega, by omega⟩) (by have := h.n; omega)
  by_cases ha : l.all mayQ = true
  · rw [if_pos ha, if_pos ha] at hno
    have hht := height_n (plQ l) (by have := plQ_len l; have := h.n; omega) (fun q hq => by have := plQ_ql h ha q hq; omega)
    have hlen : ((plQ l).map nq).length = (plQ l).length := List.length_map _
    have hn := h.n
    have hpl := plQ_len l
    by_cases h1 : 101 < (plQ l).length
    · have e : fpE l = 4 := by unfold fpE; rw [if_pos ha, if_pos (.inl h1)]
      have ex : fpX l = [] := by unfold fpX; rw [e]; rfl
      have hz : (100 : Int) < ((plQ l).length : Int) - 1 := by omega
      rw [e, ex]
      rw [← hlen] at hz h1 hpl
      generalize (plQ l).map nq = L at *
      refine pcall_of hmo Tryz.func226 rfl (by kernel_rfl) (by simp [Tryz.ntmps226]) ?_; simp -implicitDefEqProofs [go_sem, Tryz.ntmps226]; (repeat refine And.intro (by first | decide +kernel | omega | kernel_rfl) ?_); (try decide +kernel)
      refine .inl ⟨_, hno, ?_⟩; simp -implicitDefEqProofs [go_sem]; (repeat refine And.intro (by first | decide +kernel | omega | kernel_rfl) ?_); (try decide +kernel)
      refine .inl ⟨_, hht, ?_⟩; simp -implicitDefEqProofs [go_sem, hz]; (repeat refine And.intro (by first | decide +kernel | omega | kernel_rfl) ?_); (try decide +kernel)
    · have hz : ¬ (100 : Int) < ((plQ l).length : Int) - 1 := by omega
      by_cases h2 : 4096 < qhs (plQ l)
      · have e : fpE l = 4 := by unfold fpE; rw [if_pos ha, if_pos (.inr h2)]
        have ex : fpX l = [] := by unfold fpX; rw [e]; rfl
        have hz2 : (4096 : Int) < ((qhs (plQ l) : Nat) : Int) := by omega
        rw [e, ex]
        rw [← hlen] at hz hpl
        generalize qhs (plQ l) = H at *
        generalize (plQ l).map nq = L at *
        refine pcall_of hmo Tryz.func226 rfl (by kernel_rfl) (by simp [Tryz.ntmps226]) ?_; simp -implicitDefEqProofs [go_sem, Tryz.ntmps226]; (repeat refine And.intro (by first | decide +kernel | omega | kernel_rfl) ?_); (try decide +kernel)
        refine .inl ⟨_, hno, ?_⟩; simp -implicitDefEqProofs [go_sem]; (repeat refine And.intro (by first | decide +kernel | omega | kernel_rfl) ?_); (try decide +kernel)
        refine .inl ⟨_, hht, ?_⟩; simp -implicitDefEqProofs [go_sem, hz, h2, hz2]; (repeat refine And.intro (by first | decide +kernel | omega | kernel_rfl) ?_); (try decide +kernel)
      · have e : fpE l = 0 := by unfold fpE; rw [if_pos ha, if_neg (by omega)]
        have ex : fpX l = (plQ l).map nq := by unfold fpX; rw [if_pos e]
        have hz2 : ¬ (4096 : Int) < ((qhs (plQ l) : Nat) : Int) := by omega
        rw [e, ex]
        rw [← hlen] at hz hpl
        generalize qhs (plQ l) = H at *
        generalize (plQ l).map nq = L at *
        refine pcall_of hmo Tryz.func226 rfl (by kernel_rfl) (by simp [Tryz.ntmps226]) ?_; simp -implicitDefEqProofs [go_sem, Tryz.ntmps226]; (repeat refine And.intro (by first | decide +kernel | omega | kernel_rfl) ?_); (try decide +kernel)
        refine .inl ⟨_, hno, ?_⟩; simp -implicitDefEqProofs [go_sem]; (repeat refine And.intro (by first | decide +kernel | omega | kernel_rfl) ?_); (try decide +kernel)
        refine .inl ⟨_, hht, ?_⟩; simp -implicitDefEqProofs [go_sem, hz, h2, hz2]; (repeat refine And.intro (by first | decide +kernel | omega | kernel_rfl) ?_); (try decide +kernel)
        omega
  · have e : fpE l = 6 := by unfold fpE; rw [if_neg ha]
    have ex : fpX l = [] := by unfold fpX; rw [e]; rfl
    rw [if_neg ha, if_neg ha] at hno
    rw [e, ex]
    refine pcall_of hmo Tryz.func226 rfl (by kernel_rfl) (by simp [Tryz.ntmps226]) ?_; simp -implicitDefEqProofs [go_sem, Tryz.ntmps226]; (repeat refine And.intro (by first | decide +kernel | omega | kernel_rfl) ?_); (try decide +kernel)
    refine .inl ⟨_, hno, ?_⟩; simp -implicitDefEqProofs [go_sem]; (repeat refine And.intro (by first | decide +kernel | omega | kernel_rfl) ?_); (try decide +kernel)
end Go.Mt
/-
  A part of the proof.
-/
set_option linter.unusedSimpArgs false
set_option linter.unusedVariables false
namespace Go.Mt
open Go Go.Pm Go.Proofs
/-- what a call was given: a polynomial, a matrix, no vector -/
def acl (f : List QR) (m : MR) : List PV := [.d (.sl (qes f)), .d (.v (.bool m.1.1)), .d (.sl (les m.1.2)), .d (.sl (rws m.2)), .d (.v (.bool false)), .nl, .nl]
def hsA (f : List QR) (m : MR) (e : Int) : Heap := [(36, .box [.pr 24 0 0 0]), (40, .box [.d (.v (.bool false))]), (44, .box [.d (.v (.int .i64 e))]), (24, .box (acl f m))]
attribute [go_sem] acl hsA
def fmX (m : MR) : MR := if fitE m = 0 then nm (valM m) else zM
set_option maxRecDepth 100000 in
theorem fits1_h (l : List QR) (m : MR) (h : Ip l) : HCall Tryz.prog 225 [.pr 36 0 0 0, .pr 44 0 0 0] (hsA l m 0) 1020 (.tup []) (hsA (fpX l) m (fpE l)) := by
  have hf := fitPoly_p l h
  generalize fpX l = X at *
  refine hcall_of (L := []) hmo Tryz.func225 rfl (by kernel_rfl) (by simp [Tryz.ntmps225]) (by simp -implicitDefEqProofs [go_sem]) (by simp -implicitDefEqProofs [go_sem]) ?_
  simp -implicitDefEqProofs [go_sem, Tryz.ntmps225]
  refine .inl ⟨_, hf, ?_⟩; simp -implicitDefEqProofs [go_sem]; (repeat refine And.intro (by first | decide +kernel | omega | kernel_rfl) ?_); (try decide +kernel)
theorem fitMat_y (m : MR) (h : Im m) : PCall Tryz.prog 150 [.d (md m)] (.tup [.d (md (fmX m)), .d (.v (.int .i64 (fitE m)))]) := by
  have hx := fitMat_x m h.d h.g h.gm (by decide) (by have := h.vfl; omega)
  unfold fmX
  by_cases h0 : fitE m = 0
  · rw [if_pos h0] at hx ⊢; exact hx
  · rw [if_neg h0] at hx ⊢; exact hx
set_option maxRecDepth 100000 in
theorem fits2_h (X : List QR) (m : MR) (h : Im m) : HCall Tryz.prog 227 [.pr 36 0 0 0, .pr 44 0 0 0] (hsA X m 0) 1020 (.tup []) (hsA X (fmX m) (fitE m)) := by
  have hf := fitMat_y m h
  generalize fmX m = Y at *
  refine hcall_of (L := []) hmo Tryz.func227 rfl (by kernel_rfl) (by simp [Tryz.ntmps227]) (by simp -implicitDefEqProofs [go_sem]) (by simp -implicitDefEqProofs [go_sem]) ?_
  simp -implicitDefEqProofs [go_sem, Tryz.ntmps227]
  refine .inl ⟨_, hf, ?_⟩; simp -implicitDefEqProofs [go_sem]; (repeat refine And.intro (by first | decide +kernel | omega | kernel_rfl) ?_); (try decide +kernel)
theorem fits3_h (X : List QR) (m : MR) : HCall Tryz.prog 228 [.pr 40 0 0 0, .pr 36 0 0 0, .pr 44 0 0 0] (hsA X m 0) 1020 (.tup []) (hsA X m 0) := by
  refine hcall_of (L := []) hmo Tryz.func228 rfl (by kernel_rfl) (by simp [Tryz.ntmps228]) (by simp -implicitDefEqProofs [go_sem]) (by simp -implicitDefEqProofs [go_sem]) ?_
  simp -implicitDefEqProofs [go_sem, Tryz.ntmps228]
def fitsE (l : List QR) (m : MR) : Int := orE (fpE l) (fitE m)
def fitsM (l : List QR) (m : MR) : MR := if fpE l = 0 then fmX m else m
set_option maxRecDepth 100000 in
set_option maxHeartbeats 2000000 in
theorem fits_h (l : List QR) (m : MR) (hl : Ip l) (hm : Im m) : HCall Tryz.prog 161 [.pr 24 0 0 0, .d (.v (.bool false))] [(24, .box (acl l m))] 36 (.d (.v (.int .i64 (fitsE l m)))) [(24, .box (acl (fpX l) (fitsM l m)))] := by
  refine hcall_of (L := []) hmo Tryz.func161 rfl (by kernel_rfl) (by simp [Tryz.ntmps161]) (by simp -implicitDefEqProofs [go_sem]) (by simp -implicitDefEqProofs [go_sem]) ?_
  simp -implicitDefEqProofs [go_sem, Tryz.ntmps161]
  refine loop_rule [] (fun (k : Nat) => ⟨25, [(4, .pr 44 0 0 0), (12, .lt [.fn 225 [.pr 36 0 0 0, .pr 44 0 0 0], .fn 227 [.pr 36 0 0 0, .pr 44 0 0 0], .fn 228 [.pr 40 0 0 0, .pr 36 0 0 0, .pr 44 0 0 0]]), (13, intP .i64 3), (14, intP .i64 (k : Int))],
      hsA (if k = 0 then l else fpX l) (if k ≤ 1 then m else fmX m) 0, 1000⟩)
    (fun k => k ≤ 3 ∧ (1 ≤ k → fpE l = 0) ∧ (2 ≤ k → fitE m = 0)) (fun k => 3 - k) 0 ⟨by omega, fun h => absurd h (by omega), fun h => absurd h (by omega)⟩ (by simp) (by simp -implicitDefEqProofs [go_sem]) (fun k ⟨hk, h1, h2⟩ => ?_)
  have hc : k = 0 ∨ k = 1 ∨ k = 2 ∨ k = 3 := by omega
  rcases hc with rfl | rfl | rfl | rfl
  · have hf := fits1_h l m hl
    simp -implicitDefEqProofs [go_sem]; (repeat refine And.intro (by first | decide +kernel | omega | kernel_rfl) ?_); (try decide +kernel)
    refine .inr ⟨hsA l m 0, _, _, hf, by simp -implicitDefEqProofs [go_sem], ?_⟩
    have he : fitsE l m = if fpE l = 0 then fitE m else fpE l := rfl
    by_cases h0 : fpE l = 0
    · simp -implicitDefEqProofs [go_sem, h0]; (repeat refine And.intro (by first | decide +kernel | omega | kernel_rfl) ?_); (try decide +kernel)
      exact ⟨1, ⟨by omega, fun h => absurd h (by omega)⟩, by omega, rfl, by simp, by simp, by simp, by simp⟩
    · have hX : fpX l = fpX l := rfl
      simp -implicitDefEqProofs [go_sem, h0, he, fitsM]; (repeat refine And.intro (by first | decide +kernel | omega | kernel_rfl) ?_); (try decide +kernel)
  · have h0 := h1 (by omega)
    have hf := fits2_h (fpX l) m hm
    have he : fitsE l m = if fpE l = 0 then fitE m else fpE l := rfl
    simp -implicitDefEqProofs [go_sem]; (repeat refine And.intro (by first | decide +kernel | omega | kernel_rfl) ?_); (try decide +kernel)
    refine .inr ⟨hsA (fpX l) m 0, _, _, hf, by simp -implicitDefEqProofs [go_sem], ?_⟩
    by_cases h3 : fitE m = 0
    · simp -implicitDefEqProofs [go_sem, h3]; (repeat refine And.intro (by first | decide +kernel | omega | kernel_rfl) ?_); (try decide +kernel)
      exact ⟨2, ⟨by omega, fun _ => h0⟩, by omega, rfl, by simp, by simp, by simp, by simp⟩
    · simp -implicitDefEqProofs [go_sem, h0, h3, he, fitsM]; (repeat refine And.intro (by first | decide +kernel | omega | kernel_rfl) ?_); (try decide +kernel)
  · have h0 := h1 (by omega)
    have h3 := h2 (by omega)
    have hf := fits3_h (fpX l) (fmX m)
    simp -implicitDefEqProofs [go_sem]; (repeat refine And.intro (by first | decide +kernel | omega | kernel_rfl) ?_); (try decide +kernel)
    refine .inr ⟨hsA (fpX l) (fmX m) 0, _, _, hf, by simp -implicitDefEqProofs [go_sem], ?_⟩
    simp -implicitDefEqProofs [go_sem]; (repeat refine And.intro (by first | decide +kernel | omega | kernel_rfl) ?_); (try decide +kernel)
    exact ⟨3, ⟨by omega, fun _ => h0, fun _ => h3⟩, by omega, rfl, by simp, by simp, by simp, by simp⟩
  · have h0 := h1 (by omega)
    have h3 := h2 (by omega)
    have he : fitsE l m = if fpE l = 0 then fitE m else fpE l := rfl
    simp -implicitDefEqProofs [go_sem, h0, h3, he, fitsM]; (repeat refine And.intro (by first | decide +kernel | omega | kernel_rfl) ?_); (try decide +kernel)
end Go.Mt
