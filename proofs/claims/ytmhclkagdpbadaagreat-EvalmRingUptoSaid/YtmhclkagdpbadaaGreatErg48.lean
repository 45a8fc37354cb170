/-
  A part of the proof.
-/
import Derived.Test.YtmhclkagdpbadaaGreatErg45
import Derived.Test.YtmhclkagdpbadaaGreatErg47
import Derived.Test.YtmhclkagdpbadaaGreatErg40
import Derived.Test.YtmhclkagdpbadaaGreatErg46
set_option linter.unusedVariables false
set_option linter.unusedSimpArgs false
set_option linter.unusedSimpArgs false
set_option linter.unusedVariables false
namespace Go.Mt
open Go Go.Pm Go.Proofs
theorem add5_p (x y : QR) (hx : Lq x) (hy : Lq y) : PCall Tryz.prog 131 [.d (qd x), .d (qd y)] (.one (.d (qd (nq (ofQ x + ofQ y))))) := by
  have m1 := mul3_p x.1 y.2 hx.rq.1 hy.rq.2 (by have := hx.l1; omega) (by have := hy.l2; omega)
  have m2 := mul3_p y.1 x.2 hy.rq.1 hx.rq.2 (by have := hy.l1; omega) (by have := hx.l2; omega)
  have m3 := mul3_p x.2 y.2 hx.rq.2 hy.rq.2 (by have := hx.l2; omega) (by have := hy.l2; omega)
  have := zl_ofR hx.rq.1; have := zl_ofR hx.rq.2; have := zl_ofR hy.rq.1; have := zl_ofR hy.rq.2
  have := hx.l1; have := hx.l2; have := hy.l1; have := hy.l2
  have h1 := zl_add (ofR x.1 * ofR y.2) (ofR y.1 * ofR x.2)
  have h2 := zl_mul (ofR x.1) (ofR y.2)
  have h3 := zl_mul (ofR y.1) (ofR x.2)
  have h4 := zl_mul (ofR x.2) (ofR y.2)
  have ha := add3_n (ofR x.1 * ofR y.2) (ofR y.1 * ofR x.2) (by omega) (by omega)
  have hm := make5_n (ofR x.1 * ofR y.2 + ofR y.1 * ofR x.2) (ofR x.2 * ofR y.2) (by omega) (by omega) (Int.mul_ne_zero hx.ne hy.ne)
  have e : ratv (ofR x.1 * ofR y.2 + ofR y.1 * ofR x.2) (ofR x.2 * ofR y.2) = ofQ x + ofQ y := (ratv_add _ _ hx.ne hy.ne).symm
  rw [e] at hm
  refine pcall_of hmo Tryz.func131 rfl (by kernel_rfl) (by simp [Tryz.ntmps131]) ?_; simp -implicitDefEqProofs [go_sem, Tryz.ntmps131]; (repeat refine And.intro (by first | decide +kernel | omega | kernel_rfl) ?_); (try decide +kernel)
  refine .inl ⟨_, m1, ?_⟩; simp -implicitDefEqProofs [go_sem]; (repeat refine And.intro (by first | decide +kernel | omega | kernel_rfl) ?_); (try decide +kernel)
  refine .inl ⟨_, m2, ?_⟩; simp -implicitDefEqProofs [go_sem]; (repeat refine And.intro (by first | decide +kernel | omega | kernel_rfl) ?_); (try decide +kernel)
  refine .inl ⟨_, ha, ?_⟩; simp -implicitDefEqProofs [go_sem]; (repeat refine And.intro (by first | decide +kernel | omega | kernel_rfl) ?_); (try decide +kernel)
  refine .inl ⟨_, m3, ?_⟩; simp -implicitDefEqProofs [go_sem]; (repeat refine And.intro (by first | decide +kernel | omega | kernel_rfl) ?_); (try decide +kernel)
  refine .inl ⟨_, hm, ?_⟩; simp -implicitDefEqProofs [go_sem]; (repeat refine And.intro (by first | decide +kernel | omega | kernel_rfl) ?_); (try decide +kernel)
def qg (l : List QR) (i : Nat) : QR := (l[i]?).getD (nq 0)
theorem lq_0 : Lq (nq 0) := .n (by decide)
theorem qg_lq {l : List QR} (h : ∀ x ∈ l, Lq x) (i : Nat) : Lq (qg l i) := by
  unfold qg
  cases hi : l[i]? with
  | none => exact lq_0
  | some x => exact h x (List.mem_of_getElem? hi)
set_option maxRecDepth 100000 in
theorem at9_p (l : List QR) (i : Nat) (hl : l.length < 549755813888) (hi : i < 549755813888) : PCall Tryz.prog 158 [.d (.sl (qes l)), .d (.v (.int .i64 (i : Int)))] (.one (.d (qd (qg l i)))) := by
  have hn : ¬ (i : Int) < 0 := by omega
  by_cases h : i < l.length
  · have e : qg l i = l[i] := by unfold qg; rw [List.getElem?_eq_getElem h]; rfl
    have h' : ¬ (l.length : Int) ≤ (i : Int) := by omega
    have h'' : ¬ l.length ≤ i := by omega
    rw [e]
    refine pcall_of hmo Tryz.func158 rfl (by kernel_rfl) (by simp [Tryz.ntmps158]) ?_; simp -implicitDefEqProofs [go_sem, Tryz.ntmps158]; (repeat refine And.intro (by first | decide +kernel | omega | kernel_rfl) ?_); (try decide +kernel)
    simp -implicitDefEqProofs [go_sem, hn, h, h', h'']; (repeat refine And.intro (by first | decide +kernel | omega | kernel_rfl) ?_); (try decide +kernel)
  · have e : qg l i = nq 0 := by unfold qg; rw [List.getElem?_eq_none (by omega)]; rfl
    have h' : (l.length : Int) ≤ (i : Int) := by omega
    have h'' : l.length ≤ i := by omega
    rw [e]
    refine pcall_of hmo Tryz.func158 rfl (by kernel_rfl) (by simp [Tryz.ntmps158]) ?_; simp -implicitDefEqProofs [go_sem, Tryz.ntmps158]; (repeat refine And.intro (by first | decide +kernel | omega | kernel_rfl) ?_); (try decide +kernel)
    simp -implicitDefEqProofs [go_sem, hn, h, h', h'']; (repeat refine And.intro (by first | decide +kernel | omega | kernel_rfl) ?_); (try decide +kernel)
    refine .inl ⟨_, of5_0, ?_⟩; simp -implicitDefEqProofs [go_sem]; (repeat refine And.intro (by first | decide +kernel | omega | kernel_rfl) ?_); (try decide +kernel)
end Go.Mt
/-
  A part of the proof.
-/
set_option linter.unusedSimpArgs false
set_option linter.unusedVariables false
namespace Go.Mt
open Go Go.Pm Go.Proofs
theorem plQ_nq (V : List Rat) : plQ (V.map nq) = trimQ V := by
  unfold plQ
  rw [List.map_map]
  congr 1
  exact List.map_id'' (fun q => ofQ_nq q) V
theorem norm9_n (V : List Rat) (hV : ∀ q ∈ V, ql q < 8589934592) (hn : V.length < 549755813888) : PCall Tryz.prog 157 [.d (.sl (qes (V.map nq)))] (.one (.d (.sl (qes ((trimQ V).map nq))))) := by
  have h := norm9_p (V.map nq) (fun x hx => by obtain ⟨q, hq, rfl⟩ := List.mem_map.1 hx; exact .n (hV q hq)) (by rw [List.length_map]; exact hn)
  rw [plQ_nq] at h
  exact h
def add9V (l m : List QR) : List Rat := (List.range (max l.length m.length)).map fun i => ofQ (qg l i) + ofQ (qg m i)
def scale9V (l : List QR) (c : QR) : List Rat := l.map fun x => ofQ x * ofQ c
def shift9V (l : List Rat) (k : Nat) : List Rat := List.replicate k 0 ++ l
set_option maxRecDepth 100000 in
set_option maxHeartbeats 2000000 in
theorem scale9_p (l : List QR) (c : QR) (hl : ∀ x ∈ l, Lq x) (hc : Lq c) (hn : l.length < 549755813888) (hV : ∀ q ∈ scale9V l c, ql q < 8589934592) : PCall Tryz.prog 160 [.d (.sl (qes l)), .d (qd c)] (.one (.d (.sl (qes ((trimQ (scale9V l c)).map nq))))) := by
  obtain ⟨V, hVd⟩ : ∃ V, V = scale9V l c := ⟨_, rfl⟩
  rw [← hVd] at hV ⊢
  have hVl : V.length = l.length := by rw [hVd]; exact List.length_map ..
  have hno := norm9_n V hV (by omega)
  obtain ⟨L, hL⟩ : ∃ L, L = V.map nq := ⟨_, rfl⟩
  rw [← hL] at hno
  have hLl : L.length = l.length := by rw [hL, List.length_map, hVl]
  refine pcall_of hmo Tryz.func160 rfl (by kernel_rfl) (by simp [Tryz.ntmps160]) ?_; simp -implicitDefEqProofs [go_sem, Tryz.ntmps160]; (repeat refine And.intro (by first | decide +kernel | omega | kernel_rfl) ?_); (try decide +kernel)
  refine loop_rule [] (fun (k : Nat) => ⟨27, [(0, .d (.sl (qes l))), (3, .pr 0 0 0 0), (4, .nl), (5, .sr 16 0), (11, intP .i64 (l.length : Int)), (12, intP .i64 (k : Int))],
      [(16, .arr ⟨72, 4, 0, false, qfil L k⟩), (0, .box [.d (.v (.bool c.1.1)), .d (.sl (les c.1.2)), .d (.v (.bool c.2.1)), .d (.sl (les c.2.2))])], 8000⟩)
    (fun k => k ≤ l.length) (fun k => l.length - k) 0 (Nat.zero_le _) (by simp) (by simp -implicitDefEqProofs [go_sem, qfil, hLl]) (fun k hk => ?_)
  have hzl : (qfil L k).length = l.length := by unfold qfil; rw [← hLl, ← qes_len L]; exact fill_len (qes L) _ (by rw [qes_len]; omega)
  by_cases hkl : k < l.length
  · have hm := mul5_p l[k] c (hl _ (List.getElem_mem hkl)) hc
    have hg : (qfil L k)[k]? = some [.v (.bool false), .sl [], .v (.bool false), .sl []] := by unfold qfil; rw [← qes_len L]; exact fill_get (qes L) _ (by rw [qes_len]; omega)
    have hg2 : ∀ h : k < (qfil L k).length, (qfil L k)[k]'h = [.v (.bool false), .sl [], .v (.bool false), .sl []] := fun h => (List.getElem_eq_iff (h := h)).2 hg
    have hst : (qfil L k).set k (qel (nq (ofQ l[k] * ofQ c))) = qfil L (k + 1) := fill_x (qes L) _ _ (qes_len L) (by unfold qes; rw [List.getElem?_map, hL, hVd]; simp [scale9V, hkl])
    generalize ofQ l[k] * ofQ c = Q at *
    simp -implicitDefEqProofs [go_sem, hkl]; (repeat refine And.intro (by first | decide +kernel | omega | kernel_rfl) ?_); (try decide +kernel)
    refine .inl ⟨_, hm, ?_⟩; simp -implicitDefEqProofs [go_sem, hzl, hg, hg2, hkl]; (repeat refine And.intro (by first | decide +kernel | omega | kernel_rfl) ?_); (try decide +kernel)
    refine ⟨k + 1, ?_⟩; (repeat' apply And.intro) <;> first | omega | (exact hst) | assumption | rfl
  · obtain rfl : k = l.length := by omega
    have e : qfil L l.length = qes L := by unfold qfil; rw [← hLl, ← qes_len L]; exact fill_end (qes L) _
    simp -implicitDefEqProofs [go_sem, e]; (repeat refine And.intro (by first | decide +kernel | omega | kernel_rfl) ?_); (try decide +kernel)
    refine .inl ⟨_, hno, ?_⟩; simp -implicitDefEqProofs [go_sem]; (repeat refine And.intro (by first | decide +kernel | omega | kernel_rfl) ?_); (try decide +kernel)
set_option maxRecDepth 100000 in
set_option maxHeartbeats 2000000 in
theorem shift9_p (V : List Rat) (k : Nat) (hV : ∀ q ∈ V, ql q < 8589934592) (hk : k < 274877906944) (hn : V.length < 274877906944) : PCall Tryz.prog 159 [.d (.sl (qes (V.map nq))), .d (.v (.int .i64 (k : Int)))] (.one (.d (.sl (qes ((trimQ (shift9V V k)).map nq))))) := by
  have hno := norm9_n (shift9V V k) (fun q hq => by
    rcases List.mem_append.1 hq with h | h
    · rw [List.eq_of_mem_replicate h]; decide
    · exact hV q h) (by unfold shift9V; rw [List.length_append, List.length_replicate]; omega)
  have e : (shift9V V k).map nq = List.replicate k (nq 0) ++ V.map nq := by unfold shift9V; rw [List.map_append, List.map_replicate]
  have e : qes ((shift9V V k).map nq) = qes (List.replicate k (nq 0)) ++ qes (V.map nq) := by rw [e]; unfold qes; rw [List.map_append]
  rw [e] at hno
  obtain ⟨L, hL⟩ : ∃ L, L = List.replicate k (nq 0) := ⟨_, rfl⟩
  rw [← hL] at hno
  have hLl : L.length = k := by rw [hL, List.length_replicate]
  have hkz : ¬ (k : Int) < 0 := by omega
  refine pcall_of hmo Tryz.func159 rfl (by kernel_rfl) (by simp [Tryz.ntmps159]) ?_; simp -implicitDefEqProofs [go_sem, Tryz.ntmps159]; (repeat refine And.intro (by first | decide +kernel | omega | kernel_rfl) ?_); (try decide +kernel)
  refine loop_rule [] (fun (j : Nat) => ⟨23, [(0, .d (.sl (qes (V.map nq)))), (4, .nl), (5, .sr 8 0), (10, intP .i64 (k : Int)), (11, intP .i64 (j : Int))],
      [(8, .arr ⟨72, 4, 0, false, qfil L j⟩)], 8000⟩)
    (fun j => j ≤ k) (fun j => k - j) 0 (Nat.zero_le _) (by simp) (by simp -implicitDefEqProofs [go_sem, qfil, hLl]) (fun j hj => ?_)
  have hzl : (qfil L j).length = k := by unfold qfil; rw [← hLl, ← qes_len L]; exact fill_len (qes L) _ (by rw [qes_len]; omega)
  by_cases hjk : j < k
  · have hg : (qfil L j)[j]? = some [.v (.bool false), .sl [], .v (.bool false), .sl []] := by unfold qfil; rw [← qes_len L]; exact fill_get (qes L) _ (by rw [qes_len]; omega)
    have hg2 : ∀ h : j < (qfil L j).length, (qfil L j)[j]'h = [.v (.bool false), .sl [], .v (.bool false), .sl []] := fun h => (List.getElem_eq_iff (h := h)).2 hg
    have hst : (qfil L j).set j (qel (nq 0)) = qfil L (j + 1) := fill_x (qes L) _ _ (qes_len L) (by unfold qes; rw [List.getElem?_map, hL]; simp [hjk])
    have hof := of5_0
    generalize nq 0 = Q at *
    simp -implicitDefEqProofs [go_sem, hjk]; (repeat refine And.intro (by first | decide +kernel | omega | kernel_rfl) ?_); (try decide +kernel)
    refine .inl ⟨_, hof, ?_⟩; simp -implicitDefEqProofs [go_sem, hzl, hg, hg2, hjk]; (repeat refine And.intro (by first | decide +kernel | omega | kernel_rfl) ?_); (try decide +kernel)
    refine ⟨j + 1, ?_⟩; (repeat' apply And.intro) <;> first | omega | (exact hst) | assumption | rfl
  · obtain rfl : j = k := by omega
    have e : qfil L j = qes L := by unfold qfil; rw [← hLl, ← qes_len L]; exact fill_end (qes L) _
    simp -implicitDefEqProofs [go_sem, e]; (repeat refine And.intro (by first | decide +kernel | omega | kernel_rfl) ?_); (try decide +kernel)
    refine .inl ⟨_, hno, ?_⟩; simp -implicitDefEqProofs [go_sem]; (repeat refine And.intro (by first | decide +kernel | omega | kernel_rfl) ?_); (try decide +kernel)
set_option maxRecDepth 100000 in
set_option maxHeartbeats 2000000 in
theorem add9_p (l m : List QR) (hl : ∀ x ∈ l, Lq x) (hm : ∀ x ∈ m, Lq x) (hln : l.length < 274877906944) (hmn : m.length < 274877906944) (hV : ∀ q ∈ add9V l m, ql q < 8589934592) :
    PCall Tryz.prog 72 [.d (.sl (qes l)), .d (.sl (qes m))] (.one (.d (.sl (qes ((trimQ (add9V l m)).map nq))))) := by
  obtain ⟨N, hN⟩ : ∃ N, N = max l.length m.length := ⟨_, rfl⟩
  have hVl : (add9V l m).length = N := by rw [hN]; unfold add9V; rw [List.length_map, List.length_range]
  have hVg : ∀ i, i < N → (add9V l m)[i]? = some (ofQ (qg l i) + ofQ (qg m i)) := fun i hi => by unfold add9V; rw [← hN]; simp [hi]
  have hno := norm9_n (add9V l m) hV (by omega)
  obtain ⟨L, hL⟩ : ∃ L, L = (add9V l m).map nq := ⟨_, rfl⟩
  rw [← hL] at hno
  have hLl : L.length = N := by rw [hL, List.length_map, hVl]
  generalize (trimQ (add9V l m)).map nq = O at *
  refine pcallS_of Tryz.func72 rfl (by kernel_rfl) (by simp [Tryz.ntmps72]) ?_; rw [Tryz.ntmps72]
  refine .seq (.of_fn hmo ?_); simp -implicitDefEqProofs [go_sem]; (repeat refine And.intro (by first | decide +kernel | omega | kernel_rfl) ?_); (try decide +kernel)
  refine .seq (.of_fn hmo ?_); simp -implicitDefEqProofs [go_sem]; (repeat refine And.intro (by first | decide +kernel | omega | kernel_rfl) ?_); (try decide +kernel)
  refine .cut ⟨36, [(0, .d (.sl (qes l))), (1, .d (.sl (qes m))), (4, .nl), (5, intP .i64 (N : Int))], [], 5000⟩ (.of_fn hmo ?_) (.of_fn hmo ?_)
  · by_cases h : l.length < m.length
    · have e : N = m.length := by omega
      have h' : (l.length : Int) < (m.length : Int) := by omega
      rw [e]
      simp -implicitDefEqProofs [go_sem, h, h']; (repeat refine And.intro (by first | decide +kernel | omega | kernel_rfl) ?_); (try decide +kernel)
    · have e : N = l.length := by omega
      have h' : ¬ (l.length : Int) < (m.length : Int) := by omega
      rw [e]
      simp -implicitDefEqProofs [go_sem, h, h']; (repeat refine And.intro (by first | decide +kernel | omega | kernel_rfl) ?_); (try decide +kernel)
  · simp -implicitDefEqProofs [go_sem]; (repeat refine And.intro (by first | decide +kernel | omega | kernel_rfl) ?_); (try decide +kernel)
    refine loop_rule [] (fun (k : Nat) => ⟨36, [(0, .d (.sl (qes l))), (1, .d (.sl (qes m))), (4, .nl), (6, .sr 5004 0), (19, intP .i64 (N : Int)), (20, intP .i64 (k : Int))],
        [(5004, .arr ⟨72, 4, 0, false, qfil L k⟩)], 8000⟩)
      (fun k => k ≤ N) (fun k => N - k) 0 (Nat.zero_le _) (by simp) (by simp -implicitDefEqProofs [go_sem, qfil, hLl]) (fun k hk => ?_)
    have hzl : (qfil L k).length = N := by unfold qfil; rw [← hLl, ← qes_len L]; exact fill_len (qes L) _ (by rw [qes_len]; omega)
    by_cases hkl : k < N
    · have a1 := at9_p l k (by omega) (by omega)
      have a2 := at9_p m k (by omega) (by omega)
      have ad := add5_p (qg l k) (qg m k) (qg_lq hl k) (qg_lq hm k)
      have hg : (qfil L k)[k]? = some [.v (.bool false), .sl [], .v (.bool false), .sl []] := by unfold qfil; rw [← qes_len L]; exact fill_get (qes L) _ (by rw [qes_len]; omega)
      have hg2 : ∀ h : k < (qfil L k).length, (qfil L k)[k]'h = [.v (.bool false), .sl [], .v (.bool false), .sl []] := fun h => (List.getElem_eq_iff (h := h)).2 hg
      have hst : (qfil L k).set k (qel (nq (ofQ (qg l k) + ofQ (qg m k)))) = qfil L (k + 1) := fill_x (qes L) _ _ (qes_len L) (by unfold qes; rw [List.getElem?_map, hL, List.getElem?_map, hVg k hkl]; rfl)
      generalize ofQ (qg l k) + ofQ (qg m k) = Q at *
      generalize qg l k = x1 at *
      generalize qg m k = x2 at *
      simp -implicitDefEqProofs [go_sem, hkl]; (repeat refine And.intro (by first | decide +kernel | omega | kernel_rfl) ?_); (try decide +kernel)
      refine .inl ⟨_, a1, ?_⟩; simp -implicitDefEqProofs [go_sem]; (repeat refine And.intro (by first | decide +kernel | omega | kernel_rfl) ?_); (try decide +kernel)
      refine .inl ⟨_, a2, ?_⟩; simp -implicitDefEqProofs [go_sem]; (repeat refine And.intro (by first | decide +kernel | omega | kernel_rfl) ?_); (try decide +kernel)
      refine .inl ⟨_, ad, ?_⟩; simp -implicitDefEqProofs [go_sem, hzl, hg, hg2, hkl]; (repeat refine And.intro (by first | decide +kernel | omega | kernel_rfl) ?_); (try decide +kernel)
      refine ⟨k + 1, ?_⟩; (repeat' apply And.intro) <;> first | omega | (exact hst) | assumption | rfl
    · obtain rfl : k = N := by omega
      have e : qfil L k = qes L := by unfold qfil; rw [← hLl, ← qes_len L]; exact fill_end (qes L) _
      simp -implicitDefEqProofs [go_sem, e]; (repeat refine And.intro (by first | decide +kernel | omega | kernel_rfl) ?_); (try decide +kernel)
      refine .inl ⟨_, hno, ?_⟩; simp -implicitDefEqProofs [go_sem]; (repeat refine And.intro (by first | decide +kernel | omega | kernel_rfl) ?_); (try decide +kernel)
end Go.Mt
/-
  A part of the proof.
-/
set_option linter.unusedSimpArgs false
set_option linter.unusedVariables false
namespace Go.Mt
open Go Go.Pm Go.Proofs
def cf (V : List Rat) (t : Nat) : Rat := (V[t]?).getD 0
theorem cf_nil (t : Nat) : cf [] t = 0 := by simp [cf]
theorem cf_ge {V : List Rat} {t : Nat} (h : V.length ≤ t) : cf V t = 0 := by unfold cf; rw [List.getElem?_eq_none h]; rfl
theorem cf_mem {V : List Rat} {t : Nat} (h : t < V.length) : cf V t = V[t] := by unfold cf; rw [List.getElem?_eq_getElem h]; rfl
theorem trN_zero (qs : List Rat) (n t : Nat) (h1 : trN qs n ≤ t) (h2 : t < n) : cf qs t = 0 := by
  induction n with
  | zero => omega
  | succ n ih =>
    unfold trN at h1
    by_cases h0 : (qs[n]?).getD 0 = 0
    · rw [if_pos h0] at h1
      by_cases ht : t = n
      · subst ht; exact h0
      · exact ih h1 (by omega)
    · rw [if_neg h0] at h1; omega
theorem cf_trim (V : List Rat) (t : Nat) : cf (trimQ V) t = cf V t := by
  by_cases h : t < trN V V.length
  · unfold cf trimQ; rw [List.getElem?_take_of_lt h]
  · rw [cf_ge (by rw [trimQ_len]; omega)]
    by_cases h2 : t < V.length
    · exact (trN_zero V V.length t (by omega) h2).symm
    · exact (cf_ge (by omega)).symm
theorem trN_last (qs : List Rat) (n : Nat) (h : trN qs n ≠ 0) : cf qs (trN qs n - 1) ≠ 0 := by
  induction n with
  | zero => exact absurd rfl h
  | succ n ih =>
    unfold trN at h ⊢
    by_cases h0 : (qs[n]?).getD 0 = 0
    · rw [if_pos h0] at h ⊢; exact ih h
    · rw [if_neg h0]; exact h0
theorem trim_ext {V W : List Rat} (h : ∀ t, cf V t = cf W t) : trimQ V = trimQ W := by
  have hl : ∀ {V W : List Rat}, (∀ t, cf V t = cf W t) → trN V V.length ≤ trN W W.length := fun {V W} h => by
    by_cases h0 : trN V V.length = 0
    · omega
    · have h1 := trN_last V V.length h0
      rw [h] at h1
      by_cases h2 : trN V V.length ≤ trN W W.length
      · exact h2
      · refine absurd ?_ h1
        by_cases h3 : trN V V.length - 1 < W.length
        · exact trN_zero W W.length _ (by omega) h3
        · exact cf_ge (by omega)
  have e : (trimQ V).length = (trimQ W).length := by
    rw [trimQ_len, trimQ_len]
    have := hl h
    have := hl (fun t => (h t).symm)
    omega
  refine List.ext_getElem e fun t h1 h2 => ?_
  rw [← cf_mem h1, ← cf_mem h2, cf_trim, cf_trim, h]
theorem cf_map (l : List QR) (t : Nat) : cf (l.map ofQ) t = ofQ (qg l t) := by
  unfold cf qg
  rw [List.getElem?_map]
  cases l[t]? with
  | none => exact (ofQ_nq 0).symm
  | some x => rfl
theorem qg_nq (V : List Rat) (t : Nat) : ofQ (qg (V.map nq) t) = cf V t := by
  unfold cf qg
  rw [List.getElem?_map]
  cases V[t]? with
  | none => exact ofQ_nq 0
  | some x => exact ofQ_nq x
theorem cf_scale (m : List QR) (c : QR) (t : Nat) : cf (scale9V m c) t = ofQ (qg m t) * ofQ c := by
  unfold cf qg scale9V
  rw [List.getElem?_map]
  cases m[t]? with
  | none => show (0 : Rat) = ofQ (nq 0) * ofQ c; rw [ofQ_nq, Rat.zero_mul]
  | some x => rfl
theorem cf_shift (V : List Rat) (k t : Nat) : cf (shift9V V k) t = if t < k then 0 else cf V (t - k) := by
  unfold cf shift9V
  by_cases h : t < k
  · rw [if_pos h, List.getElem?_append_left (by rw [List.length_replicate]; exact h), List.getElem?_replicate, if_pos h]; rfl
  · rw [if_neg h, List.getElem?_append_right (by rw [List.length_replicate]; omega), List.length_replicate]
theorem cf_add (l m : List QR) (t : Nat) : cf (add9V l m) t = ofQ (qg l t) + ofQ (qg m t) := by
  by_cases h : t < max l.length m.length
  · unfold cf add9V; simp [h]
  · rw [cf_ge (by unfold add9V; rw [List.length_map, List.length_range]; omega)]
    unfold qg
    rw [List.getElem?_eq_none (by omega), List.getElem?_eq_none (by omega)]
    show (0 : Rat) = ofQ (nq 0) + ofQ (nq 0)
    rw [ofQ_nq, Rat.add_zero]
def mul9A (l m : List QR) : Nat → List Rat
  | 0 => []
  | i + 1 => trimQ (add9V ((mul9A l m i).map nq) ((trimQ (shift9V (trimQ (scale9V m (qg l i))) i)).map nq))
theorem cf_mul9 (l m : List QR) (i t : Nat) : cf (mul9A l m (i + 1)) t = cf (mul9A l m i) t + if t < i then 0 else ofQ (qg m (t - i)) * ofQ (qg l i) := by
  show cf (trimQ _) t = _
  rw [cf_trim, cf_add, qg_nq, qg_nq, cf_trim, cf_shift, cf_trim, cf_scale]
def nzc (l : List QR) : Nat → Nat
  | 0 => 0
  | i + 1 => nzc l i + if ofQ (qg l i) = 0 then 0 else 1
theorem nzc_le (l : List QR) (i : Nat) : nzc l i ≤ i := by
  induction i with
  | zero => exact Nat.le_refl _
  | succ i ih => unfold nzc; split <;> omega
theorem nzc_pl (l : List QR) (i : Nat) : nzc l i ≤ (plQ l).length := by
  induction i with
  | zero => exact Nat.zero_le _
  | succ i ih =>
    by_cases h : i < (plQ l).length
    · have := nzc_le l (i + 1); omega
    · have e : ofQ (qg l i) = 0 := by rw [← cf_map, ← cf_trim]; exact cf_ge (by unfold plQ at h; omega)
      unfold nzc; rw [if_pos e]; omega
theorem mul9_ql {l m : List QR} {K L : Nat} (hl : ∀ t, ql (ofQ (qg l t)) ≤ K) (hm : ∀ t, ql (ofQ (qg m t)) ≤ L) (i t : Nat) : ql (cf (mul9A l m i) t) ≤ (K + L + 1) * nzc l i + 1 := by
  induction i with
  | zero => rw [show mul9A l m 0 = [] from rfl, cf_nil]; exact Nat.le_trans (by decide) (Nat.le_add_left 1 _)
  | succ i ih =>
    rw [cf_mul9]
    unfold nzc
    by_cases h0 : ofQ (qg l i) = 0
    · rw [if_pos h0, h0, Rat.mul_zero, ite_self, Rat.add_zero]; exact ih
    · rw [if_neg h0, Nat.mul_add, Nat.mul_one]
      by_cases ht : t < i
      · rw [if_pos ht, Rat.add_zero]; omega
      · rw [if_neg ht]
        have h1 := ql_add (cf (mul9A l m i) t) (ofQ (qg m (t - i)) * ofQ (qg l i))
        have h2 := ql_mul (ofQ (qg m (t - i))) (ofQ (qg l i))
        have := hl i
        have := hm (t - i)
        omega
end Go.Mt
/-
  A part of the proof.
-/
set_option linter.unusedSimpArgs false
set_option linter.unusedVariables false
namespace Go.Mt
open Go Go.Pm Go.Proofs
theorem Ip.qg {l : List QR} (h : Ip l) (ha : l.all mayQ = true) (i : Nat) : ql (ofQ (qg l i)) ≤ 1048577 := by
  unfold Go.Mt.qg
  cases hi : l[i]? with
  | none => show ql (ofQ (nq 0)) ≤ _; rw [ofQ_nq]; decide
  | some x =>
    have hx := List.mem_of_getElem? hi
    have h0 := (h.lq ha x hx).gq
    obtain ⟨h1, h2, h3⟩ := h.q x hx
    have : gq x ≤ 1048577 := by unfold gq; omega
    show ql (ofQ x) ≤ _
    omega
theorem cf_all {V : List Rat} {B : Nat} (h : ∀ t, ql (cf V t) < B) : ∀ q ∈ V, ql q < B := fun q hq => by
  obtain ⟨t, ht, rfl⟩ := List.getElem_of_mem hq
  have := h t; rw [cf_mem ht] at this; exact this
theorem lqs {V : List Rat} (h : ∀ q ∈ V, ql q < 8589934592) : ∀ x ∈ V.map nq, Lq x := fun x hx => by obtain ⟨q, hq, rfl⟩ := List.mem_map.1 hx; exact .n (h q hq)
theorem trimQ_le (V : List Rat) : (trimQ V).length ≤ V.length := by rw [trimQ_len]; exact trN_le _ _
theorem mul9_len (l m : List QR) (i : Nat) : (mul9A l m i).length ≤ i + m.length := by
  induction i with
  | zero => exact Nat.zero_le _
  | succ i ih =>
    refine Nat.le_trans (trimQ_le _) ?_
    have h1 := trimQ_le (shift9V (trimQ (scale9V m (qg l i))) i)
    have h2 := trimQ_le (scale9V m (qg l i))
    have h3 : (scale9V m (qg l i)).length = m.length := List.length_map ..
    have h4 : (shift9V (trimQ (scale9V m (qg l i))) i).length = i + (trimQ (scale9V m (qg l i))).length := by unfold shift9V; rw [List.length_append, List.length_replicate]
    unfold add9V
    rw [List.length_map, List.length_range, List.length_map, List.length_map]
    omega
theorem mul9_ip {l m : List QR} (hl : Ip l) (al : l.all mayQ = true) (pl : (plQ l).length ≤ 101) (hm : Ip m) (am : m.all mayQ = true) (i t : Nat) : ql (cf (mul9A l m i) t) < 300000000 := by
  have h := mul9_ql (hl.qg al) (hm.qg am) i t
  have h2 := nzc_pl l i
  have h3 : (1048577 + 1048577 + 1) * nzc l i ≤ (1048577 + 1048577 + 1) * 101 := Nat.mul_le_mul_left _ (by omega)
  omega
set_option maxRecDepth 100000 in
set_option maxHeartbeats 2000000 in
theorem mul9_p {l m : List QR} (hl : Ip l) (al : l.all mayQ = true) (pl : (plQ l).length ≤ 101) (hm : Ip m) (am : m.all mayQ = true) :
    PCall Tryz.prog 73 [.d (.sl (qes l)), .d (.sl (qes m))] (.one (.d (.sl (qes ((trimQ (mul9A l m l.length)).map nq))))) := by
  have hln := hl.n
  have hmn := hm.n
  have hb := fun i => mul9_ip hl al pl hm am i
  refine pcall_of hmo Tryz.func73 rfl (by kernel_rfl) (by simp [Tryz.ntmps73]) ?_; simp -implicitDefEqProofs [go_sem, Tryz.ntmps73]; (repeat refine And.intro (by first | decide +kernel | omega | kernel_rfl) ?_); (try decide +kernel)
  refine loop_rule [.nilS 5] (fun (k : Nat) => ⟨25, [(1, .d (.sl (qes m))), (4, .nl), (5, .d (.sl (qes ((mul9A l m k).map nq)))), (8, .d (.sl (qes l))), (9, intP .i64 (l.length : Int)), (10, intP .i64 (k : Int))], [], 5000⟩)
    (fun k => k ≤ l.length) (fun k => l.length - k) 0 (Nat.zero_le _) (by simp) (by simp -implicitDefEqProofs [go_sem, mul9A, qes]) (fun k hk => ?_)
  have hlen := mul9_len l m k
  by_cases hkl : k < l.length
  · have hc := hl.lq al _ (List.getElem_mem hkl)
    have eg : qg l k = l[k] := by unfold qg; rw [List.getElem?_eq_getElem hkl]; rfl
    have b1 := hl.qg al k
    have sc := scale9_p m l[k] (hm.lq am) hc (by omega) (cf_all fun t => by
      rw [cf_scale, ← eg]
      have := ql_mul (ofQ (qg m t)) (ofQ (qg l k))
      have := hm.qg am t
      omega)
    have l1 := trimQ_le (scale9V m l[k])
    have l2 : (scale9V m l[k]).length = m.length := List.length_map ..
    have hsc : ∀ t, ql (cf (trimQ (scale9V m l[k])) t) < 8589934592 := fun t => by
      rw [cf_trim, cf_scale, ← eg]
      have := ql_mul (ofQ (qg m t)) (ofQ (qg l k))
      have := hm.qg am t
      omega
    have sh := shift9_p (trimQ (scale9V m l[k])) k (cf_all hsc) (by omega) (by omega)
    have l3 := trimQ_le (shift9V (trimQ (scale9V m l[k])) k)
    have l4 : (shift9V (trimQ (scale9V m l[k])) k).length = k + (trimQ (scale9V m l[k])).length := by unfold shift9V; rw [List.length_append, List.length_replicate]
    have e1 : mul9A l m (k + 1) = trimQ (add9V ((mul9A l m k).map nq) ((trimQ (shift9V (trimQ (scale9V m l[k])) k)).map nq)) := by rw [← eg]; rfl
    have ad := add9_p ((mul9A l m k).map nq) ((trimQ (shift9V (trimQ (scale9V m l[k])) k)).map nq) (lqs (cf_all fun t => by have := hb k t; omega)) (lqs (cf_all fun t => by
      rw [cf_trim, cf_shift]
      by_cases ht : t < k
      · rw [if_pos ht]; decide
      · rw [if_neg ht]; exact hsc _)) (by rw [List.length_map]; omega) (by rw [List.length_map]; omega) (cf_all fun t => by
      have := hb (k + 1) t
      rw [e1, cf_trim] at this; omega)
    rw [← e1] at ad
    obtain ⟨N1, hN1⟩ : ∃ N1, N1 = mul9A l m (k + 1) := ⟨_, rfl⟩
    rw [← hN1] at ad
    generalize (trimQ (shift9V (trimQ (scale9V m l[k])) k)).map nq = X2 at *
    generalize (trimQ (scale9V m l[k])).map nq = X1 at *
    generalize (mul9A l m k).map nq = X0 at *
    simp -implicitDefEqProofs [go_sem, hkl]; (repeat refine And.intro (by first | decide +kernel | omega | kernel_rfl) ?_); (try decide +kernel)
    refine .inl ⟨_, sc, ?_⟩; simp -implicitDefEqProofs [go_sem, hkl]; (repeat refine And.intro (by first | decide +kernel | omega | kernel_rfl) ?_); (try decide +kernel)
    refine .inl ⟨_, sh, ?_⟩; simp -implicitDefEqProofs [go_sem, hkl]; (repeat refine And.intro (by first | decide +kernel | omega | kernel_rfl) ?_); (try decide +kernel)
    refine .inl ⟨_, ad, ?_⟩; simp -implicitDefEqProofs [go_sem]; (repeat refine And.intro (by first | decide +kernel | omega | kernel_rfl) ?_); (try decide +kernel)
    exact ⟨k + 1, by omega, by omega, by rw [hN1], by omega⟩
  · obtain rfl : k = l.length := by omega
    have hno := norm9_n (mul9A l m l.length) (cf_all fun t => by have := hb l.length t; omega) (by omega)
    simp -implicitDefEqProofs [go_sem]; (repeat refine And.intro (by first | decide +kernel | omega | kernel_rfl) ?_); (try decide +kernel)
    refine .inl ⟨_, hno, ?_⟩; simp -implicitDefEqProofs [go_sem]; (repeat refine And.intro (by first | decide +kernel | omega | kernel_rfl) ?_); (try decide +kernel)
end Go.Mt
/-
  A part of the proof.
-/
set_option linter.unusedSimpArgs false
set_option linter.unusedVariables false
namespace Go.Mt
open Go Go.Pm Go.Proofs
theorem sumN_add (n : Nat) (f g : Nat → Rat) : sumN n (fun j => f j + g j) = sumN n f + sumN n g := by
  induction n with
  | zero => show (0 : Rat) = 0 + 0; rw [Rat.add_zero]
  | succ n ih => show sumN n (fun j => f j + g j) + (f n + g n) = (sumN n f + f n) + (sumN n g + g n); rw [ih]; grind
theorem sumN_nought (n : Nat) (f : Nat → Rat) (h : ∀ j, j < n → f j = 0) : sumN n f = 0 := by
  induction n with
  | zero => rfl
  | succ n ih => show sumN n f + f n = 0; rw [ih (fun j hj => h j (by omega)), h n (by omega), Rat.add_zero]
theorem sumN_scaler (n : Nat) (c : Rat) (f : Nat → Rat) : sumN n (fun j => f j * c) = sumN n f * c := by
  rw [Rat.mul_comm (sumN n f) c, ← sumN_scale]
  exact sumN_congr fun j _ => Rat.mul_comm _ _
theorem sumN_swap (n m : Nat) (f : Nat → Nat → Rat) : sumN n (fun i => sumN m fun j => f i j) = sumN m fun j => sumN n fun i => f i j := by
  induction n with
  | zero => exact (sumN_nought m _ fun _ _ => rfl).symm
  | succ n ih =>
    show sumN n (fun i => sumN m fun j => f i j) + sumN m (fun j => f n j) = _
    rw [ih, ← sumN_add]
    rfl
theorem sumN_one (n k : Nat) (f : Nat → Rat) (hk : k < n) : sumN n (fun j => f j * if j = k then 1 else 0) = f k := by
  induction n with
  | zero => omega
  | succ n ih =>
    show sumN n (fun j => f j * if j = k then 1 else 0) + (f n * if n = k then 1 else 0) = f k
    by_cases h : n = k
    · rw [if_pos h, sumN_nought n _ (fun j hj => by rw [if_neg (by omega), Rat.mul_zero]), h, Rat.zero_add, Rat.mul_one]
    · rw [if_neg h, ih (by omega), Rat.mul_zero, Rat.add_zero]
theorem sumN_onel (n i : Nat) (f : Nat → Rat) (hi : i < n) : sumN n (fun j => (if i = j then 1 else 0) * f j) = f i := by
  rw [← sumN_one n i f hi]
  refine sumN_congr fun j _ => ?_
  rw [Rat.mul_comm]
  by_cases h : i = j
  · rw [if_pos h, if_pos h.symm]
  · rw [if_neg h, if_neg (fun e => h e.symm)]
/-- the powers' entries -/
def pwE (A : List (List Rat)) (n : Nat) : Nat → Nat → Nat → Rat
  | 0, i, k => if i = k then 1 else 0
  | t + 1, i, k => sumN n fun j => pwE A n t i j * entQ A j k
theorem pwE_add (A : List (List Rat)) (n s t : Nat) {i k : Nat} (hk : k < n) : pwE A n (s + t) i k = sumN n fun j => pwE A n s i j * pwE A n t j k := by
  induction t generalizing k with
  | zero => exact (sumN_one n k _ hk).symm
  | succ t ih =>
    show sumN n (fun j => pwE A n (s + t) i j * entQ A j k) = _
    rw [sumN_congr fun j hj => by rw [ih hj, ← sumN_scaler], sumN_swap]
    refine sumN_congr fun h _ => ?_
    show _ = pwE A n s i h * sumN n fun j => pwE A n t h j * entQ A j k
    rw [← sumN_scale]
    exact sumN_congr fun j _ => Rat.mul_assoc _ _ _
/-- a polynomial's value's entries -/
def poE (A : List (List Rat)) (n : Nat) (c : Nat → Rat) (N i k : Nat) : Rat := sumN N fun t => c t * pwE A n t i k
theorem ho_ent (A : List (List Rat)) (n : Nat) (l : List Rat) {i k : Nat} (hi : i < n) (hk : k < n) (N : Nat) (hN : l.length ≤ N) : entQ (hoQ A n l) i k = poE A n (cf l) N i k := by
  induction l generalizing N k with
  | nil =>
    show entQ (tabQ _ n n) i k = _
    rw [entQ_tabQ _ _ _ _ _ hi hk]
    exact (sumN_nought _ _ fun t _ => by rw [cf_nil, Rat.zero_mul]).symm
  | cons c cs ih =>
    obtain ⟨M, rfl⟩ : ∃ M, N = M + 1 := ⟨N - 1, by rw [List.length_cons] at hN; omega⟩
    rw [List.length_cons] at hN
    show entQ (tabQ _ n n) i k = _
    rw [entQ_tabQ _ _ _ _ _ hi hk]
    show entQ (tabQ _ n n) i k + entQ (tabQ _ n n) i k = _
    rw [entQ_tabQ _ _ _ _ _ hi hk, entQ_tabQ _ _ _ _ _ hi hk]
    unfold poE
    rw [sumN_shift]
    have e1 : entQ (identQ n) i k = pwE A n 0 i k := entQ_tabQ _ _ _ _ _ hi hk
    have e2 : sumN n (fun j => entQ (hoQ A n cs) i j * entQ A j k) = sumN M fun t => cf (c :: cs) (t + 1) * pwE A n (t + 1) i k := by
      have e3 : sumN n (fun j => entQ (hoQ A n cs) i j * entQ A j k) = sumN n fun j => sumN M fun t => cf cs t * pwE A n t i j * entQ A j k := sumN_congr fun j hj => by
        rw [ih hj M (by omega)]; exact (sumN_scaler _ _ _).symm
      rw [e3, sumN_swap]
      refine sumN_congr fun t _ => ?_
      show _ = cf cs t * sumN n fun j => pwE A n t i j * entQ A j k
      rw [← sumN_scale]
      exact sumN_congr fun j _ => Rat.mul_assoc _ _ _
    rw [e1, e2]
    show _ = c * pwE A n 0 i k + _
    rw [Rat.add_comm, Rat.mul_comm]
theorem ho_tab (A : List (List Rat)) (n : Nat) (l : List Rat) (N : Nat) (hN : l.length ≤ N) : hoQ A n l = tabQ (poE A n (cf l) N) n n := by
  have e : hoQ A n l = tabQ (entQ (hoQ A n l)) n n := by
    have h := tabQ_ent (hoQ A n l) n (by
      intro r hr
      cases l with
      | nil => exact row_tabQ _ _ _ r hr
      | cons c cs => exact row_tabQ _ _ _ r hr)
    rw [ho_len] at h
    exact h.symm
  rw [e]
  exact tabQ_congr fun i k hi hk => ho_ent A n l hi hk N hN
end Go.Mt
/-
  A part of the proof.
-/
set_option linter.unusedSimpArgs false
set_option linter.unusedVariables false
namespace Go.Mt
open Go Go.Pm Go.Proofs
theorem sumN_more {M N : Nat} (h : M ≤ N) (f : Nat → Rat) (hf : ∀ t, M ≤ t → f t = 0) : sumN N f = sumN M f := by
  obtain ⟨d, rfl⟩ : ∃ d, N = M + d := ⟨N - M, by omega⟩
  induction d with
  | zero => rfl
  | succ d ih =>
    show sumN (M + d) f + f (M + d) = _
    rw [ih (by omega), hf _ (by omega), Rat.add_zero]
theorem sumN_split (a M : Nat) (f : Nat → Rat) : sumN (a + M) f = sumN a f + sumN M (fun s => f (a + s)) := by
  induction M with
  | zero => exact (Rat.add_zero _).symm
  | succ M ih => show sumN (a + M) f + f (a + M) = sumN a f + (sumN M (fun s => f (a + s)) + f (a + M)); rw [ih]; grind
theorem poE_mul (A : List (List Rat)) (n : Nat) (c d : Nat → Rat) (N M i k : Nat) (hk : k < n) : sumN n (fun j => poE A n c N i j * poE A n d M j k) = sumN N fun s => sumN M fun t => c s * d t * pwE A n (s + t) i k := by
  have e1 : sumN n (fun j => poE A n c N i j * poE A n d M j k) = sumN n fun j => sumN N fun s => c s * pwE A n s i j * poE A n d M j k := sumN_congr fun j _ => (sumN_scaler _ _ _).symm
  rw [e1, sumN_swap]
  refine sumN_congr fun s _ => ?_
  have e2 : sumN n (fun j => c s * pwE A n s i j * poE A n d M j k) = sumN n fun j => sumN M fun t => c s * pwE A n s i j * (d t * pwE A n t j k) := sumN_congr fun j _ => (sumN_scale _ _ _).symm
  rw [e2, sumN_swap]
  refine sumN_congr fun t _ => ?_
  rw [pwE_add A n s t hk, ← sumN_scale]
  exact sumN_congr fun j _ => by grind
theorem poE_com (A : List (List Rat)) (n : Nat) (c d : Nat → Rat) (N M i k : Nat) (hk : k < n) : sumN n (fun j => poE A n c N i j * poE A n d M j k) = sumN n fun j => poE A n d M i j * poE A n c N j k := by
  rw [poE_mul A n c d N M i k hk, poE_mul A n d c M N i k hk, sumN_swap]
  exact sumN_congr fun t _ => sumN_congr fun s _ => by rw [Nat.add_comm s t, Rat.mul_comm (c s)]
theorem po_mul9 (A : List (List Rat)) (n : Nat) (l m : List QR) (N i k : Nat) (a : Nat) (hN : a + m.length ≤ N) : poE A n (cf (mul9A l m a)) N i k = sumN a fun s => sumN N fun t => ofQ (qg l s) * ofQ (qg m t) * pwE A n (s + t) i k := by
  induction a with
  | zero => exact sumN_nought _ _ fun t _ => by rw [show mul9A l m 0 = [] from rfl, cf_nil, Rat.zero_mul]
  | succ a ih =>
    have e : poE A n (cf (mul9A l m (a + 1))) N i k = poE A n (cf (mul9A l m a)) N i k + sumN N fun t => (if t < a then 0 else ofQ (qg m (t - a)) * ofQ (qg l a)) * pwE A n t i k := by
      unfold poE
      rw [← sumN_add]
      exact sumN_congr fun t _ => by rw [cf_mul9, Rat.add_mul]
    rw [e, ih (by omega)]
    show _ = sumN a _ + sumN N fun t => ofQ (qg l a) * ofQ (qg m t) * pwE A n (a + t) i k
    congr 1
    obtain ⟨M, hM⟩ : ∃ M, N = a + M := ⟨N - a, by omega⟩
    have e2 : sumN N (fun t => ofQ (qg l a) * ofQ (qg m t) * pwE A n (a + t) i k) = sumN M fun t => ofQ (qg l a) * ofQ (qg m t) * pwE A n (a + t) i k := sumN_more (by omega) _ fun t ht => by
      have : ofQ (qg m t) = 0 := by rw [← cf_map]; exact cf_ge (by rw [List.length_map]; omega)
      rw [this, Rat.mul_zero, Rat.zero_mul]
    rw [e2, hM, sumN_split, sumN_nought a _ fun t ht => by rw [if_pos ht, Rat.zero_mul], Rat.zero_add]
    exact sumN_congr fun t _ => by rw [if_neg (by omega), Nat.add_sub_cancel_left, Rat.mul_comm (ofQ (qg m t))]
theorem ho_congr (A : List (List Rat)) (n : Nat) {V W : List Rat} (h : ∀ t, cf V t = cf W t) : hoQ A n V = hoQ A n W := by
  rw [ho_tab A n V (max V.length W.length) (by omega), ho_tab A n W (max V.length W.length) (by omega)]
  rw [show cf V = cf W from funext h]
theorem ho_trim (A : List (List Rat)) (n : Nat) (V : List Rat) : hoQ A n (trimQ V) = hoQ A n V := ho_congr A n (cf_trim V)
theorem ho_add (A : List (List Rat)) (n : Nat) (l m : List QR) : hoQ A n (trimQ (add9V l m)) = joinQ (· + ·) (hoQ A n (plQ l)) (hoQ A n (plQ m)) n n := by
  obtain ⟨N, hN⟩ : ∃ N, N = max l.length m.length := ⟨_, rfl⟩
  have hl : (add9V l m).length = N := by unfold add9V; rw [List.length_map, List.length_range, hN]
  unfold plQ
  rw [ho_trim, ho_trim, ho_trim, ho_tab A n (add9V l m) N (by omega)]
  refine tabQ_congr fun i k hi hk => ?_
  rw [ho_ent A n _ hi hk N (by rw [List.length_map]; omega), ho_ent A n _ hi hk N (by rw [List.length_map]; omega)]
  unfold poE
  refine Eq.trans ?_ (sumN_add N _ _)
  exact sumN_congr fun t _ => by rw [cf_add, cf_map, cf_map, Rat.add_mul]
theorem ho_mul (A : List (List Rat)) (n : Nat) (l m : List QR) : hoQ A n (trimQ (mul9A l m l.length)) = mulQ (hoQ A n (plQ l)) (hoQ A n (plQ m)) n n n := by
  unfold plQ
  rw [ho_trim, ho_trim, ho_trim, ho_tab A n (mul9A l m l.length) (l.length + m.length) (mul9_len l m l.length)]
  refine tabQ_congr fun i k hi hk => ?_
  rw [po_mul9 A n l m _ i k l.length (Nat.le_refl _)]
  have e := poE_mul A n (cf (l.map ofQ)) (cf (m.map ofQ)) l.length (l.length + m.length) i k hk
  have e2 : sumN n (fun j => entQ (hoQ A n (l.map ofQ)) i j * entQ (hoQ A n (m.map ofQ)) j k) = sumN n fun j => poE A n (cf (l.map ofQ)) l.length i j * poE A n (cf (m.map ofQ)) (l.length + m.length) j k := sumN_congr fun j hj => by
    rw [ho_ent A n _ hi hj l.length (by rw [List.length_map]; omega), ho_ent A n _ hj hk (l.length + m.length) (by rw [List.length_map]; omega)]
  rw [e2, e]
  exact sumN_congr fun s _ => sumN_congr fun t _ => by rw [cf_map, cf_map]
theorem ho_com (A : List (List Rat)) (n : Nat) (V W : List Rat) : mulQ (hoQ A n V) (hoQ A n W) n n n = mulQ (hoQ A n W) (hoQ A n V) n n n := by
  refine tabQ_congr fun i k hi hk => ?_
  have e : ∀ V W : List Rat, sumN n (fun j => entQ (hoQ A n V) i j * entQ (hoQ A n W) j k) = sumN n fun j => poE A n (cf V) V.length i j * poE A n (cf W) W.length j k := fun V W => sumN_congr fun j hj => by
    rw [ho_ent A n _ hi hj V.length (Nat.le_refl _), ho_ent A n _ hj hk W.length (Nat.le_refl _)]
  rw [e, e]
  exact poE_com A n _ _ _ _ i k hk
theorem ho_one (A : List (List Rat)) (n : Nat) : hoQ A n [1] = identQ n := by
  rw [ho_tab A n [1] 1 (Nat.le_refl _)]
  refine tabQ_congr fun i k _ _ => ?_
  show (0 : Rat) + 1 * (if i = k then 1 else 0) = _
  rw [Rat.zero_add, Rat.one_mul]
theorem ho_x (A : List (List Rat)) (n : Nat) (h : A.length = n) (hr : ∀ r ∈ A, r.length = n) : hoQ A n [0, 1] = A := by
  rw [ho_tab A n [0, 1] 2 (Nat.le_refl _)]
  have e := tabQ_ent A n hr
  rw [h] at e
  refine Eq.trans (tabQ_congr fun i k hi hk => ?_) e
  show ((0 : Rat) + 0 * (if i = k then 1 else 0)) + 1 * sumN n (fun j => (if i = j then 1 else 0) * entQ A j k) = _
  rw [sumN_onel n i _ hi, Rat.zero_mul, Rat.zero_add, Rat.zero_add, Rat.one_mul]
end Go.Mt
/-
  A part of the proof.
-/
set_option linter.unusedSimpArgs false
set_option linter.unusedVariables false
namespace Go.Mt
open Go Go.Pm Go.Proofs
set_option maxRecDepth 100000 in
theorem poly14_p (c : List Int) (hc : ∀ z ∈ c, -9223372036854775808 ≤ z ∧ z ≤ 9223372036854775807) (hn : c.length < 549755813888) :
    PCall Tryz.prog 75 [.d (.sl (ies c))] (.one (.so 72 4 (qes (c.map fun z : Int => nq (z : Rat))))) := by
  obtain ⟨L0, hL0⟩ : ∃ L0 : List QR, L0 = c.map fun z : Int => nq (z : Rat) := ⟨_, rfl⟩
  have hL0l : L0.length = c.length := by rw [hL0, List.length_map]
  rw [← hL0]
  refine pcall_of hmo Tryz.func75 rfl (by kernel_rfl) (by simp [Tryz.ntmps75]) ?_; simp -implicitDefEqProofs [go_sem, Tryz.ntmps75]; (repeat refine And.intro (by first | decide +kernel | omega | kernel_rfl) ?_); (try decide +kernel)
  refine loop_rule [.arr 3 72 4] (fun (k : Nat) => ⟨19, [(2, .nl), (3, .sr 20 k), (6, .d (.sl (ies c))), (7, intP .i64 (c.length : Int)), (8, intP .i64 (k : Int))],
      [(20, .arr ⟨72, 4, k, false, qes (L0.take k)⟩)], 1000⟩)
    (fun k => k ≤ c.length) (fun k => c.length - k) 0 (Nat.zero_le _) (by simp) (by simp -implicitDefEqProofs [go_sem, qes]) (fun k hk => ?_)
  by_cases hkl : k < c.length
  · obtain ⟨h1, h2⟩ := hc _ (List.getElem_mem hkl)
    have hof := of5_p c[k] h1 h2
    have hsn := take_snoc (e := qel (nq (c[k] : Rat))) qel L0 (k := k) (by omega) (by
      have : L0[k]'(by omega) = nq (c[k] : Rat) := by subst hL0; simp
      rw [this])
    generalize ((c[k] : Int) : Rat) = Q at *
    simp -implicitDefEqProofs [go_sem, hkl]; (repeat refine And.intro (by first | decide +kernel | omega | kernel_rfl) ?_); (try decide +kernel)
    refine .inl ⟨_, hof, ?_⟩; simp -implicitDefEqProofs [go_sem, hkl]; (repeat refine And.intro (by first | decide +kernel | omega | kernel_rfl) ?_); (try decide +kernel)
    exact ⟨k + 1, by omega, by omega, by omega, by omega, hsn⟩
  · obtain rfl : k = c.length := by omega
    rw [take_all hL0l]
    simp -implicitDefEqProofs [go_sem]; (repeat refine And.intro (by first | decide +kernel | omega | kernel_rfl) ?_); (try decide +kernel)
theorem all14_p (n : Nat) (hn : n < 1000000) : PCall Tryz.prog 76 [.d (.sl (ies (List.replicate n 0)))] (.one (.d (.v (.bool true)))) := by
  have hl : (List.replicate n (0 : Int)).length = n := List.length_replicate
  refine pcall_of hmo Tryz.func76 rfl (by kernel_rfl) (by simp [Tryz.ntmps76]) ?_; simp -implicitDefEqProofs [go_sem, Tryz.ntmps76]; (repeat refine And.intro (by first | decide +kernel | omega | kernel_rfl) ?_); (try decide +kernel)
  refine loop_rule [] (fun (k : Nat) => ⟨15, [(2, .d (.v (.bool false))), (5, .d (.sl (ies (List.replicate n 0)))), (6, intP .i64 (n : Int)), (7, intP .i64 (k : Int))], [], 1000⟩)
    (fun k => k ≤ n) (fun k => n - k) 0 (Nat.zero_le _) (by simp) (by simp -implicitDefEqProofs [go_sem, hl]) (fun k hk => ?_)
  by_cases hkl : k < n
  · simp -implicitDefEqProofs [go_sem, hkl, hl]; (repeat refine And.intro (by first | decide +kernel | omega | kernel_rfl) ?_); (try decide +kernel)
    refine .inl ⟨_, num14_p 0, ?_⟩; simp -implicitDefEqProofs [go_sem, hkl, hl]; (repeat refine And.intro (by first | decide +kernel | omega | kernel_rfl) ?_); (try decide +kernel)
    exact ⟨k + 1, by omega, by omega, by omega⟩
  · obtain rfl : k = n := by omega
    simp -implicitDefEqProofs [go_sem]; (repeat refine And.intro (by first | decide +kernel | omega | kernel_rfl) ?_); (try decide +kernel)
end Go.Mt
/-
  A part of the proof.
-/
set_option linter.unusedSimpArgs false
set_option linter.unusedVariables false
namespace Go.Mt
open Go Go.Pm Go.Proofs
set_option maxRecDepth 100000 in
set_option maxHeartbeats 1000000 in
theorem fine14_p (n : Nat) (ms : List MR) (h : ∀ m ∈ ms, Rz m.1 ∧ Grw m.2 ∧ checkE m = 0 ∧ m.2.length = n ∧ colsOf m.2 = n) (hn : ms.length < 1000000) : PCall Tryz.prog 77 [.d (.v (.int .i64 (n : Int))), .d (.sl (mes ms))] (.one (.d (.v (.bool true)))) := by
  refine pcall_of hmo Tryz.func77 rfl (by kernel_rfl) (by simp [Tryz.ntmps77]) ?_; simp -implicitDefEqProofs [go_sem, Tryz.ntmps77]; (repeat refine And.intro (by first | decide +kernel | omega | kernel_rfl) ?_); (try decide +kernel)
  refine loop_rule [] (fun (k : Nat) => ⟨34, [(0, intP .i64 (n : Int)), (4, .d (.v (.bool false))), (9, .d (.sl (mes ms))), (10, intP .i64 (ms.length : Int)), (11, intP .i64 (k : Int))], [], 1000⟩)
    (fun k => k ≤ ms.length) (fun k => ms.length - k) 0 (Nat.zero_le _) (by simp) (by simp -implicitDefEqProofs [go_sem]) (fun k hk => ?_)
  by_cases hkl : k < ms.length
  · obtain ⟨h1, h2, h3, h4, h5⟩ := h _ (List.getElem_mem hkl)
    have hs := size11_p ms[k] h2
    have hc := check11_p ms[k] h1 h2
    rw [h4, h5] at hs
    rw [h3] at hc
    simp -implicitDefEqProofs [go_sem, hkl]; (repeat refine And.intro (by first | decide +kernel | omega | kernel_rfl) ?_); (try decide +kernel)
    refine .inl ⟨_, hs, ?_⟩; simp -implicitDefEqProofs [go_sem, hkl]; (repeat refine And.intro (by first | decide +kernel | omega | kernel_rfl) ?_); (try decide +kernel)
    refine .inl ⟨_, hc, ?_⟩; simp -implicitDefEqProofs [go_sem, hkl]; (repeat refine And.intro (by first | decide +kernel | omega | kernel_rfl) ?_); (try decide +kernel)
    exact ⟨k + 1, by omega, by omega, by omega⟩
  · obtain rfl : k = ms.length := by omega
    simp -implicitDefEqProofs [go_sem]; (repeat refine And.intro (by first | decide +kernel | omega | kernel_rfl) ?_); (try decide +kernel)
end Go.Mt
/-
  A part of the proof.
-/
set_option linter.unusedSimpArgs false
set_option linter.unusedVariables false
namespace Go.Mt
open Go Go.Pm Go.Proofs
def dgF (i : Nat) : Nat → Nat → Rat := fun a b => if a = b ∧ a < i then 1 else 0
theorem dgF_zero : dgF 0 = fun _ _ => 0 := by funext a b; unfold dgF; rw [if_neg (by omega)]
theorem dgF_succ (i : Nat) : upd2 (dgF i) i i 1 = dgF (i + 1) := by
  funext a b
  unfold upd2 dgF
  by_cases h : a = i ∧ b = i
  · rw [if_pos h, if_pos (by omega)]
  · rw [if_neg h]
    by_cases h2 : a = b ∧ a < i
    · rw [if_pos h2, if_pos (by omega)]
    · rw [if_neg h2, if_neg (by omega)]
theorem dgF_all (n : Nat) : tabQ (dgF n) n n = identQ n := tabQ_congr fun i k hi _ => by
  unfold dgF
  by_cases h : i = k
  · rw [if_pos ⟨h, hi⟩, if_pos h]
  · rw [if_neg (by omega), if_neg h]
set_option maxRecDepth 100000 in
set_option maxHeartbeats 2000000 in
theorem ident11_p (n : Nat) (hn : n < 1000) : PCall Tryz.prog 53 [.d (.v (.int .i64 (n : Int)))] (.one (.d (md (nm (identQ n))))) := by
  have hfl := fill11_t n n (by omega) (by omega)
  have hqs : ∀ q ∈ (identQ n).flatten, ql q < 8589934592 := fun q hq => by
    obtain ⟨r, hr, hq⟩ := List.mem_flatten.1 hq
    obtain ⟨i, _, rfl⟩ := List.mem_map.1 hr
    obtain ⟨k, _, rfl⟩ := List.mem_map.1 hq
    show ql (if i = k then 1 else 0) < _
    split <;> decide
  have hfr := from11_p (identQ n) hqs (by unfold identQ; rw [length_tabQ]; omega) (by
    unfold identQ; rw [tabQ_flat]
    have := Nat.mul_le_mul (show n ≤ 999 by omega) (show n ≤ 999 by omega)
    omega) (by
    have h := com_table (D := 1) (by decide) (f := fun i k => if i = k then 1 else 0) (g := idZ) (r := n) (c := n) (fun i k _ _ => by rw [ratv_1]; unfold idZ; split <;> rfl)
    have e : zl 1 = 1 := by decide
    unfold identQ; omega)
  have hol : ∀ F, (tabQ F n n).length = n := fun F => length_tabQ _ _ _
  have hol0 : (zeroQ n n).length = n := hol _
  refine pcall_of hmo Tryz.func53 rfl (by kernel_rfl) (by simp [Tryz.ntmps53]) ?_; simp -implicitDefEqProofs [go_sem, Tryz.ntmps53]; (repeat refine And.intro (by first | decide +kernel | omega | kernel_rfl) ?_); (try decide +kernel)
  refine .inl ⟨_, hfl, ?_⟩; simp -implicitDefEqProofs [go_sem, hol0]; (repeat refine And.intro (by first | decide +kernel | omega | kernel_rfl) ?_); (try decide +kernel)
  refine loop_rule [] (fun (i : Nat) => ⟨23, [(2, .pr 0 0 0 0), (3, .st 12 0), (9, intP .i64 (n : Int)), (10, intP .i64 (i : Int))],
      [(12, .tab ⟨68, 72, 4, 0, false, List.range n, (tqs (tabQ (dgF i) n n)).map some⟩), (0, .box [.d (.v (.bool false)), .nl, .nl])], 1000⟩)
    (fun i => i ≤ n) (fun i => n - i) 0 (Nat.zero_le _) (by simp) (by simp -implicitDefEqProofs [go_sem, dgF_zero, zeroQ]) (fun i hi => ?_)
  by_cases hil : i < n
  · have hrow := tabR_get (dgF i) (c := n) hil
    have hcell := trow_get (dgF i) (i := i) hil
    have hcell2 : ∀ h : i < (trow (dgF i) n i).length, (trow (dgF i) n i)[i]'h = qel (nq (dgF i i i)) := fun h => (List.getElem_eq_iff (h := h)).2 hcell
    have hset := tabR_set (dgF i) hil hil 1
    rw [dgF_succ] at hset
    have hrg : (List.range n)[i]? = some i := List.getElem?_range hil
    have hER := elemR_t hrg hrow
    have hRA := rowAt_t hrow
    have hTl := trow_len (dgF i) n i
    have hof := of5_1
    generalize nq (dgF i i i) = X at *
    generalize hY : nq 1 = Y at *
    simp -implicitDefEqProofs [go_sem, hil, hER, hRA, hTl]; (repeat refine And.intro (by first | decide +kernel | omega | kernel_rfl) ?_); (try decide +kernel)
    refine .inl ⟨_, hof, ?_⟩; simp -implicitDefEqProofs [go_sem, hER, hRA, hTl, hil, hcell, hcell2]; (repeat refine And.intro (by first | decide +kernel | omega | kernel_rfl) ?_); (try decide +kernel)
    exact ⟨i + 1, by omega, by omega, by omega, hset⟩
  · obtain rfl : i = n := by omega
    rw [dgF_all]
    have hsl := fun el rel k ver fz out => sl_tqs (el := el) (rel := rel) (k := k) (ver := ver) (fz := fz) (out := out) (hol fun i k => if i = k then 1 else 0)
    have hsl : ∀ el rel k ver fz out, _ := hsl
    unfold identQ at hfr ⊢
    simp -implicitDefEqProofs [go_sem, hsl]; (repeat refine And.intro (by first | decide +kernel | omega | kernel_rfl) ?_); (try decide +kernel)
    refine .inl ⟨_, hfr, ?_⟩; simp -implicitDefEqProofs [go_sem, hsl]; (repeat refine And.intro (by first | decide +kernel | omega | kernel_rfl) ?_); (try decide +kernel)
end Go.Mt
/-
  A part of the proof.
-/
set_option linter.unusedSimpArgs false
set_option linter.unusedVariables false
namespace Go.Mt
open Go Go.Pm Go.Proofs
/-- what fits is short -/
theorem fp_short {l : List QR} (h : fpE l = 0) (t : Nat) : ql (ofQ (qg l t)) ≤ 128 := by
  obtain ⟨_, _, h3⟩ := fpE_may h
  rw [← cf_map, ← cf_trim]
  show ql (cf (plQ l) t) ≤ 128
  by_cases ht : t < (plQ l).length
  · rw [cf_mem ht]
    have := qhs_mem (List.getElem_mem ht)
    exact ql_of_qh (by omega)
  · rw [cf_ge (by omega)]; decide
theorem fp_zero {l : List QR} (h : fpE l = 0) {t : Nat} (ht : 101 ≤ t) : ofQ (qg l t) = 0 := by
  obtain ⟨_, h2, _⟩ := fpE_may h
  rw [← cf_map, ← cf_trim]
  exact cf_ge (by unfold plQ at h2; omega)
theorem trim_short {V : List Rat} {B : Nat} (h : ∀ t, B ≤ t → cf V t = 0) : (trimQ V).length ≤ B := by
  rw [trimQ_len]
  by_cases h0 : trN V V.length = 0
  · omega
  · have h1 := trN_last V V.length h0
    by_cases h2 : trN V V.length ≤ B
    · exact h2
    · exact absurd (h _ (by omega)) h1
theorem ip_of {V : List Rat} {B : Nat} (hq : ∀ t, ql (cf V t) ≤ 1000000) (hB : ∀ t, B ≤ t → cf V t = 0) (hB2 : B < 1000000) : Ip ((trimQ V).map nq) := by
  refine ⟨fun x hx => ?_, by rw [List.length_map]; have := trim_short hB; omega⟩
  obtain ⟨q, hm, rfl⟩ := List.mem_map.1 hx
  obtain ⟨t, ht, rfl⟩ := List.getElem_of_mem hm
  have h1 := hq t
  rw [← cf_trim, cf_mem ht] at h1
  have h2 := ql_num (trimQ V)[t]
  have h3 := ql_den (trimQ V)[t]
  exact ⟨(Lq.n (by omega)).rq, by show (nrm _).2.length < _; rw [rz_len]; omega, by show (nrm _).2.length < _; rw [rz_len]; omega⟩
theorem trim_trim (V : List Rat) : trimQ (trimQ V) = trimQ V := trim_ext (cf_trim V)
theorem plQ_tr (V : List Rat) : plQ ((trimQ V).map nq) = trimQ V := by rw [plQ_nq, trim_trim]
theorem add_ip {f g : List QR} (hf : fpE f = 0) (hg : fpE g = 0) : Ip ((trimQ (add9V f g)).map nq) := by
  refine ip_of (B := 101) (fun t => ?_) (fun t ht => ?_) (by decide)
  · rw [cf_add]
    have := ql_add (ofQ (qg f t)) (ofQ (qg g t))
    have := fp_short hf t
    have := fp_short hg t
    omega
  · rw [cf_add, fp_zero hf ht, fp_zero hg ht, Rat.add_zero]
theorem mul9_zero {f g : List QR} (hf : fpE f = 0) (hg : fpE g = 0) (i t : Nat) (ht : 202 ≤ t) : cf (mul9A f g i) t = 0 := by
  induction i with
  | zero => exact cf_nil t
  | succ i ih =>
    rw [cf_mul9, ih, Rat.zero_add]
    by_cases h : t < i
    · rw [if_pos h]
    · rw [if_neg h]
      by_cases h2 : 101 ≤ i
      · rw [fp_zero hf h2, Rat.mul_zero]
      · rw [fp_zero hg (t := t - i) (by omega), Rat.zero_mul]
theorem mul_ip {f g : List QR} (hf : fpE f = 0) (hg : fpE g = 0) : Ip ((trimQ (mul9A f g f.length)).map nq) := by
  refine ip_of (B := 202) (fun t => ?_) (mul9_zero hf hg f.length) (by decide)
  have h := mul9_ql (fp_short hf) (fp_short hg) f.length t
  have h2 := nzc_pl f f.length
  obtain ⟨_, h4, _⟩ := fpE_may hf
  have h3 : (128 + 128 + 1) * nzc f f.length ≤ (128 + 128 + 1) * 101 := Nat.mul_le_mul_left _ (by omega)
  omega
end Go.Mt
