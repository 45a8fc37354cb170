/-
  A part of the proof.
-/
import Derived.Test.YtmhclkagdpbadaaGreatErg48
import Derived.Test.YtmhclkagdpbadaaGreatErg49
import Derived.Test.YtmhclkagdpbadaaGreatErg42
import Derived.Test.YtmhclkagdpbadaaGreatRows
import Derived.WalkKit
import Derived.ProofKit
import Derived.OpenShut
import Derived.JoinedCond
set_option linter.unusedVariables false
set_option linter.unusedSimpArgs false
set_option linter.unusedSimpArgs false
set_option linter.unusedVariables false
namespace Go.Mt
open Go Go.Pm Go.Proofs
set_option maxRecDepth 100000 in
set_option maxHeartbeats 2000000 in
theorem ring_e (f g : List QR) (m : MR) (hf : Ip f) (hg : Ip g) (hm : Im m) (h : ¬ (fpE f = 0 ∧ fpE g = 0 ∧ fitE m = 0)) : PCall Tryz.prog 9 [.d (.sl (qes f)), .d (.sl (qes g)), .d (md m)] (.one (.d (.v (.bool true)))) := by
  have h1 := fitPoly14_p f hf
  have h2 := fitPoly14_p g hg
  have h3 := hm.fit
  by_cases e1 : fpE f = 0
  · rw [e1] at h1
    by_cases e2 : fpE g = 0
    · rw [e2] at h2
      have e3 : ¬ fitE m = 0 := fun e => h ⟨e1, e2, e⟩
      generalize fitE m = E at *
      refine pcall_of hmo Tryz.func9 rfl (by kernel_rfl) (by simp [Tryz.ntmps9]) ?_; simp -implicitDefEqProofs [go_sem, Tryz.ntmps9]; (repeat refine And.intro (by first | decide +kernel | omega | kernel_rfl) ?_); (try decide +kernel)
      refine .inl ⟨_, h1, ?_⟩; simp -implicitDefEqProofs [go_sem, undef]; (repeat refine And.intro (by first | decide +kernel | omega | kernel_rfl) ?_); (try decide +kernel)
      refine .inl ⟨_, h2, ?_⟩; simp -implicitDefEqProofs [go_sem, undef]; (repeat refine And.intro (by first | decide +kernel | omega | kernel_rfl) ?_); (try decide +kernel)
      refine .inl ⟨_, h3, ?_⟩; simp -implicitDefEqProofs [go_sem, e3, undef]; (repeat refine And.intro (by first | decide +kernel | omega | kernel_rfl) ?_); (try decide +kernel)
      refine .inl ⟨_, awake14_p, ?_⟩; simp -implicitDefEqProofs [go_sem]; (repeat refine And.intro (by first | decide +kernel | omega | kernel_rfl) ?_); (try decide +kernel)
    · generalize fpE g = E at *
      refine pcall_of hmo Tryz.func9 rfl (by kernel_rfl) (by simp [Tryz.ntmps9]) ?_; simp -implicitDefEqProofs [go_sem, Tryz.ntmps9]; (repeat refine And.intro (by first | decide +kernel | omega | kernel_rfl) ?_); (try decide +kernel)
      refine .inl ⟨_, h1, ?_⟩; simp -implicitDefEqProofs [go_sem, undef]; (repeat refine And.intro (by first | decide +kernel | omega | kernel_rfl) ?_); (try decide +kernel)
      refine .inl ⟨_, h2, ?_⟩; simp -implicitDefEqProofs [go_sem, e2, undef]; (repeat refine And.intro (by first | decide +kernel | omega | kernel_rfl) ?_); (try decide +kernel)
      refine .inl ⟨_, awake14_p, ?_⟩; simp -implicitDefEqProofs [go_sem]; (repeat refine And.intro (by first | decide +kernel | omega | kernel_rfl) ?_); (try decide +kernel)
  · generalize fpE f = E at *
    refine pcall_of hmo Tryz.func9 rfl (by kernel_rfl) (by simp [Tryz.ntmps9]) ?_; simp -implicitDefEqProofs [go_sem, Tryz.ntmps9]; (repeat refine And.intro (by first | decide +kernel | omega | kernel_rfl) ?_); (try decide +kernel)
    refine .inl ⟨_, h1, ?_⟩; simp -implicitDefEqProofs [go_sem, e1, undef]; (repeat refine And.intro (by first | decide +kernel | omega | kernel_rfl) ?_); (try decide +kernel)
    refine .inl ⟨_, awake14_p, ?_⟩; simp -implicitDefEqProofs [go_sem]; (repeat refine And.intro (by first | decide +kernel | omega | kernel_rfl) ?_); (try decide +kernel)
end Go.Mt
/-
  A part of the proof.
-/
set_option linter.unusedSimpArgs false
set_option linter.unusedVariables false
namespace Go.Mt
open Go Go.Pm Go.Proofs
def sumP (f g : List QR) : List QR := (trimQ (add9V f g)).map nq
def mulP (f g : List QR) : List QR := (trimQ (mul9A f g f.length)).map nq
theorem sumP_p (f g : List QR) (hf : Ip f) (hg : Ip g) (e1 : fpE f = 0) (e2 : fpE g = 0) : PCall Tryz.prog 72 [.d (.sl (qes f)), .d (.sl (qes g))] (.one (.d (.sl (qes (sumP f g))))) := by
  obtain ⟨a1, _, _⟩ := fpE_may e1
  obtain ⟨a2, _, _⟩ := fpE_may e2
  have := hf.n
  have := hg.n
  exact add9_p f g (hf.lq a1) (hg.lq a2) (by omega) (by omega) (cf_all fun t => by
    rw [cf_add]
    have := ql_add (ofQ (qg f t)) (ofQ (qg g t))
    have := fp_short e1 t
    have := fp_short e2 t
    omega)
theorem mulP_p (f g : List QR) (hf : Ip f) (hg : Ip g) (e1 : fpE f = 0) (e2 : fpE g = 0) : PCall Tryz.prog 73 [.d (.sl (qes f)), .d (.sl (qes g))] (.one (.d (.sl (qes (mulP f g))))) := by
  obtain ⟨a1, b1, _⟩ := fpE_may e1
  obtain ⟨a2, _, _⟩ := fpE_may e2
  exact mul9_p hf a1 b1 hg a2
set_option maxRecDepth 100000 in
set_option maxHeartbeats 2000000 in
theorem ring_n (f g : List QR) (m : MR) (hf : Ip f) (hg : Ip g) (hm : Im m) (e1 : fpE f = 0) (e2 : fpE g = 0) (e3 : fitE m = 0) (h : ¬ (fpE (sumP f g) = 0 ∧ fpE (mulP f g) = 0)) : PCall Tryz.prog 9 [.d (.sl (qes f)), .d (.sl (qes g)), .d (md m)] (.one (.d (.v (.bool true)))) := by
  have h1 := fitPoly14_p f hf
  have h2 := fitPoly14_p g hg
  have h3 := hm.fit
  have hs := sumP_p f g hf hg e1 e2
  have hp := mulP_p f g hf hg e1 e2
  have h4 := fitPoly14_p (sumP f g) (add_ip e1 e2)
  have h5 := fitPoly14_p (mulP f g) (mul_ip e1 e2)
  rw [e1] at h1
  rw [e2] at h2
  rw [e3] at h3
  by_cases e4 : fpE (sumP f g) = 0
  · have e5 : ¬ fpE (mulP f g) = 0 := fun e => h ⟨e4, e⟩
    rw [e4] at h4
    generalize fpE (mulP f g) = E at *
    generalize sumP f g = S at *
    generalize mulP f g = P at *
    refine pcall_of hmo Tryz.func9 rfl (by kernel_rfl) (by simp [Tryz.ntmps9]) ?_; simp -implicitDefEqProofs [go_sem, Tryz.ntmps9]; (repeat refine And.intro (by first | decide +kernel | omega | kernel_rfl) ?_); (try decide +kernel)
    refine .inl ⟨_, h1, ?_⟩; simp -implicitDefEqProofs [go_sem, undef]; (repeat refine And.intro (by first | decide +kernel | omega | kernel_rfl) ?_); (try decide +kernel)
    refine .inl ⟨_, h2, ?_⟩; simp -implicitDefEqProofs [go_sem, undef]; (repeat refine And.intro (by first | decide +kernel | omega | kernel_rfl) ?_); (try decide +kernel)
    refine .inl ⟨_, h3, ?_⟩; simp -implicitDefEqProofs [go_sem, undef]; (repeat refine And.intro (by first | decide +kernel | omega | kernel_rfl) ?_); (try decide +kernel)
    refine .inl ⟨_, hs, ?_⟩; simp -implicitDefEqProofs [go_sem]; (repeat refine And.intro (by first | decide +kernel | omega | kernel_rfl) ?_); (try decide +kernel)
    refine .inl ⟨_, hp, ?_⟩; simp -implicitDefEqProofs [go_sem]; (repeat refine And.intro (by first | decide +kernel | omega | kernel_rfl) ?_); (try decide +kernel)
    refine .inl ⟨_, h4, ?_⟩; simp -implicitDefEqProofs [go_sem, undef]; (repeat refine And.intro (by first | decide +kernel | omega | kernel_rfl) ?_); (try decide +kernel)
    refine .inl ⟨_, h5, ?_⟩; simp -implicitDefEqProofs [go_sem, e5, undef]; (repeat refine And.intro (by first | decide +kernel | omega | kernel_rfl) ?_); (try decide +kernel)
    refine .inl ⟨_, awake14_p, ?_⟩; simp -implicitDefEqProofs [go_sem]; (repeat refine And.intro (by first | decide +kernel | omega | kernel_rfl) ?_); (try decide +kernel)
  · generalize fpE (sumP f g) = E at *
    generalize sumP f g = S at *
    generalize mulP f g = P at *
    refine pcall_of hmo Tryz.func9 rfl (by kernel_rfl) (by simp [Tryz.ntmps9]) ?_; simp -implicitDefEqProofs [go_sem, Tryz.ntmps9]; (repeat refine And.intro (by first | decide +kernel | omega | kernel_rfl) ?_); (try decide +kernel)
    refine .inl ⟨_, h1, ?_⟩; simp -implicitDefEqProofs [go_sem, undef]; (repeat refine And.intro (by first | decide +kernel | omega | kernel_rfl) ?_); (try decide +kernel)
    refine .inl ⟨_, h2, ?_⟩; simp -implicitDefEqProofs [go_sem, undef]; (repeat refine And.intro (by first | decide +kernel | omega | kernel_rfl) ?_); (try decide +kernel)
    refine .inl ⟨_, h3, ?_⟩; simp -implicitDefEqProofs [go_sem, undef]; (repeat refine And.intro (by first | decide +kernel | omega | kernel_rfl) ?_); (try decide +kernel)
    refine .inl ⟨_, hs, ?_⟩; simp -implicitDefEqProofs [go_sem]; (repeat refine And.intro (by first | decide +kernel | omega | kernel_rfl) ?_); (try decide +kernel)
    refine .inl ⟨_, hp, ?_⟩; simp -implicitDefEqProofs [go_sem]; (repeat refine And.intro (by first | decide +kernel | omega | kernel_rfl) ?_); (try decide +kernel)
    refine .inl ⟨_, h4, ?_⟩; simp -implicitDefEqProofs [go_sem, e4, undef]; (repeat refine And.intro (by first | decide +kernel | omega | kernel_rfl) ?_); (try decide +kernel)
    refine .inl ⟨_, awake14_p, ?_⟩; simp -implicitDefEqProofs [go_sem]; (repeat refine And.intro (by first | decide +kernel | omega | kernel_rfl) ?_); (try decide +kernel)
end Go.Mt
/-
  A part of the proof.
-/
set_option linter.unusedSimpArgs false
set_option linter.unusedVariables false
namespace Go.Mt
open Go Go.Pm Go.Proofs
theorem at_sum (f g : List QR) (m : MR) : atQ (sumP f g) m = joinQ (· + ·) (atQ f m) (atQ g m) m.2.length m.2.length := by
  unfold atQ sumP
  rw [plQ_tr]
  exact ho_add _ _ f g
theorem at_mul (f g : List QR) (m : MR) : atQ (mulP f g) m = mulQ (atQ f m) (atQ g m) m.2.length m.2.length m.2.length := by
  unfold atQ mulP
  rw [plQ_tr]
  exact ho_mul _ _ f g
theorem at_mul2 (f g : List QR) (m : MR) : atQ (mulP f g) m = mulQ (atQ g m) (atQ f m) m.2.length m.2.length m.2.length := by
  rw [at_mul]
  exact ho_com _ _ _ _
theorem at_one (m : MR) : atQ [nq 1] m = identQ m.2.length := by
  have e : plQ [nq 1] = trimQ [1] := plQ_nq [1]
  unfold atQ
  rw [e, ho_trim, ho_one]
theorem at_var (m : MR) (hr : ∀ r ∈ valM m, r.length = m.2.length) : atQ [nq 0, nq 1] m = valM m := by
  have e : plQ [nq 0, nq 1] = trimQ [0, 1] := plQ_nq [0, 1]
  unfold atQ
  rw [e, ho_trim]
  exact ho_x _ _ (valM_len m) hr
end Go.Mt
/-
  A part of the proof.
-/
set_option linter.unusedSimpArgs false
set_option linter.unusedVariables false
namespace Go.Mt
open Go Go.Pm Go.Proofs
theorem valM_dK {m : MR} {K : Nat} (h : Gm K m) : nl (comDen (valM m).flatten) ≤ K := by
  show nl (comDen (fracs _ _).flatten) ≤ K
  exact nrmD_nl _ h.ne _ _ h.kd
theorem norm11_p (m : MR) {K : Nat} (ga : Gl m) (ha : Gm K m) (hK : K < 8589934592) (hr : m.2.length < 549755813888) (hf : (valM m).flatten.length < 549755813888) : PCall Tryz.prog 37 [.d (md m)] (.one (.d (md (nm (valM m))))) := by
  have hra := (rows11_t m ga).sto_d
  rw [tqs_d] at hra
  have hfr := from11_p (valM m) (fun q hq => by have := valM_ql ha q hq; omega) (by rw [valM_len]; exact hr) hf (by have := valM_dK ha; omega)
  generalize valM m = V at *
  refine pcall_of hmo Tryz.func37 rfl (by kernel_rfl) (by simp [Tryz.ntmps37]) ?_; simp -implicitDefEqProofs [go_sem, Tryz.ntmps37]; (repeat refine And.intro (by first | decide +kernel | omega | kernel_rfl) ?_); (try decide +kernel)
  refine .inl ⟨_, hra, ?_⟩; simp -implicitDefEqProofs [go_sem]; (repeat refine And.intro (by first | decide +kernel | omega | kernel_rfl) ?_); (try decide +kernel)
  refine .inl ⟨_, hfr, ?_⟩; simp -implicitDefEqProofs [go_sem]; (repeat refine And.intro (by first | decide +kernel | omega | kernel_rfl) ?_); (try decide +kernel)
theorem Sq.nz {n K : Nat} {A : List (List Rat)} (h : Sq n K A) (hK : K < 8589934592) : Nz A := by
  have g := gl_nm h.g hK
  exact ⟨by have := g.ld; unfold Lz; omega, fun r hr z hz => by have := g.lz r hr z hz; unfold Lz; omega⟩
theorem Sq.fine {n K : Nat} {A : List (List Rat)} (h : Sq n K A) : Rz (nm A).1 ∧ Grw (nm A).2 ∧ checkE (nm A) = 0 ∧ (nm A).2.length = n ∧ colsOf (nm A).2 = n := by
  refine ⟨h.g.d, h.g.g, ?_, by rw [nm_len, h.l], by rw [nm_cols, h.c]⟩
  unfold checkE
  rw [if_neg h.g.ne, if_pos h.g.ev]
theorem even_all {rows : List (List ZR)} (h : evenB rows = true) : ∀ r ∈ rows, r.length = colsOf rows := fun r hr => by
  have := List.all_eq_true.1 h r hr
  simpa using this
theorem Im.vrow {m : MR} (h0 : fitE m = 0) : ∀ r ∈ valM m, r.length = m.2.length := fun r hr => by
  obtain ⟨c1, c2, c3, c4, c5⟩ := fit_zero h0
  rw [valM_rows] at hr
  obtain ⟨r0, h1, rfl⟩ := List.mem_map.1 hr
  rw [valR_len, even_all (check_parts c1).2 r0 h1]; omega
theorem fpE_one : fpE [nq 1] = 0 := by decide +kernel
theorem fpE_var : fpE [nq 0, nq 1] = 0 := by decide +kernel
theorem ip_one : Ip [nq 1] := ⟨fun x hx => by
  obtain rfl := List.mem_singleton.1 hx
  exact ⟨(Lq.n (by decide)).rq, by decide +kernel, by decide +kernel⟩, by decide⟩
theorem ip_var : Ip [nq 0, nq 1] := ⟨fun x hx => by
  rcases List.mem_cons.1 hx with rfl | hx
  · exact ⟨(Lq.n (by decide)).rq, by decide +kernel, by decide +kernel⟩
  · obtain rfl := List.mem_singleton.1 hx
    exact ⟨(Lq.n (by decide)).rq, by decide +kernel, by decide +kernel⟩, by decide⟩
theorem fitsE_of {l : List QR} {m : MR} (h1 : fpE l = 0) (h2 : fitE m = 0) : fitsE l m = 0 := by
  unfold fitsE orE; rw [if_pos h1]; exact h2
theorem At_ok (l : List QR) (m : MR) (hl : Ip l) (hm : Im m) (h1 : fpE l = 0) (h2 : fitE m = 0) :
    PCall Tryz.prog 74 [.d (.sl (qes l)), .d (md m)] (.tup [.d (md (nm (atQ l m))), .d (.v (.int .i64 0))]) := by
  have h := At_p l m hl hm
  rw [fitsE_of h1 h2, if_pos rfl] at h
  exact h
theorem poly1_p : PCall Tryz.prog 75 [.d (.sl (ies [1]))] (.one (.d (.sl (qes [nq 1])))) := (poly14_p [1] (by decide) (by decide)).so_d
theorem polyx_p : PCall Tryz.prog 75 [.d (.sl (ies [0, 1]))] (.one (.d (.sl (qes [nq 0, nq 1])))) := (poly14_p [0, 1] (by decide) (by decide)).so_d
end Go.Mt
/-
  A part of the proof.
-/
set_option linter.unusedSimpArgs false
set_option linter.unusedVariables false
namespace Go.Mt
open Go Go.Pm Go.Proofs
theorem Sq.rw {n K : Nat} {A : List (List Rat)} (h : Sq n K A) (h2 : ∀ r ∈ A, r.length = n) : (∀ r ∈ A, r.length < 1099511627776) ∧ A.length < 1099511627776 :=
  ⟨fun r hr => by have := h2 r hr; have := h.n1; omega, by have := h.l; have := h.n1; omega⟩
theorem same_sq {n K : Nat} {A : List (List Rat)} (h : Sq n K A) (hK : K < 8589934592) (h2 : ∀ r ∈ A, r.length = n) : PCall Tryz.prog 54 [.d (md (nm A)), .d (md (nm A))] (.one (.d (.v (.bool true)))) :=
  same11_n A (h.nz hK) (h.rw h2).2 (h.rw h2).1
theorem add_sq {n K : Nat} {A B : List (List Rat)} (ha : Sq n K A) (hb : Sq n K B) (hK : 2 * K + 1 < 8589934592) : PCall Tryz.prog 78 [.d (md (nm A)), .d (md (nm B))] (.one (.d (md (nm (joinQ (· + ·) A B n n))))) := by
  have l1 : (nm A).2.length = n := by rw [nm_len, ha.l]
  have l2 : (nm B).2.length = n := by rw [nm_len, hb.l]
  have w1 : colsOf (nm A).2 = n := by rw [nm_cols, ha.c]
  have w2 : colsOf (nm B).2 = n := by rw [nm_cols, hb.c]
  have := ha.n1
  have h1 : n * n ≤ 1000 * 1000 := Nat.mul_le_mul this this
  have h := add11_p (nm A) (nm B) (gl_nm ha.g (by omega)) (gl_nm hb.g (by omega)) ha.g hb.g hK (by rw [l1, l2]) (by rw [w1, w2]) (by omega) (by rw [l1, w1]; omega)
  rw [valM_nm, valM_nm, l1, w1] at h
  exact h
theorem mul_sq {n K : Nat} {A B : List (List Rat)} (ha : Sq n K A) (hb : Sq n K B) (hK : 2 * K + 2 < 8589934592) : PCall Tryz.prog 47 [.d (md (nm A)), .d (md (nm B))] (.one (.d (md (nm (mulQ A B n n n))))) := by
  have l1 : (nm A).2.length = n := by rw [nm_len, ha.l]
  have l2 : (nm B).2.length = n := by rw [nm_len, hb.l]
  have w1 : colsOf (nm A).2 = n := by rw [nm_cols, ha.c]
  have w2 : colsOf (nm B).2 = n := by rw [nm_cols, hb.c]
  have := ha.n1
  have h1 : n * n ≤ 1000 * 1000 := Nat.mul_le_mul this this
  have h := mul11_p (nm A) (nm B) (gl_nm ha.g (by omega)) (gl_nm hb.g (by omega)) ha.g hb.g hK (by rw [l2, w1]) (by omega) (by rw [w2]; omega) (by rw [l1, w2]; omega)
  rw [valM_nm, valM_nm, l1, w1, w2] at h
  exact h
theorem tab_rows (f : Nat → Nat → Rat) (r c : Nat) : ∀ x ∈ tabQ f r c, x.length = c := fun x hx => row_tabQ _ _ _ x hx
theorem ho_rows (A : List (List Rat)) (n : Nat) (l : List Rat) : ∀ x ∈ hoQ A n l, x.length = n := by
  cases l <;> exact tab_rows _ _ _
set_option maxRecDepth 100000 in
set_option maxHeartbeats 4000000 in
theorem ring_y (f g : List QR) (m : MR) (hf : Ip f) (hg : Ip g) (hm : Im m) (e1 : fpE f = 0) (e2 : fpE g = 0) (e3 : fitE m = 0) (e4 : fpE (sumP f g) = 0) (e5 : fpE (mulP f g) = 0) : PCall Tryz.prog 9 [.d (.sl (qes f)), .d (.sl (qes g)), .d (md m)] (.one (.d (.v (.bool true)))) := by
  have h1 := fitPoly14_p f hf
  have h2 := fitPoly14_p g hg
  have h3 := hm.fit
  have hs := sumP_p f g hf hg e1 e2
  have hp := mulP_p f g hf hg e1 e2
  have is : Ip (sumP f g) := add_ip e1 e2
  have ip : Ip (mulP f g) := mul_ip e1 e2
  have h4 := fitPoly14_p (sumP f g) is
  have h5 := fitPoly14_p (mulP f g) ip
  rw [e1] at h1
  rw [e2] at h2
  rw [e3] at h3
  rw [e4] at h4
  rw [e5] at h5
  have a1 := At_ok f m hf hm e1 e3
  have a2 := At_ok g m hg hm e2 e3
  have a3 := At_ok (sumP f g) m is hm e4 e3
  have a4 := At_ok (mulP f g) m ip hm e5 e3
  have a5 := At_ok _ m ip_var hm fpE_var e3
  have a6 := At_ok _ m ip_one hm fpE_one e3
  have q1 := at_sq hf hm (fitsE_of e1 e3)
  have q2 := at_sq hg hm (fitsE_of e2 e3)
  have q3 := at_sq is hm (fitsE_of e4 e3)
  have q4 := at_sq ip hm (fitsE_of e5 e3)
  have q5 := at_sq ip_var hm (fitsE_of fpE_var e3)
  have q6 := at_sq ip_one hm (fitsE_of fpE_one e3)
  have hfi := fine14_p m.2.length [nm (atQ f m), nm (atQ g m), nm (atQ (sumP f g) m), nm (atQ (mulP f g) m), nm (atQ [nq 0, nq 1] m), nm (atQ [nq 1] m)] (fun x hx => by
    simp only [List.mem_cons, List.not_mem_nil, or_false] at hx
    rcases hx with rfl | rfl | rfl | rfl | rfl | rfl
    · exact q1.fine
    · exact q2.fine
    · exact q3.fine
    · exact q4.fine
    · exact q5.fine
    · exact q6.fine) (show 6 < 1000000 by decide)
  have hal := all14_p 6 (by decide)
  have had := add_sq q1 q2 (by decide)
  have hm1 := mul_sq q1 q2 (by decide)
  have hm2 := mul_sq q2 q1 (by decide)
  rw [← at_sum] at had
  rw [← at_mul] at hm1
  rw [← at_mul2] at hm2
  have s3 := same_sq q3 (by decide) (ho_rows _ _ _)
  have s4 := same_sq q4 (by decide) (ho_rows _ _ _)
  have s5 := same_sq q5 (by decide) (ho_rows _ _ _)
  have s6 := same_sq q6 (by decide) (ho_rows _ _ _)
  obtain ⟨c1, c2, c3, c4, c5⟩ := fit_zero e3
  have gm := hm.gm c1
  have hno := norm11_p m (hm.gl (check_parts c1).1) gm (by decide) (by omega) (by have := hm.vfl; omega)
  rw [← at_var m (Im.vrow e3)] at hno
  have hid := ident11_p m.2.length (by omega)
  rw [← at_one] at hid
  generalize atQ f m = A at *
  generalize atQ g m = B at *
  generalize atQ (sumP f g) m = C at *
  generalize atQ (mulP f g) m = D at *
  generalize atQ [nq 0, nq 1] m = X at *
  generalize atQ [nq 1] m = Y at *
  generalize sumP f g = S at *
  generalize mulP f g = P at *
  refine pcall_of hmo Tryz.func9 rfl (by kernel_rfl) (by simp [Tryz.ntmps9]) ?_; simp -implicitDefEqProofs [go_sem, Tryz.ntmps9]; (repeat refine And.intro (by first | decide +kernel | omega | kernel_rfl) ?_); (try decide +kernel)
  refine .inl ⟨_, h1, ?_⟩; simp -implicitDefEqProofs [go_sem, undef]; (repeat refine And.intro (by first | decide +kernel | omega | kernel_rfl) ?_); (try decide +kernel)
  refine .inl ⟨_, h2, ?_⟩; simp -implicitDefEqProofs [go_sem, undef]; (repeat refine And.intro (by first | decide +kernel | omega | kernel_rfl) ?_); (try decide +kernel)
  refine .inl ⟨_, h3, ?_⟩; simp -implicitDefEqProofs [go_sem, undef]; (repeat refine And.intro (by first | decide +kernel | omega | kernel_rfl) ?_); (try decide +kernel)
  refine .inl ⟨_, hs, ?_⟩; simp -implicitDefEqProofs [go_sem]; (repeat refine And.intro (by first | decide +kernel | omega | kernel_rfl) ?_); (try decide +kernel)
  refine .inl ⟨_, hp, ?_⟩; simp -implicitDefEqProofs [go_sem]; (repeat refine And.intro (by first | decide +kernel | omega | kernel_rfl) ?_); (try decide +kernel)
  refine .inl ⟨_, h4, ?_⟩; simp -implicitDefEqProofs [go_sem, undef]; (repeat refine And.intro (by first | decide +kernel | omega | kernel_rfl) ?_); (try decide +kernel)
  refine .inl ⟨_, h5, ?_⟩; simp -implicitDefEqProofs [go_sem, undef]; (repeat refine And.intro (by first | decide +kernel | omega | kernel_rfl) ?_); (try decide +kernel)
  refine .inl ⟨_, a1, ?_⟩; simp -implicitDefEqProofs [go_sem]; (repeat refine And.intro (by first | decide +kernel | omega | kernel_rfl) ?_); (try decide +kernel)
  refine .inl ⟨_, a2, ?_⟩; simp -implicitDefEqProofs [go_sem]; (repeat refine And.intro (by first | decide +kernel | omega | kernel_rfl) ?_); (try decide +kernel)
  refine .inl ⟨_, a3, ?_⟩; simp -implicitDefEqProofs [go_sem]; (repeat refine And.intro (by first | decide +kernel | omega | kernel_rfl) ?_); (try decide +kernel)
  refine .inl ⟨_, a4, ?_⟩; simp -implicitDefEqProofs [go_sem]; (repeat refine And.intro (by first | decide +kernel | omega | kernel_rfl) ?_); (try decide +kernel)
  refine .inl ⟨_, polyx_p, ?_⟩; simp -implicitDefEqProofs [go_sem]; (repeat refine And.intro (by first | decide +kernel | omega | kernel_rfl) ?_); (try decide +kernel)
  refine .inl ⟨_, a5, ?_⟩; simp -implicitDefEqProofs [go_sem]; (repeat refine And.intro (by first | decide +kernel | omega | kernel_rfl) ?_); (try decide +kernel)
  refine .inl ⟨_, poly1_p, ?_⟩; simp -implicitDefEqProofs [go_sem]; (repeat refine And.intro (by first | decide +kernel | omega | kernel_rfl) ?_); (try decide +kernel)
  refine .inl ⟨_, a6, ?_⟩; simp -implicitDefEqProofs [go_sem]; (repeat refine And.intro (by first | decide +kernel | omega | kernel_rfl) ?_); (try decide +kernel)
  refine .inl ⟨_, hal, ?_⟩; simp -implicitDefEqProofs [go_sem]; (repeat refine And.intro (by first | decide +kernel | omega | kernel_rfl) ?_); (try decide +kernel)
  refine .inl ⟨_, hfi, ?_⟩; simp -implicitDefEqProofs [go_sem]; (repeat refine And.intro (by first | decide +kernel | omega | kernel_rfl) ?_); (try decide +kernel)
  refine .inl ⟨_, had, ?_⟩; simp -implicitDefEqProofs [go_sem]; (repeat refine And.intro (by first | decide +kernel | omega | kernel_rfl) ?_); (try decide +kernel)
  refine .inl ⟨_, s3, ?_⟩; simp -implicitDefEqProofs [go_sem]; (repeat refine And.intro (by first | decide +kernel | omega | kernel_rfl) ?_); (try decide +kernel)
  refine .inl ⟨_, hm1, ?_⟩; simp -implicitDefEqProofs [go_sem]; (repeat refine And.intro (by first | decide +kernel | omega | kernel_rfl) ?_); (try decide +kernel)
  refine .inl ⟨_, s4, ?_⟩; simp -implicitDefEqProofs [go_sem]; (repeat refine And.intro (by first | decide +kernel | omega | kernel_rfl) ?_); (try decide +kernel)
  refine .inl ⟨_, hm2, ?_⟩; simp -implicitDefEqProofs [go_sem]; (repeat refine And.intro (by first | decide +kernel | omega | kernel_rfl) ?_); (try decide +kernel)
  refine .inl ⟨_, s4, ?_⟩; simp -implicitDefEqProofs [go_sem]; (repeat refine And.intro (by first | decide +kernel | omega | kernel_rfl) ?_); (try decide +kernel)
  refine .inl ⟨_, hno, ?_⟩; simp -implicitDefEqProofs [go_sem]; (repeat refine And.intro (by first | decide +kernel | omega | kernel_rfl) ?_); (try decide +kernel)
  refine .inl ⟨_, s5, ?_⟩; simp -implicitDefEqProofs [go_sem]; (repeat refine And.intro (by first | decide +kernel | omega | kernel_rfl) ?_); (try decide +kernel)
  refine .inl ⟨_, hid, ?_⟩; simp -implicitDefEqProofs [go_sem]; (repeat refine And.intro (by first | decide +kernel | omega | kernel_rfl) ?_); (try decide +kernel)
  refine .inl ⟨_, s6, ?_⟩; simp -implicitDefEqProofs [go_sem]; (repeat refine And.intro (by first | decide +kernel | omega | kernel_rfl) ?_); (try decide +kernel)
  refine .inl ⟨_, awake14_p, ?_⟩; simp -implicitDefEqProofs [go_sem]; (repeat refine And.intro (by first | decide +kernel | omega | kernel_rfl) ?_); (try decide +kernel)
theorem ring_p (f g : List QR) (m : MR) (hf : Ip f) (hg : Ip g) (hm : Im m) : PCall Tryz.prog 9 [.d (.sl (qes f)), .d (.sl (qes g)), .d (md m)] (.one (.d (.v (.bool true)))) := by
  by_cases h : fpE f = 0 ∧ fpE g = 0 ∧ fitE m = 0
  · obtain ⟨e1, e2, e3⟩ := h
    by_cases h2 : fpE (sumP f g) = 0 ∧ fpE (mulP f g) = 0
    · exact ring_y f g m hf hg hm e1 e2 e3 h2.1 h2.2
    · exact ring_n f g m hf hg hm e1 e2 e3 h2
  · exact ring_e f g m hf hg hm h
end Go.Mt
/-
  A part of the proof.
-/
set_option linter.unusedSimpArgs false
set_option linter.unusedVariables false
namespace Go.Mt
open Go Go.Pm Go.Proofs Go.RowKit Go.ChangeShapes Go.WideShapes Go.ChangeAt
section
variable {H : Type} {enc : TypeId × Value → H} {w : World} {hd : Bool}
def PolyM (l : List QR) (b : Nat) : Prop := (∀ x ∈ l, Rq x ∧ x.1.2.length < b ∧ x.2.2.length < b) ∧ l.length < b
theorem giv_poly {K : Nat} (hK : K < 1099511627776) : Giv K H enc w hd 95 (fun l : List QR => [.sl (qes l)]) PolyM :=
  (giv_list (k := 4) Tryz.underlying95 (by kernel_rfl) (by decide) (fun _ => rfl) (giv_rat hK)).mono fun l b _ h => ⟨fun x hx => by
    obtain ⟨b', h1, ⟨⟨h2, h3, h4⟩, h5⟩⟩ := h.mem x hx
    exact ⟨h2, by omega, by omega⟩, by have := h.len (fun _ _ h => by have := h.2; omega); omega⟩
end
theorem Ip.of {l : List QR} {b : Nat} (h : PolyM l b) (hb : b ≤ 1048576) : Ip l := ⟨fun x hx => by
  obtain ⟨h1, h2, h3⟩ := h.1 x hx
  exact ⟨h1, by omega, by omega⟩, by have := h.2; omega⟩
theorem ring_a (f g : List QR) (m : MR) {b0 b1 b2 : Nat} (h0 : PolyM f b0) (h1 : PolyM g b1) (h2 : MatM m b2) (hb : b0 + b1 + b2 ≤ 1048576) : PCall Tryz.prog 9 [.d (.sl (qes f)), .d (.sl (qes g)), .d (md m)] (.one (.d (.v (.bool true)))) :=
  ring_p f g m (.of h0 (by omega)) (.of h1 (by omega)) (.of h2 (by omega))
end Go.Mt
/-
  A part of the proof.
-/
set_option linter.unusedSimpArgs false
set_option linter.unusedVariables false
namespace Go.Proofs.YtmhclkagdpbadaaGreat.evalmRing
open Go.ChangeShapes Go.WideShapes Go.ChangeAt Go.RowKit Go.Pm Go.Mt
theorem own : ownKnob Tryz.prog.godebug = none := by kernel_rfl
set_option maxRecDepth 100000 in
theorem contract (H : Type) (enc : TypeId × Value → H) (W : World) (base : Nat) (args : Array Value) (ds gs : List (DataW H)) (before : List MemPlace)
    (hval : ∀ (j : Nat) t v, Tryz.f9.params[j]? = some t → args[j]? = some v → Value.okWide Tryz.prog W .any base t v)
    (hW : DataW.Whole enc Tryz.prog Tryz.f9.params.toList Rows.evalmRingSpec.vars false W args.toList ds gs before) (hk : Rows.uptoSmall H (ds ++ gs) = true) :
    Calls Tryz.prog 9 args W fun e W' => ∃ v, e = .returned v ∧ Rows.evalmRingSpec.post enc Tryz.prog Tryz.f9 false true false false W args v W' := by
  have hW' := hW
  obtain ⟨p, q, hA0, hV, rfl, hfz, hnd⟩ := hW
  have hA : DataW.TrodAll enc Tryz.prog W 0 (fun _ => true) true Tryz.f9.params.toList args.toList ds p := hA0
  rw [Tryz.params9] at hA hval
  obtain ⟨v0, vs0, d0, ds0, p0, q0, hargs, rfl, rfl, h0, r0⟩ := trodAll_cons hA
  obtain ⟨v1, vs1, d1, ds1, p1, q1, rfl, rfl, rfl, h1, r1⟩ := trodAll_cons r0
  obtain ⟨v2, vs2, d2, ds2, p2, q2, rfl, rfl, rfl, h2, r2⟩ := trodAll_cons r1
  obtain ⟨rfl, rfl, rfl⟩ := trodAll_nil r2
  obtain rfl : args = #[v0, v1, v2] := by cases args; simp_all
  obtain ⟨rfl, rfl⟩ := trodVars_none hV
  have hb : Rows.uptoBulk d0 + Rows.uptoBulk d1 + Rows.uptoBulk d2 ≤ 1048576 := by
    have h := of_decide_eq_true hk
    simp only [List.append_nil, Rows.uptoBulkAll] at h
    omega
  have hb0 : Rows.uptoBulk d0 ≤ 1048576 := by omega
  obtain ⟨a0, n0, c0, rfl⟩ := okWide_slice Tryz.underlying95 (hval 0 95 v0 rfl rfl)
  obtain ⟨fuel0, hf0⟩ := h0
  obtain ⟨x0, hr0, hM0⟩ := giv_poly (K := 1048576) (by decide) fuel0 _ _ hf0 (fun b o hm => hfz b o (List.mem_append_left _ (List.mem_append_left _ hm))) hb0
  have hb1 : Rows.uptoBulk d1 ≤ 1048576 := by omega
  obtain ⟨a1, n1, c1, rfl⟩ := okWide_slice Tryz.underlying95 (hval 1 95 v1 rfl rfl)
  obtain ⟨fuel1, hf1⟩ := h1
  obtain ⟨x1, hr1, hM1⟩ := giv_poly (K := 1048576) (by decide) fuel1 _ _ hf1 (fun b o hm => hfz b o (List.mem_append_left _ (List.mem_append_right _ (List.mem_append_left _ hm)))) hb1
  have hb2 : Rows.uptoBulk d2 ≤ 1048576 := by omega
  obtain ⟨cs2, rfl, _⟩ := okWide_struct Tryz.underlying28 (hval 2 28 v2 rfl rfl)
  obtain ⟨fuel2, hf2⟩ := h2
  obtain ⟨x2, hr2, hM2⟩ := giv_mat (K := 1048576) (by decide) fuel2 _ _ hf2 (fun b o hm => hfz b o (List.mem_append_left _ (List.mem_append_right _ (List.mem_append_right _ (List.mem_append_left _ hm))))) hb2
  have hlaw := ring_a x0 x1 x2 hM0 hM1 hM2 hb
  refine law_post (tb := 4) (xs := [.d (.sl (qes x0)), .d (.sl (qes x1)), .d (md x2)]) hW' rfl (by kernel_rfl) (by rw [Tryz.params9]; intro t ht; simp at ht; first | (subst ht; exact ⟨by kernel_rfl, of_decide_eq_true (by kernel_rfl)⟩) | (rcases ht with rfl | rfl <;> exact ⟨by kernel_rfl, of_decide_eq_true (by kernel_rfl)⟩)) Tryz.underlying4 (by kernel_rfl) (fun H ds hd => ?_) hlaw rfl (fun j p v h1 h2 => ?_)
  · match ds, hd with
    | [e0, e1, e2], _ => exact ⟨rfl, rfl, rfl⟩
  · cases j with
    | zero => cases h1; cases h2; exact .d (RdC.slice hr0)
    | succ j =>
      cases j with
      | zero => cases h1; cases h2; exact .d (RdC.slice hr1)
      | succ j =>
        cases j with
        | zero => cases h1; cases h2; exact .d (RdC.agg hr2)
        | succ j =>
          cases h1
end Go.Proofs.YtmhclkagdpbadaaGreat.evalmRing
/-
  A part of the proof.
-/
set_option linter.unusedSimpArgs false
set_option linter.unusedVariables false
namespace Go.Proofs.YtmhclkagdpbadaaGreat.evalmRing
open Go.ChangeShapes Go.WideShapes Go.ChangeAt Go.RowKit Go.Pm Go.Mt
set_option maxRecDepth 100000 in
theorem lifted (os : Os) (started : os.Started) (H : Type) (enc : TypeId × Value → H) (F : Stop.Interp) :
    ReturnsInHanded {} Tryz.checked os 9 .any ((Rows.OpenSpec.upto Rows.evalmRingSpec).pre6 enc Tryz.prog Tryz.f9 Rows.evalmRingUptoRow.domain false) (((Rows.OpenSpec.upto Rows.evalmRingSpec).at F).post enc Tryz.prog Tryz.f9 false true false false) := by
  refine returnsInHanded_of_cond (C := Tryz.checked) (s := (Rows.OpenSpec.upto Rows.evalmRingSpec)) (k := Rows.uptoSmall) rfl own started (by kernel_rfl) Tryz.func9
    (OpenSpec.witness (enc := enc) (C := Tryz.checked) (s := (Rows.OpenSpec.upto Rows.evalmRingSpec)) (k := Rows.uptoSmall) rfl false ⟨#[], #[.slice none 0 0, .slice none 0 0, .agg #[.bool false, .slice none 0 0, .slice none 0 0]], []⟩ 8 (by kernel_rfl) (by kernel_rfl) (by kernel_rfl)
      (x := ([.nil, .nil, .agg [.agg [.lit (.bool false), .nil], .nil]], [], [])) (by kernel_rfl) rfl (by kernel_rfl)) ?_
  intro W base args ds gs before hval hW _ hk _
  exact contract H enc W base args ds gs before hval hW hk
end Go.Proofs.YtmhclkagdpbadaaGreat.evalmRing
