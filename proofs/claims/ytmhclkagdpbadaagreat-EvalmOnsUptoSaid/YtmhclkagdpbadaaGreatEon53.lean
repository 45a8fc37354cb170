/-
  A part of the proof.
-/
import Derived.Test.YtmhclkagdpbadaaGreatEon50
import Derived.Test.YtmhclkagdpbadaaGreatEon52
set_option linter.unusedVariables false
set_option linter.unusedSimpArgs false
set_option linter.unusedSimpArgs false
set_option linter.unusedVariables false
namespace Go.Mt
open Go Go.Pm Go.Proofs
theorem Iw.lv {v : VR} (h : Iw v) (h0 : ofR v.1 ≠ 0) : Lv v := ⟨h.d, h0, by have := h.ld; omega, fun z hz => ⟨(h.z z hz).1, by have := (h.z z hz).2; omega⟩, by have := h.n; omega⟩
theorem fitVec14_p (v : VR) (h : Iw v) (n : Nat) : PCall Tryz.prog 89 [.d (vd v), .d (.v (.int .i64 (n : Int)))] (.one (.d (.v (.int .i64 (fvE v n))))) := by
  have hm := vecMay11_p v h.d
  by_cases h0 : ofR v.1 = 0
  · rw [decide_eq_false (by simpa using h0)] at hm
    have e : fvE v n = 6 := if_pos h0
    rw [e]
    refine pcall_of hmo Tryz.func89 rfl (by kernel_rfl) (by simp [Tryz.ntmps89]) ?_; simp -implicitDefEqProofs [go_sem, Tryz.ntmps89]; (repeat refine And.intro (by first | decide +kernel | omega | kernel_rfl) ?_); (try decide +kernel)
    refine .inl ⟨_, hm, ?_⟩; simp -implicitDefEqProofs [go_sem]; (repeat refine And.intro (by first | decide +kernel | omega | kernel_rfl) ?_); (try decide +kernel)
  · rw [decide_eq_true h0] at hm
    by_cases h1 : v.2.length = n
    · have hz : ((v.2.length : Nat) : Int) = (n : Int) := by omega
      have he := entries11_p v (h.lv h0)
      have hql := h.ql h0
      have hvl := valV_len v
      have hn := h.n
      have hht := height5_p (valV v) (fun q hq => by have := hql q hq; omega) (by omega)
      have e : fvE v n = if 4096 < qhs (valV v) then 4 else 0 := by unfold fvE; rw [if_neg h0, if_neg (by omega)]
      rw [e]
      generalize qhs (valV v) = H at *
      by_cases h2 : 4096 < H
      · have h3 : (4096 : Int) < (H : Int) := by omega
        rw [if_pos h2]
        refine pcall_of hmo Tryz.func89 rfl (by kernel_rfl) (by simp [Tryz.ntmps89]) ?_; simp -implicitDefEqProofs [go_sem, Tryz.ntmps89]; (repeat refine And.intro (by first | decide +kernel | omega | kernel_rfl) ?_); (try decide +kernel)
        refine .inl ⟨_, hm, ?_⟩; simp -implicitDefEqProofs [go_sem, hz, h1]; (repeat refine And.intro (by first | decide +kernel | omega | kernel_rfl) ?_); (try decide +kernel)
        refine .inl ⟨_, he, ?_⟩; simp -implicitDefEqProofs [go_sem]; (repeat refine And.intro (by first | decide +kernel | omega | kernel_rfl) ?_); (try decide +kernel)
        refine .inl ⟨_, hht, ?_⟩; simp -implicitDefEqProofs [go_sem, h2, h3]; (repeat refine And.intro (by first | decide +kernel | omega | kernel_rfl) ?_); (try decide +kernel)
      · have h3 : ¬ (4096 : Int) < (H : Int) := by omega
        rw [if_neg h2]
        refine pcall_of hmo Tryz.func89 rfl (by kernel_rfl) (by simp [Tryz.ntmps89]) ?_; simp -implicitDefEqProofs [go_sem, Tryz.ntmps89]; (repeat refine And.intro (by first | decide +kernel | omega | kernel_rfl) ?_); (try decide +kernel)
        refine .inl ⟨_, hm, ?_⟩; simp -implicitDefEqProofs [go_sem, hz, h1]; (repeat refine And.intro (by first | decide +kernel | omega | kernel_rfl) ?_); (try decide +kernel)
        refine .inl ⟨_, he, ?_⟩; simp -implicitDefEqProofs [go_sem]; (repeat refine And.intro (by first | decide +kernel | omega | kernel_rfl) ?_); (try decide +kernel)
        refine .inl ⟨_, hht, ?_⟩; simp -implicitDefEqProofs [go_sem, h2, h3]; (repeat refine And.intro (by first | decide +kernel | omega | kernel_rfl) ?_); (try decide +kernel)
    · have hz : ¬ ((v.2.length : Nat) : Int) = (n : Int) := by omega
      have e : fvE v n = 2 := by unfold fvE; rw [if_neg h0, if_pos h1]
      rw [e]
      refine pcall_of hmo Tryz.func89 rfl (by kernel_rfl) (by simp [Tryz.ntmps89]) ?_; simp -implicitDefEqProofs [go_sem, Tryz.ntmps89]; (repeat refine And.intro (by first | decide +kernel | omega | kernel_rfl) ?_); (try decide +kernel)
      refine .inl ⟨_, hm, ?_⟩; simp -implicitDefEqProofs [go_sem, hz, h1]; (repeat refine And.intro (by first | decide +kernel | omega | kernel_rfl) ?_); (try decide +kernel)
theorem zero11_p (r c : Nat) (hr : r < 1000) (hc : c < 1000) : PCall Tryz.prog 171 [.d (.v (.int .i64 (r : Int))), .d (.v (.int .i64 (c : Int)))] (.one (.d (md (nm (zeroQ r c))))) := by
  have hfl := (fill11_t r c (by omega) (by omega)).sto_d
  rw [tqs_d] at hfl
  have hrc := Nat.mul_le_mul (show r ≤ 999 by omega) (show c ≤ 999 by omega)
  have hfr := from11_p (zeroQ r c) (fun q hq => by
    obtain ⟨l, h1, h2⟩ := List.mem_flatten.1 hq
    obtain ⟨i, _, rfl⟩ := List.mem_map.1 h1
    obtain ⟨k, _, rfl⟩ := List.mem_map.1 h2
    exact (by decide : ql 0 < 8589934592)) (by unfold zeroQ; rw [length_tabQ]; omega) (by
    unfold zeroQ; rw [tabQ_flat]; omega) (by
    have h := com_table (D := 1) (by decide) (f := fun _ _ => 0) (g := fun _ _ => 0) (r := r) (c := c) (fun i k _ _ => (ratv_z 1).symm)
    have e : zl 1 = 1 := by decide
    unfold zeroQ; omega)
  generalize zeroQ r c = Z at *
  refine pcall_of hmo Tryz.func171 rfl (by kernel_rfl) (by simp [Tryz.ntmps171]) ?_; simp -implicitDefEqProofs [go_sem, Tryz.ntmps171]; (repeat refine And.intro (by first | decide +kernel | omega | kernel_rfl) ?_); (try decide +kernel)
  refine .inl ⟨_, hfl, ?_⟩; simp -implicitDefEqProofs [go_sem]; (repeat refine And.intro (by first | decide +kernel | omega | kernel_rfl) ?_); (try decide +kernel)
  refine .inl ⟨_, hfr, ?_⟩; simp -implicitDefEqProofs [go_sem]; (repeat refine And.intro (by first | decide +kernel | omega | kernel_rfl) ?_); (try decide +kernel)
/-- a power of a matrix -/
def pwQ (A : List (List Rat)) (n t : Nat) : List (List Rat) := tabQ (pwE A n t) n n
/-- what the first powers make, so far -/
def ptQ (A : List (List Rat)) (n : Nat) (c : Nat → Rat) (t : Nat) : List (List Rat) := tabQ (poE A n c t) n n
theorem pw_mul (A : List (List Rat)) (n t : Nat) : mulQ (pwQ A n t) A n n n = pwQ A n (t + 1) := tabQ_congr fun i k hi hk => by
  show _ = sumN n fun j => pwE A n t i j * entQ A j k
  exact sumN_congr fun j hj => by unfold pwQ; rw [entQ_tabQ _ _ _ _ _ hi hj]
theorem pt_add (A : List (List Rat)) (n : Nat) (c : Nat → Rat) (t : Nat) : joinQ (· + ·) (ptQ A n c t) (scaleQ (pwQ A n t) (c t) n n) n n = ptQ A n c (t + 1) := tabQ_congr fun i k hi hk => by
  show entQ _ i k + entQ _ i k = poE A n c t i k + c t * pwE A n t i k
  unfold ptQ scaleQ pwQ
  rw [entQ_tabQ _ _ _ _ _ hi hk, entQ_tabQ _ _ _ _ _ hi hk, entQ_tabQ _ _ _ _ _ hi hk, Rat.mul_comm (c t)]
theorem pt_past (A : List (List Rat)) (n : Nat) (c : Nat → Rat) (t : Nat) (h : c t = 0) : ptQ A n c (t + 1) = ptQ A n c t := tabQ_congr fun i k _ _ => by
  show poE A n c t i k + c t * pwE A n t i k = _
  rw [h, Rat.zero_mul, Rat.add_zero]
theorem pw_sq {n K : Nat} {A : List (List Rat)} (h : Sq n K A) (t : Nat) (hK : 2 * ((K + 3) * (t + 1)) < 1099511627776 - 10) : Sq n ((K + 3) * t + 1) (pwQ A n t) := by
  induction t with
  | zero => exact Sq.id h.n0 h.n1
  | succ t ih =>
    have e1 : (K + 3) * (t + 1) = (K + 3) * t + (K + 3) := Nat.mul_succ _ _
    have e2 : (K + 3) * (t + 1 + 1) = (K + 3) * (t + 1) + (K + 3) := Nat.mul_succ _ _
    have s := (ih (by omega)).mul h (by omega)
    have s2 := s.2
    rw [pw_mul] at s2
    exact ⟨s2.n0, s2.n1, s2.l, s2.c, s2.g.mono (by omega)⟩
theorem pt_sq {n K L T : Nat} {A : List (List Rat)} (h : Sq n K A) {c : Nat → Rat} (hc : ∀ t, ql (c t) ≤ L) (h0 : ∀ t, T ≤ t → c t = 0) (hL : L < 8589934592) (hK : (K + L + 9) * ((T + 1) * (T + 1)) < 274877906944) (t : Nat) : Sq n ((K + L + 9) * (T * T) + 1) (ptQ A n c t) := by
  have key : ∀ t, t ≤ T → Sq n ((K + L + 9) * (t * T) + 1) (ptQ A n c t) := by
    intro t
    induction t with
    | zero => intro _; rw [Nat.zero_mul, Nat.mul_zero]; exact Sq.zero h.n0 h.n1
    | succ t ih =>
      intro ht
      have s0 := ih (by omega)
      have e0 : (K + L + 9) * ((t + 1) * T) = (K + L + 9) * (t * T) + (K + L + 9) * T := by
        generalize K + L + 9 = X
        rw [Nat.succ_mul, Nat.mul_add]
      have e1 : (K + L + 9) * (t * T) ≤ (K + L + 9) * ((T + 1) * (T + 1)) := Nat.mul_le_mul_left _ (Nat.mul_le_mul (by omega) (by omega))
      have e2 : (K + L + 9) * (t + 1) ≤ (K + L + 9) * ((T + 1) * (T + 1)) := Nat.mul_le_mul_left _ (by have := Nat.mul_le_mul (show t + 1 ≤ T + 1 by omega) (show 1 ≤ T + 1 by omega); omega)
      have e3 : (K + 3) * (t + 1) ≤ (K + L + 9) * (t + 1) := Nat.mul_le_mul_right _ (by omega)
      have e4 : (K + L + 9) * (t + 1) ≤ (K + L + 9) * T := Nat.mul_le_mul_left _ (by omega)
      have e5 : (K + 3) * (t + 1) = (K + 3) * t + (K + 3) := Nat.mul_succ _ _
      have e6 : (K + L + 9) * (t + 1) = (K + L + 9) * t + (K + L + 9) := Nat.mul_succ _ _
      have e7 : (K + 3) * t ≤ (K + L + 9) * t := Nat.mul_le_mul_right _ (by omega)
      have s1 := pw_sq h t (by omega)
      have s2 := (s1.scale (hc t) hL (by omega)).2
      have s3 := (s0.add s2 (by omega)).2
      rw [pt_add] at s3
      exact ⟨s3.n0, s3.n1, s3.l, s3.c, s3.g.mono (by omega)⟩
  by_cases ht : t ≤ T
  · have s := key t ht
    have : (K + L + 9) * (t * T) ≤ (K + L + 9) * (T * T) := Nat.mul_le_mul_left _ (Nat.mul_le_mul_right _ ht)
    exact ⟨s.n0, s.n1, s.l, s.c, s.g.mono (by omega)⟩
  · have e : ∀ k, ptQ A n c (T + k) = ptQ A n c T := by
      intro k
      induction k with
      | zero => rfl
      | succ k ih => rw [← Nat.add_assoc, pt_past _ _ _ _ (h0 _ (by omega)), ih]
    obtain ⟨k, rfl⟩ : ∃ k, t = T + k := ⟨t - T, by omega⟩
    rw [e]; exact key T (Nat.le_refl _)
theorem scale_sq {n K : Nat} {A : List (List Rat)} (ha : Sq n K A) {x : QR} (hx : Lq x) (hq : ql (ofQ x) ≤ K) (hK : 2 * K < 8589934592) : PCall Tryz.prog 52 [.d (md (nm A)), .d (qd x)] (.one (.d (md (nm (scaleQ A (ofQ x) n n))))) := by
  have l1 : (nm A).2.length = n := by rw [nm_len, ha.l]
  have w1 : colsOf (nm A).2 = n := by rw [nm_cols, ha.c]
  have := ha.n1
  have h1 : n * n ≤ 1000 * 1000 := Nat.mul_le_mul this this
  have h := scale11_p (nm A) x (gl_nm ha.g (by omega)) ha.g hx hq hK (by omega) (by rw [l1, w1]; omega)
  rw [valM_nm, l1, w1] at h
  exact h
theorem Sq.mono {n K L : Nat} {A : List (List Rat)} (h : Sq n K A) (hl : K ≤ L) : Sq n L A := ⟨h.n0, h.n1, h.l, h.c, h.g.mono hl⟩
/-- a normal form times a matrix that came in -/
theorem mulm_sq {n K : Nat} {A : List (List Rat)} (ha : Sq n K A) {m : MR} (gm : Gm K m) (gl : Gl m) (hl : m.2.length = n) (hc : colsOf m.2 = n) (hK : 2 * K + 2 < 8589934592) : PCall Tryz.prog 47 [.d (md (nm A)), .d (md m)] (.one (.d (md (nm (mulQ A (valM m) n n n))))) := by
  have l1 : (nm A).2.length = n := by rw [nm_len, ha.l]
  have w1 : colsOf (nm A).2 = n := by rw [nm_cols, ha.c]
  have := ha.n1
  have h1 : n * n ≤ 1000 * 1000 := Nat.mul_le_mul this this
  have h := mul11_p (nm A) m (gl_nm ha.g (by omega)) gl ha.g gm hK (by rw [hl, w1]) (by omega) (by rw [hc]; omega) (by rw [l1, hc]; omega)
  rw [valM_nm, l1, w1, hc] at h
  exact h
set_option maxRecDepth 100000 in
set_option maxHeartbeats 2000000 in
theorem at14_x (f : List QR) (m : MR) (hf : ∀ x ∈ f, Lq x) (hL : ∀ t, ql (cf (f.map ofQ) t) ≤ 128) (h0 : ∀ t, 101 ≤ t → cf (f.map ofQ) t = 0) (hm : Im m) (hd : checkE m = 0) {n : Nat} (hn : m.2.length = n) (hn2 : colsOf m.2 = n) (hn3 : n ≤ 24) (hs : Sq n 12200 (valM m)) (hfl : f.length ≤ 131072) :
    PCall Tryz.prog 91 [.d (.sl (qes f)), .d (md m)] (.one (.d (md (nm (ptQ (valM m) n (cf (f.map ofQ)) f.length))))) := by
  have hz := zero11_p n n (by omega) (by omega)
  have hi := ident11_p n (by omega)
  have gm := hm.gm hd
  have gl := hm.gl (check_parts hd).1
  obtain ⟨A, hA⟩ : ∃ A, A = valM m := ⟨_, rfl⟩
  obtain ⟨c, hc⟩ : ∃ c, c = cf (f.map ofQ) := ⟨_, rfl⟩
  rw [← hc] at hL h0 ⊢
  rw [← hA] at hs ⊢
  have hpw : ∀ t, t ≤ 131072 → Sq n 1599471626 (pwQ A n t) := fun t ht => (pw_sq hs t (by omega)).mono (by omega)
  have hpt : ∀ t, Sq n 200000000 (ptQ A n c t) := fun t => (pt_sq hs hL h0 (by decide) (by decide) t).mono (by decide)
  have e0 : zeroQ n n = ptQ A n c 0 := rfl
  have e1 : identQ n = pwQ A n 0 := rfl
  rw [e0] at hz
  rw [e1] at hi
  refine pcall_of hmo Tryz.func91 rfl (by kernel_rfl) (by simp [Tryz.ntmps91]) ?_; simp -implicitDefEqProofs [go_sem, Tryz.ntmps91]; (repeat refine And.intro (by first | decide +kernel | omega | kernel_rfl) ?_); (try decide +kernel)
  simp -implicitDefEqProofs [go_sem, hn]; (repeat refine And.intro (by first | decide +kernel | omega | kernel_rfl) ?_); (try decide +kernel)
  refine .inl ⟨_, hz, ?_⟩; simp -implicitDefEqProofs [go_sem]; (repeat refine And.intro (by first | decide +kernel | omega | kernel_rfl) ?_); (try decide +kernel)
  refine .inl ⟨_, hi, ?_⟩; simp -implicitDefEqProofs [go_sem]; (repeat refine And.intro (by first | decide +kernel | omega | kernel_rfl) ?_); (try decide +kernel)
  refine loop_rule [] (fun (i : Nat) => ⟨37, [(3, .pr 0 0 0 0), (4, .pr 4 0 0 0), (6, .pr 36 0 0 0), (7, .pr 52 0 0 0), (18, .d (.sl (qes f))), (19, intP .i64 (f.length : Int)), (20, intP .i64 (i : Int))],
      [(52, .box (mbx (nm (pwQ A n (i - 1))))), (36, .box (mbx (nm (ptQ A n c i)))), (4, .box [.d (.v (.bool false)), .nl, .nl]), (0, .box (mbx m))], 5000⟩)
    (fun i => i ≤ f.length) (fun i => f.length - i) 0 (Nat.zero_le _) (by simp) (by simp -implicitDefEqProofs [go_sem, mbx]) (fun i hi => ?_)
  by_cases hil : i < f.length
  · have hci : ofQ f[i] = c i := by rw [hc, cf_map]; unfold qg; rw [List.getElem?_eq_getElem hil]; rfl
    have hsc := scale_sq (hpw i (by omega)) (hf _ (List.getElem_mem hil)) (by rw [hci]; have := hL i; omega) (by decide)
    have s2 := (hpw i (by omega)).scale (hL i) (by decide) (by decide)
    rw [hci] at hsc
    have hpo := hpt i
    have had := add_sq (K := 1599471755) ((hpt i).mono (by decide)) (s2.2.mono (by decide)) (by decide)
    rw [pt_add] at had
    by_cases h1 : i = 0
    · subst h1
      generalize hP : pwQ A n 0 = P at *
      generalize hT1 : ptQ A n c (0 + 1) = T1 at *
      generalize hT : ptQ A n c 0 = T0 at *
      generalize scaleQ P (c 0) n n = S at *
      simp -implicitDefEqProofs [go_sem, hil, mbx, hP, hT]; (repeat refine And.intro (by first | decide +kernel | omega | kernel_rfl) ?_); (try decide +kernel)
      refine .inl ⟨_, hsc, ?_⟩; simp -implicitDefEqProofs [go_sem, hil]; (repeat refine And.intro (by first | decide +kernel | omega | kernel_rfl) ?_); (try decide +kernel)
      refine .inl ⟨_, had, ?_⟩; simp -implicitDefEqProofs [go_sem, hil]; (repeat refine And.intro (by first | decide +kernel | omega | kernel_rfl) ?_); (try decide +kernel)
      have hP2 : pwQ A n (1 - 1) = P := hP
      have hT2 : ptQ A n c 1 = T1 := hT1
      refine ⟨1, ?_⟩; (repeat' apply And.intro) <;> first | omega | (exact (by rw [hP])) | (exact (by rw [hP2])) | (exact (by rw [hT2])) | assumption | rfl
    · have hmu := mulm_sq (hpw (i - 1) (by omega)) (gm.mono (by decide)) gl hn hn2 (by decide)
      rw [← hA, pw_mul, Nat.sub_add_cancel (by omega)] at hmu
      have hip : 0 < i := by omega
      have hi1 : i + 1 - 1 = i := by omega
      generalize hP1 : pwQ A n i = P1 at *
      generalize hP : pwQ A n (i - 1) = P at *
      generalize hT1 : ptQ A n c (i + 1) = T1 at *
      generalize hT : ptQ A n c i = T0 at *
      generalize scaleQ P1 (c i) n n = S at *
      simp -implicitDefEqProofs [go_sem, hil, mbx, hip, hP, hT]; (repeat refine And.intro (by first | decide +kernel | omega | kernel_rfl) ?_); (try decide +kernel)
      refine .inl ⟨_, hmu, ?_⟩; simp -implicitDefEqProofs [go_sem, hil]; (repeat refine And.intro (by first | decide +kernel | omega | kernel_rfl) ?_); (try decide +kernel)
      refine .inl ⟨_, hsc, ?_⟩; simp -implicitDefEqProofs [go_sem, hil]; (repeat refine And.intro (by first | decide +kernel | omega | kernel_rfl) ?_); (try decide +kernel)
      refine .inl ⟨_, had, ?_⟩; simp -implicitDefEqProofs [go_sem, hil]; (repeat refine And.intro (by first | decide +kernel | omega | kernel_rfl) ?_); (try decide +kernel)
      refine ⟨i + 1, ?_⟩; (repeat' apply And.intro) <;> first | omega | (exact (by rw [hP1])) | (exact (by rw [hi1, hP1])) | (exact (by rw [hT1])) | assumption | rfl
  · obtain rfl : i = f.length := by omega
    generalize ptQ A n c f.length = T at *
    simp -implicitDefEqProofs [go_sem, mbx]; (repeat refine And.intro (by first | decide +kernel | omega | kernel_rfl) ?_); (try decide +kernel)
end Go.Mt
/-
  A part of the proof.
-/
set_option linter.unusedSimpArgs false
set_option linter.unusedVariables false
namespace Go.Mt
open Go Go.Pm Go.Proofs
theorem pt_at (f : List QR) (m : MR) : ptQ (valM m) m.2.length (cf (f.map ofQ)) f.length = atQ f m := by
  unfold atQ
  rw [ho_tab _ _ _ f.length (plQ_len f)]
  have e : cf (plQ f) = cf (f.map ofQ) := funext fun t => cf_trim _ t
  rw [e]; rfl
theorem at14_p (f : List QR) (m : MR) (hf : Ip f) (hm : Im m) (h0 : fpE f = 0) (h1 : fitE m = 0) (hb : limbsOf m ≤ 1048576) (hl : f.length ≤ 131072) :
    PCall Tryz.prog 91 [.d (.sl (qes f)), .d (md m)] (.one (.d (md (nm (atQ f m))))) := by
  obtain ⟨a1, _, _⟩ := fpE_may h0
  obtain ⟨c1, c2, c3, c4, c5⟩ := fit_zero h1
  have h := at14_x f m (hf.lq a1) (fun t => by rw [cf_map]; exact fp_short h0 t) (fun t ht => by rw [cf_map]; exact fp_zero h0 ht) hm c1 rfl c3.symm c4 (hm.sqs h1 hb) hl
  rw [pt_at] at h
  exact h
/-- a list of fractions as it is filled, one place at hand -/
def eap (l : List QR) (i : Nat) (x : QR) : List (List D) := (qfil l i).set i (qel x)
theorem eap_len (l : List QR) {i : Nat} (h : i < l.length) (x : QR) : (eap l i x).length = l.length := by
  unfold eap qfil
  rw [List.length_set, ← qes_len l]
  exact fill_len (qes l) _ (by rw [qes_len]; omega)
theorem eap_get (l : List QR) {i : Nat} (h : i < l.length) (x : QR) : (eap l i x)[i]? = some (qel x) := by
  have := eap_len l h x
  unfold eap at this ⊢
  rw [List.length_set] at this
  rw [List.getElem?_set_self (by omega)]
theorem eap_set (l : List QR) (i : Nat) (x y : QR) : (eap l i x).set i [.v (.bool y.1.1), .sl (les y.1.2), .v (.bool y.2.1), .sl (les y.2.2)] = eap l i y := List.set_set ..
theorem eap_zero (l : List QR) (i : Nat) (x : QR) : (qfil l i).set i [.v (.bool x.1.1), .sl (les x.1.2), .v (.bool x.2.1), .sl (les x.2.2)] = eap l i x := rfl
theorem qfil_get (l : List QR) {i : Nat} (h : i < l.length) : (qfil l i)[i]? = some [.v (.bool false), .sl [], .v (.bool false), .sl []] := by
  unfold qfil; rw [← qes_len l]; exact fill_get (qes l) _ (by rw [qes_len]; exact h)
theorem eap_next (l : List QR) {i : Nat} (h : i < l.length) : eap l i l[i] = qfil l (i + 1) := by
  unfold eap
  exact fill_x (qes l) _ _ (qes_len l) (by unfold qes; rw [List.getElem?_map, List.getElem?_eq_getElem h]; rfl)
/-- the sums so far -/
def aps (A : List (List Rat)) (l : List Rat) (j i : Nat) : Rat := sumN j fun j => entQ A i j * vq l j
set_option maxRecDepth 100000 in
set_option maxHeartbeats 4000000 in
theorem apply11_p (m : MR) (v : VR) {K L : Nat} (gm : Gl m) (hm : Gm K m) (hv : Lv v) (hk : ∀ q ∈ valV v, ql q ≤ L) (hn : v.2.length = colsOf m.2) (hs : ∀ i j, i < m.2.length → j ≤ colsOf m.2 → ql (aps (valM m) (valV v) j i) ≤ 4000000000) (hK : K < 8589934592) (hL : L < 8589934592) (hKL : K + L < 8589934592) (hD : nl (comDen (apQ (valM m) (valV v) m.2.length (colsOf m.2))) < 8589934592) :
    PCall Tryz.prog 90 [.d (md m), .d (vd v)] (.one (.d (vd (vnm (apQ (valM m) (valV v) m.2.length (colsOf m.2)))))) := by
  have hra := (rows11_t m gm).sto_d
  rw [tqs_d] at hra
  have hen := entries11_p v hv
  have hcl := colsOf_lt hm.g
  have hnr := hm.g.nr
  have hwa := valM_row hm
  have hka := fun i j h1 h2 => valM_K hm (i := i) (j := j) h1 h2
  have hla := valM_len m
  have hlv := valV_len v
  rw [hn] at hlv
  have hve := vec11_p (apQ (valM m) (valV v) m.2.length (colsOf m.2)) (fun q hq => by
    obtain ⟨i, hi, rfl⟩ := List.mem_map.1 hq
    have := hs i _ (List.mem_range.1 hi) (Nat.le_refl _)
    exact Nat.lt_of_le_of_lt this (by decide)) (by rw [apQ_len]; exact hnr) hD
  obtain ⟨R, hR⟩ : ∃ R, R = apQ (valM m) (valV v) m.2.length (colsOf m.2) := ⟨_, rfl⟩
  have hRl : R.length = m.2.length := by rw [hR, apQ_len]
  have hRi : ∀ i (hi : i < R.length), R[i] = aps (valM m) (valV v) (colsOf m.2) i := fun i hi => by subst hR; simp [apQ, aps]
  rw [← hR] at hve ⊢
  clear hR
  generalize colsOf m.2 = n at *
  generalize m.2.length = r at *
  generalize hA : valM m = A at *
  generalize hV : valV v = V at *
  refine pcall_of hmo Tryz.func90 rfl (by kernel_rfl) (by simp [Tryz.ntmps90]) ?_; simp -implicitDefEqProofs [go_sem, Tryz.ntmps90]; (repeat refine And.intro (by first | decide +kernel | omega | kernel_rfl) ?_); (try decide +kernel)
  refine .inl ⟨_, hra, ?_⟩; simp -implicitDefEqProofs [go_sem, hla]; (repeat refine And.intro (by first | decide +kernel | omega | kernel_rfl) ?_); (try decide +kernel)
  refine .inl ⟨_, hen, ?_⟩; simp -implicitDefEqProofs [go_sem]; (repeat refine And.intro (by first | decide +kernel | omega | kernel_rfl) ?_); (try decide +kernel)
  obtain ⟨l, hl⟩ : ∃ l, l = R.map nq := ⟨_, rfl⟩
  have hll : l.length = r := by rw [hl, List.length_map, hRl]
  have hli : ∀ i (hi : i < l.length), l[i] = nq (aps A V n i) := fun i hi => by subst hl; rw [List.getElem_map, hRi]
  rw [← hl] at hve
  have hps : aps A V 0 = fun _ => 0 := rfl
  refine loop_rule [] (fun (i : Nat) => ⟨55, [(4, .pr 8 0 0 0), (5, .d (.sl (qrs A))), (6, .d (.sl (qes (V.map nq)))), (7, .sr 44 0), (18, intP .i64 (r : Int)), (19, intP .i64 (i : Int))],
      [(44, .arr ⟨72, 4, 0, false, qfil l i⟩), (8, .box [.d (.v (.bool false)), .nl, .nl])], 1000⟩)
    (fun i => i ≤ r) (fun i => r - i) 0 (Nat.zero_le _) (by simp) (by simp -implicitDefEqProofs [go_sem, qfil, hll, hla]) (fun i hi => ?_)
  have hfl : i ≤ r → (qfil l i).length = r := fun h => by unfold qfil; rw [← hll, ← qes_len l]; exact fill_len (qes l) _ (by rw [qes_len]; omega)
  by_cases hil : i < r
  · have hql := hfl (by omega)
    have hil2 : i < l.length := by omega
    have hof := of5_p 0 (by decide) (by decide)
    have e0 : nq ((0 : Int) : Rat) = nq (aps A V 0 i) := rfl
    rw [e0] at hof
    have hel := eap_len l hil2
    rw [hll] at hel
    have hz := eap_zero l i (nq (aps A V 0 i))
    have hg0 := fun h => (List.getElem_eq_iff (h := h)).2 (qfil_get l hil2)
    generalize hx0 : nq (aps A V 0 i) = x0 at *
    simp -implicitDefEqProofs [go_sem, hil]; (repeat refine And.intro (by first | decide +kernel | omega | kernel_rfl) ?_); (try decide +kernel)
    refine .inl ⟨_, hof, ?_⟩; simp -implicitDefEqProofs [go_sem, hil, hql, hg0, hz]; (repeat refine And.intro (by first | decide +kernel | omega | kernel_rfl) ?_); (try decide +kernel)
    refine loop_rule [] (fun (j : Nat) => ⟨55, [(4, .pr 8 0 0 0), (5, .d (.sl (qrs A))), (6, .d (.sl (qes (V.map nq)))), (7, .sr 44 0), (8, intP .i64 (i : Int)), (18, intP .i64 (r : Int)), (19, intP .i64 (i : Int)), (27, intP .i64 (n : Int)), (28, intP .i64 (j : Int))],
        [(44, .arr ⟨72, 4, 0, false, eap l i (nq (aps A V j i))⟩), (8, .box [.d (.v (.bool false)), .nl, .nl])], 2000⟩)
      (fun j => j ≤ n) (fun j => n - j) 0 (Nat.zero_le _) (by simp) (by simp -implicitDefEqProofs [go_sem, hlv, hx0]) (fun j hj => ?_)
    by_cases hjl : j < n
    · have hiA : i < A.length := by omega
      have hjA : j < A[i].length := by rw [hwa]; exact hjl
      have hjV : j < V.length := by omega
      have q1 := hka i j hiA hjA
      have q2 := hk _ (List.getElem_mem hjV)
      have hmu := mul5_n A[i][j] V[j] (by omega) (by omega)
      have q3 := hs i j hil (by omega)
      have q4 := ql_mul A[i][j] V[j]
      have had := add5_n (aps A V j i) (A[i][j] * V[j]) (by omega) (by omega)
      have e1 : aps A V j i + A[i][j] * V[j] = aps A V (j + 1) i := by
        show _ = aps A V j i + entQ A i j * vq V j
        rw [entQ_get hiA hjA, vq_get hjV]
      rw [e1] at had
      have hg := eap_get l hil2 (nq (aps A V j i))
      have hg2 := fun h => (List.getElem_eq_iff (h := h)).2 hg
      have hst := eap_set l i (nq (aps A V j i)) (nq (aps A V (j + 1) i))
      generalize hX : nq (aps A V j i) = X at *
      generalize hY : nq (aps A V (j + 1) i) = Y at *
      simp -implicitDefEqProofs [go_sem, hjl, hX, hel, hg, hg2, hiA, hjA, hjV, hil]; (repeat refine And.intro (by first | decide +kernel | omega | kernel_rfl) ?_); (try decide +kernel)
      refine .inl ⟨_, hmu, ?_⟩; simp -implicitDefEqProofs [go_sem, hX, hel, hg, hg2, hiA, hjA, hjV, hil]; (repeat refine And.intro (by first | decide +kernel | omega | kernel_rfl) ?_); (try decide +kernel)
      refine .inl ⟨_, had, ?_⟩; simp -implicitDefEqProofs [go_sem, hX, hel, hg, hg2, hiA, hjA, hjV, hil, hst]; (repeat refine And.intro (by first | decide +kernel | omega | kernel_rfl) ?_); (try decide +kernel)
      refine ⟨j + 1, ?_⟩; (repeat' apply And.intro) <;> first | omega | (exact (by rw [hY])) | assumption | rfl
    · obtain rfl : j = n := by omega
      have hnx := eap_next l hil2
      rw [hli] at hnx
      simp -implicitDefEqProofs [go_sem, hnx]; (repeat refine And.intro (by first | decide +kernel | omega | kernel_rfl) ?_); (try decide +kernel)
      refine ⟨i + 1, ?_⟩; (repeat' apply And.intro) <;> first | omega | assumption | rfl
  · obtain rfl : i = r := by omega
    have e : qfil l i = qes l := by unfold qfil; rw [← hll, ← qes_len l]; exact fill_end (qes l) _
    simp -implicitDefEqProofs [go_sem, e]; (repeat refine And.intro (by first | decide +kernel | omega | kernel_rfl) ?_); (try decide +kernel)
    refine .inl ⟨_, hve, ?_⟩; simp -implicitDefEqProofs [go_sem]; (repeat refine And.intro (by first | decide +kernel | omega | kernel_rfl) ?_); (try decide +kernel)
end Go.Mt
/-
  A part of the proof.
-/
set_option linter.unusedSimpArgs false
set_option linter.unusedVariables false
namespace Go.Mt
open Go Go.Pm Go.Proofs
theorem faults14_p (f : List QR) (m : MR) (hf : Ip f) (hm : Im m) : PCall Tryz.prog 88 [.d (.sl (qes f)), .d (md m)] (.one (.d (.v (.int .i64 (fitsE f m))))) := by
  have h1 := fitPoly14_p f hf
  have h2 := hm.fit
  have he : fitsE f m = if fpE f = 0 then fitE m else fpE f := rfl
  by_cases h0 : fpE f = 0
  · rw [h0] at h1
    rw [if_pos h0] at he
    rw [he]
    refine pcall_of hmo Tryz.func88 rfl (by kernel_rfl) (by simp [Tryz.ntmps88]) ?_; simp -implicitDefEqProofs [go_sem, Tryz.ntmps88]; (repeat refine And.intro (by first | decide +kernel | omega | kernel_rfl) ?_); (try decide +kernel)
    refine .inl ⟨_, h1, ?_⟩; simp -implicitDefEqProofs [go_sem]; (repeat refine And.intro (by first | decide +kernel | omega | kernel_rfl) ?_); (try decide +kernel)
    refine .inl ⟨_, h2, ?_⟩; simp -implicitDefEqProofs [go_sem]; (repeat refine And.intro (by first | decide +kernel | omega | kernel_rfl) ?_); (try decide +kernel)
  · rw [if_neg h0] at he
    rw [he]
    generalize fpE f = E at *
    refine pcall_of hmo Tryz.func88 rfl (by kernel_rfl) (by simp [Tryz.ntmps88]) ?_; simp -implicitDefEqProofs [go_sem, Tryz.ntmps88]; (repeat refine And.intro (by first | decide +kernel | omega | kernel_rfl) ?_); (try decide +kernel)
    refine .inl ⟨_, h1, ?_⟩; simp -implicitDefEqProofs [go_sem, h0]; (repeat refine And.intro (by first | decide +kernel | omega | kernel_rfl) ?_); (try decide +kernel)
/-- are all 0? -/
def q0 (q : Rat) : Bool := decide (q = 0)
theorem comNum_zero {D : Nat} {q : Rat} (hD : 0 < D) (h : q.den ∣ D) : comNum D q = 0 ↔ q = 0 := by
  unfold comNum
  constructor
  · intro e
    rcases Int.mul_eq_zero.1 e with h1 | h1
    · exact Rat.num_eq_zero.1 h1
    · have := Nat.div_pos (Nat.le_of_dvd hD h) q.den_pos
      omega
  · intro e; rw [e]; simp
theorem nrm_nil {z : Int} : (nrm z).2.length = 0 ↔ z = 0 := by
  rw [rz_len]
  constructor
  · intro h
    have h1 := lt_pow_nl z.natAbs
    have h2 : nl z.natAbs = 0 := h
    rw [h2] at h1
    omega
  · intro h; rw [h]; decide
theorem isR_vnm (Q : List Rat) : isR (vnm Q).2 = Q.all q0 := by
  show (Q.map _).all isN = _
  rw [List.all_map]
  rw [Bool.eq_iff_iff, List.all_eq_true, List.all_eq_true]
  have key : ∀ q ∈ Q, (isN (nrm (comNum (comDen Q) q)) = true ↔ q0 q = true) := fun q hq => by
    unfold isN q0
    rw [decide_eq_true_iff, decide_eq_true_iff, nrm_nil]
    exact comNum_zero (comDen_pos Q) (den_dvd_comDen _ _ hq)
  exact ⟨fun h q hq => (key q hq).1 (h q hq), fun h q hq => (key q hq).2 (h q hq)⟩
theorem Gv.same {K : Nat} {v : VR} (h : Gv K v) (hK : K < 1099511627776) (hl : ∀ z ∈ v.2, z.2.length = zl (ofR z)) (hl1 : v.1.2.length = zl (ofR v.1)) : PCall Tryz.prog 19 [.d (vd v), .d (vd v)] (.one (.d (.v (.bool true)))) := by
  have hd : Lz v.1 := by have := h.kd; unfold Lz; omega
  have hz : ∀ z ∈ v.2, Lz z := fun z hz => by have := h.k z hz; have := hl z hz; unfold Lz; omega
  have hs := sameVec11_p v v hd hd hz hz (by have := h.n; omega) (by have := h.n; omega)
  rw [decide_eq_true rfl] at hs
  exact hs
theorem vnm_lens (Q : List Rat) : (∀ z ∈ (vnm Q).2, z.2.length = zl (ofR z)) ∧ (vnm Q).1.2.length = zl (ofR (vnm Q).1) := by
  refine ⟨fun z hz => ?_, ?_⟩
  · obtain ⟨q, _, rfl⟩ := List.mem_map.1 hz
    rw [rz_len, ofR_nrm]
  · show (nrm _).2.length = zl (ofR (nrm _))
    rw [rz_len, ofR_nrm]
theorem Gv.lv {K : Nat} {Q : List Rat} (h : Gv K (vnm Q)) (hK : K < 8589934592) : Lv (vnm Q) := by
  obtain ⟨h1, h2⟩ := vnm_lens Q
  exact ⟨h.d, h.ne, by have := h.kd; omega, fun z hz => ⟨h.rz z hz, by have := h.k z hz; have := h1 z hz; omega⟩, h.n⟩
theorem Gv.ql {K : Nat} {v : VR} (h : Gv K v) : ∀ q ∈ valV v, Go.Mt.ql q ≤ K := fun q hq => by
  obtain ⟨z, hz, rfl⟩ := List.mem_map.1 hq
  have h3 := ql_ratv (ofR z) (ofR v.1) h.ne
  have := h.k z hz
  have := h.kd
  omega
theorem comDen_val {v : VR} (h0 : ofR v.1 ≠ 0) : nl (comDen (valV v)) ≤ zl (ofR v.1) := by
  have h := nrmD_nl (ofR v.1) h0 [v.2.map ofR] _ (Nat.le_refl _)
  have e : fracs (ofR v.1) [v.2.map ofR] = [valV v] := by unfold fracs valV valR; simp [Function.comp]
  rw [e] at h
  have e2 : nrmD [valV v] = comDen (valV v) := by unfold nrmD; simp
  rw [e2] at h
  exact h
/-- the reference's product -/
theorem apply_at {l : List QR} {m : MR} {v : VR} (hl : Ip l) (hm : Im m) (hv : Iw v) (h : bitsE l m v = 0) : PCall Tryz.prog 90 [.d (md (nm (atQ l m))), .d (vd v)] (.one (.d (vd (vnm (onQ l m v))))) := by
  obtain ⟨h0, h1, h2⟩ := bitsE_zero h
  obtain ⟨v1, v2, v3⟩ := fvE_zero h2
  have hs := at_sq hl hm (fitsE_of h0 h1)
  have l1 : (nm (atQ l m)).2.length = m.2.length := by rw [nm_len, hs.l]
  have w1 : colsOf (nm (atQ l m)).2 = m.2.length := by rw [nm_cols, hs.c]
  have hg : Gv 1048577 v := ⟨hv.d, v1, fun z hz => (hv.z z hz).1, fun z hz => by
    have := zl_ofR (hv.z z hz).1
    have := (hv.z z hz).2
    omega, by have := zl_ofR hv.d; have := hv.ld; omega, by have := hv.n; omega⟩
  have hne := Int.mul_ne_zero hs.g.ne v1
  have hdd := zl_mul (ofR (nm (atQ l m)).1) (ofR v.1)
  have k1 := hs.g.kd
  have k2 := hg.kd
  have n1 := hs.n1
  have hbd : ∀ i j, i < (nm (atQ l m)).2.length → j ≤ colsOf (nm (atQ l m)).2 → zl (apZ (nm (atQ l m)) v j i) ≤ 400000000 + 1048577 + 2 := fun i j hi hj => zl_sumZ (fun j' hj' => by
    obtain ⟨_, _, e1, h1⟩ := hs.g.ent hi (k := j') (by omega)
    have e2 := vz_get (v := v) (j := j') (by omega)
    have h2 := hg.k _ (List.getElem_mem (l := v.2) (n := j') (by omega))
    rw [e1, e2]
    have := zl_mul (ofR (nm (atQ l m)).2[i][j']) (ofR v.2[j'])
    omega) (by omega)
  have hp := apply11_p (nm (atQ l m)) v (gl_nm hs.g (by decide)) hs.g (hv.lv v1) (hv.ql v1) (by rw [w1, v2]) (fun i j hi hj => by
    have e : aps (valM (nm (atQ l m))) (valV v) j i = ratv (apZ (nm (atQ l m)) v j i) (ofR (nm (atQ l m)).1 * ofR v.1) := by
      unfold apZ aps
      rw [ratv_sum hne]
      refine sumN_congr fun j _ => ?_
      unfold valM
      rw [entQ_fracs, vq_val, ratv_mul]
    rw [e]
    have := ql_ratv (apZ (nm (atQ l m)) v j i) _ hne
    have := hbd i j hi hj
    omega) (by decide) (by decide) (by decide) (by
    rw [← ap_val _ _ _ hs.g.ne v1]
    have := comDen_val (v := (nrm (ofR (nm (atQ l m)).1 * ofR v.1), apR (nm (atQ l m)) v (colsOf (nm (atQ l m)).2))) (by show ofR (nrm _) ≠ 0; rw [ofR_nrm]; exact hne)
    have e : valV (nrm (ofR (nm (atQ l m)).1 * ofR v.1), apR (nm (atQ l m)) v (colsOf (nm (atQ l m)).2)) = valR (ofR (nm (atQ l m)).1 * ofR v.1) (apR (nm (atQ l m)) v (colsOf (nm (atQ l m)).2)) := by unfold valV; rw [ofR_nrm]
    rw [e] at this
    have e2 : ofR (nrm (ofR (nm (atQ l m)).1 * ofR v.1), apR (nm (atQ l m)) v (colsOf (nm (atQ l m)).2)).1 = ofR (nm (atQ l m)).1 * ofR v.1 := ofR_nrm _
    rw [e2] at this
    omega)
  rw [valM_nm, l1, w1] at hp
  exact hp
end Go.Mt
/-
  A part of the proof.
-/
set_option linter.unusedSimpArgs false
set_option linter.unusedVariables false
namespace Go.Mt
open Go Go.Pm Go.Proofs
set_option maxRecDepth 100000 in
set_option maxHeartbeats 4000000 in
theorem ons_n (l : List QR) (m : MR) (v : VR) (hl : Ip l) (hm : Im m) (hv : Iw v) (h : bitsE l m v ≠ 0) : PCall Tryz.prog 12 [.d (.sl (qes l)), .d (md m), .d (vd v)] (.one (.d (.v (.bool true)))) := by
  have h1 := On_p l m v hl hm hv
  have h2 := KillsVec_p l m v hl hm hv
  have h3 := faults14_p l m hl hm
  have h4 := fitVec14_p v hv m.2.length
  rw [if_neg h] at h1 h2
  have hz : vd zV = vE := rfl
  rw [hz] at h1
  have hn := num14_p (bitsE l m v)
  by_cases h0 : fitsE l m = 0
  · have e : bitsE l m v = fvE v m.2.length := by
      obtain ⟨g1, g2⟩ := fitsE_zero h0
      unfold bitsE; rw [if_pos g1, if_pos g2]
    rw [h0] at h3
    rw [e] at h h1 h2 hn
    generalize fvE v m.2.length = E at *
    refine pcall_of hmo Tryz.func12 rfl (by kernel_rfl) (by simp [Tryz.ntmps12]) ?_; simp -implicitDefEqProofs [go_sem, Tryz.ntmps12]; (repeat refine And.intro (by first | decide +kernel | omega | kernel_rfl) ?_); (try decide +kernel)
    refine .inl ⟨_, h1, ?_⟩; simp -implicitDefEqProofs [go_sem]; (repeat refine And.intro (by first | decide +kernel | omega | kernel_rfl) ?_); (try decide +kernel)
    refine .inl ⟨_, h2, ?_⟩; simp -implicitDefEqProofs [go_sem]; (repeat refine And.intro (by first | decide +kernel | omega | kernel_rfl) ?_); (try decide +kernel)
    refine .inl ⟨_, h3, ?_⟩; simp -implicitDefEqProofs [go_sem]; (repeat refine And.intro (by first | decide +kernel | omega | kernel_rfl) ?_); (try decide +kernel)
    refine .inl ⟨_, h4, ?_⟩; simp -implicitDefEqProofs [go_sem, h]; (repeat refine And.intro (by first | decide +kernel | omega | kernel_rfl) ?_); (try decide +kernel)
    refine .inl ⟨_, hn, ?_⟩; simp -implicitDefEqProofs [go_sem]; (repeat refine And.intro (by first | decide +kernel | omega | kernel_rfl) ?_); (try decide +kernel)
    refine .inl ⟨_, hn, ?_⟩; simp -implicitDefEqProofs [go_sem]; (repeat refine And.intro (by first | decide +kernel | omega | kernel_rfl) ?_); (try decide +kernel)
    refine .inl ⟨_, awake14_p, ?_⟩; simp -implicitDefEqProofs [go_sem]; (repeat refine And.intro (by first | decide +kernel | omega | kernel_rfl) ?_); (try decide +kernel)
  · have e : bitsE l m v = fitsE l m := by
      have he : fitsE l m = if fpE l = 0 then fitE m else fpE l := rfl
      rw [he] at h0 ⊢
      unfold bitsE
      by_cases g1 : fpE l = 0
      · rw [if_pos g1] at h0 ⊢; rw [if_pos g1, if_neg h0]
      · rw [if_neg g1, if_neg g1]
    rw [e] at h h1 h2 hn
    generalize fitsE l m = E at *
    refine pcall_of hmo Tryz.func12 rfl (by kernel_rfl) (by simp [Tryz.ntmps12]) ?_; simp -implicitDefEqProofs [go_sem, Tryz.ntmps12]; (repeat refine And.intro (by first | decide +kernel | omega | kernel_rfl) ?_); (try decide +kernel)
    refine .inl ⟨_, h1, ?_⟩; simp -implicitDefEqProofs [go_sem]; (repeat refine And.intro (by first | decide +kernel | omega | kernel_rfl) ?_); (try decide +kernel)
    refine .inl ⟨_, h2, ?_⟩; simp -implicitDefEqProofs [go_sem]; (repeat refine And.intro (by first | decide +kernel | omega | kernel_rfl) ?_); (try decide +kernel)
    refine .inl ⟨_, h3, ?_⟩; simp -implicitDefEqProofs [go_sem, h]; (repeat refine And.intro (by first | decide +kernel | omega | kernel_rfl) ?_); (try decide +kernel)
    refine .inl ⟨_, hn, ?_⟩; simp -implicitDefEqProofs [go_sem]; (repeat refine And.intro (by first | decide +kernel | omega | kernel_rfl) ?_); (try decide +kernel)
    refine .inl ⟨_, hn, ?_⟩; simp -implicitDefEqProofs [go_sem]; (repeat refine And.intro (by first | decide +kernel | omega | kernel_rfl) ?_); (try decide +kernel)
    refine .inl ⟨_, awake14_p, ?_⟩; simp -implicitDefEqProofs [go_sem]; (repeat refine And.intro (by first | decide +kernel | omega | kernel_rfl) ?_); (try decide +kernel)
/-- all so far? -/
def nb (Q : List Rat) (k : Nat) : Bool := (Q.take k).all q0
set_option maxRecDepth 100000 in
set_option maxHeartbeats 4000000 in
theorem ons_y (l : List QR) (m : MR) (v : VR) (hl : Ip l) (hm : Im m) (hv : Iw v) (h : bitsE l m v = 0) (hb : limbsOf m ≤ 1048576) (hln : l.length ≤ 131072) : PCall Tryz.prog 12 [.d (.sl (qes l)), .d (md m), .d (vd v)] (.one (.d (.v (.bool true)))) := by
  have h1 := On_p l m v hl hm hv
  have h2 := KillsVec_p l m v hl hm hv
  have h3 := faults14_p l m hl hm
  have h4 := fitVec14_p v hv m.2.length
  obtain ⟨g0, g1, g2⟩ := bitsE_zero h
  have g := (on_all hl hm hv h).2
  have hat := at14_p l m hl hm g0 g1 hb hln
  have hap := apply_at hl hm hv h
  have hen := entries11_p (vnm (onQ l m v)) (g.lv (by decide))
  obtain ⟨y1, y2⟩ := vnm_lens (onQ l m v)
  have hsa := g.same (by decide) y1 y2
  have hql := g.ql
  have hgn := g.n
  rw [h, if_pos rfl, isR_vnm] at h2
  rw [h, if_pos rfl] at h1
  rw [fitsE_of g0 g1] at h3
  rw [g2] at h4
  rw [valV_nm] at hen hql
  rw [vnm_len] at hgn
  have hn := num14_p 0
  generalize atQ l m = A at *
  generalize onQ l m v = Q at *
  refine pcall_of hmo Tryz.func12 rfl (by kernel_rfl) (by simp [Tryz.ntmps12]) ?_; simp -implicitDefEqProofs [go_sem, Tryz.ntmps12]; (repeat refine And.intro (by first | decide +kernel | omega | kernel_rfl) ?_); (try decide +kernel)
  refine .inl ⟨_, h1, ?_⟩; simp -implicitDefEqProofs [go_sem]; (repeat refine And.intro (by first | decide +kernel | omega | kernel_rfl) ?_); (try decide +kernel)
  refine .inl ⟨_, h2, ?_⟩; simp -implicitDefEqProofs [go_sem]; (repeat refine And.intro (by first | decide +kernel | omega | kernel_rfl) ?_); (try decide +kernel)
  refine .inl ⟨_, h3, ?_⟩; simp -implicitDefEqProofs [go_sem]; (repeat refine And.intro (by first | decide +kernel | omega | kernel_rfl) ?_); (try decide +kernel)
  refine .inl ⟨_, h4, ?_⟩; simp -implicitDefEqProofs [go_sem]; (repeat refine And.intro (by first | decide +kernel | omega | kernel_rfl) ?_); (try decide +kernel)
  refine .inl ⟨_, hat, ?_⟩; simp -implicitDefEqProofs [go_sem]; (repeat refine And.intro (by first | decide +kernel | omega | kernel_rfl) ?_); (try decide +kernel)
  refine .inl ⟨_, hap, ?_⟩; simp -implicitDefEqProofs [go_sem]; (repeat refine And.intro (by first | decide +kernel | omega | kernel_rfl) ?_); (try decide +kernel)
  refine .inl ⟨_, hen, ?_⟩; simp -implicitDefEqProofs [go_sem]; (repeat refine And.intro (by first | decide +kernel | omega | kernel_rfl) ?_); (try decide +kernel)
  have hB0 : nb Q 0 = true := rfl
  have hBn : nb Q Q.length = Q.all q0 := by unfold nb; rw [List.take_length]
  refine loop_rule [] (fun (k : Nat) => ⟨112, [(7, .pr 40 0 0 0), (8, intP .i64 0), (9, .d (.v (.bool (Q.all q0)))), (10, intP .i64 0), (12, .pr 164 0 0 0), (13, .d (.v (.bool (nb Q k)))), (78, .d (.sl (qes (Q.map nq)))), (79, intP .i64 (Q.length : Int)), (80, intP .i64 (k : Int))],
      [(164, .box (vbx (vnm Q))), (40, .box (vbx (vnm Q)))], 1000⟩)
    (fun k => k ≤ Q.length) (fun k => Q.length - k) 0 (Nat.zero_le _) (by simp) (by simp -implicitDefEqProofs [go_sem, vbx, hB0]) (fun k hk => ?_)
  by_cases hkl : k < Q.length
  · have hs := sign5_n Q[k] (by have := hql _ (List.getElem_mem hkl); omega)
    have hst : nb Q (k + 1) = (nb Q k && q0 Q[k]) := by
      unfold nb
      rw [List.take_add_one, List.getElem?_eq_getElem hkl, List.all_append]; simp
    generalize hB : nb Q k = B at *
    cases B with
    | false =>
      rw [Bool.false_and] at hst
      simp -implicitDefEqProofs [go_sem, hkl, hB, vbx]; (repeat refine And.intro (by first | decide +kernel | omega | kernel_rfl) ?_); (try decide +kernel)
      refine ⟨k + 1, ?_⟩; (repeat' apply And.intro) <;> first | omega | (exact (by rw [hst])) | assumption | rfl
    | true =>
      rw [Bool.true_and] at hst
      by_cases hq : Q[k] = 0
      · have hq2 : q0 Q[k] = true := decide_eq_true hq
        rw [hq2] at hst
        rw [hq] at hs
        have hs : PCall Tryz.prog 93 [.d (qd (nq Q[k]))] (.one (.d (.v (.int .i64 0)))) := by rw [hq]; exact hs
        simp -implicitDefEqProofs [go_sem, hkl, hB, vbx]; (repeat refine And.intro (by first | decide +kernel | omega | kernel_rfl) ?_); (try decide +kernel)
        refine .inl ⟨_, hs, ?_⟩; simp -implicitDefEqProofs [go_sem, hkl]; (repeat refine And.intro (by first | decide +kernel | omega | kernel_rfl) ?_); (try decide +kernel)
        refine ⟨k + 1, ?_⟩; (repeat' apply And.intro) <;> first | omega | (exact (by rw [hst])) | assumption | rfl
      · have hq2 : q0 Q[k] = false := decide_eq_false hq
        have hsn : ¬ Q[k].num.sign = 0 := fun h => num_ne hq (Int.sign_eq_zero_iff_zero.1 h)
        rw [hq2] at hst
        simp -implicitDefEqProofs [go_sem, hkl, hB, vbx]; (repeat refine And.intro (by first | decide +kernel | omega | kernel_rfl) ?_); (try decide +kernel)
        refine .inl ⟨_, hs, ?_⟩; simp -implicitDefEqProofs [go_sem, hkl, hsn]; (repeat refine And.intro (by first | decide +kernel | omega | kernel_rfl) ?_); (try decide +kernel)
        refine ⟨k + 1, ?_⟩; (repeat' apply And.intro) <;> first | omega | (exact (by rw [hst])) | assumption | rfl
  · obtain rfl : k = Q.length := by omega
    generalize hB : Q.all q0 = B at *
    simp -implicitDefEqProofs [go_sem, hBn, hB, vbx]; (repeat refine And.intro (by first | decide +kernel | omega | kernel_rfl) ?_); (try decide +kernel)
    refine .inl ⟨_, hn, ?_⟩; simp -implicitDefEqProofs [go_sem]; (repeat refine And.intro (by first | decide +kernel | omega | kernel_rfl) ?_); (try decide +kernel)
    refine .inl ⟨_, hsa, ?_⟩; simp -implicitDefEqProofs [go_sem]; (repeat refine And.intro (by first | decide +kernel | omega | kernel_rfl) ?_); (try decide +kernel)
    refine .inl ⟨_, hn, ?_⟩; simp -implicitDefEqProofs [go_sem]; (repeat refine And.intro (by first | decide +kernel | omega | kernel_rfl) ?_); (try decide +kernel)
    cases B with
    | true =>
      refine .inl ⟨_, awake14_p, ?_⟩; simp -implicitDefEqProofs [go_sem]; (repeat refine And.intro (by first | decide +kernel | omega | kernel_rfl) ?_); (try decide +kernel)
    | false =>
      refine .inl ⟨_, awake14_p, ?_⟩; simp -implicitDefEqProofs [go_sem]; (repeat refine And.intro (by first | decide +kernel | omega | kernel_rfl) ?_); (try decide +kernel)
theorem ons_p (l : List QR) (m : MR) (v : VR) (hl : Ip l) (hm : Im m) (hv : Iw v) (hb : limbsOf m ≤ 1048576) (hln : fpE l = 0 → l.length ≤ 131072) : PCall Tryz.prog 12 [.d (.sl (qes l)), .d (md m), .d (vd v)] (.one (.d (.v (.bool true)))) := by
  by_cases h : bitsE l m v = 0
  · exact ons_y l m v hl hm hv h hb (hln (bitsE_zero h).1)
  · exact ons_n l m v hl hm hv h
end Go.Mt
