/-
  A part of the proof.
-/
import Derived.Test.YtmhclkagdpbadaaGreatEtr44
import Derived.Test.YtmhclkagdpbadaaGreatEtr45
set_option linter.unusedVariables false
set_option linter.unusedSimpArgs false
set_option linter.unusedSimpArgs false
set_option linter.unusedVariables false
namespace Go.Mt
open Go Go.Pm Go.Proofs
theorem mulm_gm2 (a b : MR) {K L : Nat} (ha : Gm K a) (hb : Gm L b) (hK : K + L + 2 < 1099511627776) (hn : b.2.length = colsOf a.2) : Gm (K + L + 2) (nm (mulQ (valM a) (valM b) a.2.length (colsOf a.2) (colsOf b.2))) := by
  have hdl := zl_mul (ofR a.1) (ofR b.1)
  have hka := ha.kd
  have hkb := hb.kd
  have hcb := colsOf_lt hb.g
  have hent : ∀ i k, i < a.2.length → k < colsOf b.2 → zl (mulE a b (colsOf a.2) i k) ≤ K + L + 2 := fun i k hi hk => zl_sumZ (fun j hj => by
    obtain ⟨_, _, e1, h1⟩ := ha.ent hi hj
    obtain ⟨_, _, e2, h2⟩ := hb.ent (i := j) (by omega) hk
    rw [e1, e2]
    have := zl_mul (ofR a.2[i][j]) (ofR b.2[j][k])
    omega) (by have := hb.g.nr; omega)
  obtain ⟨g1, g2, g3⟩ := grw_tab hK ha.g.nr hcb hent
  have h := nm_bound (D := ofR a.1 * ofR b.1) (Int.mul_ne_zero ha.ne hb.ne) g2 g1 hK (by omega) g3
  have e : fracs (ofR a.1 * ofR b.1) (tableZ (mulE a b (colsOf a.2)) a.2.length (colsOf b.2)) = mulQ (valM a) (valM b) a.2.length (colsOf a.2) (colsOf b.2) := mulZ_eq (zz a.2) (zz b.2) (ofR a.1) (ofR b.1) ha.ne hb.ne _ _ _
  rw [zz_tab, e, Nat.max_eq_left (by omega)] at h
  exact h
theorem ident_gm (n : Nat) (hn : n ≤ 1000) : Gm 1 (nm (identQ n)) := by
  obtain ⟨g1, g2, g3⟩ := grw_tab (K := 1) (f := idZ) (r := n) (c := n) (by decide) (by omega) (by omega) (fun i k _ _ => by unfold idZ; split <;> decide)
  have h := nm_bound (D := 1) (by decide) g2 g1 (by decide) (by decide) g3
  rw [zz_tab, frac_id] at h
  exact h
theorem zero_gm (r c : Nat) (hr : r ≤ 1000) (hc : c ≤ 1000) : Gm 1 (nm (zeroQ r c)) := by
  obtain ⟨g1, g2, g3⟩ := grw_tab (K := 1) (f := fun _ _ => 0) (r := r) (c := c) (by decide) (by omega) (by omega) (fun i k _ _ => by decide)
  have h := nm_bound (D := 1) (by decide) g2 g1 (by decide) (by decide) g3
  rw [zz_tab, frac_zero] at h
  exact h
/-- Horner's way -/
def hoQ (A : List (List Rat)) (n : Nat) : List Rat → List (List Rat)
  | [] => zeroQ n n
  | c :: cs => joinQ (· + ·) (mulQ (hoQ A n cs) A n n n) (scaleQ (identQ n) c n n) n n
theorem ho_len (A : List (List Rat)) (n : Nat) (l : List Rat) : (hoQ A n l).length = n := by
  cases l <;> exact length_tabQ _ _ _
structure Sq (n K : Nat) (A : List (List Rat)) : Prop where
  n0 : 0 < n
  n1 : n ≤ 1000
  l : A.length = n
  c : colsOf A = n
  g : Gm K (nm A)
theorem Sq.mul {n K L : Nat} {A B : List (List Rat)} (ha : Sq n K A) (hb : Sq n L B) (hK : 2 * K + 2 * L + 2 < 1099511627776) :
    PCall Tryz.prog 151 [.d (md (nm A)), .d (md (nm B))] (.tup [.d (md (nm (mulQ A B n n n))), .d (.v (.int .i64 0))]) ∧ Sq n (K + L + 2) (mulQ A B n n n) := by
  have h := mulm_p (nm A) (nm B) (K := K + L) (ha.g.mono (by omega)) (hb.g.mono (by omega)) (by omega) (by rw [nm_len, nm_cols, ha.c, hb.l])
  have g := mulm_gm2 (nm A) (nm B) ha.g hb.g (by omega) (by rw [nm_len, nm_cols, ha.c, hb.l])
  rw [valM_nm, valM_nm, nm_len, nm_cols, nm_cols, ha.l, ha.c, hb.c] at h g
  exact ⟨h, ha.n0, ha.n1, length_tabQ _ _ _, colsOf_tab _ ha.n0, g⟩
theorem Sq.add {n K L : Nat} {A B : List (List Rat)} (ha : Sq n K A) (hb : Sq n L B) (hK : 2 * K + 2 * L + 2 < 1099511627776) :
    PCall Tryz.prog 164 [.d (md (nm A)), .d (md (nm B))] (.tup [.d (md (nm (joinQ (· + ·) A B n n))), .d (.v (.int .i64 0))]) ∧ Sq n (K + L + 1) (joinQ (· + ·) A B n n) := by
  have h := qadd_g (nm A) (nm B) ha.g hb.g hK (by rw [nm_len, nm_len, ha.l, hb.l]) (by rw [nm_cols, nm_cols, ha.c, hb.c])
  have g := addQ_gm2 (a := nm A) (b := nm B) ha.g hb.g (by omega) (by rw [nm_len, nm_len, ha.l, hb.l]) (by rw [nm_cols, nm_cols, ha.c, hb.c])
  rw [valM_nm, valM_nm, nm_len, nm_cols, ha.l, ha.c] at h g
  rw [Nat.max_eq_left (by omega)] at g
  exact ⟨h, ha.n0, ha.n1, length_tabQ _ _ _, colsOf_tab _ ha.n0, g⟩
theorem Sq.scale {n K L : Nat} {A : List (List Rat)} (ha : Sq n K A) {q : Rat} (hq : ql q ≤ L) (hL : L < 8589934592) (hK : 2 * K + 2 * L + 2 < 1099511627776) :
    PCall Tryz.prog 163 [.d (md (nm A)), .d (qd (nq q))] (.tup [.d (md (nm (scaleQ A q n n))), .d (.v (.int .i64 0))]) ∧ Sq n (K + L + 1) (scaleQ A q n n) := by
  have h := scale_g (nm A) (nq q) ha.g (.n (by omega)) (by rw [ofQ_nq]; exact hq) (by omega)
  have g := scaleQ_gm2 ha.g hq (by omega)
  rw [ofQ_nq] at h
  rw [valM_nm, nm_len, nm_cols, ha.l, ha.c] at h g
  exact ⟨h, ha.n0, ha.n1, length_tabQ _ _ _, colsOf_tab _ ha.n0, g.mono (by omega)⟩
theorem Sq.id {n : Nat} (h0 : 0 < n) (h1 : n ≤ 1000) : Sq n 1 (identQ n) := ⟨h0, h1, length_tabQ _ _ _, colsOf_tab _ h0, ident_gm n h1⟩
theorem Sq.zero {n : Nat} (h0 : 0 < n) (h1 : n ≤ 1000) : Sq n 1 (zeroQ n n) := ⟨h0, h1, length_tabQ _ _ _, colsOf_tab _ h0, zero_gm n n h1 h1⟩
theorem Sq.ho {n K L : Nat} {A : List (List Rat)} (ha : Sq n K A) {l : List Rat} (hq : ∀ q ∈ l, ql q ≤ L) (hL : L < 8589934592) (hK : 2 * ((K + L + 6) * (l.length + 1)) + 2 < 1099511627776) : Sq n ((K + L + 6) * l.length + 1) (hoQ A n l) := by
  induction l with
  | nil => rw [List.length_nil, Nat.mul_zero, Nat.zero_add]; exact Sq.zero ha.n0 ha.n1
  | cons c cs ih =>
    rw [List.length_cons] at hK ⊢
    have e1 : (K + L + 6) * (cs.length + 1) = (K + L + 6) * cs.length + (K + L + 6) := Nat.mul_succ _ _
    have e2 : (K + L + 6) * (cs.length + 1 + 1) = (K + L + 6) * (cs.length + 1) + (K + L + 6) := Nat.mul_succ _ _
    rw [e2, e1] at hK
    rw [e1]
    have h := ih (fun q h => hq q (List.mem_cons_of_mem _ h)) (by rw [e1]; omega)
    have h1 := (h.mul ha (by omega)).2
    have h2 := ((Sq.id ha.n0 ha.n1).scale (hq c List.mem_cons_self) hL (by omega)).2
    have h3 := (h1.add h2 (by omega)).2
    exact ⟨h3.n0, h3.n1, h3.l, h3.c, h3.g.mono (by omega)⟩
set_option maxRecDepth 100000 in
set_option maxHeartbeats 4000000 in
theorem at_x (l : List Rat) {n K L : Nat} {A : List (List Rat)} (ha : Sq n K A) (hq : ∀ q ∈ l, ql q ≤ L) (hL : L < 8589934592) (hl : l.length < 100000) (hK : 2 * ((K + L + 6) * (l.length + 1)) + 2 < 1099511627776) (hK2 : 4 * ((K + L + 6) * (l.length + 1)) + 4 * K + 4 * L + 100 < 1099511627776) :
    PCall Tryz.prog 162 [.d (.sl (qes (l.map nq))), .d (md (nm A))] (.one (.d (md (nm (hoQ A n l))))) := by
  have hz := zero_p n n ha.n1 ha.n1
  have hi := ident_p n ha.n1
  have hal : (nm A).2.length = n := by rw [nm_len]; exact ha.l
  generalize hM : nm A = M at *
  refine pcall_of hmo Tryz.func162 rfl (by kernel_rfl) (by simp [Tryz.ntmps162]) ?_; simp -implicitDefEqProofs [go_sem, Tryz.ntmps162]; (repeat refine And.intro (by first | decide +kernel | omega | kernel_rfl) ?_); (try decide +kernel)
  simp -implicitDefEqProofs [go_sem, hal]; (repeat refine And.intro (by first | decide +kernel | omega | kernel_rfl) ?_); (try decide +kernel)
  refine .inl ⟨_, hz, ?_⟩; simp -implicitDefEqProofs [go_sem]; (repeat refine And.intro (by first | decide +kernel | omega | kernel_rfl) ?_); (try decide +kernel)
  refine .inl ⟨_, hi, ?_⟩; simp -implicitDefEqProofs [go_sem]; (repeat refine And.intro (by first | decide +kernel | omega | kernel_rfl) ?_); (try decide +kernel)
  refine loop_rule [] (fun (k : Nat) => ⟨56, [(0, .d (.sl (qes (l.map nq)))), (3, .pr 0 0 0 0), (4, .pr 4 0 0 0), (6, .pr 48 0 0 0), (8, .pr 80 0 0 0), (10, intP .i64 ((k : Int) - 1))],
      [(80, .box (mbx (nm (identQ n)))), (48, .box (mbx (nm (hoQ A n (l.drop k))))), (4, .box [.d (.v (.bool false)), .nl, .nl]), (0, .box (mbx M))], 5000⟩)
    (fun k => k ≤ l.length) (fun k => k) l.length (Nat.le_refl _) (by simp) (by simp -implicitDefEqProofs [go_sem, mbx, hoQ]) (fun k hk => ?_)
  cases k with
  | zero =>
    have e : l.drop 0 = l := rfl
    rw [e]
    generalize hoQ A n l = V at *
    simp -implicitDefEqProofs [go_sem, mbx]; (repeat refine And.intro (by first | decide +kernel | omega | kernel_rfl) ?_); (try decide +kernel)
  | succ j =>
    have hj : j < l.length := hk
    have e : l.drop j = l[j] :: l.drop (j + 1) := List.drop_eq_getElem_cons hj
    have hdl : (l.drop (j + 1)).length + 1 ≤ l.length := by rw [List.length_drop]; omega
    have hm : (K + L + 6) * ((l.drop (j + 1)).length + 1) ≤ (K + L + 6) * (l.length + 1) := Nat.mul_le_mul_left _ (by omega)
    have hm2 : (K + L + 6) * ((l.drop (j + 1)).length + 1) = (K + L + 6) * (l.drop (j + 1)).length + (K + L + 6) := Nat.mul_succ _ _
    have s0 := ha.ho (fun q h => hq q (List.mem_of_mem_drop h)) (l := l.drop (j + 1)) hL (by omega)
    obtain ⟨p1, s1⟩ := s0.mul ha (by omega)
    obtain ⟨p2, s2⟩ := (Sq.id ha.n0 ha.n1).scale (hq _ (List.getElem_mem hj)) hL (by omega)
    obtain ⟨p3, s3⟩ := s1.add s2 (by omega)
    have e2 : joinQ (· + ·) (mulQ (hoQ A n (l.drop (j + 1))) A n n n) (scaleQ (identQ n) l[j] n n) n n = hoQ A n (l.drop j) := by rw [e]; rfl
    rw [e2] at p3
    rw [hM] at p1
    obtain ⟨V', hV⟩ : ∃ V', V' = hoQ A n (l.drop j) := ⟨_, rfl⟩
    rw [← hV] at p3
    generalize hoQ A n (l.drop (j + 1)) = V at *
    generalize mulQ V A n n n = V1 at *
    generalize scaleQ (identQ n) l[j] n n = V2 at *
    simp -implicitDefEqProofs [go_sem, hj, mbx]; (repeat refine And.intro (by first | decide +kernel | omega | kernel_rfl) ?_); (try decide +kernel)
    refine .inl ⟨_, p1, ?_⟩; simp -implicitDefEqProofs [go_sem, hj]; (repeat refine And.intro (by first | decide +kernel | omega | kernel_rfl) ?_); (try decide +kernel)
    refine .inl ⟨_, p2, ?_⟩; simp -implicitDefEqProofs [go_sem, hj]; (repeat refine And.intro (by first | decide +kernel | omega | kernel_rfl) ?_); (try decide +kernel)
    refine .inl ⟨_, p3, ?_⟩; simp -implicitDefEqProofs [go_sem]; (repeat refine And.intro (by first | decide +kernel | omega | kernel_rfl) ?_); (try decide +kernel)
    exact ⟨j, by omega, by omega, rfl, by rw [hV], by rw [hV], by rw [hV]⟩
end Go.Mt
/-
  A part of the proof.
-/
set_option linter.unusedSimpArgs false
set_option linter.unusedVariables false
namespace Go.Mt
open Go Go.Pm Go.Proofs
theorem fpX_zero {l : List QR} (h : fpE l = 0) : fpX l = (plQ l).map nq := if_pos h
theorem fitsE_zero {l : List QR} {m : MR} (h : fitsE l m = 0) : fpE l = 0 ∧ fitE m = 0 := by
  unfold fitsE orE at h
  by_cases h0 : fpE l = 0
  · rw [if_pos h0] at h; exact ⟨h0, h⟩
  · rw [if_neg h0] at h; exact absurd h h0
theorem Im.sq {m : MR} (h : Im m) (h0 : fitE m = 0) : Sq m.2.length 1048577 (valM m) := by
  obtain ⟨c1, c2, c3, c4, c5⟩ := fit_zero h0
  have g := gm_nm (h.gm c1) (by decide)
  exact ⟨c2, by omega, valM_len m, by rw [valM_cols]; omega, g⟩
/-- a polynomial's numbers are short -/
theorem plQ_ql2 {l : List QR} (h : Ip l) (ha : l.all mayQ = true) : ∀ q ∈ plQ l, ql q ≤ 2097154 := fun q hq => by
  obtain ⟨x, hx, rfl⟩ := List.mem_map.1 (trimQ_mem hq)
  have h0 := (h.lq ha x hx).gq
  obtain ⟨h1, h2, h3⟩ := h.q x hx
  have : gq x ≤ 2097154 := by unfold gq; omega
  omega
def atQ (l : List QR) (m : MR) : List (List Rat) := hoQ (valM m) m.2.length (plQ l)
theorem at_sq {l : List QR} {m : MR} (hl : Ip l) (hm : Im m) (h : fitsE l m = 0) : Sq m.2.length 400000000 (atQ l m) := by
  obtain ⟨h1, h2⟩ := fitsE_zero h
  obtain ⟨f1, f2, f3⟩ := fpE_may h1
  have hm1 : (1048577 + 2097154 + 6) * ((plQ l).length + 1) ≤ (1048577 + 2097154 + 6) * 102 := Nat.mul_le_mul_left _ (by omega)
  have hm2 : (1048577 + 2097154 + 6) * ((plQ l).length) ≤ (1048577 + 2097154 + 6) * 101 := Nat.mul_le_mul_left _ (by omega)
  have h := (hm.sq h2).ho (plQ_ql2 hl f1) (by decide) (by omega)
  exact ⟨h.n0, h.n1, h.l, h.c, h.g.mono (by omega)⟩
set_option maxRecDepth 100000 in
set_option maxHeartbeats 2000000 in
theorem At_p (l : List QR) (m : MR) (hl : Ip l) (hm : Im m) :
    PCall Tryz.prog 74 [.d (.sl (qes l)), .d (md m)] (.tup [.d (if fitsE l m = 0 then md (nm (atQ l m)) else mE), .d (.v (.int .i64 (fitsE l m)))]) := by
  have hf := fits_h l m hl hm
  by_cases h0 : fitsE l m = 0
  · obtain ⟨h1, h2⟩ := fitsE_zero h0
    obtain ⟨f1, f2, f3⟩ := fpE_may h1
    have hm1 : (1048577 + 2097154 + 6) * ((plQ l).length + 1) ≤ (1048577 + 2097154 + 6) * 102 := Nat.mul_le_mul_left _ (by omega)
    have ha := at_x (plQ l) (hm.sq h2) (plQ_ql2 hl f1) (by decide) (by omega) (by omega) (by omega)
    have e1 : fitsM l m = nm (valM m) := by unfold fitsM fmX; rw [if_pos h1, if_pos h2]
    have ha : PCall Tryz.prog 162 [.d (.sl (qes ((plQ l).map nq))), .d (md (nm (valM m)))] (.one (.d (md (nm (atQ l m))))) := ha
    rw [if_pos h0, h0]
    rw [h0, fpX_zero h1, e1] at hf
    generalize (plQ l).map nq = X at *
    generalize nm (valM m) = Y at *
    generalize atQ l m = Z at *
    refine pcall_of hmo Tryz.func74 rfl (by kernel_rfl) (by simp [Tryz.ntmps74]) ?_; simp -implicitDefEqProofs [go_sem, Tryz.ntmps74]; (repeat refine And.intro (by first | decide +kernel | omega | kernel_rfl) ?_); (try decide +kernel)
    refine .inr ⟨[(24, .box (acl l m))], _, _, hf, by simp -implicitDefEqProofs [go_sem], ?_⟩
    simp -implicitDefEqProofs [go_sem]; (repeat refine And.intro (by first | decide +kernel | omega | kernel_rfl) ?_); (try decide +kernel)
    refine .inl ⟨_, ha, ?_⟩; simp -implicitDefEqProofs [go_sem]; (repeat refine And.intro (by first | decide +kernel | omega | kernel_rfl) ?_); (try decide +kernel)
  · rw [if_neg h0]
    generalize fitsE l m = E at *
    generalize fitsM l m = Y at *
    generalize fpX l = X at *
    refine pcall_of hmo Tryz.func74 rfl (by kernel_rfl) (by simp [Tryz.ntmps74]) ?_; simp -implicitDefEqProofs [go_sem, Tryz.ntmps74]; (repeat refine And.intro (by first | decide +kernel | omega | kernel_rfl) ?_); (try decide +kernel)
    refine .inr ⟨[(24, .box (acl l m))], _, _, hf, by simp -implicitDefEqProofs [go_sem], ?_⟩
    simp -implicitDefEqProofs [go_sem, h0]; (repeat refine And.intro (by first | decide +kernel | omega | kernel_rfl) ?_); (try decide +kernel)
end Go.Mt
