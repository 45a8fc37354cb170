/-
  A part of the proof.
-/
import Derived.Test.YtmhclkagdpbadaaGreatEcb39
import Derived.Test.YtmhclkagdpbadaaGreatEcb41
set_option linter.unusedVariables false
set_option linter.unusedSimpArgs false
set_option linter.unusedSimpArgs false
set_option linter.unusedVariables false
namespace Go.Mt
open Go Go.Pm Go.Proofs
/-- a matrix that came in -/
structure Im (m : MR) : Prop where
  d : Rz m.1
  ld : m.1.2.length < 1048577
  z : ∀ r ∈ m.2, ∀ z ∈ r, Rz z ∧ z.2.length < 1048577
  n : m.2.length < 1048577
  w : ∀ r ∈ m.2, r.length < 1048577
  fl : m.2.flatten.length < 1048577
theorem Im.of {m : MR} {b : Nat} (h : MatM m b) (hb : b ≤ 1048576) : Im m :=
  ⟨h.1.1, by have := h.1.2; omega, fun r hr z hz => ⟨(h.2.1 r hr z hz).1, by have := (h.2.1 r hr z hz).2; omega⟩, by have := h.2.2.1; omega, fun r hr => by have := h.2.2.2.1 r hr; omega, by have := h.2.2.2.2; omega⟩
theorem Im.g {m : MR} (h : Im m) : Grw m.2 := ⟨fun r hr z hz => (h.z r hr z hz).1, by have := h.n; omega, fun r hr => by have := h.w r hr; omega⟩
theorem check_parts {m : MR} (h : checkE m = 0) : ofR m.1 ≠ 0 ∧ evenB m.2 = true := by
  unfold checkE at h
  by_cases h0 : ofR m.1 = 0
  · rw [if_pos h0] at h; exact absurd h (by decide)
  · rw [if_neg h0] at h
    by_cases h1 : evenB m.2 = true
    · exact ⟨h0, h1⟩
    · rw [if_neg h1] at h; exact absurd h (by decide)
theorem Im.gm {m : MR} (h : Im m) (hc : checkE m = 0) : Gm 1048577 m := by
  obtain ⟨h0, h1⟩ := check_parts hc
  exact ⟨h.d, h0, h.g, h1, fun r hr z hz => by
    have := zl_ofR (h.z r hr z hz).1
    have := (h.z r hr z hz).2
    omega, by have := zl_ofR h.d; have := h.ld; omega⟩
theorem Im.gl {m : MR} (h : Im m) (h0 : ofR m.1 ≠ 0) : Gl m := ⟨h.d, h0, h.g, by have := h.ld; omega, fun r hr z hz => by have := (h.z r hr z hz).2; omega⟩
end Go.Mt
/-
  A part of the proof.
-/
set_option linter.unusedSimpArgs false
set_option linter.unusedVariables false
namespace Go.Mt
open Go Go.Pm Go.Proofs
theorem scaleQ_gm2 {m : MR} {K L : Nat} (hm : Gm K m) {q : Rat} (hq : ql q ≤ L) (hK : K + L < 1099511627776) : Gm (max (K + L) 1) (nm (scaleQ (valM m) q m.2.length (colsOf m.2))) := by
  have hcl := colsOf_lt hm.g
  have := ql_num q
  have := ql_den q
  have hent : ∀ i k, i < m.2.length → k < colsOf m.2 → zl (entry (zz m.2) i k * q.num) ≤ K + L := fun i k hi hk => by
    obtain ⟨_, _, e1, h1⟩ := hm.ent hi hk
    rw [e1]
    have := zl_mul (ofR m.2[i][k]) q.num
    omega
  obtain ⟨g1, g2, g3⟩ := grw_tab hK hm.g.nr hcl hent
  have h := nm_bound (D := ofR m.1 * (q.den : Int)) (Int.mul_ne_zero hm.ne (den_ne q)) g2 g1 hK (by have := zl_mul (ofR m.1) (q.den : Int); have := hm.kd; omega) g3
  rw [zz_tab, scaleZ_eq, ratv_self] at h
  exact h
theorem addQ_gm2 {a b : MR} {K L : Nat} (ha : Gm K a) (hb : Gm L b) (hK : K + L + 1 < 1099511627776) (hn : b.2.length = a.2.length) (hc : colsOf b.2 = colsOf a.2) : Gm (max (K + L + 1) 1) (nm (joinQ (· + ·) (valM a) (valM b) a.2.length (colsOf a.2))) := by
  have hcl := colsOf_lt ha.g
  have hent : ∀ i k, i < a.2.length → k < colsOf a.2 → zl (entry (zz a.2) i k * ofR b.1 + entry (zz b.2) i k * ofR a.1) ≤ K + L + 1 := fun i k hi hk => by
    obtain ⟨_, _, e1, h1⟩ := ha.ent hi hk
    obtain ⟨_, _, e2, h2⟩ := hb.ent (i := i) (k := k) (by omega) (by omega)
    rw [e1, e2]
    have := zl_mul (ofR a.2[i][k]) (ofR b.1)
    have := zl_mul (ofR b.2[i][k]) (ofR a.1)
    have := zl_add (ofR a.2[i][k] * ofR b.1) (ofR b.2[i][k] * ofR a.1)
    have := ha.kd
    have := hb.kd
    omega
  obtain ⟨g1, g2, g3⟩ := grw_tab hK ha.g.nr hcl hent
  have h := nm_bound (D := ofR a.1 * ofR b.1) (Int.mul_ne_zero ha.ne hb.ne) g2 g1 hK (by have := zl_mul (ofR a.1) (ofR b.1); have := ha.kd; have := hb.kd; omega) g3
  rw [zz_tab, addZ_eq _ _ _ _ ha.ne hb.ne] at h
  exact h
theorem Gm.mono {m : MR} {K L : Nat} (h : Gm K m) (hl : K ≤ L) : Gm L m := ⟨h.d, h.ne, h.g, h.ev, fun r hr z hz => Nat.le_trans (h.k r hr z hz) hl, Nat.le_trans h.kd hl⟩
/-- how long a matrix's numbers are, at most -/
def gk (m : MR) : Nat := max m.1.2.length ((m.2.flatten.map fun z => z.2.length).foldl max 0)
theorem foldl_max_ge (l : List Nat) (a : Nat) : a ≤ l.foldl max a ∧ ∀ x ∈ l, x ≤ l.foldl max a := by
  induction l generalizing a with
  | nil => exact ⟨Nat.le_refl _, fun x h => by cases h⟩
  | cons y l ih =>
    obtain ⟨h1, h2⟩ := ih (max a y)
    refine ⟨Nat.le_trans (Nat.le_max_left _ _) h1, fun x hx => ?_⟩
    rcases List.mem_cons.1 hx with rfl | hx
    · exact Nat.le_trans (Nat.le_max_right _ _) h1
    · exact h2 x hx
theorem foldl_max_le {l : List Nat} {a b : Nat} (ha : a ≤ b) (h : ∀ x ∈ l, x ≤ b) : l.foldl max a ≤ b := by
  induction l generalizing a with
  | nil => exact ha
  | cons y l ih => exact ih (Nat.max_le.2 ⟨ha, h y (List.mem_cons_self ..)⟩) (fun x hx => h x (List.mem_cons_of_mem _ hx))
theorem gk_ge {m : MR} {r : List ZR} {z : ZR} (hr : r ∈ m.2) (hz : z ∈ r) : z.2.length ≤ gk m :=
  Nat.le_trans ((foldl_max_ge _ 0).2 _ (List.mem_map.2 ⟨z, List.mem_flatten.2 ⟨r, hr, hz⟩, rfl⟩)) (Nat.le_max_right _ _)
theorem gk_le {m : MR} {b : Nat} (h : MatM m b) : gk m ≤ b := by
  refine Nat.max_le.2 ⟨by have := h.1.2; omega, foldl_max_le (Nat.zero_le _) fun x hx => ?_⟩
  obtain ⟨z, hz, rfl⟩ := List.mem_map.1 hx
  obtain ⟨r, hr, hz⟩ := List.mem_flatten.1 hz
  have := (h.2.1 r hr z hz).2
  omega
theorem Im.gmk {m : MR} (h : Im m) (hc : checkE m = 0) : Gm (gk m) m := by
  obtain ⟨h0, h1⟩ := check_parts hc
  refine ⟨h.d, h0, h.g, h1, fun r hr z hz => ?_, ?_⟩
  · have h3 := zl_ofR (h.z r hr z hz).1
    have h4 := gk_ge hr hz
    omega
  · have h3 := zl_ofR h.d
    have h4 : m.1.2.length ≤ gk m := Nat.le_max_left _ _
    omega
def gq (x : QR) : Nat := max x.1.2.length x.2.2.length
theorem Lq.gq {x : QR} (h : Lq x) : Go.Mt.ql (ofQ x) ≤ Go.Mt.gq x := by
  have := ql_ratv (ofR x.1) (ofR x.2) h.ne
  have := zl_ofR h.rq.1
  have := zl_ofR h.rq.2
  unfold ofQ Go.Mt.gq
  omega
def mg (ms : List MR) (i : Nat) : MR := (ms[i]?).getD ((false, []), [])
def cg (l : List QR) (i : Nat) : QR := (l[i]?).getD ((false, []), (false, []))
theorem mg_get {ms : List MR} {i : Nat} (h : i < ms.length) : mg ms i = ms[i] := by unfold mg; rw [List.getElem?_eq_getElem h]; rfl
theorem cg_get {l : List QR} {i : Nat} (h : i < l.length) : cg l i = l[i] := by unfold cg; rw [List.getElem?_eq_getElem h]; rfl
/-- the sums of the multiples, one by one -/
def cmb (l : List QR) (ms : List MR) (r c : Nat) : Nat → List (List Rat)
  | 0 => scaleQ (valM (mg ms 0)) (ofQ (cg l 0)) r c
  | i + 1 => joinQ (· + ·) (cmb l ms r c i) (scaleQ (valM (mg ms (i + 1))) (ofQ (cg l (i + 1))) r c) r c
/-- of the size of the first -/
def shp (ms : List MR) (m : MR) : Bool := decide (m.2.length = (mg ms 0).2.length ∧ colsOf m.2 = colsOf (mg ms 0).2)
def kb (l : List QR) (ms : List MR) (i : Nat) : Nat := ((List.range (i + 1)).map fun j => gk (mg ms j) + gq (cg l j) + 2).sum
theorem kb_succ (l : List QR) (ms : List MR) (i : Nat) : kb l ms (i + 1) = kb l ms i + (gk (mg ms (i + 1)) + gq (cg l (i + 1)) + 2) := by
  unfold kb
  rw [List.range_succ (n := i + 1), List.map_append, List.sum_append_nat]
  simp
theorem cmb_len (l : List QR) (ms : List MR) (r c i : Nat) : (cmb l ms r c i).length = r := by
  cases i with
  | zero => exact length_tabQ _ _ _
  | succ i => exact length_tabQ _ _ _
theorem cols_tab0 (f : Nat → Nat → Rat) (r c : Nat) (h : r = 0 → c = 0) : colsOf (tabQ f r c) = c := by
  by_cases hr : r = 0
  · rw [hr, h hr]; rfl
  · exact colsOf_tab f (by omega)
theorem cmb_cols (l : List QR) (ms : List MR) (r c i : Nat) (h : r = 0 → c = 0) : colsOf (cmb l ms r c i) = c := by
  cases i with
  | zero => exact cols_tab0 _ _ _ h
  | succ i => exact cols_tab0 _ _ _ h
theorem cols_zero {m : MR} (h : m.2.length = 0) : colsOf m.2 = 0 := by rw [List.eq_nil_of_length_eq_zero h]; rfl
theorem cmb_gm {l : List QR} {ms : List MR} (hl : ∀ x ∈ l, Lq x) (hm : ∀ m ∈ ms, Im m ∧ checkE m = 0) (hlen : l.length = ms.length) {r c i : Nat} (hr : (mg ms 0).2.length = r) (hc : colsOf (mg ms 0).2 = c) (hi : i < ms.length) (hs : ∀ j, j ≤ i → shp ms (mg ms j) = true) (hK : kb l ms i < 1099511627776) :
    Gm (kb l ms i) (nm (cmb l ms r c i)) := by
  have term : ∀ j, j < ms.length → shp ms (mg ms j) = true → gk (mg ms j) + gq (cg l j) < 1099511627776 → Gm (max (gk (mg ms j) + gq (cg l j)) 1) (nm (scaleQ (valM (mg ms j)) (ofQ (cg l j)) r c)) := fun j hj hsj hkj => by
    have e1 := mg_get hj
    have e2 := cg_get (l := l) (i := j) (by omega)
    obtain ⟨h1, h2⟩ := hm _ (List.getElem_mem hj)
    have h3 := hl _ (List.getElem_mem (l := l) (n := j) (by omega))
    rw [← e1] at h1 h2
    rw [← e2] at h3
    have h4 := scaleQ_gm2 (h1.gmk h2) (q := ofQ (cg l j)) h3.gq hkj
    have h5 := of_decide_eq_true hsj
    rw [h5.1, h5.2, hr, hc] at h4
    exact h4
  have h0 : r = 0 → c = 0 := fun h => by rw [← hr] at h; rw [← hc]; exact cols_zero h
  induction i with
  | zero =>
    have e : kb l ms 0 = gk (mg ms 0) + gq (cg l 0) + 2 := by simp [kb]
    rw [e] at hK ⊢
    exact (term 0 hi (hs 0 (Nat.le_refl _)) (by omega)).mono (by omega)
  | succ i ih =>
    rw [kb_succ] at hK ⊢
    have g1 := ih (by omega) (fun j hj => hs j (by omega)) (by omega)
    have g2 := term (i + 1) hi (hs (i + 1) (Nat.le_refl _)) (by omega)
    have l1 : (nm (cmb l ms r c i)).2.length = r := by rw [nm_len]; exact cmb_len _ _ _ _ _
    have w1 : colsOf (nm (cmb l ms r c i)).2 = c := by rw [nm_cols]; exact cmb_cols _ _ _ _ _ h0
    have l2 : (nm (scaleQ (valM (mg ms (i + 1))) (ofQ (cg l (i + 1))) r c)).2.length = r := by rw [nm_len]; exact length_tabQ _ _ _
    have w2 : colsOf (nm (scaleQ (valM (mg ms (i + 1))) (ofQ (cg l (i + 1))) r c)).2 = c := by rw [nm_cols]; exact cols_tab0 _ _ _ h0
    have h := addQ_gm2 g1 g2 (by omega) (by rw [l1, l2]) (by rw [w1, w2])
    rw [l1, w1, valM_nm, valM_nm] at h
    exact h.mono (by omega)
end Go.Mt
/-
  A part of the proof.
-/
set_option linter.unusedSimpArgs false
set_option linter.unusedVariables false
namespace Go.Mt
open Go Go.Pm Go.Proofs
theorem join_e (a b : MR) {K L : Nat} {g : FuncId} (ha : Gm K a) (hb : Gm L b) (hs : ¬ (b.2.length = a.2.length ∧ colsOf b.2 = colsOf a.2)) : PCall Tryz.prog 223 [.d (md a), .d (md b), .fn g []] (.tup [.d mE, .d (.v (.int .i64 2))]) := by
  by_cases h1 : a.2.length = b.2.length
  · have h2 : ¬ ((colsOf a.2 : Nat) : Int) = ((colsOf b.2 : Nat) : Int) := by omega
    have h3 : ¬ colsOf a.2 = colsOf b.2 := by omega
    refine pcall_of hmo Tryz.func223 rfl (by kernel_rfl) (by simp [Tryz.ntmps223]) ?_; simp -implicitDefEqProofs [go_sem, Tryz.ntmps223]; (repeat refine And.intro (by first | decide +kernel | omega | kernel_rfl) ?_); (try decide +kernel)
    refine .inl ⟨_, checks2_p a b ha hb, ?_⟩; simp -implicitDefEqProofs [go_sem]; (repeat refine And.intro (by first | decide +kernel | omega | kernel_rfl) ?_); (try decide +kernel)
    refine .inl ⟨_, size_p a ha.g, ?_⟩; simp -implicitDefEqProofs [go_sem]; (repeat refine And.intro (by first | decide +kernel | omega | kernel_rfl) ?_); (try decide +kernel)
    refine .inl ⟨_, size_p b hb.g, ?_⟩; simp -implicitDefEqProofs [go_sem, h1, h2, h3]; (repeat refine And.intro (by first | decide +kernel | omega | kernel_rfl) ?_); (try decide +kernel)
  · have h2 : ¬ ((a.2.length : Nat) : Int) = ((b.2.length : Nat) : Int) := by omega
    refine pcall_of hmo Tryz.func223 rfl (by kernel_rfl) (by simp [Tryz.ntmps223]) ?_; simp -implicitDefEqProofs [go_sem, Tryz.ntmps223]; (repeat refine And.intro (by first | decide +kernel | omega | kernel_rfl) ?_); (try decide +kernel)
    refine .inl ⟨_, checks2_p a b ha hb, ?_⟩; simp -implicitDefEqProofs [go_sem]; (repeat refine And.intro (by first | decide +kernel | omega | kernel_rfl) ?_); (try decide +kernel)
    refine .inl ⟨_, size_p a ha.g, ?_⟩; simp -implicitDefEqProofs [go_sem]; (repeat refine And.intro (by first | decide +kernel | omega | kernel_rfl) ?_); (try decide +kernel)
    refine .inl ⟨_, size_p b hb.g, ?_⟩; simp -implicitDefEqProofs [go_sem, h1, h2]; (repeat refine And.intro (by first | decide +kernel | omega | kernel_rfl) ?_); (try decide +kernel)
theorem qadd_e (a b : MR) {K L : Nat} (ha : Gm K a) (hb : Gm L b) (hs : ¬ (b.2.length = a.2.length ∧ colsOf b.2 = colsOf a.2)) : PCall Tryz.prog 164 [.d (md a), .d (md b)] (.tup [.d mE, .d (.v (.int .i64 2))]) := by
  have h := join_e (g := 222) a b ha hb hs
  refine pcall_of hmo Tryz.func164 rfl (by kernel_rfl) (by simp [Tryz.ntmps164]) ?_; simp -implicitDefEqProofs [go_sem, Tryz.ntmps164]; (repeat refine And.intro (by first | decide +kernel | omega | kernel_rfl) ?_); (try decide +kernel)
  refine .inl ⟨_, h, ?_⟩; simp -implicitDefEqProofs [go_sem]; (repeat refine And.intro (by first | decide +kernel | omega | kernel_rfl) ?_); (try decide +kernel)
theorem scale_g (m : MR) (x : QR) {K L : Nat} (hm : Gm K m) (hx : Lq x) (hq : ql (ofQ x) ≤ L) (hK : 2 * K + 2 * L < 1099511627776) : PCall Tryz.prog 163 [.d (md m), .d (qd x)] (.tup [.d (md (nm (scaleQ (valM m) (ofQ x) m.2.length (colsOf m.2)))), .d (.v (.int .i64 0))]) :=
  scale_p m x (K := K + L) (hm.mono (by omega)) ⟨hx.rq, hx.ne⟩ (by omega) (by omega)
theorem qadd_g (a b : MR) {K L : Nat} (ha : Gm K a) (hb : Gm L b) (hK : 2 * K + 2 * L + 2 < 1099511627776) (hn : b.2.length = a.2.length) (hc : colsOf b.2 = colsOf a.2) :
    PCall Tryz.prog 164 [.d (md a), .d (md b)] (.tup [.d (md (nm (joinQ (· + ·) (valM a) (valM b) a.2.length (colsOf a.2)))), .d (.v (.int .i64 0))]) :=
  qadd_m a b (K := K + L) (ha.mono (by omega)) (hb.mono (by omega)) (by omega) hn hc
theorem checksE_get {ms : List MR} (h : checksE ms = 0) : ∀ m ∈ ms, checkE m = 0 := by
  induction ms with
  | nil => intro m h; cases h
  | cons x l ih =>
    intro m hm
    unfold checksE at h
    by_cases h0 : checkE x = 0
    · rw [if_neg (fun h => h h0)] at h
      rcases List.mem_cons.1 hm with rfl | hm
      · exact h0
      · exact ih h m hm
    · rw [if_pos h0] at h; exact absurd h h0
/-- all of one size -/
def shAll (ms : List MR) : Bool := ms.all (shp ms)
/-- the sum's numbers, if it is one -/
def cmbM (l : List QR) (ms : List MR) : List (List Rat) := cmb l ms (mg ms 0).2.length (colsOf (mg ms 0).2) (ms.length - 1)
theorem kb_mono (l : List QR) (ms : List MR) {i j : Nat} (h : i ≤ j) : kb l ms i ≤ kb l ms j := by
  obtain ⟨d, rfl⟩ : ∃ d, j = i + d := ⟨j - i, by omega⟩
  induction d with
  | zero => exact Nat.le_refl _
  | succ d ih => have := kb_succ l ms (i + d); have := ih (by omega); show kb l ms i ≤ kb l ms (i + d + 1); omega
set_option maxRecDepth 100000 in
set_option maxHeartbeats 4000000 in
theorem comb_x (l : List QR) (ms : List MR) (hl : ∀ x ∈ l, Lq x) (hm : ∀ m ∈ ms, Im m ∧ checkE m = 0) (hlen : l.length = ms.length) (h0 : 0 < ms.length) (hn : ms.length < 1048577) (hK : kb l ms (ms.length - 1) < 8589934592) :
    PCall Tryz.prog 79 [.d (.sl (qes l)), .d (.sl (mes ms))] (.tup [.d (if shAll ms = true then md (nm (cmbM l ms)) else mE), .d (.v (.int .i64 (if shAll ms = true then 0 else 2)))]) := by
  have hht := height_p l (fun x hx => ⟨(hl x hx).rq, (hl x hx).ne⟩) (by omega) (fun x hx => by have := (hl x hx).ql; omega)
  have hz1 : ¬ ms = [] := fun h => by rw [h] at h0; exact absurd h0 (by decide)
  have hz2 : ¬ ((ms.length : Nat) : Int) = 0 := by omega
  have h0l : 0 < l.length := by omega
  have hm0 := hm _ (List.getElem_mem h0)
  have hx0 := hl _ (List.getElem_mem h0l)
  have e0 := mg_get h0
  have f0 := cg_get h0l
  have hsc0 := scale_g ms[0] l[0] (hm0.1.gmk hm0.2) hx0 hx0.gq (by
    have h1 : kb l ms 0 ≤ kb l ms (ms.length - 1) := kb_mono l ms (by omega)
    have h2 : kb l ms 0 = gk (mg ms 0) + gq (cg l 0) + 2 := by simp [kb]
    rw [e0, f0] at h2; omega)
  rw [← e0, ← f0] at hsc0
  obtain ⟨r, hr⟩ : ∃ r, r = (mg ms 0).2.length := ⟨_, rfl⟩
  obtain ⟨c, hc⟩ : ∃ c, c = colsOf (mg ms 0).2 := ⟨_, rfl⟩
  rw [← hr, ← hc] at hsc0
  have hsc0 : PCall Tryz.prog 163 [.d (md (mg ms 0)), .d (qd (cg l 0))] (.tup [.d (md (nm (cmb l ms r c 0))), .d (.v (.int .i64 0))]) := hsc0
  rw [e0, f0] at hsc0
  refine pcall_of hmo Tryz.func79 rfl (by kernel_rfl) (by simp [Tryz.ntmps79]) ?_; simp -implicitDefEqProofs [go_sem, Tryz.ntmps79]; (repeat refine And.intro (by first | decide +kernel | omega | kernel_rfl) ?_); (try decide +kernel)
  refine .inl ⟨_, hht, ?_⟩; simp -implicitDefEqProofs [go_sem]; (repeat refine And.intro (by first | decide +kernel | omega | kernel_rfl) ?_); (try decide +kernel)
  refine loop_rule [] (fun (k : Nat) => ⟨91, [(0, .d (.sl (qes l))), (1, .d (.sl (mes ms))), (4, .pr 0 0 0 0), (27, .d (.sl (mes ms))), (28, intP .i64 (ms.length : Int)), (29, intP .i64 (k : Int))], [(0, .box [.d (.v (.bool false)), .nl, .nl])], 1000⟩)
    (fun k => k ≤ ms.length) (fun k => ms.length - k) 0 (Nat.zero_le _) (by simp) (by simp -implicitDefEqProofs [go_sem]) (fun k hk => ?_)
  by_cases hkl : k < ms.length
  · obtain ⟨h1, h2⟩ := hm _ (List.getElem_mem hkl)
    have hck := check_p ms[k] h1.d h1.g
    rw [h2] at hck
    simp -implicitDefEqProofs [go_sem, hkl]; (repeat refine And.intro (by first | decide +kernel | omega | kernel_rfl) ?_); (try decide +kernel)
    refine .inl ⟨_, hck, ?_⟩; simp -implicitDefEqProofs [go_sem]; (repeat refine And.intro (by first | decide +kernel | omega | kernel_rfl) ?_); (try decide +kernel)
    exact ⟨k + 1, by omega, by omega, by omega⟩
  · obtain rfl : k = ms.length := by omega
    simp -implicitDefEqProofs [go_sem, hlen, hz1, hz2, h0, h0l]; (repeat refine And.intro (by first | decide +kernel | omega | kernel_rfl) ?_); (try decide +kernel)
    refine .inl ⟨_, hsc0, ?_⟩; simp -implicitDefEqProofs [go_sem, hlen, h0, h0l]; (repeat refine And.intro (by first | decide +kernel | omega | kernel_rfl) ?_); (try decide +kernel)
    refine loop_rule [] (fun (i : Nat) => ⟨91, [(0, .d (.sl (qes l))), (1, .d (.sl (mes ms))), (4, .pr 0 0 0 0), (11, .pr 1084 0 0 0), (13, intP .i64 (i + 1 : Int))], [(1084, .box (mbx (nm (cmb l ms r c i)))), (0, .box [.d (.v (.bool false)), .nl, .nl])], 5000⟩)
      (fun i => i < ms.length ∧ ∀ j, j ≤ i → shp ms (mg ms j) = true) (fun i => ms.length - i) 0 ⟨h0, fun j hj => by obtain rfl : j = 0 := (by omega); simp [shp]⟩ (by simp) (by simp -implicitDefEqProofs [go_sem]) (fun i ⟨hi, hs⟩ => ?_)
    have g1 := cmb_gm hl hm hlen hr.symm hc.symm hi hs (by have := kb_mono l ms (i := i) (j := ms.length - 1) (by omega); omega)
    have l1 : (nm (cmb l ms r c i)).2.length = r := by rw [nm_len]; exact cmb_len _ _ _ _ _
    have w1 : colsOf (nm (cmb l ms r c i)).2 = c := by rw [nm_cols]; exact cmb_cols _ _ _ _ _ (fun h => by rw [hr] at h; rw [hc]; exact cols_zero h)
    have hkbi := kb_mono l ms (i := i) (j := ms.length - 1) (by omega)
    by_cases hil : i + 1 < ms.length
    · have hill : i + 1 < l.length := by omega
      have hzi : (i : Int) + 1 < (ms.length : Int) := by omega
      have hmi := hm _ (List.getElem_mem hil)
      have hxi := hl _ (List.getElem_mem hill)
      have e1 := mg_get hil
      have f1 := cg_get hill
      have hkb := kb_succ l ms i
      have hkb2 := kb_mono l ms (i := i + 1) (j := ms.length - 1) (by omega)
      rw [e1, f1] at hkb
      have hsc := scale_g ms[i + 1] l[i + 1] (hmi.1.gmk hmi.2) hxi hxi.gq (by omega)
      have g2 := scaleQ_gm2 (hmi.1.gmk hmi.2) hxi.gq (by omega)
      have l2 : (nm (scaleQ (valM ms[i + 1]) (ofQ l[i + 1]) ms[i + 1].2.length (colsOf ms[i + 1].2))).2.length = ms[i + 1].2.length := by rw [nm_len]; exact length_tabQ _ _ _
      have w2 : colsOf (nm (scaleQ (valM ms[i + 1]) (ofQ l[i + 1]) ms[i + 1].2.length (colsOf ms[i + 1].2))).2 = colsOf ms[i + 1].2 := by rw [nm_cols]; exact cols_tab0 _ _ _ cols_zero
      by_cases hsh : shp ms ms[i + 1] = true
      · have h5 := of_decide_eq_true hsh
        rw [← hr, ← hc] at h5
        rw [h5.1] at l2 hsc g2 w2
        rw [h5.2] at l2 hsc g2 w2
        have hadd := qadd_g _ _ g1 g2 (by omega) (by rw [l1, l2]) (by rw [w1, w2])
        rw [l1, w1, valM_nm, valM_nm] at hadd
        have e : joinQ (· + ·) (cmb l ms r c i) (scaleQ (valM ms[i + 1]) (ofQ l[i + 1]) r c) r c = cmb l ms r c (i + 1) := by
          rw [← e1, ← f1]; rfl
        rw [e] at hadd
        generalize scaleQ (valM ms[i + 1]) (ofQ l[i + 1]) r c = S at *
        simp -implicitDefEqProofs [go_sem, hzi, hil, hill]; (repeat refine And.intro (by first | decide +kernel | omega | kernel_rfl) ?_); (try decide +kernel)
        refine .inl ⟨_, hsc, ?_⟩; simp -implicitDefEqProofs [go_sem, hil, hill]; (repeat refine And.intro (by first | decide +kernel | omega | kernel_rfl) ?_); (try decide +kernel)
        refine .inl ⟨_, hadd, ?_⟩; simp -implicitDefEqProofs [go_sem]; (repeat refine And.intro (by first | decide +kernel | omega | kernel_rfl) ?_); (try decide +kernel)
        refine ⟨i + 1, ⟨by omega, fun j hj => ?_⟩, by omega, rfl, rfl, rfl, rfl⟩
        by_cases hji : j ≤ i
        · exact hs j hji
        · obtain rfl : j = i + 1 := by omega
          rw [e1]; exact hsh
      · have hsf : shAll ms = false := by
          unfold shAll; rw [List.all_eq_false]; exact ⟨ms[i + 1], List.getElem_mem hil, hsh⟩
        have hadd := qadd_e _ _ g1 g2 (by
          rw [l1, l2, w1, w2]
          intro h
          exact hsh (decide_eq_true (by rw [← hr, ← hc]; exact h)))
        rw [hsf]
        generalize scaleQ (valM ms[i + 1]) (ofQ l[i + 1]) ms[i + 1].2.length (colsOf ms[i + 1].2) = S at *
        simp -implicitDefEqProofs [go_sem, hzi, hil, hill]; (repeat refine And.intro (by first | decide +kernel | omega | kernel_rfl) ?_); (try decide +kernel)
        refine .inl ⟨_, hsc, ?_⟩; simp -implicitDefEqProofs [go_sem, hil, hill]; (repeat refine And.intro (by first | decide +kernel | omega | kernel_rfl) ?_); (try decide +kernel)
        refine .inl ⟨_, hadd, ?_⟩; simp -implicitDefEqProofs [go_sem]; (repeat refine And.intro (by first | decide +kernel | omega | kernel_rfl) ?_); (try decide +kernel)
    · have hii : i = ms.length - 1 := by omega
      have hzi : ¬ (i : Int) + 1 < (ms.length : Int) := by omega
      have hst : shAll ms = true := by
        unfold shAll; rw [List.all_eq_true]; intro m hm2
        obtain ⟨j, hj, rfl⟩ := List.getElem_of_mem hm2
        have := hs j (by omega)
        rw [mg_get hj] at this; exact this
      have e : cmbM l ms = cmb l ms r c i := by unfold cmbM; rw [← hr, ← hc, hii]
      rw [hst, e]
      simp -implicitDefEqProofs [go_sem, hzi]; (repeat refine And.intro (by first | decide +kernel | omega | kernel_rfl) ?_); (try decide +kernel)
end Go.Mt
