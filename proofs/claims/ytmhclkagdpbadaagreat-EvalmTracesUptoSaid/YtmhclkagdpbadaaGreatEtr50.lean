/-
  A part of the proof.
-/
import Derived.Test.YtmhclkagdpbadaaGreatEtr49
import Derived.Test.YtmhclkagdpbadaaGreatEtr25
import Derived.Test.YtmhclkagdpbadaaGreatEtr40
import Derived.Test.YtmhclkagdpbadaaGreatEtr46
import Derived.Test.YtmhclkagdpbadaaGreatEtr36
set_option linter.unusedVariables false
set_option linter.unusedSimpArgs false
set_option linter.unusedSimpArgs false
set_option linter.unusedVariables false
namespace Go.Mt
open Go Go.Pm Go.Proofs
/-- the powers' entries -/
def pwE (A : List (List Rat)) (n : Nat) : Nat → Nat → Nat → Rat
  | 0, i, k => if i = k then 1 else 0
  | t + 1, i, k => sumN n fun j => pwE A n t i j * entQ A j k
theorem pwE_add (A : List (List Rat)) (n s t : Nat) {i k : Nat} (hk : k < n) : pwE A n (s + t) i k = sumN n fun j => pwE A n s i j * pwE A n t j k := by
  induction t generalizing k with
  | zero => exact (sumN_one n k _ hk).symm
  | succ t ih =>
    show sumN n (fun j => pwE A n (s + t) i j * entQ A j k) = _
    rw [sumN_congr fun j hj => by rw [ih hj, ← sumN_scaler], sumN_swap]
    refine sumN_congr fun h _ => ?_
    show _ = pwE A n s i h * sumN n fun j => pwE A n t h j * entQ A j k
    rw [← sumN_scale]
    exact sumN_congr fun j _ => Rat.mul_assoc _ _ _
/-- a polynomial's value's entries -/
def poE (A : List (List Rat)) (n : Nat) (c : Nat → Rat) (N i k : Nat) : Rat := sumN N fun t => c t * pwE A n t i k
theorem ho_ent (A : List (List Rat)) (n : Nat) (l : List Rat) {i k : Nat} (hi : i < n) (hk : k < n) (N : Nat) (hN : l.length ≤ N) : entQ (hoQ A n l) i k = poE A n (cf l) N i k := by
  induction l generalizing N k with
  | nil =>
    show entQ (tabQ _ n n) i k = _
    rw [entQ_tabQ _ _ _ _ _ hi hk]
    exact (sumN_nought _ _ fun t _ => by rw [cf_nil, Rat.zero_mul]).symm
  | cons c cs ih =>
    obtain ⟨M, rfl⟩ : ∃ M, N = M + 1 := ⟨N - 1, by rw [List.length_cons] at hN; omega⟩
    rw [List.length_cons] at hN
    show entQ (tabQ _ n n) i k = _
    rw [entQ_tabQ _ _ _ _ _ hi hk]
    show entQ (tabQ _ n n) i k + entQ (tabQ _ n n) i k = _
    rw [entQ_tabQ _ _ _ _ _ hi hk, entQ_tabQ _ _ _ _ _ hi hk]
    unfold poE
    rw [sumN_shift]
    have e1 : entQ (identQ n) i k = pwE A n 0 i k := entQ_tabQ _ _ _ _ _ hi hk
    have e2 : sumN n (fun j => entQ (hoQ A n cs) i j * entQ A j k) = sumN M fun t => cf (c :: cs) (t + 1) * pwE A n (t + 1) i k := by
      have e3 : sumN n (fun j => entQ (hoQ A n cs) i j * entQ A j k) = sumN n fun j => sumN M fun t => cf cs t * pwE A n t i j * entQ A j k := sumN_congr fun j hj => by
        rw [ih hj M (by omega)]; exact (sumN_scaler _ _ _).symm
      rw [e3, sumN_swap]
      refine sumN_congr fun t _ => ?_
      show _ = cf cs t * sumN n fun j => pwE A n t i j * entQ A j k
      rw [← sumN_scale]
      exact sumN_congr fun j _ => Rat.mul_assoc _ _ _
    rw [e1, e2]
    show _ = c * pwE A n 0 i k + _
    rw [Rat.add_comm, Rat.mul_comm]
theorem ho_tab (A : List (List Rat)) (n : Nat) (l : List Rat) (N : Nat) (hN : l.length ≤ N) : hoQ A n l = tabQ (poE A n (cf l) N) n n := by
  have e : hoQ A n l = tabQ (entQ (hoQ A n l)) n n := by
    have h := tabQ_ent (hoQ A n l) n (by
      intro r hr
      cases l with
      | nil => exact row_tabQ _ _ _ r hr
      | cons c cs => exact row_tabQ _ _ _ r hr)
    rw [ho_len] at h
    exact h.symm
  rw [e]
  exact tabQ_congr fun i k hi hk => ho_ent A n l hi hk N hN
end Go.Mt
/-
  A part of the proof.
-/
set_option linter.unusedSimpArgs false
set_option linter.unusedVariables false
namespace Go.Mt
open Go Go.Pm Go.Proofs
theorem sumN_more {M N : Nat} (h : M ≤ N) (f : Nat → Rat) (hf : ∀ t, M ≤ t → f t = 0) : sumN N f = sumN M f := by
  obtain ⟨d, rfl⟩ : ∃ d, N = M + d := ⟨N - M, by omega⟩
  induction d with
  | zero => rfl
  | succ d ih =>
    show sumN (M + d) f + f (M + d) = _
    rw [ih (by omega), hf _ (by omega), Rat.add_zero]
theorem sumN_split (a M : Nat) (f : Nat → Rat) : sumN (a + M) f = sumN a f + sumN M (fun s => f (a + s)) := by
  induction M with
  | zero => exact (Rat.add_zero _).symm
  | succ M ih => show sumN (a + M) f + f (a + M) = sumN a f + (sumN M (fun s => f (a + s)) + f (a + M)); rw [ih]; grind
theorem poE_mul (A : List (List Rat)) (n : Nat) (c d : Nat → Rat) (N M i k : Nat) (hk : k < n) : sumN n (fun j => poE A n c N i j * poE A n d M j k) = sumN N fun s => sumN M fun t => c s * d t * pwE A n (s + t) i k := by
  have e1 : sumN n (fun j => poE A n c N i j * poE A n d M j k) = sumN n fun j => sumN N fun s => c s * pwE A n s i j * poE A n d M j k := sumN_congr fun j _ => (sumN_scaler _ _ _).symm
  rw [e1, sumN_swap]
  refine sumN_congr fun s _ => ?_
  have e2 : sumN n (fun j => c s * pwE A n s i j * poE A n d M j k) = sumN n fun j => sumN M fun t => c s * pwE A n s i j * (d t * pwE A n t j k) := sumN_congr fun j _ => (sumN_scale _ _ _).symm
  rw [e2, sumN_swap]
  refine sumN_congr fun t _ => ?_
  rw [pwE_add A n s t hk, ← sumN_scale]
  exact sumN_congr fun j _ => by grind
theorem poE_com (A : List (List Rat)) (n : Nat) (c d : Nat → Rat) (N M i k : Nat) (hk : k < n) : sumN n (fun j => poE A n c N i j * poE A n d M j k) = sumN n fun j => poE A n d M i j * poE A n c N j k := by
  rw [poE_mul A n c d N M i k hk, poE_mul A n d c M N i k hk, sumN_swap]
  exact sumN_congr fun t _ => sumN_congr fun s _ => by rw [Nat.add_comm s t, Rat.mul_comm (c s)]
theorem po_mul9 (A : List (List Rat)) (n : Nat) (l m : List QR) (N i k : Nat) (a : Nat) (hN : a + m.length ≤ N) : poE A n (cf (mul9A l m a)) N i k = sumN a fun s => sumN N fun t => ofQ (qg l s) * ofQ (qg m t) * pwE A n (s + t) i k := by
  induction a with
  | zero => exact sumN_nought _ _ fun t _ => by rw [show mul9A l m 0 = [] from rfl, cf_nil, Rat.zero_mul]
  | succ a ih =>
    have e : poE A n (cf (mul9A l m (a + 1))) N i k = poE A n (cf (mul9A l m a)) N i k + sumN N fun t => (if t < a then 0 else ofQ (qg m (t - a)) * ofQ (qg l a)) * pwE A n t i k := by
      unfold poE
      rw [← sumN_add]
      exact sumN_congr fun t _ => by rw [cf_mul9, Rat.add_mul]
    rw [e, ih (by omega)]
    show _ = sumN a _ + sumN N fun t => ofQ (qg l a) * ofQ (qg m t) * pwE A n (a + t) i k
    congr 1
    obtain ⟨M, hM⟩ : ∃ M, N = a + M := ⟨N - a, by omega⟩
    have e2 : sumN N (fun t => ofQ (qg l a) * ofQ (qg m t) * pwE A n (a + t) i k) = sumN M fun t => ofQ (qg l a) * ofQ (qg m t) * pwE A n (a + t) i k := sumN_more (by omega) _ fun t ht => by
      have : ofQ (qg m t) = 0 := by rw [← cf_map]; exact cf_ge (by rw [List.length_map]; omega)
      rw [this, Rat.mul_zero, Rat.zero_mul]
    rw [e2, hM, sumN_split, sumN_nought a _ fun t ht => by rw [if_pos ht, Rat.zero_mul], Rat.zero_add]
    exact sumN_congr fun t _ => by rw [if_neg (by omega), Nat.add_sub_cancel_left, Rat.mul_comm (ofQ (qg m t))]
theorem ho_congr (A : List (List Rat)) (n : Nat) {V W : List Rat} (h : ∀ t, cf V t = cf W t) : hoQ A n V = hoQ A n W := by
  rw [ho_tab A n V (max V.length W.length) (by omega), ho_tab A n W (max V.length W.length) (by omega)]
  rw [show cf V = cf W from funext h]
theorem ho_trim (A : List (List Rat)) (n : Nat) (V : List Rat) : hoQ A n (trimQ V) = hoQ A n V := ho_congr A n (cf_trim V)
theorem ho_mul (A : List (List Rat)) (n : Nat) (l m : List QR) : hoQ A n (trimQ (mul9A l m l.length)) = mulQ (hoQ A n (plQ l)) (hoQ A n (plQ m)) n n n := by
  unfold plQ
  rw [ho_trim, ho_trim, ho_trim, ho_tab A n (mul9A l m l.length) (l.length + m.length) (mul9_len l m l.length)]
  refine tabQ_congr fun i k hi hk => ?_
  rw [po_mul9 A n l m _ i k l.length (Nat.le_refl _)]
  have e := poE_mul A n (cf (l.map ofQ)) (cf (m.map ofQ)) l.length (l.length + m.length) i k hk
  have e2 : sumN n (fun j => entQ (hoQ A n (l.map ofQ)) i j * entQ (hoQ A n (m.map ofQ)) j k) = sumN n fun j => poE A n (cf (l.map ofQ)) l.length i j * poE A n (cf (m.map ofQ)) (l.length + m.length) j k := sumN_congr fun j hj => by
    rw [ho_ent A n _ hi hj l.length (by rw [List.length_map]; omega), ho_ent A n _ hj hk (l.length + m.length) (by rw [List.length_map]; omega)]
  rw [e2, e]
  exact sumN_congr fun s _ => sumN_congr fun t _ => by rw [cf_map, cf_map]
theorem ho_com (A : List (List Rat)) (n : Nat) (V W : List Rat) : mulQ (hoQ A n V) (hoQ A n W) n n n = mulQ (hoQ A n W) (hoQ A n V) n n n := by
  refine tabQ_congr fun i k hi hk => ?_
  have e : ∀ V W : List Rat, sumN n (fun j => entQ (hoQ A n V) i j * entQ (hoQ A n W) j k) = sumN n fun j => poE A n (cf V) V.length i j * poE A n (cf W) W.length j k := fun V W => sumN_congr fun j hj => by
    rw [ho_ent A n _ hi hj V.length (Nat.le_refl _), ho_ent A n _ hj hk W.length (Nat.le_refl _)]
  rw [e, e]
  exact poE_com A n _ _ _ _ i k hk
theorem ho_x (A : List (List Rat)) (n : Nat) (h : A.length = n) (hr : ∀ r ∈ A, r.length = n) : hoQ A n [0, 1] = A := by
  rw [ho_tab A n [0, 1] 2 (Nat.le_refl _)]
  have e := tabQ_ent A n hr
  rw [h] at e
  refine Eq.trans (tabQ_congr fun i k hi hk => ?_) e
  show ((0 : Rat) + 0 * (if i = k then 1 else 0)) + 1 * sumN n (fun j => (if i = j then 1 else 0) * entQ A j k) = _
  rw [sumN_onel n i _ hi, Rat.zero_mul, Rat.zero_add, Rat.zero_add, Rat.one_mul]
end Go.Mt
/-
  A part of the proof.
-/
set_option linter.unusedSimpArgs false
set_option linter.unusedVariables false
namespace Go.Mt
open Go Go.Pm Go.Proofs
set_option maxRecDepth 100000 in
theorem poly14_p (c : List Int) (hc : ∀ z ∈ c, -9223372036854775808 ≤ z ∧ z ≤ 9223372036854775807) (hn : c.length < 549755813888) :
    PCall Tryz.prog 75 [.d (.sl (ies c))] (.one (.so 72 4 (qes (c.map fun z : Int => nq (z : Rat))))) := by
  obtain ⟨L0, hL0⟩ : ∃ L0 : List QR, L0 = c.map fun z : Int => nq (z : Rat) := ⟨_, rfl⟩
  have hL0l : L0.length = c.length := by rw [hL0, List.length_map]
  rw [← hL0]
  refine pcall_of hmo Tryz.func75 rfl (by kernel_rfl) (by simp [Tryz.ntmps75]) ?_; simp -implicitDefEqProofs [go_sem, Tryz.ntmps75]; (repeat refine And.intro (by first | decide +kernel | omega | kernel_rfl) ?_); (try decide +kernel)
  refine loop_rule [.arr 3 72 4] (fun (k : Nat) => ⟨19, [(2, .nl), (3, .sr 20 k), (6, .d (.sl (ies c))), (7, intP .i64 (c.length : Int)), (8, intP .i64 (k : Int))],
      [(20, .arr ⟨72, 4, k, false, qes (L0.take k)⟩)], 1000⟩)
    (fun k => k ≤ c.length) (fun k => c.length - k) 0 (Nat.zero_le _) (by simp) (by simp -implicitDefEqProofs [go_sem, qes]) (fun k hk => ?_)
  by_cases hkl : k < c.length
  · obtain ⟨h1, h2⟩ := hc _ (List.getElem_mem hkl)
    have hof := of5_p c[k] h1 h2
    have hsn := take_snoc (e := qel (nq (c[k] : Rat))) qel L0 (k := k) (by omega) (by
      have : L0[k]'(by omega) = nq (c[k] : Rat) := by subst hL0; simp
      rw [this])
    generalize ((c[k] : Int) : Rat) = Q at *
    simp -implicitDefEqProofs [go_sem, hkl]; (repeat refine And.intro (by first | decide +kernel | omega | kernel_rfl) ?_); (try decide +kernel)
    refine .inl ⟨_, hof, ?_⟩; simp -implicitDefEqProofs [go_sem, hkl]; (repeat refine And.intro (by first | decide +kernel | omega | kernel_rfl) ?_); (try decide +kernel)
    exact ⟨k + 1, by omega, by omega, by omega, by omega, hsn⟩
  · obtain rfl : k = c.length := by omega
    rw [take_all hL0l]
    simp -implicitDefEqProofs [go_sem]; (repeat refine And.intro (by first | decide +kernel | omega | kernel_rfl) ?_); (try decide +kernel)
theorem all14_p (n : Nat) (hn : n < 1000000) : PCall Tryz.prog 76 [.d (.sl (ies (List.replicate n 0)))] (.one (.d (.v (.bool true)))) := by
  have hl : (List.replicate n (0 : Int)).length = n := List.length_replicate
  refine pcall_of hmo Tryz.func76 rfl (by kernel_rfl) (by simp [Tryz.ntmps76]) ?_; simp -implicitDefEqProofs [go_sem, Tryz.ntmps76]; (repeat refine And.intro (by first | decide +kernel | omega | kernel_rfl) ?_); (try decide +kernel)
  refine loop_rule [] (fun (k : Nat) => ⟨15, [(2, .d (.v (.bool false))), (5, .d (.sl (ies (List.replicate n 0)))), (6, intP .i64 (n : Int)), (7, intP .i64 (k : Int))], [], 1000⟩)
    (fun k => k ≤ n) (fun k => n - k) 0 (Nat.zero_le _) (by simp) (by simp -implicitDefEqProofs [go_sem, hl]) (fun k hk => ?_)
  by_cases hkl : k < n
  · simp -implicitDefEqProofs [go_sem, hkl, hl]; (repeat refine And.intro (by first | decide +kernel | omega | kernel_rfl) ?_); (try decide +kernel)
    refine .inl ⟨_, num14_p 0, ?_⟩; simp -implicitDefEqProofs [go_sem, hkl, hl]; (repeat refine And.intro (by first | decide +kernel | omega | kernel_rfl) ?_); (try decide +kernel)
    exact ⟨k + 1, by omega, by omega, by omega⟩
  · obtain rfl : k = n := by omega
    simp -implicitDefEqProofs [go_sem]; (repeat refine And.intro (by first | decide +kernel | omega | kernel_rfl) ?_); (try decide +kernel)
end Go.Mt
/-
  A part of the proof.
-/
set_option linter.unusedSimpArgs false
set_option linter.unusedVariables false
namespace Go.Mt
open Go Go.Pm Go.Proofs
/-- rows of whole numbers, as they are given -/
def irel (r : List Int) : List D := [.sl (ies r)]
def iws (rows : List (List Int)) : List (List D) := rows.map irel
attribute [go_sem] irel
@[go_sem] theorem iws_len (l : List (List Int)) : (iws l).length = l.length := by simp [iws]
@[go_sem] theorem iws_ge {l : List (List Int)} {i : Nat} (h : i < (iws l).length) : (iws l)[i] = irel (l[i]'(by rw [iws_len] at h; exact h)) := by simp [iws]
/-- the matrix that they say -/
def iM (rows : List (List Int)) : MR := (nrm 1, rows.map fun r => r.map nrm)
set_option maxRecDepth 100000 in
set_option maxHeartbeats 1000000 in
theorem table14_p (rows : List (List Int)) (hb : ∀ r ∈ rows, ∀ z ∈ r, -9223372036854775808 ≤ z ∧ z ≤ 9223372036854775807) (hn : rows.length < 1000000) (hw : ∀ r ∈ rows, r.length < 1000000) :
    PCall Tryz.prog 155 [.d (.sl (iws rows))] (.one (.d (md (iM rows)))) := by
  obtain ⟨R, hR⟩ : ∃ R : List (List ZR), R = rows.map fun r => r.map nrm := ⟨_, rfl⟩
  have hRl : R.length = rows.length := by rw [hR, List.length_map]
  have e : iM rows = (nrm 1, R) := by rw [hR]; rfl
  rw [e]
  refine pcall_of hmo Tryz.func155 rfl (by kernel_rfl) (by simp [Tryz.ntmps155]) ?_; simp -implicitDefEqProofs [go_sem, Tryz.ntmps155]; (repeat refine And.intro (by first | decide +kernel | omega | kernel_rfl) ?_); (try decide +kernel)
  refine .inl ⟨_, of3_1, ?_⟩; simp -implicitDefEqProofs [go_sem]; (repeat refine And.intro (by first | decide +kernel | omega | kernel_rfl) ?_); (try decide +kernel)
  refine loop_rule [.arrB 12 2 30 1] (fun (i : Nat) => ⟨37, [(2, .pr 0 0 0 0), (3, .pr 12 0 0 0), (11, .d (.sl (iws rows))), (12, intP .i64 (rows.length : Int)), (13, intP .i64 (i : Int))],
      [(12, .box [.d (.v (.bool (nrm 1).1)), .d (.sl (les (nrm 1).2)), .sr 32 i]), (32, .arr ⟨30, 1, i, false, rws (R.take i)⟩), (0, .box [.d (.v (.bool false)), .nl, .nl])], 1000⟩)
    (fun i => i ≤ rows.length) (fun i => rows.length - i) 0 (Nat.zero_le _) (by simp) (by simp -implicitDefEqProofs [go_sem, rws]) (fun i hi => ?_)
  by_cases hil : i < rows.length
  · have hrl := hw _ (List.getElem_mem hil)
    have hRi : R[i]'(by omega) = rows[i].map nrm := by subst hR; simp
    have hbi := hb _ (List.getElem_mem hil)
    have hsn := take_snoc (e := [.sl (zes (rows[i].map nrm))]) rel R (k := i) (by omega) (by rw [hRi]; rfl)
    obtain ⟨r, hr⟩ : ∃ r, r = rows[i] := ⟨_, rfl⟩
    rw [← hr] at hrl hbi hsn
    have hr2 : rows[i] = r := hr.symm
    clear hr
    simp -implicitDefEqProofs [go_sem, hil, hr2]; (repeat refine And.intro (by first | decide +kernel | omega | kernel_rfl) ?_); (try decide +kernel)
    refine loop_rule [.arr 6 25 2] (fun (k : Nat) => ⟨37, [(2, .pr 0 0 0 0), (3, .pr 12 0 0 0), (6, .sr 1032 k), (11, .d (.sl (iws rows))), (12, intP .i64 (rows.length : Int)), (13, intP .i64 (i : Int)), (17, .d (.sl (ies r))), (18, intP .i64 (r.length : Int)), (19, intP .i64 (k : Int))],
        [(1032, .arr ⟨25, 2, k, false, zes ((r.map nrm).take k)⟩), (12, .box [.d (.v (.bool (nrm 1).1)), .d (.sl (les (nrm 1).2)), .sr 32 i]), (32, .arr ⟨30, 1, i, false, rws (R.take i)⟩), (0, .box [.d (.v (.bool false)), .nl, .nl])], 2000⟩)
      (fun k => k ≤ r.length) (fun k => r.length - k) 0 (Nat.zero_le _) (by simp) (by simp -implicitDefEqProofs [go_sem, zes]) (fun k hk => ?_)
    by_cases hkl : k < r.length
    · obtain ⟨h1, h2⟩ := hbi _ (List.getElem_mem hkl)
      have hof := of3_p r[k] h1 h2
      have hsk := take_snoc (e := zel (nrm r[k])) zel (r.map nrm) (k := k) (by rw [List.length_map]; exact hkl) (by rw [List.getElem_map])
      simp -implicitDefEqProofs [go_sem, hkl]; (repeat refine And.intro (by first | decide +kernel | omega | kernel_rfl) ?_); (try decide +kernel)
      refine .inl ⟨_, hof, ?_⟩; simp -implicitDefEqProofs [go_sem, hkl]; (repeat refine And.intro (by first | decide +kernel | omega | kernel_rfl) ?_); (try decide +kernel)
      refine ⟨k + 1, ?_⟩; (repeat' apply And.intro) <;> first | omega | (exact hsk) | assumption | rfl
    · obtain rfl : k = r.length := by omega
      rw [take_all (show (r.map nrm).length = r.length by simp)]
      simp -implicitDefEqProofs [go_sem]; (repeat refine And.intro (by first | decide +kernel | omega | kernel_rfl) ?_); (try decide +kernel)
      refine ⟨i + 1, ?_⟩; (repeat' apply And.intro) <;> first | omega | (exact hsn) | assumption | rfl
  · obtain rfl : i = rows.length := by omega
    rw [take_all hRl]
    simp -implicitDefEqProofs [go_sem]; (repeat refine And.intro (by first | decide +kernel | omega | kernel_rfl) ?_); (try decide +kernel)
/-- is it 0, as it is written? -/
def isN (z : ZR) : Bool := decide (z.2.length = 0)
theorem isN_t {z : ZR} (h : z.2.length = 0) : isN z = true := decide_eq_true h
theorem isN_f {z : ZR} (h : z.2.length ≠ 0) : isN z = false := decide_eq_false h
theorem noughts_p (l : List ZR) (hn : l.length < 549755813888) (hl : ∀ z ∈ l, z.2.length < 1099511627776) : PCall Tryz.prog 170 [.d (.sl (zes l))] (.one (.d (.v (.bool (l.all isN))))) := by
  refine pcall_of hmo Tryz.func170 rfl (by kernel_rfl) (by simp [Tryz.ntmps170]) ?_; simp -implicitDefEqProofs [go_sem, Tryz.ntmps170]; (repeat refine And.intro (by first | decide +kernel | omega | kernel_rfl) ?_); (try decide +kernel)
  refine loop_rule [] (fun (k : Nat) => ⟨16, [(2, .d (.v (.bool false))), (5, .d (.sl (zes l))), (6, intP .i64 (l.length : Int)), (7, intP .i64 (k : Int))], [], 1000⟩)
    (fun k => k ≤ l.length ∧ allK isN l k) (fun k => l.length - k) 0 ⟨Nat.zero_le _, allK_zero _ _⟩ (by simp) (by simp -implicitDefEqProofs [go_sem]) (fun k ⟨hk, ha⟩ => ?_)
  by_cases hkl : k < l.length
  · have hlk := hl _ (List.getElem_mem hkl)
    by_cases h0 : l[k].2.length = 0
    · have hz : ¬ (0 : Int) < ((l[k].2.length : Nat) : Int) := by omega
      simp -implicitDefEqProofs [go_sem, hkl, hz, h0]; (repeat refine And.intro (by first | decide +kernel | omega | kernel_rfl) ?_); (try decide +kernel)
      exact ⟨k + 1, ⟨by omega, allK_succ hkl ha (isN_t h0)⟩, by omega, by omega⟩
    · have hz : 0 < l[k].2.length := by omega
      have e : l.all isN = false := by
        rw [List.all_eq_false]; exact ⟨l[k], List.getElem_mem hkl, by rw [isN_f h0]; decide⟩
      rw [e]
      simp -implicitDefEqProofs [go_sem, hkl, hz, h0]; (repeat refine And.intro (by first | decide +kernel | omega | kernel_rfl) ?_); (try decide +kernel)
  · obtain rfl : k = l.length := by omega
    have e : l.all isN = true := allK_all ha
    rw [e]
    simp -implicitDefEqProofs [go_sem]; (repeat refine And.intro (by first | decide +kernel | omega | kernel_rfl) ?_); (try decide +kernel)
/-- are all these rows 0? -/
def isR (r : List ZR) : Bool := r.all isN
set_option maxRecDepth 100000 in
set_option maxHeartbeats 1000000 in
theorem Kills_p (l : List QR) (m : MR) (hl : Ip l) (hm : Im m) :
    PCall Tryz.prog 154 [.d (.sl (qes l)), .d (md m)] (.tup [.d (.v (.bool (if fitsE l m = 0 then (nm (atQ l m)).2.all isR else false))), .d (.v (.int .i64 (fitsE l m)))]) := by
  have ha := At_p l m hl hm
  by_cases h0 : fitsE l m = 0
  · rw [h0, if_pos rfl] at ha ⊢
    have hs := at_sq hl hm h0
    have hg := hs.g.g
    have hz : ∀ r ∈ (nm (atQ l m)).2, ∀ z ∈ r, z.2.length < 1099511627776 := fun r hr z hz => by
      have := (gl_nm hs.g (by decide)).lz r hr z hz; omega
    have hw := hg.nc
    have hn := hg.nr
    generalize nm (atQ l m) = M at *
    obtain ⟨D, rows⟩ := M
    have hz : ∀ r ∈ rows, ∀ z ∈ r, z.2.length < 1099511627776 := hz
    have hw : ∀ r ∈ rows, r.length < 549755813888 := hw
    have hn : rows.length < 549755813888 := hn
    refine pcall_of hmo Tryz.func154 rfl (by kernel_rfl) (by simp [Tryz.ntmps154]) ?_; simp -implicitDefEqProofs [go_sem, Tryz.ntmps154]; (repeat refine And.intro (by first | decide +kernel | omega | kernel_rfl) ?_); (try decide +kernel)
    refine .inl ⟨_, ha, ?_⟩; simp -implicitDefEqProofs [go_sem]; (repeat refine And.intro (by first | decide +kernel | omega | kernel_rfl) ?_); (try decide +kernel)
    refine loop_rule [] (fun (k : Nat) => ⟨30, [(3, .pr 0 0 0 0), (4, .d (.v (.bool false))), (5, intP .i64 0), (20, .d (.sl (rws rows))), (21, intP .i64 (rows.length : Int)), (22, intP .i64 (k : Int))], [], 1000⟩)
      (fun k => k ≤ rows.length ∧ allK isR rows k) (fun k => rows.length - k) 0 ⟨Nat.zero_le _, allK_zero _ _⟩ (by simp) (by simp -implicitDefEqProofs [go_sem]) (fun k ⟨hk, ha⟩ => ?_)
    by_cases hkl : k < rows.length
    · have hno := noughts_p rows[k] (hw _ (List.getElem_mem hkl)) (hz _ (List.getElem_mem hkl))
      cases h1 : rows[k].all isN with
      | true =>
        rw [h1] at hno
        simp -implicitDefEqProofs [go_sem, hkl]; (repeat refine And.intro (by first | decide +kernel | omega | kernel_rfl) ?_); (try decide +kernel)
        refine .inl ⟨_, hno, ?_⟩; simp -implicitDefEqProofs [go_sem, hkl]; (repeat refine And.intro (by first | decide +kernel | omega | kernel_rfl) ?_); (try decide +kernel)
        exact ⟨k + 1, ⟨by omega, allK_succ hkl ha h1⟩, by omega, by omega⟩
      | false =>
        rw [h1] at hno
        have e : rows.all isR = false := by
          rw [List.all_eq_false]; exact ⟨rows[k], List.getElem_mem hkl, by unfold isR; rw [h1]; decide⟩
        rw [e]
        simp -implicitDefEqProofs [go_sem, hkl]; (repeat refine And.intro (by first | decide +kernel | omega | kernel_rfl) ?_); (try decide +kernel)
        refine .inl ⟨_, hno, ?_⟩; simp -implicitDefEqProofs [go_sem, hkl]; (repeat refine And.intro (by first | decide +kernel | omega | kernel_rfl) ?_); (try decide +kernel)
    · obtain rfl : k = rows.length := by omega
      have e : rows.all isR = true := allK_all ha
      rw [e]
      simp -implicitDefEqProofs [go_sem]; (repeat refine And.intro (by first | decide +kernel | omega | kernel_rfl) ?_); (try decide +kernel)
  · rw [if_neg h0] at ha ⊢
    generalize fitsE l m = E at *
    refine pcall_of hmo Tryz.func154 rfl (by kernel_rfl) (by simp [Tryz.ntmps154]) ?_; simp -implicitDefEqProofs [go_sem, Tryz.ntmps154]; (repeat refine And.intro (by first | decide +kernel | omega | kernel_rfl) ?_); (try decide +kernel)
    refine .inl ⟨_, ha, ?_⟩; simp -implicitDefEqProofs [go_sem, h0]; (repeat refine And.intro (by first | decide +kernel | omega | kernel_rfl) ?_); (try decide +kernel)
theorem poly14_d (c : List Int) (hc : ∀ z ∈ c, -9223372036854775808 ≤ z ∧ z ≤ 9223372036854775807) (hn : c.length < 549755813888) :
    PCall Tryz.prog 75 [.d (.sl (ies c))] (.one (.d (.sl (qes (c.map fun z : Int => nq (z : Rat)))))) := (poly14_p c hc hn).so_d
def awP : List QR := [nq (-1), nq 0, nq 1]
def awM : MR := iM [[0, 1], [1, 0]]
def awA : MR := iM [[0, 1], [0, 0]]
def awB : MR := iM [[0, 0], [1, 0]]
def awC : MR := iM [[1, 0], [0, -1]]
theorem flat_w {α : Type} {V : List (List α)} {w : Nat} (h : ∀ r ∈ V, r.length ≤ w) : V.flatten.length ≤ V.length * w := by
  induction V with
  | nil => simp
  | cons r V ih =>
    have h1 := h r List.mem_cons_self
    have h2 := ih fun x hx => h x (List.mem_cons_of_mem _ hx)
    rw [List.flatten_cons, List.length_append, List.length_cons, Nat.succ_mul]
    omega
theorem iM_im (rows : List (List Int)) (hb : ∀ r ∈ rows, ∀ z ∈ r, zl z < 1000) (hn : rows.length < 1000) (hw : ∀ r ∈ rows, r.length < 1000) : Im (iM rows) := by
  have hz : ∀ r ∈ (iM rows).2, ∀ z ∈ r, Rz z ∧ z.2.length < 1048577 := fun r hr z hz => by
    obtain ⟨r0, h1, rfl⟩ := List.mem_map.1 hr
    obtain ⟨x, h2, rfl⟩ := List.mem_map.1 hz
    have := hb r0 h1 x h2
    exact ⟨rz (by omega), by rw [rz_len]; omega⟩
  have hw2 : ∀ r ∈ (iM rows).2, r.length ≤ 1000 := fun r hr => by
    obtain ⟨r0, h1, rfl⟩ := List.mem_map.1 hr
    have := hw r0 h1
    rw [List.length_map]; omega
  have hn2 : (iM rows).2.length = rows.length := by show (rows.map _).length = _; rw [List.length_map]
  have hfl := flat_w hw2
  refine ⟨rz (by decide), by show (nrm 1).2.length < _; rw [rz_len]; decide, hz, by omega, fun r hr => by have := hw2 r hr; omega, ?_⟩
  have : (iM rows).2.length * 1000 ≤ 1000 * 1000 := Nat.mul_le_mul_right _ (by omega)
  omega
theorem aw_p : Ip awP := ⟨fun x hx => by
  have h : ∀ q : Rat, ql q < 1000 → Rq (nq q) ∧ (nq q).1.2.length < 1048577 ∧ (nq q).2.2.length < 1048577 := fun q hq => by
    have := ql_num q
    have := ql_den q
    exact ⟨(Lq.n (by omega)).rq, by show (nrm _).2.length < _; rw [rz_len]; omega, by show (nrm _).2.length < _; rw [rz_len]; omega⟩
  simp only [awP, List.mem_cons, List.not_mem_nil, or_false] at hx
  rcases hx with rfl | rfl | rfl
  · exact h _ (by decide +kernel)
  · exact h _ (by decide +kernel)
  · exact h _ (by decide +kernel), by decide⟩
theorem aw_e : fitsE awP awM = 0 := by decide +kernel
theorem aw_k : (nm (atQ awP awM)).2.all isR = true := by decide +kernel
theorem aw_b : brE awA awB = 0 := by decide +kernel
theorem aw_c : nm (bracketQ (valM awA) (valM awB) awA.2.length) = awC := by decide +kernel
theorem aw_im : Im awM ∧ Im awA ∧ Im awB := ⟨iM_im _ (by decide +kernel) (by decide) (by decide), iM_im _ (by decide +kernel) (by decide) (by decide), iM_im _ (by decide +kernel) (by decide) (by decide)⟩
set_option maxRecDepth 100000 in
set_option maxHeartbeats 1000000 in
theorem awake14_p : PCall Tryz.prog 69 [] (.one (.d (.v (.bool true)))) := by
  obtain ⟨i1, i2, i3⟩ := aw_im
  have hp := poly14_d [-1, 0, 1] (by decide) (by decide)
  have t1 := table14_p [[0, 1], [1, 0]] (by decide) (by decide) (by decide)
  have t2 := table14_p [[0, 1], [0, 0]] (by decide) (by decide) (by decide)
  have t3 := table14_p [[0, 0], [1, 0]] (by decide) (by decide) (by decide)
  have t4 := table14_p [[1, 0], [0, -1]] (by decide) (by decide) (by decide)
  have hk := Kills_p awP awM aw_p i1
  rw [aw_e, aw_k] at hk
  have hb := bracket_x awA awB i2.d i2.g i2.gm (by have := i2.vfl; omega) i3.d i3.g i3.gm (by have := i3.vfl; omega) (by decide)
  rw [aw_b, if_pos rfl, aw_c] at hb
  have i4 : Im awC := iM_im _ (by decide +kernel) (by decide) (by decide)
  have hd : Lz awC.1 := by have := i4.ld; unfold Lz; omega
  have hz : ∀ r ∈ awC.2, ∀ z ∈ r, Lz z := fun r hr z hz => by have := (i4.z r hr z hz).2; unfold Lz; omega
  have hs := same11_p awC awC hd hd hz hz (by decide +kernel) (by decide +kernel) (by decide) (by decide)
  rw [decide_eq_true rfl] at hs
  have hn := num14_p 0
  refine pcall_of hmo Tryz.func69 rfl (by kernel_rfl) (by simp [Tryz.ntmps69]) ?_; simp -implicitDefEqProofs [go_sem, Tryz.ntmps69]; (repeat refine And.intro (by first | decide +kernel | omega | kernel_rfl) ?_); (try decide +kernel)
  refine .inl ⟨_, hp, ?_⟩; simp -implicitDefEqProofs [go_sem]; (repeat refine And.intro (by first | decide +kernel | omega | kernel_rfl) ?_); (try decide +kernel)
  refine .inl ⟨_, t1, ?_⟩; simp -implicitDefEqProofs [go_sem]; (repeat refine And.intro (by first | decide +kernel | omega | kernel_rfl) ?_); (try decide +kernel)
  refine .inl ⟨_, hk, ?_⟩; simp -implicitDefEqProofs [go_sem]; (repeat refine And.intro (by first | decide +kernel | omega | kernel_rfl) ?_); (try decide +kernel)
  refine .inl ⟨_, t2, ?_⟩; simp -implicitDefEqProofs [go_sem]; (repeat refine And.intro (by first | decide +kernel | omega | kernel_rfl) ?_); (try decide +kernel)
  refine .inl ⟨_, t3, ?_⟩; simp -implicitDefEqProofs [go_sem]; (repeat refine And.intro (by first | decide +kernel | omega | kernel_rfl) ?_); (try decide +kernel)
  refine .inl ⟨_, hb, ?_⟩; simp -implicitDefEqProofs [go_sem]; (repeat refine And.intro (by first | decide +kernel | omega | kernel_rfl) ?_); (try decide +kernel)
  refine .inl ⟨_, hn, ?_⟩; simp -implicitDefEqProofs [go_sem]; (repeat refine And.intro (by first | decide +kernel | omega | kernel_rfl) ?_); (try decide +kernel)
  refine .inl ⟨_, hn, ?_⟩; simp -implicitDefEqProofs [go_sem]; (repeat refine And.intro (by first | decide +kernel | omega | kernel_rfl) ?_); (try decide +kernel)
  refine .inl ⟨_, t4, ?_⟩; simp -implicitDefEqProofs [go_sem]; (repeat refine And.intro (by first | decide +kernel | omega | kernel_rfl) ?_); (try decide +kernel)
  refine .inl ⟨_, hs, ?_⟩; simp -implicitDefEqProofs [go_sem]; (repeat refine And.intro (by first | decide +kernel | omega | kernel_rfl) ?_); (try decide +kernel)
end Go.Mt
