/-
  A part of the proof.
-/
import Derived.Test.YtmhclkagdpbadaaGreatEon46
import Derived.Test.YtmhclkagdpbadaaGreatEon48
import Derived.Test.YtmhclkagdpbadaaGreatEon40
import Derived.Test.YtmhclkagdpbadaaGreatEon36
set_option linter.unusedVariables false
set_option linter.unusedSimpArgs false
set_option linter.unusedSimpArgs false
set_option linter.unusedVariables false
namespace Go.Mt
open Go Go.Pm Go.Proofs
def qg (l : List QR) (i : Nat) : QR := (l[i]?).getD (nq 0)
end Go.Mt
/-
  A part of the proof.
-/
set_option linter.unusedSimpArgs false
set_option linter.unusedVariables false
namespace Go.Mt
open Go Go.Pm Go.Proofs
def cf (V : List Rat) (t : Nat) : Rat := (V[t]?).getD 0
theorem cf_nil (t : Nat) : cf [] t = 0 := by simp [cf]
theorem cf_ge {V : List Rat} {t : Nat} (h : V.length ≤ t) : cf V t = 0 := by unfold cf; rw [List.getElem?_eq_none h]; rfl
theorem cf_mem {V : List Rat} {t : Nat} (h : t < V.length) : cf V t = V[t] := by unfold cf; rw [List.getElem?_eq_getElem h]; rfl
theorem trN_zero (qs : List Rat) (n t : Nat) (h1 : trN qs n ≤ t) (h2 : t < n) : cf qs t = 0 := by
  induction n with
  | zero => omega
  | succ n ih =>
    unfold trN at h1
    by_cases h0 : (qs[n]?).getD 0 = 0
    · rw [if_pos h0] at h1
      by_cases ht : t = n
      · subst ht; exact h0
      · exact ih h1 (by omega)
    · rw [if_neg h0] at h1; omega
theorem cf_trim (V : List Rat) (t : Nat) : cf (trimQ V) t = cf V t := by
  by_cases h : t < trN V V.length
  · unfold cf trimQ; rw [List.getElem?_take_of_lt h]
  · rw [cf_ge (by rw [trimQ_len]; omega)]
    by_cases h2 : t < V.length
    · exact (trN_zero V V.length t (by omega) h2).symm
    · exact (cf_ge (by omega)).symm
theorem cf_map (l : List QR) (t : Nat) : cf (l.map ofQ) t = ofQ (qg l t) := by
  unfold cf qg
  rw [List.getElem?_map]
  cases l[t]? with
  | none => exact (ofQ_nq 0).symm
  | some x => rfl
end Go.Mt
/-
  A part of the proof.
-/
set_option linter.unusedSimpArgs false
set_option linter.unusedVariables false
namespace Go.Mt
open Go Go.Pm Go.Proofs
theorem Ip.qg {l : List QR} (h : Ip l) (ha : l.all mayQ = true) (i : Nat) : ql (ofQ (qg l i)) ≤ 1048577 := by
  unfold Go.Mt.qg
  cases hi : l[i]? with
  | none => show ql (ofQ (nq 0)) ≤ _; rw [ofQ_nq]; decide
  | some x =>
    have hx := List.mem_of_getElem? hi
    have h0 := (h.lq ha x hx).gq
    obtain ⟨h1, h2, h3⟩ := h.q x hx
    have : gq x ≤ 1048577 := by unfold gq; omega
    show ql (ofQ x) ≤ _
    omega
end Go.Mt
/-
  A part of the proof.
-/
set_option linter.unusedSimpArgs false
set_option linter.unusedVariables false
namespace Go.Mt
open Go Go.Pm Go.Proofs
theorem sumN_add (n : Nat) (f g : Nat → Rat) : sumN n (fun j => f j + g j) = sumN n f + sumN n g := by
  induction n with
  | zero => show (0 : Rat) = 0 + 0; rw [Rat.add_zero]
  | succ n ih => show sumN n (fun j => f j + g j) + (f n + g n) = (sumN n f + f n) + (sumN n g + g n); rw [ih]; grind
theorem sumN_nought (n : Nat) (f : Nat → Rat) (h : ∀ j, j < n → f j = 0) : sumN n f = 0 := by
  induction n with
  | zero => rfl
  | succ n ih => show sumN n f + f n = 0; rw [ih (fun j hj => h j (by omega)), h n (by omega), Rat.add_zero]
theorem sumN_scaler (n : Nat) (c : Rat) (f : Nat → Rat) : sumN n (fun j => f j * c) = sumN n f * c := by
  rw [Rat.mul_comm (sumN n f) c, ← sumN_scale]
  exact sumN_congr fun j _ => Rat.mul_comm _ _
theorem sumN_swap (n m : Nat) (f : Nat → Nat → Rat) : sumN n (fun i => sumN m fun j => f i j) = sumN m fun j => sumN n fun i => f i j := by
  induction n with
  | zero => exact (sumN_nought m _ fun _ _ => rfl).symm
  | succ n ih =>
    show sumN n (fun i => sumN m fun j => f i j) + sumN m (fun j => f n j) = _
    rw [ih, ← sumN_add]
    rfl
theorem sumN_one (n k : Nat) (f : Nat → Rat) (hk : k < n) : sumN n (fun j => f j * if j = k then 1 else 0) = f k := by
  induction n with
  | zero => omega
  | succ n ih =>
    show sumN n (fun j => f j * if j = k then 1 else 0) + (f n * if n = k then 1 else 0) = f k
    by_cases h : n = k
    · rw [if_pos h, sumN_nought n _ (fun j hj => by rw [if_neg (by omega), Rat.mul_zero]), h, Rat.zero_add, Rat.mul_one]
    · rw [if_neg h, ih (by omega), Rat.mul_zero, Rat.add_zero]
theorem sumN_onel (n i : Nat) (f : Nat → Rat) (hi : i < n) : sumN n (fun j => (if i = j then 1 else 0) * f j) = f i := by
  rw [← sumN_one n i f hi]
  refine sumN_congr fun j _ => ?_
  rw [Rat.mul_comm]
  by_cases h : i = j
  · rw [if_pos h, if_pos h.symm]
  · rw [if_neg h, if_neg (fun e => h e.symm)]
/-- the powers' entries -/
def pwE (A : List (List Rat)) (n : Nat) : Nat → Nat → Nat → Rat
  | 0, i, k => if i = k then 1 else 0
  | t + 1, i, k => sumN n fun j => pwE A n t i j * entQ A j k
theorem pwE_add (A : List (List Rat)) (n s t : Nat) {i k : Nat} (hk : k < n) : pwE A n (s + t) i k = sumN n fun j => pwE A n s i j * pwE A n t j k := by
  induction t generalizing k with
  | zero => exact (sumN_one n k _ hk).symm
  | succ t ih =>
    show sumN n (fun j => pwE A n (s + t) i j * entQ A j k) = _
    rw [sumN_congr fun j hj => by rw [ih hj, ← sumN_scaler], sumN_swap]
    refine sumN_congr fun h _ => ?_
    show _ = pwE A n s i h * sumN n fun j => pwE A n t h j * entQ A j k
    rw [← sumN_scale]
    exact sumN_congr fun j _ => Rat.mul_assoc _ _ _
/-- a polynomial's value's entries -/
def poE (A : List (List Rat)) (n : Nat) (c : Nat → Rat) (N i k : Nat) : Rat := sumN N fun t => c t * pwE A n t i k
theorem ho_ent (A : List (List Rat)) (n : Nat) (l : List Rat) {i k : Nat} (hi : i < n) (hk : k < n) (N : Nat) (hN : l.length ≤ N) : entQ (hoQ A n l) i k = poE A n (cf l) N i k := by
  induction l generalizing N k with
  | nil =>
    show entQ (tabQ _ n n) i k = _
    rw [entQ_tabQ _ _ _ _ _ hi hk]
    exact (sumN_nought _ _ fun t _ => by rw [cf_nil, Rat.zero_mul]).symm
  | cons c cs ih =>
    obtain ⟨M, rfl⟩ : ∃ M, N = M + 1 := ⟨N - 1, by rw [List.length_cons] at hN; omega⟩
    rw [List.length_cons] at hN
    show entQ (tabQ _ n n) i k = _
    rw [entQ_tabQ _ _ _ _ _ hi hk]
    show entQ (tabQ _ n n) i k + entQ (tabQ _ n n) i k = _
    rw [entQ_tabQ _ _ _ _ _ hi hk, entQ_tabQ _ _ _ _ _ hi hk]
    unfold poE
    rw [sumN_shift]
    have e1 : entQ (identQ n) i k = pwE A n 0 i k := entQ_tabQ _ _ _ _ _ hi hk
    have e2 : sumN n (fun j => entQ (hoQ A n cs) i j * entQ A j k) = sumN M fun t => cf (c :: cs) (t + 1) * pwE A n (t + 1) i k := by
      have e3 : sumN n (fun j => entQ (hoQ A n cs) i j * entQ A j k) = sumN n fun j => sumN M fun t => cf cs t * pwE A n t i j * entQ A j k := sumN_congr fun j hj => by
        rw [ih hj M (by omega)]; exact (sumN_scaler _ _ _).symm
      rw [e3, sumN_swap]
      refine sumN_congr fun t _ => ?_
      show _ = cf cs t * sumN n fun j => pwE A n t i j * entQ A j k
      rw [← sumN_scale]
      exact sumN_congr fun j _ => Rat.mul_assoc _ _ _
    rw [e1, e2]
    show _ = c * pwE A n 0 i k + _
    rw [Rat.add_comm, Rat.mul_comm]
theorem ho_tab (A : List (List Rat)) (n : Nat) (l : List Rat) (N : Nat) (hN : l.length ≤ N) : hoQ A n l = tabQ (poE A n (cf l) N) n n := by
  have e : hoQ A n l = tabQ (entQ (hoQ A n l)) n n := by
    have h := tabQ_ent (hoQ A n l) n (by
      intro r hr
      cases l with
      | nil => exact row_tabQ _ _ _ r hr
      | cons c cs => exact row_tabQ _ _ _ r hr)
    rw [ho_len] at h
    exact h.symm
  rw [e]
  exact tabQ_congr fun i k hi hk => ho_ent A n l hi hk N hN
end Go.Mt
/-
  A part of the proof.
-/
set_option linter.unusedSimpArgs false
set_option linter.unusedVariables false
namespace Go.Mt
open Go Go.Pm Go.Proofs
set_option maxRecDepth 100000 in
theorem poly14_p (c : List Int) (hc : ∀ z ∈ c, -9223372036854775808 ≤ z ∧ z ≤ 9223372036854775807) (hn : c.length < 549755813888) :
    PCall Tryz.prog 75 [.d (.sl (ies c))] (.one (.so 72 4 (qes (c.map fun z : Int => nq (z : Rat))))) := by
  obtain ⟨L0, hL0⟩ : ∃ L0 : List QR, L0 = c.map fun z : Int => nq (z : Rat) := ⟨_, rfl⟩
  have hL0l : L0.length = c.length := by rw [hL0, List.length_map]
  rw [← hL0]
  refine pcall_of hmo Tryz.func75 rfl (by kernel_rfl) (by simp [Tryz.ntmps75]) ?_; simp -implicitDefEqProofs [go_sem, Tryz.ntmps75]; (repeat refine And.intro (by first | decide +kernel | omega | kernel_rfl) ?_); (try decide +kernel)
  refine loop_rule [.arr 3 72 4] (fun (k : Nat) => ⟨19, [(2, .nl), (3, .sr 20 k), (6, .d (.sl (ies c))), (7, intP .i64 (c.length : Int)), (8, intP .i64 (k : Int))],
      [(20, .arr ⟨72, 4, k, false, qes (L0.take k)⟩)], 1000⟩)
    (fun k => k ≤ c.length) (fun k => c.length - k) 0 (Nat.zero_le _) (by simp) (by simp -implicitDefEqProofs [go_sem, qes]) (fun k hk => ?_)
  by_cases hkl : k < c.length
  · obtain ⟨h1, h2⟩ := hc _ (List.getElem_mem hkl)
    have hof := of5_p c[k] h1 h2
    have hsn := take_snoc (e := qel (nq (c[k] : Rat))) qel L0 (k := k) (by omega) (by
      have : L0[k]'(by omega) = nq (c[k] : Rat) := by subst hL0; simp
      rw [this])
    generalize ((c[k] : Int) : Rat) = Q at *
    simp -implicitDefEqProofs [go_sem, hkl]; (repeat refine And.intro (by first | decide +kernel | omega | kernel_rfl) ?_); (try decide +kernel)
    refine .inl ⟨_, hof, ?_⟩; simp -implicitDefEqProofs [go_sem, hkl]; (repeat refine And.intro (by first | decide +kernel | omega | kernel_rfl) ?_); (try decide +kernel)
    exact ⟨k + 1, by omega, by omega, by omega, by omega, hsn⟩
  · obtain rfl : k = c.length := by omega
    rw [take_all hL0l]
    simp -implicitDefEqProofs [go_sem]; (repeat refine And.intro (by first | decide +kernel | omega | kernel_rfl) ?_); (try decide +kernel)
end Go.Mt
/-
  A part of the proof.
-/
set_option linter.unusedSimpArgs false
set_option linter.unusedVariables false
namespace Go.Mt
open Go Go.Pm Go.Proofs
/-- rows of whole numbers, as they are given -/
def irel (r : List Int) : List D := [.sl (ies r)]
def iws (rows : List (List Int)) : List (List D) := rows.map irel
attribute [go_sem] irel
@[go_sem] theorem iws_len (l : List (List Int)) : (iws l).length = l.length := by simp [iws]
@[go_sem] theorem iws_ge {l : List (List Int)} {i : Nat} (h : i < (iws l).length) : (iws l)[i] = irel (l[i]'(by rw [iws_len] at h; exact h)) := by simp [iws]
/-- the matrix that they say -/
def iM (rows : List (List Int)) : MR := (nrm 1, rows.map fun r => r.map nrm)
set_option maxRecDepth 100000 in
set_option maxHeartbeats 1000000 in
theorem table14_p (rows : List (List Int)) (hb : ∀ r ∈ rows, ∀ z ∈ r, -9223372036854775808 ≤ z ∧ z ≤ 9223372036854775807) (hn : rows.length < 1000000) (hw : ∀ r ∈ rows, r.length < 1000000) :
    PCall Tryz.prog 155 [.d (.sl (iws rows))] (.one (.d (md (iM rows)))) := by
  obtain ⟨R, hR⟩ : ∃ R : List (List ZR), R = rows.map fun r => r.map nrm := ⟨_, rfl⟩
  have hRl : R.length = rows.length := by rw [hR, List.length_map]
  have e : iM rows = (nrm 1, R) := by rw [hR]; rfl
  rw [e]
  refine pcall_of hmo Tryz.func155 rfl (by kernel_rfl) (by simp [Tryz.ntmps155]) ?_; simp -implicitDefEqProofs [go_sem, Tryz.ntmps155]; (repeat refine And.intro (by first | decide +kernel | omega | kernel_rfl) ?_); (try decide +kernel)
  refine .inl ⟨_, of3_1, ?_⟩; simp -implicitDefEqProofs [go_sem]; (repeat refine And.intro (by first | decide +kernel | omega | kernel_rfl) ?_); (try decide +kernel)
  refine loop_rule [.arrB 12 2 30 1] (fun (i : Nat) => ⟨37, [(2, .pr 0 0 0 0), (3, .pr 12 0 0 0), (11, .d (.sl (iws rows))), (12, intP .i64 (rows.length : Int)), (13, intP .i64 (i : Int))],
      [(12, .box [.d (.v (.bool (nrm 1).1)), .d (.sl (les (nrm 1).2)), .sr 32 i]), (32, .arr ⟨30, 1, i, false, rws (R.take i)⟩), (0, .box [.d (.v (.bool false)), .nl, .nl])], 1000⟩)
    (fun i => i ≤ rows.length) (fun i => rows.length - i) 0 (Nat.zero_le _) (by simp) (by simp -implicitDefEqProofs [go_sem, rws]) (fun i hi => ?_)
  by_cases hil : i < rows.length
  · have hrl := hw _ (List.getElem_mem hil)
    have hRi : R[i]'(by omega) = rows[i].map nrm := by subst hR; simp
    have hbi := hb _ (List.getElem_mem hil)
    have hsn := take_snoc (e := [.sl (zes (rows[i].map nrm))]) rel R (k := i) (by omega) (by rw [hRi]; rfl)
    obtain ⟨r, hr⟩ : ∃ r, r = rows[i] := ⟨_, rfl⟩
    rw [← hr] at hrl hbi hsn
    have hr2 : rows[i] = r := hr.symm
    clear hr
    simp -implicitDefEqProofs [go_sem, hil, hr2]; (repeat refine And.intro (by first | decide +kernel | omega | kernel_rfl) ?_); (try decide +kernel)
    refine loop_rule [.arr 6 25 2] (fun (k : Nat) => ⟨37, [(2, .pr 0 0 0 0), (3, .pr 12 0 0 0), (6, .sr 1032 k), (11, .d (.sl (iws rows))), (12, intP .i64 (rows.length : Int)), (13, intP .i64 (i : Int)), (17, .d (.sl (ies r))), (18, intP .i64 (r.length : Int)), (19, intP .i64 (k : Int))],
        [(1032, .arr ⟨25, 2, k, false, zes ((r.map nrm).take k)⟩), (12, .box [.d (.v (.bool (nrm 1).1)), .d (.sl (les (nrm 1).2)), .sr 32 i]), (32, .arr ⟨30, 1, i, false, rws (R.take i)⟩), (0, .box [.d (.v (.bool false)), .nl, .nl])], 2000⟩)
      (fun k => k ≤ r.length) (fun k => r.length - k) 0 (Nat.zero_le _) (by simp) (by simp -implicitDefEqProofs [go_sem, zes]) (fun k hk => ?_)
    by_cases hkl : k < r.length
    · obtain ⟨h1, h2⟩ := hbi _ (List.getElem_mem hkl)
      have hof := of3_p r[k] h1 h2
      have hsk := take_snoc (e := zel (nrm r[k])) zel (r.map nrm) (k := k) (by rw [List.length_map]; exact hkl) (by rw [List.getElem_map])
      simp -implicitDefEqProofs [go_sem, hkl]; (repeat refine And.intro (by first | decide +kernel | omega | kernel_rfl) ?_); (try decide +kernel)
      refine .inl ⟨_, hof, ?_⟩; simp -implicitDefEqProofs [go_sem, hkl]; (repeat refine And.intro (by first | decide +kernel | omega | kernel_rfl) ?_); (try decide +kernel)
      refine ⟨k + 1, ?_⟩; (repeat' apply And.intro) <;> first | omega | (exact hsk) | assumption | rfl
    · obtain rfl : k = r.length := by omega
      rw [take_all (show (r.map nrm).length = r.length by simp)]
      simp -implicitDefEqProofs [go_sem]; (repeat refine And.intro (by first | decide +kernel | omega | kernel_rfl) ?_); (try decide +kernel)
      refine ⟨i + 1, ?_⟩; (repeat' apply And.intro) <;> first | omega | (exact hsn) | assumption | rfl
  · obtain rfl : i = rows.length := by omega
    rw [take_all hRl]
    simp -implicitDefEqProofs [go_sem]; (repeat refine And.intro (by first | decide +kernel | omega | kernel_rfl) ?_); (try decide +kernel)
/-- is it 0, as it is written? -/
def isN (z : ZR) : Bool := decide (z.2.length = 0)
theorem isN_t {z : ZR} (h : z.2.length = 0) : isN z = true := decide_eq_true h
theorem isN_f {z : ZR} (h : z.2.length ≠ 0) : isN z = false := decide_eq_false h
theorem noughts_p (l : List ZR) (hn : l.length < 549755813888) (hl : ∀ z ∈ l, z.2.length < 1099511627776) : PCall Tryz.prog 170 [.d (.sl (zes l))] (.one (.d (.v (.bool (l.all isN))))) := by
  refine pcall_of hmo Tryz.func170 rfl (by kernel_rfl) (by simp [Tryz.ntmps170]) ?_; simp -implicitDefEqProofs [go_sem, Tryz.ntmps170]; (repeat refine And.intro (by first | decide +kernel | omega | kernel_rfl) ?_); (try decide +kernel)
  refine loop_rule [] (fun (k : Nat) => ⟨16, [(2, .d (.v (.bool false))), (5, .d (.sl (zes l))), (6, intP .i64 (l.length : Int)), (7, intP .i64 (k : Int))], [], 1000⟩)
    (fun k => k ≤ l.length ∧ allK isN l k) (fun k => l.length - k) 0 ⟨Nat.zero_le _, allK_zero _ _⟩ (by simp) (by simp -implicitDefEqProofs [go_sem]) (fun k ⟨hk, ha⟩ => ?_)
  by_cases hkl : k < l.length
  · have hlk := hl _ (List.getElem_mem hkl)
    by_cases h0 : l[k].2.length = 0
    · have hz : ¬ (0 : Int) < ((l[k].2.length : Nat) : Int) := by omega
      simp -implicitDefEqProofs [go_sem, hkl, hz, h0]; (repeat refine And.intro (by first | decide +kernel | omega | kernel_rfl) ?_); (try decide +kernel)
      exact ⟨k + 1, ⟨by omega, allK_succ hkl ha (isN_t h0)⟩, by omega, by omega⟩
    · have hz : 0 < l[k].2.length := by omega
      have e : l.all isN = false := by
        rw [List.all_eq_false]; exact ⟨l[k], List.getElem_mem hkl, by rw [isN_f h0]; decide⟩
      rw [e]
      simp -implicitDefEqProofs [go_sem, hkl, hz, h0]; (repeat refine And.intro (by first | decide +kernel | omega | kernel_rfl) ?_); (try decide +kernel)
  · obtain rfl : k = l.length := by omega
    have e : l.all isN = true := allK_all ha
    rw [e]
    simp -implicitDefEqProofs [go_sem]; (repeat refine And.intro (by first | decide +kernel | omega | kernel_rfl) ?_); (try decide +kernel)
/-- are all these rows 0? -/
def isR (r : List ZR) : Bool := r.all isN
set_option maxRecDepth 100000 in
set_option maxHeartbeats 1000000 in
theorem Kills_p (l : List QR) (m : MR) (hl : Ip l) (hm : Im m) :
    PCall Tryz.prog 154 [.d (.sl (qes l)), .d (md m)] (.tup [.d (.v (.bool (if fitsE l m = 0 then (nm (atQ l m)).2.all isR else false))), .d (.v (.int .i64 (fitsE l m)))]) := by
  have ha := At_p l m hl hm
  by_cases h0 : fitsE l m = 0
  · rw [h0, if_pos rfl] at ha ⊢
    have hs := at_sq hl hm h0
    have hg := hs.g.g
    have hz : ∀ r ∈ (nm (atQ l m)).2, ∀ z ∈ r, z.2.length < 1099511627776 := fun r hr z hz => by
      have := (gl_nm hs.g (by decide)).lz r hr z hz; omega
    have hw := hg.nc
    have hn := hg.nr
    generalize nm (atQ l m) = M at *
    obtain ⟨D, rows⟩ := M
    have hz : ∀ r ∈ rows, ∀ z ∈ r, z.2.length < 1099511627776 := hz
    have hw : ∀ r ∈ rows, r.length < 549755813888 := hw
    have hn : rows.length < 549755813888 := hn
    refine pcall_of hmo Tryz.func154 rfl (by kernel_rfl) (by simp [Tryz.ntmps154]) ?_; simp -implicitDefEqProofs [go_sem, Tryz.ntmps154]; (repeat refine And.intro (by first | decide +kernel | omega | kernel_rfl) ?_); (try decide +kernel)
    refine .inl ⟨_, ha, ?_⟩; simp -implicitDefEqProofs [go_sem]; (repeat refine And.intro (by first | decide +kernel | omega | kernel_rfl) ?_); (try decide +kernel)
    refine loop_rule [] (fun (k : Nat) => ⟨30, [(3, .pr 0 0 0 0), (4, .d (.v (.bool false))), (5, intP .i64 0), (20, .d (.sl (rws rows))), (21, intP .i64 (rows.length : Int)), (22, intP .i64 (k : Int))], [], 1000⟩)
      (fun k => k ≤ rows.length ∧ allK isR rows k) (fun k => rows.length - k) 0 ⟨Nat.zero_le _, allK_zero _ _⟩ (by simp) (by simp -implicitDefEqProofs [go_sem]) (fun k ⟨hk, ha⟩ => ?_)
    by_cases hkl : k < rows.length
    · have hno := noughts_p rows[k] (hw _ (List.getElem_mem hkl)) (hz _ (List.getElem_mem hkl))
      cases h1 : rows[k].all isN with
      | true =>
        rw [h1] at hno
        simp -implicitDefEqProofs [go_sem, hkl]; (repeat refine And.intro (by first | decide +kernel | omega | kernel_rfl) ?_); (try decide +kernel)
        refine .inl ⟨_, hno, ?_⟩; simp -implicitDefEqProofs [go_sem, hkl]; (repeat refine And.intro (by first | decide +kernel | omega | kernel_rfl) ?_); (try decide +kernel)
        exact ⟨k + 1, ⟨by omega, allK_succ hkl ha h1⟩, by omega, by omega⟩
      | false =>
        rw [h1] at hno
        have e : rows.all isR = false := by
          rw [List.all_eq_false]; exact ⟨rows[k], List.getElem_mem hkl, by unfold isR; rw [h1]; decide⟩
        rw [e]
        simp -implicitDefEqProofs [go_sem, hkl]; (repeat refine And.intro (by first | decide +kernel | omega | kernel_rfl) ?_); (try decide +kernel)
        refine .inl ⟨_, hno, ?_⟩; simp -implicitDefEqProofs [go_sem, hkl]; (repeat refine And.intro (by first | decide +kernel | omega | kernel_rfl) ?_); (try decide +kernel)
    · obtain rfl : k = rows.length := by omega
      have e : rows.all isR = true := allK_all ha
      rw [e]
      simp -implicitDefEqProofs [go_sem]; (repeat refine And.intro (by first | decide +kernel | omega | kernel_rfl) ?_); (try decide +kernel)
  · rw [if_neg h0] at ha ⊢
    generalize fitsE l m = E at *
    refine pcall_of hmo Tryz.func154 rfl (by kernel_rfl) (by simp [Tryz.ntmps154]) ?_; simp -implicitDefEqProofs [go_sem, Tryz.ntmps154]; (repeat refine And.intro (by first | decide +kernel | omega | kernel_rfl) ?_); (try decide +kernel)
    refine .inl ⟨_, ha, ?_⟩; simp -implicitDefEqProofs [go_sem, h0]; (repeat refine And.intro (by first | decide +kernel | omega | kernel_rfl) ?_); (try decide +kernel)
theorem poly14_d (c : List Int) (hc : ∀ z ∈ c, -9223372036854775808 ≤ z ∧ z ≤ 9223372036854775807) (hn : c.length < 549755813888) :
    PCall Tryz.prog 75 [.d (.sl (ies c))] (.one (.d (.sl (qes (c.map fun z : Int => nq (z : Rat)))))) := (poly14_p c hc hn).so_d
def awP : List QR := [nq (-1), nq 0, nq 1]
def awM : MR := iM [[0, 1], [1, 0]]
def awA : MR := iM [[0, 1], [0, 0]]
def awB : MR := iM [[0, 0], [1, 0]]
def awC : MR := iM [[1, 0], [0, -1]]
theorem flat_w {α : Type} {V : List (List α)} {w : Nat} (h : ∀ r ∈ V, r.length ≤ w) : V.flatten.length ≤ V.length * w := by
  induction V with
  | nil => simp
  | cons r V ih =>
    have h1 := h r List.mem_cons_self
    have h2 := ih fun x hx => h x (List.mem_cons_of_mem _ hx)
    rw [List.flatten_cons, List.length_append, List.length_cons, Nat.succ_mul]
    omega
theorem iM_im (rows : List (List Int)) (hb : ∀ r ∈ rows, ∀ z ∈ r, zl z < 1000) (hn : rows.length < 1000) (hw : ∀ r ∈ rows, r.length < 1000) : Im (iM rows) := by
  have hz : ∀ r ∈ (iM rows).2, ∀ z ∈ r, Rz z ∧ z.2.length < 1048577 := fun r hr z hz => by
    obtain ⟨r0, h1, rfl⟩ := List.mem_map.1 hr
    obtain ⟨x, h2, rfl⟩ := List.mem_map.1 hz
    have := hb r0 h1 x h2
    exact ⟨rz (by omega), by rw [rz_len]; omega⟩
  have hw2 : ∀ r ∈ (iM rows).2, r.length ≤ 1000 := fun r hr => by
    obtain ⟨r0, h1, rfl⟩ := List.mem_map.1 hr
    have := hw r0 h1
    rw [List.length_map]; omega
  have hn2 : (iM rows).2.length = rows.length := by show (rows.map _).length = _; rw [List.length_map]
  have hfl := flat_w hw2
  refine ⟨rz (by decide), by show (nrm 1).2.length < _; rw [rz_len]; decide, hz, by omega, fun r hr => by have := hw2 r hr; omega, ?_⟩
  have : (iM rows).2.length * 1000 ≤ 1000 * 1000 := Nat.mul_le_mul_right _ (by omega)
  omega
theorem aw_p : Ip awP := ⟨fun x hx => by
  have h : ∀ q : Rat, ql q < 1000 → Rq (nq q) ∧ (nq q).1.2.length < 1048577 ∧ (nq q).2.2.length < 1048577 := fun q hq => by
    have := ql_num q
    have := ql_den q
    exact ⟨(Lq.n (by omega)).rq, by show (nrm _).2.length < _; rw [rz_len]; omega, by show (nrm _).2.length < _; rw [rz_len]; omega⟩
  simp only [awP, List.mem_cons, List.not_mem_nil, or_false] at hx
  rcases hx with rfl | rfl | rfl
  · exact h _ (by decide +kernel)
  · exact h _ (by decide +kernel)
  · exact h _ (by decide +kernel), by decide⟩
theorem aw_e : fitsE awP awM = 0 := by decide +kernel
theorem aw_k : (nm (atQ awP awM)).2.all isR = true := by decide +kernel
theorem aw_b : brE awA awB = 0 := by decide +kernel
theorem aw_c : nm (bracketQ (valM awA) (valM awB) awA.2.length) = awC := by decide +kernel
theorem aw_im : Im awM ∧ Im awA ∧ Im awB := ⟨iM_im _ (by decide +kernel) (by decide) (by decide), iM_im _ (by decide +kernel) (by decide) (by decide), iM_im _ (by decide +kernel) (by decide) (by decide)⟩
set_option maxRecDepth 100000 in
set_option maxHeartbeats 1000000 in
theorem awake14_p : PCall Tryz.prog 69 [] (.one (.d (.v (.bool true)))) := by
  obtain ⟨i1, i2, i3⟩ := aw_im
  have hp := poly14_d [-1, 0, 1] (by decide) (by decide)
  have t1 := table14_p [[0, 1], [1, 0]] (by decide) (by decide) (by decide)
  have t2 := table14_p [[0, 1], [0, 0]] (by decide) (by decide) (by decide)
  have t3 := table14_p [[0, 0], [1, 0]] (by decide) (by decide) (by decide)
  have t4 := table14_p [[1, 0], [0, -1]] (by decide) (by decide) (by decide)
  have hk := Kills_p awP awM aw_p i1
  rw [aw_e, aw_k] at hk
  have hb := bracket_x awA awB i2.d i2.g i2.gm (by have := i2.vfl; omega) i3.d i3.g i3.gm (by have := i3.vfl; omega) (by decide)
  rw [aw_b, if_pos rfl, aw_c] at hb
  have i4 : Im awC := iM_im _ (by decide +kernel) (by decide) (by decide)
  have hd : Lz awC.1 := by have := i4.ld; unfold Lz; omega
  have hz : ∀ r ∈ awC.2, ∀ z ∈ r, Lz z := fun r hr z hz => by have := (i4.z r hr z hz).2; unfold Lz; omega
  have hs := same11_p awC awC hd hd hz hz (by decide +kernel) (by decide +kernel) (by decide) (by decide)
  rw [decide_eq_true rfl] at hs
  have hn := num14_p 0
  refine pcall_of hmo Tryz.func69 rfl (by kernel_rfl) (by simp [Tryz.ntmps69]) ?_; simp -implicitDefEqProofs [go_sem, Tryz.ntmps69]; (repeat refine And.intro (by first | decide +kernel | omega | kernel_rfl) ?_); (try decide +kernel)
  refine .inl ⟨_, hp, ?_⟩; simp -implicitDefEqProofs [go_sem]; (repeat refine And.intro (by first | decide +kernel | omega | kernel_rfl) ?_); (try decide +kernel)
  refine .inl ⟨_, t1, ?_⟩; simp -implicitDefEqProofs [go_sem]; (repeat refine And.intro (by first | decide +kernel | omega | kernel_rfl) ?_); (try decide +kernel)
  refine .inl ⟨_, hk, ?_⟩; simp -implicitDefEqProofs [go_sem]; (repeat refine And.intro (by first | decide +kernel | omega | kernel_rfl) ?_); (try decide +kernel)
  refine .inl ⟨_, t2, ?_⟩; simp -implicitDefEqProofs [go_sem]; (repeat refine And.intro (by first | decide +kernel | omega | kernel_rfl) ?_); (try decide +kernel)
  refine .inl ⟨_, t3, ?_⟩; simp -implicitDefEqProofs [go_sem]; (repeat refine And.intro (by first | decide +kernel | omega | kernel_rfl) ?_); (try decide +kernel)
  refine .inl ⟨_, hb, ?_⟩; simp -implicitDefEqProofs [go_sem]; (repeat refine And.intro (by first | decide +kernel | omega | kernel_rfl) ?_); (try decide +kernel)
  refine .inl ⟨_, hn, ?_⟩; simp -implicitDefEqProofs [go_sem]; (repeat refine And.intro (by first | decide +kernel | omega | kernel_rfl) ?_); (try decide +kernel)
  refine .inl ⟨_, hn, ?_⟩; simp -implicitDefEqProofs [go_sem]; (repeat refine And.intro (by first | decide +kernel | omega | kernel_rfl) ?_); (try decide +kernel)
  refine .inl ⟨_, t4, ?_⟩; simp -implicitDefEqProofs [go_sem]; (repeat refine And.intro (by first | decide +kernel | omega | kernel_rfl) ?_); (try decide +kernel)
  refine .inl ⟨_, hs, ?_⟩; simp -implicitDefEqProofs [go_sem]; (repeat refine And.intro (by first | decide +kernel | omega | kernel_rfl) ?_); (try decide +kernel)
end Go.Mt
