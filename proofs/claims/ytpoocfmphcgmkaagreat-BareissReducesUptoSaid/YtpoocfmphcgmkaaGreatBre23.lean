/-
  A part of the proof.
-/
import Derived.Test.YtpoocfmphcgmkaaGreatBre17
import Derived.Test.YtpoocfmphcgmkaaGreatBre21
import Derived.Test.YtpoocfmphcgmkaaGreatBre6
set_option linter.unusedVariables false
set_option linter.unusedSimpArgs false
set_option linter.unusedSimpArgs false
set_option linter.unusedVariables false
namespace Go.Mt
/-- two columns exchanged -/
def swc (M : Nat → Nat → Rat) (a b : Nat) : Nat → Nat → Rat := fun i j => M i (if j = a then b else if j = b then a else j)
theorem setc_add (M : Nat → Nat → Rat) {n c : Nat} (hc : c < n) (u v : Nat → Rat) : det n (setc M c fun i => u i + v i) = det n (setc M c u) + det n (setc M c v) := by
  have h := det_lin M hc u v 1 1
  have e : (fun i => (1 : Rat) * u i + 1 * v i) = fun i => u i + v i := by funext i; grind
  rw [e] at h
  rw [h]; grind
theorem det_swap1 {n : Nat} (M : Nat → Nat → Rat) {c : Nat} (hc : c + 1 < n) : det n (swc M c (c + 1)) = -det n M := by
  have F : ∀ x y : Nat → Rat, det n (setc (setc M c x) (c + 1) y) = -det n (setc (setc M c y) (c + 1) x) := fun x y => by
    have h0 : det n (setc (setc M c fun i => x i + y i) (c + 1) fun i => x i + y i) = 0 := det_alt1 _ hc fun i _ => by
      rw [setc_at, setc_ne _ _ _ (by omega), setc_at]
    have hx : det n (setc (setc M c x) (c + 1) x) = 0 := det_alt1 _ hc fun i _ => by rw [setc_at, setc_ne _ _ _ (by omega), setc_at]
    have hy : det n (setc (setc M c y) (c + 1) y) = 0 := det_alt1 _ hc fun i _ => by rw [setc_at, setc_ne _ _ _ (by omega), setc_at]
    have hcc : c ≠ c + 1 := by omega
    rw [setc_comm M hcc] at hx hy
    rw [setc_add _ hc, setc_comm M hcc _ x, setc_comm M hcc _ y, setc_add _ (by omega), setc_add _ (by omega), hx, hy] at h0
    rw [setc_comm M hcc x y, setc_comm M hcc y x]
    grind
  have e1 : swc M c (c + 1) = setc (setc M c fun i => M i (c + 1)) (c + 1) fun i => M i c := by
    funext i j; unfold swc setc
    by_cases h1 : j = c + 1
    · subst h1; simp
    · by_cases h2 : j = c
      · subst h2; simp
      · simp [h1, h2]
  rw [e1, F, setc_self]
  have e2 : setc M (c + 1) (fun i => M i (c + 1)) = M := setc_self _ _
  rw [e2]
/-- two columns that are the same -/
theorem det_alt {n : Nat} (M : Nat → Nat → Rat) {a b : Nat} (hab : a < b) (hb : b < n) (h : ∀ i, i < n → M i a = M i b) : det n M = 0 := by
  obtain ⟨d, hd⟩ : ∃ d, b = a + 1 + d := ⟨b - a - 1, by omega⟩
  induction d generalizing M b with
  | zero => subst hd; exact det_alt1 M hb h
  | succ d ih =>
    have h1 := det_swap1 M (c := a + 1 + d) (n := n) (by omega)
    have h2 := ih (swc M (a + 1 + d) (a + 1 + d + 1)) (b := a + 1 + d) (by omega) (by omega) (fun i hi => by
      unfold swc
      rw [if_neg (by omega), if_neg (by omega), if_pos rfl]
      have := h i hi
      rw [hd] at this; exact this) rfl
    rw [h2] at h1
    grind
theorem det_dup {n : Nat} (M : Nat → Nat → Rat) {a c : Nat} (hac : a ≠ c) (ha : a < n) (hc : c < n) : det n (setc M c fun i => M i a) = 0 := by
  rcases Nat.lt_or_gt_of_ne hac with h | h
  · exact det_alt _ h hc fun i _ => by rw [setc_ne _ _ _ hac, setc_at]
  · exact det_alt _ h ha fun i _ => by rw [setc_at, setc_ne _ _ _ hac]
/-- so much of other columns, added to a column -/
theorem det_addcols {n : Nat} (M : Nat → Nat → Rat) {c : Nat} (hc : c < n) (x w : Nat → Rat) (m : Nat) (hm : ∀ a, a < m → a < n ∧ a ≠ c) : det n (setc M c fun i => (sumN m fun a => x a * M i a) + w i) = det n (setc M c w) := by
  induction m with
  | zero =>
    congr 2
    funext i
    show (0 : Rat) + w i = w i
    rw [Rat.zero_add]
  | succ m ih =>
    have e : (fun i => (sumN (m + 1) fun a => x a * M i a) + w i) = fun i => 1 * ((sumN m fun a => x a * M i a) + w i) + x m * M i m := by
      funext i
      show ((sumN m fun a => x a * M i a) + x m * M i m) + w i = _
      grind
    obtain ⟨h1, h2⟩ := hm m (by omega)
    rw [e, det_lin M hc, det_dup M h2 h1 hc, ih fun a ha => hm a (by omega)]
    grind
/-- the last column has one number, its last -/
theorem det_last {n : Nat} (M : Nat → Nat → Rat) (w : Nat → Rat) (h : ∀ i, i < n → w i = 0) : det (n + 1) (setc M n w) = w n * det n M := by
  show sumN (n + 1) _ = _
  show sumN n _ + _ = _
  rw [sumN_nought n _ fun j hj => ?_]
  · show 0 + sg (n + n) * setc M n w n n * det n (fun i l => setc M n w i (skp n l)) = _
    rw [Rat.zero_add, setc_at, sg_two]
    have e : det n (fun i l => setc M n w i (skp n l)) = det n M := det_congr fun i l hi hl => by
      have e1 : skp n l = l := by unfold skp; rw [if_pos hl]
      rw [e1, setc_ne _ _ _ (by omega)]
    rw [e, Rat.one_mul]
  · have e : det n (fun i l => setc M n w i (skp j l)) = 0 := det_zero _ (c := n - 1) (by omega) fun i hi => by
      have e1 : skp j (n - 1) = n := by unfold skp; rw [if_neg (by omega)]; omega
      rw [e1, setc_at, h i hi]
    rw [e, Rat.mul_zero]
/-- Cramer's rule: a column that the columns make -/
theorem det_make {n : Nat} (M : Nat → Nat → Rat) {c : Nat} (hc : c < n) (x : Nat → Rat) : det n (setc M c fun i => sumN n fun a => x a * M i a) = x c * det n M := by
  have key : ∀ m, m ≤ n → det n (setc M c fun i => sumN m fun a => x a * M i a) = (if c < m then x c else 0) * det n M := by
    intro m
    induction m with
    | zero =>
      intro _
      rw [if_neg (by omega), Rat.zero_mul]
      exact det_zero _ hc fun i _ => by rw [setc_at]; rfl
    | succ m ih =>
      intro hm
      have e : (fun i => sumN (m + 1) fun a => x a * M i a) = fun i => 1 * (sumN m fun a => x a * M i a) + x m * M i m := by
        funext i
        show (sumN m fun a => x a * M i a) + x m * M i m = _
        grind
      rw [e, det_lin M hc, ih (by omega)]
      by_cases h : m = c
      · subst h
        rw [setc_self, if_neg (by omega), if_pos (by omega)]; grind
      · rw [det_dup M h (by omega) hc]
        by_cases h2 : c < m
        · rw [if_pos h2, if_pos (by omega)]; grind
        · rw [if_neg h2, if_neg (by omega)]; grind
  have h := key n (Nat.le_refl _)
  rwa [if_pos hc] at h
/-- whole numbers' determinant -/
def sgZ (k : Nat) : Int := if k % 2 = 0 then 1 else -1
def detZ : Nat → (Nat → Nat → Int) → Int
  | 0, _ => 1
  | n + 1, M => sumZ (n + 1) fun j => sgZ (n + j) * M n j * detZ n (fun i l => M i (skp j l))
theorem sumZ_cast (n : Nat) (f : Nat → Int) : ((sumZ n f : Int) : Rat) = sumN n fun j => (f j : Rat) := by
  induction n with
  | zero => rfl
  | succ n ih =>
    show ((sumZ n f + f n : Int) : Rat) = _
    rw [Rat.intCast_add, ih]; rfl
theorem detZ_cast (n : Nat) (M : Nat → Nat → Int) : ((detZ n M : Int) : Rat) = det n fun i j => (M i j : Rat) := by
  induction n generalizing M with
  | zero => rfl
  | succ n ih =>
    show ((sumZ (n + 1) _ : Int) : Rat) = sumN (n + 1) _
    rw [sumZ_cast]
    refine sumN_congr fun j _ => ?_
    rw [Rat.intCast_mul, Rat.intCast_mul, ih]
    congr 2
    unfold sgZ sg
    split <;> rfl
theorem detZ_zl {n K : Nat} {M : Nat → Nat → Int} (h : ∀ i j, i < n → j < n → zl (M i j) ≤ K) (hn : n < 1000000) : zl (detZ n M) ≤ n * (K + 3) + 1 := by
  induction n generalizing M with
  | zero =>
    have : zl 1 = 1 := by decide
    show zl 1 ≤ _
    omega
  | succ n ih =>
    have h1 : ∀ j, j < n + 1 → zl (sgZ (n + j) * M n j * detZ n (fun i l => M i (skp j l))) ≤ n * (K + 3) + 1 + K + 1 := fun j hj => by
      have g1 := zl_mul (sgZ (n + j) * M n j) (detZ n (fun i l => M i (skp j l)))
      have g2 := zl_mul (sgZ (n + j)) (M n j)
      have g3 := h n j (by omega) hj
      have g4 := ih (M := fun i l => M i (skp j l)) (fun i l hi hl => h i _ (by omega) (skp_lt (by omega) hl)) (by omega)
      have g5 : zl (sgZ (n + j)) ≤ 1 := by unfold sgZ; split <;> decide
      omega
    have h2 := zl_sumZ h1 (by omega)
    show zl (sumZ (n + 1) _) ≤ _
    rw [Nat.succ_mul]
    omega
end Go.Mt
/-
  A part of the proof.
-/
set_option linter.unusedSimpArgs false
set_option linter.unusedVariables false
namespace Go.Mt
/-- a state of the elimination: which row stands where; the rows, by where they stood first; the pivots' columns -/
structure Gs where
  out : List Nat
  X : Nat → Nat → Rat
  piv : List Nat
def oo (l : List Nat) (i : Nat) : Nat := (l[i]?).getD 0
theorem oo_get {l : List Nat} {i : Nat} (h : i < l.length) : oo l i = l[i] := by unfold oo; simp [h]
theorem oo_mem {l : List Nat} {i : Nat} (h : i < l.length) : oo l i ∈ l := by rw [oo_get h]; exact List.getElem_mem h
theorem nod_inj {l : List Nat} (hn : l.Nodup) {i j : Nat} (hi : i < l.length) (hj : j < l.length) (h : l[i] = l[j]) : i = j :=
  (List.getElem?_inj hi hn).1 (by rw [List.getElem?_eq_getElem hi, List.getElem?_eq_getElem hj, h])
theorem oo_inj {l : List Nat} (hn : l.Nodup) {i j : Nat} (hi : i < l.length) (hj : j < l.length) (h : oo l i = oo l j) : i = j := by
  rw [oo_get hi, oo_get hj] at h
  exact nod_inj hn hi hj h
theorem oo_take {l : List Nat} (hn : l.Nodup) {i k : Nat} (hi : i < l.length) (hk : k ≤ l.length) : oo l i ∈ l.take k ↔ i < k := by
  constructor
  · intro h
    obtain ⟨j, hj, e⟩ := List.getElem_of_mem h
    rw [List.length_take] at hj
    rw [List.getElem_take, oo_get hi] at e
    have := nod_inj hn (by omega) hi e
    omega
  · intro h
    rw [oo_get hi]
    exact List.mem_take_iff_getElem.2 ⟨i, by omega, rfl⟩
/-- the pivots' minor -/
def bM (A : Nat → Nat → Int) (s : Gs) : Nat → Nat → Int := fun i a => A (oo s.out i) (oo s.piv a)
def lastG (A : Nat → Nat → Int) (s : Gs) : Int := detZ s.piv.length (bM A s)
/-- what holds throughout -/
structure GI (A : Nat → Nat → Int) (r : Nat) (s : Gs) : Prop where
  len : s.out.length = r
  nod : s.out.Nodup
  mem : ∀ st ∈ s.out, st < r
  k : s.piv.length ≤ r
  ne : lastG A s ≠ 0
  top : ∀ st, st < r → ∀ j, (A st j : Rat) = (sumN s.piv.length fun a => s.X (oo s.out a) j * (A st (oo s.piv a) : Rat)) + (if st ∈ s.out.take s.piv.length then 0 else s.X st j)
variable {A : Nat → Nat → Int} {r : Nat} {s : Gs}
/-- a minor of the pivots, one row and one column more -/
def bB (A : Nat → Nat → Int) (s : Gs) (st j : Nat) : Nat → Nat → Int := fun i a => A (if i < s.piv.length then oo s.out i else st) (if a < s.piv.length then oo s.piv a else j)
theorem GI.bot (h : GI A r s) {st : Nat} (hs : st < r) (hn : st ∉ s.out.take s.piv.length) (j : Nat) : (lastG A s : Rat) * s.X st j = ((detZ (s.piv.length + 1) (bB A s st j) : Int) : Rat) := by
  have hk := h.k
  have hl := h.len
  rw [detZ_cast]
  unfold lastG
  rw [detZ_cast]
  obtain ⟨k, hkd⟩ : ∃ k, k = s.piv.length := ⟨_, rfl⟩
  have e1 : det (k + 1) (fun i a => (bB A s st j i a : Rat)) = det (k + 1) (setc (fun i a => (bB A s st j i a : Rat)) k fun i => (sumN k fun a => s.X (oo s.out a) j * (bB A s st j i a : Rat)) + (if i < k then 0 else s.X st j)) := det_congr fun i a hi ha => by
    unfold setc
    by_cases hak : a = k
    · rw [if_pos hak]
      have hrow : (if i < k then oo s.out i else st) < r := by
        split
        · exact h.mem _ (oo_mem (by omega))
        · exact hs
      have ht := h.top _ hrow j
      have e2 : (bB A s st j i a : Rat) = (A (if i < k then oo s.out i else st) j : Rat) := by
        unfold bB
        rw [← hkd, if_neg (show ¬ a < k by omega)]
      rw [e2, ht, ← hkd]
      congr 1
      · refine sumN_congr fun b hb => ?_
        unfold bB
        rw [← hkd, if_pos hb]
      · by_cases hik : i < k
        · rw [if_pos hik, if_pos ((oo_take h.nod (by omega) (by omega)).2 hik), if_pos hik]
        · rw [if_neg hik, if_neg (by rw [hkd]; exact hn), if_neg hik]
    · rw [if_neg hak]
  rw [← hkd, e1, det_addcols _ (by omega) (fun a => s.X (oo s.out a) j) _ k (fun a ha => ⟨by omega, by omega⟩), det_last _ _ fun i hi => if_pos hi, if_neg (by omega), Rat.mul_comm]
  congr 1
  refine det_congr fun i a hi ha => ?_
  unfold bM bB
  rw [← hkd, if_pos hi, if_pos ha]
theorem GI.tops (h : GI A r s) {b : Nat} (hb : b < s.piv.length) (j : Nat) : (lastG A s : Rat) * s.X (oo s.out b) j = ((detZ s.piv.length (fun i a => if a = b then A (oo s.out i) j else bM A s i a) : Int) : Rat) := by
  have hk := h.k
  have hl := h.len
  rw [detZ_cast]
  unfold lastG
  rw [detZ_cast]
  have e1 : det s.piv.length (fun i a => ((if a = b then A (oo s.out i) j else bM A s i a : Int) : Rat)) = det s.piv.length (setc (fun i a => (bM A s i a : Rat)) b fun i => sumN s.piv.length fun a => s.X (oo s.out a) j * (bM A s i a : Rat)) := det_congr fun i a hi ha => by
    unfold setc
    by_cases hab : a = b
    · rw [if_pos hab, if_pos hab]
      have ht := h.top _ (h.mem _ (oo_mem (l := s.out) (i := i) (by omega))) j
      rw [if_pos ((oo_take h.nod (by omega) (by omega)).2 hi), Rat.add_zero] at ht
      exact ht
    · rw [if_neg hab, if_neg hab]
  rw [e1, det_make _ hb, Rat.mul_comm]
/-- the numbers over the last pivot are whole, and not long -/
theorem GI.whole (h : GI A r s) {K : Nat} (hA : ∀ st j, st < r → zl (A st j) ≤ K) (hr : s.piv.length < 999999) {st : Nat} (hs : st < r) (j : Nat) : ∃ z : Int, (z : Rat) = (lastG A s : Rat) * s.X st j ∧ zl z ≤ (s.piv.length + 1) * (K + 3) + 1 := by
  have hk := h.k
  have hl := h.len
  by_cases hn : st ∈ s.out.take s.piv.length
  · obtain ⟨b, hb, e⟩ := List.getElem_of_mem hn
    rw [List.length_take] at hb
    rw [List.getElem_take] at e
    have e2 : oo s.out b = st := by rw [oo_get (by omega)]; exact e
    have ht := h.tops (b := b) (by omega) j
    rw [e2] at ht
    refine ⟨_, ht.symm, ?_⟩
    have := detZ_zl (K := K) (n := s.piv.length) (M := fun i a => if a = b then A (oo s.out i) j else bM A s i a) (fun i a hi ha => by
      have hm := h.mem _ (oo_mem (l := s.out) (i := i) (by omega))
      show zl (if a = b then _ else _) ≤ _
      split
      · exact hA _ _ hm
      · exact hA _ _ hm) (by omega)
    have e3 : (s.piv.length + 1) * (K + 3) = s.piv.length * (K + 3) + (K + 3) := Nat.succ_mul _ _
    omega
  · refine ⟨_, (h.bot hs hn j).symm, ?_⟩
    exact detZ_zl (K := K) (fun i a hi ha => by
      unfold bB
      refine hA _ _ ?_
      split
      · exact h.mem _ (oo_mem (by omega))
      · exact hs) (by omega)
theorem GI.lastK (h : GI A r s) {K : Nat} (hA : ∀ st j, st < r → zl (A st j) ≤ K) (hr : s.piv.length < 999999) : zl (lastG A s) ≤ s.piv.length * (K + 3) + 1 := by
  have hk := h.k
  have hl := h.len
  exact detZ_zl (fun i a hi ha => hA _ _ (h.mem _ (oo_mem (by omega)))) (by omega)
end Go.Mt
/-
  A part of the proof.
-/
set_option linter.unusedSimpArgs false
set_option linter.unusedVariables false
namespace Go.Mt
/-- two places exchanged -/
def swL (l : List Nat) (a b : Nat) : List Nat := (l.set a (oo l b)).set b (oo l a)
theorem swL_len (l : List Nat) (a b : Nat) : (swL l a b).length = l.length := by simp [swL]
def trn (a b i : Nat) : Nat := if i = a then b else if i = b then a else i
theorem trn_lt {a b i n : Nat} (ha : a < n) (hb : b < n) (hi : i < n) : trn a b i < n := by unfold trn; split; exact hb; split; exact ha; exact hi
theorem trn_inj {a b i j : Nat} (h : trn a b i = trn a b j) : i = j := by
  unfold trn at h
  split at h <;> split at h <;> (try split at h) <;> (try split at h) <;> omega
theorem swL_oo (l : List Nat) {a b i : Nat} (ha : a < l.length) (hb : b < l.length) (hi : i < l.length) : oo (swL l a b) i = oo l (trn a b i) := by
  unfold oo swL trn
  by_cases h1 : i = b
  · subst h1
    rw [List.getElem?_set_self (by rw [List.length_set]; exact hb)]
    by_cases h2 : i = a
    · subst h2; simp [oo]
    · rw [if_neg h2, if_pos rfl]; rfl
  · rw [List.getElem?_set_ne (by omega)]
    by_cases h2 : i = a
    · subst h2
      rw [List.getElem?_set_self ha, if_pos rfl]; rfl
    · rw [List.getElem?_set_ne (by omega), if_neg h2, if_neg h1]
theorem nodup_oo {l : List Nat} (h : ∀ i j, i < j → j < l.length → oo l i ≠ oo l j) : l.Nodup := by
  refine List.pairwise_iff_getElem.2 fun i j hi hj hij => ?_
  have := h i j hij hj
  rw [oo_get hi, oo_get hj] at this
  exact this
theorem swL_nod {l : List Nat} (hn : l.Nodup) {a b : Nat} (ha : a < l.length) (hb : b < l.length) : (swL l a b).Nodup := by
  refine nodup_oo fun i j hij hj => ?_
  rw [swL_len] at hj
  rw [swL_oo l ha hb (by omega), swL_oo l ha hb hj]
  intro h
  have := trn_inj (oo_inj hn (trn_lt ha hb (by omega)) (trn_lt ha hb hj) h)
  omega
theorem mem_oo {l : List Nat} {x : Nat} (h : x ∈ l) : ∃ i, i < l.length ∧ oo l i = x := by
  obtain ⟨i, hi, e⟩ := List.getElem_of_mem h
  exact ⟨i, hi, by rw [oo_get hi, e]⟩
theorem swL_mem {l : List Nat} {a b : Nat} (ha : a < l.length) (hb : b < l.length) : ∀ x ∈ swL l a b, x ∈ l := fun x hx => by
  obtain ⟨i, hi, rfl⟩ := mem_oo hx
  rw [swL_len] at hi
  rw [swL_oo l ha hb hi]
  exact oo_mem (trn_lt ha hb hi)
/-- where the next pivot stands -/
def fnd (s : Gs) (c : Nat) : Nat := s.piv.length + (s.out.drop s.piv.length).findIdx fun st => decide (s.X st c ≠ 0)
theorem fnd_ge (s : Gs) (c : Nat) : s.piv.length ≤ fnd s c := Nat.le_add_right _ _
theorem fnd_ne {s : Gs} {c : Nat} (h : fnd s c < s.out.length) : s.X (oo s.out (fnd s c)) c ≠ 0 := by
  have h1 : (s.out.drop s.piv.length).findIdx (fun st => decide (s.X st c ≠ 0)) < (s.out.drop s.piv.length).length := by
    unfold fnd at h; rw [List.length_drop]; omega
  have h2 := List.findIdx_getElem (w := h1)
  have h3 := of_decide_eq_true h2
  rw [List.getElem_drop] at h3
  rw [oo_get h]; exact h3
def pvt (s : Gs) (c : Nat) : Nat := oo s.out (fnd s c)
/-- one step -/
def gstep (s : Gs) (c : Nat) : Gs :=
  if fnd s c < s.out.length then
    ⟨swL s.out s.piv.length (fnd s c), fun st j => if st = pvt s c then s.X (pvt s c) j / s.X (pvt s c) c else s.X st j - s.X st c * (s.X (pvt s c) j / s.X (pvt s c) c), s.piv ++ [c]⟩
  else s
variable {A : Nat → Nat → Int} {r : Nat} {s : Gs}
theorem oo_snoc_lt (l : List Nat) (c : Nat) {i : Nat} (h : i < l.length) : oo (l ++ [c]) i = oo l i := by unfold oo; rw [List.getElem?_append_left h]
theorem oo_snoc_at (l : List Nat) (c : Nat) : oo (l ++ [c]) l.length = c := by unfold oo; simp
theorem GI.out' (h : GI A r s) {c : Nat} (hf : fnd s c < s.out.length) {i : Nat} (hi : i < s.out.length) : oo (swL s.out s.piv.length (fnd s c)) i = if i < s.piv.length then oo s.out i else if i = s.piv.length then pvt s c else oo s.out (if i = fnd s c then s.piv.length else i) := by
  have hg := fnd_ge s c
  rw [swL_oo _ (by omega) hf hi]
  unfold trn
  by_cases h1 : i < s.piv.length
  · rw [if_pos h1, if_neg (by omega), if_neg (by omega)]
  · rw [if_neg h1]
    by_cases h2 : i = s.piv.length
    · rw [if_pos h2, if_pos h2]; rfl
    · rw [if_neg h2, if_neg h2]
theorem GI.last' (h : GI A r s) {c : Nat} (hf : fnd s c < s.out.length) : (lastG A (gstep s c) : Rat) = (lastG A s : Rat) * s.X (pvt s c) c := by
  have hg := fnd_ge s c
  have hl := h.len
  have hn : pvt s c ∉ s.out.take s.piv.length := fun hm => by
    have := (oo_take h.nod hf (by omega)).1 hm
    omega
  have hb := h.bot (st := pvt s c) (h.mem _ (oo_mem hf)) hn c
  rw [hb]
  unfold gstep lastG
  rw [if_pos hf]
  show ((detZ (s.piv ++ [c]).length _ : Int) : Rat) = _
  rw [List.length_append, List.length_singleton, detZ_cast, detZ_cast]
  refine det_congr fun i a hi ha => ?_
  congr 1
  unfold bM bB
  show A (oo (swL s.out s.piv.length (fnd s c)) i) (oo (s.piv ++ [c]) a) = _
  have e1 : oo (swL s.out s.piv.length (fnd s c)) i = if i < s.piv.length then oo s.out i else pvt s c := by
    rw [h.out' hf (by omega)]
    by_cases h1 : i < s.piv.length
    · rw [if_pos h1, if_pos h1]
    · rw [if_neg h1, if_neg h1, if_pos (by omega)]
  have e2 : oo (s.piv ++ [c]) a = if a < s.piv.length then oo s.piv a else c := by
    by_cases h1 : a < s.piv.length
    · rw [if_pos h1, oo_snoc_lt _ _ h1]
    · have : a = s.piv.length := by omega
      rw [if_neg h1, this, oo_snoc_at]
  rw [e1, e2]
theorem GI.take' (h : GI A r s) {c : Nat} (hf : fnd s c < s.out.length) (st : Nat) : st ∈ (swL s.out s.piv.length (fnd s c)).take (s.piv.length + 1) ↔ st ∈ s.out.take s.piv.length ∨ st = pvt s c := by
  have hg := fnd_ge s c
  have hl := swL_len s.out s.piv.length (fnd s c)
  constructor
  · intro hm
    obtain ⟨i, hi, e⟩ := mem_oo hm
    rw [List.length_take] at hi
    have e2 : oo ((swL s.out s.piv.length (fnd s c)).take (s.piv.length + 1)) i = oo (swL s.out s.piv.length (fnd s c)) i := by
      unfold oo; rw [List.getElem?_take_of_lt (by omega)]
    rw [e2, h.out' hf (by omega)] at e
    by_cases h1 : i < s.piv.length
    · rw [if_pos h1] at e
      exact .inl (e ▸ (oo_take h.nod (by omega) (by omega)).2 h1)
    · rw [if_neg h1, if_pos (by omega)] at e
      exact .inr e.symm
  · intro hm
    have key : ∀ i, i < s.piv.length + 1 → oo (swL s.out s.piv.length (fnd s c)) i ∈ (swL s.out s.piv.length (fnd s c)).take (s.piv.length + 1) := fun i hi => by
      have hi2 : i < (swL s.out s.piv.length (fnd s c)).length := by omega
      rw [oo_get hi2]
      exact List.mem_take_iff_getElem.2 ⟨i, by omega, rfl⟩
    rcases hm with hm | hm
    · obtain ⟨i, hi, e⟩ := mem_oo hm
      rw [List.length_take] at hi
      have e2 : oo (s.out.take s.piv.length) i = oo s.out i := by unfold oo; rw [List.getElem?_take_of_lt (by omega)]
      have := key i (by omega)
      rw [h.out' hf (by omega), if_pos (by omega)] at this
      rw [← e, e2]; exact this
    · have := key s.piv.length (by omega)
      rw [h.out' hf (by omega), if_neg (by omega), if_pos rfl] at this
      rw [hm]; exact this
theorem GI.step (h : GI A r s) (c : Nat) : GI A r (gstep s c) := by
  by_cases hf : fnd s c < s.out.length
  · have hg := fnd_ge s c
    have hl := h.len
    have hp := fnd_ne hf
    have hne : lastG A (gstep s c) ≠ 0 := fun h0 => by
      have := h.last' hf
      rw [h0] at this
      have h1 : (lastG A s : Rat) * s.X (pvt s c) c = 0 := this.symm
      rcases Rat.mul_eq_zero.1 h1 with h2 | h2
      · exact h.ne (Rat.intCast_inj.1 h2)
      · exact hp h2
    obtain ⟨t, ht⟩ : ∃ t, t = pvt s c := ⟨_, rfl⟩
    have e : gstep s c = ⟨swL s.out s.piv.length (fnd s c), fun st j => if st = t then s.X t j / s.X t c else s.X st j - s.X st c * (s.X t j / s.X t c), s.piv ++ [c]⟩ := by rw [ht]; exact if_pos hf
    refine ⟨?_, ?_, ?_, ?_, hne, ?_⟩
    · rw [e]; show (swL _ _ _).length = r; rw [swL_len, hl]
    · rw [e]; exact swL_nod h.nod (by omega) hf
    · rw [e]; exact fun st hs => h.mem st (swL_mem (by omega) hf st hs)
    · rw [e]; show (s.piv ++ [c]).length ≤ r; rw [List.length_append, List.length_singleton]; omega
    · intro st hs j
      rw [e]
      show _ = (sumN (s.piv ++ [c]).length fun a => _) + (if st ∈ (swL s.out s.piv.length (fnd s c)).take (s.piv ++ [c]).length then 0 else _)
      rw [List.length_append, List.length_singleton]
      obtain ⟨q, hq⟩ : ∃ q, q = s.X t j / s.X t c := ⟨_, rfl⟩
      have hp : s.X t c ≠ 0 := by rw [ht]; exact hp
      have hqm : q * s.X t c = s.X t j := by rw [hq]; exact Rat.div_mul_cancel hp
      have htn : t ∉ s.out.take s.piv.length := fun hm => by
        rw [ht] at hm
        have := (oo_take h.nod hf (by omega)).1 hm
        omega
      have hsum : (sumN (s.piv.length + 1) fun a => (fun st j => if st = t then s.X t j / s.X t c else s.X st j - s.X st c * (s.X t j / s.X t c)) (oo (swL s.out s.piv.length (fnd s c)) a) j * (A st (oo (s.piv ++ [c]) a) : Rat)) = (sumN s.piv.length fun a => s.X (oo s.out a) j * (A st (oo s.piv a) : Rat)) + -q * (sumN s.piv.length fun a => s.X (oo s.out a) c * (A st (oo s.piv a) : Rat)) + q * (A st c : Rat) := by
        show sumN s.piv.length _ + _ = _
        congr 1
        · rw [← sumN_scale, ← sumN_add]
          refine sumN_congr fun a ha => ?_
          rw [h.out' hf (by omega), if_pos ha, oo_snoc_lt _ _ ha]
          have hane : oo s.out a ≠ t := fun h0 => htn (h0 ▸ (oo_take h.nod (by omega) (by omega)).2 ha)
          show (if oo s.out a = t then _ else _) * _ = _
          rw [if_neg hane, ← hq]
          grind
        · have e3 : oo (swL s.out s.piv.length (fnd s c)) s.piv.length = t := by rw [h.out' hf (by omega), if_neg (by omega), if_pos rfl, ht]
          show (if oo (swL s.out s.piv.length (fnd s c)) s.piv.length = t then s.X t j / s.X t c else _) * (A st (oo (s.piv ++ [c]) s.piv.length) : Rat) = _
          rw [if_pos e3, oo_snoc_at, ← hq]
      rw [hsum]
      have h1 := h.top st hs j
      have h2 := h.top st hs c
      have hmem := h.take' hf st
      rw [← ht] at hmem
      by_cases h3 : st ∈ s.out.take s.piv.length
      · rw [if_pos h3] at h1 h2
        rw [if_pos (hmem.2 (.inl h3))]
        grind
      · rw [if_neg h3] at h1 h2
        by_cases h4 : st = t
        · rw [if_pos (hmem.2 (.inr h4))]
          rw [h4] at h1 h2 ⊢
          grind
        · rw [if_neg fun hm => by rcases hmem.1 hm with hm | hm <;> contradiction]
          show _ = _ + (if st = t then _ else _)
          rw [if_neg h4, ← hq]
          grind
  · have e : gstep s c = s := if_neg hf
    rw [e]; exact h
def ginit (A : Nat → Nat → Int) (r : Nat) : Gs := ⟨List.range r, fun st j => (A st j : Rat), []⟩
theorem GI.init (A : Nat → Nat → Int) (r : Nat) : GI A r (ginit A r) := by
  refine ⟨List.length_range, List.nodup_range, fun st hs => List.mem_range.1 hs, Nat.zero_le _, by show (1 : Int) ≠ 0; decide, fun st hs j => ?_⟩
  show _ = (0 : Rat) + (if st ∈ (List.range r).take 0 then 0 else _)
  rw [List.take_zero, if_neg List.not_mem_nil, Rat.zero_add]
  rfl
/-- the first columns -/
def gel (s : Gs) (n : Nat) : Gs := (List.range n).foldl gstep s
theorem gel_succ (s : Gs) (n : Nat) : gel s (n + 1) = gstep (gel s n) n := by unfold gel; rw [List.range_succ, List.foldl_append]; rfl
theorem GI.gel (h : GI A r s) (n : Nat) : GI A r (gel s n) := by
  induction n with
  | zero => exact h
  | succ n ih => rw [gel_succ]; exact ih.step n
end Go.Mt
/-
  A part of the proof.
-/
set_option linter.unusedSimpArgs false
set_option linter.unusedVariables false
namespace Go.Mt
open Go Go.Pm Go.Proofs
/-- operations that do not meet, under other names -/
theorem disj_ren {l : List Nat} (hn : l.Nodup) {a b : List Nat} (ha : ∀ x ∈ a, x < l.length) (hb : ∀ x ∈ b, x < l.length) (h : disj a b = true) : disj (a.map (oo l)) (b.map (oo l)) = true := by
  refine List.all_eq_true.2 fun y hy => ?_
  obtain ⟨x, hx, rfl⟩ := List.mem_map.1 hy
  have h1 := disj_spec h x hx
  have h2 : ¬ oo l x ∈ b.map (oo l) := fun hm => by
    obtain ⟨z, hz, e⟩ := List.mem_map.1 hm
    have := oo_inj hn (hb z hz) (ha x hx) e
    subst this
    exact h1 hz
  simpa using h2
def rnL (l : List Nat) (log : Log) : Log := log.map fun p => (p.1.map (oo l), p.2.map (oo l))
theorem raceOk_ren {ops : Array Oper} (l : List Nat) (hn : l.Nodup) (m : Nat) (hml : m ≤ l.length) (log : Log) (hm0 : ∀ p ∈ log, ∀ x ∈ p.1 ++ p.2, x < m) (h : raceOk ops log = true) : raceOk ops (rnL l log) = true := by
  have hm : ∀ p ∈ log, ∀ x ∈ p.1 ++ p.2, x < l.length := fun p hp x hx => Nat.lt_of_lt_of_le (hm0 p hp x hx) hml
  have h := List.all_eq_true.1 h
  refine List.all_eq_true.2 fun j hj => ?_
  have h1 := h j hj
  rw [Bool.and_eq_true] at h1 ⊢
  refine ⟨h1.1, List.all_eq_true.2 fun i hi => ?_⟩
  have h2 := List.all_eq_true.1 h1.2 i hi
  rw [Bool.or_eq_true] at h2 ⊢
  rcases h2 with h2 | h2
  · exact .inl h2
  · refine .inr ?_
    unfold pairOk at h2 ⊢
    unfold rnL
    rw [List.getElem?_map, List.getElem?_map]
    cases hoi : ops[i]? with
    | none => rw [hoi] at h2; exact absurd h2 (by simp)
    | some oi =>
      cases hoj : ops[j]? with
      | none => rw [hoi, hoj] at h2; exact absurd h2 (by simp)
      | some oj =>
        cases hli : log[i]? with
        | none => rw [hoi, hoj, hli] at h2; exact absurd h2 (by simp)
        | some li =>
          cases hlj : log[j]? with
          | none => rw [hoi, hoj, hli, hlj] at h2; exact absurd h2 (by simp)
          | some lj =>
            rw [hoi, hoj, hli, hlj] at h2
            simp only [Bool.and_eq_true] at h2
            obtain ⟨⟨⟨⟨g1, g2⟩, g3⟩, g4⟩, g5⟩ := h2
            have hmi := hm li (List.mem_of_getElem? hli)
            have hmj := hm lj (List.mem_of_getElem? hlj)
            have k4 := disj_ren hn (fun x hx => hmi x (List.mem_append_right _ hx)) hmj g4
            have k5 := disj_ren hn (fun x hx => hmj x (List.mem_append_right _ hx)) (fun x hx => hmi x (List.mem_append_left _ hx)) g5
            rw [List.map_append] at k4
            simp only [Option.map_some, Bool.and_eq_true]
            exact ⟨⟨⟨⟨g1, g2⟩, g3⟩, k4⟩, k5⟩
end Go.Mt
