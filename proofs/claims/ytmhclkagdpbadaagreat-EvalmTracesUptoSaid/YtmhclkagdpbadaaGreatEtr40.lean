/-
  A part of the proof.
-/
import Derived.Test.YtmhclkagdpbadaaGreatEtr39
import Derived.Test.YtmhclkagdpbadaaGreatEtr36
set_option linter.unusedVariables false
set_option linter.unusedSimpArgs false
set_option linter.unusedSimpArgs false
set_option linter.unusedVariables false
namespace Go.Mt
open Go Go.Pm Go.Proofs
theorem row_t {rows : List (Option (List (List D)))} {r : Nat} {es : List (List D)} (h : rows[r]? = some (some es)) (el rel : TypeId) (k ver : Nat) (fz : Bool) (out : List Nat) : Tab.row ⟨el, rel, k, ver, fz, out, rows⟩ r = some es := by
  simp [Tab.row, h]
theorem rowAt_t {rows : List (Option (List (List D)))} {r : Nat} {es : List (List D)} (h : rows[r]? = some (some es)) (el rel : TypeId) (k ver : Nat) (fz : Bool) (out : List Nat) (σ : St) (K : St → List (List D) → Prop) : RowAt ⟨el, rel, k, ver, fz, out, rows⟩ r σ K = K σ es := by
  unfold RowAt
  rw [row_t h]
  simp
theorem elemR_t {rows : List (Option (List (List D)))} {out : List Nat} {i r : Nat} {es : List (List D)} (h1 : out[i]? = some r) (h : rows[r]? = some (some es)) (el rel : TypeId) (k ver : Nat) (fz : Bool) (σ : St) (K : St → Nat → Prop) : ElemR ⟨el, rel, k, ver, fz, out, rows⟩ i σ K = K σ r := by
  unfold ElemR
  simp [h1, row_t h]
/-- a function, turned at one place -/
def upd2 (f : Nat → Nat → Rat) (i k : Nat) (v : Rat) : Nat → Nat → Rat := fun i' k' => if i' = i ∧ k' = k then v else f i' k'
/-- what is done so far, in the order of the rows -/
def mixF (new old : Nat → Nat → Rat) (i k : Nat) : Nat → Nat → Rat := fun i' k' => if i' < i ∨ i' = i ∧ k' < k then new i' k' else old i' k'
theorem mixF_zero (new old : Nat → Nat → Rat) : mixF new old 0 0 = old := by
  funext i k; unfold mixF; rw [if_neg (by omega)]
theorem mixF_succ (new old : Nat → Nat → Rat) (i k : Nat) : upd2 (mixF new old i k) i k (new i k) = mixF new old i (k + 1) := by
  funext i' k'; unfold upd2 mixF
  by_cases h : i' = i ∧ k' = k
  · rw [if_pos h, if_pos (by omega), h.1, h.2]
  · rw [if_neg h]
    by_cases h2 : i' < i ∨ i' = i ∧ k' < k
    · rw [if_pos h2, if_pos (by omega)]
    · rw [if_neg h2, if_neg (by omega)]
theorem mixF_row {new old : Nat → Nat → Rat} {i c r : Nat} : tabQ (mixF new old i c) r c = tabQ (mixF new old (i + 1) 0) r c := tabQ_congr fun i' k' _ hk => by
  unfold mixF
  by_cases h2 : i' < i ∨ i' = i ∧ k' < c
  · rw [if_pos h2, if_pos (by omega)]
  · rw [if_neg h2, if_neg (by omega)]
theorem mixF_all {new old : Nat → Nat → Rat} {r c : Nat} : tabQ (mixF new old r 0) r c = tabQ new r c := tabQ_congr fun i' k' hi _ => by
  unfold mixF; rw [if_pos (by omega)]
theorem mixF_at (new old : Nat → Nat → Rat) (i k : Nat) : mixF new old i k i k = old i k := by
  unfold mixF; rw [if_neg (by omega)]
theorem upd2_at (f : Nat → Nat → Rat) (i k : Nat) (v : Rat) : upd2 f i k v i k = v := if_pos ⟨rfl, rfl⟩
theorem upd2_two (f : Nat → Nat → Rat) (i k : Nat) (u v : Rat) : upd2 (upd2 f i k u) i k v = upd2 f i k v := by
  funext i' k'; unfold upd2
  by_cases h : i' = i ∧ k' = k
  · rw [if_pos h, if_pos h]
  · rw [if_neg h, if_neg h, if_neg h]
theorem upd2_self (f : Nat → Nat → Rat) (i k : Nat) : upd2 f i k (f i k) = f := by
  funext i' k'; unfold upd2
  by_cases h : i' = i ∧ k' = k
  · rw [if_pos h, h.1, h.2]
  · rw [if_neg h]
/-- one row, as it lies -/
def trow (f : Nat → Nat → Rat) (c i : Nat) : List (List D) := qes (((List.range c).map fun k => f i k).map nq)
theorem tabR_get (f : Nat → Nat → Rat) {r c i : Nat} (hi : i < r) : ((tqs (tabQ f r c)).map some)[i]? = some (some (trow f c i)) := by
  unfold tqs tabQ trow; simp [hi]
theorem trow_len (f : Nat → Nat → Rat) (c i : Nat) : (trow f c i).length = c := by simp [trow, qes]
theorem trow_get (f : Nat → Nat → Rat) {c i k : Nat} (hk : k < c) : (trow f c i)[k]? = some (qel (nq (f i k))) := by
  unfold trow qes; simp [hk]
theorem trow_set (f : Nat → Nat → Rat) {c i k : Nat} (hk : k < c) (v : Rat) : (trow f c i).set k (qel (nq v)) = trow (upd2 f i k v) c i := by
  refine List.ext_getElem? fun j => ?_
  by_cases hj : j < c
  · rw [trow_get _ hj, List.getElem?_set]
    unfold upd2
    by_cases h : k = j
    · subst h
      rw [if_pos rfl, if_pos (by rw [trow_len]; exact hj), if_pos ⟨rfl, rfl⟩]
    · rw [if_neg h, trow_get _ hj, if_neg (by omega)]
  · rw [List.getElem?_eq_none (by rw [List.length_set, trow_len]; omega), List.getElem?_eq_none (by rw [trow_len]; omega)]
theorem trow_ne (f : Nat → Nat → Rat) {c i i' k : Nat} (h : i' ≠ i) (v : Rat) : trow (upd2 f i k v) c i' = trow f c i' := by
  refine List.ext_getElem? fun j => ?_
  by_cases hj : j < c
  · rw [trow_get _ hj, trow_get _ hj]
    unfold upd2
    rw [if_neg (by omega)]
  · rw [List.getElem?_eq_none (by rw [trow_len]; omega), List.getElem?_eq_none (by rw [trow_len]; omega)]
theorem tabR_len (f : Nat → Nat → Rat) (r c : Nat) : ((tqs (tabQ f r c)).map some).length = r := by simp [tqs, tabQ]
theorem tabR_set (f : Nat → Nat → Rat) {r c i k : Nat} (hi : i < r) (hk : k < c) (v : Rat) :
    ((tqs (tabQ f r c)).map some).set i (some ((trow f c i).set k (qel (nq v)))) = (tqs (tabQ (upd2 f i k v) r c)).map some := by
  rw [trow_set f hk]
  refine List.ext_getElem? fun j => ?_
  by_cases hj : j < r
  · rw [tabR_get _ hj, List.getElem?_set]
    by_cases h : i = j
    · subst h
      rw [if_pos rfl, if_pos (by rw [tabR_len]; exact hj)]
    · rw [if_neg h, tabR_get _ hj, trow_ne f (fun e => h e.symm)]
  · rw [List.getElem?_eq_none (by rw [List.length_set, tabR_len]; omega), List.getElem?_eq_none (by rw [tabR_len]; omega)]
end Go.Mt
/-
  A part of the proof.
-/
set_option linter.unusedSimpArgs false
set_option linter.unusedVariables false
namespace Go.Mt
open Go Go.Pm Go.Proofs
theorem sl_range {T : Tab} {V : List (List Rat)} (h : T.rows = (tqs V).map some) : ∀ n, n ≤ V.length → T.sl (List.range n) = some ((qrs V).take n) := by
  have key : ∀ (l : List Nat) (x : Nat), T.sl (l ++ [x]) = match T.sl l, T.row x with
      | some r, some es => some (r ++ [[.sl es]])
      | _, _ => none := by
    intro l x
    induction l with
    | nil => simp only [List.nil_append, Tab.sl]; cases T.row x <;> rfl
    | cons y l ih =>
      simp only [List.cons_append, Tab.sl, ih]
      cases T.row y <;> cases T.sl l <;> cases T.row x <;> rfl
  intro n
  induction n with
  | zero => intro _; rfl
  | succ n ih =>
    intro hn
    have hr : T.row n = some (qes ((V[n]'(by omega)).map nq)) := by
      unfold Tab.row; rw [h]; simp [tqs, show n < V.length by omega]
    rw [List.range_succ, key, ih (by omega), hr]
    have : n < (qrs V).length := by rw [qrs_len]; omega
    rw [List.take_add_one, List.getElem?_eq_getElem this, qrs_ge]
    rfl
/-- a table as data -/
theorem sl_tqs {el rel : TypeId} {k ver n : Nat} {fz : Bool} {out : List Nat} {V : List (List Rat)} (h : V.length = n) : Tab.sl ⟨el, rel, k, ver, fz, out, (tqs V).map some⟩ (List.range n) = some (qrs V) := by
  have := sl_range (T := ⟨el, rel, k, ver, fz, out, (tqs V).map some⟩) rfl n (by omega)
  rwa [List.take_of_length_le (by rw [qrs_len]; omega)] at this
/-- the sums so far -/
def psum (A B : List (List Rat)) (i k j : Nat) : Rat := sumN j fun j => entQ A i j * entQ B j k
theorem psum_ql {a b : MR} {K : Nat} (ha : Gm K a) (hb : Gm K b) (hn : b.2.length = colsOf a.2) {i k j : Nat} (hi : i < a.2.length) (hj : j ≤ colsOf a.2) (hk : k < colsOf b.2) : ql (psum (valM a) (valM b) i k j) ≤ 2 * K + 2 := by
  have hcl := colsOf_lt ha.g
  have e : psum (valM a) (valM b) i k j = ratv (sumZ j fun j => entry (zz a.2) i j * entry (zz b.2) j k) (ofR a.1 * ofR b.1) := by
    rw [ratv_sum (Int.mul_ne_zero ha.ne hb.ne)]
    exact sumN_congr fun j _ => by unfold valM; rw [entQ_fracs, entQ_fracs, ratv_mul]
  rw [e]
  have h1 := ql_ratv (sumZ j fun j => entry (zz a.2) i j * entry (zz b.2) j k) (ofR a.1 * ofR b.1) (Int.mul_ne_zero ha.ne hb.ne)
  have h2 : zl (sumZ j fun j => entry (zz a.2) i j * entry (zz b.2) j k) ≤ 2 * K + 2 := zl_sumZ (fun j hj => by
    obtain ⟨_, _, e1, h1⟩ := ha.ent hi (k := j) (by omega)
    obtain ⟨_, _, e2, h2⟩ := hb.ent (i := j) (by omega) hk
    rw [e1, e2]
    have := zl_mul (ofR a.2[i][j]) (ofR b.2[j][k])
    omega) (by omega)
  have h3 := zl_mul (ofR a.1) (ofR b.1)
  have := ha.kd
  have := hb.kd
  omega
theorem entQ_get {A : List (List Rat)} {i j : Nat} (hi : i < A.length) (hj : j < A[i].length) : entQ A i j = A[i][j] := by
  unfold entQ; simp [hi, hj]
theorem tabQ_flat (f : Nat → Nat → Rat) (r c : Nat) : (tabQ f r c).flatten.length = r * c := by
  unfold tabQ
  rw [List.length_flatten, List.map_map]
  have : (List.length ∘ fun i => (List.range c).map fun k => f i k) = fun _ => c := by funext i; simp
  rw [this, List.map_const', List.sum_replicate_nat, List.length_range]
/-- a table of fractions over one denominator -/
theorem com_table {f : Nat → Nat → Rat} {D : Int} (hD : D ≠ 0) {g : Nat → Nat → Int} {r c : Nat} (h : ∀ i k, i < r → k < c → f i k = ratv (g i k) D) : nl (comDen (tabQ f r c).flatten) ≤ zl D := by
  rw [tabQ_congr h, ← fracs_table]
  exact nrmD_nl D hD _ _ (Nat.le_refl _)
theorem valM_row {m : MR} {K : Nat} (h : Gm K m) : ∀ i (hi : i < (valM m).length), (valM m)[i].length = colsOf m.2 := fun i hi => by
  have := h.row (i := i) (by rw [valM_len] at hi; exact hi)
  simp only [valM_rows, List.getElem_map, valR_len, this]
theorem valM_K {m : MR} {K : Nat} (h : Gm K m) {i j : Nat} (hi : i < (valM m).length) (hj : j < (valM m)[i].length) : ql (valM m)[i][j] ≤ K :=
  valM_ql h _ (List.mem_flatten.2 ⟨_, List.getElem_mem hi, List.getElem_mem hj⟩)
set_option maxRecDepth 100000 in
set_option maxHeartbeats 4000000 in
theorem mul11_p (a b : MR) {K : Nat} (ga : Gl a) (gb : Gl b) (ha : Gm K a) (hb : Gm K b) (hK : 2 * K + 2 < 8589934592) (hn : b.2.length = colsOf a.2) (hr : a.2.length < 1099511627) (hc : colsOf b.2 < 1099511627) (hrc : a.2.length * colsOf b.2 < 549755813888) :
    PCall Tryz.prog 47 [.d (md a), .d (md b)] (.one (.d (md (nm (mulQ (valM a) (valM b) a.2.length (colsOf a.2) (colsOf b.2)))))) := by
  have hra := (rows11_t a ga).sto_d
  have hrb := (rows11_t b gb).sto_d
  rw [tqs_d] at hra hrb
  have hsz := size11_p b gb.g
  have hfl := fill11_t a.2.length (colsOf b.2) hr hc
  have hcl := colsOf_lt ha.g
  have hla := valM_len a
  have hlb := valM_len b
  have hwa := valM_row ha
  have hwb := valM_row hb
  have hka := fun i j h1 h2 => valM_K ha (i := i) (j := j) h1 h2
  have hkb := fun i j h1 h2 => valM_K hb (i := i) (j := j) h1 h2
  have hps : ∀ i k j, i < a.2.length → j ≤ colsOf a.2 → k < colsOf b.2 → ql (psum (valM a) (valM b) i k j) ≤ 2 * K + 2 := fun i k j hi hj hk => psum_ql ha hb hn hi hj hk
  have hcom : nl (comDen (mulQ (valM a) (valM b) a.2.length (colsOf a.2) (colsOf b.2)).flatten) ≤ 2 * K := by
    refine Nat.le_trans (com_table (Int.mul_ne_zero ha.ne hb.ne) (g := mulZ (zz a.2) (zz b.2) (colsOf a.2)) fun i k _ _ => ?_) ?_
    · unfold mulZ; rw [ratv_sum (Int.mul_ne_zero ha.ne hb.ne)]
      exact sumN_congr fun j _ => by unfold valM; rw [entQ_fracs, entQ_fracs, ratv_mul]
    · have := zl_mul (ofR a.1) (ofR b.1)
      have := ha.kd
      have := hb.kd
      omega
  rw [hn] at hsz hlb
  generalize colsOf a.2 = n at *
  generalize colsOf b.2 = c at *
  generalize a.2.length = r at *
  generalize valM a = A at *
  generalize valM b = B at *
  have hfr := from11_p (mulQ A B r n c) (fun q hq => by
    obtain ⟨row, h1, h2⟩ := List.mem_flatten.1 hq
    obtain ⟨i, hi, rfl⟩ := List.mem_map.1 h1
    obtain ⟨k, hk, rfl⟩ := List.mem_map.1 h2
    have := hps i k n (List.mem_range.1 hi) (Nat.le_refl _) (List.mem_range.1 hk)
    exact Nat.lt_of_le_of_lt this hK) (by unfold mulQ; rw [length_tabQ]; omega) (by unfold mulQ; rw [tabQ_flat]; exact hrc) (by omega)
  have hol : ∀ F, (tabQ F r c).length = r := fun F => length_tabQ _ _ _
  refine pcall_of hmo Tryz.func47 rfl (by kernel_rfl) (by simp [Tryz.ntmps47]) ?_; simp -implicitDefEqProofs [go_sem, Tryz.ntmps47]; (repeat refine And.intro (by first | decide +kernel | omega | kernel_rfl) ?_); (try decide +kernel)
  refine .inl ⟨_, hra, ?_⟩; simp -implicitDefEqProofs [go_sem]; (repeat refine And.intro (by first | decide +kernel | omega | kernel_rfl) ?_); (try decide +kernel)
  refine .inl ⟨_, hrb, ?_⟩; simp -implicitDefEqProofs [go_sem]; (repeat refine And.intro (by first | decide +kernel | omega | kernel_rfl) ?_); (try decide +kernel)
  refine .inl ⟨_, hsz, ?_⟩; simp -implicitDefEqProofs [go_sem, hla]; (repeat refine And.intro (by first | decide +kernel | omega | kernel_rfl) ?_); (try decide +kernel)
  have hol0 : (zeroQ r c).length = r := hol _
  refine .inl ⟨_, hfl, ?_⟩; simp -implicitDefEqProofs [go_sem, hla, hol0]; (repeat refine And.intro (by first | decide +kernel | omega | kernel_rfl) ?_); (try decide +kernel)
  refine loop_rule [] (fun (i : Nat) => ⟨74, [(4, .pr 8 0 0 0), (5, .d (.sl (qrs A))), (6, .d (.sl (qrs B))), (8, intP .i64 (c : Int)), (9, .st 76 0), (27, intP .i64 (r : Int)), (28, intP .i64 (i : Int))],
      [(76, .tab ⟨68, 72, 4, 0, false, List.range r, (tqs (tabQ (mixF (fun i k => psum A B i k n) (fun _ _ => 0) i 0) r c)).map some⟩), (8, .box [.d (.v (.bool false)), .nl, .nl])], 1000⟩)
    (fun i => i ≤ r) (fun i => r - i) 0 (Nat.zero_le _) (by simp) (by simp -implicitDefEqProofs [go_sem, mixF_zero, zeroQ]) (fun i hi => ?_)
  by_cases hil : i < r
  · simp -implicitDefEqProofs [go_sem, hil]; (repeat refine And.intro (by first | decide +kernel | omega | kernel_rfl) ?_); (try decide +kernel)
    refine loop_rule [] (fun (k : Nat) => ⟨74, [(4, .pr 8 0 0 0), (5, .d (.sl (qrs A))), (6, .d (.sl (qrs B))), (8, intP .i64 (c : Int)), (9, .st 76 0), (10, intP .i64 (i : Int)), (11, intP .i64 (k : Int)), (27, intP .i64 (r : Int)), (28, intP .i64 (i : Int))],
        [(76, .tab ⟨68, 72, 4, 0, false, List.range r, (tqs (tabQ (mixF (fun i k => psum A B i k n) (fun _ _ => 0) i k) r c)).map some⟩), (8, .box [.d (.v (.bool false)), .nl, .nl])], 2000⟩)
      (fun k => k ≤ c) (fun k => c - k) 0 (Nat.zero_le _) (by simp) (by simp -implicitDefEqProofs [go_sem]) (fun k hk => ?_)
    by_cases hkl : k < c
    · have hself : upd2 (mixF (fun i k => psum A B i k n) (fun _ _ => 0) i k) i k (psum A B i k 0) = mixF (fun i k => psum A B i k n) (fun _ _ => 0) i k := by
        have := upd2_self (mixF (fun i k => psum A B i k n) (fun _ _ => 0) i k) i k
        rw [mixF_at] at this; exact this
      simp -implicitDefEqProofs [go_sem, hkl, hlb]; (repeat refine And.intro (by first | decide +kernel | omega | kernel_rfl) ?_); (try decide +kernel)
      refine loop_rule [] (fun (j : Nat) => ⟨74, [(4, .pr 8 0 0 0), (5, .d (.sl (qrs A))), (6, .d (.sl (qrs B))), (8, intP .i64 (c : Int)), (9, .st 76 0), (10, intP .i64 (i : Int)), (11, intP .i64 (k : Int)), (27, intP .i64 (r : Int)), (28, intP .i64 (i : Int)), (37, intP .i64 (n : Int)), (38, intP .i64 (j : Int))],
          [(76, .tab ⟨68, 72, 4, 0, false, List.range r, (tqs (tabQ (upd2 (mixF (fun i k => psum A B i k n) (fun _ _ => 0) i k) i k (psum A B i k j)) r c)).map some⟩), (8, .box [.d (.v (.bool false)), .nl, .nl])], 3000⟩)
        (fun j => j ≤ n) (fun j => n - j) 0 (Nat.zero_le _) (by simp) (by simp -implicitDefEqProofs [go_sem, hself]) (fun j hj => ?_)
      obtain ⟨F, hF⟩ : ∃ F, F = mixF (fun i k => psum A B i k n) (fun _ _ => 0) i k := ⟨_, rfl⟩
      rw [← hF]
      by_cases hjl : j < n
      · have hiA : i < A.length := by omega
        have hjB : j < B.length := by omega
        have hjA : j < A[i].length := by rw [hwa]; exact hjl
        have hkB : k < B[j].length := by rw [hwb]; exact hkl
        have q1 := hka i j hiA hjA
        have q2 := hkb j k hjB hkB
        have hm := mul5_n A[i][j] B[j][k] (by omega) (by omega)
        have e1 : psum A B i k (j + 1) = psum A B i k j + A[i][j] * B[j][k] := by
          show sumN j _ + entQ A i j * entQ B j k = _
          rw [entQ_get hiA hjA, entQ_get hjB hkB]; rfl
        have q3 := hps i k j hil (by omega) hkl
        have q4 := ql_mul A[i][j] B[j][k]
        have ha5 := add5_n (psum A B i k j) (A[i][j] * B[j][k]) (by omega) (by omega)
        rw [← e1] at ha5
        have hrow := tabR_get (upd2 F i k (psum A B i k j)) (c := c) hil
        have hcell := trow_get (upd2 F i k (psum A B i k j)) (i := i) hkl
        rw [upd2_at] at hcell
        have hset := tabR_set (upd2 F i k (psum A B i k j)) hil hkl (psum A B i k (j + 1))
        rw [upd2_two] at hset
        have hrg : (List.range r)[i]? = some i := List.getElem?_range hil
        generalize A[i][j] * B[j][k] = X at *
        generalize psum A B i k j = S at *
        have hER := elemR_t hrg hrow
        have hRA := rowAt_t hrow
        have hTl := trow_len (upd2 F i k S) c i
        simp -implicitDefEqProofs [go_sem, hjl, hER, hRA, hcell, hiA, hjB, hjA, hkB, hTl]; (repeat refine And.intro (by first | decide +kernel | omega | kernel_rfl) ?_); (try decide +kernel)
        refine .inl ⟨_, hm, ?_⟩; simp -implicitDefEqProofs [go_sem, hER, hRA, hcell, hiA, hjB, hjA, hkB, hTl]; (repeat refine And.intro (by first | decide +kernel | omega | kernel_rfl) ?_); (try decide +kernel)
        refine .inl ⟨_, ha5, ?_⟩; simp -implicitDefEqProofs [go_sem, hER, hRA, hcell, hset, hTl]; (repeat refine And.intro (by first | decide +kernel | omega | kernel_rfl) ?_); (try decide +kernel)
        refine ⟨j + 1, ?_⟩; (repeat' apply And.intro) <;> first | omega | (exact hset) | assumption | rfl
      · obtain rfl : j = n := by omega
        have hs := mixF_succ (fun i k => psum A B i k j) (fun _ _ => 0) i k
        rw [← hF] at hs
        have hs : upd2 F i k (psum A B i k j) = mixF (fun i k => psum A B i k j) (fun _ _ => 0) i (k + 1) := hs
        rw [hs]
        simp -implicitDefEqProofs [go_sem]; (repeat refine And.intro (by first | decide +kernel | omega | kernel_rfl) ?_); (try decide +kernel)
        refine ⟨k + 1, ?_⟩; (repeat' apply And.intro) <;> first | omega | assumption | rfl
    · obtain rfl : k = c := by omega
      rw [mixF_row]
      simp -implicitDefEqProofs [go_sem]; (repeat refine And.intro (by first | decide +kernel | omega | kernel_rfl) ?_); (try decide +kernel)
      refine ⟨i + 1, ?_⟩; (repeat' apply And.intro) <;> first | omega | assumption | rfl
  · obtain rfl : i = r := by omega
    rw [mixF_all]
    have hsl := fun el rel k ver fz out => sl_tqs (el := el) (rel := rel) (k := k) (ver := ver) (fz := fz) (out := out) (hol fun i k => psum A B i k n)
    simp -implicitDefEqProofs [go_sem, hsl]; (repeat refine And.intro (by first | decide +kernel | omega | kernel_rfl) ?_); (try decide +kernel)
    refine .inl ⟨_, hfr, ?_⟩; simp -implicitDefEqProofs [go_sem, hsl]; (repeat refine And.intro (by first | decide +kernel | omega | kernel_rfl) ?_); (try decide +kernel)
end Go.Mt
/-
  A part of the proof.
-/
set_option linter.unusedSimpArgs false
set_option linter.unusedVariables false
namespace Go.Mt
open Go Go.Pm Go.Proofs
theorem gl_nm {V : List (List Rat)} {K : Nat} (h : Gm K (nm V)) (hK : K < 8589934592) : Gl (nm V) := by
  refine ⟨h.d, h.ne, h.g, ?_, fun r hr z hz => ?_⟩
  · have := h.kd
    show (nrm _).2.length < _
    rw [rz_len]
    have h2 : zl (ofR (nm V).1) = zl ((nrmD V : Nat) : Int) := by show zl (ofR (nrm _)) = _; rw [ofR_nrm]
    omega
  · have hk := h.k r hr z hz
    obtain ⟨r0, h1, rfl⟩ := List.mem_map.1 hr
    obtain ⟨z0, h2, rfl⟩ := List.mem_map.1 hz
    rw [ofR_nrm] at hk
    rw [rz_len]; omega
/-- a normal form whose numbers are not too long -/
structure Nz (V : List (List Rat)) : Prop where
  d : Lz (nm V).1
  z : ∀ r ∈ (nm V).2, ∀ z ∈ r, Lz z
theorem Nz.of {V : List (List Rat)} {K L : Nat} (hq : ∀ r ∈ V, ∀ q ∈ r, ql q ≤ K) (hD : nl (comDen V.flatten) ≤ L) (hKL : K + L < 1099511627776) : Nz V := by
  refine ⟨?_, fun r hr z hz => ?_⟩
  · show (nrm _).2.length < _
    rw [rz_len, zl_nat]
    unfold nrmD; omega
  · obtain ⟨zs, h1, rfl⟩ := List.mem_map.1 hr
    obtain ⟨z0, h2, rfl⟩ := List.mem_map.1 hz
    obtain ⟨r0, h3, rfl⟩ := List.mem_map.1 h1
    obtain ⟨q, h4, rfl⟩ := List.mem_map.1 h2
    have h5 := hq r0 h3 q h4
    have h6 := nl_comNum (K := K) (KL := L) (D := nrmD V) (q := q) (by have := ql_num q; unfold zl at this; omega) (by unfold nrmD; exact hD)
    show (nrm _).2.length < _
    rw [rz_len]
    unfold zl; omega
theorem num14_p (e : Int) : PCall Tryz.prog 84 [.d (.v (.int .i64 e))] (.one (.d (.v (.int .i64 e)))) := by
  refine pcall_of hmo Tryz.func84 rfl (by kernel_rfl) (by simp [Tryz.ntmps84]) ?_; simp -implicitDefEqProofs [go_sem, Tryz.ntmps84]; (repeat refine And.intro (by first | decide +kernel | omega | kernel_rfl) ?_); (try decide +kernel)
end Go.Mt
