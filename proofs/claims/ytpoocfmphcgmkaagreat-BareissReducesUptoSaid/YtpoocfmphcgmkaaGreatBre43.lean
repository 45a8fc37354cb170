/-
  A part of the proof.
-/
import Derived.Test.YtpoocfmphcgmkaaGreatBre36
import Derived.Test.YtpoocfmphcgmkaaGreatBre42
import Derived.Test.YtpoocfmphcgmkaaGreatBre40
set_option linter.unusedVariables false
set_option linter.unusedSimpArgs false
set_option linter.unusedSimpArgs false
set_option linter.unusedVariables false
namespace Go.Mt
open Go Go.Pm Go.Proofs
/-- pivots: at most one a column; as many as columns: each -/
theorem gel_piv (s : Gs) (hs : s.piv = []) (n : Nat) : (gel s n).piv.length ≤ n ∧ ((gel s n).piv.length = n → (gel s n).piv = List.range n) := by
  induction n with
  | zero =>
    have e : gel s 0 = s := rfl
    rw [e, hs]
    exact ⟨Nat.le_refl _, fun _ => rfl⟩
  | succ n ih =>
    rw [gel_succ]
    unfold gstep
    by_cases hf : fnd (gel s n) n < (gel s n).out.length
    · rw [if_pos hf]
      show ((gel s n).piv ++ [n]).length ≤ n + 1 ∧ (((gel s n).piv ++ [n]).length = n + 1 → (gel s n).piv ++ [n] = List.range (n + 1))
      rw [List.length_append, List.length_singleton]
      refine ⟨by omega, fun h => ?_⟩
      rw [ih.2 (by omega), List.range_succ]
    · rw [if_neg hf]
      exact ⟨by omega, fun h => by omega⟩
end Go.Mt
/-
  A part of the proof.
-/
set_option linter.unusedSimpArgs false
set_option linter.unusedVariables false
namespace Go.Mt
open Go Go.Pm Go.Proofs
theorem natpow1_p (k : Nat) (hk : k < 4611686018427387904) : PCall Tryz.prog 198 [.d (.sl (les (limbs 1))), .d (.v (.int .i64 (k : Int)))] (.tup [.d (.sl (les (limbs 1))), .d (.v (.int .i64 0))]) := by
  have hl := len_ok (limbs 1) (small_limbs 1) (by rw [length_limbs]; decide)
  have e : blen (val (limbs 1)) = 1 := by decide +kernel
  rw [e] at hl
  have ho := of_ok 1 (by decide)
  have hk0 : ¬ (k : Int) < 0 := by omega
  generalize limbs 1 = L at *
  by_cases h0 : k = 0
  · refine pcall_of hmo Tryz.func198 rfl (by kernel_rfl) (by simp [Tryz.ntmps198]) ?_; simp -implicitDefEqProofs [go_sem, Tryz.ntmps198]; (repeat refine And.intro (by first | decide +kernel | omega | kernel_rfl) ?_); (try decide +kernel)
    simp -implicitDefEqProofs [go_sem, hk0]; (repeat refine And.intro (by first | decide +kernel | omega | kernel_rfl) ?_); (try decide +kernel)
    refine .inl ⟨_, hl, ?_⟩; simp -implicitDefEqProofs [go_sem, hk0, h0]; (repeat refine And.intro (by first | decide +kernel | omega | kernel_rfl) ?_); (try decide +kernel)
    refine .inl ⟨_, ho, ?_⟩; simp -implicitDefEqProofs [go_sem]; (repeat refine And.intro (by first | decide +kernel | omega | kernel_rfl) ?_); (try decide +kernel)
  · have h0z : ¬ (k : Int) = 0 := by omega
    refine pcall_of hmo Tryz.func198 rfl (by kernel_rfl) (by simp [Tryz.ntmps198]) ?_; simp -implicitDefEqProofs [go_sem, Tryz.ntmps198]; (repeat refine And.intro (by first | decide +kernel | omega | kernel_rfl) ?_); (try decide +kernel)
    simp -implicitDefEqProofs [go_sem, hk0]; (repeat refine And.intro (by first | decide +kernel | omega | kernel_rfl) ?_); (try decide +kernel)
    refine .inl ⟨_, hl, ?_⟩; simp -implicitDefEqProofs [go_sem, hk0, h0, h0z]; (repeat refine And.intro (by first | decide +kernel | omega | kernel_rfl) ?_); (try decide +kernel)
    refine .inl ⟨_, ho, ?_⟩; simp -implicitDefEqProofs [go_sem]; (repeat refine And.intro (by first | decide +kernel | omega | kernel_rfl) ?_); (try decide +kernel)
theorem pow1_p (k : Nat) (hk : k < 4611686018427387904) : PCall Tryz.prog 155 [.d (zd (nrm 1)), .d (.v (.int .i64 (k : Int)))] (.tup [.d (zd (nrm 1)), .d (.v (.int .i64 0))]) := by
  have h := natpow1_p k hk
  have e1 : (nrm 1).1 = false := by decide
  have e2 : (nrm 1).2 = limbs 1 := rfl
  have hm := make1_ok false 1
  have hm : PCall Tryz.prog 158 [.d (.v (.bool false)), .d (.sl (les (limbs 1)))] (.one (.d (zd (nrm 1)))) := hm
  have ez : zd (nrm 1) = .agg [.v (.bool false), .sl (les (limbs 1))] := by unfold zd; rw [e1, e2]
  rw [ez] at hm ⊢
  generalize limbs 1 = L at *
  refine pcall_of hmo Tryz.func155 rfl (by kernel_rfl) (by simp [Tryz.ntmps155]) ?_; simp -implicitDefEqProofs [go_sem, Tryz.ntmps155]; (repeat refine And.intro (by first | decide +kernel | omega | kernel_rfl) ?_); (try decide +kernel)
  refine .inl ⟨_, h, ?_⟩; simp -implicitDefEqProofs [go_sem]; (repeat refine And.intro (by first | decide +kernel | omega | kernel_rfl) ?_); (try decide +kernel)
  refine .inl ⟨_, hm, ?_⟩; simp -implicitDefEqProofs [go_sem]; (repeat refine And.intro (by first | decide +kernel | omega | kernel_rfl) ?_); (try decide +kernel)
/-- the program's determinant of whole numbers -/
def dtZ (A : Nat → Nat → Int) (n : Nat) : Int := if (pel A n false ⟨ginit A n, A, 0⟩ n).s.piv.length < n then 0 else if (pel A n false ⟨ginit A n, A, 0⟩ n).sw % 2 = 1 then -lastG A (pel A n false ⟨ginit A n, A, 0⟩ n).s else lastG A (pel A n false ⟨ginit A n, A, 0⟩ n).s
set_option maxRecDepth 100000 in
set_option maxHeartbeats 4000000 in
theorem det1_p (R : List (List ZR)) (A : Nat → Nat → Int) {n K : Nat} (hr : R.length = n) (hR : ∀ k (h : k < R.length), R[k] = zrw A n k) (hn0 : 0 < n) (hn : n < 900000) (hA : ∀ st j, st < n → zl (A st j) ≤ K) (hK : 2 * bnd n K + 1 < 1099511627776) :
    PCall Tryz.prog 103 [.d (md (nrm 1, R))] (.one (.d (qd (nq (dtZ A n : Rat))))) := by
  have hof := fun nd => of_h (nrm 1, R) A (nid := nd) hr hR hn0 (by omega) (by omega)
  obtain ⟨P, hP⟩ : ∃ P, P = pel A n false ⟨ginit A n, A, 0⟩ := ⟨_, rfl⟩
  have hdn := fun (b nd : Nat) (h : b + 1 < nd) => down_h A (n := n) (r := n) (K := K) false n n n b (b + 1) nd (by omega) (by omega) (by omega) (by omega) hn (Nat.le_refl _) hA hK P hP
  have hPI : PI A n K false (P n) := hP ▸ (PI.init hA).pel hA hn n
  have hlK := hPI.lastK hA hn
  have hkn := hPI.g.k
  unfold dtZ
  rw [← hP]
  have hn2 : ¬ n = 0 := by omega
  simp only [if_neg hn2] at hof
  refine pcall_of hmo Tryz.func103 rfl (by kernel_rfl) (by simp [Tryz.ntmps103]) ?_; simp -implicitDefEqProofs [go_sem, Tryz.ntmps103]; (repeat refine And.intro (by first | decide +kernel | omega | kernel_rfl) ?_); (try decide +kernel)
  refine .inr ⟨[], _, _, hof _, by simp -implicitDefEqProofs [go_sem], ?_⟩
  simp -implicitDefEqProofs [go_sem, wbx]; (repeat refine And.intro (by first | decide +kernel | omega | kernel_rfl) ?_); (try decide +kernel)
  refine .inr ⟨_, _, _, hdn _ _ (by omega), by simp -implicitDefEqProofs [go_sem, wbx], ?_⟩
  have hp1 := pow1_p n (by omega)
  generalize P n = p at *
  by_cases hlt : p.s.piv.length < n
  · rw [if_pos hlt]
    simp -implicitDefEqProofs [go_sem, wbx, hlt]; (repeat refine And.intro (by first | decide +kernel | omega | kernel_rfl) ?_); (try decide +kernel)
    refine .inl ⟨_, qof_p 0 (by decide) (by decide), ?_⟩; simp -implicitDefEqProofs [go_sem]; (repeat refine And.intro (by first | decide +kernel | omega | kernel_rfl) ?_); (try decide +kernel)
  · rw [if_neg hlt]
    have hswt : ((p.sw : Int)).tmod 2 = ((p.sw % 2 : Nat) : Int) := by rw [Int.tmod_eq_emod_of_nonneg (by omega)]; omega
    have hm1 := make_p (nrm (lastG A p.s)) (nrm 1) (rz (by omega)) (rz (by decide)) (by rw [ofR_nrm]; decide)
    have hm2 := make_p (nrm (-lastG A p.s)) (nrm 1) (rz (by rw [zl_neg]; omega)) (rz (by decide)) (by rw [ofR_nrm]; decide)
    rw [ofR_nrm, ofR_nrm, ratv_one] at hm1 hm2
    have hng := neg_n (lastG A p.s) (by omega)
    by_cases hsw : p.sw % 2 = 1
    · rw [if_pos hsw]
      have hz : ((p.sw : Int)).tmod 2 = 1 := by rw [hswt, hsw]; rfl
      simp -implicitDefEqProofs [go_sem, wbx, hlt, hz]; (repeat refine And.intro (by first | decide +kernel | omega | kernel_rfl) ?_); (try decide +kernel)
      refine .inl ⟨_, hng, ?_⟩; simp -implicitDefEqProofs [go_sem]; (repeat refine And.intro (by first | decide +kernel | omega | kernel_rfl) ?_); (try decide +kernel)
      refine .inl ⟨_, hp1, ?_⟩; simp -implicitDefEqProofs [go_sem]; (repeat refine And.intro (by first | decide +kernel | omega | kernel_rfl) ?_); (try decide +kernel)
      refine .inl ⟨_, hm2, ?_⟩; simp -implicitDefEqProofs [go_sem]; (repeat refine And.intro (by first | decide +kernel | omega | kernel_rfl) ?_); (try decide +kernel)
    · rw [if_neg hsw]
      have hz : ¬ ((p.sw : Int)).tmod 2 = 1 := by rw [hswt]; omega
      simp -implicitDefEqProofs [go_sem, wbx, hlt, hz]; (repeat refine And.intro (by first | decide +kernel | omega | kernel_rfl) ?_); (try decide +kernel)
      refine .inl ⟨_, hp1, ?_⟩; simp -implicitDefEqProofs [go_sem]; (repeat refine And.intro (by first | decide +kernel | omega | kernel_rfl) ?_); (try decide +kernel)
      refine .inl ⟨_, hm1, ?_⟩; simp -implicitDefEqProofs [go_sem]; (repeat refine And.intro (by first | decide +kernel | omega | kernel_rfl) ?_); (try decide +kernel)
/-- a normal form's whole numbers -/
def enA (V : List (List Rat)) : Nat → Nat → Int := entry (nrmZ V)
theorem nm_rows {V : List (List Rat)} {n : Nat} (hr : ∀ r ∈ V, r.length = n) : ∀ k (h : k < (nm V).2.length), (nm V).2[k] = zrw (enA V) n k := fun k h => by
  have hk : k < V.length := by rw [nm_len] at h; exact h
  have hl := hr _ (List.getElem_mem hk)
  refine List.ext_getElem ?_ fun j h1 h2 => ?_
  · rw [zrw_len]; simp [nm, nrmZ, hl]
  · rw [zrw_get]
    have hj : j < V[k].length := by rw [zrw_len] at h2; omega
    simp [nm, nrmZ, enA, entry, hk, hj]
theorem enA_zl {V : List (List Rat)} {n r K : Nat} (h : Gm K (nm V)) (hl : V.length = r) (hr : ∀ v ∈ V, v.length = n) : ∀ st j, st < r → zl (enA V st j) ≤ K := fun st j hs => by
  by_cases hj : j < n
  · have hs2 : st < (nm V).2.length := by rw [nm_len]; omega
    have h1 := nm_rows hr st hs2
    have h2 : j < (zrw (enA V) n st).length := by rw [zrw_len]; exact hj
    have h3 : zl (ofR ((zrw (enA V) n st)[j]'h2)) ≤ K := h.k _ (h1 ▸ List.getElem_mem hs2) _ (List.getElem_mem h2)
    rw [zrw_get, ofR_nrm] at h3
    exact h3
  · have e : enA V st j = 0 := by
      unfold enA entry
      have hs2 : st < V.length := by omega
      have hl2 := hr _ (List.getElem_mem hs2)
      have h1 : ((nrmZ V)[st]?).getD [] = (V[st].map fun q => comNum (nrmD V) q) := by simp [nrmZ, hs2]
      rw [h1, List.getElem?_eq_none (by rw [List.length_map]; omega)]
      rfl
    rw [e]
    exact Nat.le_trans (by decide) (Nat.zero_le _)
end Go.Mt
/-
  A part of the proof.
-/
set_option linter.unusedSimpArgs false
set_option linter.unusedVariables false
namespace Go.Mt
/-! the elimination of rows that are so much of others': the same pivots, the same rows at last -/
/-- d times the rows that have no pivot -/
structure Sc (d : Rat) (s u : Gs) : Prop where
  o : u.out = s.out
  p : u.piv = s.piv
  top : ∀ st, st ∈ s.out.take s.piv.length → ∀ j, u.X st j = s.X st j
  bot : ∀ st, st ∈ s.out → st ∉ s.out.take s.piv.length → ∀ j, u.X st j = d * s.X st j
theorem findIdx_congr2 {l : List Nat} {p q : Nat → Bool} (h : ∀ x ∈ l, p x = q x) : l.findIdx p = l.findIdx q := by
  induction l with
  | nil => rfl
  | cons x l ih =>
    rw [List.findIdx_cons, List.findIdx_cons, h x List.mem_cons_self, ih fun y hy => h y (List.mem_cons_of_mem _ hy)]
theorem drop_not {l : List Nat} (hn : l.Nodup) {k st : Nat} (hk : k ≤ l.length) (h : st ∈ l.drop k) : st ∉ l.take k := fun hm => by
  obtain ⟨i, hi, e⟩ := List.getElem_of_mem h
  rw [List.length_drop] at hi
  rw [List.getElem_drop] at e
  rw [← e, ← oo_get (by omega)] at hm
  have := (oo_take hn (by omega) hk).1 hm
  omega
variable {A : Nat → Nat → Int} {r : Nat} {s u : Gs} {d : Rat}
theorem Sc.fnd (h : Sc d s u) (hg : GI A r s) (hd : d ≠ 0) (c : Nat) : Go.Mt.fnd u c = Go.Mt.fnd s c := by
  have hk := hg.k
  have hl := hg.len
  unfold Go.Mt.fnd
  rw [h.o, h.p]
  congr 1
  refine findIdx_congr2 fun st hst => ?_
  rw [h.bot st (List.mem_of_mem_drop hst) (drop_not hg.nod (by omega) hst)]
  by_cases h0 : s.X st c = 0
  · simp [h0]
  · have : d * s.X st c ≠ 0 := fun h1 => by
      rcases Rat.mul_eq_zero.1 h1 with h2 | h2
      · exact hd h2
      · exact h0 h2
    simp [h0, this]
theorem Sc.step (h : Sc d s u) (hg : GI A r s) (hd : d ≠ 0) (c : Nat) : Sc d (gstep s c) (gstep u c) := by
  have hf := h.fnd hg hd c
  have hk := hg.k
  have hl := hg.len
  by_cases h1 : Go.Mt.fnd s c < s.out.length
  · have hgf := fnd_ge s c
    have hp : pvt u c = pvt s c := by unfold pvt; rw [hf, h.o]
    have hpm : pvt s c ∈ s.out := oo_mem h1
    have hpn : pvt s c ∉ s.out.take s.piv.length := fun hm => by
      have := (oo_take hg.nod h1 (by omega)).1 hm
      omega
    have hne := fnd_ne h1
    have hb := h.bot _ hpm hpn
    have e1 : gstep s c = ⟨swL s.out s.piv.length (Go.Mt.fnd s c), fun st j => if st = pvt s c then s.X (pvt s c) j / s.X (pvt s c) c else s.X st j - s.X st c * (s.X (pvt s c) j / s.X (pvt s c) c), s.piv ++ [c]⟩ := if_pos h1
    have e2 : gstep u c = ⟨swL s.out s.piv.length (Go.Mt.fnd s c), fun st j => if st = pvt s c then u.X (pvt s c) j / u.X (pvt s c) c else u.X st j - u.X st c * (u.X (pvt s c) j / u.X (pvt s c) c), s.piv ++ [c]⟩ := by
      unfold gstep
      rw [hf, h.o, h.p, hp, if_pos h1]
    have hq : ∀ j, u.X (pvt s c) j / u.X (pvt s c) c = s.X (pvt s c) j / s.X (pvt s c) c := fun j => by
      have hne : s.X (pvt s c) c ≠ 0 := hne
      rw [hb, hb]
      have h3 : d * s.X (pvt s c) c ≠ 0 := fun h3 => by
        rcases Rat.mul_eq_zero.1 h3 with h4 | h4
        · exact hd h4
        · exact hne h4
      obtain ⟨q, hq⟩ : ∃ q, q = s.X (pvt s c) j / s.X (pvt s c) c := ⟨_, rfl⟩
      have hqm : q * s.X (pvt s c) c = s.X (pvt s c) j := by rw [hq]; exact Rat.div_mul_cancel hne
      rw [← hq, ← hqm]
      have : d * (q * s.X (pvt s c) c) = q * (d * s.X (pvt s c) c) := by grind
      rw [this]
      exact Rat.mul_div_cancel h3
    rw [e1, e2]
    refine ⟨rfl, rfl, fun st hst j => ?_, fun st hst hn j => ?_⟩
    · have hm : st ∈ (swL s.out s.piv.length (Go.Mt.fnd s c)).take (s.piv.length + 1) := by
        have : (s.piv ++ [c]).length = s.piv.length + 1 := by rw [List.length_append, List.length_singleton]
        rw [← this]; exact hst
      show (if st = pvt s c then _ else _) = (if st = pvt s c then _ else _)
      by_cases h3 : st = pvt s c
      · rw [if_pos h3, if_pos h3, hq]
      · rw [if_neg h3, if_neg h3, hq]
        rcases (hg.take' h1 st).1 hm with h4 | h4
        · rw [h.top st h4, h.top st h4]
        · exact absurd h4 h3
    · have hst : st ∈ swL s.out s.piv.length (Go.Mt.fnd s c) := hst
      have hm : st ∉ (swL s.out s.piv.length (Go.Mt.fnd s c)).take (s.piv.length + 1) := by
        have : (s.piv ++ [c]).length = s.piv.length + 1 := by rw [List.length_append, List.length_singleton]
        rw [← this]; exact hn
      have h3 : st ≠ pvt s c := fun h3 => hm ((hg.take' h1 st).2 (.inr h3))
      have h4 : st ∉ s.out.take s.piv.length := fun h4 => hm ((hg.take' h1 st).2 (.inl h4))
      have h5 := h.bot st (swL_mem (by omega) h1 st hst) h4
      show (if st = pvt s c then _ else _) = d * (if st = pvt s c then _ else _)
      rw [if_neg h3, if_neg h3, hq, h5, h5]
      grind
  · have e1 : gstep s c = s := if_neg h1
    have e2 : gstep u c = u := by unfold gstep; rw [hf, h.o, if_neg h1]
    rw [e1, e2]; exact h
theorem Sc.gel (h : Sc d s u) (hg : GI A r s) (hd : d ≠ 0) (n : Nat) : Sc d (gel s n) (gel u n) := by
  induction n with
  | zero => exact h
  | succ n ih => rw [gel_succ, gel_succ]; exact ih.step (hg.gel n) hd n
end Go.Mt
/-
  A part of the proof.
-/
set_option linter.unusedSimpArgs false
set_option linter.unusedVariables false
namespace Go.Mt
open Go Go.Pm Go.Proofs
/-- whole numbers are their own normal form -/
theorem nrmD_int (zss : List (List Int)) : nrmD (fracs 1 zss) = 1 := by
  unfold nrmD
  refine Nat.dvd_one.1 (comDen_dvd _ 1 fun q hq => ?_)
  obtain ⟨r, hr, hq⟩ := List.mem_flatten.1 hq
  obtain ⟨zs, _, rfl⟩ := List.mem_map.1 hr
  obtain ⟨z, _, rfl⟩ := List.mem_map.1 hq
  rw [ratv_one]
  exact Nat.dvd_refl 1
theorem comNum_int (z : Int) : comNum 1 (ratv z 1) = z := by
  rw [ratv_one]
  show z * ((1 / 1 : Nat) : Int) = z
  exact Int.mul_one z
theorem nrmZ_int (zss : List (List Int)) : nrmZ (fracs 1 zss) = zss := by
  unfold nrmZ
  rw [nrmD_int]
  unfold fracs
  rw [List.map_map]
  conv => rhs; rw [← List.map_id zss]
  refine List.map_congr_left fun r _ => ?_
  simp only [Function.comp, List.map_map, id]
  conv => rhs; rw [← List.map_id r]
  exact List.map_congr_left fun z _ => comNum_int z
theorem nm_int (zss : List (List Int)) : nm (fracs 1 zss) = (nrm 1, zss.map fun r => r.map nrm) := by
  unfold nm
  rw [nrmD_int, nrmZ_int]
  rfl
end Go.Mt
/-
  A part of the proof.
-/
set_option linter.unusedSimpArgs false
set_option linter.unusedVariables false
namespace Go.Mt
open Go Go.Pm Go.Proofs
set_option maxRecDepth 100000 in
set_option maxHeartbeats 4000000 in
theorem square_p (m : MR) {n K : Nat} (hm : Gm K m) (hr : m.2.length = n) (hc : colsOf m.2 = n) (hn0 : 0 < n) (hn : n < 900000) :
    PCall Tryz.prog 102 [.d (md m)] (.tup [.d (md (nm (valM m))), .d (.v (.int .i64 0))]) := by
  have he : checkE m = 0 := by unfold checkE; rw [if_neg hm.ne, if_pos hm.ev]
  have hno := normm_p m hm.d hm.g he
  have hl : (nm (valM m)).2.length = n := by rw [nm_len, valM_len]; exact hr
  have hc2 : ∀ (h : 0 < (nm (valM m)).2.length), (nm (valM m)).2[0].length = n := fun h => by
    have h1 : 0 < (valM m).length := by rw [nm_len] at h; exact h
    have h2 : ∀ v ∈ valM m, v.length = n := fun v hv => by
      rw [valM_rows] at hv
      obtain ⟨r0, h1, rfl⟩ := List.mem_map.1 hv
      rw [valR_len, even_all hm.ev r0 h1]; exact hc
    simp [nm, nrmZ, h2 _ (List.getElem_mem h1)]
  generalize nm (valM m) = M at *
  obtain ⟨d, R⟩ := M
  have hl : R.length = n := hl
  obtain ⟨r0, R, rfl⟩ : ∃ r0 R', R = r0 :: R' := by cases R with
    | nil => simp at hl; omega
    | cons a b => exact ⟨a, b, rfl⟩
  have hr0 : r0.length = n := hc2 (by simp)
  have h1 : ¬ ((R.length : Int) + 1 = 0) := by omega
  have h2 : ((r0.length : Nat) : Int) = (R.length : Int) + 1 := by rw [hr0, ← hl, List.length_cons]; omega
  have hz : (zes r0).length = r0.length := by simp [zes]
  refine pcall_of hmo Tryz.func102 rfl (by kernel_rfl) (by simp [Tryz.ntmps102]) ?_; simp -implicitDefEqProofs [go_sem, Tryz.ntmps102]; (repeat refine And.intro (by first | decide +kernel | omega | kernel_rfl) ?_); (try decide +kernel)
  refine .inl ⟨_, hno, ?_⟩; simp -implicitDefEqProofs [go_sem, md, rws, h1, h2, hz, undef]; (repeat refine And.intro (by first | decide +kernel | omega | kernel_rfl) ?_); (try decide +kernel)
end Go.Mt
/-
  A part of the proof.
-/
set_option linter.unusedSimpArgs false
set_option linter.unusedVariables false
namespace Go.Mt
open Go Go.Pm Go.Proofs
theorem num12_p (e : Int) : PCall Tryz.prog 28 [.d (.v (.int .i64 e))] (.one (.d (.v (.int .i64 e)))) := by
  refine pcall_of hmo Tryz.func28 rfl (by kernel_rfl) (by simp [Tryz.ntmps28]) ?_; simp -implicitDefEqProofs [go_sem, Tryz.ntmps28]; (repeat refine And.intro (by first | decide +kernel | omega | kernel_rfl) ?_); (try decide +kernel)
end Go.Mt
