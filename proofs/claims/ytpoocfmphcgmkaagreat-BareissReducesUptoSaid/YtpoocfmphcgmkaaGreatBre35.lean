/-
  A part of the proof.
-/
import Derived.Test.YtpoocfmphcgmkaaGreatBre24
import Derived.Test.YtpoocfmphcgmkaaGreatBre34
set_option linter.unusedVariables false
set_option linter.unusedSimpArgs false
set_option linter.unusedSimpArgs false
set_option linter.unusedVariables false
namespace Go.Mt
open Go Go.Pm Go.Proofs
/-- the rows, by where they stood first -/
def tbZ (Z : Nat → Nat → Int) (n r : Nat) : List (Option (List (List D))) := (List.range r).map fun st => some (zes (zrw Z n st))
def wbx (t ver cw : Nat) (last : Int) (pv : PV) (sw : Nat) : List PV := [.st t ver, .d (.v (.int .i64 (cw : Int))), .d (.v (.bool (nrm last).1)), .d (.sl (les (nrm last).2)), pv, .d (.v (.int .i64 (sw : Int)))]
theorem tbZ_get (Z : Nat → Nat → Int) {n r st : Nat} (h : st < r) : (tbZ Z n r)[st]? = some (some (zes (zrw Z n st))) := by unfold tbZ; simp [h]
theorem zes_get (Z : Nat → Nat → Int) {n st j : Nat} (h : j < n) : (zes (zrw Z n st))[j]? = some (zel (nrm (Z st j))) := by unfold zes zrw; simp [h]
def updZ (Z : Nat → Nat → Int) (st j : Nat) (v : Int) : Nat → Nat → Int := fun st' j' => if st' = st ∧ j' = j then v else Z st' j'
theorem zrw_set (Z : Nat → Nat → Int) {n st j : Nat} (h : j < n) (v : Int) : (zes (zrw Z n st)).set j (zel (nrm v)) = zes (zrw (updZ Z st j v) n st) := by
  refine List.ext_getElem? fun i => ?_
  by_cases hi : i < n
  · rw [zes_get _ hi, List.getElem?_set]
    have hl : (zes (zrw Z n st)).length = n := by rw [zes_len, zrw_len]
    by_cases hij : j = i
    · subst hij
      rw [if_pos rfl, if_pos (by omega)]
      unfold updZ; rw [if_pos ⟨rfl, rfl⟩]
    · rw [if_neg hij, zes_get _ hi]
      unfold updZ; rw [if_neg (by omega)]
  · rw [List.getElem?_eq_none (by rw [List.length_set, zes_len, zrw_len]; omega), List.getElem?_eq_none (by rw [zes_len, zrw_len]; omega)]
theorem tbZ_set (Z : Nat → Nat → Int) {n r st j : Nat} (hs : st < r) (h : j < n) (v : Int) : (tbZ Z n r).set st (some ((zes (zrw Z n st)).set j (zel (nrm v)))) = tbZ (updZ Z st j v) n r := by
  rw [zrw_set Z h v]
  refine List.ext_getElem? fun i => ?_
  by_cases hi : i < r
  · rw [tbZ_get _ hi, List.getElem?_set]
    have hl : (tbZ Z n r).length = r := by unfold tbZ; simp
    by_cases hij : st = i
    · subst hij; rw [if_pos rfl, if_pos (by omega)]
    · rw [if_neg hij, tbZ_get _ hi]
      congr 3
      unfold zrw
      refine List.map_congr_left fun k _ => ?_
      unfold updZ; rw [if_neg (by omega)]
  · rw [List.getElem?_eq_none (by rw [List.length_set]; unfold tbZ; simp; omega), List.getElem?_eq_none (by unfold tbZ; simp; omega)]
/-- what is made of a row -/
def stZ (Z : Nat → Nat → Int) (t c : Nat) (last : Int) : Nat → Nat → Int := fun st j => (Z st j * Z t c - Z t j * Z st c) / last
/-- some rows are made so, one of them in part -/
def mxZ (Z N : Nat → Nat → Int) (D : List Nat) : Nat → Nat → Int := fun st j => if st ∈ D then N st j else Z st j
def mjZ (Z N : Nat → Nat → Int) (s j : Nat) : Nat → Nat → Int := fun st' j' => if st' = s ∧ j' < j then N st' j' else Z st' j'
theorem mj_succ (Z N : Nat → Nat → Int) (s j : Nat) : updZ (mjZ Z N s j) s j (N s j) = mjZ Z N s (j + 1) := by
  funext st' j'; unfold updZ mjZ
  by_cases h : st' = s ∧ j' = j
  · rw [if_pos h, if_pos ⟨h.1, by omega⟩, h.1, h.2]
  · rw [if_neg h]
    by_cases h2 : st' = s ∧ j' < j
    · rw [if_pos h2, if_pos ⟨h2.1, by omega⟩]
    · rw [if_neg h2, if_neg (by omega)]
theorem mj_zero (Z N : Nat → Nat → Int) (s : Nat) : mjZ Z N s 0 = Z := by funext st' j'; unfold mjZ; rw [if_neg (by omega)]
theorem tbZ_congr {Z W : Nat → Nat → Int} {n r : Nat} (h : ∀ st j, st < r → j < n → Z st j = W st j) : tbZ Z n r = tbZ W n r := by
  unfold tbZ zrw
  refine List.map_congr_left fun st hs => ?_
  congr 2
  exact List.map_congr_left fun j hj => by rw [h st j (List.mem_range.1 hs) (List.mem_range.1 hj)]
/-- the places that were done -/
def dnL (out : List Nat) (f i t : Nat) : List Nat := ((out.take i).drop f).filter fun st => decide (st ≠ t)
theorem dnL_le (out : List Nat) (f t : Nat) : dnL out f f t = [] := by unfold dnL; rw [List.drop_of_length_le (by rw [List.length_take]; omega)]; rfl
theorem dnL_succ {out : List Nat} {f i t : Nat} (hf : f ≤ i) (hi : i < out.length) : dnL out f (i + 1) t = dnL out f i t ++ if oo out i = t then [] else [oo out i] := by
  unfold dnL
  rw [List.take_add_one, List.getElem?_eq_getElem hi, oo_get hi]
  show ((out.take i ++ [out[i]]).drop f).filter _ = _
  rw [List.drop_append_of_le_length (by rw [List.length_take]; omega), List.filter_append]
  by_cases h : out[i] = t
  · rw [if_pos h, List.filter_cons_of_neg (by simpa using h)]; rfl
  · rw [if_neg h, List.filter_cons_of_pos (by simpa using h)]; rfl
theorem dnL_mem {out : List Nat} {f i t x : Nat} (h : x ∈ dnL out f i t) : x ≠ t ∧ ∃ i', i' < i ∧ i' < out.length ∧ x = oo out i' := by
  unfold dnL at h
  obtain ⟨h1, h2⟩ := List.mem_filter.1 h
  refine ⟨of_decide_eq_true h2, ?_⟩
  obtain ⟨j, hj, e⟩ := List.getElem_of_mem (List.mem_of_mem_drop h1)
  rw [List.length_take] at hj
  rw [List.getElem_take] at e
  exact ⟨j, by omega, by omega, by rw [oo_get (by omega)]; exact e.symm⟩
set_option maxRecDepth 100000 in
set_option maxHeartbeats 4000000 in
theorem step_h (Z : Nat → Nat → Int) {n r K : Nat} {out : List Nat} {k c f : Nat} {last : Int} {ver cw sw vp b t p nid : Nat} {pe : List (List D)}
    (hb : b < nid) (ht : t < nid) (hp : p < nid) (hbt : b ≠ t) (hbp : b ≠ p) (htp : t ≠ p)
    (hol : out.length = r) (hon : out.Nodup) (hom : ∀ st ∈ out, st < r) (hr : r < 549755813888) (hn : n < 549755813888) (hk : k < r) (hc : c < n) (hf : f ≤ r)
    (hZ : ∀ st j, st < r → zl (Z st j) ≤ K) (hK : 2 * K + 1 < 1099511627776) (h0 : last ≠ 0) (hl : zl last ≤ K)
    (hd : ∀ i j, f ≤ i → i < r → i ≠ k → last ∣ (Z (oo out i) j * Z (oo out k) c - Z (oo out k) j * Z (oo out i) c)) :
    HCall Tryz.prog 153 [.pr b 0 0 0, .d (.v (.int .i64 (k : Int))), .d (.v (.int .i64 (c : Int))), .d (.v (.int .i64 (f : Int)))]
      [(b, .box (wbx t ver cw last (.sr p vp) sw)), (t, .tab ⟨27, 26, 2, ver, false, out, tbZ Z n r⟩), (p, .arr ⟨3, 1, vp, false, pe⟩)] nid (.tup [])
      [(b, .box (wbx t ver cw (Z (oo out k) c) (.sr p vp) sw)), (t, .tab ⟨27, 26, 2, ver, false, out, tbZ (mxZ Z (stZ Z (oo out k) c last) (dnL out f r (oo out k))) n r⟩), (p, .arr ⟨3, 1, vp, false, pe⟩)] := by
  have F : ¬ b = t ∧ ¬ t = b ∧ ¬ b = p ∧ ¬ p = b ∧ ¬ t = p ∧ ¬ p = t ∧ (∀ x, ¬ nid + x = b) ∧ (∀ x, ¬ nid + x = t) ∧ (∀ x, ¬ nid + x = p) ∧ (∀ x, ¬ b = nid + x) ∧ (∀ x, ¬ t = nid + x) ∧ (∀ x, ¬ p = nid + x) ∧ ¬ nid = b ∧ ¬ nid = t ∧ ¬ nid = p ∧ ¬ b = nid ∧ ¬ t = nid ∧ ¬ p = nid :=
    ⟨hbt, Ne.symm hbt, hbp, Ne.symm hbp, htp, Ne.symm htp, fun x => by omega, fun x => by omega, fun x => by omega, fun x => by omega, fun x => by omega, fun x => by omega, by omega, by omega, by omega, by omega, by omega, by omega⟩
  have Flt : b < nid ∧ t < nid ∧ p < nid := ⟨hb, ht, hp⟩
  obtain ⟨u, hu⟩ : ∃ u, u = oo out k := ⟨_, rfl⟩
  have hgk : out[k]? = some u := by rw [hu, oo_get (by omega), List.getElem?_eq_getElem]
  have hur : u < r := hom u (hu ▸ oo_mem (by omega))
  have hko : k < out.length := by omega
  rw [← hu] at hd ⊢
  refine hcall_of (L := []) hmo Tryz.func153 rfl (by kernel_rfl) (by simp [Tryz.ntmps153]) (by simp -implicitDefEqProofs [go_sem, wbx]; omega) (by simp -implicitDefEqProofs [go_sem]; omega) ?_
  have hrk := tbZ_get Z (n := n) hur
  have ERk := elemR_t hgk hrk
  have RAk := rowAt_t hrk
  have RWk := row_t hrk
  have hck := zes_get Z (st := u) hc
  have hck2 := fun h => (List.getElem_eq_iff (h := h)).2 hck
  have hzl : ∀ W st, (zes (zrw W n st)).length = n := fun W st => by rw [zes_len, zrw_len]
  simp -implicitDefEqProofs [go_sem, Tryz.ntmps153, wbx, F, ERk, RAk, RWk, hck, hck2, hzl, hc, hk, hko]
  obtain ⟨N, hN⟩ : ∃ N, N = stZ Z u c last := ⟨_, rfl⟩
  rw [← hN]
  have hmx0 : mxZ Z N [] = Z := funext fun st => funext fun j => if_neg List.not_mem_nil
  refine loop_rule [] (fun (i : Nat) => ⟨100, [(0, .pr b 0 0 0), (1, intP .i64 (k : Int)), (2, intP .i64 (c : Int)), (8, .pr (nid + 40) 0 0 0), (9, intP .i64 (i : Int))],
      [(nid + 40, .box [.d (.v (.bool (nrm (Z u c)).1)), .d (.sl (les (nrm (Z u c)).2))]), (b, .box (wbx t ver cw last (.sr p vp) sw)), (t, .tab ⟨27, 26, 2, ver, false, out, tbZ (mxZ Z N (dnL out f i u)) n r⟩), (p, .arr ⟨3, 1, vp, false, pe⟩)], nid + 1000⟩)
    (fun i => f ≤ i ∧ i ≤ r) (fun i => r - i) f ⟨Nat.le_refl _, hf⟩ (by simp) (by simp -implicitDefEqProofs [go_sem, wbx, F, dnL_le, hmx0]; omega) (fun i ⟨hfi, hi⟩ => ?_)
  by_cases hil : i < r
  · have hio : i < out.length := by omega
    have hds := dnL_succ (t := u) hfi hio
    by_cases hik : i = k
    · have ho : oo out i = u := by rw [hik, hu]
      rw [if_pos ho, List.append_nil] at hds
      subst hik
      simp -implicitDefEqProofs [go_sem, wbx, F, Nat.add_assoc, hol, hil]; (repeat refine And.intro (by first | decide +kernel | omega | kernel_rfl) ?_); (try decide +kernel)
      refine ⟨i + 1, ⟨by omega, by omega⟩, by omega, ?_⟩
      simp -implicitDefEqProofs [go_sem, wbx, F, Nat.add_assoc, hds]
      omega
    · have hikz : ¬ (i : Int) = (k : Int) := by omega
      obtain ⟨o, ho⟩ : ∃ o, o = oo out i := ⟨_, rfl⟩
      have hou : o ≠ u := fun h => hik (oo_inj hon hio hko (by rw [← ho, ← hu]; exact h))
      have hor : o < r := hom o (ho ▸ oo_mem hio)
      have hgi : out[i]? = some o := by rw [ho, oo_get hio, List.getElem?_eq_getElem]
      rw [← ho, if_neg hou] at hds
      have hoD : o ∉ dnL out f i u := fun h => by
        obtain ⟨_, i', h1, h2, h3⟩ := dnL_mem h
        have := oo_inj hon hio h2 (by rw [← ho]; exact h3)
        omega
      have huD : u ∉ dnL out f i u := fun h => (dnL_mem h).1 rfl
      have hWo : ∀ j, mxZ Z N (dnL out f i u) o j = Z o j := fun j => if_neg hoD
      have hWu : ∀ j, mxZ Z N (dnL out f i u) u j = Z u j := fun j => if_neg huD
      have hdi : ∀ j, last ∣ (Z o j * Z u c - Z u j * Z o c) := fun j => by rw [ho]; exact hd i j hfi hil hik
      have hend : tbZ (mjZ (mxZ Z N (dnL out f i u)) N o n) n r = tbZ (mxZ Z N (dnL out f (i + 1) u)) n r := tbZ_congr fun st j hst hj => by
        rw [hds]
        unfold mjZ mxZ
        by_cases h1 : st = o
        · rw [if_pos ⟨h1, hj⟩, if_pos (by rw [h1]; simp)]
        · rw [if_neg (by omega)]
          have : st ∈ dnL out f i u ++ [o] ↔ st ∈ dnL out f i u := by simp [h1]
          simp only [this]
      generalize mxZ Z N (dnL out f i u) = W at *
      have hro := tbZ_get W (n := n) hor
      have ERo := elemR_t hgi hro
      have RAo := rowAt_t hro
      have RWo := row_t hro
      have hco := zes_get W (st := o) hc
      have hco2 := fun h => (List.getElem_eq_iff (h := h)).2 hco
      rw [hWo] at hco hco2
      simp -implicitDefEqProofs [go_sem, wbx, F, Nat.add_assoc, hol, hil, hikz, ERo, RAo, RWo, hco, hco2, hzl, hc, hio]; (repeat refine And.intro (by first | decide +kernel | omega | kernel_rfl) ?_); (try decide +kernel)
      refine loop_rule [] (fun (j : Nat) => ⟨100, [(0, .pr b 0 0 0), (1, intP .i64 (k : Int)), (2, intP .i64 (c : Int)), (8, .pr (nid + 40) 0 0 0), (9, intP .i64 (i : Int)), (10, .pr (nid + 1080) 0 0 0), (52, intP .i64 (n : Int)), (53, intP .i64 (j : Int))],
          [(nid + 1080, .box [.d (.v (.bool (nrm (Z o c)).1)), .d (.sl (les (nrm (Z o c)).2))]), (nid + 40, .box [.d (.v (.bool (nrm (Z u c)).1)), .d (.sl (les (nrm (Z u c)).2))]), (b, .box (wbx t ver cw last (.sr p vp) sw)), (t, .tab ⟨27, 26, 2, ver, false, out, tbZ (mjZ W N o j) n r⟩), (p, .arr ⟨3, 1, vp, false, pe⟩)], nid + 2000⟩)
        (fun j => j ≤ n) (fun j => n - j) 0 (Nat.zero_le _) (by simp) (by simp -implicitDefEqProofs [go_sem, wbx, F, Nat.add_assoc, mj_zero]; omega) (fun j hj => ?_)
      by_cases hjl : j < n
      · have hNj : N o j = (Z o j * Z u c - Z u j * Z o c) / last := by rw [hN]; rfl
        have hms := mj_succ W N o j
        have hVo : mjZ W N o j o j = Z o j := by unfold mjZ; rw [if_neg (by omega)]; exact hWo j
        have hVu : mjZ W N o j u j = Z u j := by unfold mjZ; rw [if_neg (by omega)]; exact hWu j
        have hts := tbZ_set (mjZ W N o j) hor hjl (N o j)
        rw [hms] at hts
        have z1 := hZ o j hor
        have z2 := hZ u c hur
        have z3 := hZ u j hur
        have z4 := hZ o c hor
        have m1 := mul_n (Z o j) (Z u c) (by omega) (by omega)
        have m2 := mul_n (Z u j) (Z o c) (by omega) (by omega)
        have l1 := zl_mul (Z o j) (Z u c)
        have l2 := zl_mul (Z u j) (Z o c)
        have su := sub_n (Z o j * Z u c) (Z u j * Z o c) (by omega) (by omega)
        have l3 : zl (Z o j * Z u c - Z u j * Z o c) ≤ max (zl (Z o j * Z u c)) (zl (Z u j * Z o c)) + 1 := by
          have h := zl_add (Z o j * Z u c) (-(Z u j * Z o c))
          rw [zl_neg] at h; exact h
        have wh := whole_n (Z o j * Z u c - Z u j * Z o c) last (by omega) (by omega) h0 (hdi j)
        rw [← hNj] at wh
        generalize hV : mjZ W N o j = V at *
        have hro := tbZ_get V (n := n) hor
        have hru := tbZ_get V (n := n) hur
        have ERo := elemR_t hgi hro
        have RAo := rowAt_t hro
        have ERu := elemR_t hgk hru
        have RAu := rowAt_t hru
        have hco := zes_get V (st := o) hjl
        have hcu := zes_get V (st := u) hjl
        rw [hVo] at hco
        rw [hVu] at hcu
        have hco2 := fun h => (List.getElem_eq_iff (h := h)).2 hco
        have hcu2 := fun h => (List.getElem_eq_iff (h := h)).2 hcu
        simp -implicitDefEqProofs [go_sem, wbx, F, Nat.add_assoc, hV, hjl, ERo, RAo, ERu, RAu, hco, hco2, hcu, hcu2, hzl, hio, hko]; (repeat refine And.intro (by first | decide +kernel | omega | kernel_rfl) ?_); (try decide +kernel)
        refine .inl ⟨_, m1, ?_⟩; simp -implicitDefEqProofs [go_sem, wbx, F, Nat.add_assoc, hV, hjl, ERo, RAo, ERu, RAu, hco, hco2, hcu, hcu2, hzl, hio, hko]; (repeat refine And.intro (by first | decide +kernel | omega | kernel_rfl) ?_); (try decide +kernel)
        refine .inl ⟨_, m2, ?_⟩; simp -implicitDefEqProofs [go_sem, wbx, F, Nat.add_assoc, hV, hjl, ERo, RAo, ERu, RAu, hco, hco2, hcu, hcu2, hzl, hio, hko]; (repeat refine And.intro (by first | decide +kernel | omega | kernel_rfl) ?_); (try decide +kernel)
        refine .inl ⟨_, su, ?_⟩; simp -implicitDefEqProofs [go_sem, wbx, F, Nat.add_assoc, hV, hjl, ERo, RAo, ERu, RAu, hco, hco2, hcu, hcu2, hzl, hio, hko]; (repeat refine And.intro (by first | decide +kernel | omega | kernel_rfl) ?_); (try decide +kernel)
        refine .inl ⟨_, wh, ?_⟩; simp -implicitDefEqProofs [go_sem, wbx, F, Nat.add_assoc, hV, hjl, ERo, RAo, ERu, RAu, hco, hco2, hcu, hcu2, hzl, hio, hko]; (repeat refine And.intro (by first | decide +kernel | omega | kernel_rfl) ?_); (try decide +kernel)
        refine ⟨j + 1, ?_⟩; (repeat' apply And.intro) <;> first | omega | (exact hts) | assumption | rfl
      · obtain rfl : j = n := by omega
        simp -implicitDefEqProofs [go_sem, wbx, F, Nat.add_assoc]; (repeat refine And.intro (by first | decide +kernel | omega | kernel_rfl) ?_); (try decide +kernel)
        refine ⟨i + 1, ?_⟩; (repeat' apply And.intro) <;> first | omega | (exact hend) | assumption | rfl
  · obtain rfl : i = r := by omega
    simp -implicitDefEqProofs [go_sem, wbx, F, Nat.add_assoc, hol]; (repeat refine And.intro (by first | decide +kernel | omega | kernel_rfl) ?_); (try decide +kernel)
end Go.Mt
/-
  A part of the proof.
-/
set_option linter.unusedSimpArgs false
set_option linter.unusedVariables false
namespace Go.Mt
/-- the program's state: the elimination's, the rows' numbers, how many exchanges -/
structure Ps where
  s : Gs
  T : Nat → Nat → Int
  sw : Nat
def frm (full : Bool) (k : Nat) : Nat := if full then 0 else k + 1
def pstep (A : Nat → Nat → Int) (r : Nat) (full : Bool) (p : Ps) (c : Nat) : Ps :=
  if fnd p.s c < p.s.out.length then
    ⟨gstep p.s c, mxZ p.T (stZ p.T (pvt p.s c) c (lastG A p.s)) (dnL (swL p.s.out p.s.piv.length (fnd p.s c)) (frm full p.s.piv.length) r (pvt p.s c)), p.sw + if p.s.piv.length < fnd p.s c then 1 else 0⟩
  else p
/-- the bound on all numbers -/
def bnd (r K : Nat) : Nat := (r + 2) * (K + 3) + 1
structure PI (A : Nat → Nat → Int) (r K : Nat) (full : Bool) (p : Ps) : Prop where
  g : GI A r p.s
  v : ∀ st ∈ p.s.out, (full = true ∨ st ∉ p.s.out.take p.s.piv.length) → ∀ j, (p.T st j : Rat) = (lastG A p.s : Rat) * p.s.X st j
  b : ∀ st j, st < r → zl (p.T st j) ≤ bnd r K
variable {A : Nat → Nat → Int} {r K : Nat} {full : Bool} {p : Ps}
theorem PI.init (hA : ∀ st j, st < r → zl (A st j) ≤ K) : PI A r K full ⟨ginit A r, A, 0⟩ := by
  refine ⟨.init A r, fun st _ _ j => ?_, fun st j hs => ?_⟩
  · show (A st j : Rat) = ((1 : Int) : Rat) * (A st j : Rat)
    show (A st j : Rat) = (1 : Rat) * (A st j : Rat)
    rw [Rat.one_mul]
  · have := hA st j hs
    have : 1 * (K + 3) ≤ (r + 2) * (K + 3) := Nat.mul_le_mul_right _ (by omega)
    show zl (A st j) ≤ bnd r K
    unfold bnd; omega
theorem PI.lastK (h : PI A r K full p) (hA : ∀ st j, st < r → zl (A st j) ≤ K) (hr : r < 900000) : zl (lastG A p.s) ≤ bnd r K := by
  have hk := h.g.k
  have := h.g.lastK hA (by omega)
  have : p.s.piv.length * (K + 3) ≤ (r + 2) * (K + 3) := Nat.mul_le_mul_right _ (by omega)
  unfold bnd; omega
theorem PI.piv (h : PI A r K full p) {c : Nat} (hf : fnd p.s c < p.s.out.length) : lastG A (gstep p.s c) = p.T (pvt p.s c) c := by
  have hg := fnd_ge p.s c
  have hl := h.g.len
  have hn : pvt p.s c ∉ p.s.out.take p.s.piv.length := fun hm => by
    have := (oo_take h.g.nod hf (by omega)).1 hm
    omega
  have hv := h.v _ (oo_mem hf) (.inr hn) c
  exact Rat.intCast_inj.1 ((h.g.last' hf).trans hv.symm)
/-- a row's numbers after the step -/
theorem PI.new (h : PI A r K full p) {c : Nat} (hf : fnd p.s c < p.s.out.length) {st : Nat} (hs : st ∈ p.s.out) (hfr : full = true ∨ st ∉ p.s.out.take p.s.piv.length) (hst : st ≠ pvt p.s c) (hA : ∀ st j, st < r → zl (A st j) ≤ K) (hr : r < 900000) (j : Nat) :
    ∃ z, p.T st j * p.T (pvt p.s c) c - p.T (pvt p.s c) j * p.T st c = lastG A p.s * z ∧ (z : Rat) = (lastG A (gstep p.s c) : Rat) * (gstep p.s c).X st j ∧ zl z ≤ bnd r K := by
  have hg := fnd_ge p.s c
  have hl := h.g.len
  have h' := h.g.step c
  have hn : pvt p.s c ∉ p.s.out.take p.s.piv.length := fun hm => by
    have := (oo_take h.g.nod hf (by omega)).1 hm
    omega
  have hk' := h'.k
  obtain ⟨z, hz, hzl⟩ := h'.whole hA (by omega) (h.g.mem st hs) j
  refine ⟨z, ?_, hz, ?_⟩
  · have hl' := h.g.last' hf
    have ht := h.v (pvt p.s c) (oo_mem hf) (.inr hn)
    have hs1 := h.v st hs hfr
    have hp : p.s.X (pvt p.s c) c ≠ 0 := fnd_ne hf
    have hX : (gstep p.s c).X st j = p.s.X st j - p.s.X st c * (p.s.X (pvt p.s c) j / p.s.X (pvt p.s c) c) := by
      unfold gstep; rw [if_pos hf]
      show (if st = pvt p.s c then _ else _) = _
      rw [if_neg hst]
    rw [hl', hX] at hz
    refine Rat.intCast_inj.1 ?_
    rw [Rat.intCast_sub, Rat.intCast_mul, Rat.intCast_mul, Rat.intCast_mul, hs1, hs1, ht, ht, hz]
    obtain ⟨q, hq⟩ : ∃ q, q = p.s.X (pvt p.s c) j / p.s.X (pvt p.s c) c := ⟨_, rfl⟩
    have hqm : q * p.s.X (pvt p.s c) c = p.s.X (pvt p.s c) j := by rw [hq]; exact Rat.div_mul_cancel hp
    rw [← hq]
    grind
  · have : ((gstep p.s c).piv.length + 1) * (K + 3) ≤ (r + 2) * (K + 3) := Nat.mul_le_mul_right _ (by omega)
    unfold bnd; omega
theorem dnL_in {out : List Nat} (hn : out.Nodup) {f t st : Nat} : st ∈ dnL out f out.length t ↔ st ≠ t ∧ ∃ i, f ≤ i ∧ i < out.length ∧ oo out i = st := by
  unfold dnL
  rw [List.take_length, List.mem_filter]
  constructor
  · intro ⟨h1, h2⟩
    refine ⟨of_decide_eq_true h2, ?_⟩
    obtain ⟨i, hi, e⟩ := List.getElem_of_mem h1
    rw [List.length_drop] at hi
    rw [List.getElem_drop] at e
    exact ⟨f + i, by omega, by omega, by rw [oo_get (by omega)]; exact e⟩
  · intro ⟨h1, i, hf, hi, e⟩
    refine ⟨?_, decide_eq_true h1⟩
    rw [oo_get hi] at e
    rw [← e]
    refine List.mem_iff_getElem.2 ⟨i - f, by rw [List.length_drop]; omega, ?_⟩
    rw [List.getElem_drop]
    congr 1; omega
theorem PI.step (h : PI A r K full p) (hA : ∀ st j, st < r → zl (A st j) ≤ K) (hr : r < 900000) (c : Nat) : PI A r K full (pstep A r full p c) := by
  by_cases hf : fnd p.s c < p.s.out.length
  · have hg := fnd_ge p.s c
    have hl := h.g.len
    have hk := h.g.k
    have h' := h.g.step c
    have e : pstep A r full p c = ⟨gstep p.s c, mxZ p.T (stZ p.T (pvt p.s c) c (lastG A p.s)) (dnL (swL p.s.out p.s.piv.length (fnd p.s c)) (frm full p.s.piv.length) r (pvt p.s c)), p.sw + if p.s.piv.length < fnd p.s c then 1 else 0⟩ := if_pos hf
    have eo : (gstep p.s c).out = swL p.s.out p.s.piv.length (fnd p.s c) := by unfold gstep; rw [if_pos hf]
    have ep : (gstep p.s c).piv.length = p.s.piv.length + 1 := by
      unfold gstep; rw [if_pos hf]
      show (p.s.piv ++ [c]).length = _
      rw [List.length_append, List.length_singleton]
    have hsl := swL_len p.s.out p.s.piv.length (fnd p.s c)
    have hsn := swL_nod h.g.nod (a := p.s.piv.length) (by omega) hf
    have hdn : ∀ st, st ∈ dnL (swL p.s.out p.s.piv.length (fnd p.s c)) (frm full p.s.piv.length) r (pvt p.s c) ↔ st ≠ pvt p.s c ∧ ∃ i, frm full p.s.piv.length ≤ i ∧ i < r ∧ oo (swL p.s.out p.s.piv.length (fnd p.s c)) i = st := fun st => by
      have := dnL_in hsn (f := frm full p.s.piv.length) (t := pvt p.s c) (st := st)
      rw [hsl, hl] at this
      exact this
    have hout : ∀ i, i < r → oo (swL p.s.out p.s.piv.length (fnd p.s c)) i ∈ p.s.out := fun i hi => swL_mem (by omega) hf _ (oo_mem (by omega))
    -- a row that is made anew was in view
    have hview : ∀ st, st ∈ dnL (swL p.s.out p.s.piv.length (fnd p.s c)) (frm full p.s.piv.length) r (pvt p.s c) → st ∈ p.s.out ∧ (full = true ∨ st ∉ p.s.out.take p.s.piv.length) ∧ st ≠ pvt p.s c := fun st hst => by
      obtain ⟨h1, i, hi, hir, e2⟩ := (hdn st).1 hst
      refine ⟨e2 ▸ hout i hir, ?_, h1⟩
      cases full with
      | true => exact .inl rfl
      | false =>
        refine .inr fun hm => ?_
        have hi : p.s.piv.length + 1 ≤ i := hi
        have h2 := (h.g.take' hf st).2 (.inl hm)
        rw [← e2] at h2
        have := (oo_take hsn (by omega) (by omega)).1 h2
        omega
    have hnew : ∀ st, st ∈ dnL (swL p.s.out p.s.piv.length (fnd p.s c)) (frm full p.s.piv.length) r (pvt p.s c) → ∀ j, (((pstep A r full p c).T st j : Int) : Rat) = (lastG A (gstep p.s c) : Rat) * (gstep p.s c).X st j ∧ zl ((pstep A r full p c).T st j) ≤ bnd r K := fun st hst j => by
      obtain ⟨h1, h2, h3⟩ := hview st hst
      obtain ⟨z, hz1, hz2, hz3⟩ := h.new hf h1 h2 h3 hA hr j
      have e2 : (pstep A r full p c).T st j = z := by
        rw [e]
        show (if st ∈ _ then _ else _) = _
        rw [if_pos hst]
        unfold stZ
        rw [hz1]
        exact Int.mul_ediv_cancel_left _ h.g.ne
      rw [e2]
      exact ⟨hz2, hz3⟩
    have hold : ∀ st, st ∉ dnL (swL p.s.out p.s.piv.length (fnd p.s c)) (frm full p.s.piv.length) r (pvt p.s c) → ∀ j, (pstep A r full p c).T st j = p.T st j := fun st hst j => by
      rw [e]
      show (if st ∈ _ then _ else _) = _
      rw [if_neg hst]
    have es : (pstep A r full p c).s = gstep p.s c := by rw [e]
    refine ⟨by rw [es]; exact h', fun st hst hfr j => ?_, fun st j hs => ?_⟩
    · rw [es] at hst hfr ⊢
      rw [eo] at hst hfr
      rw [ep] at hfr
      by_cases hd : st ∈ dnL (swL p.s.out p.s.piv.length (fnd p.s c)) (frm full p.s.piv.length) r (pvt p.s c)
      · exact (hnew st hd j).1
      · rw [hold st hd]
        have hstt : st = pvt p.s c := by
          by_cases h1 : st = pvt p.s c
          · exact h1
          · exfalso
            obtain ⟨i, hi, e2⟩ := mem_oo hst
            rw [hsl] at hi
            refine hd ((hdn st).2 ⟨h1, i, ?_, by omega, e2⟩)
            cases full with
            | true => exact Nat.zero_le _
            | false =>
              show p.s.piv.length + 1 ≤ i
              rcases hfr with hfr | hfr
              · exact absurd hfr (by decide)
              · by_cases h2 : p.s.piv.length + 1 ≤ i
                · exact h2
                · exact absurd (e2 ▸ (oo_take hsn (by omega) (by omega)).2 (by omega)) hfr
        have hn : pvt p.s c ∉ p.s.out.take p.s.piv.length := fun hm => by
          have := (oo_take h.g.nod hf (by omega)).1 hm
          omega
        have hv : (p.T (pvt p.s c) j : Rat) = (lastG A p.s : Rat) * p.s.X (pvt p.s c) j := h.v _ (oo_mem hf) (.inr hn) j
        rw [hstt, hv, h.g.last' hf]
        have hX : (gstep p.s c).X (pvt p.s c) j = p.s.X (pvt p.s c) j / p.s.X (pvt p.s c) c := by
          unfold gstep; rw [if_pos hf]
          show (if pvt p.s c = pvt p.s c then _ else _) = _
          rw [if_pos rfl]
        rw [hX]
        have hp : p.s.X (pvt p.s c) c ≠ 0 := fnd_ne hf
        obtain ⟨q, hq⟩ : ∃ q, q = p.s.X (pvt p.s c) j / p.s.X (pvt p.s c) c := ⟨_, rfl⟩
        have hqm : q * p.s.X (pvt p.s c) c = p.s.X (pvt p.s c) j := by rw [hq]; exact Rat.div_mul_cancel hp
        rw [← hq]
        grind
    · by_cases hd : st ∈ dnL (swL p.s.out p.s.piv.length (fnd p.s c)) (frm full p.s.piv.length) r (pvt p.s c)
      · exact (hnew st hd j).2
      · rw [hold st hd]; exact h.b st j hs
  · have e : pstep A r full p c = p := if_neg hf
    rw [e]; exact h
def pel (A : Nat → Nat → Int) (r : Nat) (full : Bool) (p : Ps) (n : Nat) : Ps := (List.range n).foldl (pstep A r full) p
theorem pel_succ (p : Ps) (n : Nat) : pel A r full p (n + 1) = pstep A r full (pel A r full p n) n := by unfold pel; rw [List.range_succ, List.foldl_append]; rfl
theorem PI.pel (h : PI A r K full p) (hA : ∀ st j, st < r → zl (A st j) ≤ K) (hr : r < 900000) (n : Nat) : PI A r K full (pel A r full p n) := by
  induction n with
  | zero => exact h
  | succ n ih => rw [pel_succ]; exact ih.step hA hr n
theorem pel_s (p : Ps) (n : Nat) : (pel A r full p n).s = gel p.s n := by
  induction n with
  | zero => rfl
  | succ n ih =>
    rw [pel_succ, gel_succ, ← ih]
    unfold pstep
    by_cases hf : fnd (pel A r full p n).s n < (pel A r full p n).s.out.length
    · rw [if_pos hf]
    · rw [if_neg hf]; unfold gstep; rw [if_neg hf]
/-- no row left: nothing more is done -/
theorem pel_full {p : Ps} {n : Nat} (h : (pel A r full p n).s.piv.length = (pel A r full p n).s.out.length) (m : Nat) : pel A r full p (n + m) = pel A r full p n := by
  induction m with
  | zero => rfl
  | succ m ih =>
    rw [← Nat.add_assoc, pel_succ, ih]
    unfold pstep
    rw [if_neg (by have := fnd_ge (pel A r full p n).s (n + m); omega)]
end Go.Mt
