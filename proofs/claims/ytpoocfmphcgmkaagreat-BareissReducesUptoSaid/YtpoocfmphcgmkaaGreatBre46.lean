/-
  A part of the proof.
-/
import Derived.Test.YtpoocfmphcgmkaaGreatBre45
import Derived.Test.YtpoocfmphcgmkaaGreatBre34
import Derived.Test.YtpoocfmphcgmkaaGreatBre36
import Derived.Test.YtpoocfmphcgmkaaGreatBre30
set_option linter.unusedVariables false
set_option linter.unusedSimpArgs false
set_option linter.unusedSimpArgs false
set_option linter.unusedVariables false
namespace Go.Mt
open Go Go.Pm Go.Proofs
/-- rows of fractions, as data -/
def vrQ (Z : Nat → Nat → Rat) (n : Nat) (l : List Nat) : List (List D) := l.map fun st => [.sl (qes (qrz Z n st))]
@[go_sem] theorem vrQ_len (Z : Nat → Nat → Rat) (n : Nat) (l : List Nat) : (vrQ Z n l).length = l.length := by simp [vrQ]
@[go_sem] theorem vrQ_ge {Z : Nat → Nat → Rat} {n : Nat} {l : List Nat} {i : Nat} (h : i < (vrQ Z n l).length) : (vrQ Z n l)[i] = [.sl (qes (qrz Z n (l[i]'(by rw [vrQ_len] at h; exact h))))] := by simp [vrQ]
theorem qrs_vrQ (V : List (List Rat)) {r n : Nat} (hr : V.length = r) (hn : ∀ v ∈ V, v.length = n) : qrs V = vrQ (entQ V) n (List.range r) := by
  refine List.ext_getElem (by simp [qrs, vrQ, hr]) fun i h1 h2 => ?_
  have hi : i < V.length := by simpa [qrs] using h1
  have hl := hn _ (List.getElem_mem hi)
  simp only [qrs, vrQ, List.getElem_map, List.getElem_range]
  unfold qrw
  congr 3
  refine List.ext_getElem (by simp [qrz, hl]) fun j h3 h4 => ?_
  have hj : j < V[i].length := by simpa using h3
  simp [qrz, entQ, hi, hj]
theorem tbQ_succ (Z : Nat → Nat → Rat) (n i : Nat) : tbQ Z n i ++ [some (qes (qrz Z n i))] = tbQ Z n (i + 1) := by
  unfold tbQ; rw [List.range_succ, List.map_append]; rfl
/-- the pivot's row is scaled -/
def sclN (Z : Nat → Nat → Rat) (u c : Nat) : Nat → Nat → Rat := fun st j => if st = u then Z u j / Z u c else Z st j
def stpN (Z : Nat → Nat → Rat) (u c : Nat) : Nat → Nat → Rat := fun st j => if st = u then Z u j / Z u c else Z st j - Z st c * (Z u j / Z u c)
theorem mxR_zero (Z N : Nat → Nat → Rat) : mxR Z N [] = Z := funext fun st => funext fun j => if_neg List.not_mem_nil
def ibx (q : Rat) : List PV := [.d (.v (.bool (nrm q.num).1)), .d (.sl (les (nrm q.num).2)), .d (.v (.bool (nrm (q.den : Int)).1)), .d (.sl (les (nrm (q.den : Int)).2))]
theorem mj_all {Z N : Nat → Nat → Rat} {u n r : Nat} (h : ∀ st j, st ≠ u → Z st j = N st j) : tbQ (mjR Z N u n) n r = tbQ N n r := tbQ_congr fun st j _ hj => by
  unfold mjR
  by_cases hs : st = u
  · rw [if_pos ⟨hs, hj⟩]
  · rw [if_neg (fun hh => hs hh.1), h st j hs]
theorem take_snoc2 {l : List Nat} {i : Nat} (hi : i < l.length) : l.take (i + 1) = l.take i ++ [oo l i] := by
  rw [List.take_add_one, List.getElem?_eq_getElem hi, oo_get hi]; rfl
theorem mx_next {Z N : Nat → Nat → Rat} {l : List Nat} {i n r : Nat} (hi : i < l.length) (h : ∀ j, j < n → (oo l i) ∉ l.take i → Z (oo l i) j = N (oo l i) j) : tbQ (mxR Z N (l.take i)) n r = tbQ (mxR Z N (l.take (i + 1))) n r := tbQ_congr fun st j _ hj => by
  unfold mxR
  rw [take_snoc2 hi]
  by_cases h1 : st ∈ l.take i
  · rw [if_pos h1, if_pos (List.mem_append_left _ h1)]
  · rw [if_neg h1]
    by_cases h2 : st = oo l i
    · rw [if_pos (by rw [h2]; simp), h2, h j hj (h2 ▸ h1)]
    · rw [if_neg (by simp [h1, h2])]
theorem mx_row {Z N : Nat → Nat → Rat} {l : List Nat} {i n r : Nat} (hi : i < l.length) : tbQ (mjR (mxR Z N (l.take i)) N (oo l i) n) n r = tbQ (mxR Z N (l.take (i + 1))) n r := tbQ_congr fun st j _ hj => by
  unfold mjR mxR
  rw [take_snoc2 hi]
  by_cases h2 : st = oo l i
  · rw [if_pos ⟨h2, hj⟩, if_pos (by rw [h2]; simp)]
  · rw [if_neg (fun hh => h2 hh.1)]
    by_cases h1 : st ∈ l.take i
    · rw [if_pos h1, if_pos (List.mem_append_left _ h1)]
    · rw [if_neg h1, if_neg (by simp [h1, h2])]
set_option maxRecDepth 100000 in
set_option maxHeartbeats 16000000 in
theorem reduce11_t (V : List (List Rat)) {r n B : Nat} (hr : V.length = r) (hw : ∀ v ∈ V, v.length = n) (hrl : r < 549755813888) (hnl : n < 549755813888) (U : Nat → Gs) (hU : U = fun c => gel (qinit V r) c)
    (hB : ∀ c, c ≤ n → ∀ st, st < r → ∀ j, ql ((U c).X st j) ≤ B) (hB2 : 3 * B < 17179869184) :
    PCall Tryz.prog 94 [.d (.sl (qrs V))] (.tup [.sto 80 56 4 ((List.range (U n).piv.length).map fun i => qes (qrz (U n).X n (oo (U n).out i))), .so 3 1 (nes (U n).piv)]) := by
  have hGp : ∀ c, Gp r (U c) := fun c => by rw [hU]; exact (Gp.init V r).gel c
  have hU0 : U 0 = qinit V r := by rw [hU]; rfl
  have hUs : ∀ c, U (c + 1) = gstep (U c) c := fun c => by rw [hU]; exact gel_succ _ _
  rw [qrs_vrQ V hr hw]
  obtain ⟨Z0, hZ0⟩ : ∃ Z0, Z0 = entQ V := ⟨_, rfl⟩
  rw [← hZ0]
  have hX0 : (U 0).X = Z0 ∧ (U 0).out = List.range r ∧ (U 0).piv = [] := by rw [hU0, hZ0]; exact ⟨rfl, rfl, rfl⟩
  refine pcall_of hmo Tryz.func94 rfl (by kernel_rfl) (by simp [Tryz.ntmps94]) ?_; simp -implicitDefEqProofs [go_sem, Tryz.ntmps94]; (repeat refine And.intro (by first | decide +kernel | omega | kernel_rfl) ?_); (try decide +kernel)
  refine loop_rule [.tab 4 80 56 4] (fun (i : Nat) => ⟨178, [(4, .st 24 i), (16, .d (.sl (vrQ Z0 n (List.range r)))), (17, intP .i64 (r : Int)), (18, intP .i64 (i : Int))],
      [(24, .tab ⟨80, 56, 4, i, false, List.range i, tbQ Z0 n i⟩)], 1000⟩)
    (fun i => i ≤ r) (fun i => r - i) 0 (Nat.zero_le _) (by simp) (by simp -implicitDefEqProofs [go_sem, tbQ]) (fun i hi => ?_)
  by_cases hil : i < r
  · have hrl2 : (qes (qrz Z0 n i)).length = n := by rw [qes_len, qrz_len]
    have hsn := tbQ_succ Z0 n i
    simp -implicitDefEqProofs [go_sem, hil, qrz_len]; (repeat refine And.intro (by first | decide +kernel | omega | kernel_rfl) ?_); (try decide +kernel)
    refine ⟨i + 1, by omega, by omega, by omega, rfl, ?_, hsn⟩
    rw [show (tbQ Z0 n i).length = i by simp [tbQ]]
    exact List.range_succ.symm
  · obtain rfl : i = r := by omega
    by_cases hr0 : i = 0
    · have hp : (U n).piv = [] := by
        have := (hGp n).k
        exact List.eq_nil_of_length_eq_zero (by omega)
      subst hr0
      rw [hp]
      simp -implicitDefEqProofs [go_sem, nes]; (repeat refine And.intro (by first | decide +kernel | omega | kernel_rfl) ?_); (try decide +kernel)
    · have hr0z : ¬ (i : Int) = 0 := by omega
      generalize i = r at *
      simp -implicitDefEqProofs [go_sem, hr0, hr0z]; (repeat refine And.intro (by first | decide +kernel | omega | kernel_rfl) ?_); (try decide +kernel)
      refine loop_rule [.arr 7 3 1] (fun (c : Nat) => ⟨178, [(4, .st 24 r), (7, .sr 1024 (U c).piv.length), (8, intP .i64 (c : Int))],
          [(1024, .arr ⟨3, 1, (U c).piv.length, false, nes (U c).piv⟩), (24, .tab ⟨80, 56, 4, r, false, (U c).out, tbQ (U c).X n r⟩)], 2000⟩)
        (fun c => c ≤ n) (fun c => n - c) 0 (Nat.zero_le _) (by simp) (by simp -implicitDefEqProofs [go_sem, hX0, nes]) (fun c hc => ?_)
      have hG := hGp c
      have hG2 := hGp (c + 1)
      have hs2 := hUs c
      have hBc := hB c hc
      have hlo := hG.len
      have hno := hG.nod
      have hmo2 := hG.mem
      have hko := hG.k
      have hqw : ∀ Z st, (qes (qrz Z n st)).length = n := fun Z st => by rw [qes_len, qrz_len]
      have ho0 : (U c).out[0]? = some (oo (U c).out 0) := by rw [oo_get (by omega), List.getElem?_eq_getElem]
      have hr00 := tbQ_get (U c).X (n := n) (hmo2 _ (oo_mem (l := (U c).out) (i := 0) (by omega)))
      have E0 := elemR_t ho0 hr00
      have A0 := rowAt_t hr00
      have R0 := row_t hr00
      have hrp : 0 < (U c).out.length := by omega
      by_cases hcl : c < n
      · have hBn := hB (c + 1) (by omega)
        generalize hs : U c = s at *
        rw [hs2] at hG2 hBn
        simp -implicitDefEqProofs [go_sem, hcl, E0, A0, R0, hqw, hrp]; (repeat refine And.intro (by first | decide +kernel | omega | kernel_rfl) ?_); (try decide +kernel)
        refine loop_rule [] (fun (a : Nat) => ⟨178, [(4, .st 24 r), (7, .sr 1024 s.piv.length), (8, intP .i64 (c : Int)), (9, intP .i64 (s.piv.length : Int)), (10, intP .i64 (a : Int))],
            [(1024, .arr ⟨3, 1, s.piv.length, false, nes s.piv⟩), (24, .tab ⟨80, 56, 4, r, false, s.out, tbQ s.X n r⟩)], 3000⟩)
          (fun a => s.piv.length ≤ a ∧ a ≤ r ∧ ∀ i, s.piv.length ≤ i → i < a → s.X (oo s.out i) c = 0) (fun a => r - a) s.piv.length ⟨Nat.le_refl _, hko, fun i h1 h2 => by omega⟩ (by simp) (by simp -implicitDefEqProofs [go_sem]) (fun a ⟨ha1, ha2, ha3⟩ => ?_)
        have hN : gstep s c = s ∨ (fnd s c < s.out.length) := by
          by_cases hf : fnd s c < s.out.length
          · exact .inr hf
          · exact .inl (if_neg hf)
        by_cases hal : a < r
        · have hao : a < s.out.length := by omega
          obtain ⟨u, hu⟩ : ∃ u, u = oo s.out a := ⟨_, rfl⟩
          have hga : s.out[a]? = some u := by rw [hu, oo_get hao, List.getElem?_eq_getElem]
          have hur : u < r := hmo2 u (hu ▸ oo_mem hao)
          have hra := tbQ_get s.X (n := n) hur
          have Ea := elemR_t hga hra
          have Aa := rowAt_t hra
          have Ra := row_t hra
          have hca := qes_qrz s.X (st := u) hcl
          have hca2 := fun h => (List.getElem_eq_iff (h := h)).2 hca
          have hsg := sign5_n (s.X u c) (by have := hBc u hur c; omega)
          by_cases hz : s.X u c = 0
          · have hnz : (s.X u c).num.sign = 0 := by rw [hz]; rfl
            rw [hnz] at hsg
            simp -implicitDefEqProofs [go_sem, hal, hao, Ea, Aa, Ra, hca, hca2, hqw]; (repeat refine And.intro (by first | decide +kernel | omega | kernel_rfl) ?_); (try decide +kernel)
            refine .inl ⟨_, hsg, ?_⟩; simp -implicitDefEqProofs [go_sem, hal, hao, Ea, Aa, Ra, hca, hca2, hqw]; (repeat refine And.intro (by first | decide +kernel | omega | kernel_rfl) ?_); (try decide +kernel)
            refine ⟨a + 1, ⟨by omega, by omega, fun i h1 h2 => ?_⟩, by omega, by omega⟩
            by_cases h3 : i = a
            · rw [h3, ← hu]; exact hz
            · exact ha3 i h1 (by omega)
          · have hnz : ¬ (s.X u c).num.sign = 0 := fun h => hz (Rat.num_eq_zero.1 (Int.sign_eq_zero_iff_zero.1 h))
            have hfe : fnd s c = a := fnd_eq ha1 hao ha3 (by rw [← hu]; exact hz)
            have halz : ¬ (a : Int) = (r : Int) := by omega
            obtain ⟨k, hk⟩ : ∃ k, k = s.piv.length := ⟨_, rfl⟩
            have hko2 : k < s.out.length := by omega
            obtain ⟨v, hv⟩ : ∃ v, v = oo s.out k := ⟨_, rfl⟩
            have hgk : s.out[k]? = some v := by rw [hv, oo_get hko2, List.getElem?_eq_getElem]
            have hvr : v < r := hmo2 v (hv ▸ oo_mem hko2)
            have hrv := tbQ_get s.X (n := n) hvr
            have Ek := elemR_t hgk hrv
            have Ak := rowAt_t hrv
            have Rk := row_t hrv
            obtain ⟨o', ho'⟩ : ∃ o', o' = swL s.out k a := ⟨_, rfl⟩
            have hsw : (s.out.set k u).set a v = o' := by rw [ho', hu, hv]; rfl
            have hol' : o'.length = r := by rw [ho', swL_len]; exact hlo
            have hon' : o'.Nodup := by rw [ho']; exact swL_nod hno hko2 hao
            have hou' : oo o' k = u := by
              rw [ho', swL_oo _ hko2 hao hko2]
              unfold trn
              rw [if_pos rfl, hu]
            have hgk' : o'[k]? = some u := by rw [← hou', oo_get (by omega), List.getElem?_eq_getElem]
            have hkr : k < r := by omega
            have Ek' := elemR_t hgk' hra
            have hgst : (gstep s c).out = o' ∧ (gstep s c).piv = s.piv ++ [c] ∧ (gstep s c).X = stpN s.X u c := by
              unfold gstep
              rw [if_pos (by omega)]
              refine ⟨by rw [ho', hk, hfe], rfl, ?_⟩
              have hp : pvt s c = u := by unfold pvt; rw [hfe, hu]
              rw [hp]; rfl
            have hiv := inv5_n (s.X u c) (by have := hBc u hur c; omega) hz
            have hqi := ql_inv hz
            have hBuc := hBc u hur c
            have hqd : ∀ x : Rat, x * (s.X u c)⁻¹ = x / s.X u c := fun x => (Rat.div_def _ _).symm
            generalize (s.X u c)⁻¹ = q at hiv hqi hqd
            simp -implicitDefEqProofs [go_sem, hal, hao, Ea, Aa, Ra, hca, hca2, hqw]; (repeat refine And.intro (by first | decide +kernel | omega | kernel_rfl) ?_); (try decide +kernel)
            refine .inl ⟨_, hsg, ?_⟩; simp -implicitDefEqProofs [go_sem, hal, hao, Ea, Aa, Ra, hca, hca2, hqw, hnz, hlo, halz]; (repeat refine And.intro (by first | decide +kernel | omega | kernel_rfl) ?_); (try decide +kernel)
            rw [← hk]
            simp -implicitDefEqProofs [go_sem, hal, hao, hlo, hkr, Ea, Aa, Ra, Ek, Ak, Rk, hca, hca2, hqw, hsw, Ek', hol']; (repeat refine And.intro (by first | decide +kernel | omega | kernel_rfl) ?_); (try decide +kernel)
            refine .inl ⟨_, hiv, ?_⟩; simp -implicitDefEqProofs [go_sem, hal, hao, hlo, hkr, Ea, Aa, Ra, Ek, Ak, Rk, hca, hca2, hqw, hsw, Ek', hol']; (repeat refine And.intro (by first | decide +kernel | omega | kernel_rfl) ?_); (try decide +kernel)
            obtain ⟨N1, hN1⟩ : ∃ N1, N1 = sclN s.X u c := ⟨_, rfl⟩
            obtain ⟨N, hN⟩ : ∃ N, N = stpN s.X u c := ⟨_, rfl⟩
            have hN1u : ∀ j, N1 u j = s.X u j / s.X u c := fun j => by rw [hN1]; exact if_pos rfl
            have hN1o : ∀ st j, st ≠ u → N1 st j = s.X st j := fun st j h => by rw [hN1]; exact if_neg h
            have hNu : ∀ j, N u j = s.X u j / s.X u c := fun j => by rw [hN]; exact if_pos rfl
            have hNo : ∀ st j, st ≠ u → N st j = s.X st j - s.X st c * (s.X u j / s.X u c) := fun st j h => by rw [hN]; exact if_neg h
            have hBN : ∀ st, st < r → ∀ j, ql (N st j) ≤ B := fun st hst j => by rw [hN, ← hgst.2.2]; exact hBn st hst j
            rw [← hN] at hgst
            refine loop_rule [] (fun (j : Nat) => ⟨178, [(4, .st 24 r), (7, .sr 1024 k), (8, intP .i64 (c : Int)), (9, intP .i64 (k : Int)), (11, .pr 3172 0 0 0), (90, intP .i64 (n : Int)), (91, intP .i64 (j : Int))],
                [(3172, .box (ibx q)), (1024, .arr ⟨3, 1, k, false, nes s.piv⟩), (24, .tab ⟨80, 56, 4, r, false, o', tbQ (mjR s.X N1 u j) n r⟩)], 4000⟩)
              (fun j => j ≤ n) (fun j => n - j) 0 (Nat.zero_le _) (by simp) (by simp -implicitDefEqProofs [go_sem, mjR_zero, ibx]) (fun j hj => ?_)
            by_cases hjl : j < n
            · obtain ⟨W, hW⟩ : ∃ W, W = mjR s.X N1 u j := ⟨_, rfl⟩
              have hWu : W u j = s.X u j := by rw [hW]; exact if_neg (by omega)
              have hrw := tbQ_get W (n := n) hur
              have Ew := elemR_t hgk' hrw
              have Aw := rowAt_t hrw
              have Rw := row_t hrw
              have hcw := qes_qrz W (st := u) hjl
              rw [hWu] at hcw
              have hcw2 := fun h => (List.getElem_eq_iff (h := h)).2 hcw
              have hml := mul5_n (s.X u j) q (by have := hBc u hur j; omega) (by omega)
              have e1 : s.X u j * q = N1 u j := by rw [hN1u, hqd]
              rw [e1] at hml
              have hst := tbQ_set W hur hjl (N1 u j)
              rw [hW, mjR_succ, ← hW] at hst
              rw [← hW]
              simp -implicitDefEqProofs [go_sem, hjl, hkr, hol', Ew, Aw, Rw, hcw, hcw2, hqw, ibx]; (repeat refine And.intro (by first | decide +kernel | omega | kernel_rfl) ?_); (try decide +kernel)
              refine .inl ⟨_, hml, ?_⟩; simp -implicitDefEqProofs [go_sem, hjl, hkr, hol', Ew, Aw, Rw, hcw, hcw2, hqw, ibx, hst]; (repeat refine And.intro (by first | decide +kernel | omega | kernel_rfl) ?_); (try decide +kernel)
              refine ⟨j + 1, ?_⟩; (repeat' apply And.intro) <;> first | omega | (exact hst) | assumption | rfl
            · obtain rfl : j = n := by omega
              rw [mj_all (fun st j h => (hN1o st j h).symm)]
              simp -implicitDefEqProofs [go_sem, hol', hqw]; (repeat refine And.intro (by first | decide +kernel | omega | kernel_rfl) ?_); (try decide +kernel)
              refine loop_rule [] (fun (i : Nat) => ⟨178, [(4, .st 24 r), (7, .sr 1024 k), (8, intP .i64 (c : Int)), (9, intP .i64 (k : Int)), (111, intP .i64 (r : Int)), (112, intP .i64 (i : Int))],
                  [(1024, .arr ⟨3, 1, k, false, nes s.piv⟩), (24, .tab ⟨80, 56, 4, r, false, o', tbQ (mxR N1 N (o'.take i)) j r⟩)], 5000⟩)
                (fun i => i ≤ r) (fun i => r - i) 0 (Nat.zero_le _) (by simp) (by simp -implicitDefEqProofs [go_sem, mxR_zero]) (fun i hi => ?_)
              by_cases hil : i < r
              · have hio : i < o'.length := by omega
                obtain ⟨w, hwd⟩ : ∃ w, w = oo o' i := ⟨_, rfl⟩
                have hgi : o'[i]? = some w := by rw [hwd, oo_get hio, List.getElem?_eq_getElem]
                have hwr : w < r := hG2.mem w (by rw [hgst.1, hwd]; exact oo_mem hio)
                have hwn : w ∉ o'.take i := fun hm => by
                  have := (oo_take hon' hio (by omega)).1 (hwd ▸ hm)
                  omega
                by_cases hik : i = k
                · have hwu : w = u := by rw [hwd, hik, hou']
                  have hnx := mx_next (Z := N1) (N := N) (n := j) (r := r) hio fun j' _ _ => by rw [← hwd, hwu, hN1u, hNu]
                  rw [hnx]
                  subst hik
                  simp -implicitDefEqProofs [go_sem, hil, hol', hqw]; (repeat refine And.intro (by first | decide +kernel | omega | kernel_rfl) ?_); (try decide +kernel)
                  refine ⟨i + 1, ?_⟩; (repeat' apply And.intro) <;> first | omega | assumption | rfl
                · have hikz : ¬ (i : Int) = (k : Int) := by omega
                  have hwu : w ≠ u := fun h => hik (oo_inj hon' hio (by omega) (by rw [← hwd, hou', h]))
                  obtain ⟨W, hW⟩ : ∃ W, W = mxR N1 N (o'.take i) := ⟨_, rfl⟩
                  have hWw : ∀ j', W w j' = s.X w j' := fun j' => by rw [hW]; exact (if_neg hwn).trans (hN1o w j' hwu)
                  have hWu : ∀ j', W u j' = s.X u j' / s.X u c := fun j' => by
                    rw [hW]
                    show (if u ∈ _ then N u j' else N1 u j') = _
                    rw [hN1u, hNu]; simp
                  have hrw := tbQ_get W (n := j) hwr
                  have Ew := elemR_t hgi hrw
                  have Aw := rowAt_t hrw
                  have Rw := row_t hrw
                  have hcw := qes_qrz W (st := w) hcl
                  rw [hWw] at hcw
                  have hcw2 := fun h => (List.getElem_eq_iff (h := h)).2 hcw
                  have hsg2 := sign5_n (s.X w c) (by have := hBc w hwr c; omega)
                  by_cases hz2 : s.X w c = 0
                  · have hnz2 : (s.X w c).num.sign = 0 := by rw [hz2]; rfl
                    have hnx := mx_next (Z := N1) (N := N) (n := j) (r := r) hio fun j' _ _ => by
                      rw [← hwd, hN1o w j' hwu, hNo w j' hwu, hz2, Rat.zero_mul, Rat.sub_eq_add_neg, Rat.neg_zero, Rat.add_zero]
                    rw [hnz2] at hsg2
                    rw [← hW] at hnx ⊢
                    simp -implicitDefEqProofs [go_sem, hil, hol', hqw, hikz, hio, Ew, Aw, Rw, hcw, hcw2]; (repeat refine And.intro (by first | decide +kernel | omega | kernel_rfl) ?_); (try decide +kernel)
                    refine .inl ⟨_, hsg2, ?_⟩; simp -implicitDefEqProofs [go_sem, hil, hol', hqw, hikz, hio, Ew, Aw, Rw, hcw, hcw2]; (repeat refine And.intro (by first | decide +kernel | omega | kernel_rfl) ?_); (try decide +kernel)
                    refine ⟨i + 1, ?_⟩; (repeat' apply And.intro) <;> first | omega | (exact hnx) | assumption | rfl
                  · have hnz2 : ¬ (s.X w c).num.sign = 0 := fun h => hz2 (Rat.num_eq_zero.1 (Int.sign_eq_zero_iff_zero.1 h))
                    have hmr := mx_row (Z := N1) (N := N) (n := j) (r := r) hio
                    rw [← hwd, ← hW] at hmr
                    rw [← hW]
                    simp -implicitDefEqProofs [go_sem, hil, hol', hqw, hikz, hio, Ew, Aw, Rw, hcw, hcw2]; (repeat refine And.intro (by first | decide +kernel | omega | kernel_rfl) ?_); (try decide +kernel)
                    refine .inl ⟨_, hsg2, ?_⟩; simp -implicitDefEqProofs [go_sem, hil, hol', hqw, hikz, hio, Ew, Aw, Rw, hcw, hcw2, hnz2]; (repeat refine And.intro (by first | decide +kernel | omega | kernel_rfl) ?_); (try decide +kernel)
                    refine loop_rule [] (fun (l : Nat) => ⟨178, [(4, .st 24 r), (7, .sr 1024 k), (8, intP .i64 (c : Int)), (9, intP .i64 (k : Int)), (13, intP .i64 (i : Int)), (14, .pr 5096 0 0 0), (111, intP .i64 (r : Int)), (112, intP .i64 (i : Int)), (140, intP .i64 (j : Int)), (141, intP .i64 (l : Int))],
                        [(5096, .box (ibx (s.X w c))), (1024, .arr ⟨3, 1, k, false, nes s.piv⟩), (24, .tab ⟨80, 56, 4, r, false, o', tbQ (mjR W N w l) j r⟩)], 6000⟩)
                      (fun l => l ≤ j) (fun l => j - l) 0 (Nat.zero_le _) (by simp) (by simp -implicitDefEqProofs [go_sem, mjR_zero, ibx]) (fun l hl => ?_)
                    by_cases hll : l < j
                    · obtain ⟨Y, hY⟩ : ∃ Y, Y = mjR W N w l := ⟨_, rfl⟩
                      have hYw : Y w l = s.X w l := by rw [hY]; exact (if_neg (by omega)).trans (hWw l)
                      have hYu : Y u l = s.X u l / s.X u c := by rw [hY]; exact (if_neg (fun h => hwu h.1.symm)).trans (hWu l)
                      have hry := tbQ_get Y (n := j) hwr
                      have hryu := tbQ_get Y (n := j) hur
                      have Ey := elemR_t hgi hry
                      have Ay := rowAt_t hry
                      have Ry := row_t hry
                      have Ez := elemR_t hgk' hryu
                      have Az := rowAt_t hryu
                      have Rz2 := row_t hryu
                      have hcy := qes_qrz Y (st := w) hll
                      have hcz := qes_qrz Y (st := u) hll
                      rw [hYw] at hcy
                      rw [hYu] at hcz
                      have hcy2 := fun h => (List.getElem_eq_iff (h := h)).2 hcy
                      have hcz2 := fun h => (List.getElem_eq_iff (h := h)).2 hcz
                      have b1 := hBc w hwr c
                      have b2 := hBc w hwr l
                      have b3 := hBN u hur l
                      rw [hNu] at b3
                      have b4 := ql_mul (s.X w c) (s.X u l / s.X u c)
                      have hml := mul5_n (s.X w c) (s.X u l / s.X u c) (by omega) (by omega)
                      have hsb := sub5_n (s.X w l) (s.X w c * (s.X u l / s.X u c)) (by omega) (by omega)
                      rw [← hNo w l hwu] at hsb
                      have hst := tbQ_set Y hwr hll (N w l)
                      rw [hY, mjR_succ, ← hY] at hst
                      generalize s.X u l / s.X u c = x1 at *
                      generalize s.X w c * x1 = x2 at *
                      generalize s.X w c = x3 at *
                      generalize s.X w l = x4 at *
                      rw [← hY]
                      simp -implicitDefEqProofs [go_sem, hll, hil, hkr, hol', Ey, Ay, Ry, Ez, Az, Rz2, hcy, hcy2, hcz, hcz2, hqw, ibx]; (repeat refine And.intro (by first | decide +kernel | omega | kernel_rfl) ?_); (try decide +kernel)
                      refine .inl ⟨_, hml, ?_⟩; simp -implicitDefEqProofs [go_sem, hll, hil, hkr, hol', Ey, Ay, Ry, Ez, Az, Rz2, hcy, hcy2, hcz, hcz2, hqw, ibx]; (repeat refine And.intro (by first | decide +kernel | omega | kernel_rfl) ?_); (try decide +kernel)
                      refine .inl ⟨_, hsb, ?_⟩; simp -implicitDefEqProofs [go_sem, hll, hil, hkr, hol', Ey, Ay, Ry, Ez, Az, Rz2, hcy, hcy2, hcz, hcz2, hqw, ibx, hst]; (repeat refine And.intro (by first | decide +kernel | omega | kernel_rfl) ?_); (try decide +kernel)
                      refine ⟨l + 1, ?_⟩; (repeat' apply And.intro) <;> first | omega | (exact hst) | assumption | rfl
                    · obtain rfl : l = j := by omega
                      rw [hmr]
                      simp -implicitDefEqProofs [go_sem, hol', hqw]; (repeat refine And.intro (by first | decide +kernel | omega | kernel_rfl) ?_); (try decide +kernel)
                      refine ⟨i + 1, ?_⟩; (repeat' apply And.intro) <;> first | omega | assumption | rfl
              · obtain rfl : i = r := by omega
                have hfin : tbQ (mxR N1 N (o'.take i)) j i = tbQ (gstep s c).X j i := tbQ_congr fun st j' hst _ => by
                  have hm := hG2.all st hst
                  rw [hgst.1] at hm
                  rw [hgst.2.2]
                  unfold mxR
                  rw [List.take_of_length_le (by omega), if_pos hm]
                rw [hfin]
                simp -implicitDefEqProofs [go_sem, hol', hqw]; (repeat refine And.intro (by first | decide +kernel | omega | kernel_rfl) ?_); (try decide +kernel)
                refine ⟨c + 1, by omega, by omega, ?_⟩
                rw [hs2]
                simp [hgst, nes_snoc, ← hk]
        · obtain rfl : a = r := by omega
          have hfe : gstep s c = s := if_neg (fnd_none fun i h1 h2 => ha3 i h1 (by omega))
          simp -implicitDefEqProofs [go_sem, hlo]; (repeat refine And.intro (by first | decide +kernel | omega | kernel_rfl) ?_); (try decide +kernel)
          refine ⟨c + 1, by omega, by omega, ?_⟩
          rw [hs2, hfe]
          simp
      · obtain rfl : c = n := by omega
        generalize U c = s at *
        have hnd : (s.out.take s.piv.length).Nodup := hno.sublist (List.take_sublist _ _)
        simp -implicitDefEqProofs [go_sem, E0, A0, R0, hqw, hrp]; (repeat refine And.intro (by first | decide +kernel | omega | kernel_rfl) ?_); (try decide +kernel)
        refine List.ext_getElem? fun i => ?_
        by_cases hi : i < s.piv.length
        · have hio : i < s.out.length := by omega
          rw [List.getElem?_take_of_lt hi, List.getElem?_map, List.getElem?_eq_getElem hio, Option.map_some, row_t (tbQ_get s.X (hmo2 _ (List.getElem_mem hio))), List.getElem?_map, List.getElem?_range hi, Option.map_some, Function.comp_apply, oo_get hio]
        · rw [List.getElem?_eq_none (by simp; omega), List.getElem?_eq_none (by simp; omega)]
end Go.Mt
/-
  A part of the proof.
-/
set_option linter.unusedSimpArgs false
set_option linter.unusedVariables false
namespace Go.Mt
open Go Go.Pm Go.Proofs
/-! reference 12: Cols, Reduced, Kernel -/
theorem cols12_p (Z : Nat → Nat → Rat) (n r : Nat) (h0 : r = 0 → n = 0) (hr : r < 549755813888) : PCall Tryz.prog 113 [.d (.sl (vrQ Z n (List.range r)))] (.one (.d (.v (.int .i64 (n : Int))))) := by
  by_cases hr0 : r = 0
  · have hn := h0 hr0
    subst hr0 hn
    refine pcall_of hmo Tryz.func113 rfl (by kernel_rfl) (by simp [Tryz.ntmps113]) ?_; simp -implicitDefEqProofs [go_sem, Tryz.ntmps113]; (repeat refine And.intro (by first | decide +kernel | omega | kernel_rfl) ?_); (try decide +kernel)
  · have hr0z : ¬ (r : Int) = 0 := by omega
    have hrp : 0 < r := by omega
    refine pcall_of hmo Tryz.func113 rfl (by kernel_rfl) (by simp [Tryz.ntmps113]) ?_; simp -implicitDefEqProofs [go_sem, Tryz.ntmps113]; (repeat refine And.intro (by first | decide +kernel | omega | kernel_rfl) ?_); (try decide +kernel)
    simp -implicitDefEqProofs [go_sem, hr0, hr0z, hrp, qrz_len]; (repeat refine And.intro (by first | decide +kernel | omega | kernel_rfl) ?_); (try decide +kernel)
/-- the reduced rows, by place -/
def rdR (s : Gs) (i j : Nat) : Rat := if i < s.piv.length then s.X (oo s.out i) j else 0
theorem rd_rows (s : Gs) (n : Nat) : ((List.range s.piv.length).map fun i => qes (qrz s.X n (oo s.out i))) = (List.range s.piv.length).map fun i => qes (qrz (rdR s) n i) := List.map_congr_left fun i hi => by
  have hi := List.mem_range.1 hi
  unfold qrz rdR
  congr 1
  exact List.map_congr_left fun j _ => by rw [if_pos hi]
theorem rd_zero (s : Gs) (n : Nat) {i : Nat} (hi : ¬ i < s.piv.length) : List.replicate n (qel (nq 0)) = qes (qrz (rdR s) n i) := by
  refine List.ext_getElem (by simp [qes, qrz]) fun j h1 h2 => ?_
  simp [qes, qrz, rdR, hi]
theorem sl_tbQ (Z : Nat → Nat → Rat) {n r : Nat} (el rel : TypeId) (k ver : Nat) (fz : Bool) (o : List Nat) : ∀ l : List Nat, (∀ st ∈ l, st < r) → Tab.sl ⟨el, rel, k, ver, fz, o, tbQ Z n r⟩ l = some (vrQ Z n l)
  | [], _ => rfl
  | st :: l, h => by
    have h1 := row_t (tbQ_get Z (n := n) (h st List.mem_cons_self)) el rel k ver fz o
    have h2 := sl_tbQ Z (n := n) el rel k ver fz o l fun x hx => h x (List.mem_cons_of_mem _ hx)
    simp only [Tab.sl, h1, h2]
    rfl
theorem rd_qrs (s : Gs) (r n : Nat) : vrQ (rdR s) n (List.range r) = qrs (redQ s r n) := by
  rw [qrs_vrQ (redQ s r n) (length_tabQ _ _ _) (fun v hv => row_tabQ _ _ _ v hv)]
  unfold vrQ
  refine List.map_congr_left fun i hi => ?_
  have hi := List.mem_range.1 hi
  congr 3
  unfold qrz
  refine List.map_congr_left fun j hj => ?_
  unfold redQ
  rw [entQ_tabQ _ _ _ _ _ hi (List.mem_range.1 hj)]
  rfl
set_option maxRecDepth 100000 in
set_option maxHeartbeats 4000000 in
theorem reduced12_p (V : List (List Rat)) {r n B : Nat} (hr : V.length = r) (hw : ∀ v ∈ V, v.length = n) (h0 : r = 0 → n = 0) (hrl : r < 549755813888) (hnl : n < 549755813888) (U : Nat → Gs) (hU : U = fun c => gel (qinit V r) c)
    (hB : ∀ c, c ≤ n → ∀ st, st < r → ∀ j, ql ((U c).X st j) ≤ B) (hB2 : 3 * B < 17179869184) :
    PCall Tryz.prog 38 [.d (.sl (qrs V))] (.tup [.d (.sl (qrs (redQ (U n) r n))), .d (.sl (nes (U n).piv))]) := by
  have hrd := reduce11_t V hr hw hrl hnl U hU hB hB2
  have hG : Gp r (U n) := by rw [hU]; exact (Gp.init V r).gel n
  have hkr := hG.k
  rw [qrs_vrQ V hr hw] at hrd ⊢
  have hcl := cols12_p (entQ V) n r h0 hrl
  rw [rd_rows] at hrd
  rw [← rd_qrs]
  have hz0 := fun i (hi : ¬ i < (U n).piv.length) => rd_zero (U n) n hi
  generalize U n = s at *
  generalize entQ V = Z at *
  obtain ⟨R, hR⟩ : ∃ R, R = rdR s := ⟨_, rfl⟩
  rw [← hR] at hrd hz0 ⊢
  have hof := of5_0
  have hsl := fun el rel k ver fz o => sl_tbQ R (n := n) (r := r) el rel k ver fz o (List.range r) fun st h => List.mem_range.1 h
  refine pcall_of hmo Tryz.func38 rfl (by kernel_rfl) (by simp [Tryz.ntmps38]) ?_; simp -implicitDefEqProofs [go_sem, Tryz.ntmps38]; (repeat refine And.intro (by first | decide +kernel | omega | kernel_rfl) ?_); (try decide +kernel)
  refine .inl ⟨_, hrd, ?_⟩; simp -implicitDefEqProofs [go_sem]; (repeat refine And.intro (by first | decide +kernel | omega | kernel_rfl) ?_); (try decide +kernel)
  refine loop_rule [] (fun (i : Nat) => ⟨32, [(0, .d (.sl (vrQ Z n (List.range r)))), (4, .st 12 (i - s.piv.length)), (5, .sr 13 0)],
      [(12, .tab ⟨80, 56, 4, i - s.piv.length, false, List.range i, tbQ R n i⟩), (13, .arr ⟨3, 1, 0, false, nes s.piv⟩)], 1000⟩)
    (fun i => s.piv.length ≤ i ∧ i ≤ r) (fun i => r - i) s.piv.length ⟨Nat.le_refl _, hkr⟩ (by simp) (by simp -implicitDefEqProofs [go_sem, tbQ]) (fun i ⟨hki, hi⟩ => ?_)
  by_cases hil : i < r
  · have hilz : (i : Int) < (r : Int) := by omega
    have hz := hz0 i (by omega)
    have hsn := tbQ_succ R n i
    rw [← hz] at hsn
    simp -implicitDefEqProofs [go_sem, hil, hilz]; (repeat refine And.intro (by first | decide +kernel | omega | kernel_rfl) ?_); (try decide +kernel)
    refine .inl ⟨_, hcl, ?_⟩; simp -implicitDefEqProofs [go_sem]; (repeat refine And.intro (by first | decide +kernel | omega | kernel_rfl) ?_); (try decide +kernel)
    refine loop_rule [.arr 6 56 4] (fun (j : Nat) => ⟨32, [(0, .d (.sl (vrQ Z n (List.range r)))), (4, .st 12 (i - s.piv.length)), (5, .sr 13 0), (6, .sr 1036 j), (18, intP .i64 (n : Int)), (19, intP .i64 (j : Int))],
        [(1036, .arr ⟨56, 4, j, false, List.replicate j (qel (nq 0))⟩), (12, .tab ⟨80, 56, 4, i - s.piv.length, false, List.range i, tbQ R n i⟩), (13, .arr ⟨3, 1, 0, false, nes s.piv⟩)], 2000⟩)
      (fun j => j ≤ n) (fun j => n - j) 0 (Nat.zero_le _) (by simp) (by simp -implicitDefEqProofs [go_sem]) (fun j hj => ?_)
    by_cases hjl : j < n
    · have hjz : (j : Int) < (n : Int) := by omega
      have hrs : List.replicate j (qel (nq 0)) ++ [qel (nq 0)] = List.replicate (j + 1) (qel (nq 0)) := (List.replicate_succ' ..).symm
      simp -implicitDefEqProofs [go_sem, hjl, hjz]; (repeat refine And.intro (by first | decide +kernel | omega | kernel_rfl) ?_); (try decide +kernel)
      refine .inl ⟨_, hof, ?_⟩; simp -implicitDefEqProofs [go_sem]; (repeat refine And.intro (by first | decide +kernel | omega | kernel_rfl) ?_); (try decide +kernel)
      refine ⟨j + 1, ?_⟩; (repeat' apply And.intro) <;> first | omega | (exact hrs) | assumption | rfl
    · obtain rfl : j = n := by omega
      simp -implicitDefEqProofs [go_sem]; (repeat refine And.intro (by first | decide +kernel | omega | kernel_rfl) ?_); (try decide +kernel)
      refine ⟨i + 1, ⟨by omega, by omega⟩, by omega, by omega, ?_, hsn⟩
      rw [show (tbQ R j i).length = i by simp [tbQ]]
      exact List.range_succ.symm
  · obtain rfl : i = r := by omega
    simp -implicitDefEqProofs [go_sem, hsl]; (repeat refine And.intro (by first | decide +kernel | omega | kernel_rfl) ?_); (try decide +kernel)
end Go.Mt
/-
  A part of the proof.
-/
set_option linter.unusedSimpArgs false
set_option linter.unusedVariables false
namespace Go.Mt
open Go Go.Pm Go.Proofs
theorem freeC_snoc (s : Gs) (c : Nat) : freeC s (c + 1) = freeC s c ++ if c ∈ s.piv then [] else [c] := by
  unfold freeC
  rw [List.range_succ, List.filter_append]
  congr 1
  by_cases h : c ∈ s.piv
  · simp [h]
  · simp [h]
/-- a row of the kernel, after so many pivots -/
def zqv (s : Gs) (c i j : Nat) : Rat := if j ∈ s.piv.take i then -rdR s (s.piv.idxOf j) c else if j = c then 1 else 0
def zqR (s : Gs) (n c i : Nat) : List (List D) := (List.range n).map fun j => qel (nq (zqv s c i j))
theorem zqR_len (s : Gs) (n c i : Nat) : (zqR s n c i).length = n := by simp [zqR]
theorem zqR_get (s : Gs) {n j : Nat} (c i : Nat) (h : j < n) : (zqR s n c i)[j]? = some (qel (nq (zqv s c i j))) := by simp [zqR, h]
theorem zqv_zero (s : Gs) (c j : Nat) : zqv s c 0 j = if j = c then 1 else 0 := by
  unfold zqv
  rw [if_neg (by simp)]
theorem zqv_succ (s : Gs) {i : Nat} (hn : s.piv.Nodup) (hi : i < s.piv.length) (c j : Nat) : zqv s c (i + 1) j = if j = s.piv[i] then -rdR s i c else zqv s c i j := by
  have hx : s.piv.idxOf s.piv[i] = i := List.Nodup.idxOf_getElem hn i hi
  have ht : s.piv.take (i + 1) = s.piv.take i ++ [s.piv[i]] := by rw [List.take_add_one, List.getElem?_eq_getElem hi]; rfl
  unfold zqv
  rw [ht]
  by_cases h : j = s.piv[i]
  · have hm : j ∈ s.piv.take i ++ [s.piv[i]] := List.mem_append_right _ (by rw [h]; exact List.mem_singleton.2 rfl)
    rw [if_pos h, if_pos hm, h, hx]
  · rw [if_neg h]
    by_cases h2 : j ∈ s.piv.take i
    · have hm : j ∈ s.piv.take i ++ [s.piv[i]] := List.mem_append_left _ h2
      rw [if_pos h2, if_pos hm]
    · have hm : ¬ j ∈ s.piv.take i ++ [s.piv[i]] := fun h3 => by
        rcases List.mem_append.1 h3 with h4 | h4
        · exact h2 h4
        · exact h (List.mem_singleton.1 h4)
      rw [if_neg h2, if_neg hm]
theorem zqR_zero (s : Gs) {n c : Nat} (hc : c < n) : (List.replicate n (qel (nq 0))).set c (qel (nq 1)) = zqR s n c 0 := by
  refine List.ext_getElem? fun j => ?_
  by_cases hj : j < n
  · rw [List.getElem?_set, zqR_get s c 0 hj, zqv_zero]
    by_cases h : c = j
    · subst h; simp [hj]
    · rw [if_neg h, if_neg (fun h2 => h h2.symm)]; simp [hj]
  · have e1 : ((List.replicate n (qel (nq 0))).set c (qel (nq 1)))[j]? = none := List.getElem?_eq_none (by simp; omega)
    have e2 : (zqR s n c 0)[j]? = none := List.getElem?_eq_none (by rw [zqR_len]; omega)
    rw [e1, e2]
theorem zqR_succ (s : Gs) {n c i : Nat} (hn : s.piv.Nodup) (hi : i < s.piv.length) (hq : s.piv[i] < n) : (zqR s n c i).set s.piv[i] (qel (nq (-rdR s i c))) = zqR s n c (i + 1) := by
  refine List.ext_getElem? fun j => ?_
  by_cases hj : j < n
  · rw [List.getElem?_set, zqR_get s c i hj, zqR_get s c (i + 1) hj, zqR_len, zqv_succ s hn hi]
    by_cases h : s.piv[i] = j
    · rw [if_pos h, if_pos hq, if_pos h.symm]
    · rw [if_neg h, if_neg (fun h2 => h h2.symm)]
  · have e1 : ((zqR s n c i).set s.piv[i] (qel (nq (-rdR s i c))))[j]? = none := List.getElem?_eq_none (by have := zqR_len s n c i; rw [List.length_set]; omega)
    have e2 : (zqR s n c (i + 1))[j]? = none := List.getElem?_eq_none (by have := zqR_len s n c (i + 1); omega)
    rw [e1, e2]
theorem zqR_end (s : Gs) {n c : Nat} (hc : c ∉ s.piv) : zqR s n c s.piv.length = qes ((kerQ s n c).map nq) := by
  unfold zqR kerQ qes
  rw [List.map_map, List.map_map]
  refine List.map_congr_left fun j _ => ?_
  show qel (nq (zqv s c s.piv.length j)) = qel (nq (if j = c then 1 else if s.piv.idxOf j < s.piv.length then -s.X (oo s.out (s.piv.idxOf j)) c else 0))
  congr 2
  unfold zqv rdR
  rw [List.take_length]
  by_cases h1 : j ∈ s.piv
  · have h2 : j ≠ c := fun h => hc (h ▸ h1)
    have h3 := List.idxOf_lt_length_of_mem h1
    rw [if_pos h1, if_neg h2, if_pos h3, if_pos h3]
  · have h3 : ¬ s.piv.idxOf j < s.piv.length := fun h => h1 (List.idxOf_lt_length_iff.1 h)
    rw [if_neg h1, if_neg h3]
set_option maxRecDepth 100000 in
set_option maxHeartbeats 8000000 in
theorem kernel12_p (V : List (List Rat)) {r n B : Nat} (hr : V.length = r) (hw : ∀ v ∈ V, v.length = n) (h0 : r = 0 → n = 0) (hrl : r < 549755813888) (hnl : n < 549755813888) (U : Nat → Gs) (hU : U = fun c => gel (qinit V r) c)
    (hB : ∀ c, c ≤ n → ∀ st, st < r → ∀ j, ql ((U c).X st j) ≤ B) (hB2 : 3 * B < 17179869184) :
    PCall Tryz.prog 40 [.d (.sl (qrs V))] (.one (.d (.sl (qrs (kersQ (U n) n))))) := by
  have hrd := reduce11_t V hr hw hrl hnl U hU hB hB2
  have hG : Gp r (U n) := by rw [hU]; exact (Gp.init V r).gel n
  have hkr := hG.k
  have hBn := hB n (Nat.le_refl _)
  have hpm := gel_mem (qinit V r) rfl n
  have hUn : U n = gel (qinit V r) n := by rw [hU]
  rw [← hUn] at hpm
  obtain ⟨hpl, hpn⟩ := hpm
  rw [qrs_vrQ V hr hw] at hrd ⊢
  have hcl := cols12_p (entQ V) n r h0 hrl
  rw [rd_rows] at hrd
  have hom := hG.mem
  have hol := hG.len
  clear hUn hU hB
  generalize U n = s at *
  generalize entQ V = Z at *
  have hRB : ∀ i, i < s.piv.length → ∀ j, ql (rdR s i j) ≤ B := fun i hi j => by
    unfold rdR
    rw [if_pos hi]
    exact hBn _ (hom _ (oo_mem (by omega))) j
  have hof := of5_0
  have hof1 := of5_1
  obtain ⟨L, hL⟩ : ∃ L : Nat → List (List Rat), L = fun c => (freeC s c).map (kerQ s n) := ⟨_, rfl⟩
  have hLn : kersQ s n = L n := by rw [hL]; rfl
  have hL0 : L 0 = [] := by rw [hL]; rfl
  have hLs : ∀ c, L (c + 1) = L c ++ if c ∈ s.piv then [] else [kerQ s n c] := fun c => by
    rw [hL]
    show (freeC s (c + 1)).map _ = _
    rw [freeC_snoc, List.map_append]
    congr 1
    split <;> rfl
  have hLc : ∀ c, (L c).length ≤ c := fun c => by
    rw [hL]
    simp only [List.length_map]
    exact Nat.le_trans (List.length_filter_le _ _) (by simp)
  rw [hLn]
  refine pcall_of hmo Tryz.func40 rfl (by kernel_rfl) (by simp [Tryz.ntmps40]) ?_; simp -implicitDefEqProofs [go_sem, Tryz.ntmps40]; (repeat refine And.intro (by first | decide +kernel | omega | kernel_rfl) ?_); (try decide +kernel)
  refine .inl ⟨_, hrd, ?_⟩; simp -implicitDefEqProofs [go_sem]; (repeat refine And.intro (by first | decide +kernel | omega | kernel_rfl) ?_); (try decide +kernel)
  refine .inl ⟨_, hcl, ?_⟩; simp -implicitDefEqProofs [go_sem]; (repeat refine And.intro (by first | decide +kernel | omega | kernel_rfl) ?_); (try decide +kernel)
  refine loop_rule [.arr 5 80 1] (fun (c : Nat) => ⟨67, [(0, .d (.sl (vrQ Z n (List.range r)))), (3, .st 8 0), (4, .sr 9 0), (5, .sr 48 (L c).length), (17, intP .i64 (n : Int)), (18, intP .i64 (c : Int))],
      [(48, .arr ⟨80, 1, (L c).length, false, qrs (L c)⟩), (8, .tab ⟨80, 56, 4, 0, false, List.range s.piv.length, tbQ (rdR s) n s.piv.length⟩), (9, .arr ⟨3, 1, 0, false, nes s.piv⟩)], 1000⟩)
    (fun c => c ≤ n) (fun c => n - c) 0 (Nat.zero_le _) (by simp) (by simp -implicitDefEqProofs [go_sem, tbQ, hL0, qrs]) (fun c hc => ?_)
  by_cases hcl2 : c < n
  · have hcz : (c : Int) < (n : Int) := by omega
    have hz0 : (List.replicate n (qel (nq 0))).set c (qel (nq 1)) = zqR s n c 0 := zqR_zero s hcl2
    have hLcc := hLc c
    simp -implicitDefEqProofs [go_sem, hcl2, hcz]; (repeat refine And.intro (by first | decide +kernel | omega | kernel_rfl) ?_); (try decide +kernel)
    refine .inl ⟨_, hcl, ?_⟩; simp -implicitDefEqProofs [go_sem]; (repeat refine And.intro (by first | decide +kernel | omega | kernel_rfl) ?_); (try decide +kernel)
    refine loop_rule [.arr 7 56 4] (fun (j : Nat) => ⟨67, [(0, .d (.sl (vrQ Z n (List.range r)))), (3, .st 8 0), (4, .sr 9 0), (5, .sr 48 (L c).length), (6, intP .i64 (c : Int)), (7, .sr 1028 j), (17, intP .i64 (n : Int)), (18, intP .i64 (c : Int)), (22, intP .i64 (n : Int)), (23, intP .i64 (j : Int))],
        [(1028, .arr ⟨56, 4, j, false, List.replicate j (qel (nq 0))⟩), (48, .arr ⟨80, 1, (L c).length, false, qrs (L c)⟩), (8, .tab ⟨80, 56, 4, 0, false, List.range s.piv.length, tbQ (rdR s) n s.piv.length⟩), (9, .arr ⟨3, 1, 0, false, nes s.piv⟩)], 2000⟩)
      (fun j => j ≤ n) (fun j => n - j) 0 (Nat.zero_le _) (by simp) (by simp -implicitDefEqProofs [go_sem]) (fun j hj => ?_)
    by_cases hjl : j < n
    · have hjz : (j : Int) < (n : Int) := by omega
      have hrs : List.replicate j (qel (nq 0)) ++ [qel (nq 0)] = List.replicate (j + 1) (qel (nq 0)) := (List.replicate_succ' ..).symm
      simp -implicitDefEqProofs [go_sem, hjl, hjz]; (repeat refine And.intro (by first | decide +kernel | omega | kernel_rfl) ?_); (try decide +kernel)
      refine .inl ⟨_, hof, ?_⟩; simp -implicitDefEqProofs [go_sem]; (repeat refine And.intro (by first | decide +kernel | omega | kernel_rfl) ?_); (try decide +kernel)
      refine ⟨j + 1, ?_⟩; (repeat' apply And.intro) <;> first | omega | (exact hrs) | assumption | rfl
    · obtain rfl : j = n := by omega
      simp -implicitDefEqProofs [go_sem]; (repeat refine And.intro (by first | decide +kernel | omega | kernel_rfl) ?_); (try decide +kernel)
      refine .inl ⟨_, hof1, ?_⟩; simp -implicitDefEqProofs [go_sem, hcl2]; (repeat refine And.intro (by first | decide +kernel | omega | kernel_rfl) ?_); (try decide +kernel)
      refine loop_rule [] (fun (i : Nat) => ⟨67, [(0, .d (.sl (vrQ Z j (List.range r)))), (3, .st 8 0), (4, .sr 9 0), (5, .sr 48 (L c).length), (6, intP .i64 (c : Int)), (7, .sr 1028 j), (8, .d (.v (.bool (decide (c ∈ s.piv.take i))))), (17, intP .i64 (j : Int)), (18, intP .i64 (c : Int)), (34, .sr 9 0), (35, intP .i64 (s.piv.length : Int)), (36, intP .i64 (i : Int))],
          [(1028, .arr ⟨56, 4, j, false, zqR s j c i⟩), (48, .arr ⟨80, 1, (L c).length, false, qrs (L c)⟩), (8, .tab ⟨80, 56, 4, 0, false, List.range s.piv.length, tbQ (rdR s) j s.piv.length⟩), (9, .arr ⟨3, 1, 0, false, nes s.piv⟩)], 3000⟩)
        (fun i => i ≤ s.piv.length) (fun i => s.piv.length - i) 0 (Nat.zero_le _) (by simp) (by simp -implicitDefEqProofs [go_sem]; exact hz0) (fun i hi => ?_)
      by_cases hil : i < s.piv.length
      · have hqn := hpl _ (List.getElem_mem hil)
        have hzs := zqR_succ s (n := j) (c := c) hpn hil hqn
        have hgi : (List.range s.piv.length)[i]? = some i := by simp [hil]
        have hrw := tbQ_get (rdR s) (n := j) hil
        have Ew := elemR_t hgi hrw
        have Aw := rowAt_t hrw
        have Rw := row_t hrw
        have hcw := qes_qrz (rdR s) (st := i) hcl2
        have hcw2 := fun h => (List.getElem_eq_iff (h := h)).2 hcw
        have hqw : (qes (qrz (rdR s) j i)).length = j := by rw [qes_len, qrz_len]
        have hng := neg5_n (rdR s i c) (by have := hRB i hil c; omega)
        have ht : s.piv.take (i + 1) = s.piv.take i ++ [s.piv[i]] := by rw [List.take_add_one, List.getElem?_eq_getElem hil]; rfl
        have hzl := zqR_len s j c i
        have hgq := zqR_get s c i hqn
        generalize zqv s c i s.piv[i] = w at hgq
        have hgq : (zqR s j c i)[s.piv[i]]? = some [.v (.bool (nrm w.num).1), .sl (les (nrm w.num).2), .v (.bool (nrm (w.den : Int)).1), .sl (les (nrm (w.den : Int)).2)] := hgq
        have hgq2 := fun h => (List.getElem_eq_iff (h := h)).2 hgq
        generalize rdR s i c = x at *
        have hzs : (zqR s j c i).set s.piv[i] [.v (.bool (nrm (-x.num)).1), .sl (les (nrm (-x.num)).2), .v (.bool (nrm (x.den : Int)).1), .sl (les (nrm (x.den : Int)).2)] = zqR s j c (i + 1) := hzs
        by_cases hm : c ∈ s.piv.take i
        · have hm2 : c ∈ s.piv.take (i + 1) := by rw [ht]; exact List.mem_append_left _ hm
          simp -implicitDefEqProofs [go_sem, hil, hm, undef]; (repeat refine And.intro (by first | decide +kernel | omega | kernel_rfl) ?_); (try decide +kernel)
          simp -implicitDefEqProofs [go_sem, hil, hcl2, Ew, Aw, Rw, hcw, hcw2, hqw, hqn, hzl, hgq, hgq2]; (repeat refine And.intro (by first | decide +kernel | omega | kernel_rfl) ?_); (try decide +kernel)
          refine .inl ⟨_, hng, ?_⟩; simp -implicitDefEqProofs [go_sem, hil, hcl2, Ew, Aw, Rw, hcw, hcw2, hqw, hqn, hzl, hgq, hgq2]; (repeat refine And.intro (by first | decide +kernel | omega | kernel_rfl) ?_); (try decide +kernel)
          exact ⟨i + 1, by omega, by omega, ⟨hm2, by omega⟩, hzs⟩
        · by_cases he : s.piv[i] = c
          · have hm2 : c ∈ s.piv.take (i + 1) := by rw [ht, he]; simp
            have hez : ((s.piv[i] : Nat) : Int) = (c : Int) := by omega
            simp only [he] at hgq hgq2 hzs
            simp -implicitDefEqProofs [go_sem, hil, hm, he, hez, undef]; (repeat refine And.intro (by first | decide +kernel | omega | kernel_rfl) ?_); (try decide +kernel)
            simp -implicitDefEqProofs [go_sem, hil, hcl2, Ew, Aw, Rw, hcw, hcw2, hqw, hqn, hzl, hgq, hgq2]; (repeat refine And.intro (by first | decide +kernel | omega | kernel_rfl) ?_); (try decide +kernel)
            refine .inl ⟨_, hng, ?_⟩; simp -implicitDefEqProofs [go_sem, hil, hcl2, Ew, Aw, Rw, hcw, hcw2, hqw, hqn, hzl, hgq, hgq2]; (repeat refine And.intro (by first | decide +kernel | omega | kernel_rfl) ?_); (try decide +kernel)
            exact ⟨i + 1, by omega, by omega, ⟨hm2, by omega⟩, hzs⟩
          · have hm2 : c ∉ s.piv.take (i + 1) := fun h => by
              rw [ht] at h
              rcases List.mem_append.1 h with h | h
              · exact hm h
              · exact he (List.mem_singleton.1 h).symm
            have hez : ¬ ((s.piv[i] : Nat) : Int) = (c : Int) := by omega
            simp -implicitDefEqProofs [go_sem, hil, hm, he, hez, undef]; (repeat refine And.intro (by first | decide +kernel | omega | kernel_rfl) ?_); (try decide +kernel)
            simp -implicitDefEqProofs [go_sem, hil, hcl2, Ew, Aw, Rw, hcw, hcw2, hqw, hqn, hzl, hgq, hgq2]; (repeat refine And.intro (by first | decide +kernel | omega | kernel_rfl) ?_); (try decide +kernel)
            refine .inl ⟨_, hng, ?_⟩; simp -implicitDefEqProofs [go_sem, hil, hcl2, Ew, Aw, Rw, hcw, hcw2, hqw, hqn, hzl, hgq, hgq2]; (repeat refine And.intro (by first | decide +kernel | omega | kernel_rfl) ?_); (try decide +kernel)
            exact ⟨i + 1, by omega, by omega, ⟨hm2, by omega⟩, hzs⟩
      · obtain rfl : i = s.piv.length := by omega
        by_cases hm : c ∈ s.piv
        · have hLe : L (c + 1) = L c := by rw [hLs, if_pos hm, List.append_nil]
          have hm2 : c ∈ s.piv.take s.piv.length := by rw [List.take_length]; exact hm
          simp -implicitDefEqProofs [go_sem, hm2, hm]; (repeat refine And.intro (by first | decide +kernel | omega | kernel_rfl) ?_); (try decide +kernel)
          refine ⟨c + 1, by omega, by omega, ?_⟩
          rw [hLe]
          simp
        · have hLe : L (c + 1) = L c ++ [kerQ s j c] := by rw [hLs, if_neg hm]
          have hm2 : c ∉ s.piv.take s.piv.length := by rw [List.take_length]; exact hm
          have hze := zqR_end s (n := j) hm
          simp -implicitDefEqProofs [go_sem, hm2, hm]; (repeat refine And.intro (by first | decide +kernel | omega | kernel_rfl) ?_); (try decide +kernel)
          refine ⟨c + 1, by omega, by omega, ?_⟩
          rw [hLe]
          simp [qrs, qrw, hze]
  · obtain rfl : c = n := by omega
    simp -implicitDefEqProofs [go_sem]; (repeat refine And.intro (by first | decide +kernel | omega | kernel_rfl) ?_); (try decide +kernel)
end Go.Mt
