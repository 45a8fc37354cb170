/-
  A part of the proof.
-/
import Derived.Test.YtpoocfmphcgmkaaGreatBre45
import Derived.Test.YtpoocfmphcgmkaaGreatBre46
import Derived.Test.YtpoocfmphcgmkaaGreatBre47
import Derived.Test.YtpoocfmphcgmkaaGreatBre39
import Derived.Test.YtpoocfmphcgmkaaGreatBre38
import Derived.Test.YtpoocfmphcgmkaaGreatRows
import Derived.WalkKit
import Derived.ProofKit
import Derived.OpenShut
import Derived.JoinedCond
set_option linter.unusedVariables false
set_option linter.unusedSimpArgs false
set_option linter.unusedSimpArgs false
set_option linter.unusedVariables false
namespace Go.Mt
open Go Go.Pm Go.Proofs
theorem sameVec_k (qs : List Rat) {K L : Nat} (hq : ∀ q ∈ qs, ql q ≤ K) (hD : nl (comDen qs) ≤ L) (hKL : K + L < 1099511627776) (hn : qs.length < 1099511627776) : PCall Tryz.prog 15 [.d (vd (vnm qs)), .d (vd (vnm qs))] (.one (.d (.v (.bool true)))) := by
  have hd : Lz (vnm qs).1 := by show (nrm _).2.length < _; rw [rz_len, zl_nat]; omega
  have hz : ∀ z ∈ (vnm qs).2, Lz z := fun z hz => by
    obtain ⟨q, h4, rfl⟩ := List.mem_map.1 hz
    have h5 := hq q h4
    have h6 := nl_comNum (K := K) (KL := L) (D := comDen qs) (q := q) (by have := ql_num q; unfold zl at this; omega) hD
    show (nrm _).2.length < _
    rw [rz_len]
    unfold zl; omega
  have hs := sameVec11_p (vnm qs) (vnm qs) hd hd hz hz (by simp [vnm, vns]; exact hn) (by simp [vnm, vns]; exact hn)
  rw [decide_eq_true rfl] at hs
  exact hs
/-- a matrix that came in, its numbers counted threefold -/
structure Im3 (m : MR) : Prop where
  i : Im m
  f : 3 * m.2.flatten.length < 1048577
theorem ent_nil {zss : List (List Int)} (h : ∀ r ∈ zss, r = []) (i j : Nat) : entry zss i j = 0 := by
  unfold entry
  cases hz : zss[i]? with
  | none => rfl
  | some r =>
    rw [h r (List.mem_of_getElem? hz)]
    rfl
/-- what the elimination of a matrix makes -/
structure Setup (m : MR) (r n : Nat) (full : Bool) (p : Ps) (K : Nat) : Prop where
  s : p.s = gel (ginit (enA (valM m)) r) n
  of : OfC (nm (valM m)) (enA (valM m)) n r
  dn : DownC (enA (valM m)) n r full p
  pi : PI (enA (valM m)) r K full p
  a : ∀ st j, st < r → zl (enA (valM m) st j) ≤ K
  k : K ≤ 1048577
  last : zl (lastG (enA (valM m)) p.s) ≤ bnd r K
  bd : 2 * bnd r K + 1 < 1099511627776
theorem sizes {m : MR} {r n : Nat} (hm : Im3 m) (hc : checkE m = 0) (hr : m.2.length = r) (hn : colsOf m.2 = n) : 3 * (r * n) < 1048577 := by
  have gm := hm.i.gm hc
  have h := flat_len m.2 (c := n) (fun x hx => by rw [even_all gm.ev x hx]; exact hn)
  have h2 := hm.f
  rw [h, hr] at h2; exact h2
theorem vrows {m : MR} {n : Nat} (hm : Im3 m) (hc : checkE m = 0) (hn : colsOf m.2 = n) : ∀ v ∈ valM m, v.length = n := fun v hv => by
  have gm := hm.i.gm hc
  rw [valM_rows] at hv
  obtain ⟨r0, h1, rfl⟩ := List.mem_map.1 hv
  rw [valR_len, even_all gm.ev r0 h1]; exact hn
set_option maxRecDepth 100000 in
theorem setup {m : MR} {r n : Nat} (hm : Im3 m) (hc : checkE m = 0) (hr : m.2.length = r) (hn : colsOf m.2 = n) (full : Bool) : ∃ p K, Setup m r n full p K := by
  have gm := hm.i.gm hc
  have gn : Gm 1048577 (nm (valM m)) := gm_nm gm (by decide)
  have hvl : (valM m).length = r := by rw [valM_len]; exact hr
  have hvr := vrows hm hc hn
  have hml : (nm (valM m)).2.length = r := by rw [nm_len]; exact hvl
  have hrl : r < 1048577 := hr ▸ hm.i.n
  have hsz := sizes hm hc hr hn
  by_cases hn0 : n = 0
  · subst hn0
    have hA : ∀ st j, enA (valM m) st j = 0 := fun st j => ent_nil (fun x hx => by
      obtain ⟨v, hv, rfl⟩ := List.mem_map.1 hx
      have := hvr v hv
      exact List.eq_nil_of_length_eq_zero (by rw [List.length_map]; exact this)) st j
    refine ⟨⟨ginit (enA (valM m)) r, enA (valM m), 0⟩, 1, rfl, OfC.zero hml (fun k h => ?_) (by omega), DownC.zero _ r full (by omega), PI.init fun st j _ => ?_, fun st j _ => ?_, by decide, ?_, ?_⟩
    · have h1 := nm_rows hvr k h
      rw [h1]; rfl
    · rw [hA]; decide
    · rw [hA]; decide
    · show zl 1 ≤ bnd r 1
      have : zl (1 : Int) = 1 := by decide
      unfold bnd; omega
    · unfold bnd; omega
  · have hr0 : 0 < r := Nat.pos_of_ne_zero fun h => by
      have h0 : m.2 = [] := List.eq_nil_of_length_eq_zero (by omega)
      rw [h0] at hn
      exact hn0 hn.symm
    have hr1 : r * 1 ≤ r * n := Nat.mul_le_mul_left _ (by omega)
    have hn1 : 1 * n ≤ r * n := Nat.mul_le_mul_right _ (by omega)
    have hA := enA_zl gn hvl hvr
    have hr2 : r + 2 ≤ 349528 := by omega
    have hb : bnd r 1048577 ≤ 366508070241 := Nat.le_trans (Nat.succ_le_succ (Nat.mul_le_mul_right (1048577 + 3) hr2)) (by decide)
    have hPI := (PI.init (full := full) hA).pel hA (by omega) n
    exact ⟨pel (enA (valM m)) r full ⟨ginit (enA (valM m)) r, enA (valM m), 0⟩ n, 1048577, pel_s _ _, OfC.pos hml (nm_rows hvr) hr0 (by omega) (by omega) (by omega), DownC.pos full (by omega) (by omega) hA (by omega), hPI, hA, by omega, hPI.lastK hA (by omega), by omega⟩
/-- how many pivots there can be -/
theorem piv_few {m : MR} {r n : Nat} (hm : Im3 m) (hc : checkE m = 0) (hr : m.2.length = r) (hn : colsOf m.2 = n) {c : Nat} (hcn : c ≤ n) : (gel (ginit (enA (valM m)) r) c).piv.length ≤ 599 := by
  have h1 := (gel_piv (ginit (enA (valM m)) r) rfl c).1
  have h2 := ((GI.init (enA (valM m)) r).gel c).k
  have hsz := sizes hm hc hr hn
  by_cases h : (gel (ginit (enA (valM m)) r) c).piv.length ≤ 599
  · exact h
  · have : 600 * 600 ≤ r * n := Nat.mul_le_mul (by omega) (by omega)
    omega
theorem ref_bound {m : MR} {r n : Nat} (hm : Im3 m) (hc : checkE m = 0) (hr : m.2.length = r) (hn : colsOf m.2 = n) : ∀ c, c ≤ n → ∀ st, st < r → ∀ j, ql ((gel (qinit (valM m) r) c).X st j) ≤ 700000000 := fun c hcn st hst j => by
  obtain ⟨p, K, S⟩ := setup hm hc hr hn true
  have gm := hm.i.gm hc
  have gn : Gm 1048577 (nm (valM m)) := gm_nm gm (by decide)
  have hG := (GI.init (enA (valM m)) r).gel c
  have hd : (1 / (nrmD (valM m) : Rat)) ≠ 0 := by
    have : (nrmD (valM m) : Rat) ≠ 0 := fun h => by
      have h2 : ((nrmD (valM m) : Int) : Rat) = ((0 : Int) : Rat) := h
      have := Rat.intCast_inj.1 h2
      have := comDen_pos (valM m).flatten
      unfold nrmD at *
      omega
    intro h
    rw [Rat.div_def, Rat.one_mul] at h
    have h3 := Rat.mul_inv_cancel _ this
    rw [h, Rat.mul_zero] at h3
    exact absurd h3 (by decide)
  have hS := (Sc.init (valM m) r).gel (GI.init (enA (valM m)) r) hd c
  have hpf := piv_few hm hc hr hn hcn
  have hD : ql (1 / (nrmD (valM m) : Rat)) ≤ 1048577 := ql_inv_nat (by have := comDen_pos (valM m).flatten; unfold nrmD; omega) (by
    have h1 := gn.kd
    rw [show (nm (valM m)).1 = nrm (nrmD (valM m) : Int) from rfl, ofR_nrm, zl_nat] at h1
    exact h1) (by decide)
  have hall : st ∈ (gel (ginit (enA (valM m)) r) c).out := by
    have := ((Gp.init (valM m) r).gel c).all st hst
    rw [hS.o] at this; exact this
  have h1 := hS.qlX hG S.a (by omega) hD hall j
  have hk := S.k
  have h2 : ((gel (ginit (enA (valM m)) r) c).piv.length + 1) * (K + 3) ≤ 600 * (1048577 + 3) := Nat.mul_le_mul (by omega) (by omega)
  omega
end Go.Mt
/-
  A part of the proof.
-/
set_option linter.unusedSimpArgs false
set_option linter.unusedVariables false
namespace Go.Mt
open Go Go.Pm Go.Proofs
/-! law 12, BareissReduces -/
section
variable {A : Nat → Nat → Int} {r : Nat} {s : Gs}
theorem few_le {k K : Nat} (hk : k ≤ 599) (hK : K ≤ 1048577) : (k + 1) * (K + 3) + 1 ≤ 700000000 ∧ k * (K + 3) + 1 ≤ 700000000 := by
  have h1 : (k + 1) * (K + 3) ≤ 600 * (1048577 + 3) := Nat.mul_le_mul (by omega) (by omega)
  have h2 : k * (K + 3) ≤ (k + 1) * (K + 3) := Nat.mul_le_mul_right _ (by omega)
  omega
theorem red_ent (h : GI A r s) {K : Nat} (hA : ∀ st j, st < r → zl (A st j) ≤ K) (hk : s.piv.length ≤ 599) (hK : K ≤ 1048577) (n : Nat) : ∀ v ∈ redQ s r n, ∀ q ∈ v, ql q ≤ 700000000 ∧ q.den ∣ (lastG A s).natAbs := fun v hv q hq => by
  unfold redQ tabQ at hv
  obtain ⟨i, hi, rfl⟩ := List.mem_map.1 hv
  obtain ⟨j, hj, rfl⟩ := List.mem_map.1 hq
  have hi := List.mem_range.1 hi
  have hl := h.len
  have hf := few_le hk hK
  show ql (if _ then _ else _) ≤ _ ∧ Rat.den (if _ then _ else _) ∣ _
  by_cases h1 : i < s.piv.length
  · rw [if_pos h1]
    have hs := h.mem _ (oo_mem (l := s.out) (i := i) (by omega))
    exact ⟨Nat.le_trans (h.qlX hA (by omega) hs j) hf.1, h.den hA (by omega) hs j⟩
  · rw [if_neg h1]
    exact ⟨by decide, Nat.one_dvd _⟩
theorem ker_ent (h : GI A r s) {K : Nat} (hA : ∀ st j, st < r → zl (A st j) ≤ K) (hk : s.piv.length ≤ 599) (hK : K ≤ 1048577) (n c : Nat) : ∀ q ∈ kerQ s n c, ql q ≤ 700000000 ∧ q.den ∣ (lastG A s).natAbs := fun q hq => by
  unfold kerQ at hq
  obtain ⟨j, hj, rfl⟩ := List.mem_map.1 hq
  have hl := h.len
  have hkr := h.k
  have hf := few_le hk hK
  show ql (if _ then _ else _) ≤ _ ∧ Rat.den (if _ then _ else _) ∣ _
  by_cases h0 : j = c
  · rw [if_pos h0]
    exact ⟨by decide, Nat.one_dvd _⟩
  · rw [if_neg h0]
    by_cases h1 : s.piv.idxOf j < s.piv.length
    · rw [if_pos h1]
      have hs := h.mem _ (oo_mem (l := s.out) (i := s.piv.idxOf j) (by omega))
      exact ⟨by rw [ql_neg]; exact Nat.le_trans (h.qlX hA (by omega) hs c) hf.1, h.den hA (by omega) hs c⟩
    · rw [if_neg h1]
      exact ⟨by decide, Nat.one_dvd _⟩
theorem com_few (h : GI A r s) {K : Nat} (hA : ∀ st j, st < r → zl (A st j) ≤ K) (hk : s.piv.length ≤ 599) (hK : K ≤ 1048577) {qs : List Rat} (hq : ∀ q ∈ qs, q.den ∣ (lastG A s).natAbs) : nl (comDen qs) ≤ 700000000 := by
  have hf := few_le hk hK
  have hd := comDen_dvd qs _ hq
  have h0 : 0 < (lastG A s).natAbs := Int.natAbs_pos.2 h.ne
  exact Nat.le_trans (nl_mono (Nat.le_of_dvd h0 hd)) (Nat.le_trans (h.lastK hA (by omega)) hf.2)
end
theorem sc_all (V : List (List Rat)) (r n : Nat) : Sc (1 / (nrmD V : Rat)) (gel (ginit (enA V) r) n) (gel (qinit V r) n) := by
  refine (Sc.init V r).gel (GI.init (enA V) r) (fun h => ?_) n
  have h0 : (nrmD V : Rat) ≠ 0 := fun h => by
    have h2 : ((nrmD V : Int) : Rat) = ((0 : Int) : Rat) := h
    have := Rat.intCast_inj.1 h2
    have := comDen_pos V.flatten
    unfold nrmD at *
    omega
  rw [Rat.div_def, Rat.one_mul] at h
  have h3 := Rat.mul_inv_cancel _ h0
  rw [h, Rat.mul_zero] at h3
  exact absurd h3 (by decide)
theorem Gm.nz {V : List (List Rat)} {K : Nat} (h : Gm K (nm V)) (hK : K < 1099511627776) : Nz V := by
  refine ⟨?_, fun r hr z hz => ?_⟩
  · have h1 := h.kd
    rw [show (nm V).1 = nrm (nrmD V : Int) from rfl, ofR_nrm] at h1
    show (nrm (nrmD V : Int)).2.length < _
    rw [rz_len]; omega
  · have h1 := h.k r hr z hz
    obtain ⟨zs, h2, rfl⟩ := List.mem_map.1 hr
    obtain ⟨z0, h3, rfl⟩ := List.mem_map.1 hz
    rw [ofR_nrm] at h1
    show (nrm z0).2.length < _
    rw [rz_len]; omega
theorem kers_len (s : Gs) (n : Nat) : (kersQ s n).length ≤ n ∧ ∀ q ∈ kersQ s n, q.length = n := by
  refine ⟨?_, fun q hq => ?_⟩
  · unfold kersQ
    rw [List.length_map]
    exact Nat.le_trans (List.length_filter_le _ _) (by simp)
  · obtain ⟨c, _, rfl⟩ := List.mem_map.1 hq
    simp [kerQ]
set_option maxRecDepth 100000 in
set_option maxHeartbeats 8000000 in
theorem reduces_y (m : MR) (hm : Im3 m) (hc : checkE m = 0) : PCall Tryz.prog 5 [.d (md m)] (.one (.d (.v (.bool true)))) := by
  obtain ⟨r, hr⟩ : ∃ r, m.2.length = r := ⟨_, rfl⟩
  obtain ⟨n, hn⟩ : ∃ n, colsOf m.2 = n := ⟨_, rfl⟩
  have gm := hm.i.gm hc
  have gl := hm.i.gl (check_parts hc).1
  have hsz := sizes hm hc hr hn
  have hrl : r < 1048577 := hr ▸ hm.i.n
  have hnl : n < 549755813888 := by have := colsOf_lt hm.i.g; omega
  have h0 : r = 0 → n = 0 := fun h => by
    have h1 : m.2 = [] := List.eq_nil_of_length_eq_zero (by omega)
    rw [h1] at hn; exact hn.symm
  have hvr := vrows hm hc hn
  have hvl : (valM m).length = r := by rw [valM_len]; exact hr
  have hpf := piv_few hm hc hr hn (Nat.le_refl n)
  have hG := (GI.init (enA (valM m)) r).gel n
  have hmem := gel_mem (ginit (enA (valM m)) r) rfl n
  have hrb := ref_bound hm hc hr hn
  obtain ⟨p, K, S⟩ := setup hm hc hr hn true
  obtain ⟨p', K', S'⟩ := setup hm hc hr hn false
  have hps := S.s
  have hps' := S'.s
  have hcp := copy11_p m (by have := hm.i.ld; omega) (fun x hx z hz => by have := (hm.i.z x hx z hz).2; omega) (fun x hx => by have := hm.i.w x hx; omega) (by have := hm.i.n; omega)
  have hrk := rank_g m hm.i.d hm.i.g hc S'.of S'.dn (by rw [hps']; omega)
  have hbd := S.bd
  have hrd := reduce_g m hm.i.d hm.i.g hc S.of S.dn S.pi S.a (by omega) hnl S.last (by omega)
  have hkn := kernel_g m hm.i.d hm.i.g hc S.of S.dn S.pi S.a (by omega) hnl S.last (by omega) (by rw [hps]; exact hmem.2) (by rw [hps]; exact hmem.1)
  have hck := check11_p m hm.i.d hm.i.g
  rw [hc] at hck
  have hrw := (rows11_t m gl).sto_d
  rw [tqs_d] at hrw
  obtain ⟨U, hU⟩ : ∃ U : Nat → Gs, U = fun c => gel (qinit (valM m) r) c := ⟨_, rfl⟩
  have hUn : U n = gel (qinit (valM m) r) n := by rw [hU]
  have hrb2 : ∀ c, c ≤ n → ∀ st, st < r → ∀ j, ql ((U c).X st j) ≤ 700000000 := fun c h1 st h2 j => by rw [hU]; exact hrb c h1 st h2 j
  have h12 := reduced12_p (valM m) hvl hvr h0 (by omega) hnl U hU hrb2 (by decide)
  have k12 := kernel12_p (valM m) hvl hvr h0 (by omega) hnl U hU hrb2 (by decide)
  have hSc := sc_all (valM m) r n
  rw [hUn, redQ_sc hSc hG, hSc.p] at h12
  rw [hUn, kersQ_sc hSc hG] at k12
  rw [hps'] at hrk
  rw [hps] at hrd hkn
  have hre := red_ent hG S.a hpf S.k n
  have hke := fun c => ker_ent hG S.a hpf S.k n c
  have hco := fun qs hq => com_few hG S.a hpf S.k (qs := qs) hq
  have hfl : ∀ q ∈ (redQ (gel (ginit (enA (valM m)) r) n) r n).flatten, ql q ≤ 700000000 ∧ q.den ∣ (lastG (enA (valM m)) (gel (ginit (enA (valM m)) r) n)).natAbs := fun q hq => by
    obtain ⟨v, hv, hq⟩ := List.mem_flatten.1 hq
    exact hre v hv q hq
  have hcd := hco _ fun q hq => (hfl q hq).2
  have hfrm := from11_p (redQ (gel (ginit (enA (valM m)) r) n) r n) (fun q hq => Nat.lt_of_le_of_lt (hfl q hq).1 (by decide)) (by rw [show (redQ (gel (ginit (enA (valM m)) r) n) r n).length = r from length_tabQ _ _ _]; omega) (by rw [show (redQ (gel (ginit (enA (valM m)) r) n) r n).flatten.length = r * n from tabQ_flat _ _ _]; omega) (Nat.lt_of_le_of_lt hcd (by decide))
  have htl := told12_n (redQ (gel (ginit (enA (valM m)) r) n) r n) (Nz.of (fun v hv q hq => (hre v hv q hq).1) hcd (by decide)) (by rw [show (redQ (gel (ginit (enA (valM m)) r) n) r n).length = r from length_tabQ _ _ _]; omega) (fun v hv => by rw [row_tabQ _ _ _ v hv]; omega)
  obtain ⟨hkl, hkw⟩ := kers_len (gel (ginit (enA (valM m)) r) n) n
  have hkq : ∀ i (hi : i < (kersQ (gel (ginit (enA (valM m)) r) n) n).length), PCall Tryz.prog 43 [.d (.sl (qes ((kersQ (gel (ginit (enA (valM m)) r) n) n)[i].map nq)))] (.one (.d (vd (vnm (kersQ (gel (ginit (enA (valM m)) r) n) n)[i])))) ∧ PCall Tryz.prog 15 [.d (vd (vnm (kersQ (gel (ginit (enA (valM m)) r) n) n)[i])), .d (vd (vnm (kersQ (gel (ginit (enA (valM m)) r) n) n)[i]))] (.one (.d (.v (.bool true)))) := fun i hi => by
    have hm := List.getElem_mem hi
    have hl := hkw _ hm
    obtain ⟨c, _, hce⟩ := List.mem_map.1 hm
    have hq : ∀ q ∈ (kersQ (gel (ginit (enA (valM m)) r) n) n)[i], ql q ≤ 700000000 ∧ q.den ∣ (lastG (enA (valM m)) (gel (ginit (enA (valM m)) r) n)).natAbs := fun q hq => hke c q (by rw [hce]; exact hq)
    have hc2 := hco _ fun q h => (hq q h).2
    exact ⟨vec11_p _ (fun q h => Nat.lt_of_le_of_lt (hq q h).1 (by decide)) (by omega) (Nat.lt_of_le_of_lt hc2 (by decide)), sameVec_k _ (fun q h => (hq q h).1) hc2 (by decide) (by omega)⟩
  have hin := ints12_p (gel (ginit (enA (valM m)) r) n).piv (by omega)
  have heq := equal11_p m gl gm (by decide) (by omega) (by have := hm.i.vfl; omega) ((gm_nm gm (by decide)).nz (by decide)) (fun v hv => by rw [hvr v hv]; omega)
  have haw := awake12_p
  have hnm := num12_p 0
  generalize gel (ginit (enA (valM m)) r) n = s at *
  generalize kersQ s n = Ks at *
  generalize redQ s r n = Q at *
  have hrwl : (qrs (valM m)).length = r := by simp [qrs, hvl]
  refine pcall_of hmo Tryz.func5 rfl (by kernel_rfl) (by simp [Tryz.ntmps5]) ?_; simp -implicitDefEqProofs [go_sem, Tryz.ntmps5]; (repeat refine And.intro (by first | decide +kernel | omega | kernel_rfl) ?_); (try decide +kernel)
  refine .inl ⟨_, hcp, ?_⟩; simp -implicitDefEqProofs [go_sem]; (repeat refine And.intro (by first | decide +kernel | omega | kernel_rfl) ?_); (try decide +kernel)
  refine .inl ⟨_, hrk, ?_⟩; simp -implicitDefEqProofs [go_sem]; (repeat refine And.intro (by first | decide +kernel | omega | kernel_rfl) ?_); (try decide +kernel)
  refine .inl ⟨_, hrd, ?_⟩; simp -implicitDefEqProofs [go_sem]; (repeat refine And.intro (by first | decide +kernel | omega | kernel_rfl) ?_); (try decide +kernel)
  refine .inl ⟨_, hkn, ?_⟩; simp -implicitDefEqProofs [go_sem]; (repeat refine And.intro (by first | decide +kernel | omega | kernel_rfl) ?_); (try decide +kernel)
  refine .inl ⟨_, hck, ?_⟩; simp -implicitDefEqProofs [go_sem, undef]; (repeat refine And.intro (by first | decide +kernel | omega | kernel_rfl) ?_); (try decide +kernel)
  refine .inl ⟨_, hrw, ?_⟩; simp -implicitDefEqProofs [go_sem]; (repeat refine And.intro (by first | decide +kernel | omega | kernel_rfl) ?_); (try decide +kernel)
  refine .inl ⟨_, h12, ?_⟩; simp -implicitDefEqProofs [go_sem]; (repeat refine And.intro (by first | decide +kernel | omega | kernel_rfl) ?_); (try decide +kernel)
  refine .inl ⟨_, hrw, ?_⟩; simp -implicitDefEqProofs [go_sem]; (repeat refine And.intro (by first | decide +kernel | omega | kernel_rfl) ?_); (try decide +kernel)
  refine .inl ⟨_, k12, ?_⟩; simp -implicitDefEqProofs [go_sem]; (repeat refine And.intro (by first | decide +kernel | omega | kernel_rfl) ?_); (try decide +kernel)
  refine .inl ⟨_, hnm, ?_⟩; simp -implicitDefEqProofs [go_sem, undef]; (repeat refine And.intro (by first | decide +kernel | omega | kernel_rfl) ?_); (try decide +kernel)
  refine .inl ⟨_, hfrm, ?_⟩; simp -implicitDefEqProofs [go_sem, undef]; (repeat refine And.intro (by first | decide +kernel | omega | kernel_rfl) ?_); (try decide +kernel)
  refine .inl ⟨_, htl, ?_⟩; simp -implicitDefEqProofs [go_sem, undef]; (repeat refine And.intro (by first | decide +kernel | omega | kernel_rfl) ?_); (try decide +kernel)
  refine .inl ⟨_, hin, ?_⟩; simp -implicitDefEqProofs [go_sem, undef]; (repeat refine And.intro (by first | decide +kernel | omega | kernel_rfl) ?_); (try decide +kernel)
  refine .inl ⟨_, hnm, ?_⟩; simp -implicitDefEqProofs [go_sem, undef]; (repeat refine And.intro (by first | decide +kernel | omega | kernel_rfl) ?_); (try decide +kernel)
  refine loop_rule [] (fun (i : Nat) => ⟨139, [(1, .pr 0 0 0 0), (3, .pr 16 0 0 0), (9, .d (.sl (ves (Ks.map vnm)))), (14, .d (.sl (qrs Ks))), (117, intP .i64 (Ks.length : Int)), (118, intP .i64 (i : Int))],
      [(16, .box (mbx m)), (0, .box (mbx m))], 1000⟩)
    (fun i => i ≤ Ks.length) (fun i => Ks.length - i) 0 (Nat.zero_le _) (by simp) (by simp -implicitDefEqProofs [go_sem, mbx]) (fun i hi => ?_)
  by_cases hil : i < Ks.length
  · obtain ⟨q1, q2⟩ := hkq i hil
    simp -implicitDefEqProofs [go_sem, hil, mbx]; (repeat refine And.intro (by first | decide +kernel | omega | kernel_rfl) ?_); (try decide +kernel)
    refine .inl ⟨_, q1, ?_⟩; simp -implicitDefEqProofs [go_sem, hil, mbx]; (repeat refine And.intro (by first | decide +kernel | omega | kernel_rfl) ?_); (try decide +kernel)
    refine .inl ⟨_, q2, ?_⟩; simp -implicitDefEqProofs [go_sem, hil, mbx]; (repeat refine And.intro (by first | decide +kernel | omega | kernel_rfl) ?_); (try decide +kernel)
    refine ⟨i + 1, ?_⟩; (repeat' apply And.intro) <;> first | omega | assumption | rfl
  · obtain rfl : i = Ks.length := by omega
    simp -implicitDefEqProofs [go_sem, mbx]; (repeat refine And.intro (by first | decide +kernel | omega | kernel_rfl) ?_); (try decide +kernel)
    refine .inl ⟨_, heq, ?_⟩; simp -implicitDefEqProofs [go_sem, mbx]; (repeat refine And.intro (by first | decide +kernel | omega | kernel_rfl) ?_); (try decide +kernel)
    refine .inl ⟨_, haw, ?_⟩; simp -implicitDefEqProofs [go_sem, mbx]; (repeat refine And.intro (by first | decide +kernel | omega | kernel_rfl) ?_); (try decide +kernel)
theorem reduces_p (m : MR) (hm : Im3 m) : PCall Tryz.prog 5 [.d (md m)] (.one (.d (.v (.bool true)))) := by
  by_cases hc : checkE m = 0
  · exact reduces_y m hm hc
  · have hcp := copy11_p m (by have := hm.i.ld; omega) (fun x hx z hz => by have := (hm.i.z x hx z hz).2; omega) (fun x hx => by have := hm.i.w x hx; omega) (by have := hm.i.n; omega)
    have hrk := rank_e m hm.i.d hm.i.g hc
    have hrd := reduce_e m hm.i.d hm.i.g hc
    have hkn := kernel_e m hm.i.d hm.i.g hc
    have hck := check11_p m hm.i.d hm.i.g
    have htl := told12_e (checkE m) hc
    have hnm := num12_p (checkE m)
    have haw := awake12_p
    refine pcall_of hmo Tryz.func5 rfl (by kernel_rfl) (by simp [Tryz.ntmps5]) ?_; simp -implicitDefEqProofs [go_sem, Tryz.ntmps5]; (repeat refine And.intro (by first | decide +kernel | omega | kernel_rfl) ?_); (try decide +kernel)
    refine .inl ⟨_, hcp, ?_⟩; simp -implicitDefEqProofs [go_sem]; (repeat refine And.intro (by first | decide +kernel | omega | kernel_rfl) ?_); (try decide +kernel)
    refine .inl ⟨_, hrk, ?_⟩; simp -implicitDefEqProofs [go_sem]; (repeat refine And.intro (by first | decide +kernel | omega | kernel_rfl) ?_); (try decide +kernel)
    refine .inl ⟨_, hrd, ?_⟩; simp -implicitDefEqProofs [go_sem]; (repeat refine And.intro (by first | decide +kernel | omega | kernel_rfl) ?_); (try decide +kernel)
    refine .inl ⟨_, hkn, ?_⟩; simp -implicitDefEqProofs [go_sem]; (repeat refine And.intro (by first | decide +kernel | omega | kernel_rfl) ?_); (try decide +kernel)
    refine .inl ⟨_, hck, ?_⟩; simp -implicitDefEqProofs [go_sem, hc]; (repeat refine And.intro (by first | decide +kernel | omega | kernel_rfl) ?_); (try decide +kernel)
    refine .inl ⟨_, hnm, ?_⟩; simp -implicitDefEqProofs [go_sem]; (repeat refine And.intro (by first | decide +kernel | omega | kernel_rfl) ?_); (try decide +kernel)
    refine .inl ⟨_, htl, ?_⟩; simp -implicitDefEqProofs [go_sem]; (repeat refine And.intro (by first | decide +kernel | omega | kernel_rfl) ?_); (try decide +kernel)
    refine .inl ⟨_, hnm, ?_⟩; simp -implicitDefEqProofs [go_sem]; (repeat refine And.intro (by first | decide +kernel | omega | kernel_rfl) ?_); (try decide +kernel)
    refine .inl ⟨_, haw, ?_⟩; simp -implicitDefEqProofs [go_sem]; (repeat refine And.intro (by first | decide +kernel | omega | kernel_rfl) ?_); (try decide +kernel)
end Go.Mt
/-
  A part of the proof.
-/
set_option linter.unusedSimpArgs false
set_option linter.unusedVariables false
namespace Go.Mt
open Go Go.Pm Go.Proofs Go.RowKit Go.ChangeShapes Go.WideShapes Go.ChangeAt
section
variable {H : Type} {enc : TypeId × Value → H} {w : World} {hd : Bool}
def MatM3 (m : MR) (b : Nat) : Prop := MatM m b ∧ 3 * m.2.flatten.length + 1 ≤ b
theorem sum3 (l : List (List ZR)) : (l.map fun r => 3 * r.length).sum = 3 * (l.map List.length).sum := by
  induction l with
  | nil => rfl
  | cons a l ih => rw [List.map_cons, List.map_cons, List.sum_cons, List.sum_cons, ih, Nat.mul_add]
theorem giv_mat3 {K : Nat} (hK : K < 1099511627776) : Giv K H enc w hd 33 mel MatM3 :=
  (giv_struct2 (F0 := zel) (F1 := fun rows => [.sl (rws rows)]) Tryz.underlying33 rfl (by kernel_rfl) (by kernel_rfl) (giv_int hK) (giv_list (k := 1) Tryz.underlying31 (by kernel_rfl) (by decide) (fun _ => rfl) (giv_row hK))).mono fun m b hb ⟨b0, b1, h0, h1, h2⟩ => by
    have k1 := h1.len (fun _ _ h => by have := h.2; omega)
    have k2 := h1.sum List.length (fun r b h => by have := h.2; omega)
    have k3 := h1.sum (fun r => 3 * r.length) (fun r b h => by have := h.2; omega)
    rw [sum3] at k3
    rw [← List.length_flatten] at k2 k3
    refine ⟨⟨⟨h0.1, by have := h0.2; omega⟩, fun r hr p hp => ?_, by omega, fun r hr => ?_, by omega⟩, by omega⟩
    · obtain ⟨b', g1, g2⟩ := h1.mem r hr
      obtain ⟨g3, g4⟩ := g2.1 p hp
      exact ⟨g3, by omega⟩
    · obtain ⟨b', g1, g2⟩ := h1.mem r hr
      have := g2.2
      omega
end
theorem Im3.of {m : MR} {b : Nat} (h : MatM3 m b) (hb : b ≤ 1048576) : Im3 m := ⟨.of h.1 hb, by have := h.2; omega⟩
theorem reduces_a (m : MR) {b0 : Nat} (h0 : MatM3 m b0) (hb : b0 ≤ 1048576) : PCall Tryz.prog 5 [.d (md m)] (.one (.d (.v (.bool true)))) :=
  reduces_p m (.of h0 hb)
end Go.Mt
/-
  A part of the proof.
-/
set_option linter.unusedSimpArgs false
set_option linter.unusedVariables false
namespace Go.Proofs.YtpoocfmphcgmkaaGreat.bareissReduces
open Go.ChangeShapes Go.WideShapes Go.ChangeAt Go.RowKit Go.Pm Go.Mt
theorem own : ownKnob Tryz.prog.godebug = none := by kernel_rfl
set_option maxRecDepth 100000 in
theorem contract (H : Type) (enc : TypeId × Value → H) (W : World) (base : Nat) (args : Array Value) (ds gs : List (DataW H)) (before : List MemPlace)
    (hval : ∀ (j : Nat) t v, Tryz.f5.params[j]? = some t → args[j]? = some v → Value.okWide Tryz.prog W .any base t v)
    (hW : DataW.Whole enc Tryz.prog Tryz.f5.params.toList Rows.bareissReducesSpec.vars false W args.toList ds gs before) (hk : Rows.uptoSmall H (ds ++ gs) = true) :
    Calls Tryz.prog 5 args W fun e W' => ∃ v, e = .returned v ∧ Rows.bareissReducesSpec.post enc Tryz.prog Tryz.f5 false true false false W args v W' := by
  have hW' := hW
  obtain ⟨p, q, hA0, hV, rfl, hfz, hnd⟩ := hW
  have hA : DataW.TrodAll enc Tryz.prog W 0 (fun _ => true) true Tryz.f5.params.toList args.toList ds p := hA0
  rw [Tryz.params5] at hA hval
  obtain ⟨v0, vs0, d0, ds0, p0, q0, hargs, rfl, rfl, h0, r0⟩ := trodAll_cons hA
  obtain ⟨rfl, rfl, rfl⟩ := trodAll_nil r0
  obtain rfl : args = #[v0] := by cases args; simp_all
  obtain ⟨rfl, rfl⟩ := trodVars_none hV
  have hb : Rows.uptoBulk d0 ≤ 1048576 := by
    have h := of_decide_eq_true hk
    simp only [List.append_nil, Rows.uptoBulkAll] at h
    omega
  have hb0 : Rows.uptoBulk d0 ≤ 1048576 := by omega
  obtain ⟨cs0, rfl, _⟩ := okWide_struct Tryz.underlying33 (hval 0 33 v0 rfl rfl)
  obtain ⟨fuel0, hf0⟩ := h0
  obtain ⟨x0, hr0, hM0⟩ := giv_mat3 (K := 1048576) (by decide) fuel0 _ _ hf0 (fun b o hm => hfz b o (List.mem_append_left _ (List.mem_append_left _ hm))) hb0
  have hlaw := reduces_a x0 hM0 hb
  refine law_post (tb := 4) (xs := [.d (md x0)]) hW' rfl (by kernel_rfl) (by rw [Tryz.params5]; intro t ht; simp at ht; first | (subst ht; exact ⟨by kernel_rfl, of_decide_eq_true (by kernel_rfl)⟩) | (rcases ht with rfl | rfl <;> exact ⟨by kernel_rfl, of_decide_eq_true (by kernel_rfl)⟩)) Tryz.underlying4 (by kernel_rfl) (fun H ds hd => ?_) hlaw rfl (fun j p v h1 h2 => ?_)
  · match ds, hd with
    | [e0], _ => exact ⟨rfl, rfl, rfl⟩
  · cases j with
    | zero => cases h1; cases h2; exact .d (RdC.agg hr0)
    | succ j =>
      cases h1
end Go.Proofs.YtpoocfmphcgmkaaGreat.bareissReduces
/-
  A part of the proof.
-/
set_option linter.unusedSimpArgs false
set_option linter.unusedVariables false
namespace Go.Proofs.YtpoocfmphcgmkaaGreat.bareissReduces
open Go.ChangeShapes Go.WideShapes Go.ChangeAt Go.RowKit Go.Pm Go.Mt
set_option maxRecDepth 100000 in
theorem lifted (os : Os) (started : os.Started) (H : Type) (enc : TypeId × Value → H) (F : Stop.Interp) :
    ReturnsInHanded {} Tryz.checked os 5 .any ((Rows.OpenSpec.upto Rows.bareissReducesSpec).pre6 enc Tryz.prog Tryz.f5 Rows.bareissReducesUptoRow.domain false) (((Rows.OpenSpec.upto Rows.bareissReducesSpec).at F).post enc Tryz.prog Tryz.f5 false true false false) := by
  refine returnsInHanded_of_cond (C := Tryz.checked) (s := (Rows.OpenSpec.upto Rows.bareissReducesSpec)) (k := Rows.uptoSmall) rfl own started (by kernel_rfl) Tryz.func5
    (OpenSpec.witness (enc := enc) (C := Tryz.checked) (s := (Rows.OpenSpec.upto Rows.bareissReducesSpec)) (k := Rows.uptoSmall) rfl false ⟨#[], #[.agg #[.bool false, .slice none 0 0, .slice none 0 0]], []⟩ 8 (by kernel_rfl) (by kernel_rfl) (by kernel_rfl)
      (x := ([.agg [.agg [.lit (.bool false), .nil], .nil]], [], [])) (by kernel_rfl) rfl (by kernel_rfl)) ?_
  intro W base args ds gs before hval hW _ hk _
  exact contract H enc W base args ds gs before hval hW hk
end Go.Proofs.YtpoocfmphcgmkaaGreat.bareissReduces
