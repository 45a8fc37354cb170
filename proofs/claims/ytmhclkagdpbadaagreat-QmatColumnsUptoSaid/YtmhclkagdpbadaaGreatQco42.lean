/-
  A part of the proof.
-/
import Derived.Test.YtmhclkagdpbadaaGreatQco39
import Derived.Test.YtmhclkagdpbadaaGreatQco41
set_option linter.unusedVariables false
set_option linter.unusedSimpArgs false
set_option linter.unusedSimpArgs false
set_option linter.unusedVariables false
namespace Go.Mt
open Go Go.Pm Go.Proofs
theorem same11L_n (V : List (List Rat)) (hz : Nz V) (hl : V.length < 1099511627776) (hl2 : ∀ r ∈ V, r.length < 1099511627776) : PCall Tryz.prog 35 [.d (md (nm V)), .d (md (nm V))] (.one (.d (.v (.bool true)))) := by
  have hs := same11_n V hz hl hl2
  refine pcall_of hmo Tryz.func35 rfl (by kernel_rfl) (by simp [Tryz.ntmps35]) ?_; simp -implicitDefEqProofs [go_sem, Tryz.ntmps35]; (repeat refine And.intro (by first | decide +kernel | omega | kernel_rfl) ?_); (try decide +kernel)
  refine .inl ⟨_, hs, ?_⟩; simp -implicitDefEqProofs [go_sem]; (repeat refine And.intro (by first | decide +kernel | omega | kernel_rfl) ?_); (try decide +kernel)
theorem none11_p : PCall Tryz.prog 36 [.d mE] (.one (.d (.v (.bool true)))) := by
  have hs := same11_p zM zM (by show 0 < _; decide) (by show 0 < _; decide) (by simp [zM]) (by simp [zM]) (by simp [zM]) (by simp [zM]) (by decide) (by decide)
  rw [decide_eq_true rfl] at hs
  have hs : PCall Tryz.prog 54 [.d mE, .d mE] (.one (.d (.v (.bool true)))) := hs
  have h2 : PCall Tryz.prog 35 [.d mE, .d mE] (.one (.d (.v (.bool true)))) := by
    refine pcall_of hmo Tryz.func35 rfl (by kernel_rfl) (by simp [Tryz.ntmps35]) ?_; simp -implicitDefEqProofs [go_sem, Tryz.ntmps35]; (repeat refine And.intro (by first | decide +kernel | omega | kernel_rfl) ?_); (try decide +kernel)
    refine .inl ⟨_, hs, ?_⟩; simp -implicitDefEqProofs [go_sem]; (repeat refine And.intro (by first | decide +kernel | omega | kernel_rfl) ?_); (try decide +kernel)
  refine pcall_of hmo Tryz.func36 rfl (by kernel_rfl) (by simp [Tryz.ntmps36]) ?_; simp -implicitDefEqProofs [go_sem, Tryz.ntmps36]; (repeat refine And.intro (by first | decide +kernel | omega | kernel_rfl) ?_); (try decide +kernel)
  refine .inl ⟨_, h2, ?_⟩; simp -implicitDefEqProofs [go_sem]; (repeat refine And.intro (by first | decide +kernel | omega | kernel_rfl) ?_); (try decide +kernel)
theorem refused11_p (e : Int) : PCall Tryz.prog 24 [.d mE, .d (.v (.int .i64 e)), .d (.v (.int .i64 e))] (.one (.d (.v (.bool true)))) := by
  refine pcall_of hmo Tryz.func24 rfl (by kernel_rfl) (by simp [Tryz.ntmps24]) ?_; simp -implicitDefEqProofs [go_sem, Tryz.ntmps24]; (repeat refine And.intro (by first | decide +kernel | omega | kernel_rfl) ?_); (try decide +kernel)
  refine .inl ⟨_, none11_p, ?_⟩; simp -implicitDefEqProofs [go_sem]; (repeat refine And.intro (by first | decide +kernel | omega | kernel_rfl) ?_); (try decide +kernel)
theorem right11_p (V : List (List Rat)) (hz : Nz V) (hl : V.length < 1099511627776) (hl2 : ∀ r ∈ V, r.length < 1099511627776) : PCall Tryz.prog 25 [.d (md (nm V)), .d (.v (.int .i64 0)), .d (md (nm V))] (.one (.d (.v (.bool true)))) := by
  have hs := same11L_n V hz hl hl2
  refine pcall_of hmo Tryz.func25 rfl (by kernel_rfl) (by simp [Tryz.ntmps25]) ?_; simp -implicitDefEqProofs [go_sem, Tryz.ntmps25]; (repeat refine And.intro (by first | decide +kernel | omega | kernel_rfl) ?_); (try decide +kernel)
  refine .inl ⟨_, hs, ?_⟩; simp -implicitDefEqProofs [go_sem]; (repeat refine And.intro (by first | decide +kernel | omega | kernel_rfl) ?_); (try decide +kernel)
theorem size11L_p (n : Int) : PCall Tryz.prog 23 [.d (.v (.int .i64 n))] (.one (.d (.v (.int .i64 (szE n))))) := by
  by_cases h1 : n < 0
  · have e : szE n = 1 := if_pos h1
    rw [e]
    refine pcall_of hmo Tryz.func23 rfl (by kernel_rfl) (by simp [Tryz.ntmps23]) ?_; simp -implicitDefEqProofs [go_sem, Tryz.ntmps23]; (repeat refine And.intro (by first | decide +kernel | omega | kernel_rfl) ?_); (try decide +kernel)
    simp -implicitDefEqProofs [go_sem, h1]; (repeat refine And.intro (by first | decide +kernel | omega | kernel_rfl) ?_); (try decide +kernel)
  · by_cases h2 : 1000 < n
    · have e : szE n = 4 := by unfold szE; rw [if_neg h1, if_pos h2]
      rw [e]
      refine pcall_of hmo Tryz.func23 rfl (by kernel_rfl) (by simp [Tryz.ntmps23]) ?_; simp -implicitDefEqProofs [go_sem, Tryz.ntmps23]; (repeat refine And.intro (by first | decide +kernel | omega | kernel_rfl) ?_); (try decide +kernel)
      simp -implicitDefEqProofs [go_sem, h1, h2]; (repeat refine And.intro (by first | decide +kernel | omega | kernel_rfl) ?_); (try decide +kernel)
    · have e : szE n = 0 := by unfold szE; rw [if_neg h1, if_neg h2]
      rw [e]
      refine pcall_of hmo Tryz.func23 rfl (by kernel_rfl) (by simp [Tryz.ntmps23]) ?_; simp -implicitDefEqProofs [go_sem, Tryz.ntmps23]; (repeat refine And.intro (by first | decide +kernel | omega | kernel_rfl) ?_); (try decide +kernel)
      simp -implicitDefEqProofs [go_sem, h1, h2]; (repeat refine And.intro (by first | decide +kernel | omega | kernel_rfl) ?_); (try decide +kernel)
def zV : VR := ((false, []), [])
theorem noVec_p : PCall Tryz.prog 17 [.d vE] (.one (.d (.v (.bool true)))) := by
  have hs := sameVec11_p zV zV (by show 0 < _; decide) (by show 0 < _; decide) (by simp [zV]) (by simp [zV]) (by decide) (by decide)
  rw [decide_eq_true rfl] at hs
  have hs : PCall Tryz.prog 19 [.d vE, .d vE] (.one (.d (.v (.bool true)))) := hs
  refine pcall_of hmo Tryz.func17 rfl (by kernel_rfl) (by simp [Tryz.ntmps17]) ?_; simp -implicitDefEqProofs [go_sem, Tryz.ntmps17]; (repeat refine And.intro (by first | decide +kernel | omega | kernel_rfl) ?_); (try decide +kernel)
  refine .inl ⟨_, hs, ?_⟩; simp -implicitDefEqProofs [go_sem]; (repeat refine And.intro (by first | decide +kernel | omega | kernel_rfl) ?_); (try decide +kernel)
theorem sameVec_n (qs : List Rat) {K L : Nat} (hq : ∀ q ∈ qs, ql q ≤ K) (hD : nl (comDen qs) ≤ L) (hKL : K + L < 1099511627776) (hn : qs.length < 1099511627776) : PCall Tryz.prog 19 [.d (vd (vnm qs)), .d (vd (vnm qs))] (.one (.d (.v (.bool true)))) := by
  have hd : Lz (vnm qs).1 := by show (nrm _).2.length < _; rw [rz_len, zl_nat]; omega
  have hz : ∀ z ∈ (vnm qs).2, Lz z := fun z hz => by
    obtain ⟨q, h4, rfl⟩ := List.mem_map.1 hz
    have h5 := hq q h4
    have h6 := nl_comNum (K := K) (KL := L) (D := comDen qs) (q := q) (by have := ql_num q; unfold zl at this; omega) hD
    show (nrm _).2.length < _
    rw [rz_len]
    unfold zl; omega
  have hs := sameVec11_p (vnm qs) (vnm qs) hd hd hz hz (by simp [vnm, vns]; exact hn) (by simp [vnm, vns]; exact hn)
  rw [decide_eq_true rfl] at hs
  exact hs
theorem lives_p : PCall Tryz.prog 27 [] (.one (.d (.v (.bool true)))) := by
  have h1 := Go.Tz.c2
  have h2 := Go.Tz.c10
  have h3 := Go.Tz.c71
  have h4 := Go.Tz.c82
  have h5 := Go.Tz.c83
  have h6 := Go.Tz.c141
  have h7 := Go.Tz.c73
  have h8 := Go.Tz.c81
  have h9 := Go.Tz.c145
  have h10 := Go.Tz.c152
  refine pcall_of hmo Tryz.func27 rfl (by kernel_rfl) (by simp [Tryz.ntmps27]) ?_; simp -implicitDefEqProofs [go_sem, Tryz.ntmps27]; (repeat refine And.intro (by first | decide +kernel | omega | kernel_rfl) ?_); (try decide +kernel)
  refine .inl ⟨_, h1, ?_⟩; simp -implicitDefEqProofs [go_sem]; (repeat refine And.intro (by first | decide +kernel | omega | kernel_rfl) ?_); (try decide +kernel)
  refine .inl ⟨_, h2, ?_⟩; simp -implicitDefEqProofs [go_sem]; (repeat refine And.intro (by first | decide +kernel | omega | kernel_rfl) ?_); (try decide +kernel)
  refine .inl ⟨_, h3, ?_⟩; simp -implicitDefEqProofs [go_sem]; (repeat refine And.intro (by first | decide +kernel | omega | kernel_rfl) ?_); (try decide +kernel)
  refine .inl ⟨_, h4, ?_⟩; simp -implicitDefEqProofs [go_sem]; (repeat refine And.intro (by first | decide +kernel | omega | kernel_rfl) ?_); (try decide +kernel)
  refine .inl ⟨_, h5, ?_⟩; simp -implicitDefEqProofs [go_sem]; (repeat refine And.intro (by first | decide +kernel | omega | kernel_rfl) ?_); (try decide +kernel)
  refine .inl ⟨_, h6, ?_⟩; simp -implicitDefEqProofs [go_sem]; (repeat refine And.intro (by first | decide +kernel | omega | kernel_rfl) ?_); (try decide +kernel)
  refine .inl ⟨_, h7, ?_⟩; simp -implicitDefEqProofs [go_sem]; (repeat refine And.intro (by first | decide +kernel | omega | kernel_rfl) ?_); (try decide +kernel)
  refine .inl ⟨_, h8, ?_⟩; simp -implicitDefEqProofs [go_sem]; (repeat refine And.intro (by first | decide +kernel | omega | kernel_rfl) ?_); (try decide +kernel)
  refine .inl ⟨_, h9, ?_⟩; simp -implicitDefEqProofs [go_sem]; (repeat refine And.intro (by first | decide +kernel | omega | kernel_rfl) ?_); (try decide +kernel)
  refine .inl ⟨_, h10, ?_⟩; simp -implicitDefEqProofs [go_sem]; (repeat refine And.intro (by first | decide +kernel | omega | kernel_rfl) ?_); (try decide +kernel)
end Go.Mt
/-
  A part of the proof.
-/
set_option linter.unusedSimpArgs false
set_option linter.unusedVariables false
namespace Go.Mt
open Go Go.Pm Go.Proofs
def flX (m : MR) : VR := if checkE m = 0 then vnm (valM m).flatten else zV
def coX (m : MR) : List VR := if checkE m = 0 then colV m else []
theorem flat_all (m : MR) (h : Im m) : PCall Tryz.prog 14 [.d (md m)] (.tup [.d (vd (flX m)), .d (.v (.int .i64 (checkE m)))]) := by
  by_cases hc : checkE m = 0
  · have e : flX m = vnm (valM m).flatten := if_pos hc
    have := flat_p m h.d h.g hc (by have := h.fl; omega)
    rw [e, hc]; exact this
  · have e : flX m = zV := if_neg hc
    have := flat_e m h.d h.g hc
    rw [e]; exact this
theorem columns_all (m : MR) (h : Im m) : PCall Tryz.prog 15 [.d (md m)] (.tup [.d (.sl (ves (coX m))), .d (.v (.int .i64 (checkE m)))]) := by
  by_cases hc : checkE m = 0
  · have e : coX m = colV m := if_pos hc
    have := columns_p m (h.gm hc)
    rw [e, hc]; exact this
  · have e : coX m = [] := if_neg hc
    have := columns_e m h.d h.g hc
    rw [e]; exact this
theorem vchE_snoc (l : List VR) (v : VR) : vchE (l ++ [v]) = if ofR v.1 = 0 then 6 else vchE l := by
  unfold vchE
  rw [List.all_append]
  by_cases h : ofR v.1 = 0
  · rw [if_pos h]; simp [h]
  · rw [if_neg h]
    have : ([v].all fun v => decide (ofR v.1 ≠ 0)) = true := by simp [h]
    rw [this, Bool.and_true]
theorem lnE_snoc (l : List VR) (v : VR) (n : Int) : lnE (l ++ [v]) n = orE (lnE l n) (if (v.2.length : Int) = n then 0 else 2) := by
  unfold lnE
  rw [List.all_append]
  by_cases h : l.all (fun v => decide ((v.2.length : Int) = n)) = true
  · rw [h, if_pos rfl, orE_zero]
    by_cases h2 : (v.2.length : Int) = n
    · rw [if_pos h2]; simp [h2]
    · rw [if_neg h2]; simp [h2]
  · rw [eq_false_of_ne_true h]; rfl
theorem fcE_vn {l : List VR} {n : Int} (h : Iv l) (he : fcE l n = 0) : ∃ N : Nat, n = (N : Int) ∧ Vn l N := by
  obtain ⟨h1, h2⟩ := orE_eq he
  obtain ⟨h2, h3⟩ := orE_eq h2
  have hn0 : ¬ n < 0 := fun h => by rw [szE, if_pos h] at h2; exact absurd h2 (by decide)
  have hn1 : ¬ 1000 < n := fun h => by rw [szE, if_neg hn0, if_pos h] at h2; exact absurd h2 (by decide)
  obtain ⟨N, rfl⟩ : ∃ N : Nat, n = (N : Int) := ⟨n.toNat, by omega⟩
  refine ⟨N, rfl, fun v hv => ⟨(h.d v hv).1, fun hz => ?_, (h.d v hv).2⟩, h.z, fun v hv => ?_, by omega, h.c, ?_⟩
  · by_cases ha : l.all (fun v => decide (ofR v.1 ≠ 0)) = true
    · have := List.all_eq_true.1 ha v hv
      simp [hz] at this
    · rw [vchE, if_neg ha] at h1; exact absurd h1 (by decide)
  · by_cases ha : l.all (fun v => decide ((v.2.length : Int) = (N : Int))) = true
    · have := of_decide_eq_true (List.all_eq_true.1 ha v hv)
      omega
    · rw [lnE, if_neg ha] at h3; exact absurd h3 (by decide)
  · have := nl_lcms (dens l)
    have := h.dl
    show nl (lcms (dens l)) < _
    omega
theorem fcQ_nz (l : List VR) {n : Nat} (h : Vn l n) : Nz (fcQ l n) := by
  obtain ⟨f1, f2⟩ := fcQ_frac l h
  exact Nz.of (K := 8589934591) (L := 8589934591) (fun r hr q hq => by have := f1 q (List.mem_flatten.2 ⟨r, hr, hq⟩); omega) (by omega) (by decide)
set_option maxRecDepth 100000 in
set_option maxHeartbeats 4000000 in
theorem qcolumns_p (m : MR) (n : Int) (l : List VR) (hm : Im m) (hl : Iv l) : PCall Tryz.prog 3 [.d (md m), .d (.v (.int .i64 n)), .d (.sl (ves l))] (.one (.d (.v (.bool true)))) := by
  have hfl := flat_all m hm
  have hco := columns_all m hm
  have hck := check11_p m hm.d hm.g
  have hc := hl.c
  obtain ⟨F, hF⟩ : ∃ F, F = flX m := ⟨_, rfl⟩
  obtain ⟨C, hC⟩ : ∃ C, C = coX m := ⟨_, rfl⟩
  obtain ⟨E, hE⟩ : ∃ E, E = checkE m := ⟨_, rfl⟩
  rw [← hF, ← hE] at hfl
  rw [← hC, ← hE] at hco
  rw [← hE] at hck
  refine pcallS_of Tryz.func3 rfl (by kernel_rfl) (by simp [Tryz.ntmps3]) ?_; rw [Tryz.ntmps3]
  refine .seq (.of_fn hmo ?_); simp -implicitDefEqProofs [go_sem]; (repeat refine And.intro (by first | decide +kernel | omega | kernel_rfl) ?_); (try decide +kernel)
  refine .seq (.of_fn hmo ?_)
  simp -implicitDefEqProofs [go_sem]; (repeat refine And.intro (by first | decide +kernel | omega | kernel_rfl) ?_); (try decide +kernel)
  refine .inl ⟨_, hfl, ?_⟩; simp -implicitDefEqProofs [go_sem]; (repeat refine And.intro (by first | decide +kernel | omega | kernel_rfl) ?_); (try decide +kernel)
  refine .seq (.of_fn hmo ?_)
  simp -implicitDefEqProofs [go_sem]; (repeat refine And.intro (by first | decide +kernel | omega | kernel_rfl) ?_); (try decide +kernel)
  refine .inl ⟨_, hco, ?_⟩; simp -implicitDefEqProofs [go_sem]; (repeat refine And.intro (by first | decide +kernel | omega | kernel_rfl) ?_); (try decide +kernel)
  refine .seq (.of_fn hmo ?_)
  simp -implicitDefEqProofs [go_sem]; (repeat refine And.intro (by first | decide +kernel | omega | kernel_rfl) ?_); (try decide +kernel)
  refine .inl ⟨_, hck, ?_⟩; simp -implicitDefEqProofs [go_sem]; (repeat refine And.intro (by first | decide +kernel | omega | kernel_rfl) ?_); (try decide +kernel)
  refine .cut ⟨146, [(1, .d (.v (.int .i64 n))), (2, .d (.sl (ves l))), (3, .pr 0 0 0 0), (6, .d (.v (.bool false))), (7, .pr 28 0 0 0), (9, .d (.sl (ves C))), (11, intP .i64 E)], [(28, .box [.d (.v (.bool F.1.1)), .d (.sl (les F.1.2)), .d (.sl (zes F.2))]), (0, .box (mbx m))], 1000⟩ (.of_fn hmo ?_) ?_
  · by_cases hz : E = 0
    · simp -implicitDefEqProofs [go_sem, hz, undef]; (repeat refine And.intro (by first | decide +kernel | omega | kernel_rfl) ?_); (try decide +kernel)
    · have e1 : F = zV := by rw [hF]; exact if_neg (by rw [← hE]; exact hz)
      have e2 : C = [] := by rw [hC]; exact if_neg (by rw [← hE]; exact hz)
      rw [e1, e2]
      simp -implicitDefEqProofs [go_sem, hz, undef, zV]; (repeat refine And.intro (by first | decide +kernel | omega | kernel_rfl) ?_); (try decide +kernel)
      refine .inl ⟨_, noVec_p, ?_⟩; simp -implicitDefEqProofs [go_sem]; (repeat refine And.intro (by first | decide +kernel | omega | kernel_rfl) ?_); (try decide +kernel)
  refine .cut ⟨146, [(1, .d (.v (.int .i64 n))), (2, .d (.sl (ves l))), (6, .d (.v (.bool false)))], [], 20000⟩ (.of_fn hmo ?_) ?_
  · by_cases hz : E = 0
    · have hc0 : checkE m = 0 := by rw [← hE]; exact hz
      have gm := hm.gm hc0
      have gl := hm.gl (check_parts hc0).1
      have e1 : F = vnm (valM m).flatten := by rw [hF]; exact if_pos hc0
      have e2 : C = colV m := by rw [hC]; exact if_pos hc0
      have hcl := columns11_p m gl gm
      have hfl2 := flat11_p m gl (by have := hm.fl; omega) (by have := hm.vfl; omega)
      have hsf := sameVec_n (valM m).flatten (K := 1048577) (L := 8589934591) (valM_ql gm) (by have := valM_com gl (valM m).flatten (fun q hq => hq); omega) (by decide) (by have := hm.vfl; omega)
      have hcc := colsOf_lt hm.g
      have hsc : ∀ k, (hk : k < (colV m).length) → PCall Tryz.prog 19 [.d (vd (colV m)[k]), .d (vd (colV m)[k])] (.one (.d (.v (.bool true)))) := fun k hk => by
        have hk2 : k < colsOf m.2 := by simpa [colV] using hk
        have e : (colV m)[k] = vnm (colQ (valM m) m.2.length k) := by simp [colV]
        have hin : ∀ q ∈ colQ (valM m) m.2.length k, q ∈ (valM m).flatten := fun q hq => by
          obtain ⟨i, hi, rfl⟩ := List.mem_map.1 hq
          have hi := List.mem_range.1 hi
          have h1 : i < (valM m).length := by rw [valM_len]; exact hi
          have h2 : k < (valM m)[i].length := by rw [valM_row gm]; exact hk2
          rw [entQ_get h1 h2]
          exact List.mem_flatten.2 ⟨_, List.getElem_mem h1, List.getElem_mem h2⟩
        rw [e]
        exact sameVec_n _ (K := 1048577) (L := 8589934591) (fun q hq => valM_ql gm q (hin q hq)) (by have := valM_com gl _ hin; omega) (by decide) (by simp [colQ]; have := hm.n; omega)
      have hcw : (colV m).length < 549755813888 := by simp [colV]; exact hcc
      rw [hz]
      rw [← e1] at hfl2 hsf
      rw [← e2] at hcl hsc hcw
      simp -implicitDefEqProofs [go_sem]; (repeat refine And.intro (by first | decide +kernel | omega | kernel_rfl) ?_); (try decide +kernel)
      refine .inl ⟨_, hcl, ?_⟩; simp -implicitDefEqProofs [go_sem]; (repeat refine And.intro (by first | decide +kernel | omega | kernel_rfl) ?_); (try decide +kernel)
      refine .inl ⟨_, hfl2, ?_⟩; simp -implicitDefEqProofs [go_sem]; (repeat refine And.intro (by first | decide +kernel | omega | kernel_rfl) ?_); (try decide +kernel)
      refine .inl ⟨_, hsf, ?_⟩; simp -implicitDefEqProofs [go_sem]; (repeat refine And.intro (by first | decide +kernel | omega | kernel_rfl) ?_); (try decide +kernel)
      refine loop_rule [] (fun (k : Nat) => ⟨146, [(1, .d (.v (.int .i64 n))), (2, .d (.sl (ves l))), (6, .d (.v (.bool false))), (9, .d (.sl (ves C))), (12, .d (.sl (ves C))), (72, intP .i64 (C.length : Int)), (73, intP .i64 (k : Int))], [], 5000⟩)
        (fun k => k ≤ C.length) (fun k => C.length - k) 0 (Nat.zero_le _) (by simp) (by simp -implicitDefEqProofs [go_sem]) (fun k hk => ?_)
      by_cases hkl : k < C.length
      · have hs := hsc k hkl
        simp -implicitDefEqProofs [go_sem, hkl]; (repeat refine And.intro (by first | decide +kernel | omega | kernel_rfl) ?_); (try decide +kernel)
        refine .inl ⟨_, hs, ?_⟩; simp -implicitDefEqProofs [go_sem, hkl]; (repeat refine And.intro (by first | decide +kernel | omega | kernel_rfl) ?_); (try decide +kernel)
        exact ⟨k + 1, by omega, by omega, by omega⟩
      · obtain rfl : k = C.length := by omega
        simp -implicitDefEqProofs [go_sem]; (repeat refine And.intro (by first | decide +kernel | omega | kernel_rfl) ?_); (try decide +kernel)
    · simp -implicitDefEqProofs [go_sem, hz]; (repeat refine And.intro (by first | decide +kernel | omega | kernel_rfl) ?_); (try decide +kernel)
  have hfc := fromCols_p l n hl
  refine .seq (.of_fn hmo ?_)
  simp -implicitDefEqProofs [go_sem]; (repeat refine And.intro (by first | decide +kernel | omega | kernel_rfl) ?_); (try decide +kernel)
  refine .inl ⟨_, hfc, ?_⟩; simp -implicitDefEqProofs [go_sem]; (repeat refine And.intro (by first | decide +kernel | omega | kernel_rfl) ?_); (try decide +kernel)
  refine .seq (.of_fn hmo ?_); simp -implicitDefEqProofs [go_sem]; (repeat refine And.intro (by first | decide +kernel | omega | kernel_rfl) ?_); (try decide +kernel)
  obtain ⟨X, hX⟩ : ∃ X, X = fcX l n := ⟨_, rfl⟩
  obtain ⟨G, hG⟩ : ∃ G, G = fcE l n := ⟨_, rfl⟩
  rw [← hX, ← hG]
  refine .cut ⟨146, [(1, .d (.v (.int .i64 n))), (2, .d (.sl (ves l))), (6, .d (.v (.bool false))), (14, .pr 20024 0 0 0), (15, intP .i64 G), (16, intP .i64 (vchE l))], [(20024, .box (mbx X))], 30000⟩ (.of_fn hmo ?_) ?_
  · simp -implicitDefEqProofs [go_sem]; (repeat refine And.intro (by first | decide +kernel | omega | kernel_rfl) ?_); (try decide +kernel)
    refine loop_rule [] (fun (k : Nat) => ⟨146, [(1, .d (.v (.int .i64 n))), (2, .d (.sl (ves l))), (6, .d (.v (.bool false))), (14, .pr 20024 0 0 0), (15, intP .i64 G), (16, intP .i64 (vchE (l.take k))), (93, .d (.sl (ves l))), (94, intP .i64 (l.length : Int)), (95, intP .i64 (k : Int))], [(20024, .box (mbx X))], 22000⟩)
      (fun k => k ≤ l.length) (fun k => l.length - k) 0 (Nat.zero_le _) (by simp) (by simp -implicitDefEqProofs [go_sem, vchE]) (fun k hk => ?_)
    by_cases hkl : k < l.length
    · have hv := vecMay11_p l[k] (hl.d _ (List.getElem_mem hkl)).1
      have hsn := vchE_snoc (l.take k) l[k]
      have et : l.take k ++ [l[k]] = l.take (k + 1) := by rw [List.take_add_one, List.getElem?_eq_getElem hkl]; rfl
      rw [et] at hsn
      by_cases h0 : ofR l[k].1 = 0
      · rw [if_pos h0] at hsn
        rw [show decide (ofR l[k].1 ≠ 0) = false by simp [h0]] at hv
        simp -implicitDefEqProofs [go_sem, hkl]; (repeat refine And.intro (by first | decide +kernel | omega | kernel_rfl) ?_); (try decide +kernel)
        refine .inl ⟨_, hv, ?_⟩; simp -implicitDefEqProofs [go_sem]; (repeat refine And.intro (by first | decide +kernel | omega | kernel_rfl) ?_); (try decide +kernel)
        refine ⟨k + 1, ?_⟩; (repeat' apply And.intro) <;> first | omega | (exact hsn.symm) | assumption | rfl
      · rw [if_neg h0] at hsn
        rw [show decide (ofR l[k].1 ≠ 0) = true by simp [h0]] at hv
        simp -implicitDefEqProofs [go_sem, hkl]; (repeat refine And.intro (by first | decide +kernel | omega | kernel_rfl) ?_); (try decide +kernel)
        refine .inl ⟨_, hv, ?_⟩; simp -implicitDefEqProofs [go_sem]; (repeat refine And.intro (by first | decide +kernel | omega | kernel_rfl) ?_); (try decide +kernel)
        refine ⟨k + 1, ?_⟩; (repeat' apply And.intro) <;> first | omega | (exact hsn.symm) | assumption | rfl
    · obtain rfl : k = l.length := by omega
      rw [List.take_length]
      simp -implicitDefEqProofs [go_sem]; (repeat refine And.intro (by first | decide +kernel | omega | kernel_rfl) ?_); (try decide +kernel)
  obtain ⟨s1, hs1⟩ : ∃ s1, s1 = orE (vchE l) (szE n) := ⟨_, rfl⟩
  have hG2 : orE s1 (lnE l n) = G := by rw [hs1, orE_assoc, hG]; rfl
  refine .cut ⟨146, [(1, .d (.v (.int .i64 n))), (2, .d (.sl (ves l))), (6, .d (.v (.bool false))), (14, .pr 20024 0 0 0), (15, intP .i64 G), (16, intP .i64 s1)], [(20024, .box (mbx X))], 40000⟩ (.of_fn hmo ?_) ?_
  · by_cases h0 : vchE l = 0
    · have e : s1 = szE n := by rw [hs1, h0, orE_zero]
      rw [h0, e]
      simp -implicitDefEqProofs [go_sem]; (repeat refine And.intro (by first | decide +kernel | omega | kernel_rfl) ?_); (try decide +kernel)
      refine .inl ⟨_, size11L_p n, ?_⟩; simp -implicitDefEqProofs [go_sem]; (repeat refine And.intro (by first | decide +kernel | omega | kernel_rfl) ?_); (try decide +kernel)
    · have e : s1 = vchE l := by rw [hs1, orE_ne _ h0]
      rw [e]
      simp -implicitDefEqProofs [go_sem, h0]; (repeat refine And.intro (by first | decide +kernel | omega | kernel_rfl) ?_); (try decide +kernel)
  refine .cut ⟨146, [(1, .d (.v (.int .i64 n))), (2, .d (.sl (ves l))), (6, .d (.v (.bool false))), (14, .pr 20024 0 0 0), (15, intP .i64 G), (16, intP .i64 G)], [(20024, .box (mbx X))], 50000⟩ (.of_fn hmo ?_) ?_
  · simp -implicitDefEqProofs [go_sem]; (repeat refine And.intro (by first | decide +kernel | omega | kernel_rfl) ?_); (try decide +kernel)
    refine loop_rule [] (fun (k : Nat) => ⟨146, [(1, .d (.v (.int .i64 n))), (2, .d (.sl (ves l))), (6, .d (.v (.bool false))), (14, .pr 20024 0 0 0), (15, intP .i64 G), (16, intP .i64 (orE s1 (lnE (l.take k) n))), (107, .d (.sl (ves l))), (108, intP .i64 (l.length : Int)), (109, intP .i64 (k : Int))], [(20024, .box (mbx X))], 42000⟩)
      (fun k => k ≤ l.length) (fun k => l.length - k) 0 (Nat.zero_le _) (by simp) (by simp -implicitDefEqProofs [go_sem, lnE, orE]) (fun k hk => ?_)
    by_cases hkl : k < l.length
    · have hsn := lnE_snoc (l.take k) l[k] n
      have et : l.take k ++ [l[k]] = l.take (k + 1) := by rw [List.take_add_one, List.getElem?_eq_getElem hkl]; rfl
      rw [et] at hsn
      have hsn : orE s1 (lnE (l.take (k + 1)) n) = orE (orE s1 (lnE (l.take k) n)) (if (l[k].2.length : Int) = n then 0 else 2) := by rw [hsn, orE_assoc]
      generalize orE s1 (lnE (l.take k) n) = Z at *
      by_cases h0 : Z = 0
      · rw [h0, orE_zero] at hsn
        by_cases h2 : (l[k].2.length : Int) = n
        · rw [if_pos h2] at hsn
          simp -implicitDefEqProofs [go_sem, hkl, h0, h2]; (repeat refine And.intro (by first | decide +kernel | omega | kernel_rfl) ?_); (try decide +kernel)
          refine ⟨k + 1, ?_⟩; (repeat' apply And.intro) <;> first | omega | (exact hsn.symm) | assumption | rfl
        · rw [if_neg h2] at hsn
          simp -implicitDefEqProofs [go_sem, hkl, h0, h2]; (repeat refine And.intro (by first | decide +kernel | omega | kernel_rfl) ?_); (try decide +kernel)
          refine ⟨k + 1, ?_⟩; (repeat' apply And.intro) <;> first | omega | (exact hsn.symm) | assumption | rfl
      · rw [orE_ne _ h0] at hsn
        simp -implicitDefEqProofs [go_sem, hkl, h0, undef]; (repeat refine And.intro (by first | decide +kernel | omega | kernel_rfl) ?_); (try decide +kernel)
        refine ⟨k + 1, ?_⟩; (repeat' apply And.intro) <;> first | omega | (exact hsn.symm) | assumption | rfl
    · obtain rfl : k = l.length := by omega
      rw [List.take_length, hG2]
      simp -implicitDefEqProofs [go_sem]; (repeat refine And.intro (by first | decide +kernel | omega | kernel_rfl) ?_); (try decide +kernel)
  refine .of_fn hmo ?_
  by_cases hz : G = 0
  · obtain ⟨N, rfl, hV⟩ := fcE_vn hl (by rw [← hG]; exact hz)
    have hX2 : X = nm (fcQ l N) := by rw [hX]; unfold fcX; rw [if_pos (by rw [← hG]; exact hz)]; rfl
    have hrf := fromCols11_p l hV
    have hrt := right11_p (fcQ l N) (fcQ_nz l hV) (by unfold fcQ; rw [length_tabQ]; have := hV.n; omega) (fun r hr => by rw [row_tabQ _ _ _ r hr]; have := hV.c; omega)
    rw [hX2, hz]
    simp -implicitDefEqProofs [go_sem, undef]; (repeat refine And.intro (by first | decide +kernel | omega | kernel_rfl) ?_); (try decide +kernel)
    refine .inl ⟨_, hrf, ?_⟩; simp -implicitDefEqProofs [go_sem]; (repeat refine And.intro (by first | decide +kernel | omega | kernel_rfl) ?_); (try decide +kernel)
    refine .inl ⟨_, hrt, ?_⟩; simp -implicitDefEqProofs [go_sem]; (repeat refine And.intro (by first | decide +kernel | omega | kernel_rfl) ?_); (try decide +kernel)
    refine .inl ⟨_, lives_p, ?_⟩; simp -implicitDefEqProofs [go_sem]; (repeat refine And.intro (by first | decide +kernel | omega | kernel_rfl) ?_); (try decide +kernel)
  · have hX2 : X = zM := by rw [hX]; unfold fcX; rw [if_neg (by rw [← hG]; exact hz)]
    have hrf := refused11_p G
    rw [hX2]
    simp -implicitDefEqProofs [go_sem, hz, undef, zM]; (repeat refine And.intro (by first | decide +kernel | omega | kernel_rfl) ?_); (try decide +kernel)
    refine .inl ⟨_, hrf, ?_⟩; simp -implicitDefEqProofs [go_sem, hz]; (repeat refine And.intro (by first | decide +kernel | omega | kernel_rfl) ?_); (try decide +kernel)
    refine .inl ⟨_, lives_p, ?_⟩; simp -implicitDefEqProofs [go_sem]; (repeat refine And.intro (by first | decide +kernel | omega | kernel_rfl) ?_); (try decide +kernel)
end Go.Mt
