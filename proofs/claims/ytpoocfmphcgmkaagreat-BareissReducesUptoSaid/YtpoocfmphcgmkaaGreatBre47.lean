/-
  A part of the proof.
-/
import Derived.Test.YtpoocfmphcgmkaaGreatBre45
import Derived.Test.YtpoocfmphcgmkaaGreatBre41
import Derived.Test.YtpoocfmphcgmkaaGreatBre43
import Derived.Test.YtpoocfmphcgmkaaGreatBre34
import Derived.Test.YtpoocfmphcgmkaaGreatBre30
import Derived.Test.YtpoocfmphcgmkaaGreatBre40
import Derived.Test.YtpoocfmphcgmkaaGreatBre36
set_option linter.unusedVariables false
set_option linter.unusedSimpArgs false
set_option linter.unusedSimpArgs false
set_option linter.unusedVariables false
namespace Go.Mt
open Go Go.Pm Go.Proofs
theorem freeC_succ (s : Gs) (c : Nat) : freeC s (c + 1) = freeC s c ++ if c ∈ s.piv then [] else [c] := by
  unfold freeC
  rw [List.range_succ, List.filter_append]
  congr 1
  by_cases h : c ∈ s.piv
  · simp [h]
  · simp [h]
/-- a vector's numbers, after so many pivots -/
def kzR (A : Nat → Nat → Int) (p : Ps) (n c m : Nat) : List ZR := (List.range n).map fun j => nrm (kerE A p c m j)
theorem kzR_len (A : Nat → Nat → Int) (p : Ps) (n c m : Nat) : (zes (kzR A p n c m)).length = n := by simp [zes, kzR]
theorem kz_zero (A : Nat → Nat → Int) (p : Ps) {n c : Nat} (hc : c < n) : (List.replicate n [D.v (.bool false), .sl []]).set c (zel (nrm (lastG A p.s))) = zes (kzR A p n c 0) := by
  refine List.ext_getElem? fun j => ?_
  by_cases hj : j < n
  · rw [List.getElem?_set]
    have e : (zes (kzR A p n c 0))[j]? = some (zel (nrm (kerE A p c 0 j))) := by simp [zes, kzR, hj]
    rw [e, ker_zero]
    by_cases h : c = j
    · subst h
      rw [if_pos rfl, if_pos (by simpa using hj), if_pos rfl]
    · rw [if_neg h, if_neg (fun h2 => h h2.symm)]
      simp [hj, zel, nrm_zero, les_nil]
  · have e1 : ((List.replicate n [D.v (.bool false), .sl []]).set c (zel (nrm (lastG A p.s))))[j]? = none := List.getElem?_eq_none (by simp; omega)
    have e2 : (zes (kzR A p n c 0))[j]? = none := List.getElem?_eq_none (by rw [kzR_len]; omega)
    rw [e1, e2]
theorem kz_succ {A : Nat → Nat → Int} {p : Ps} {n c m : Nat} (hn : p.s.piv.Nodup) (hm : m < p.s.piv.length) (hc : c ∉ p.s.piv) (hq : p.s.piv[m] < n) : (zes (kzR A p n c m)).set p.s.piv[m] (zel (nrm (-p.T (oo p.s.out m) c))) = zes (kzR A p n c (m + 1)) := by
  refine List.ext_getElem? fun j => ?_
  by_cases hj : j < n
  · have e : ∀ m, (zes (kzR A p n c m))[j]? = some (zel (nrm (kerE A p c m j))) := fun m => by simp [zes, kzR, hj]
    rw [List.getElem?_set, e m, e (m + 1), ker_succ (n := n) hn hm hc, kzR_len]
    by_cases h : p.s.piv[m] = j
    · rw [if_pos h, if_pos hq, if_pos h.symm]
    · rw [if_neg h, if_neg (fun h2 => h h2.symm)]
  · have e1 : ((zes (kzR A p n c m)).set p.s.piv[m] (zel (nrm (-p.T (oo p.s.out m) c))))[j]? = none := List.getElem?_eq_none (by have := kzR_len A p n c m; rw [List.length_set]; omega)
    have e2 : (zes (kzR A p n c (m + 1)))[j]? = none := List.getElem?_eq_none (by have := kzR_len A p n c (m + 1); omega)
    rw [e1, e2]
def hsK (A : Nat → Nat → Int) (p : Ps) (n r : Nat) : Heap := [(56, .box [.pr 52 0 0 0]), (52, .box (wbx 53 r n (lastG A p.s) (.sr 84 p.s.piv.length) p.sw)), (53, .tab ⟨27, 26, 2, r, false, p.s.out, tbZ p.T n r⟩), (84, .arr ⟨3, 1, p.s.piv.length, false, nes p.s.piv⟩)]
theorem kfree_h (A : Nat → Nat → Int) (p : Ps) (n r c : Nat) (hp : p.s.piv.length < 549755813888) (nid : Nat) (hn : 84 < nid) :
    HCall Tryz.prog 107 [.d (.v (.int .i64 (c : Int))), .pr 56 0 0 0] (hsK A p n r) nid (.d (.v (.bool (!decide (c ∈ p.s.piv))))) (hsK A p n r) := by
  have h := contains_p p.s.piv c hp
  have h1 : ¬ nid = 56 ∧ ¬ nid = 52 ∧ ¬ nid = 53 ∧ ¬ nid = 84 ∧ ¬ 56 = nid ∧ ¬ 52 = nid ∧ ¬ 53 = nid ∧ ¬ 84 = nid := by omega
  refine hcall_of (L := []) hmo Tryz.func107 rfl (by kernel_rfl) (by simp [Tryz.ntmps107]) (by simp -implicitDefEqProofs [go_sem, hsK, wbx]; omega) (by simp -implicitDefEqProofs [go_sem]; omega) ?_
  simp -implicitDefEqProofs [go_sem, Tryz.ntmps107, hsK, wbx, h1]
  refine .inl ⟨_, h, ?_⟩; simp -implicitDefEqProofs [go_sem, hsK, wbx, h1]; (repeat refine And.intro (by first | decide +kernel | omega | kernel_rfl) ?_); (try decide +kernel)
theorem ker_zl2 {A : Nat → Nat → Int} {r K : Nat} {p : Ps} (h : PI A r K true p) (hlast : zl (lastG A p.s) ≤ bnd r K) (c m j : Nat) (hm : m ≤ p.s.piv.length) : zl (kerE A p c m j) ≤ bnd r K := by
  have hk := h.g.k
  have hl := h.g.len
  unfold kerE
  split
  · exact hlast
  · split
    · rw [zl_neg]
      exact h.b _ c (h.g.mem _ (oo_mem (by omega)))
    · exact Nat.le_trans (by decide) (Nat.zero_le _)
set_option maxRecDepth 100000 in
set_option maxHeartbeats 8000000 in
theorem kernel_g (m : MR) {A : Nat → Nat → Int} {n r K : Nat} {p : Ps} (hd : Rz m.1) (hg : Grw m.2) (hc : checkE m = 0) (hof : OfC (nm (valM m)) A n r) (hdn : DownC A n r true p) (h : PI A r K true p) (hA : ∀ st j, st < r → zl (A st j) ≤ K) (hr2 : r < 549755813888) (hn : n < 549755813888) (hlast : zl (lastG A p.s) ≤ bnd r K) (hK : bnd r K < 1099511627776) (hpn : p.s.piv.Nodup) (hpl : ∀ q ∈ p.s.piv, q < n) :
    PCall Tryz.prog 35 [.d (md m)] (.tup [.d (.sl (ves ((kersQ p.s n).map vnm))), .d (.v (.int .i64 0))]) := by
  have hno := normm_p m hd hg hc
  have hdn2 := fun (b nd : Nat) (h : b + 1 < nd) => hdn r n b (b + 1) nd (by omega) (by omega) (by omega)
  have hkr := h.g.k
  have hol := h.g.len
  have hom := h.g.mem
  have hkl : p.s.piv.length < 549755813888 := by omega
  have hfr := fun (c nd : Nat) (h1 : 84 < nd) => kfree_h A p n r c hkl nd h1
  obtain ⟨L, hL⟩ : ∃ L : Nat → List VR, L = fun c => ((freeC p.s c).map (kerQ p.s n)).map vnm := ⟨_, rfl⟩
  have hLn : (kersQ p.s n).map vnm = L n := by rw [hL]; rfl
  have hL0 : L 0 = [] := by rw [hL]; rfl
  have hLs : ∀ c, L (c + 1) = L c ++ if c ∈ p.s.piv then [] else [vnm (kerQ p.s n c)] := fun c => by
    rw [hL]
    show ((freeC p.s (c + 1)).map _).map _ = _
    rw [freeC_succ, List.map_append, List.map_append]
    congr 1
    split <;> rfl
  have hkz : ∀ c m j, m ≤ p.s.piv.length → zl (kerE A p c m j) ≤ bnd r K := fun c m j hm => ker_zl2 h hlast c m j hm
  have hLc : ∀ c, (L c).length ≤ c := fun c => by
    rw [hL]
    simp only [List.length_map]
    exact Nat.le_trans (List.length_filter_le _ _) (by simp)
  rw [hLn]
  generalize nm (valM m) = M at *
  refine pcall_of hmo Tryz.func35 rfl (by kernel_rfl) (by simp [Tryz.ntmps35]) ?_; simp -implicitDefEqProofs [go_sem, Tryz.ntmps35]; (repeat refine And.intro (by first | decide +kernel | omega | kernel_rfl) ?_); (try decide +kernel)
  refine .inl ⟨_, hno, ?_⟩; simp -implicitDefEqProofs [go_sem]; (repeat refine And.intro (by first | decide +kernel | omega | kernel_rfl) ?_); (try decide +kernel)
  refine .inr ⟨[], _, _, hof _, by simp -implicitDefEqProofs [go_sem, mbx], ?_⟩
  simp -implicitDefEqProofs [go_sem, wbx]; (repeat refine And.intro (by first | decide +kernel | omega | kernel_rfl) ?_); (try decide +kernel)
  refine .inr ⟨_, _, _, hdn2 _ _ (by omega), by simp -implicitDefEqProofs [go_sem, wbx], ?_⟩
  simp -implicitDefEqProofs [go_sem, wbx]; (repeat refine And.intro (by first | decide +kernel | omega | kernel_rfl) ?_); (try decide +kernel)
  refine loop_rule [.arr 6 29 3] (fun (c : Nat) => ⟨95, [(5, .pr 56 0 0 0), (6, .sr 120 (L c).length), (7, .fn 107 [.pr 56 0 0 0]), (32, intP .i64 (n : Int)), (33, intP .i64 (c : Int))],
      (120, .arr ⟨29, 3, (L c).length, false, ves (L c)⟩) :: hsK A p n r, 1000⟩)
    (fun c => c ≤ n) (fun c => n - c) 0 (Nat.zero_le _) (by simp) (by simp -implicitDefEqProofs [go_sem, wbx, hsK, hL0, ves]) (fun c hc => ?_)
  by_cases hcl : c < n
  · simp -implicitDefEqProofs [go_sem, hcl, hsK, wbx]; (repeat refine And.intro (by first | decide +kernel | omega | kernel_rfl) ?_); (try decide +kernel)
    refine .inr ⟨hsK A p n r, _, _, hfr c _ (by omega), by simp -implicitDefEqProofs [go_sem, hsK, wbx], ?_⟩
    by_cases hcp : c ∈ p.s.piv
    · have hLe : L (c + 1) = L c := by rw [hLs, if_pos hcp, List.append_nil]
      simp -implicitDefEqProofs [go_sem, hcl, hsK, wbx, hcp]; (repeat refine And.intro (by first | decide +kernel | omega | kernel_rfl) ?_); (try decide +kernel)
      refine ⟨c + 1, by omega, by omega, ?_⟩
      rw [hLe]
      simp
    · have hLe : L (c + 1) = L c ++ [vnm (kerQ p.s n c)] := by rw [hLs, if_neg hcp]
      have hz0 : (List.replicate n [D.v (.bool false), .sl []]).set c [.v (.bool (nrm (lastG A p.s)).1), .sl (les (nrm (lastG A p.s)).2)] = zes (kzR A p n c 0) := kz_zero A p hcl
      have hLcc := hLc c
      have hvn := vecNorm_p (nrm (lastG A p.s), kzR A p n c p.s.piv.length) (rz (by omega)) (fun z hz => by
        obtain ⟨j, _, rfl⟩ := List.mem_map.1 hz
        exact rz (Nat.lt_of_le_of_lt (hkz c _ j (Nat.le_refl _)) hK)) (by show (kzR A p n c p.s.piv.length).length < _; unfold kzR; simp; omega)
      rw [if_neg (show ¬ ofR (nrm (lastG A p.s)) = 0 by rw [ofR_nrm]; exact h.g.ne), if_neg (show ¬ ofR (nrm (lastG A p.s)) = 0 by rw [ofR_nrm]; exact h.g.ne)] at hvn
      have hvv : valV (nrm (lastG A p.s), kzR A p n c p.s.piv.length) = kerQ p.s n c := by
        rw [← ker_fracs h n c]
        unfold valV valR frV kzR
        rw [List.map_map, List.map_map, ofR_nrm]
        refine List.map_congr_left fun j _ => ?_
        show ratv (ofR (nrm _)) _ = ratv _ _
        rw [ofR_nrm]
      rw [hvv] at hvn
      obtain ⟨W, hW⟩ : ∃ W, W = vnm (kerQ p.s n c) := ⟨_, rfl⟩
      rw [← hW] at hvn hLe
      simp -implicitDefEqProofs [go_sem, hcl, hsK, wbx, hcp, hz0, kzR_len]; (repeat refine And.intro (by first | decide +kernel | omega | kernel_rfl) ?_); (try decide +kernel)
      refine loop_rule [] (fun (i : Nat) => ⟨95, [(5, .pr 56 0 0 0), (6, .sr 120 (L c).length), (7, .fn 107 [.pr 56 0 0 0]), (8, intP .i64 (c : Int)), (9, .pr 1068 0 0 0), (32, intP .i64 (n : Int)), (33, intP .i64 (c : Int)), (61, .sr 84 p.s.piv.length), (62, intP .i64 (p.s.piv.length : Int)), (63, intP .i64 (i : Int))],
          (1068, .box [.d (.v (.bool (nrm (lastG A p.s)).1)), .d (.sl (les (nrm (lastG A p.s)).2)), .sr 1060 0]) :: (1060, .arr ⟨26, 2, 0, false, zes (kzR A p n c i)⟩) :: (120, .arr ⟨29, 3, (L c).length, false, ves (L c)⟩) :: hsK A p n r, 2000⟩)
        (fun i => i ≤ p.s.piv.length) (fun i => p.s.piv.length - i) 0 (Nat.zero_le _) (by simp) (by simp -implicitDefEqProofs [go_sem, hsK, wbx, hz0]) (fun i hi => ?_)
      by_cases hil : i < p.s.piv.length
      · have hqn := hpl _ (List.getElem_mem hil)
        have hzs := kz_succ (A := A) hpn hil hcp hqn
        have hio : i < p.s.out.length := by omega
        obtain ⟨u, hu⟩ : ∃ u, u = oo p.s.out i := ⟨_, rfl⟩
        have hgi : p.s.out[i]? = some u := by rw [hu, oo_get hio, List.getElem?_eq_getElem]
        have hur : u < r := hom u (hu ▸ oo_mem hio)
        have hrw := tbZ_get p.T (n := n) hur
        have Ew := elemR_t hgi hrw
        have Aw := rowAt_t hrw
        have Rw := row_t hrw
        have hcw := zes_get p.T (n := n) (st := u) hcl
        have hcw2 := fun h => (List.getElem_eq_iff (h := h)).2 hcw
        have hzl : (zes (zrw p.T n u)).length = n := by rw [zes_len, zrw_len]
        have hng := neg_n (p.T u c) (Nat.lt_of_le_of_lt (h.b u c hur) hK)
        rw [← hu] at hzs
        simp -implicitDefEqProofs [go_sem, hil, hcl, hsK, wbx, hio, Ew, Aw, Rw, hcw, hcw2, hzl, kzR_len, hqn]; (repeat refine And.intro (by first | decide +kernel | omega | kernel_rfl) ?_); (try decide +kernel)
        refine .inl ⟨_, hng, ?_⟩; simp -implicitDefEqProofs [go_sem, hil, hcl, hsK, wbx, hio, Ew, Aw, Rw, hcw, hcw2, hzl, kzR_len, hqn]; (repeat refine And.intro (by first | decide +kernel | omega | kernel_rfl) ?_); (try decide +kernel)
        refine ⟨i + 1, ?_⟩; (repeat' apply And.intro) <;> first | omega | (exact hzs) | assumption | rfl
      · obtain rfl : i = p.s.piv.length := by omega
        simp -implicitDefEqProofs [go_sem, hsK, wbx]; (repeat refine And.intro (by first | decide +kernel | omega | kernel_rfl) ?_); (try decide +kernel)
        refine .inl ⟨_, hvn, ?_⟩; simp -implicitDefEqProofs [go_sem, hsK, wbx]; (repeat refine And.intro (by first | decide +kernel | omega | kernel_rfl) ?_); (try decide +kernel)
        refine ⟨c + 1, by omega, by omega, ?_⟩
        rw [hLe]
        simp [ves, vel]
  · obtain rfl : c = n := by omega
    simp -implicitDefEqProofs [go_sem, hsK, wbx]; (repeat refine And.intro (by first | decide +kernel | omega | kernel_rfl) ?_); (try decide +kernel)
theorem kernel_e (m : MR) (hd : Rz m.1) (hg : Grw m.2) (hc : checkE m ≠ 0) : PCall Tryz.prog 35 [.d (md m)] (.tup [.d (.sl []), .d (.v (.int .i64 (checkE m)))]) := by
  have hno := normm_e m hd hg hc
  refine pcall_of hmo Tryz.func35 rfl (by kernel_rfl) (by simp [Tryz.ntmps35]) ?_; simp -implicitDefEqProofs [go_sem, Tryz.ntmps35]; (repeat refine And.intro (by first | decide +kernel | omega | kernel_rfl) ?_); (try decide +kernel)
  refine .inl ⟨_, hno, ?_⟩; simp -implicitDefEqProofs [go_sem, hc]; (repeat refine And.intro (by first | decide +kernel | omega | kernel_rfl) ?_); (try decide +kernel)
end Go.Mt
/-
  A part of the proof.
-/
set_option linter.unusedSimpArgs false
set_option linter.unusedVariables false
namespace Go.Mt
open Go Go.Pm Go.Proofs
/-! law 12's helpers -/
theorem none12_p : PCall Tryz.prog 112 [.d mE] (.one (.d (.v (.bool true)))) := by
  refine pcall_of hmo Tryz.func112 rfl (by kernel_rfl) (by simp [Tryz.ntmps112]) ?_; simp -implicitDefEqProofs [go_sem, Tryz.ntmps112]; (repeat refine And.intro (by first | decide +kernel | omega | kernel_rfl) ?_); (try decide +kernel)
theorem told12_e (e : Int) (he : e ≠ 0) : PCall Tryz.prog 37 [.d mE, .d (.v (.int .i64 e)), .d mE, .d (.v (.int .i64 e))] (.one (.d (.v (.bool true)))) := by
  have h1 := num12_p e
  have h2 := none12_p
  refine pcall_of hmo Tryz.func37 rfl (by kernel_rfl) (by simp [Tryz.ntmps37]) ?_; simp -implicitDefEqProofs [go_sem, Tryz.ntmps37]; (repeat refine And.intro (by first | decide +kernel | omega | kernel_rfl) ?_); (try decide +kernel)
  simp -implicitDefEqProofs [go_sem, he]; (repeat refine And.intro (by first | decide +kernel | omega | kernel_rfl) ?_); (try decide +kernel)
  refine .inl ⟨_, h1, ?_⟩; simp -implicitDefEqProofs [go_sem]; (repeat refine And.intro (by first | decide +kernel | omega | kernel_rfl) ?_); (try decide +kernel)
  refine .inl ⟨_, h2, ?_⟩; simp -implicitDefEqProofs [go_sem]; (repeat refine And.intro (by first | decide +kernel | omega | kernel_rfl) ?_); (try decide +kernel)
theorem told12_n (V : List (List Rat)) (hz : Nz V) (hl : V.length < 1099511627776) (hl2 : ∀ r ∈ V, r.length < 1099511627776) : PCall Tryz.prog 37 [.d (md (nm V)), .d (.v (.int .i64 0)), .d (md (nm V)), .d (.v (.int .i64 0))] (.one (.d (.v (.bool true)))) := by
  have h1 := num12_p 0
  have h2 := same11_n V hz hl hl2
  refine pcall_of hmo Tryz.func37 rfl (by kernel_rfl) (by simp [Tryz.ntmps37]) ?_; simp -implicitDefEqProofs [go_sem, Tryz.ntmps37]; (repeat refine And.intro (by first | decide +kernel | omega | kernel_rfl) ?_); (try decide +kernel)
  refine .inl ⟨_, h1, ?_⟩; simp -implicitDefEqProofs [go_sem]; (repeat refine And.intro (by first | decide +kernel | omega | kernel_rfl) ?_); (try decide +kernel)
  refine .inl ⟨_, h2, ?_⟩; simp -implicitDefEqProofs [go_sem]; (repeat refine And.intro (by first | decide +kernel | omega | kernel_rfl) ?_); (try decide +kernel)
end Go.Mt
/-
  A part of the proof.
-/
set_option linter.unusedSimpArgs false
set_option linter.unusedVariables false
namespace Go.Mt
open Go Go.Pm Go.Proofs
theorem ints12_p (l : List Nat) (hn : l.length < 549755813888) : PCall Tryz.prog 42 [.d (.sl (nes l)), .d (.sl (nes l))] (.one (.d (.v (.bool true)))) := by
  refine pcall_of hmo Tryz.func42 rfl (by kernel_rfl) (by simp [Tryz.ntmps42]) ?_; simp -implicitDefEqProofs [go_sem, Tryz.ntmps42]; (repeat refine And.intro (by first | decide +kernel | omega | kernel_rfl) ?_); (try decide +kernel)
  refine loop_rule [] (fun (i : Nat) => ⟨26, [(0, .d (.sl (nes l))), (1, .d (.sl (nes l))), (12, intP .i64 (l.length : Int)), (13, intP .i64 (i : Int))], [], 1000⟩)
    (fun i => i ≤ l.length) (fun i => l.length - i) 0 (Nat.zero_le _) (by simp) (by simp -implicitDefEqProofs [go_sem]) (fun i hi => ?_)
  by_cases hil : i < l.length
  · simp -implicitDefEqProofs [go_sem, hil]; (repeat refine And.intro (by first | decide +kernel | omega | kernel_rfl) ?_); (try decide +kernel)
    refine ⟨i + 1, ?_⟩; (repeat' apply And.intro) <;> first | omega | assumption | rfl
  · obtain rfl : i = l.length := by omega
    simp -implicitDefEqProofs [go_sem]; (repeat refine And.intro (by first | decide +kernel | omega | kernel_rfl) ?_); (try decide +kernel)
set_option maxHeartbeats 1000000 in
theorem copy11_p (m : MR) (hd : m.1.2.length < 1099511627776) (hz : ∀ r ∈ m.2, ∀ z ∈ r, z.2.length < 1099511627776) (hw : ∀ r ∈ m.2, r.length < 1099511627776) (hn : m.2.length < 549755813888) : PCall Tryz.prog 33 [.d (md m)] (.one (.d (md m))) := by
  have hc := copy3_p m.1 hd
  refine pcall_of hmo Tryz.func33 rfl (by kernel_rfl) (by simp [Tryz.ntmps33]) ?_; simp -implicitDefEqProofs [go_sem, Tryz.ntmps33]; (repeat refine And.intro (by first | decide +kernel | omega | kernel_rfl) ?_); (try decide +kernel)
  refine .inl ⟨_, hc, ?_⟩; simp -implicitDefEqProofs [go_sem]; (repeat refine And.intro (by first | decide +kernel | omega | kernel_rfl) ?_); (try decide +kernel)
  refine loop_rule [.arrB 24 2 27 1] (fun (i : Nat) => ⟨26, [(3, .pr 24 0 0 0), (2, .pr 4 0 0 0), (11, .d (.sl (rws m.2))), (12, intP .i64 (m.2.length : Int)), (13, intP .i64 (i : Int))],
      [(24, .box [.d (.v (.bool m.1.1)), .d (.sl (les m.1.2)), .sr 48 i]), (48, .arr ⟨27, 1, i, false, rws (m.2.take i)⟩), (4, .box [.d (.v (.bool false)), .nl, .nl])], 1000⟩)
    (fun i => i ≤ m.2.length) (fun i => m.2.length - i) 0 (Nat.zero_le _) (by simp) (by simp -implicitDefEqProofs [go_sem, rws]) (fun i hi => ?_)
  by_cases hil : i < m.2.length
  · have hm := List.getElem_mem hil
    have hca := copyAll3_p m.2[i] (fun p hp => hz _ hm p hp) (hw _ hm)
    have hsn := take_snoc rel m.2 hil (e := [.sl (zes m.2[i])]) rfl
    simp -implicitDefEqProofs [go_sem, hil]; (repeat refine And.intro (by first | decide +kernel | omega | kernel_rfl) ?_); (try decide +kernel)
    refine .inl ⟨_, hca, ?_⟩; simp -implicitDefEqProofs [go_sem, hil]; (repeat refine And.intro (by first | decide +kernel | omega | kernel_rfl) ?_); (try decide +kernel)
    refine ⟨i + 1, ?_⟩; (repeat' apply And.intro) <;> first | omega | (exact hsn) | assumption | rfl
  · obtain rfl : i = m.2.length := by omega
    rw [List.take_length]
    simp -implicitDefEqProofs [go_sem]; (repeat refine And.intro (by first | decide +kernel | omega | kernel_rfl) ?_); (try decide +kernel)
theorem equal11_p (m : MR) {K : Nat} (ga : Gl m) (ha : Gm K m) (hK : K < 8589934592) (hr : m.2.length < 549755813888) (hf : (valM m).flatten.length < 549755813888) (hz : Nz (valM m)) (hw : ∀ r ∈ valM m, r.length < 1099511627776) : PCall Tryz.prog 44 [.d (md m), .d (md m)] (.one (.d (.v (.bool true)))) := by
  have hs := size11_p m ga.g
  have hn := norm11_p m ga ha hK hr hf
  have hsm := same11_n (valM m) hz (by rw [valM_len]; omega) hw
  generalize nm (valM m) = N at *
  refine pcall_of hmo Tryz.func44 rfl (by kernel_rfl) (by simp [Tryz.ntmps44]) ?_; simp -implicitDefEqProofs [go_sem, Tryz.ntmps44]; (repeat refine And.intro (by first | decide +kernel | omega | kernel_rfl) ?_); (try decide +kernel)
  refine .inl ⟨_, hs, ?_⟩; simp -implicitDefEqProofs [go_sem]; (repeat refine And.intro (by first | decide +kernel | omega | kernel_rfl) ?_); (try decide +kernel)
  refine .inl ⟨_, hs, ?_⟩; simp -implicitDefEqProofs [go_sem]; (repeat refine And.intro (by first | decide +kernel | omega | kernel_rfl) ?_); (try decide +kernel)
  refine .inl ⟨_, hn, ?_⟩; simp -implicitDefEqProofs [go_sem]; (repeat refine And.intro (by first | decide +kernel | omega | kernel_rfl) ?_); (try decide +kernel)
  refine .inl ⟨_, hn, ?_⟩; simp -implicitDefEqProofs [go_sem]; (repeat refine And.intro (by first | decide +kernel | omega | kernel_rfl) ?_); (try decide +kernel)
  refine .inl ⟨_, hsm, ?_⟩; simp -implicitDefEqProofs [go_sem]; (repeat refine And.intro (by first | decide +kernel | omega | kernel_rfl) ?_); (try decide +kernel)
end Go.Mt
