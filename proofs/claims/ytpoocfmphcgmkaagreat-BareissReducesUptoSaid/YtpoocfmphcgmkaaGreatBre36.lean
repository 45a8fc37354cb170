/-
  A part of the proof.
-/
import Derived.Test.YtpoocfmphcgmkaaGreatBre35
import Derived.Test.YtpoocfmphcgmkaaGreatBre23
import Derived.Test.YtpoocfmphcgmkaaGreatBre30
import Derived.Test.YtpoocfmphcgmkaaGreatBre17
import Derived.Test.YtpoocfmphcgmkaaGreatBre21
set_option linter.unusedVariables false
set_option linter.unusedSimpArgs false
set_option linter.unusedSimpArgs false
set_option linter.unusedVariables false
namespace Go.Mt
open Go Go.Pm Go.Proofs
theorem findIdx_congr {l : List Nat} {p q : Nat → Bool} (h : ∀ x ∈ l, p x = q x) : l.findIdx p = l.findIdx q := by
  induction l with
  | nil => rfl
  | cons x l ih =>
    rw [List.findIdx_cons, List.findIdx_cons, h x List.mem_cons_self, ih fun y hy => h y (List.mem_cons_of_mem _ hy)]
theorem PI.ixf {A : Nat → Nat → Int} {r K : Nat} {full : Bool} {p : Ps} (h : PI A r K full p) (c : Nat) : ixf (fun st => decide (p.T st c ≠ 0)) (p.s.out.drop p.s.piv.length) = if fnd p.s c < p.s.out.length then ((fnd p.s c - p.s.piv.length : Nat) : Int) else -1 := by
  have hk := h.g.k
  have hl := h.g.len
  have e : (p.s.out.drop p.s.piv.length).findIdx (fun st => decide (p.T st c ≠ 0)) = (p.s.out.drop p.s.piv.length).findIdx (fun st => decide (p.s.X st c ≠ 0)) := findIdx_congr fun st hst => by
    obtain ⟨i, hi, e⟩ := List.getElem_of_mem hst
    rw [List.length_drop] at hi
    rw [List.getElem_drop] at e
    have hm : st ∉ p.s.out.take p.s.piv.length := fun hm => by
      rw [← e, ← oo_get (by omega)] at hm
      have := (oo_take h.g.nod (by omega) (by omega)).1 hm
      omega
    have hv := h.v st (List.mem_of_mem_drop hst) (.inr hm) c
    by_cases h0 : p.s.X st c = 0
    · rw [h0, Rat.mul_zero] at hv
      have h1 : p.T st c = 0 := Rat.intCast_inj.1 hv
      simp [h0, h1]
    · have h1 : p.T st c ≠ 0 := fun h1 => by
        rw [h1] at hv
        rcases Rat.mul_eq_zero.1 hv.symm with h2 | h2
        · exact h.g.ne (Rat.intCast_inj.1 h2)
        · exact h0 h2
      simp [h0, h1]
  unfold Go.Mt.ixf
  rw [e]
  have hf : fnd p.s c = p.s.piv.length + (p.s.out.drop p.s.piv.length).findIdx fun st => decide (p.s.X st c ≠ 0) := rfl
  rw [List.length_drop]
  by_cases h1 : fnd p.s c < p.s.out.length
  · rw [if_pos h1, if_pos (by omega)]; omega
  · rw [if_neg h1, if_neg (by omega)]
/-- whole numbers from 0 on, as they lie -/
def nes (l : List Nat) : List (List D) := l.map fun x : Nat => [.v (.int .i64 (x : Int))]
@[go_sem] theorem nes_len (l : List Nat) : (nes l).length = l.length := by simp [nes]
@[go_sem] theorem nes_ge {l : List Nat} {i : Nat} (h : i < (nes l).length) : (nes l)[i] = [.v (.int .i64 ((l[i]'(by rw [nes_len] at h; exact h) : Nat) : Int))] := by simp [nes]
theorem nes_snoc (l : List Nat) (c : Nat) : nes l ++ [[.v (.int .i64 (c : Int))]] = nes (l ++ [c]) := by simp [nes]
theorem sl_tb (T : Nat → Nat → Int) {n r : Nat} (el rel : TypeId) (k ver : Nat) (fz : Bool) (o : List Nat) : ∀ l : List Nat, (∀ st ∈ l, st < r) → Tab.sl ⟨el, rel, k, ver, fz, o, tbZ T n r⟩ l = some (vrw T n l)
  | [], _ => rfl
  | st :: l, h => by
    have h1 := row_t (tbZ_get T (n := n) (h st List.mem_cons_self)) el rel k ver fz o
    have h2 := sl_tb T (n := n) el rel k ver fz o l fun x hx => h x (List.mem_cons_of_mem _ hx)
    simp only [Tab.sl, h1, h2]
    rfl
theorem PI.dvd {A : Nat → Nat → Int} {r K : Nat} {full : Bool} {p : Ps} (h : PI A r K full p) {c : Nat} (hf : fnd p.s c < p.s.out.length) (hA : ∀ st j, st < r → zl (A st j) ≤ K) (hr : r < 900000) (i j : Nat) (hi : frm full p.s.piv.length ≤ i) (hir : i < r) (hik : i ≠ p.s.piv.length) :
    lastG A p.s ∣ (p.T (oo (swL p.s.out p.s.piv.length (fnd p.s c)) i) j * p.T (pvt p.s c) c - p.T (pvt p.s c) j * p.T (oo (swL p.s.out p.s.piv.length (fnd p.s c)) i) c) := by
  have hg := fnd_ge p.s c
  have hl := h.g.len
  have hsl := swL_len p.s.out p.s.piv.length (fnd p.s c)
  have hsn := swL_nod h.g.nod (a := p.s.piv.length) (by omega) hf
  have hp : oo (swL p.s.out p.s.piv.length (fnd p.s c)) p.s.piv.length = pvt p.s c := by rw [h.g.out' hf (by omega), if_neg (by omega), if_pos rfl]
  obtain ⟨z, hz, _⟩ := h.new hf (st := oo (swL p.s.out p.s.piv.length (fnd p.s c)) i) (swL_mem (by omega) hf _ (oo_mem (by omega))) (by
    cases full with
    | true => exact .inl rfl
    | false =>
      refine .inr fun hm => ?_
      have hi : p.s.piv.length + 1 ≤ i := hi
      have h2 := (h.g.take' hf _).2 (.inl hm)
      have := (oo_take hsn (by omega) (by omega)).1 h2
      omega) (fun e => hik (oo_inj hsn (by omega) (by omega) (by rw [hp]; exact e))) hA hr j
  exact ⟨z, hz⟩
theorem swL_self {l : List Nat} {k : Nat} (hk : k < l.length) : swL l k k = l := by
  refine List.ext_getElem (swL_len l k k) fun i h1 h2 => ?_
  have h := swL_oo l hk hk h2
  rw [oo_get (by rw [swL_len]; exact h2)] at h
  rw [h]
  have e : trn k k i = i := by unfold trn; split <;> omega
  rw [e, oo_get h2]
theorem stepd_h {A : Nat → Nat → Int} {n r K : Nat} {full : Bool} {p : Ps} (h : PI A r K full p) {c : Nat} (hf : fnd p.s c < p.s.out.length) (hA : ∀ st j, st < r → zl (A st j) ≤ K) (hr : r < 900000) (hn : n < 549755813888) (hc : c < n) (hK : 2 * bnd r K + 1 < 1099511627776)
    {ver cw sw vp b t q nid : Nat} {pe : List (List D)} (hb : b < nid) (ht : t < nid) (hq : q < nid) (hbt : b ≠ t) (hbq : b ≠ q) (htq : t ≠ q) {o : List Nat} (ho : o = swL p.s.out p.s.piv.length (fnd p.s c)) {f : Nat} (hfr : f = frm full p.s.piv.length) :
    HCall Tryz.prog 153 [.pr b 0 0 0, .d (.v (.int .i64 (p.s.piv.length : Int))), .d (.v (.int .i64 (c : Int))), .d (.v (.int .i64 (f : Int)))]
      [(b, .box (wbx t ver cw (lastG A p.s) (.sr q vp) sw)), (t, .tab ⟨27, 26, 2, ver, false, o, tbZ p.T n r⟩), (q, .arr ⟨3, 1, vp, false, pe⟩)] nid (.tup [])
      [(b, .box (wbx t ver cw (lastG A (gstep p.s c)) (.sr q vp) sw)), (t, .tab ⟨27, 26, 2, ver, false, o, tbZ (pstep A r full p c).T n r⟩), (q, .arr ⟨3, 1, vp, false, pe⟩)] := by
  have hg := fnd_ge p.s c
  have hl := h.g.len
  have hsl := swL_len p.s.out p.s.piv.length (fnd p.s c)
  have hsn := swL_nod h.g.nod (a := p.s.piv.length) (by omega) hf
  have hp : oo (swL p.s.out p.s.piv.length (fnd p.s c)) p.s.piv.length = pvt p.s c := by rw [h.g.out' hf (by omega), if_neg (by omega), if_pos rfl]
  have hs := step_h p.T (n := n) (r := r) (K := bnd r K) (out := swL p.s.out p.s.piv.length (fnd p.s c)) (k := p.s.piv.length) (c := c) (f := frm full p.s.piv.length) (last := lastG A p.s) (ver := ver) (cw := cw) (sw := sw) (vp := vp) (pe := pe) hb ht hq hbt hbq htq (by omega) hsn (fun st hst => h.g.mem st (swL_mem (by omega) hf st hst)) (by omega) hn (by omega) hc (by unfold frm; split <;> omega)
    (fun st j hst => h.b st j hst) hK h.g.ne (h.lastK hA hr) (fun i j h1 h2 h3 => by rw [hp]; exact h.dvd hf hA hr i j h1 h2 h3)
  rw [hp] at hs
  have e1 : (pstep A r full p c).T = mxZ p.T (stZ p.T (pvt p.s c) c (lastG A p.s)) (dnL (swL p.s.out p.s.piv.length (fnd p.s c)) (frm full p.s.piv.length) r (pvt p.s c)) := by unfold pstep; rw [if_pos hf]
  rw [e1, h.piv hf, ho, hfr]
  exact hs
set_option maxRecDepth 100000 in
set_option maxHeartbeats 4000000 in
theorem down_h (A : Nat → Nat → Int) {n r K : Nat} (full : Bool) (cols ver cw b t nid : Nat) (hb : b < nid) (ht : t < nid) (hbt : b ≠ t) (hn : n < 549755813888) (hr : r < 900000) (hcols : cols ≤ n)
    (hA : ∀ st j, st < r → zl (A st j) ≤ K) (hK : 2 * bnd r K + 1 < 1099511627776) (P : Nat → Ps) (hP : P = pel A r full ⟨ginit A r, A, 0⟩) :
    HCall Tryz.prog 101 [.pr b 0 0 0, .d (.v (.int .i64 (cols : Int))), .d (.v (.bool full))]
      [(b, .box (wbx t ver cw 1 .nl 0)), (t, .tab ⟨27, 26, 2, ver, false, List.range r, tbZ A n r⟩)] nid (.tup [])
      [(b, .box (wbx t ver cw (lastG A (P cols).s) (.sr nid (P cols).s.piv.length) (P cols).sw)), (t, .tab ⟨27, 26, 2, ver, false, (P cols).s.out, tbZ (P cols).T n r⟩), (nid, .arr ⟨3, 1, (P cols).s.piv.length, false, nes (P cols).s.piv⟩)] := by
  have hPI : ∀ c, PI A r K full (P c) := fun c => hP ▸ (PI.init hA).pel hA hr c
  have hP0 : P 0 = ⟨ginit A r, A, 0⟩ := by rw [hP]; rfl
  have hPs : ∀ c, P (c + 1) = pstep A r full (P c) c := fun c => by rw [hP]; exact pel_succ _ _
  have hPf : ∀ c, c ≤ cols → (P c).s.piv.length = r → P cols = P c := fun c hc h => by
    have hg := (hPI c).g.len
    rw [hP] at h hg ⊢
    have := pel_full (A := A) (r := r) (full := full) (p := ⟨ginit A r, A, 0⟩) (n := c) (by rw [h, hg]) (cols - c)
    rw [Nat.add_sub_cancel' hc] at this; exact this
  have hswb : ∀ c, (P c).sw ≤ c := fun c => by
    induction c with
    | zero => rw [hP0]; exact Nat.le_refl _
    | succ c ih =>
      rw [hPs]
      unfold pstep
      split
      · show (P c).sw + (if _ then 1 else 0) ≤ c + 1
        split <;> omega
      · omega
  have F : ¬ b = t ∧ ¬ t = b ∧ (∀ x, ¬ nid + x = b) ∧ (∀ x, ¬ nid + x = t) ∧ (∀ x, ¬ b = nid + x) ∧ (∀ x, ¬ t = nid + x) ∧ ¬ nid = b ∧ ¬ nid = t ∧ ¬ b = nid ∧ ¬ t = nid :=
    ⟨hbt, Ne.symm hbt, fun x => by omega, fun x => by omega, fun x => by omega, fun x => by omega, by omega, by omega, by omega, by omega⟩
  have hl0 : lastG A (ginit A r) = 1 := rfl
  have ho0 : (ginit A r).out = List.range r := rfl
  have hp0 : (ginit A r).piv = [] := rfl
  refine hcall_of (L := [nid + 8]) hmo Tryz.func101 rfl (by kernel_rfl) (by simp [Tryz.ntmps101]) (by simp -implicitDefEqProofs [go_sem, wbx]; omega) (by simp -implicitDefEqProofs [go_sem]; omega) ?_
  simp -implicitDefEqProofs [go_sem, Tryz.ntmps101, wbx, F]
  have FF : ∀ x y : Nat, (nid + x = nid + y) = (x = y) := fun x y => by simp
  refine loop_rule [.arrB b 4 3 1] (fun (c : Nat) => ⟨94, [(0, .pr b 0 0 0), (2, .d (.v (.bool full))), (10, intP .i64 (cols : Int)), (11, intP .i64 (c : Int))],
      [(b, .box (wbx t ver cw (lastG A (P c).s) (.sr (nid + 8) (P c).s.piv.length) (P c).sw)), (t, .tab ⟨27, 26, 2, ver, false, (P c).s.out, tbZ (P c).T n r⟩), (nid + 8, .arr ⟨3, 1, (P c).s.piv.length, false, nes (P c).s.piv⟩)], nid + 1000⟩)
    (fun c => c ≤ cols) (fun c => cols - c) 0 (Nat.zero_le _) (by simp) (by simp -implicitDefEqProofs [go_sem, wbx, F, hP0, hl0, ho0, hp0, nes]; omega) (fun c hc => ?_)
  have hPI' := hPI c
  have hol := hPI'.g.len
  have hon := hPI'.g.nod
  have hom := hPI'.g.mem
  have hkr := hPI'.g.k
  by_cases hcl : c < cols
  · have hcn : c < n := by omega
    generalize hp : P c = p at *
    have hPs' := hPs c
    rw [hp] at hPs'
    by_cases hk : p.s.piv.length = r
    · have hfin := hPf c hc (by rw [hp]; exact hk)
      rw [hp] at hfin
      simp -implicitDefEqProofs [go_sem, wbx, F, Nat.add_assoc, hp, hcl, hol, hk, hfin]; (repeat refine And.intro (by first | decide +kernel | omega | kernel_rfl) ?_); (try decide +kernel)
    · have hkz : ¬ ((p.s.piv.length : Nat) : Int) = (r : Int) := by omega
      have hsl : ∀ el rel k ver fz o, Tab.sl ⟨el, rel, k, ver, fz, o, tbZ p.T n r⟩ (List.take (r - p.s.piv.length) (List.drop p.s.piv.length p.s.out)) = some (vrw p.T n (p.s.out.drop p.s.piv.length)) := fun el rel k ver fz o => by
        rw [List.take_of_length_le (by rw [List.length_drop]; omega)]
        exact sl_tb p.T el rel k ver fz o _ fun st hst => hom st (List.mem_of_mem_drop hst)
      have hix := index_p p.T n c (p.s.out.drop p.s.piv.length) hcn (fun st hst => by have := hPI'.b st c (hom st (List.mem_of_mem_drop hst)); omega) hn (by rw [List.length_drop]; omega)
      rw [hPI'.ixf c] at hix
      have hfg := fnd_ge p.s c
      by_cases hf : fnd p.s c < p.s.out.length
      · rw [if_pos hf] at hix
        obtain ⟨d, hd⟩ : ∃ d, d = fnd p.s c - p.s.piv.length := ⟨_, rfl⟩
        rw [← hd] at hix
        have hdz : ¬ (d : Int) < 0 := by omega
        have hkd : p.s.piv.length + d = fnd p.s c := by omega
        have hko : p.s.piv.length < p.s.out.length := by omega
        have hps : pstep A r full p c = ⟨gstep p.s c, (pstep A r full p c).T, p.sw + if p.s.piv.length < fnd p.s c then 1 else 0⟩ := by unfold pstep; rw [if_pos hf]
        have hgs : (gstep p.s c).out = swL p.s.out p.s.piv.length (fnd p.s c) ∧ (gstep p.s c).piv = p.s.piv ++ [c] := by unfold gstep; rw [if_pos hf]; exact ⟨rfl, rfl⟩
        have hsw := hswb c
        rw [hp] at hsw
        by_cases hd0 : d = 0
        · have hdz2 : ¬ (0 : Int) < (d : Int) := by omega
          have hfk : fnd p.s c = p.s.piv.length := by omega
          have ho : p.s.out = swL p.s.out p.s.piv.length (fnd p.s c) := by rw [hfk, swL_self hko]
          have hP1 : P (c + 1) = ⟨gstep p.s c, (pstep A r full p c).T, p.sw⟩ := by rw [hPs', hps, if_neg (by omega)]; rfl
          rw [← ho] at hgs
          cases full with
          | true =>
            have hst := fun (nd : Nat) (hnd : nid + 1000 ≤ nd) => stepd_h (ver := ver) (cw := cw) (sw := p.sw) (vp := p.s.piv.length) (b := b) (t := t) (q := nid + 8) (nid := nd) (pe := nes p.s.piv) hPI' hf hA hr hn hcn hK (by omega) (by omega) (by omega) hbt (by omega) (by omega) ho (f := 0) rfl
            generalize (pstep A r true p c).T = T' at *
            simp -implicitDefEqProofs [go_sem, wbx, F, Nat.add_assoc, hp, hcl, hol, hk, hkz, hsl]; (repeat refine And.intro (by first | decide +kernel | omega | kernel_rfl) ?_); (try decide +kernel)
            refine .inl ⟨_, hix, ?_⟩; simp -implicitDefEqProofs [go_sem, wbx, F, Nat.add_assoc, hp, hcl, hol, hk, hkz, hsl, hdz, hdz2, hd0]; (repeat refine And.intro (by first | decide +kernel | omega | kernel_rfl) ?_); (try decide +kernel)
            refine .inr ⟨_, _, _, hst _ (by omega), by simp -implicitDefEqProofs [go_sem, wbx, F, Nat.add_assoc], ?_⟩
            simp -implicitDefEqProofs [go_sem, wbx, F, Nat.add_assoc, hp, hcl, hol, hk, hkz, hsl, hdz, hdz2, hd0]
            refine And.intro (by omega) (And.intro (raceOk_ren [b, nid + 8, nid + 1008, nid + 1184] (by simp [F]) 4 (Nat.le_refl 4) [([], []), ([], []), ([0], []), ([0], []), ([0], []), ([2], []), ([], [3]), ([1, 3], [1]), ([0], []), ([0], []), ([0], [0])] (by decide) (by kernel_rfl)) (And.intro (by omega) ?_))
            refine ⟨c + 1, by omega, by omega, by omega, ?_⟩
            rw [hP1]
            simp [hgs, nes_snoc]
            omega
          | false =>
            have hst := fun (nd : Nat) (hnd : nid + 1000 ≤ nd) => stepd_h (ver := ver) (cw := cw) (sw := p.sw) (vp := p.s.piv.length) (b := b) (t := t) (q := nid + 8) (nid := nd) (pe := nes p.s.piv) hPI' hf hA hr hn hcn hK (by omega) (by omega) (by omega) hbt (by omega) (by omega) ho (f := (p.s.piv.length + 1)) rfl
            generalize (pstep A r false p c).T = T' at *
            try simp only [Int.natCast_add, Int.natCast_one] at hst
            simp -implicitDefEqProofs [go_sem, wbx, F, Nat.add_assoc, hp, hcl, hol, hk, hkz, hsl]; (repeat refine And.intro (by first | decide +kernel | omega | kernel_rfl) ?_); (try decide +kernel)
            refine .inl ⟨_, hix, ?_⟩; simp -implicitDefEqProofs [go_sem, wbx, F, Nat.add_assoc, hp, hcl, hol, hk, hkz, hsl, hdz, hdz2, hd0]; (repeat refine And.intro (by first | decide +kernel | omega | kernel_rfl) ?_); (try decide +kernel)
            refine .inr ⟨_, _, _, hst _ (by omega), by simp -implicitDefEqProofs [go_sem, wbx, F, Nat.add_assoc], ?_⟩
            simp -implicitDefEqProofs [go_sem, wbx, F, Nat.add_assoc, hp, hcl, hol, hk, hkz, hsl, hdz, hdz2, hd0]
            refine And.intro (by omega) (And.intro (raceOk_ren [b, nid + 8, nid + 1008, nid + 1180] (by simp [F]) 4 (Nat.le_refl 4) [([], []), ([], []), ([0], []), ([0], []), ([0], []), ([2], []), ([], [3]), ([1, 3], [1]), ([0], []), ([0], []), ([0], [0])] (by decide) (by kernel_rfl)) (And.intro (by omega) ?_))
            refine ⟨c + 1, by omega, by omega, by omega, ?_⟩
            rw [hP1]
            simp [hgs, nes_snoc]
            omega
        · have hdz2 : 0 < d := by omega
          have hkt : ((p.s.piv.length : Int) + (d : Int)).toNat = fnd p.s c := by omega
          have hk0 : (0 : Int) ≤ (p.s.piv.length : Int) + (d : Int) := by omega
          have hkl : (p.s.piv.length : Int) + (d : Int) < (r : Int) := by omega
          have g1 : p.s.out[p.s.piv.length]? = some (oo p.s.out p.s.piv.length) := by rw [oo_get hko, List.getElem?_eq_getElem]
          have g2 : p.s.out[fnd p.s c]? = some (oo p.s.out (fnd p.s c)) := by rw [oo_get hf, List.getElem?_eq_getElem]
          have r1 := tbZ_get p.T (n := n) (hom _ (oo_mem hko))
          have r2 := tbZ_get p.T (n := n) (hom _ (oo_mem hf))
          have E1 := elemR_t g1 r1
          have E2 := elemR_t g2 r2
          have A1 := rowAt_t r1
          have A2 := rowAt_t r2
          have hP1 : P (c + 1) = ⟨gstep p.s c, (pstep A r full p c).T, p.sw + 1⟩ := by rw [hPs', hps, if_pos (by omega)]
          cases full with
          | true =>
            have hst := fun (nd : Nat) (hnd : nid + 1000 ≤ nd) => stepd_h (ver := ver) (cw := cw) (sw := p.sw + 1) (vp := p.s.piv.length) (b := b) (t := t) (q := nid + 8) (nid := nd) (pe := nes p.s.piv) hPI' hf hA hr hn hcn hK (by omega) (by omega) (by omega) hbt (by omega) (by omega) rfl (f := 0) rfl
            generalize (pstep A r true p c).T = T' at *
            try simp only [Int.natCast_add, Int.natCast_one] at hst
            simp -implicitDefEqProofs [go_sem, wbx, F, Nat.add_assoc, hp, hcl, hol, hk, hkz, hsl]; (repeat refine And.intro (by first | decide +kernel | omega | kernel_rfl) ?_); (try decide +kernel)
            refine .inl ⟨_, hix, ?_⟩; simp -implicitDefEqProofs [go_sem, wbx, F, Nat.add_assoc, hp, hcl, hol, hk, hkz, hsl, hdz, hdz2, hd0, hkt, hk0, hkl, E1, E2, A1, A2]; (repeat refine And.intro (by first | decide +kernel | omega | kernel_rfl) ?_); (try decide +kernel)
            refine .inr ⟨_, _, _, hst _ (by omega), by simp -implicitDefEqProofs [go_sem, wbx, F, Nat.add_assoc, swL], ?_⟩
            simp -implicitDefEqProofs [go_sem, wbx, F, Nat.add_assoc, hp, hcl, hol, hk, hkz, hsl, hdz, hdz2, hd0, hkt, hk0, hkl, E1, E2, A1, A2]
            refine And.intro (by omega) (And.intro (raceOk_ren [b, nid + 8, nid + 1008, nid + 1344] (by simp [F]) 4 (Nat.le_refl 4) [([], []), ([], []), ([0], []), ([0], []), ([0], []), ([2], []), ([], [3]), ([1, 3], [1]), ([0], []), ([0], []), ([0], [0])] (by decide) (by kernel_rfl)) (And.intro (by omega) ?_))
            refine ⟨c + 1, by omega, by omega, by omega, ?_⟩
            rw [hP1]
            simp [hgs, nes_snoc]
            omega
          | false =>
            have hst := fun (nd : Nat) (hnd : nid + 1000 ≤ nd) => stepd_h (ver := ver) (cw := cw) (sw := p.sw + 1) (vp := p.s.piv.length) (b := b) (t := t) (q := nid + 8) (nid := nd) (pe := nes p.s.piv) hPI' hf hA hr hn hcn hK (by omega) (by omega) (by omega) hbt (by omega) (by omega) rfl (f := (p.s.piv.length + 1)) rfl
            generalize (pstep A r false p c).T = T' at *
            try simp only [Int.natCast_add, Int.natCast_one] at hst
            simp -implicitDefEqProofs [go_sem, wbx, F, Nat.add_assoc, hp, hcl, hol, hk, hkz, hsl]; (repeat refine And.intro (by first | decide +kernel | omega | kernel_rfl) ?_); (try decide +kernel)
            refine .inl ⟨_, hix, ?_⟩; simp -implicitDefEqProofs [go_sem, wbx, F, Nat.add_assoc, hp, hcl, hol, hk, hkz, hsl, hdz, hdz2, hd0, hkt, hk0, hkl, E1, E2, A1, A2]; (repeat refine And.intro (by first | decide +kernel | omega | kernel_rfl) ?_); (try decide +kernel)
            refine .inr ⟨_, _, _, hst _ (by omega), by simp -implicitDefEqProofs [go_sem, wbx, F, Nat.add_assoc, swL], ?_⟩
            simp -implicitDefEqProofs [go_sem, wbx, F, Nat.add_assoc, hp, hcl, hol, hk, hkz, hsl, hdz, hdz2, hd0, hkt, hk0, hkl, E1, E2, A1, A2]
            refine And.intro (by omega) (And.intro (raceOk_ren [b, nid + 8, nid + 1008, nid + 1340] (by simp [F]) 4 (Nat.le_refl 4) [([], []), ([], []), ([0], []), ([0], []), ([0], []), ([2], []), ([], [3]), ([1, 3], [1]), ([0], []), ([0], []), ([0], [0])] (by decide) (by kernel_rfl)) (And.intro (by omega) ?_))
            refine ⟨c + 1, by omega, by omega, by omega, ?_⟩
            rw [hP1]
            simp [hgs, nes_snoc]
            omega
      · rw [if_neg hf] at hix
        have hpe : P (c + 1) = p := by rw [hPs']; exact if_neg hf
        simp -implicitDefEqProofs [go_sem, wbx, F, Nat.add_assoc, hp, hcl, hol, hk, hkz, hsl]; (repeat refine And.intro (by first | decide +kernel | omega | kernel_rfl) ?_); (try decide +kernel)
        refine .inl ⟨_, hix, ?_⟩; simp -implicitDefEqProofs [go_sem, wbx, F, Nat.add_assoc, hp, hcl, hol, hk, hkz, hsl]; (repeat refine And.intro (by first | decide +kernel | omega | kernel_rfl) ?_); (try decide +kernel)
        refine ⟨c + 1, by omega, by omega, by omega, ?_⟩
        rw [hpe]
        simp
        omega
  · obtain rfl : c = cols := by omega
    simp -implicitDefEqProofs [go_sem, wbx, F, Nat.add_assoc]; (repeat refine And.intro (by first | decide +kernel | omega | kernel_rfl) ?_); (try decide +kernel)
end Go.Mt
/-
  A part of the proof.
-/
set_option linter.unusedSimpArgs false
set_option linter.unusedVariables false
namespace Go.Mt
open Go Go.Pm Go.Proofs
theorem tbZ_succ (A : Nat → Nat → Int) (n i : Nat) : tbZ A n i ++ [some (zes (zrw A n i))] = tbZ A n (i + 1) := by
  unfold tbZ; rw [List.range_succ, List.map_append]; rfl
set_option maxRecDepth 100000 in
set_option maxHeartbeats 2000000 in
theorem of_h (m : MR) (A : Nat → Nat → Int) {n r nid : Nat} (hr : m.2.length = r) (hR : ∀ k (h : k < m.2.length), m.2[k] = zrw A n k) (hn0 : 0 < n) (hn : n < 549755813888) (hrl : r < 549755813888) :
    HCall Tryz.prog 100 [.agg (mbx m)] [] nid (.pr nid 0 0 0)
      [(nid, .box (wbx (nid + 1) r (if r = 0 then 0 else n) 1 .nl 0)), (nid + 1, .tab ⟨27, 26, 2, r, false, List.range r, tbZ A n r⟩)] := by
  have h1 := of_p 1 (by decide) (by decide)
  have F : (∀ x y : Nat, (nid + x = nid + y) = (x = y)) ∧ (∀ x : Nat, (nid = nid + x) = (x = 0)) ∧ (∀ x : Nat, (nid + x = nid) = (x = 0)) := ⟨fun x y => by simp, fun x => by simp, fun x => by simp⟩
  refine hcall_of (L := [nid + 16, nid + 40]) hmo Tryz.func100 rfl (by kernel_rfl) (by simp [Tryz.ntmps100]) (by simp -implicitDefEqProofs [go_sem]) (by simp -implicitDefEqProofs [go_sem, mbx]) ?_
  simp -implicitDefEqProofs [go_sem, Tryz.ntmps100, F, mbx]
  refine .inl ⟨_, h1, ?_⟩; simp -implicitDefEqProofs [go_sem, F, Nat.add_assoc]; (repeat refine And.intro (by first | decide +kernel | omega | kernel_rfl) ?_); (try decide +kernel)
  refine loop_rule [.tabB (nid + 16) 0 27 26 2] (fun (i : Nat) => ⟨34, [(1, .pr nid 0 0 0), (3, .pr (nid + 16) 0 0 0), (10, .d (.sl (rws m.2))), (11, intP .i64 (m.2.length : Int)), (12, intP .i64 (i : Int))],
      [(nid + 16, .box (wbx (nid + 40) i (if i = 0 then 0 else n) 1 .nl 0)), (nid + 40, .tab ⟨27, 26, 2, i, false, List.range i, tbZ A n i⟩), (nid, .box (mbx m))], nid + 1000⟩)
    (fun i => i ≤ r) (fun i => r - i) 0 (Nat.zero_le _) (by simp) (by simp -implicitDefEqProofs [go_sem, wbx, F, Nat.add_assoc, mbx, tbZ]) (fun i hi => ?_)
  by_cases hil : i < r
  · have him : i < m.2.length := by omega
    have hRi := hR i him
    have hrl : (zrw A n i).length = n := zrw_len A n i
    have hcl := clone_p (zrw A n i) (fun h => by rw [h] at hrl; simp at hrl; omega) (by omega)
    rw [← hRi] at hcl hrl
    have hsn := tbZ_succ A n i
    rw [← hRi] at hsn
    simp -implicitDefEqProofs [go_sem, wbx, F, Nat.add_assoc, him, mbx]; (repeat refine And.intro (by first | decide +kernel | omega | kernel_rfl) ?_); (try decide +kernel)
    refine .inl ⟨_, hcl, ?_⟩
    simp -implicitDefEqProofs [go_sem, wbx, F, Nat.add_assoc, him, mbx, hrl]
    refine And.intro (by omega) (And.intro (raceOk_ren [nid + 16, nid + 40, nid + 1040] (by simp) 3 (Nat.le_refl 3) [([], []), ([], []), ([0], []), ([0], []), ([0], []), ([], []), ([], [2]), ([], []), ([1, 2], [1, 2]), ([0], []), ([0], []), ([0], [0])] (by decide) (by kernel_rfl)) (And.intro (by omega) ?_))
    refine ⟨i + 1, by omega, by omega, by omega, ⟨rfl, by rw [if_neg (by omega)]⟩, rfl, ?_, hsn⟩
    rw [show (tbZ A n i).length = i by simp [tbZ]]
    exact List.range_succ.symm
  · obtain rfl : i = r := by omega
    have hix : List.idxOf (nid + 40) [nid + 16, nid + 40] = 1 := by
      have hb : (nid + 16 == nid + 40) = false := beq_eq_false_iff_ne.2 (by omega)
      rw [List.idxOf_cons, hb]; simp
    simp -implicitDefEqProofs [go_sem, wbx, F, Nat.add_assoc, hr, mbx, hix]; (repeat refine And.intro (by first | decide +kernel | omega | kernel_rfl) ?_); (try decide +kernel)
end Go.Mt
/-
  A part of the proof.
-/
set_option linter.unusedSimpArgs false
set_option linter.unusedVariables false
namespace Go.Mt
open Go Go.Pm Go.Proofs
theorem of5_0 : PCall Tryz.prog 64 [.d (.v (.int .i64 0))] (.one (.d (qd (nq 0)))) := of5_p 0 (by decide) (by decide)
theorem of5_1 : PCall Tryz.prog 64 [.d (.v (.int .i64 1))] (.one (.d (qd (nq 1)))) := of5_p 1 (by decide) (by decide)
def zq : List D := [.v (.bool false), .sl [], .v (.bool false), .sl []]
/-- the coefficients so far, the greatest power's last -/
def fl (p : Nat → Rat) (n k : Nat) : List (List D) := (List.range (n + 1)).map fun j => if n - j < k then qel (nq (cN p (n - j))) else zq
end Go.Mt
