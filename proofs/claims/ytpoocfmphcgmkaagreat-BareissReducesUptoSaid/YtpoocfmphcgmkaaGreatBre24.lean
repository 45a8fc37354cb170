/-
  A part of the proof.
-/
import Derived.Test.YtpoocfmphcgmkaaGreatBre22
import Derived.Test.YtpoocfmphcgmkaaGreatBre23
set_option linter.unusedVariables false
set_option linter.unusedSimpArgs false
set_option linter.unusedSimpArgs false
set_option linter.unusedVariables false
namespace Go.Mt
open Go Go.Pm Go.Proofs
theorem clone_p (l : List ZR) (h0 : l ≠ []) (hn : l.length < 549755813888) : PCall Tryz.prog 150 [.d (.sl (zes l))] (.one (.so 26 2 (zes l))) := by
  cases l with
  | nil => exact absurd rfl h0
  | cons z zs =>
    have e : zes (z :: zs) = zel z :: zes zs := rfl
    rw [List.length_cons] at hn
    have hl := zes_len zs
    have h2 : ∀ e ∈ zes zs, e.length = 2 := fun e he => by obtain ⟨x, _, rfl⟩ := List.mem_map.1 he; rfl
    rw [e]
    generalize zes zs = Z at *
    refine pcall_of hmo Tryz.func150 rfl (by kernel_rfl) (by simp [Tryz.ntmps150]) ?_; simp -implicitDefEqProofs [go_sem, Tryz.ntmps150]; (repeat refine And.intro (by first | decide +kernel | omega | kernel_rfl) ?_); (try decide +kernel)
    omega
theorem whole_n (a b : Int) (ha : zl a < 1099511627776) (hb : zl b < 1099511627776) (h0 : b ≠ 0) (hd : b ∣ a) : PCall Tryz.prog 196 [.d (zd (nrm a)), .d (zd (nrm b))] (.one (.d (zd (nrm (a / b))))) := by
  have he := exact_p (nrm a) (nrm b) (rz ha) (rz hb) (by rw [ofR_nrm]; exact h0) (by rw [ofR_nrm, ofR_nrm]; exact hd)
  rw [ofR_nrm, ofR_nrm] at he
  refine pcall_of hmo Tryz.func196 rfl (by kernel_rfl) (by simp [Tryz.ntmps196]) ?_; simp -implicitDefEqProofs [go_sem, Tryz.ntmps196]; (repeat refine And.intro (by first | decide +kernel | omega | kernel_rfl) ?_); (try decide +kernel)
  refine .inl ⟨_, he, ?_⟩; simp -implicitDefEqProofs [go_sem]; (repeat refine And.intro (by first | decide +kernel | omega | kernel_rfl) ?_); (try decide +kernel)
/-- rows of whole numbers, as data -/
def zrw (T : Nat → Nat → Int) (n st : Nat) : List ZR := (List.range n).map fun j => nrm (T st j)
theorem zrw_len (T : Nat → Nat → Int) (n st : Nat) : (zrw T n st).length = n := by simp [zrw]
theorem zrw_get (T : Nat → Nat → Int) {n st j : Nat} (h : j < (zrw T n st).length) : (zrw T n st)[j] = nrm (T st j) := by simp [zrw]
/-- the rows from a place on, as they stand -/
def vrw (T : Nat → Nat → Int) (n : Nat) (out : List Nat) : List (List D) := out.map fun st => [.sl (zes (zrw T n st))]
@[go_sem] theorem vrw_len (T : Nat → Nat → Int) (n : Nat) (out : List Nat) : (vrw T n out).length = out.length := by simp [vrw]
@[go_sem] theorem vrw_ge {T : Nat → Nat → Int} {n : Nat} {out : List Nat} {i : Nat} (h : i < (vrw T n out).length) : (vrw T n out)[i] = [.sl (zes (zrw T n (out[i]'(by rw [vrw_len] at h; exact h))))] := by simp [vrw]
theorem has_p (T : Nat → Nat → Int) (n st c : Nat) (hc : c < n) (hz : zl (T st c) < 1099511627776) (hn : n < 549755813888) : PCall Tryz.prog 152 [.d (.sl (zes (zrw T n st))), .bw [.v (.int .i64 (c : Int))]] (.one (.d (.v (.bool (decide (T st c ≠ 0)))))) := by
  have hs := sign_n (T st c) hz
  have hl := zrw_len T n st
  have hc2 : c < (zrw T n st).length := by omega
  have hg := zrw_get T hc2
  by_cases h0 : T st c = 0
  · have e : decide (T st c ≠ 0) = false := by simp [h0]
    rw [e]
    rw [h0] at hs hg
    have hs : PCall Tryz.prog 138 [.d (zd (nrm 0))] (.one (.d (.v (.int .i64 0)))) := hs
    refine pcall_of hmo Tryz.func152 rfl (by kernel_rfl) (by simp [Tryz.ntmps152]) ?_; simp -implicitDefEqProofs [go_sem, Tryz.ntmps152]; (repeat refine And.intro (by first | decide +kernel | omega | kernel_rfl) ?_); (try decide +kernel)
    simp -implicitDefEqProofs [go_sem, hc2, hg]; (repeat refine And.intro (by first | decide +kernel | omega | kernel_rfl) ?_); (try decide +kernel)
    refine .inl ⟨_, hs, ?_⟩; simp -implicitDefEqProofs [go_sem]; (repeat refine And.intro (by first | decide +kernel | omega | kernel_rfl) ?_); (try decide +kernel)
  · have e : decide (T st c ≠ 0) = true := by simp [h0]
    have hsn : ¬ (T st c).sign = 0 := fun h => h0 (Int.sign_eq_zero_iff_zero.1 h)
    rw [e]
    refine pcall_of hmo Tryz.func152 rfl (by kernel_rfl) (by simp [Tryz.ntmps152]) ?_; simp -implicitDefEqProofs [go_sem, Tryz.ntmps152]; (repeat refine And.intro (by first | decide +kernel | omega | kernel_rfl) ?_); (try decide +kernel)
    simp -implicitDefEqProofs [go_sem, hc2, hg]; (repeat refine And.intro (by first | decide +kernel | omega | kernel_rfl) ?_); (try decide +kernel)
    refine .inl ⟨_, hs, ?_⟩; simp -implicitDefEqProofs [go_sem, hsn]; (repeat refine And.intro (by first | decide +kernel | omega | kernel_rfl) ?_); (try decide +kernel)
/-- the first place where it holds, or -1 -/
def ixf (p : Nat → Bool) (l : List Nat) : Int := if l.findIdx p < l.length then (l.findIdx p : Int) else -1
theorem findIdx_skip {p : Nat → Bool} {l : List Nat} {k : Nat} (h : ∀ i (hi : i < l.length), i < k → p l[i] = false) (hk : k < l.length) (hp : p l[k] = true) : l.findIdx p = k := by
  refine (List.findIdx_eq hk).2 ⟨hp, fun j hj => ?_⟩
  exact h j (by omega) hj
theorem findIdx_none {p : Nat → Bool} {l : List Nat} (h : ∀ i (hi : i < l.length), i < l.length → p l[i] = false) : ¬ l.findIdx p < l.length := fun hlt => by
  have h1 := List.findIdx_getElem (w := hlt)
  rw [h _ hlt hlt] at h1
  exact absurd h1 (by decide)
set_option maxHeartbeats 1000000 in
theorem index_p (T : Nat → Nat → Int) (n c : Nat) (out : List Nat) (hc : c < n) (hz : ∀ st ∈ out, zl (T st c) < 1099511627776) (hn : n < 549755813888) (ho : out.length < 549755813888) :
    PCall Tryz.prog 151 [.d (.sl (vrw T n out)), .fn 152 [.bw [.v (.int .i64 (c : Int))]]] (.one (.d (.v (.int .i64 (ixf (fun st => decide (T st c ≠ 0)) out))))) := by
  obtain ⟨p, hp⟩ : ∃ p : Nat → Bool, p = fun st => decide (T st c ≠ 0) := ⟨_, rfl⟩
  rw [← hp]
  refine pcall_of hmo Tryz.func151 rfl (by kernel_rfl) (by simp [Tryz.ntmps151]) ?_; simp -implicitDefEqProofs [go_sem, Tryz.ntmps151]; (repeat refine And.intro (by first | decide +kernel | omega | kernel_rfl) ?_); (try decide +kernel)
  refine loop_rule [] (fun (k : Nat) => ⟨19, [(0, .d (.sl (vrw T n out))), (1, .fn 152 [.bw [.v (.int .i64 (c : Int))]]), (4, intP .i64 0), (7, intP .i64 (out.length : Int)), (8, intP .i64 (k : Int))], [], 1000⟩)
    (fun k => k ≤ out.length ∧ ∀ i (hi : i < out.length), i < k → p out[i] = false) (fun k => out.length - k) 0 ⟨Nat.zero_le _, fun i _ h => by omega⟩ (by simp) (by simp -implicitDefEqProofs [go_sem]) (fun k ⟨hk, ha⟩ => ?_)
  by_cases hkl : k < out.length
  · have hh := has_p T n out[k] c hc (hz _ (List.getElem_mem hkl)) hn
    have e : decide (T out[k] c ≠ 0) = p out[k] := by rw [hp]
    rw [e] at hh
    cases hb : p out[k] with
    | true =>
      rw [hb] at hh
      have e2 : ixf p out = (k : Int) := by unfold ixf; rw [findIdx_skip ha hkl hb, if_pos hkl]
      rw [e2]
      simp -implicitDefEqProofs [go_sem, hkl]; (repeat refine And.intro (by first | decide +kernel | omega | kernel_rfl) ?_); (try decide +kernel)
      refine .inl ⟨_, hh, ?_⟩; simp -implicitDefEqProofs [go_sem, hkl]; (repeat refine And.intro (by first | decide +kernel | omega | kernel_rfl) ?_); (try decide +kernel)
    | false =>
      rw [hb] at hh
      simp -implicitDefEqProofs [go_sem, hkl]; (repeat refine And.intro (by first | decide +kernel | omega | kernel_rfl) ?_); (try decide +kernel)
      refine .inl ⟨_, hh, ?_⟩; simp -implicitDefEqProofs [go_sem, hkl]; (repeat refine And.intro (by first | decide +kernel | omega | kernel_rfl) ?_); (try decide +kernel)
      exact ⟨k + 1, ⟨by omega, fun i hi hik => by
        by_cases h1 : i < k
        · exact ha i hi h1
        · have : i = k := by omega
          subst this; exact hb⟩, by omega, by omega⟩
  · obtain rfl : k = out.length := by omega
    have e2 : ixf p out = -1 := if_neg (findIdx_none ha)
    rw [e2]
    simp -implicitDefEqProofs [go_sem]; (repeat refine And.intro (by first | decide +kernel | omega | kernel_rfl) ?_); (try decide +kernel)
end Go.Mt
