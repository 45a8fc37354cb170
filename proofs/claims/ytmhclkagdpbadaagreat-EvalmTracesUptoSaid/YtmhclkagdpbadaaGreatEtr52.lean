/-
  A part of the proof.
-/
import Derived.Test.YtmhclkagdpbadaaGreatEtr50
import Derived.Test.YtmhclkagdpbadaaGreatEtr47
set_option linter.unusedVariables false
set_option linter.unusedSimpArgs false
set_option linter.unusedSimpArgs false
set_option linter.unusedVariables false
namespace Go.Mt
open Go Go.Pm Go.Proofs
set_option maxRecDepth 100000 in
set_option maxHeartbeats 1000000 in
theorem fine14_p (n : Nat) (ms : List MR) (h : ∀ m ∈ ms, Rz m.1 ∧ Grw m.2 ∧ checkE m = 0 ∧ m.2.length = n ∧ colsOf m.2 = n) (hn : ms.length < 1000000) : PCall Tryz.prog 77 [.d (.v (.int .i64 (n : Int))), .d (.sl (mes ms))] (.one (.d (.v (.bool true)))) := by
  refine pcall_of hmo Tryz.func77 rfl (by kernel_rfl) (by simp [Tryz.ntmps77]) ?_; simp -implicitDefEqProofs [go_sem, Tryz.ntmps77]; (repeat refine And.intro (by first | decide +kernel | omega | kernel_rfl) ?_); (try decide +kernel)
  refine loop_rule [] (fun (k : Nat) => ⟨34, [(0, intP .i64 (n : Int)), (4, .d (.v (.bool false))), (9, .d (.sl (mes ms))), (10, intP .i64 (ms.length : Int)), (11, intP .i64 (k : Int))], [], 1000⟩)
    (fun k => k ≤ ms.length) (fun k => ms.length - k) 0 (Nat.zero_le _) (by simp) (by simp -implicitDefEqProofs [go_sem]) (fun k hk => ?_)
  by_cases hkl : k < ms.length
  · obtain ⟨h1, h2, h3, h4, h5⟩ := h _ (List.getElem_mem hkl)
    have hs := size11_p ms[k] h2
    have hc := check11_p ms[k] h1 h2
    rw [h4, h5] at hs
    rw [h3] at hc
    simp -implicitDefEqProofs [go_sem, hkl]; (repeat refine And.intro (by first | decide +kernel | omega | kernel_rfl) ?_); (try decide +kernel)
    refine .inl ⟨_, hs, ?_⟩; simp -implicitDefEqProofs [go_sem, hkl]; (repeat refine And.intro (by first | decide +kernel | omega | kernel_rfl) ?_); (try decide +kernel)
    refine .inl ⟨_, hc, ?_⟩; simp -implicitDefEqProofs [go_sem, hkl]; (repeat refine And.intro (by first | decide +kernel | omega | kernel_rfl) ?_); (try decide +kernel)
    exact ⟨k + 1, by omega, by omega, by omega⟩
  · obtain rfl : k = ms.length := by omega
    simp -implicitDefEqProofs [go_sem]; (repeat refine And.intro (by first | decide +kernel | omega | kernel_rfl) ?_); (try decide +kernel)
end Go.Mt
/-
  A part of the proof.
-/
set_option linter.unusedSimpArgs false
set_option linter.unusedVariables false
namespace Go.Mt
open Go Go.Pm Go.Proofs
def dgF (i : Nat) : Nat → Nat → Rat := fun a b => if a = b ∧ a < i then 1 else 0
theorem dgF_zero : dgF 0 = fun _ _ => 0 := by funext a b; unfold dgF; rw [if_neg (by omega)]
theorem dgF_succ (i : Nat) : upd2 (dgF i) i i 1 = dgF (i + 1) := by
  funext a b
  unfold upd2 dgF
  by_cases h : a = i ∧ b = i
  · rw [if_pos h, if_pos (by omega)]
  · rw [if_neg h]
    by_cases h2 : a = b ∧ a < i
    · rw [if_pos h2, if_pos (by omega)]
    · rw [if_neg h2, if_neg (by omega)]
theorem dgF_all (n : Nat) : tabQ (dgF n) n n = identQ n := tabQ_congr fun i k hi _ => by
  unfold dgF
  by_cases h : i = k
  · rw [if_pos ⟨h, hi⟩, if_pos h]
  · rw [if_neg (by omega), if_neg h]
set_option maxRecDepth 100000 in
set_option maxHeartbeats 2000000 in
theorem ident11_p (n : Nat) (hn : n < 1000) : PCall Tryz.prog 53 [.d (.v (.int .i64 (n : Int)))] (.one (.d (md (nm (identQ n))))) := by
  have hfl := fill11_t n n (by omega) (by omega)
  have hqs : ∀ q ∈ (identQ n).flatten, ql q < 8589934592 := fun q hq => by
    obtain ⟨r, hr, hq⟩ := List.mem_flatten.1 hq
    obtain ⟨i, _, rfl⟩ := List.mem_map.1 hr
    obtain ⟨k, _, rfl⟩ := List.mem_map.1 hq
    show ql (if i = k then 1 else 0) < _
    split <;> decide
  have hfr := from11_p (identQ n) hqs (by unfold identQ; rw [length_tabQ]; omega) (by
    unfold identQ; rw [tabQ_flat]
    have := Nat.mul_le_mul (show n ≤ 999 by omega) (show n ≤ 999 by omega)
    omega) (by
    have h := com_table (D := 1) (by decide) (f := fun i k => if i = k then 1 else 0) (g := idZ) (r := n) (c := n) (fun i k _ _ => by rw [ratv_1]; unfold idZ; split <;> rfl)
    have e : zl 1 = 1 := by decide
    unfold identQ; omega)
  have hol : ∀ F, (tabQ F n n).length = n := fun F => length_tabQ _ _ _
  have hol0 : (zeroQ n n).length = n := hol _
  refine pcall_of hmo Tryz.func53 rfl (by kernel_rfl) (by simp [Tryz.ntmps53]) ?_; simp -implicitDefEqProofs [go_sem, Tryz.ntmps53]; (repeat refine And.intro (by first | decide +kernel | omega | kernel_rfl) ?_); (try decide +kernel)
  refine .inl ⟨_, hfl, ?_⟩; simp -implicitDefEqProofs [go_sem, hol0]; (repeat refine And.intro (by first | decide +kernel | omega | kernel_rfl) ?_); (try decide +kernel)
  refine loop_rule [] (fun (i : Nat) => ⟨23, [(2, .pr 0 0 0 0), (3, .st 12 0), (9, intP .i64 (n : Int)), (10, intP .i64 (i : Int))],
      [(12, .tab ⟨68, 72, 4, 0, false, List.range n, (tqs (tabQ (dgF i) n n)).map some⟩), (0, .box [.d (.v (.bool false)), .nl, .nl])], 1000⟩)
    (fun i => i ≤ n) (fun i => n - i) 0 (Nat.zero_le _) (by simp) (by simp -implicitDefEqProofs [go_sem, dgF_zero, zeroQ]) (fun i hi => ?_)
  by_cases hil : i < n
  · have hrow := tabR_get (dgF i) (c := n) hil
    have hcell := trow_get (dgF i) (i := i) hil
    have hcell2 : ∀ h : i < (trow (dgF i) n i).length, (trow (dgF i) n i)[i]'h = qel (nq (dgF i i i)) := fun h => (List.getElem_eq_iff (h := h)).2 hcell
    have hset := tabR_set (dgF i) hil hil 1
    rw [dgF_succ] at hset
    have hrg : (List.range n)[i]? = some i := List.getElem?_range hil
    have hER := elemR_t hrg hrow
    have hRA := rowAt_t hrow
    have hTl := trow_len (dgF i) n i
    have hof := of5_1
    generalize nq (dgF i i i) = X at *
    generalize hY : nq 1 = Y at *
    simp -implicitDefEqProofs [go_sem, hil, hER, hRA, hTl]; (repeat refine And.intro (by first | decide +kernel | omega | kernel_rfl) ?_); (try decide +kernel)
    refine .inl ⟨_, hof, ?_⟩; simp -implicitDefEqProofs [go_sem, hER, hRA, hTl, hil, hcell, hcell2]; (repeat refine And.intro (by first | decide +kernel | omega | kernel_rfl) ?_); (try decide +kernel)
    exact ⟨i + 1, by omega, by omega, by omega, hset⟩
  · obtain rfl : i = n := by omega
    rw [dgF_all]
    have hsl := fun el rel k ver fz out => sl_tqs (el := el) (rel := rel) (k := k) (ver := ver) (fz := fz) (out := out) (hol fun i k => if i = k then 1 else 0)
    have hsl : ∀ el rel k ver fz out, _ := hsl
    unfold identQ at hfr ⊢
    simp -implicitDefEqProofs [go_sem, hsl]; (repeat refine And.intro (by first | decide +kernel | omega | kernel_rfl) ?_); (try decide +kernel)
    refine .inl ⟨_, hfr, ?_⟩; simp -implicitDefEqProofs [go_sem, hsl]; (repeat refine And.intro (by first | decide +kernel | omega | kernel_rfl) ?_); (try decide +kernel)
end Go.Mt
/-
  A part of the proof.
-/
set_option linter.unusedSimpArgs false
set_option linter.unusedVariables false
namespace Go.Mt
open Go Go.Pm Go.Proofs
theorem trim_trim (V : List Rat) : trimQ (trimQ V) = trimQ V := trim_ext (cf_trim V)
theorem plQ_tr (V : List Rat) : plQ ((trimQ V).map nq) = trimQ V := by rw [plQ_nq, trim_trim]
end Go.Mt
