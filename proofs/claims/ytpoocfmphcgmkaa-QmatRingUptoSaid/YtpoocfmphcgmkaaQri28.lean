/-
  A part of the proof.
-/
import Derived.Test.YtpoocfmphcgmkaaQri25
import Derived.Test.YtpoocfmphcgmkaaQri27
import Derived.Test.YtpoocfmphcgmkaaQri9
set_option linter.unusedVariables false
set_option linter.unusedSimpArgs false
set_option linter.unusedSimpArgs false
set_option linter.unusedVariables false
namespace Go.Mt
open Go Go.Pm Go.Proofs
/-- rows of fractions, each a memory of its own -/
def tqs (V : List (List Rat)) : List (List (List D)) := V.map fun qs => qes (qs.map nq)
@[go_sem] theorem tqs_len (V : List (List Rat)) : (tqs V).length = V.length := by simp [tqs]
theorem tqs_d (V : List (List Rat)) : ((tqs V).map fun es => [D.sl es]) = qrs V := by unfold tqs qrs; rw [List.map_map]; rfl
theorem check11_p (m : MR) (hd : Rz m.1) (h : Grw m.2) : PCall Try.prog 5 [.d (md m)] (.one (.d (.v (.int .i64 (checkE m))))) := by
  have hs := sign3_p m.1 hd
  have hnr := h.nr
  by_cases h0 : ofR m.1 = 0
  · have e : checkE m = 6 := by unfold checkE; rw [if_pos h0]
    rw [h0] at hs
    rw [e]
    refine pcall_of hmo Try.func5 rfl (by kernel_rfl) (by simp [Try.ntmps5]) ?_; simp -implicitDefEqProofs [go_sem, Try.ntmps5]; (repeat refine And.intro (by first | decide +kernel | omega | kernel_rfl) ?_); (try decide +kernel)
    refine .inl ⟨_, hs, ?_⟩; simp -implicitDefEqProofs [go_sem]; (repeat refine And.intro (by first | decide +kernel | omega | kernel_rfl) ?_); (try decide +kernel)
  · have hsg : ¬ (ofR m.1).sign = 0 := fun h => h0 (Int.sign_eq_zero_iff_zero.1 h)
    refine pcall_of hmo Try.func5 rfl (by kernel_rfl) (by simp [Try.ntmps5]) ?_; simp -implicitDefEqProofs [go_sem, Try.ntmps5]; (repeat refine And.intro (by first | decide +kernel | omega | kernel_rfl) ?_); (try decide +kernel)
    refine .inl ⟨_, hs, ?_⟩; simp -implicitDefEqProofs [go_sem, hsg]; (repeat refine And.intro (by first | decide +kernel | omega | kernel_rfl) ?_); (try decide +kernel)
    refine loop_rule [] (fun (k : Nat) => ⟨25, [(1, .pr 0 0 0 0), (10, .d (.sl (rws m.2))), (11, intP .i64 (m.2.length : Int)), (12, intP .i64 (k : Int))], [(0, .box (mbx m))], 1000⟩)
      (fun k => k ≤ m.2.length ∧ allK (fun r => decide (r.length = colsOf m.2)) m.2 k) (fun k => m.2.length - k) 0 ⟨Nat.zero_le _, allK_zero _ _⟩ (by simp) (by simp -implicitDefEqProofs [go_sem]) (fun k ⟨hk, ha⟩ => ?_)
    by_cases hkl : k < m.2.length
    · have hg0 : ∀ h : 0 < m.2.length, (m.2[0]'h).length = colsOf m.2 := fun h => colsOf_get h
      have h0l : 0 < m.2.length := by omega
      by_cases hx : m.2[k].length = colsOf m.2
      · simp -implicitDefEqProofs [go_sem, hkl, hg0, h0l, hx]; (repeat refine And.intro (by first | decide +kernel | omega | kernel_rfl) ?_); (try decide +kernel)
        exact ⟨k + 1, ⟨by omega, allK_succ hkl ha (by simp [hx])⟩, by omega, by omega⟩
      · have hz : ¬ ((m.2[k].length : Nat) : Int) = ((colsOf m.2 : Nat) : Int) := by omega
        have e : checkE m = 2 := by
          have : evenB m.2 = false := by
            unfold evenB; rw [List.all_eq_false]; exact ⟨m.2[k], List.getElem_mem hkl, by simp [hx]⟩
          unfold checkE; rw [if_neg h0, this]; rfl
        rw [e]
        simp -implicitDefEqProofs [go_sem, hkl, hg0, h0l, hx, hz]; (repeat refine And.intro (by first | decide +kernel | omega | kernel_rfl) ?_); (try decide +kernel)
    · obtain rfl : k = m.2.length := by omega
      have e : checkE m = 0 := by
        have : evenB m.2 = true := allK_all ha
        unfold checkE; rw [if_neg h0, if_pos this]
      rw [e]
      simp -implicitDefEqProofs [go_sem]; (repeat refine And.intro (by first | decide +kernel | omega | kernel_rfl) ?_); (try decide +kernel)
theorem size11_p (m : MR) (h : Grw m.2) : PCall Try.prog 4 [.d (md m)] (.tup [.d (.v (.int .i64 (m.2.length : Int))), .d (.v (.int .i64 (colsOf m.2 : Int)))]) := by
  by_cases h0 : m.2.length = 0
  · have e : m.2 = [] := List.eq_nil_of_length_eq_zero h0
    have e2 : colsOf m.2 = 0 := by rw [e]; rfl
    rw [e2, h0]
    refine pcall_of hmo Try.func4 rfl (by kernel_rfl) (by simp [Try.ntmps4]) ?_; simp -implicitDefEqProofs [go_sem, Try.ntmps4]; (repeat refine And.intro (by first | decide +kernel | omega | kernel_rfl) ?_); (try decide +kernel)
    simp -implicitDefEqProofs [go_sem, e]; (repeat refine And.intro (by first | decide +kernel | omega | kernel_rfl) ?_); (try decide +kernel)
  · have h0l : 0 < m.2.length := by omega
    have h0z : ¬ ((m.2.length : Nat) : Int) = 0 := by omega
    have hg0 : ∀ h : 0 < m.2.length, (m.2[0]'h).length = colsOf m.2 := fun h => colsOf_get h
    have h0n : ¬ m.2 = [] := fun h => h0 (by rw [h]; rfl)
    refine pcall_of hmo Try.func4 rfl (by kernel_rfl) (by simp [Try.ntmps4]) ?_; simp -implicitDefEqProofs [go_sem, Try.ntmps4]; (repeat refine And.intro (by first | decide +kernel | omega | kernel_rfl) ?_); (try decide +kernel)
    simp -implicitDefEqProofs [go_sem, h0n, h0, h0z, h0l, hg0]; (repeat refine And.intro (by first | decide +kernel | omega | kernel_rfl) ?_); (try decide +kernel)
end Go.Mt
/-
  A part of the proof.
-/
set_option linter.unusedSimpArgs false
set_option linter.unusedVariables false
namespace Go.Mt
open Go Go.Pm Go.Proofs
@[go_sem] theorem qes_four (l : List QR) : (∀ e ∈ qes l, e.length = 4) = True := eq_true fun e he => by obtain ⟨x, _, rfl⟩ := List.mem_map.1 he; rfl
@[go_sem] theorem zes_two (l : List ZR) : (∀ e ∈ zes l, e.length = 2) = True := eq_true fun e he => by obtain ⟨x, _, rfl⟩ := List.mem_map.1 he; rfl
theorem flt_snoc {V : List (List Rat)} {i : Nat} (hi : i < V.length) : flt V i ++ V[i] = flt V (i + 1) := by
  rw [← flt_succ hi]; unfold fltIn; rw [List.take_length]
end Go.Mt
/-
  A part of the proof.
-/
set_option linter.unusedSimpArgs false
set_option linter.unusedVariables false
namespace Go.Mt
open Go Go.Pm Go.Proofs
def Lz (p : ZR) : Prop := p.2.length < 1099511627776
end Go.Mt
