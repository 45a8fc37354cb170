/-
  A part of the proof.
-/
import Derived.Test.YtmhclkagdpbadaaGreatCtr39
import Derived.Test.YtmhclkagdpbadaaGreatCtr41
set_option linter.unusedVariables false
set_option linter.unusedSimpArgs false
set_option linter.unusedSimpArgs false
set_option linter.unusedVariables false
namespace Go.Mt
open Go Go.Pm Go.Proofs
theorem ft94_e (l : List QR) (hl : ∀ x ∈ l, Rq x) (hb : ∃ q ∈ l, ofR q.2 = 0) (hn : l.length < 549755813888) :
    PCall Tryz.prog 94 [.d (.sl (qes l))] (.tup [.d (.sl []), .d (.v (.int .i64 6))]) := by
  have hht := height_e l hl hb hn
  refine pcall_of hmo Tryz.func94 rfl (by kernel_rfl) (by simp [Tryz.ntmps94]) ?_; simp -implicitDefEqProofs [go_sem, Tryz.ntmps94]; (repeat refine And.intro (by first | decide +kernel | omega | kernel_rfl) ?_); (try decide +kernel)
  refine .inl ⟨_, hht, ?_⟩; simp -implicitDefEqProofs [go_sem]; (repeat refine And.intro (by first | decide +kernel | omega | kernel_rfl) ?_); (try decide +kernel)
theorem ft94_b (l : List QR) (hl : ∀ x ∈ l, Lq x) (hn : l.length < 549755813888) (h : 24 < l.length ∨ 4096 < qhs (l.map ofQ)) :
    PCall Tryz.prog 94 [.d (.sl (qes l))] (.tup [.d (.sl []), .d (.v (.int .i64 4))]) := by
  have hht := height_p l (fun x hx => ⟨(hl x hx).rq, (hl x hx).ne⟩) hn (fun x hx => by have := (hl x hx).ql; omega)
  by_cases h1 : 24 < l.length
  · have hz : (24 : Int) < (l.length : Int) := by omega
    refine pcall_of hmo Tryz.func94 rfl (by kernel_rfl) (by simp [Tryz.ntmps94]) ?_; simp -implicitDefEqProofs [go_sem, Tryz.ntmps94]; (repeat refine And.intro (by first | decide +kernel | omega | kernel_rfl) ?_); (try decide +kernel)
    refine .inl ⟨_, hht, ?_⟩; simp -implicitDefEqProofs [go_sem, hz, h1]; (repeat refine And.intro (by first | decide +kernel | omega | kernel_rfl) ?_); (try decide +kernel)
  · have hz : ¬ (24 : Int) < (l.length : Int) := by omega
    have hz2 : (4096 : Int) < ((qhs (l.map ofQ) : Nat) : Int) := by omega
    have hz3 : 4096 < qhs (l.map ofQ) := by omega
    refine pcall_of hmo Tryz.func94 rfl (by kernel_rfl) (by simp [Tryz.ntmps94]) ?_; simp -implicitDefEqProofs [go_sem, Tryz.ntmps94]; (repeat refine And.intro (by first | decide +kernel | omega | kernel_rfl) ?_); (try decide +kernel)
    refine .inl ⟨_, hht, ?_⟩; simp -implicitDefEqProofs [go_sem, hz, h1, hz2, hz3]; (repeat refine And.intro (by first | decide +kernel | omega | kernel_rfl) ?_); (try decide +kernel)
theorem num20_p (e : Int) : PCall Tryz.prog 178 [.d (.v (.int .i64 e))] (.one (.d (.v (.int .i64 e)))) := by
  refine pcall_of hmo Tryz.func178 rfl (by kernel_rfl) (by simp [Tryz.ntmps178]) ?_; simp -implicitDefEqProofs [go_sem, Tryz.ntmps178]; (repeat refine And.intro (by first | decide +kernel | omega | kernel_rfl) ?_); (try decide +kernel)
theorem same9_p (l m : List QR) (hl : ∀ p ∈ l, p.1.2.length < 1099511627776 ∧ p.2.2.length < 1099511627776) (hm : ∀ p ∈ m, p.1.2.length < 1099511627776 ∧ p.2.2.length < 1099511627776) (hln : l.length < 1099511627776) (hmn : m.length < 1099511627776) :
    PCall Tryz.prog 179 [.d (.sl (qes l)), .d (.sl (qes m))] (.one (.d (.v (.bool (decide (l = m)))))) := by
  have h := sameAll5_p l m hl hm hln hmn
  refine pcall_of hmo Tryz.func179 rfl (by kernel_rfl) (by simp [Tryz.ntmps179]) ?_; simp -implicitDefEqProofs [go_sem, Tryz.ntmps179]; (repeat refine And.intro (by first | decide +kernel | omega | kernel_rfl) ?_); (try decide +kernel)
  refine .inl ⟨_, h, ?_⟩; simp -implicitDefEqProofs [go_sem]; (repeat refine And.intro (by first | decide +kernel | omega | kernel_rfl) ?_); (try decide +kernel)
theorem told20_e (e : Int) (he : e ≠ 0) : PCall Tryz.prog 96 [.d (.sl []), .d (.v (.int .i64 e)), .d (.sl []), .d (.v (.int .i64 e))] (.one (.d (.v (.bool true)))) := by
  refine pcall_of hmo Tryz.func96 rfl (by kernel_rfl) (by simp [Tryz.ntmps96]) ?_; simp -implicitDefEqProofs [go_sem, Tryz.ntmps96]; (repeat refine And.intro (by first | decide +kernel | omega | kernel_rfl) ?_); (try decide +kernel)
  simp -implicitDefEqProofs [go_sem, he]; (repeat refine And.intro (by first | decide +kernel | omega | kernel_rfl) ?_); (try decide +kernel)
  refine .inl ⟨_, num20_p e, ?_⟩; simp -implicitDefEqProofs [go_sem]; (repeat refine And.intro (by first | decide +kernel | omega | kernel_rfl) ?_); (try decide +kernel)
theorem told20_p (l : List QR) (hl : ∀ p ∈ l, p.1.2.length < 1099511627776 ∧ p.2.2.length < 1099511627776) (hln : l.length < 1099511627776) :
    PCall Tryz.prog 96 [.d (.sl (qes l)), .d (.v (.int .i64 0)), .d (.sl (qes l)), .d (.v (.int .i64 0))] (.one (.d (.v (.bool true)))) := by
  have h := same9_p l l hl hl hln hln
  rw [decide_eq_true rfl] at h
  refine pcall_of hmo Tryz.func96 rfl (by kernel_rfl) (by simp [Tryz.ntmps96]) ?_; simp -implicitDefEqProofs [go_sem, Tryz.ntmps96]; (repeat refine And.intro (by first | decide +kernel | omega | kernel_rfl) ?_); (try decide +kernel)
  refine .inl ⟨_, num20_p 0, ?_⟩; simp -implicitDefEqProofs [go_sem]; (repeat refine And.intro (by first | decide +kernel | omega | kernel_rfl) ?_); (try decide +kernel)
  refine .inl ⟨_, h, ?_⟩; simp -implicitDefEqProofs [go_sem]; (repeat refine And.intro (by first | decide +kernel | omega | kernel_rfl) ?_); (try decide +kernel)
theorem awake20_p : PCall Tryz.prog 97 [] (.one (.d (.v (.bool true)))) := Go.Tz.c467
end Go.Mt
/-
  A part of the proof.
-/
set_option linter.unusedSimpArgs false
set_option linter.unusedVariables false
namespace Go.Mt
open Go Go.Pm Go.Proofs
/-- the law of any sums of powers -/
theorem traces_p (l : List QR) (hl : ∀ x ∈ l, Rq x ∧ x.1.2.length < 8589934592 ∧ x.2.2.length < 8589934592) (hn : l.length < 549755813888) :
    PCall Tryz.prog 13 [.d (.sl (qes l))] (.one (.d (.v (.bool true)))) := by
  have hcp := copyAll5_p l (fun x hx => by have := (hl x hx).2; omega) (by omega)
  have ham := allMay5_p l (fun x hx => (hl x hx).1) hn
  by_cases hall : l.all mayQ = true
  · have hL : ∀ x ∈ l, Lq x := fun x hx => ⟨(hl x hx).1, by have := List.all_eq_true.1 hall x hx; simpa [mayQ] using this, (hl x hx).2.1, (hl x hx).2.2⟩
    have hht := height5_r l hL hn
    rw [hall] at ham
    by_cases hb : 24 < l.length ∨ 4096 < qhs (l.map ofQ)
    · have hft := ft94_b l hL hn hb
      by_cases h1 : 24 < l.length
      · have hz : (24 : Int) < (l.length : Int) := by omega
        refine pcall_of hmo Tryz.func13 rfl (by kernel_rfl) (by simp [Tryz.ntmps13]) ?_; simp -implicitDefEqProofs [go_sem, Tryz.ntmps13]; (repeat refine And.intro (by first | decide +kernel | omega | kernel_rfl) ?_); (try decide +kernel)
        refine .inl ⟨_, hcp, ?_⟩; simp -implicitDefEqProofs [go_sem]; (repeat refine And.intro (by first | decide +kernel | omega | kernel_rfl) ?_); (try decide +kernel)
        refine .inl ⟨_, hft, ?_⟩; simp -implicitDefEqProofs [go_sem]; (repeat refine And.intro (by first | decide +kernel | omega | kernel_rfl) ?_); (try decide +kernel)
        refine .inl ⟨_, ham, ?_⟩; simp -implicitDefEqProofs [go_sem, h1, hz]; (repeat refine And.intro (by first | decide +kernel | omega | kernel_rfl) ?_); (try decide +kernel)
        refine .inl ⟨_, told20_e 4 (by decide), ?_⟩; simp -implicitDefEqProofs [go_sem]; (repeat refine And.intro (by first | decide +kernel | omega | kernel_rfl) ?_); (try decide +kernel)
        refine .inl ⟨_, awake20_p, ?_⟩; simp -implicitDefEqProofs [go_sem]; (repeat refine And.intro (by first | decide +kernel | omega | kernel_rfl) ?_); (try decide +kernel)
      · have hz : ¬ (24 : Int) < (l.length : Int) := by omega
        have h2 : 4096 < qhs (l.map ofQ) := by omega
        have hz2 : (4096 : Int) < ((qhs (l.map ofQ) : Nat) : Int) := by omega
        refine pcall_of hmo Tryz.func13 rfl (by kernel_rfl) (by simp [Tryz.ntmps13]) ?_; simp -implicitDefEqProofs [go_sem, Tryz.ntmps13]; (repeat refine And.intro (by first | decide +kernel | omega | kernel_rfl) ?_); (try decide +kernel)
        refine .inl ⟨_, hcp, ?_⟩; simp -implicitDefEqProofs [go_sem]; (repeat refine And.intro (by first | decide +kernel | omega | kernel_rfl) ?_); (try decide +kernel)
        refine .inl ⟨_, hft, ?_⟩; simp -implicitDefEqProofs [go_sem]; (repeat refine And.intro (by first | decide +kernel | omega | kernel_rfl) ?_); (try decide +kernel)
        refine .inl ⟨_, ham, ?_⟩; simp -implicitDefEqProofs [go_sem, h1, hz]; (repeat refine And.intro (by first | decide +kernel | omega | kernel_rfl) ?_); (try decide +kernel)
        refine .inl ⟨_, hht, ?_⟩; simp -implicitDefEqProofs [go_sem, h2, hz2]; (repeat refine And.intro (by first | decide +kernel | omega | kernel_rfl) ?_); (try decide +kernel)
        refine .inl ⟨_, told20_e 4 (by decide), ?_⟩; simp -implicitDefEqProofs [go_sem]; (repeat refine And.intro (by first | decide +kernel | omega | kernel_rfl) ?_); (try decide +kernel)
        refine .inl ⟨_, awake20_p, ?_⟩; simp -implicitDefEqProofs [go_sem]; (repeat refine And.intro (by first | decide +kernel | omega | kernel_rfl) ?_); (try decide +kernel)
    · have h1 : ¬ 24 < l.length := by omega
      have h2 : ¬ 4096 < qhs (l.map ofQ) := by omega
      have hz : ¬ (24 : Int) < (l.length : Int) := by omega
      have hz2 : ¬ (4096 : Int) < ((qhs (l.map ofQ) : Nat) : Int) := by omega
      have hft := ft94_p l hL (by omega) (by omega)
      have hB : ∀ x ∈ l, ql (ofQ x) ≤ 128 := fun x hx => ql_of_qh (Nat.le_trans (qhs_mem (List.mem_map.2 ⟨x, hx, rfl⟩)) (by omega))
      have hrf := from20_p l hL hB (by decide) (by decide) (by omega)
      have hbd : ∀ p ∈ (ftQ (pf l) l.length).map nq, p.1.2.length < 1099511627776 ∧ p.2.2.length < 1099511627776 := fun p hp => by
        obtain ⟨q, hq, rfl⟩ := List.mem_map.1 hp
        obtain ⟨i, hi, rfl⟩ := List.mem_map.1 hq
        have hc := cN_ql (pf_ql hB (by decide)) (l.length - i) (by omega)
        have h4 : 2 ^ (l.length - i) ≤ 2 ^ 24 := Nat.pow_le_pow_right (by decide) (by omega)
        have h5 := Nat.mul_le_mul h4 (show 128 + 3 ≤ 131 by omega)
        have := (Lq.n (q := cN (pf l) (l.length - i)) (by omega)).l1
        have := (Lq.n (q := cN (pf l) (l.length - i)) (by omega)).l2
        omega
      have htd := told20_p _ hbd (by simp [ftQ]; omega)
      refine pcall_of hmo Tryz.func13 rfl (by kernel_rfl) (by simp [Tryz.ntmps13]) ?_; simp -implicitDefEqProofs [go_sem, Tryz.ntmps13]; (repeat refine And.intro (by first | decide +kernel | omega | kernel_rfl) ?_); (try decide +kernel)
      refine .inl ⟨_, hcp, ?_⟩; simp -implicitDefEqProofs [go_sem]; (repeat refine And.intro (by first | decide +kernel | omega | kernel_rfl) ?_); (try decide +kernel)
      refine .inl ⟨_, hft, ?_⟩; simp -implicitDefEqProofs [go_sem]; (repeat refine And.intro (by first | decide +kernel | omega | kernel_rfl) ?_); (try decide +kernel)
      refine .inl ⟨_, ham, ?_⟩; simp -implicitDefEqProofs [go_sem, h1, hz]; (repeat refine And.intro (by first | decide +kernel | omega | kernel_rfl) ?_); (try decide +kernel)
      refine .inl ⟨_, hht, ?_⟩; simp -implicitDefEqProofs [go_sem, h2, hz2]; (repeat refine And.intro (by first | decide +kernel | omega | kernel_rfl) ?_); (try decide +kernel)
      refine .inl ⟨_, hrf, ?_⟩; simp -implicitDefEqProofs [go_sem]; (repeat refine And.intro (by first | decide +kernel | omega | kernel_rfl) ?_); (try decide +kernel)
      refine .inl ⟨_, htd, ?_⟩; simp -implicitDefEqProofs [go_sem]; (repeat refine And.intro (by first | decide +kernel | omega | kernel_rfl) ?_); (try decide +kernel)
      refine .inl ⟨_, awake20_p, ?_⟩; simp -implicitDefEqProofs [go_sem]; (repeat refine And.intro (by first | decide +kernel | omega | kernel_rfl) ?_); (try decide +kernel)
  · have hall2 : l.all mayQ = false := eq_false_of_ne_true hall
    have hb : ∃ q ∈ l, ofR q.2 = 0 := by
      obtain ⟨q, hq, h⟩ := List.all_eq_false.1 hall2
      exact ⟨q, hq, by simpa [mayQ] using h⟩
    have hft := ft94_e l (fun x hx => (hl x hx).1) hb hn
    rw [hall2] at ham
    refine pcall_of hmo Tryz.func13 rfl (by kernel_rfl) (by simp [Tryz.ntmps13]) ?_; simp -implicitDefEqProofs [go_sem, Tryz.ntmps13]; (repeat refine And.intro (by first | decide +kernel | omega | kernel_rfl) ?_); (try decide +kernel)
    refine .inl ⟨_, hcp, ?_⟩; simp -implicitDefEqProofs [go_sem]; (repeat refine And.intro (by first | decide +kernel | omega | kernel_rfl) ?_); (try decide +kernel)
    refine .inl ⟨_, hft, ?_⟩; simp -implicitDefEqProofs [go_sem]; (repeat refine And.intro (by first | decide +kernel | omega | kernel_rfl) ?_); (try decide +kernel)
    refine .inl ⟨_, ham, ?_⟩; simp -implicitDefEqProofs [go_sem]; (repeat refine And.intro (by first | decide +kernel | omega | kernel_rfl) ?_); (try decide +kernel)
    refine .inl ⟨_, told20_e 6 (by decide), ?_⟩; simp -implicitDefEqProofs [go_sem]; (repeat refine And.intro (by first | decide +kernel | omega | kernel_rfl) ?_); (try decide +kernel)
    refine .inl ⟨_, awake20_p, ?_⟩; simp -implicitDefEqProofs [go_sem]; (repeat refine And.intro (by first | decide +kernel | omega | kernel_rfl) ?_); (try decide +kernel)
end Go.Mt
