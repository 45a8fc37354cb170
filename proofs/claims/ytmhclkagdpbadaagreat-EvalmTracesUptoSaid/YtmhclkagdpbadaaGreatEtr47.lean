/-
  A part of the proof.
-/
import Derived.Test.YtmhclkagdpbadaaGreatEtr34
set_option linter.unusedVariables false
set_option linter.unusedSimpArgs false
set_option linter.unusedSimpArgs false
set_option linter.unusedVariables false
namespace Go.Mt
theorem lt_two_blen (n : Nat) : n < 2 ^ blen n := by
  induction n using Nat.strongRecOn with
  | ind n ih =>
    by_cases h : n = 0
    · subst h; rw [blen_zero]; decide
    · rw [blen_pos (by omega), Nat.pow_succ]
      have := ih (n / 2) (by omega)
      generalize 2 ^ blen (n / 2) = p at *
      omega
theorem nl_le_of_blen {n k : Nat} (h : blen n ≤ 32 * k) : nl n ≤ k := by
  refine nl_le_of_lt (Nat.lt_of_lt_of_le (lt_two_blen n) ?_)
  have e : (4294967296 : Nat) ^ k = 2 ^ (32 * k) := by rw [Nat.pow_mul]
  rw [e]
  exact Nat.pow_le_pow_right (by decide) h
theorem ql_of_qh {q : Rat} {k : Nat} (h : qh q ≤ 32 * k) : ql q ≤ k := by
  unfold qh at h
  unfold ql
  have h1 := nl_le_of_blen (n := q.num.natAbs) (k := k) (by omega)
  have h2 := nl_le_of_blen (n := q.den) (k := k) (by omega)
  omega
theorem qhs_mem {qs : List Rat} {q : Rat} (h : q ∈ qs) : qh q ≤ qhs qs := by
  have key : ∀ (qs : List Rat) (m : Nat), m ≤ qs.foldl (fun n q => max n (qh q)) m ∧ ∀ q ∈ qs, qh q ≤ qs.foldl (fun n q => max n (qh q)) m := by
    intro qs
    induction qs with
    | nil => intro m; exact ⟨Nat.le_refl _, fun q h => by cases h⟩
    | cons x l ih =>
      intro m
      obtain ⟨h1, h2⟩ := ih (max m (qh x))
      refine ⟨Nat.le_trans (Nat.le_max_left _ _) h1, fun q hq => ?_⟩
      rcases List.mem_cons.1 hq with rfl | hq
      · exact Nat.le_trans (Nat.le_max_right _ _) h1
      · exact h2 q hq
  exact (key qs 0).2 q h
end Go.Mt
