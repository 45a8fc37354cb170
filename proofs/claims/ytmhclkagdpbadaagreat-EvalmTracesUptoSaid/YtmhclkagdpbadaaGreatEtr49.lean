/-
  A part of the proof.
-/
import Derived.Test.YtmhclkagdpbadaaGreatEtr46
import Derived.Test.YtmhclkagdpbadaaGreatEtr48
set_option linter.unusedVariables false
set_option linter.unusedSimpArgs false
set_option linter.unusedSimpArgs false
set_option linter.unusedVariables false
namespace Go.Mt
open Go Go.Pm Go.Proofs
def qg (l : List QR) (i : Nat) : QR := (l[i]?).getD (nq 0)
end Go.Mt
/-
  A part of the proof.
-/
set_option linter.unusedSimpArgs false
set_option linter.unusedVariables false
namespace Go.Mt
open Go Go.Pm Go.Proofs
theorem plQ_nq (V : List Rat) : plQ (V.map nq) = trimQ V := by
  unfold plQ
  rw [List.map_map]
  congr 1
  exact List.map_id'' (fun q => ofQ_nq q) V
def add9V (l m : List QR) : List Rat := (List.range (max l.length m.length)).map fun i => ofQ (qg l i) + ofQ (qg m i)
def scale9V (l : List QR) (c : QR) : List Rat := l.map fun x => ofQ x * ofQ c
def shift9V (l : List Rat) (k : Nat) : List Rat := List.replicate k 0 ++ l
end Go.Mt
/-
  A part of the proof.
-/
set_option linter.unusedSimpArgs false
set_option linter.unusedVariables false
namespace Go.Mt
open Go Go.Pm Go.Proofs
def cf (V : List Rat) (t : Nat) : Rat := (V[t]?).getD 0
theorem cf_nil (t : Nat) : cf [] t = 0 := by simp [cf]
theorem cf_ge {V : List Rat} {t : Nat} (h : V.length ≤ t) : cf V t = 0 := by unfold cf; rw [List.getElem?_eq_none h]; rfl
theorem cf_mem {V : List Rat} {t : Nat} (h : t < V.length) : cf V t = V[t] := by unfold cf; rw [List.getElem?_eq_getElem h]; rfl
theorem trN_zero (qs : List Rat) (n t : Nat) (h1 : trN qs n ≤ t) (h2 : t < n) : cf qs t = 0 := by
  induction n with
  | zero => omega
  | succ n ih =>
    unfold trN at h1
    by_cases h0 : (qs[n]?).getD 0 = 0
    · rw [if_pos h0] at h1
      by_cases ht : t = n
      · subst ht; exact h0
      · exact ih h1 (by omega)
    · rw [if_neg h0] at h1; omega
theorem cf_trim (V : List Rat) (t : Nat) : cf (trimQ V) t = cf V t := by
  by_cases h : t < trN V V.length
  · unfold cf trimQ; rw [List.getElem?_take_of_lt h]
  · rw [cf_ge (by rw [trimQ_len]; omega)]
    by_cases h2 : t < V.length
    · exact (trN_zero V V.length t (by omega) h2).symm
    · exact (cf_ge (by omega)).symm
theorem trN_last (qs : List Rat) (n : Nat) (h : trN qs n ≠ 0) : cf qs (trN qs n - 1) ≠ 0 := by
  induction n with
  | zero => exact absurd rfl h
  | succ n ih =>
    unfold trN at h ⊢
    by_cases h0 : (qs[n]?).getD 0 = 0
    · rw [if_pos h0] at h ⊢; exact ih h
    · rw [if_neg h0]; exact h0
theorem trim_ext {V W : List Rat} (h : ∀ t, cf V t = cf W t) : trimQ V = trimQ W := by
  have hl : ∀ {V W : List Rat}, (∀ t, cf V t = cf W t) → trN V V.length ≤ trN W W.length := fun {V W} h => by
    by_cases h0 : trN V V.length = 0
    · omega
    · have h1 := trN_last V V.length h0
      rw [h] at h1
      by_cases h2 : trN V V.length ≤ trN W W.length
      · exact h2
      · refine absurd ?_ h1
        by_cases h3 : trN V V.length - 1 < W.length
        · exact trN_zero W W.length _ (by omega) h3
        · exact cf_ge (by omega)
  have e : (trimQ V).length = (trimQ W).length := by
    rw [trimQ_len, trimQ_len]
    have := hl h
    have := hl (fun t => (h t).symm)
    omega
  refine List.ext_getElem e fun t h1 h2 => ?_
  rw [← cf_mem h1, ← cf_mem h2, cf_trim, cf_trim, h]
theorem cf_map (l : List QR) (t : Nat) : cf (l.map ofQ) t = ofQ (qg l t) := by
  unfold cf qg
  rw [List.getElem?_map]
  cases l[t]? with
  | none => exact (ofQ_nq 0).symm
  | some x => rfl
theorem qg_nq (V : List Rat) (t : Nat) : ofQ (qg (V.map nq) t) = cf V t := by
  unfold cf qg
  rw [List.getElem?_map]
  cases V[t]? with
  | none => exact ofQ_nq 0
  | some x => exact ofQ_nq x
theorem cf_scale (m : List QR) (c : QR) (t : Nat) : cf (scale9V m c) t = ofQ (qg m t) * ofQ c := by
  unfold cf qg scale9V
  rw [List.getElem?_map]
  cases m[t]? with
  | none => show (0 : Rat) = ofQ (nq 0) * ofQ c; rw [ofQ_nq, Rat.zero_mul]
  | some x => rfl
theorem cf_shift (V : List Rat) (k t : Nat) : cf (shift9V V k) t = if t < k then 0 else cf V (t - k) := by
  unfold cf shift9V
  by_cases h : t < k
  · rw [if_pos h, List.getElem?_append_left (by rw [List.length_replicate]; exact h), List.getElem?_replicate, if_pos h]; rfl
  · rw [if_neg h, List.getElem?_append_right (by rw [List.length_replicate]; omega), List.length_replicate]
theorem cf_add (l m : List QR) (t : Nat) : cf (add9V l m) t = ofQ (qg l t) + ofQ (qg m t) := by
  by_cases h : t < max l.length m.length
  · unfold cf add9V; simp [h]
  · rw [cf_ge (by unfold add9V; rw [List.length_map, List.length_range]; omega)]
    unfold qg
    rw [List.getElem?_eq_none (by omega), List.getElem?_eq_none (by omega)]
    show (0 : Rat) = ofQ (nq 0) + ofQ (nq 0)
    rw [ofQ_nq, Rat.add_zero]
def mul9A (l m : List QR) : Nat → List Rat
  | 0 => []
  | i + 1 => trimQ (add9V ((mul9A l m i).map nq) ((trimQ (shift9V (trimQ (scale9V m (qg l i))) i)).map nq))
theorem cf_mul9 (l m : List QR) (i t : Nat) : cf (mul9A l m (i + 1)) t = cf (mul9A l m i) t + if t < i then 0 else ofQ (qg m (t - i)) * ofQ (qg l i) := by
  show cf (trimQ _) t = _
  rw [cf_trim, cf_add, qg_nq, qg_nq, cf_trim, cf_shift, cf_trim, cf_scale]
end Go.Mt
/-
  A part of the proof.
-/
set_option linter.unusedSimpArgs false
set_option linter.unusedVariables false
namespace Go.Mt
open Go Go.Pm Go.Proofs
theorem Ip.qg {l : List QR} (h : Ip l) (ha : l.all mayQ = true) (i : Nat) : ql (ofQ (qg l i)) ≤ 1048577 := by
  unfold Go.Mt.qg
  cases hi : l[i]? with
  | none => show ql (ofQ (nq 0)) ≤ _; rw [ofQ_nq]; decide
  | some x =>
    have hx := List.mem_of_getElem? hi
    have h0 := (h.lq ha x hx).gq
    obtain ⟨h1, h2, h3⟩ := h.q x hx
    have : gq x ≤ 1048577 := by unfold gq; omega
    show ql (ofQ x) ≤ _
    omega
theorem trimQ_le (V : List Rat) : (trimQ V).length ≤ V.length := by rw [trimQ_len]; exact trN_le _ _
theorem mul9_len (l m : List QR) (i : Nat) : (mul9A l m i).length ≤ i + m.length := by
  induction i with
  | zero => exact Nat.zero_le _
  | succ i ih =>
    refine Nat.le_trans (trimQ_le _) ?_
    have h1 := trimQ_le (shift9V (trimQ (scale9V m (qg l i))) i)
    have h2 := trimQ_le (scale9V m (qg l i))
    have h3 : (scale9V m (qg l i)).length = m.length := List.length_map ..
    have h4 : (shift9V (trimQ (scale9V m (qg l i))) i).length = i + (trimQ (scale9V m (qg l i))).length := by unfold shift9V; rw [List.length_append, List.length_replicate]
    unfold add9V
    rw [List.length_map, List.length_range, List.length_map, List.length_map]
    omega
end Go.Mt
