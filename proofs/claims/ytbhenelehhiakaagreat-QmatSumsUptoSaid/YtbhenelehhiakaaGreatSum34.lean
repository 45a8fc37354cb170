/-
  qmat: vec, VecFrom; what is made of numerators over a common denominator stays so.
-/
import Derived.Test.YtbhenelehhiakaaGreatSum32
import Derived.Test.YtbhenelehhiakaaGreatSum33
import Derived.Test.YtbhenelehhiakaaGreatSum30
import Derived.Test.YtbhenelehhiakaaGreatSum28
set_option linter.unusedVariables false
set_option linter.unusedSimpArgs false
namespace Go.Proofs.YtbhenelehhiakaaGreat
open Go.RowKit

theorem ratv_comNum (D : Nat) (hD : 0 < D) (q : Rat) (h : q.den ∣ D) : ratv (comNum D q) D = q := by
  have h0 : ((D : Int) : Rat) ≠ 0 := fun e => by have := Rat.intCast_inj.1 (show ((D : Int) : Rat) = ((0 : Int) : Rat) from e); omega
  unfold ratv
  rw [Rat.divInt_eq_div, ← comNum_eq D q h, Rat.div_def, Rat.mul_assoc, Rat.mul_inv_cancel _ h0, Rat.mul_one]

end Go.Proofs.YtbhenelehhiakaaGreat
/-
  qmat: VecFrom; lists of fractions that have come; parts of a slice.
-/
namespace Go.Proofs.YtbhenelehhiakaaGreat
open Go.RowKit Go.Shelf
attribute [local go_sem] Oper.semAt_some

theorem nl_comNum {K KL D : Nat} {q : Rat} (hq : nl q.num.natAbs ≤ K) (hD : nl D ≤ KL) : nl (comNum D q).natAbs ≤ K + KL := by
  unfold comNum
  rw [Int.natAbs_mul, Int.natAbs_natCast]
  have h1 := nl_mul q.num.natAbs (D / q.den)
  have h2 := nl_mono (Nat.div_le_self D q.den)
  omega

end Go.Proofs.YtbhenelehhiakaaGreat
/-
  qmat: From.
-/
namespace Go.Proofs.YtbhenelehhiakaaGreat
open Go.RowKit Go.Shelf
attribute [local go_sem] Oper.semAt_some

theorem cellE {w w' : World} (hE : Ext w w') {p : Addr} {v : Value} (h : w.cell? p = some v) : w'.cell? p = some v := (hE.cell (World.block_lt_of_cell? _ _ h)).trans h
theorem evenB_all {α : Type} {xss : List (List α)} (h : evenB xss = true) : ∀ xs ∈ xss, xs.length = colsOf xss := fun xs hx => by
  unfold evenB at h
  rw [List.all_eq_true] at h
  exact of_decide_eq_true (h xs hx)
/-- parts of a slice: from k on -/
theorem Sl.from {α : Type} {r : Rd α} {B : Nat} {w : World} {a : Option Addr} {n c : Nat} {xs : List α} (h : Sl r B w a n c xs) {k : Nat} (hk : k ≤ n) : Sl r B w (if c = k then a else a.map (·.add (k * r.size))) (n - k) (c - k) (xs.drop k) := by
  have hl := h.len
  have hc := h.cap
  have hm := h.most
  by_cases hck : c = k
  · rw [if_pos hck]
    refine ⟨by rw [List.length_drop]; omega, by omega, by omega, fun _ => by omega, fun i hi => absurd hi (by rw [List.length_drop]; omega)⟩
  · rw [if_neg hck]
    refine ⟨by rw [List.length_drop]; omega, by omega, by omega, fun e => ?_, fun i hi => ?_⟩
    · cases a with
      | none => have := h.nil rfl; omega
      | some x => cases e
    · rw [List.length_drop] at hi
      obtain ⟨b, o, cs, ha, hr, hcs⟩ := h.at_ (k + i) (by omega)
      subst ha
      refine ⟨b, o + k * r.size, cs, ?_, by rw [List.getElem_drop]; exact hr, fun j hj => ?_⟩
      · show (some ((⟨b, o, none⟩ : Addr).add (k * r.size))) = _
        by_cases hz : k * r.size = 0
        · rw [hz]; simp [Addr.add]
        · simp [Addr.add, hz]
      · have := hcs j hj
        rw [show o + k * r.size + i * r.size + j = o + (k + i) * r.size + j by rw [Nat.add_mul]; omega]
        exact this
/-- of k elements, room for no more -/
theorem Sl.exact {α : Type} {r : Rd α} {B : Nat} {w : World} {a : Option Addr} {n c : Nat} {xs : List α} (h : Sl r B w a n c xs) {k : Nat} (hk : k ≤ n) : Sl r B w a k k (xs.take k) := by
  have h1 := h.take hk
  exact ⟨h1.len, Nat.le_refl _, Nat.le_trans h1.cap h1.most, fun e => by have := h1.nil e; have := h1.cap; omega, h1.at_⟩
end Go.Proofs.YtbhenelehhiakaaGreat
/-
  qmat: From.
-/
namespace Go.Proofs.YtbhenelehhiakaaGreat
open Go.RowKit Go.Shelf
attribute [local go_sem] Oper.semAt_some

end Go.Proofs.YtbhenelehhiakaaGreat
