/-
  A part of the proof.
-/
import Derived.Test.YtpoocfmphcgmkaaQri3
set_option linter.unusedVariables false
set_option linter.unusedSimpArgs false
set_option linter.unusedSimpArgs false
set_option linter.unusedVariables false
namespace Go.Mt
open Go Go.Pm
theorem take_snoc {α : Type} (f : α → List D) (l : List α) {k : Nat} (hk : k < l.length) {e : List D} (he : e = f l[k]) : (l.take k).map f ++ [e] = (l.take (k + 1)).map f := by
  rw [he, List.take_add_one, List.map_append, List.getElem?_eq_getElem hk]; rfl
/-- so far all are so -/
def allK {α : Type} (p : α → Bool) (l : List α) (k : Nat) : Prop := (l.take k).all p = true
theorem allK_zero {α : Type} (p : α → Bool) (l : List α) : allK p l 0 := by simp [allK]
theorem allK_succ {α : Type} {p : α → Bool} {l : List α} {k : Nat} (hk : k < l.length) (h : allK p l k) (hp : p l[k] = true) : allK p l (k + 1) := by
  unfold allK at *
  rw [List.take_add_one, List.all_append, h, List.getElem?_eq_getElem hk]
  simp [hp]
theorem allK_all {α : Type} {p : α → Bool} {l : List α} (h : allK p l l.length) : l.all p = true := by
  unfold allK at h; rwa [List.take_length] at h
theorem allK_not {α : Type} {p : α → Bool} {l : List α} {k : Nat} (hk : k < l.length) (hp : p l[k] = false) : l.all p = false := by
  rw [List.all_eq_false]
  exact ⟨l[k], List.getElem_mem hk, by simp [hp]⟩
theorem take_all {α : Type} {l : List α} {n : Nat} (h : l.length = n) : l.take n = l := List.take_of_length_le (by omega)
end Go.Mt
