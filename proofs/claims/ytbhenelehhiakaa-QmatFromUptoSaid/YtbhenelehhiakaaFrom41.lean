/-
  simileref11: Blocks.
-/
import Derived.Test.YtbhenelehhiakaaFrom40
import Derived.Test.YtbhenelehhiakaaFrom31
import Derived.Test.YtbhenelehhiakaaFrom33
set_option linter.unusedVariables false
set_option linter.unusedSimpArgs false
namespace Go.Proofs.Ytbhenelehhiakaa
open Go.RowKit

/-- entries are laid into a row from a place on -/
def setsFrom {α : Type} (l : List α) : Nat → List α → List α
  | _, [] => l
  | at_, z :: zs => setsFrom (l.set at_ z) (at_ + 1) zs
theorem setsFrom_snoc {α : Type} (zs : List α) (z : α) : ∀ (l : List α) (a : Nat), setsFrom l a (zs ++ [z]) = (setsFrom l a zs).set (a + zs.length) z := by
  induction zs with
  | nil => intro l a; simp [setsFrom]
  | cons y zs ih =>
    intro l a
    rw [List.cons_append, setsFrom, ih, setsFrom, List.length_cons]
    congr 1; omega
theorem length_setsFrom {α : Type} (zs : List α) : ∀ (l : List α) (a : Nat), (setsFrom l a zs).length = l.length := by
  induction zs with
  | nil => intro l a; rfl
  | cons y zs ih => intro l a; rw [setsFrom, ih, List.length_set]
theorem map_setFrom {β : Type} (g : Int → β) (zs : List Int) : ∀ (l : List Int) (a : Nat), (setFrom l a zs).map g = setsFrom (l.map g) a (zs.map g) := by
  induction zs with
  | nil => intro l a; rfl
  | cons y zs ih => intro l a; rw [setFrom, ih, List.map_set, List.map_cons, setsFrom]

def zeroR (cols : Nat) : List Rat := List.replicate cols 0
/-- the direct sum's fractions -/
def blkQ (cols : Nat) : Ms → Nat → List (List Rat)
  | [], _ => []
  | m :: ms, a => (fracs m.1 m.2).map (setsFrom (zeroR cols) a) ++ blkQ cols ms (a + colsOf m.2)
theorem blkQ_snoc (cols : Nat) (m : Int × List (List Int)) : ∀ (ms : Ms) (a : Nat), blkQ cols (ms ++ [m]) a = blkQ cols ms a ++ (fracs m.1 m.2).map (setsFrom (zeroR cols) (a + blkCols ms)) := by
  intro ms
  induction ms with
  | nil => intro a; simp [blkQ, blkCols]
  | cons y ms ih =>
    intro a
    rw [List.cons_append, blkQ, ih, blkQ, List.append_assoc]
    rw [show a + blkCols (y :: ms) = a + colsOf y.2 + blkCols ms by simp [blkCols]; omega]
def rowsOf (ms : Ms) : Nat := (ms.map fun m => m.2.length).sum
theorem rowsOf_snoc (ms : Ms) (m : Int × List (List Int)) : rowsOf (ms ++ [m]) = rowsOf ms + m.2.length := by simp [rowsOf]
theorem length_blkQ (cols : Nat) : ∀ (ms : Ms) (a : Nat), (blkQ cols ms a).length = rowsOf ms := by
  intro ms
  induction ms with
  | nil => intro a; rfl
  | cons y ms ih => intro a; rw [blkQ, List.length_append, List.length_map, ih, length_fracs]; simp [rowsOf]
theorem blkQ_len (cols : Nat) : ∀ (ms : Ms) (a : Nat), ∀ row ∈ blkQ cols ms a, row.length = cols := by
  intro ms
  induction ms with
  | nil => intro a row hr; simp [blkQ] at hr
  | cons y ms ih =>
    intro a row hr
    rw [blkQ] at hr
    rcases List.mem_append.1 hr with hr | hr
    · obtain ⟨zs, _, rfl⟩ := List.mem_map.1 hr
      rw [length_setsFrom]; simp [zeroR]
    · exact ih _ row hr
theorem ratv_zero (d : Int) : ratv 0 d = 0 := Rat.zero_divInt d
/-- the direct sum of the fractions is the fractions of the direct sum -/
theorem blkQ_eq (cols : Nat) (D : Int) (hD : D ≠ 0) : ∀ (ms : Ms) (a : Nat), (∀ m ∈ ms, m.1 ≠ 0 ∧ m.1 ∣ D) → blkQ cols ms a = fracs D (blkRows cols D ms a) := by
  intro ms
  induction ms with
  | nil => intro a _; rfl
  | cons y ms ih =>
    intro a h
    obtain ⟨h0, t, ht⟩ := h y (List.mem_cons_self ..)
    rw [blkQ, blkRows, ih _ (fun m hm => h m (List.mem_cons_of_mem _ hm)), fracs_append]
    congr 1
    unfold fracs
    rw [List.map_map, List.map_map]
    refine List.map_congr_left fun zs _ => ?_
    simp only [Function.comp]
    unfold rowOf
    rw [map_setFrom, List.map_map, List.map_replicate, ratv_zero]
    congr 1
    refine List.map_congr_left fun z _ => ?_
    simp only [Function.comp]
    have ht0 : t ≠ 0 := fun e => hD (by rw [ht, e, Int.mul_zero])
    rw [ht, Int.mul_ediv_cancel_left _ h0, Int.mul_comm z t, Int.mul_comm y.1 t, ratv_scale ht0]

theorem MG.weakK {K K' B B' : Nat} {w : World} {a : Option Addr} {n c m : Nat} {L : List (Nat × List Rat)} (h : MG K B w a n c m L) (hK : K ≤ K') (hB : B' ≤ B) : MG K' B' w a n c m L :=
  ⟨h.sl.weak hB rfl fun _ _ ⟨e, hs⟩ => ⟨e, hs.weak hB rfl fun _ _ ⟨b, a, n, c, b2, a2, n2, c2, e, l, l2, g1, g2, g3, g4, g5, g6⟩ => ⟨b, a, n, c, b2, a2, n2, c2, e, l, l2, g1.mono hB (Kept.refl _ _), g2.mono hB (Kept.refl _ _), g3, g4, by omega, by omega⟩⟩, h.out, h.inj⟩

/-- one more row is full -/
theorem set_mid {α : Type} (P T : List α) (x y : α) : (P ++ x :: T).set P.length y = P ++ y :: T := by
  rw [List.set_append_right _ _ (Nat.le_refl _), Nat.sub_self, List.set_cons_zero]
theorem get_mid {α : Type} (P T : List α) (x : α) (h : P.length < (P ++ x :: T).length) : (P ++ x :: T)[P.length] = x := by
  rw [List.getElem_append_right (Nat.le_refl _)]; simp
end Go.Proofs.Ytbhenelehhiakaa
