/-
  Plain laws: tables of fractions; sums; what tables of integers over a denominator say.
-/
import Derived.Test.YtbhenelehhiakaaGreatProd24
import Derived.Test.YtbhenelehhiakaaGreatProd33
import Derived.Test.YtbhenelehhiakaaGreatProd28
import Derived.Test.YtbhenelehhiakaaGreatProd35
set_option linter.unusedVariables false
set_option linter.unusedSimpArgs false
namespace Go.Proofs.YtbhenelehhiakaaGreat

def sumN : Nat → (Nat → Rat) → Rat
  | 0, _ => 0
  | n + 1, f => sumN n f + f n
def tabQ (f : Nat → Nat → Rat) (r c : Nat) : List (List Rat) := (List.range r).map fun i => (List.range c).map fun k => f i k
def entQ (qss : List (List Rat)) (i j : Nat) : Rat := (((qss[i]?).getD [])[j]?).getD 0

theorem sumN_congr {n : Nat} {f g : Nat → Rat} (h : ∀ j, j < n → f j = g j) : sumN n f = sumN n g := by
  induction n with
  | zero => rfl
  | succ n ih => unfold sumN; rw [ih (fun j hj => h j (by omega)), h n (by omega)]
theorem tabQ_congr {r c : Nat} {f g : Nat → Nat → Rat} (h : ∀ i k, i < r → k < c → f i k = g i k) : tabQ f r c = tabQ g r c := by
  unfold tabQ
  refine List.map_congr_left fun i hi => List.map_congr_left fun k hk => h i k (List.mem_range.1 hi) (List.mem_range.1 hk)
theorem fracs_table (D : Int) (f : Nat → Nat → Int) (r c : Nat) : fracs D (tableZ f r c) = tabQ (fun i k => ratv (f i k) D) r c := by
  unfold fracs tableZ tabQ
  rw [List.map_map]
  refine List.map_congr_left fun i _ => ?_
  simp only [Function.comp, List.map_map]
  rfl
theorem ratv_z (d : Int) : ratv 0 d = 0 := Rat.zero_divInt d
theorem entQ_fracs (d : Int) (zss : List (List Int)) (i j : Nat) : entQ (fracs d zss) i j = ratv (entry zss i j) d := by
  unfold entQ entry fracs
  rw [List.getElem?_map]
  cases zss[i]? with
  | none => exact (ratv_z d).symm
  | some zs =>
    simp only [Option.map_some, Option.getD_some, List.getElem?_map]
    cases zs[j]? with
    | none => exact (ratv_z d).symm
    | some z => rfl
theorem ratv_add1 (x y : Int) {D : Int} (hD : D ≠ 0) : ratv (x + y) D = ratv x D + ratv y D := by
  rw [ratv_add _ _ hD hD, ← Int.add_mul, Int.mul_comm (x + y) D]
  exact (Rat.divInt_mul_left hD).symm
theorem ratv_sum {D : Int} (hD : D ≠ 0) (n : Nat) (f : Nat → Int) : ratv (sumZ n f) D = sumN n fun j => ratv (f j) D := by
  induction n with
  | zero => exact ratv_z D
  | succ n ih => unfold sumZ sumN; rw [ratv_add1 _ _ hD, ih]
theorem length_tabQ (f : Nat → Nat → Rat) (r c : Nat) : (tabQ f r c).length = r := by simp [tabQ]
theorem row_tabQ (f : Nat → Nat → Rat) (r c : Nat) : ∀ qs ∈ tabQ f r c, qs.length = c := by
  intro qs hq
  obtain ⟨i, _, rfl⟩ := List.mem_map.1 hq
  simp
/-- rows of one length are the table of their entries -/
theorem tabQ_ent (qss : List (List Rat)) (c : Nat) (h : ∀ qs ∈ qss, qs.length = c) : tabQ (entQ qss) qss.length c = qss := by
  unfold tabQ
  refine List.ext_getElem (by simp) fun i h1 h2 => ?_
  rw [List.getElem_map, List.getElem_range]
  have hl := h _ (List.getElem_mem h2)
  refine List.ext_getElem (by simp [hl]) fun k h3 h4 => ?_
  rw [List.getElem_map, List.getElem_range]
  unfold entQ
  simp [List.getElem?_eq_getElem h2, List.getElem?_eq_getElem h4]

/-- sums and products of two matrices, as the program reckons -/
def mulQ (A B : List (List Rat)) (r n c : Nat) : List (List Rat) := tabQ (fun i k => sumN n fun j => entQ A i j * entQ B j k) r c
theorem mulZ_eq (zss zss' : List (List Int)) (d d' : Int) (hd : d ≠ 0) (hd' : d' ≠ 0) (r n c : Nat) : fracs (d * d') (tableZ (mulZ zss zss' n) r c) = mulQ (fracs d zss) (fracs d' zss') r n c := by
  rw [fracs_table]
  refine tabQ_congr fun i k _ _ => ?_
  unfold mulZ
  rw [ratv_sum (Int.mul_ne_zero hd hd')]
  refine sumN_congr fun j _ => ?_
  rw [entQ_fracs, entQ_fracs, ratv_mul]
def kronQ (A B : List (List Rat)) (r c r2 c2 : Nat) : List (List Rat) := tabQ (fun i k => entQ A (i / r2) (k / c2) * entQ B (i % r2) (k % c2)) (r * r2) (c * c2)
theorem kronZ_eq (zss zss' : List (List Int)) (d d' : Int) (r c r2 c2 : Nat) : fracs (d * d') (tableZ (fun i k => entry zss (i / r2) (k / c2) * entry zss' (i % r2) (k % c2)) (r * r2) (c * c2)) = kronQ (fracs d zss) (fracs d' zss') r c r2 c2 := by
  rw [fracs_table]
  refine tabQ_congr fun i k _ _ => ?_
  rw [entQ_fracs, entQ_fracs, ratv_mul]
end Go.Proofs.YtbhenelehhiakaaGreat
