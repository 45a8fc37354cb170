/-
  Natural numbers as lists of limbs of 32 bits: plain lemmas, no program.
-/
import Derived.WalkKit
import Derived.WalkSpells
import Derived.Lib.Hide
import Derived.Laws.CopyOwn
import Derived.WalkSmall
import Derived.Test.YtbhenelehhiakaaGreatProg
import Derived.Outline
import Derived.BigQuiet
import Derived.Deep.QuietTactic
import Derived.Laws.BitsAllLaws
import Derived.Maps.AppendAt
set_option linter.unusedVariables false
set_option linter.unusedSimpArgs false
namespace Go.Proofs.YtbhenelehhiakaaGreat
def val : List Nat → Nat
 | [] => 0
 | x :: r => x + 4294967296 * val r
def Small (l : List Nat) : Prop := ∀ x ∈ l, x < 4294967296
def limbsF : Nat → Nat → List Nat
 | 0, _ => []
 | k + 1, n => if n = 0 then [] else n % 4294967296 :: limbsF k (n / 4294967296)
def limbs (n : Nat) : List Nat := limbsF n n
theorem limbsF_eq : ∀ (k m n : Nat), n ≤ k → n ≤ m → limbsF k n = limbsF m n := by
 intro k
 induction k with
 | zero => intro m n h _; obtain rfl : n = 0 := by omega
           cases m <;> simp [limbsF]
 | succ k ih =>
  intro m n h hm
  cases m with
  | zero => obtain rfl : n = 0 := by omega
            simp [limbsF]
  | succ m =>
   simp only [limbsF]
   split
   ·rfl
   ·rw [ih m (n / 4294967296) (by omega) (by omega)]
theorem limbs_zero : limbs 0 = [] := rfl
theorem limbs_pos {n : Nat} (h : 0 < n) : limbs n = n % 4294967296 :: limbs (n / 4294967296) := by
 unfold limbs
 cases n with
 | zero => omega
 | succ k =>
  rw [limbsF, if_neg (by omega), limbsF_eq k ((k + 1) / 4294967296) _ (by omega) (by omega)]
theorem limbs_step (x r : Nat) (hx : x < 4294967296) (h : 0 < x + 4294967296 * r) : limbs (x + 4294967296 * r) = x :: limbs r := by
 rw [limbs_pos h]
 have e1 : (x + 4294967296 * r) % 4294967296 = x := by omega
 have e2 : (x + 4294967296 * r) / 4294967296 = r := by omega
 rw [e1, e2]
theorem limbs_eq_nil {n : Nat} : limbs n = [] ↔ n = 0 := by
 constructor
 ·intro h
  cases Nat.eq_zero_or_pos n with
  | inl h => exact h
  | inr hp => rw [limbs_pos hp] at h; cases h
 ·rintro rfl; rfl
theorem val_limbs (n : Nat) : val (limbs n) = n := by
 induction n using Nat.strongRecOn with
 | _ n ih =>
  cases Nat.eq_zero_or_pos n with
  | inl h => subst h; rfl
  | inr hp => rw [limbs_pos hp, val, ih _ (by omega)]; omega
theorem small_limbs (n : Nat) : Small (limbs n) := by
 induction n using Nat.strongRecOn with
 | _ n ih =>
  cases Nat.eq_zero_or_pos n with
  | inl h => subst h; intro x hx; cases hx
  | inr hp =>
   rw [limbs_pos hp]
   intro x hx
   rcases List.mem_cons.1 hx with rfl | h
   ·omega
   ·exact ih _ (by omega) x h
theorem Small.tail {x : Nat} {l : List Nat} (h : Small (x :: l)) : Small l := fun y hy => h y (List.mem_cons_of_mem _ hy)
theorem Small.head {x : Nat} {l : List Nat} (h : Small (x :: l)) : x < 4294967296 := h x (List.mem_cons_self)
theorem Small.take {l : List Nat} (h : Small l) (k : Nat) : Small (l.take k) := fun x hx => h x (List.mem_of_mem_take hx)
theorem Small.drop {l : List Nat} (h : Small l) (k : Nat) : Small (l.drop k) := fun x hx => h x (List.mem_of_mem_drop hx)
theorem Small.append {l m : List Nat} (h : Small l) (h' : Small m) : Small (l ++ m) := fun x hx => (List.mem_append.1 hx).elim (h x) (h' x)
theorem Small.get {l : List Nat} (h : Small l) (i : Nat) : l[i]?.getD 0 < 4294967296 := by
 cases e : l[i]? with
 | none => simp
 | some x => exact h x (List.mem_of_getElem? e)
theorem small_nil : Small [] := fun x hx => by cases hx
theorem small_cons {x : Nat} {l : List Nat} (hx : x < 4294967296) (h : Small l) : Small (x :: l) := fun y hy => by
 rcases List.mem_cons.1 hy with rfl | hy
 ·exact hx
 ·exact h y hy
theorem small_replicate (n : Nat) : Small (List.replicate n 0) := fun x hx => by
 rw [List.eq_of_mem_replicate hx]; decide
theorem Small.set {l : List Nat} (h : Small l) (i : Nat) {x : Nat} (hx : x < 4294967296) : Small (l.set i x) := fun y hy => by
 rcases List.mem_or_eq_of_mem_set hy with hy | rfl
 ·exact h y hy
 ·exact hx
theorem val_append : ∀ (l m : List Nat), val (l ++ m) = val l + 4294967296 ^ l.length * val m
 | [], m => by simp [val]
 | x :: l, m => by
  rw [List.cons_append, val, val, val_append l m, List.length_cons, Nat.pow_succ, Nat.mul_add, Nat.mul_comm (4294967296 ^ l.length) 4294967296, Nat.mul_assoc]
  omega
theorem val_replicate (n : Nat) : val (List.replicate n 0) = 0 := by
 induction n with
 | zero => rfl
 | succ n ih => rw [List.replicate_succ, val, ih]
theorem val_lt : ∀ {l : List Nat}, Small l → val l < 4294967296 ^ l.length
 | [], _ => by simp [val]
 | x :: l, h => by
  have h1 := val_lt h.tail
  have h2 := h.head
  rw [val, List.length_cons, Nat.pow_succ]
  generalize 4294967296 ^ l.length = p at h1
  omega
theorem limbs_of_val : ∀ {l : List Nat}, Small l → (l = [] ∨ l[l.length - 1]?.getD 0 ≠ 0) → limbs (val l) = l
 | [], _, _ => rfl
 | x :: l, hs, h => by
  have h' : l[l.length]?.getD 0 = 0 := by simp
  cases l with
  | nil =>
   have hx : x ≠ 0 := by simpa using h
   have := hs.head
   rw [val, limbs_step x _ this (by omega)]
   rfl
  | cons y r =>
   have hl : (y :: r)[(y :: r).length - 1]?.getD 0 ≠ 0 := by simpa using h
   have ih := limbs_of_val hs.tail (Or.inr hl)
   have hv : val (y :: r) ≠ 0 := by
    intro e
    rw [e] at ih
    cases ih
   rw [val, limbs_step x _ hs.head (by omega), ih]
theorem val_take_drop (l : List Nat) (k : Nat) : val l = val (l.take k) + 4294967296 ^ (l.take k).length * val (l.drop k) := by
 rw [← val_append, List.take_append_drop]
theorem val_eq_zero : ∀ {l : List Nat}, (∀ x ∈ l, x = 0) → val l = 0
 | [], _ => rfl
 | x :: l, h => by rw [val, h x (by simp), val_eq_zero (fun y hy => h y (by simp [hy]))]
theorem take_succ_get {l : List Nat} {k : Nat} (h : k < l.length) : l.take (k + 1) = l.take k ++ [l[k]?.getD 0] := by
 rw [List.take_add_one, List.getElem?_eq_getElem h]; rfl
theorem val_take_succ {l : List Nat} {k : Nat} (h : k < l.length) : val (l.take (k + 1)) = val (l.take k) + 4294967296 ^ k * (l[k]?.getD 0) := by
 rw [take_succ_get h, val_append, List.length_take, Nat.min_eq_left (by omega)]
 simp [val]
def nl (n : Nat) : Nat := (limbs n).length
theorem lt_pow_nl (n : Nat) : n < 4294967296 ^ nl n := by
 have := val_lt (small_limbs n)
 rwa [val_limbs] at this
theorem pow_nl_le {n : Nat} (h : 0 < n) : 4294967296 ^ (nl n - 1) ≤ n := by
 induction n using Nat.strongRecOn with
 | _ n ih =>
  unfold nl
  rw [limbs_pos h]
  simp only [List.length_cons, Nat.add_sub_cancel]
  cases Nat.eq_zero_or_pos (n / 4294967296) with
  | inl h0 => rw [h0]; simp [limbs_zero]; omega
  | inr hp =>
   have h1 := ih _ (by omega) hp
   have h2 : 0 < nl (n / 4294967296) := by
    unfold nl
    rw [limbs_pos hp]; simp
   unfold nl at h1 h2
   have e : (limbs (n / 4294967296)).length = ((limbs (n / 4294967296)).length - 1) + 1 := by omega
   rw [e, Nat.pow_succ]
   generalize 4294967296 ^ ((limbs (n / 4294967296)).length - 1) = p at h1
   omega
theorem nl_le_of_lt {n k : Nat} (h : n < 4294967296 ^ k) : nl n ≤ k := by
 cases Nat.eq_zero_or_pos n with
 | inl h0 => subst h0; simp [nl, limbs_zero]
 | inr hp =>
  have h1 := pow_nl_le hp
  have h2 : 4294967296 ^ (nl n - 1) < 4294967296 ^ k := by omega
  have h3 : nl n - 1 < k := (Nat.pow_lt_pow_iff_right (by omega)).1 h2
  omega
theorem nl_zero : nl 0 = 0 := rfl
theorem nl_pos {n : Nat} (h : 0 < n) : 0 < nl n := by
 unfold nl; rw [limbs_pos h]; simp
theorem nl_mono {m n : Nat} (h : m ≤ n) : nl m ≤ nl n := nl_le_of_lt (Nat.lt_of_le_of_lt h (lt_pow_nl n))
theorem nl_mul (m n : Nat) : nl (m * n) ≤ nl m + nl n := by
 refine nl_le_of_lt ?_
 rw [Nat.pow_add]
 exact Nat.mul_lt_mul_of_lt_of_le (lt_pow_nl m) (Nat.le_of_lt (lt_pow_nl n)) (Nat.pow_pos (by omega))
theorem nl_add (m n : Nat) : nl (m + n) ≤ max (nl m) (nl n) + 1 := by
 refine nl_le_of_lt ?_
 have h1 : m < 4294967296 ^ max (nl m) (nl n) := Nat.lt_of_lt_of_le (lt_pow_nl m) (Nat.pow_le_pow_right (by omega) (Nat.le_max_left _ _))
 have h2 : n < 4294967296 ^ max (nl m) (nl n) := Nat.lt_of_lt_of_le (lt_pow_nl n) (Nat.pow_le_pow_right (by omega) (Nat.le_max_right _ _))
 rw [Nat.pow_succ]
 omega
theorem nl_val {l : List Nat} (h : Small l) : nl (val l) ≤ l.length := nl_le_of_lt (val_lt h)
theorem length_limbs (n : Nat) : (limbs n).length = nl n := rfl
def stp (nxt : Nat → Nat → Nat → Nat) (s0 : Nat) (l l2 : List Nat) : Nat → Nat
 | 0 => s0
 | k + 1 => nxt (stp nxt s0 l l2 k) (l[k]?.getD 0) (l2[k]?.getD 0)
def outs (out nxt : Nat → Nat → Nat → Nat) (s0 : Nat) (l l2 : List Nat) : Nat → List Nat
 | 0 => []
 | k + 1 => outs out nxt s0 l l2 k ++ [out (stp nxt s0 l l2 k) (l[k]?.getD 0) (l2[k]?.getD 0)]
theorem length_outs (out nxt : Nat → Nat → Nat → Nat) (s0 : Nat) (l l2 : List Nat) (k : Nat) : (outs out nxt s0 l l2 k).length = k := by
 induction k with
 | zero => rfl
 | succ k ih => rw [outs, List.length_append, ih]; rfl
theorem small_outs (out nxt : Nat → Nat → Nat → Nat) (s0 : Nat) (l l2 : List Nat) (h : ∀ s x y, out s x y < 4294967296) (k : Nat) : Small (outs out nxt s0 l l2 k) := by
 induction k with
 | zero => exact small_nil
 | succ k ih => exact ih.append (small_cons (h _ _ _) small_nil)
theorem outs_fill (out nxt : Nat → Nat → Nat → Nat) (s0 : Nat) (l l2 : List Nat) (k m : Nat) (h : k < m) :
  (outs out nxt s0 l l2 k ++ List.replicate (m - k) 0).set k (out (stp nxt s0 l l2 k) (l[k]?.getD 0) (l2[k]?.getD 0)) = outs out nxt s0 l l2 (k + 1) ++ List.replicate (m - (k + 1)) 0 := by
 have e : m - k = (m - (k + 1)) + 1 := by omega
 rw [List.set_append_right _ _ (by rw [length_outs]; omega), length_outs, Nat.sub_self, e, List.replicate_succ, List.set_cons_zero, outs, List.append_assoc]
 rfl
theorem val_take_succ' (l : List Nat) (k : Nat) : val (l.take (k + 1)) = val (l.take k) + 4294967296 ^ k * (l[k]?.getD 0) := by
 by_cases h : k < l.length
 ·exact val_take_succ h
 ·rw [List.take_of_length_le (by omega), List.take_of_length_le (by omega), List.getElem?_eq_none (by omega)]
  simp
def addOut (s x y : Nat) : Nat := (x + y + s) % 4294967296
def addNxt (s x y : Nat) : Nat := (x + y + s) / 4294967296
def subOut (s x y : Nat) : Nat := (x + 4294967296 - y - s) % 4294967296
def subNxt (s x y : Nat) : Nat := if x < y + s then 1 else 0
theorem add_outs (l l2 : List Nat) (s0 k : Nat) : val (outs addOut addNxt s0 l l2 k) + 4294967296 ^ k * stp addNxt s0 l l2 k = val (l.take k) + val (l2.take k) + s0 := by
 induction k with
 | zero => simp [outs, stp, val]
 | succ k ih =>
  rw [outs, val_append, length_outs, stp, val_take_succ', val_take_succ']
  generalize l[k]?.getD 0 = x
  generalize l2[k]?.getD 0 = y
  generalize hs : stp addNxt s0 l l2 k = s at *
  have e : val [addOut s x y] = (x + y + s) % 4294967296 := by simp [val, addOut]
  have e2 : x + y + s = (x + y + s) % 4294967296 + 4294967296 * addNxt s x y := by unfold addNxt; omega
  rw [e, Nat.pow_succ, Nat.mul_assoc]
  have e3 : 4294967296 ^ k * ((x + y + s) % 4294967296) + 4294967296 ^ k * (4294967296 * addNxt s x y) = 4294967296 ^ k * x + 4294967296 ^ k * y + 4294967296 ^ k * s := by
   rw [← Nat.mul_add, ← e2, Nat.mul_add, Nat.mul_add]
  omega
theorem val_one (x : Nat) : val [x] = x := by rw [val, val, Nat.mul_zero, Nat.add_zero]
theorem sub_limb (b x y s : Nat) (hx : x < b) (hy : y < b) (hs : s ≤ 1) : (x + b - y - s) % b + y + s = x + b * (if x < y + s then 1 else 0) := by
 split
 ·rename_i h
  rw [Nat.mod_eq_of_lt (by omega), Nat.mul_one]
  omega
 ·rename_i h
  have e : x + b - y - s = (x - y - s) + b := by omega
  rw [e, Nat.add_mod_right, Nat.mod_eq_of_lt (by omega), Nat.mul_zero]
  omega
theorem subNxt_le (s x y : Nat) : subNxt s x y ≤ 1 := by unfold subNxt; split <;> decide
theorem step_arith {A V T P X Y S N O : Nat} (h : V + T = A + P * S) (h2 : P * O + P * Y + P * S = P * X + P * N) : V + P * O + (T + P * Y) = A + P * X + P * N := by
 omega
theorem sub_outs {l l2 : List Nat} (hl : Small l) (hl2 : Small l2) (k : Nat) : val (outs subOut subNxt 0 l l2 k) + val (l2.take k) = val (l.take k) + 4294967296 ^ k * stp subNxt 0 l l2 k ∧ stp subNxt 0 l l2 k ≤ 1 := by
 induction k with
 | zero => simp [outs, stp, val]
 | succ k ih =>
  obtain ⟨ih, h1⟩ := ih
  rw [outs, val_append, length_outs, stp, val_take_succ', val_take_succ']
  have hx := hl.get k
  have hy := hl2.get k
  generalize l[k]?.getD 0 = x at *
  generalize l2[k]?.getD 0 = y at *
  generalize hs : stp subNxt 0 l l2 k = s at *
  have e : val [subOut s x y] = subOut s x y := val_one _
  have e2 : subOut s x y + y + s = x + 4294967296 * subNxt s x y := by
   unfold subOut subNxt
   exact sub_limb _ x y s hx hy h1
  refine ⟨?_, subNxt_le s x y⟩
  rw [e, Nat.pow_succ, Nat.mul_assoc]
  have e3 : 4294967296 ^ k * subOut s x y + 4294967296 ^ k * y + 4294967296 ^ k * s = 4294967296 ^ k * x + 4294967296 ^ k * (4294967296 * subNxt s x y) := by
   rw [← Nat.mul_add, ← Nat.mul_add, e2, Nat.mul_add]
  exact step_arith ih e3
theorem sub_end {l l2 : List Nat} (hl : Small l) (hl2 : Small l2) (h : val l2 ≤ val l) (k : Nat) (h1 : l.length ≤ k) (h2 : l2.length ≤ k) : val (outs subOut subNxt 0 l l2 k) = val l - val l2 := by
 obtain ⟨h3, h4⟩ := sub_outs hl hl2 k
 rw [List.take_of_length_le h1, List.take_of_length_le h2] at h3
 have h5 : val (outs subOut subNxt 0 l l2 k) < 4294967296 ^ k := by
  have := val_lt (small_outs subOut subNxt 0 l l2 (fun s x y => Nat.mod_lt _ (by omega)) k)
  rwa [length_outs] at this
 have h6 : stp subNxt 0 l l2 k = 0 ∨ stp subNxt 0 l l2 k = 1 := by omega
 rcases h6 with h6 | h6
 ·rw [h6] at h3; omega
 ·rw [h6] at h3; omega
theorem lt_of_nl_lt {m n : Nat} (h : nl m < nl n) : m < n := by
 have hn : 0 < n := by
  cases Nat.eq_zero_or_pos n with
  | inl h0 => subst h0; rw [nl_zero] at h; omega
  | inr h => exact h
 have h1 := lt_pow_nl m
 have h2 := pow_nl_le hn
 have h3 : 4294967296 ^ nl m ≤ 4294967296 ^ (nl n - 1) := Nat.pow_le_pow_right (by omega) (by omega)
 omega
theorem val_split_at {l : List Nat} {j : Nat} (h : j < l.length) : val l = val (l.take j) + 4294967296 ^ j * ((l[j]?.getD 0) + 4294967296 * val (l.drop (j + 1))) := by
 have h1 := val_take_drop l (j + 1)
 rw [val_take_succ h, List.length_take, Nat.min_eq_left (by omega), Nat.pow_succ] at h1
 rw [h1, Nat.mul_add, Nat.mul_assoc]
 omega
theorem val_lt_at {l m : List Nat} {j : Nat} (hl : Small l) (h1 : j < l.length) (h2 : j < m.length) (he : l.drop (j + 1) = m.drop (j + 1)) (h : l[j]?.getD 0 < m[j]?.getD 0) : val l < val m := by
 rw [val_split_at h1, val_split_at h2, he]
 have h3 := val_lt (hl.take j)
 rw [List.length_take, Nat.min_eq_left (by omega)] at h3
 have h4 : 4294967296 ^ j * ((l[j]?.getD 0) + 4294967296 * val (m.drop (j + 1)) + 1) ≤ 4294967296 ^ j * ((m[j]?.getD 0) + 4294967296 * val (m.drop (j + 1))) := Nat.mul_le_mul_left _ (by omega)
 rw [Nat.mul_add, Nat.mul_one] at h4
 omega
theorem drop_eq_step {l m : List Nat} {j : Nat} (h1 : j < l.length) (h2 : j < m.length) (he : l.drop (j + 1) = m.drop (j + 1)) (h : l[j]?.getD 0 = m[j]?.getD 0) : l.drop j = m.drop j := by
 rw [List.drop_eq_getElem_cons h1, List.drop_eq_getElem_cons h2, he]
 rw [List.getElem?_eq_getElem h1, List.getElem?_eq_getElem h2] at h
 simp at h
 rw [h]
theorem val_set {l : List Nat} {j : Nat} (h : j < l.length) (v : Nat) : val (l.set j v) + 4294967296 ^ j * (l[j]?.getD 0) = val l + 4294967296 ^ j * v := by
 rw [val_split_at (l := l.set j v) (j := j) (by rw [List.length_set]; exact h), val_split_at h, List.take_set_of_le (Nat.le_refl _), List.drop_set_of_lt (by omega), List.getElem?_set_self h]
 simp only [Option.getD_some, Nat.mul_add]
 omega
theorem get_set_ne {l : List Nat} {j i : Nat} (h : j ≠ i) (v : Nat) : (l.set j v)[i]?.getD 0 = l[i]?.getD 0 := by
 rw [List.getElem?_set_ne h]
theorem mul_round {O : List Nat} {V x y c i k : Nat} {Y : List Nat} (hO : i + k < O.length) (h : val O + 4294967296 ^ (i + k) * c = V + 4294967296 ^ i * (x * val (Y.take k))) (hy : Y[k]?.getD 0 = y) :
  val (O.set (i + k) ((x * y + O[i + k]?.getD 0 + c) % 4294967296)) + 4294967296 ^ (i + (k + 1)) * ((x * y + O[i + k]?.getD 0 + c) / 4294967296) = V + 4294967296 ^ i * (x * val (Y.take (k + 1))) := by
 have h1 := val_set hO ((x * y + O[i + k]?.getD 0 + c) % 4294967296)
 generalize O[i + k]?.getD 0 = o at *
 have h2 : x * y + o + c = (x * y + o + c) % 4294967296 + 4294967296 * ((x * y + o + c) / 4294967296) := by omega
 generalize (x * y + o + c) % 4294967296 = r at *
 generalize (x * y + o + c) / 4294967296 = q at *
 rw [val_take_succ', hy, Nat.mul_add, Nat.mul_add]
 have e1 : 4294967296 ^ i * (x * (4294967296 ^ k * y)) = 4294967296 ^ (i + k) * (x * y) := by
  rw [Nat.pow_add, Nat.mul_left_comm x, Nat.mul_assoc]
 have e2 : 4294967296 ^ (i + (k + 1)) * q = 4294967296 ^ (i + k) * (4294967296 * q) := by
  rw [show i + (k + 1) = (i + k) + 1 from by omega, Nat.pow_succ, Nat.mul_assoc]
 rw [e1, e2]
 have e3 : 4294967296 ^ (i + k) * (x * y) + 4294967296 ^ (i + k) * o + 4294967296 ^ (i + k) * c = 4294967296 ^ (i + k) * r + 4294967296 ^ (i + k) * (4294967296 * q) := by
  rw [← Nat.mul_add, ← Nat.mul_add, ← Nat.mul_add, h2]
 omega
theorem mul_end {O : List Nat} {x y c i m n : Nat} {X Y : List Nat} (hO : i + m < O.length) (hY : Y.length = m) (h : val O + 4294967296 ^ (i + m) * c = val (X.take i) * y + 4294967296 ^ i * (x * val (Y.take m))) (hy : val Y = y) (hx : X[i]?.getD 0 = x) (h0 : O[i + m]?.getD 0 = 0) (hn : n = 0) :
  val (O.set (i + m) c) = val (X.take (i + 1)) * y + n := by
 have h1 := val_set hO c
 rw [h0] at h1
 rw [List.take_of_length_le (l := Y) (by omega), hy] at h
 rw [val_take_succ', hx, Nat.add_mul, Nat.mul_assoc]
 omega
theorem carry_lt {x y o c : Nat} (hx : x < 4294967296) (hy : y < 4294967296) (ho : o < 4294967296) (hc : c < 4294967296) : x * y + o + c < 18446744073709551616 := by
 have h1 : x * y ≤ 4294967295 * 4294967295 := Nat.mul_le_mul (by omega) (by omega)
 omega
theorem val_drop {l : List Nat} {i : Nat} (h : i < l.length) : val (l.drop i) = l[i]?.getD 0 + 4294967296 * val (l.drop (i + 1)) := by
 rw [List.drop_eq_getElem_cons h, val, List.getElem?_eq_getElem h]; rfl
theorem short_round {l Q : List Nat} {i rr x d : Nat} (hi : i < l.length) (hx : l[i]?.getD 0 = x) (h : val Q * d + rr = val (l.drop (i + 1))) :
  val ((rr * 4294967296 + x) / d :: Q) * d + (rr * 4294967296 + x) % d = val (l.drop i) := by
 rw [val_drop hi, hx, ← h, val, Nat.add_mul]
 have h1 := Nat.div_add_mod (rr * 4294967296 + x) d
 rw [Nat.mul_comm d] at h1
 generalize (rr * 4294967296 + x) / d * d = a at *
 generalize (rr * 4294967296 + x) % d = r at *
 rw [Nat.mul_assoc]
 generalize val Q * d = q
 omega
theorem short_q {rr x d : Nat} (hr : rr < d) (hx : x < 4294967296) : (rr * 4294967296 + x) / d < 4294967296 := by
 rw [Nat.div_lt_iff_lt_mul (by omega)]
 have h : (rr + 1) * 4294967296 ≤ d * 4294967296 := Nat.mul_le_mul_right _ (by omega)
 rw [Nat.mul_comm 4294967296 d]
 omega
theorem set_fill (Q : List Nat) (i v : Nat) : (List.replicate (i + 1) 0 ++ Q).set i v = List.replicate i 0 ++ v :: Q := by
 have e : List.replicate (i + 1) 0 ++ Q = List.replicate i 0 ++ 0 :: Q := by
  rw [List.replicate_succ', List.append_assoc]; rfl
 rw [e, List.set_append_right _ _ (by simp), List.length_replicate, Nat.sub_self]
 rfl
theorem pow32 {s : Nat} (h : s < 32) : 4294967296 = 2 ^ s * 2 ^ (32 - s) := by
 rw [← Nat.pow_add, show s + (32 - s) = 32 from by omega]
theorem left_low {x s : Nat} (hs : s < 32) : (x * 2 ^ s) % 4294967296 = 2 ^ s * (x % 2 ^ (32 - s)) := by
 rw [pow32 hs, Nat.mul_comm x, Nat.mul_mod_mul_left]
theorem left_fit {x s cc : Nat} (hs : s < 32) (hc : cc < 2 ^ s) : (x * 2 ^ s) % 4294967296 + cc < 4294967296 := by
 rw [left_low hs]
 have h1 : x % 2 ^ (32 - s) < 2 ^ (32 - s) := Nat.mod_lt _ (Nat.pow_pos (by decide))
 have h2 : 2 ^ s * (x % 2 ^ (32 - s) + 1) ≤ 2 ^ s * 2 ^ (32 - s) := Nat.mul_le_mul_left _ h1
 rw [← pow32 hs, Nat.mul_add, Nat.mul_one] at h2
 omega
theorem left_low_mod {x s : Nat} (hs : s < 32) : (x * 2 ^ s) % 4294967296 % 2 ^ s = 0 := by
 rw [left_low hs, Nat.mul_mod_right]
theorem left_carry {x s : Nat} (hx : x < 4294967296) : x * 2 ^ s / 4294967296 < 2 ^ s := by
 rw [Nat.div_lt_iff_lt_mul (by omega), Nat.mul_comm]
 exact Nat.mul_lt_mul_of_pos_left hx (Nat.pow_pos (by decide))
theorem left_round {X R : List Nat} {j cc x s : Nat} (hj : R.length = j) (h : val R + 4294967296 ^ j * cc = val (X.take j) * 2 ^ s) (hx : X[j]?.getD 0 = x) :
  val (R ++ [(x * 2 ^ s) % 4294967296 + cc]) + 4294967296 ^ (j + 1) * (x * 2 ^ s / 4294967296) = val (X.take (j + 1)) * 2 ^ s := by
 rw [val_append, val_one, hj, val_take_succ', hx, Nat.add_mul, ← h, Nat.pow_succ, Nat.mul_assoc, Nat.mul_assoc]
 have h1 : x * 2 ^ s = (x * 2 ^ s) % 4294967296 + 4294967296 * (x * 2 ^ s / 4294967296) := by omega
 generalize (x * 2 ^ s) % 4294967296 = r at *
 generalize x * 2 ^ s / 4294967296 = q at *
 rw [h1, Nat.mul_add, Nat.mul_add]
 omega
theorem mul_pow_lt {x s : Nat} (hx : x < 4294967296) (hs : s < 32) : x * 2 ^ s < 9223372036854775808 := by
 have h1 : 2 ^ s ≤ 2 ^ 31 := Nat.pow_le_pow_right (by decide) (by omega)
 have h2 : x * 2 ^ s ≤ x * 2 ^ 31 := Nat.mul_le_mul_left _ h1
 have e : (2 : Nat) ^ 31 = 2147483648 := by decide
 rw [e] at h2
 omega
theorem pow_s_le {s : Nat} (hs : s < 32) : 2 ^ s ≤ 2147483648 := by
 have h1 : 2 ^ s ≤ 2 ^ 31 := Nat.pow_le_pow_right (by decide) (by omega)
 have e : (2 : Nat) ^ 31 = 2147483648 := by decide
 omega
theorem right_limb {x y z s : Nat} (hs : s < 32) : (x + 4294967296 * y) / 2 ^ s % 4294967296 = (x + 4294967296 * (y + 4294967296 * z)) / 2 ^ s % 4294967296 := by
 have e : x + 4294967296 * (y + 4294967296 * z) = x + 4294967296 * y + 2 ^ s * (2 ^ (32 - s) * z * 4294967296) := by
  rw [Nat.mul_add, ← Nat.mul_assoc (2 ^ s), ← Nat.mul_assoc (2 ^ s), ← pow32 hs]
  omega
 rw [e, Nat.add_mul_div_left _ _ (Nat.pow_pos (by decide)), Nat.add_mul_mod_self_right]
def rights (s : Nat) (l : List Nat) : Nat → List Nat
 | 0 => []
 | i + 1 => rights s l i ++ [((l[i]?.getD 0) + 4294967296 * (l[i + 1]?.getD 0)) / 2 ^ s % 4294967296]
theorem length_rights (s : Nat) (l : List Nat) (i : Nat) : (rights s l i).length = i := by
 induction i with
 | zero => rfl
 | succ i ih => rw [rights, List.length_append, ih]; rfl
theorem small_rights (s : Nat) (l : List Nat) (i : Nat) : Small (rights s l i) := by
 induction i with
 | zero => exact small_nil
 | succ i ih => exact ih.append (small_cons (Nat.mod_lt _ (by decide)) small_nil)
theorem val_drop' (l : List Nat) (i : Nat) : val (l.drop i) = l[i]?.getD 0 + 4294967296 * val (l.drop (i + 1)) := by
 by_cases h : i < l.length
 ·exact val_drop h
 ·rw [List.drop_of_length_le (by omega), List.drop_of_length_le (by omega), List.getElem?_eq_none (by omega)]; rfl
theorem val_drop_div {l : List Nat} (hl : Small l) (i : Nat) : val (l.drop i) = val l / 4294967296 ^ i := by
 induction i with
 | zero => simp
 | succ i ih =>
  have h1 := val_drop' l i
  have h2 := hl.get i
  rw [Nat.pow_succ, ← Nat.div_div_eq_div_mul, ← ih, h1]
  omega
theorem val_rights {l : List Nat} (hl : Small l) {s : Nat} (hs : s < 32) (i : Nat) : val (rights s l i) = val l / 2 ^ s % 4294967296 ^ i := by
 induction i with
 | zero => simp [rights, val, Nat.mod_one]
 | succ i ih =>
  rw [rights, val_append, length_rights, val_one, ih]
  have e : ((l[i]?.getD 0) + 4294967296 * (l[i + 1]?.getD 0)) / 2 ^ s % 4294967296 = val l / 2 ^ s / 4294967296 ^ i % 4294967296 := by
   rw [right_limb (z := val (l.drop (i + 1 + 1))) hs, ← val_drop', ← val_drop', val_drop_div hl, Nat.div_div_eq_div_mul, Nat.div_div_eq_div_mul, Nat.mul_comm]
  rw [e, Nat.mod_pow_succ]
theorem rights_end {l : List Nat} (hl : Small l) {s k : Nat} (hs : s < 32) (hk : l.length ≤ k) : val (rights s l k) = val l / 2 ^ s := by
 rw [val_rights hl hs, Nat.mod_eq_of_lt]
 have h1 := val_lt hl
 have h2 : 4294967296 ^ l.length ≤ 4294967296 ^ k := Nat.pow_le_pow_right (by decide) hk
 have h3 := Nat.div_le_self (val l) (2 ^ s)
 omega
theorem rights_fill (s : Nat) (l : List Nat) (k m : Nat) (h : k < m) :
  (rights s l k ++ List.replicate (m - k) 0).set k (((l[k]?.getD 0) + 4294967296 * (l[k + 1]?.getD 0)) / 2 ^ s % 4294967296) = rights s l (k + 1) ++ List.replicate (m - (k + 1)) 0 := by
 have e : m - k = (m - (k + 1)) + 1 := by omega
 rw [List.set_append_right _ _ (by rw [length_rights]; omega), length_rights, Nat.sub_self, e, List.replicate_succ, List.set_cons_zero, rights, List.append_assoc]
 rfl
def blenF : Nat → Nat → Nat
 | 0, _ => 0
 | k + 1, n => if n = 0 then 0 else blenF k (n / 2) + 1
def blen (n : Nat) : Nat := blenF n n
theorem blenF_eq : ∀ (k m n : Nat), n ≤ k → n ≤ m → blenF k n = blenF m n := by
 intro k
 induction k with
 | zero => intro m n h _; obtain rfl : n = 0 := by omega
           cases m <;> simp [blenF]
 | succ k ih =>
  intro m n h hm
  cases m with
  | zero => obtain rfl : n = 0 := by omega
            simp [blenF]
  | succ m =>
   simp only [blenF]
   split
   ·rfl
   ·rw [ih m (n / 2) (by omega) (by omega)]
theorem blen_zero : blen 0 = 0 := rfl
theorem blen_pos {n : Nat} (h : 0 < n) : blen n = blen (n / 2) + 1 := by
 unfold blen
 cases n with
 | zero => omega
 | succ k => rw [blenF, if_neg (by omega), blenF_eq k ((k + 1) / 2) _ (by omega) (by omega)]
theorem lt_pow_blen (n : Nat) : n < 2 ^ blen n := by
 induction n using Nat.strongRecOn with
 | _ n ih =>
  cases Nat.eq_zero_or_pos n with
  | inl h => subst h; decide
  | inr hp => rw [blen_pos hp, Nat.pow_succ]; have := ih (n / 2) (by omega); omega
theorem pow_blen_le {n : Nat} (h : 0 < n) : 2 ^ (blen n - 1) ≤ n := by
 induction n using Nat.strongRecOn with
 | _ n ih =>
  rw [blen_pos h, Nat.add_sub_cancel]
  cases Nat.eq_zero_or_pos (n / 2) with
  | inl h0 => rw [h0, blen_zero]; simp; omega
  | inr hp =>
   have h1 := ih _ (by omega) hp
   rw [blen_pos hp, Nat.add_sub_cancel] at h1
   rw [blen_pos hp, Nat.pow_succ]
   omega
theorem blen_le_of_lt {n k : Nat} (h : n < 2 ^ k) : blen n ≤ k := by
 cases Nat.eq_zero_or_pos n with
 | inl h0 => subst h0; simp [blen_zero]
 | inr hp =>
  have h1 := pow_blen_le hp
  have h3 : blen n - 1 < k := (Nat.pow_lt_pow_iff_right (by omega)).1 (Nat.lt_of_le_of_lt h1 h)
  omega
theorem blen_shift {n : Nat} (k : Nat) (h : 2 ^ k ≤ n) : blen n = k + blen (n / 2 ^ k) := by
 induction k with
 | zero => simp
 | succ k ih =>
  have e : 2 ^ k ≤ n := by rw [Nat.pow_succ] at h; omega
  have h2 : 0 < n / 2 ^ k := Nat.div_pos e (Nat.pow_pos (by decide))
  rw [ih e, blen_pos h2, Nat.div_div_eq_div_mul, Nat.pow_succ]
  omega
theorem limbs_inj {m n : Nat} (h : limbs m = limbs n) : m = n := by
 have := congrArg val h
 rwa [val_limbs, val_limbs] at this
end Go.Proofs.YtbhenelehhiakaaGreat
namespace Go.Proofs.YtbhenelehhiakaaGreat
open Go.RowKit
structure Cel (B : Nat) (w : World) (b o : Nat) (v : Value) : Prop where
 ge : B ≤ b
 cell : w.cell? ⟨b, o, none⟩ = some v
 free : w.frozen? ⟨b, o, none⟩ = false
def Kept (B : Nat) (w w' : World) : Prop := ∀ b o v, Cel B w b o v → Cel B w' b o v
theorem Kept.refl (B : Nat) (w : World) : Kept B w w := fun _ _ _ h => h
theorem Kept.trans {B : Nat} {a b c : World} (h : Kept B a b) (k : Kept B b c) : Kept B a c := fun x o v hx => k x o v (h x o v hx)
theorem Kept.mono {B B' : Nat} {a b : World} (h : Kept B a b) (hB : B ≤ B') : Kept B' a b := fun x o v hx => by
 obtain ⟨h1, h2, h3⟩ := h x o v ⟨Nat.le_trans hB hx.ge, hx.cell, hx.free⟩
 exact ⟨hx.ge, h2, h3⟩
structure Rd (α : Type) where
 size : Nat
 ok : Nat → World → List Value → α → Prop
 len : ∀ {B w cs x}, ok B w cs x → cs.length = size
 mono : ∀ {B B' w w' cs x}, ok B w cs x → B' ≤ B → Kept B w w' → ok B' w' cs x
structure Sl {α : Type} (r : Rd α) (B : Nat) (w : World) (a : Option Addr) (n c : Nat) (xs : List α) : Prop where
 len : xs.length = n
 cap : n ≤ c
 most : c ≤ 9223372036854775807
 nil : a = none → c = 0
 at_ : ∀ i (h : i < xs.length), ∃ b o cs, a = some ⟨b, o, none⟩ ∧ r.ok B w cs xs[i] ∧ ∀ j (hj : j < cs.length), Cel B w b (o + i * r.size + j) cs[j]
theorem Sl.mono {α : Type} {r : Rd α} {B B' : Nat} {w w' : World} {a : Option Addr} {n c : Nat} {xs : List α} (h : Sl r B w a n c xs) (hB : B' ≤ B) (hk : Kept B w w') : Sl r B' w' a n c xs :=
 ⟨h.len, h.cap, h.most, h.nil, fun i hi => by
  obtain ⟨b, o, cs, ha, hr, hc⟩ := h.at_ i hi
  refine ⟨b, o, cs, ha, r.mono hr hB hk, fun j hj => ?_⟩
  obtain ⟨h1, h2, h3⟩ := hk _ _ _ (hc j hj)
  exact ⟨Nat.le_trans hB h1, h2, h3⟩⟩
def Rd.u32 : Rd Nat where
 size := 1
 ok _ _ cs x := cs = [.int .u32 x] ∧ x < 4294967296
 len h := by rw [h.1]; rfl
 mono h _ _ := h
def Rd.int : Rd Int where
 size := 1
 ok _ _ cs x := cs = [.int .i64 x]
 len h := by rw [h]; rfl
 mono h _ _ := h
def Rd.bool : Rd Bool where
 size := 1
 ok _ _ cs x := cs = [.bool x]
 len h := by rw [h]; rfl
 mono h _ _ := h
def Rd.slice {α : Type} (r : Rd α) : Rd (List α) where
 size := 1
 ok B w cs xs := ∃ a n c, cs = [.slice a n c] ∧ Sl r B w a n c xs
 len h := by obtain ⟨a, n, c, h, _⟩ := h; rw [h]; rfl
 mono h hB hk := by
  obtain ⟨a, n, c, h, hs⟩ := h
  exact ⟨a, n, c, h, hs.mono hB hk⟩
def Rd.pair {α β : Type} (r : Rd α) (s : Rd β) : Rd (α × β) where
 size := r.size + s.size
 ok B w cs x := ∃ c1 c2, cs = c1 ++ c2 ∧ r.ok B w c1 x.1 ∧ s.ok B w c2 x.2
 len h := by obtain ⟨c1, c2, h, h1, h2⟩ := h; rw [h, List.length_append, r.len h1, s.len h2]
 mono h hB hk := by
  obtain ⟨c1, c2, h, h1, h2⟩ := h
  exact ⟨c1, c2, h, r.mono h1 hB hk, s.mono h2 hB hk⟩
abbrev Nt := List Nat
abbrev It := Bool × Nt
def rNat : Rd Nt := Rd.u32.slice
def rInt : Rd It := Rd.bool.pair rNat
def rInts : Rd (List It) := rInt.slice
theorem cel_lt {B : Nat} {w : World} {b o : Nat} {v : Value} (h : Cel B w b o v) : b < w.heap.size := by
 have := h.cell
 unfold World.cell? at this
 cases e : w.heap[b]? with
 | none => simp [e] at this
 | some x => exact (Array.getElem?_eq_some_iff.1 e).1
theorem kept_of_below {B n : Nat} {w w' : World} (h : Below n w w') (hn : w.heap.size ≤ n) : Kept B w w' := fun b o v hc => by
 have hb : b < n := Nat.lt_of_lt_of_le (cel_lt hc) hn
 exact ⟨hc.ge, (h.cell (p := ⟨b, o, none⟩) hb).trans hc.cell, (h.frozen (p := ⟨b, o, none⟩) hb).trans hc.free⟩
abbrev Ext (w w' : World) : Prop := Below w.heap.size w w'
theorem Ext.kept {B : Nat} {w w' : World} (h : Ext w w') : Kept B w w' := kept_of_below h (Nat.le_refl _)
theorem Ext.trans {a b c : World} (h : Ext a b) (k : Ext b c) : Ext a c := Below.trans h (k.mono h.size)
theorem Ext.refl (w : World) : Ext w w := Below.refl _ _
theorem Sl.ext {α : Type} {r : Rd α} {B B' : Nat} {w w' : World} {a : Option Addr} {n c : Nat} {xs : List α} (h : Sl r B w a n c xs) (hB : B' ≤ B) (hk : Ext w w') : Sl r B' w' a n c xs := h.mono hB hk.kept
abbrev NatS (B : Nat) (w : World) (a : Option Addr) (n c : Nat) (l : Nt) : Prop := Sl Rd.u32 B w a n c l
theorem NatS.small {B : Nat} {w : World} {a : Option Addr} {n c : Nat} {l : Nt} (h : NatS B w a n c l) : Small l := fun x hx => by
 obtain ⟨i, hi, rfl⟩ := List.getElem_of_mem hx
 obtain ⟨b, o, cs, _, hr, _⟩ := h.at_ i hi
 exact hr.2
theorem NatS.pos {B : Nat} {w : World} {a : Option Addr} {n c : Nat} {l : Nt} (h : NatS B w a n c l) (hn : 0 < n) : ∃ b o, a = some ⟨b, o, none⟩ ∧ B ≤ b ∧ b < w.heap.size ∧
  (∀ i, i < n → w.cell? ⟨b, o + i, none⟩ = some (.int .u32 ((l[i]?.getD 0 : Nat) : Int))) ∧ ∀ i, i < n → w.frozen? ⟨b, o + i, none⟩ = false := by
 obtain ⟨b, o, cs, ha, hr, hc⟩ := h.at_ 0 (by rw [h.len]; exact hn)
 have key : ∀ i, i < n → Cel B w b (o + i) (.int .u32 ((l[i]?.getD 0 : Nat) : Int)) := fun i hi => by
  obtain ⟨b', o', cs', ha', hr', hc'⟩ := h.at_ i (by rw [h.len]; exact hi)
  rw [ha] at ha'
  cases ha'
  obtain ⟨rfl, _⟩ := hr'
  have := hc' 0 (by simp)
  simpa [Rd.u32, List.getElem?_eq_getElem (show i < l.length by rw [h.len]; exact hi)] using this
 exact ⟨b, o, ha, (key 0 hn).ge, cel_lt (key 0 hn), fun i hi => (key i hi).cell, fun i hi => (key i hi).free⟩
theorem natS_mk {B : Nat} {w : World} {b o n c : Nat} {l : Nt} (hl : l.length = n) (hc : n ≤ c) (hm : c ≤ 9223372036854775807) (hs : Small l) (hB : B ≤ b)
  (h : ∀ i, i < n → w.cell? ⟨b, o + i, none⟩ = some (.int .u32 ((l[i]?.getD 0 : Nat) : Int))) (hf : ∀ i, i < n → w.frozen? ⟨b, o + i, none⟩ = false) : NatS B w (some ⟨b, o, none⟩) n c l :=
 ⟨hl, hc, hm, fun e => by (cases e), fun i hi => ⟨b, o, [.int .u32 (l[i] : Nat)], rfl, ⟨rfl, hs _ (List.getElem_mem hi)⟩, fun j hj => by
  obtain rfl : j = 0 := by simp at hj; omega
  have h1 := h i (by omega)
  rw [List.getElem?_eq_getElem hi] at h1
  exact ⟨hB, by simpa [Rd.u32] using h1, by simpa [Rd.u32] using hf i (by omega)⟩⟩⟩
theorem natS_nil (B : Nat) (w : World) : NatS B w none 0 0 [] := ⟨rfl, Nat.le_refl _, by omega, fun _ => rfl, fun i hi => absurd hi (by simp)⟩
theorem Sl.take {α : Type} {r : Rd α} {B : Nat} {w : World} {a : Option Addr} {n c : Nat} {l : List α} (h : Sl r B w a n c l) {k : Nat} (hk : k ≤ n) : Sl r B w a k c (l.take k) :=
 ⟨by rw [List.length_take, h.len]; omega, Nat.le_trans hk h.cap, h.most, h.nil, fun i hi => by
  have hi' : i < l.length := by rw [List.length_take] at hi; omega
  obtain ⟨b, o, cs, ha, hr, hc⟩ := h.at_ i hi'
  exact ⟨b, o, cs, ha, by rw [List.getElem_take]; exact hr, hc⟩⟩
def lenOf : Value → Nat | .slice _ k _ => k | _ => 0
def RNat (w : World) (x : Nat) (e : Ending) (w' : World) : Prop := ∃ a n c, e = .returned (.slice a n c) ∧ NatS w.heap.size w' a n c (limbs x) ∧ Ext w w'
def words (l : List Nat) : Array Value := (l.map fun x : Nat => Value.int .u32 (x : Int)).toArray
theorem words_get {l : List Nat} {i : Nat} (h : i < l.length) : (words l)[i]? = some (.int .u32 ((l[i]?.getD 0 : Nat) : Int)) := by
 simp [words, List.getElem?_eq_getElem h]
theorem words_size (l : List Nat) : (words l).size = l.length := by simp [words]
theorem words_set (l : List Nat) (i x : Nat) : (words l).setIfInBounds i (.int .u32 (x : Int)) = words (l.set i x) := by
 simp [words, List.map_set]
def Blk (w : World) (b : Nat) (t : TypeId) (c : Array Value) : Prop := w.heap[b]? = some (.cells c t (0, 0))
theorem Blk.cell {w : World} {b : Nat} {t : TypeId} {c : Array Value} (h : Blk w b t c) {i : Nat} {v : Value} (hv : c[i]? = some v) : w.cell? ⟨b, i, none⟩ = some v := by
 unfold Blk at h
 simp [World.cell?, h, hv]
theorem Blk.free {w : World} {b : Nat} {t : TypeId} {c : Array Value} (h : Blk w b t c) (i : Nat) : w.frozen? ⟨b, i, none⟩ = false := by
 unfold Blk at h
 simp [World.frozen?, h]
theorem Blk.lt {w : World} {b : Nat} {t : TypeId} {c : Array Value} (h : Blk w b t c) : b < w.heap.size := (Array.getElem?_eq_some_iff.1 h).1
theorem Blk.new (w : World) (t : TypeId) (c : Array Value) : Blk (w.alloc (.cells c t)) w.heap.size t c := by
 show (w.heap.push _)[w.heap.size]? = _
 rw [Array.getElem?_push, if_pos rfl]
theorem Blk.set {w : World} {b : Nat} {t : TypeId} {c : Array Value} (h : Blk w b t c) (i : Nat) (v : Value) : Blk (w.setCell ⟨b, i, none⟩ v) b t (c.setIfInBounds i v) := by
 unfold Blk at *
 show (w.heap.modify b _)[b]? = _
 rw [Array.getElem?_modify, if_pos rfl, h]
 rfl
theorem Blk.below {w w' : World} {b n : Nat} {t : TypeId} {c : Array Value} (h : Blk w b t c) (k : Below n w w') (hb : b < n) : Blk w' b t c := (k.block b hb).trans h
theorem Blk.ext {w w' : World} {b : Nat} {t : TypeId} {c : Array Value} (h : Blk w b t c) (k : Ext w w') : Blk w' b t c := h.below k h.lt
theorem Blk.word {w : World} {b : Nat} {t : TypeId} {l : List Nat} (h : Blk w b t (words l)) {i : Nat} (hi : i < l.length) : w.cell? ⟨b, i, none⟩ = some (.int .u32 ((l[i]?.getD 0 : Nat) : Int)) := h.cell (words_get hi)
theorem Blk.nat {B : Nat} {w : World} {b c : Nat} {t : TypeId} {l : List Nat} (h : Blk w b t (words l)) (hB : B ≤ b) (hs : Small l) (n : Nat) (hn : n ≤ l.length) (hc : n ≤ c) (hm : c ≤ 9223372036854775807) : NatS B w (some ⟨b, 0, none⟩) n c (l.take n) :=
 natS_mk (by rw [List.length_take]; omega) hc hm (hs.take n) hB (fun i hi => by
  rw [List.getElem?_take_of_lt hi]
  simpa using h.word (i := i) (by omega)) (fun i _ => by simpa using h.free i)
theorem make_words {P : Program} {t e : TypeId} (ht : P.underlying t = some (.slice e)) (hi : (P.info? e).map (fun i => (i.zero, i.size, i.bytes)) = some (some (.int .u32 0), 1, 4)) (n : Nat) (m : Nat) (hn : n ≤ m) (hm : m ≤ 70368744177664) (w : World) :
  (Instr.makeSlice t (.int .i64 (n : Int)) (.int .i64 (m : Int))).run P w = .ok (.slice (some ⟨w.heap.size, 0, none⟩) n m) (w.alloc (.cells (words (List.replicate m 0)) e)) := by
 obtain ⟨i0, h1, h2, h3, h4⟩ := info_parts hi
 have := run_make (P := P) w t e i0 _ ht h1 h2 .i64 .i64 (n : Int) (m : Int) (by omega) (by omega) (by rw [h4]; omega) (by omega)
 rw [this]
 have e1 : madeCells (Value.int .u32 0).cells ((m : Int).toNat * i0.size) = words (List.replicate m 0) := by
  rw [h3]
  apply Array.ext
  ·simp [madeCells, words]
  ·intro j h1 h2
   simp [madeCells, words, Value.cells, Nat.mod_one]
 rw [e1]
 simp
theorem cell_alloc {w : World} {a : Addr} {v : Value} (h : w.cell? a = some v) (o : Obj) : (w.alloc o).cell? a = some v := by
 rw [World.cell?_alloc_lt _ _ _ (World.block_lt_of_cell? w a h), h]
def Enters (P : Program) (f : Nat) : Prop := ∀ args w, (callFunc f args).run P w = .ok (.enter f args) w
theorem enters_mk {P : Program} {f : FuncId} {fn : Func} (hf : P.funcs[f]? = some fn) (hname : (fn.name == "runtime.NumGoroutine") = false) (hb : fn.body.isSome = true) : Enters P f := fun args w => by
 obtain ⟨c, hb⟩ := Option.isSome_iff_exists.1 hb
 have h1 : fn.name ≠ "runtime.NumGoroutine" := by simpa using hname
 simp [callFunc, hf, h1, hb]
theorem wpList_copy_words {P : Program} {w : World} {ops : Array Oper} {rest : List Oper} {o : Oper} {a : Act} {Q : Exit → Act → World → Prop} (hgd : o.guard = none) (d s : Operand) (T E : TypeId)
  (ho : o.op = .call { callee := .builtin .copy, args := #[d, s], argTypes := #[T, T] }) (hu : P.underlying T = some (.slice E)) (hsz : (P.info? E).map (·.size) = some 1)
  (g b off k c : Nat) (sc : Nat) (l : List Nat) (hd : a.eval d = .slice (some ⟨g, 0, none⟩) k c) (hs : a.eval s = .slice (some ⟨b, off, none⟩) k sc)
  (hg : Blk w g E (words (List.replicate k 0))) (hl : Hid (l.length = k)) (hc : ∀ i, i < k → w.cell? ⟨b, off + i, none⟩ = some (.int .u32 ((l[i]?.getD 0 : Nat) : Int)))
  (B : Nat) (w0 : World) (hb : Below B w0 w) (hBg : B ≤ g)
  (h : ∀ w', Hid (Blk w' g E (words l)) → Below B w0 w' → wpList P ops Q rest (a.put o.dst (goInt k)) w') : wpList P ops Q (o :: rest) a w := by
 have hl' := hl.out
 refine wpList_copy_splice hgd d s T T ho E hu hsz (some ⟨g, 0, none⟩) (some ⟨b, off, none⟩) k c k sc hd hs g 0 ((List.replicate k 0).map fun x : Nat => Value.int .u32 (x : Int)) E hg (l.map fun x : Nat => Value.int .u32 (x : Int)) (by simp [hl']) ?_ (by simp [hl']) (by simp [Value.oneCell']) B w0 hb hBg ?_
 ·intro _
  refine ⟨rfl, ⟨b, off, none⟩, rfl, fun j v hj => ?_⟩
  rw [List.getElem?_map] at hj
  cases e : l[j]? with
  | none => rw [e] at hj; cases hj
  | some x =>
   rw [e] at hj
   cases hj
   have := hc j (by have := (List.getElem?_eq_some_iff.1 e).1; omega)
   rw [e] at this
   by_cases hj0 : j = 0
   ·subst hj0; simpa [Addr.add] using this
   ·simpa [Addr.add, hj0] using this
 ·intro w' h1 h2
  have e : splice ((List.replicate k 0).map fun x : Nat => Value.int .u32 (x : Int)) 0 (l.map fun x : Nat => Value.int .u32 (x : Int)) = l.map fun x : Nat => Value.int .u32 (x : Int) := by
   simp [splice, hl']
  have h3 := h1.out
  rw [e] at h3
  have := h w' h3 h2
  simpa [hl'] using this
end Go.Proofs.YtbhenelehhiakaaGreat
namespace Go.Proofs.YtbhenelehhiakaaGreat
open Go.RowKit
theorem trim_val {l : List Nat} {k : Nat} (hk : k < l.length) (h0 : l[k]?.getD 0 = 0) : val (l.take (k + 1)) = val (l.take k) := by
 rw [val_take_succ hk, h0, Nat.mul_zero, Nat.add_zero]
set_option maxHeartbeats 400000 in
theorem trim_pos (B : Nat) (w : World) (b o n c : Nat) (l : Nt) (h : NatS B w (some ⟨b, o, none⟩) n c l) (hn : 0 < n) :
  Calls Tryz.prog 138 #[.slice (some ⟨b, o, none⟩) n c] w fun e w' => ∃ k, e = .returned (.slice (some ⟨b, o, none⟩) k c) ∧ (k ≤ n ∧ l.take k = limbs (val l)) ∧ w = w' := by
 obtain ⟨b', o', ha, hB, hb, hc, hf⟩ := h.pos hn
 cases ha
 have hlen := h.len
 have hcap := h.cap
 have hmost := h.most
 have hsm := h.small
 have hc0 : ¬ c = 0 := by omega
 have HL := Lib.hid hlen; clear hlen h
 go_enter Tryz.func138, Tryz.ntmps138
 go_wp2
 go_loop [0] (fun s => ∃ k : Nat, k ≤ n ∧ s = .slice (some ⟨b, o, none⟩) k c ∧ Hid (val (l.take k) = val l)) (fun s => lenOf s)
 case atStart => exact ⟨n, Nat.le_refl _, rfl, by rw [List.take_of_length_le (by rw [HL.out]; omega)]; exact Lib.hid rfl⟩
 case round =>
  obtain ⟨k, hk, rfl, hv⟩ := hrel
  by_cases h0 : k = 0
  ·subst h0
   have hz : l.take 0 = limbs (val l) := by rw [← hv.out]; rfl
   have HZ := Lib.hid hz; clear hz
   go_wp2
   go_ret
   exact ⟨0, rfl, ⟨Nat.zero_le _, HZ.out⟩, rfl⟩
  ·obtain ⟨j, rfl⟩ : ∃ j, k = j + 1 := ⟨k - 1, by omega⟩
   have hcj := hc j (by omega)
   by_cases hz : l[j]?.getD 0 = 0
   ·have hv2 := trim_val (by rw [HL.out]; omega) hz
    rw [hv.out] at hv2
    have HV := Lib.hid hv2.symm; clear hv2
    rw [hz] at hcj
    go_wp2
    go_round
    case rel => exact ⟨j, by omega, rfl, HV⟩
    case measure => simp [lenOf]
   ·have hz' : (((l[j]?.getD 0 : Nat) : Int) == 0) = false := by simpa using hz
    have hz2 : l.take (j + 1) = limbs (val l) := by
     rw [← hv.out]
     have hj : j < l.length := by rw [HL.out]; omega
     refine (limbs_of_val (hsm.take _) (Or.inr ?_)).symm
     rw [List.length_take, Nat.min_eq_left (by omega), Nat.add_sub_cancel, List.getElem?_take_of_lt (by omega)]
     exact hz
    have HZ := Lib.hid hz2; clear hz2 hz
    go_wp2
    go_ret
    exact ⟨j + 1, rfl, ⟨hk, HZ.out⟩, rfl⟩
theorem trim_all (B : Nat) (w : World) (a : Option Addr) (n c : Nat) (l : Nt) (h : NatS B w a n c l) :
  Calls Tryz.prog 138 #[.slice a n c] w fun e w' => ∃ k, e = .returned (.slice a k c) ∧ (k ≤ n ∧ ∀ B' w'', NatS B' w'' a n c l → NatS B' w'' a k c (limbs (val l))) ∧ w = w' := by
 by_cases hn : 0 < n
 ·obtain ⟨b, o, rfl, _⟩ := h.pos hn
  refine (trim_pos B w b o n c l h hn).mono ?_
  rintro e w' ⟨k, rfl, ⟨hk, ht⟩, rfl⟩
  exact ⟨k, rfl, ⟨hk, fun B' w'' h' => by rw [← ht]; exact h'.take hk⟩, rfl⟩
 ·obtain rfl : n = 0 := by omega
  have hl : l = [] := List.eq_nil_of_length_eq_zero h.len
  subst hl
  go_enter Tryz.func138, Tryz.ntmps138
  go_wp2
  go_loop [0] (fun s => s = .slice a 0 c) (fun s => lenOf s)
  case atStart => rfl
  case round =>
   subst hrel
   go_wp2
   go_ret
   exact ⟨0, rfl, ⟨by omega, fun _ _ h' => h'⟩, rfl⟩
theorem trim_any (B : Nat) (w : World) (a : Option Addr) (n c : Nat) (l : Nt) (h : NatS B w a n c l) :
  Calls Tryz.prog 138 #[.slice a n c] w fun e w' => ∃ k, e = .returned (.slice a k c) ∧ NatS B w a k c (limbs (val l)) ∧ w = w' :=
 (trim_all B w a n c l h).mono fun _ _ ⟨k, h1, h2, h3⟩ => ⟨k, h1, h2.2 _ _ h, h3⟩
theorem info_u32 : (Tryz.prog.info? 126).map (fun i => (i.zero, i.size, i.bytes)) = some (some (.int .u32 0), 1, 4) := by kernel_rfl
theorem under_nat : Tryz.prog.underlying 23 = some (.slice 126) := Tryz.underlying23
set_option maxHeartbeats 400000 in
theorem own_any (B : Nat) (w : World) (a : Option Addr) (n c : Nat) (l : Nt) (h : NatS B w a n c l) (hn : n ≤ 17592186044416) :
  Calls Tryz.prog 134 #[.slice a n c] w (RNat w (val l)) := by
 have hsm := h.small
 go_enter Tryz.func134, Tryz.ntmps134
 go_wp2_with fail
 refine (trim_any B w a n c l h).mono ?_
 rintro e w' ⟨k, rfl, hN, rfl⟩
 have hkn : k ≤ n := by have := hN.len; have := nl_val hsm; have := h.len; rw [length_limbs] at *; omega
 by_cases hk : k = 0
 ·subst hk
  have hl : limbs (val l) = [] := List.eq_nil_of_length_eq_zero hN.len
  have HL := Lib.hid hl; clear hl
  go_wp2_with fail
  go_ret
  exact ⟨none, 0, 0, rfl, by rw [HL.out]; exact natS_nil _ _, Ext.refl _⟩
 ·have hk' : (((k : Nat) : Int) == 0) = false := by simpa using hk
  have hmk := fun w => make_words under_nat info_u32 k k (Nat.le_refl _) (by omega) w
  obtain ⟨b, o, rfl, hBb, hb, hc, hf⟩ := hN.pos (by omega)
  have HL := Lib.hid hN.len
  have hsz := hN.cap
  clear h hN hf
  go_wp2_with (refine wpList_copy_words rfl (.tmp 12) (.tmp 13) 23 126 rfl under_nat (by kernel_rfl) w.heap.size b o k k c (limbs (val l)) rfl rfl (Blk.new _ _ _) HL (fun i hi => (cell_alloc (hc i hi) _)) w.heap.size w ((Below.refl _ _).alloc (Nat.le_refl _) _) (Nat.le_refl _) ?_; intro w1 hb1 hE1)
  go_ret
  exact ⟨some ⟨w.heap.size, 0, none⟩, k, k, rfl, by have := hb1.out.nat (Nat.le_refl _) (small_limbs _) k (by rw [HL.out]; omega) (Nat.le_refl _) (by omega); rwa [List.take_of_length_le (by rw [HL.out]; omega)] at this, hE1⟩
end Go.Proofs.YtbhenelehhiakaaGreat
namespace Go.Proofs.YtbhenelehhiakaaGreat
open Go.RowKit
set_option maxHeartbeats 400000 in
theorem natNorm_any (B : Nat) (w : World) (a : Option Addr) (n c : Nat) (l : Nt) (h : NatS B w a n c l) (hn : n ≤ 17592186044416) :
  Calls Tryz.prog 136 #[.slice a n c] w (RNat w (val l)) := by
 go_enter Tryz.func136, Tryz.ntmps136
 go_wp2_with fail
 refine (own_any B w a n c l h hn).mono ?_
 rintro e w1 ⟨a1, n1, c1, rfl, h1, hE⟩
 go_wp2_with fail
 go_ret
 exact ⟨a1, n1, c1, rfl, h1, hE⟩
set_option maxHeartbeats 400000 in
theorem natOf_any (x : Nat) (w : World) (hx : x < 18446744073709551616) :
  Calls Tryz.prog 107 #[.int .u64 (x : Int)] w (RNat w x) := by
 go_enter Tryz.func107, Tryz.ntmps107
 go_wp2_with fail
 refine (own_any w.heap.size _ (some ⟨w.heap.size, 0, none⟩) 2 2 [x % 4294967296, x / 4294967296] (Blk.nat (l := [x % 4294967296, x / 4294967296]) (Blk.new w 126 (words [x % 4294967296, x / 4294967296])) (Nat.le_refl _) (small_cons (by omega) (small_cons (by omega) small_nil)) 2 (Nat.le_refl _) (Nat.le_refl _) (by omega)) (by omega)).mono ?_
 rintro e w1 ⟨a1, n1, c1, rfl, h1, hE⟩
 have hv : val [x % 4294967296, x / 4294967296] = x := by simp [val]; omega
 rw [hv] at h1
 have hE1 : Ext w w1 := (((Below.refl _ w).alloc (Nat.le_refl _) _)).trans (hE.mono (by simp))
 clear hE hv
 go_wp2_with fail
 go_ret
 exact ⟨a1, n1, c1, rfl, h1.mono (by simp) (Kept.refl _ _), hE1⟩
def cmpI (m n : Nat) : Int := if m < n then -1 else if n < m then 1 else 0
theorem cmpI_lt {m m2 : Nat} (h : m < m2) : cmpI m m2 = -1 := by unfold cmpI; rw [if_pos h]
theorem cmpI_gt {m m2 : Nat} (h : m2 < m) : cmpI m m2 = 1 := by unfold cmpI; rw [if_neg (by omega), if_pos h]
theorem cmpI_eq {m m2 : Nat} (h : m = m2) : cmpI m m2 = 0 := by unfold cmpI; rw [if_neg (by omega), if_neg (by omega)]
set_option maxHeartbeats 400000 in
theorem cmp_aux (B : Nat) (w : World) (a a2 : Option Addr) (n c n2 c2 : Nat) (l l2 : Nt) (h : NatS B w a n c l) (h2 : NatS B w a2 n2 c2 l2) (m m2 : Nat) (hm : Hid (val l = m)) (hm2 : Hid (val l2 = m2)) :
  Calls Tryz.prog 140 #[.slice a n c, .slice a2 n2 c2] w fun e w' => e = .returned (.int .i64 (cmpI m m2)) ∧ Ext w w' := by
 go_enter Tryz.func140, Tryz.ntmps140
 go_wp2_with fail
 refine (trim_any B w a n c l h).mono ?_
 rintro e w' ⟨k, rfl, hN, rfl⟩
 go_wp2_with fail
 refine (trim_any B w a2 n2 c2 l2 h2).mono ?_
 rintro e w' ⟨k2, rfl, hN2, rfl⟩
 rw [hm.out] at hN
 rw [hm2.out] at hN2
 have hL := hN.len
 have hL2 := hN2.len
 have hmost := hN.most
 have hcap := hN.cap
 clear hm hm2 h h2
 by_cases hk : k = k2
 ·subst hk
  have hc : 0 < k → ∃ b o, a = some ⟨b, o, none⟩ ∧ ∃ b2 o2, a2 = some ⟨b2, o2, none⟩ := fun hk0 => by
   obtain ⟨b, o, h1, _⟩ := hN.pos hk0
   obtain ⟨b2, o2, h2, _⟩ := hN2.pos hk0
   exact ⟨b, o, h1, b2, o2, h2⟩
  have HL := Lib.hid hL; clear hL
  have HL2 := Lib.hid hL2; clear hL2
  by_cases hk0 : 0 < k
  ·obtain ⟨b, o, rfl, b2, o2, rfl⟩ := hc hk0
   obtain ⟨b', o', e1, _, hb1, hc1, _⟩ := hN.pos hk0
   cases e1
   obtain ⟨b', o', e1, _, hb2, hc2, _⟩ := hN2.pos hk0
   cases e1
   clear hc hN hN2
   have hs1 := small_limbs m
   have hs2 := small_limbs m2
   go_wp2_with fail
   go_loopw [5] (fun i wr => ∃ j : Nat, j ≤ k ∧ (∃ z : Int, i = .int .i64 z ∧ z = (j : Int) - 1) ∧ Hid ((limbs m).drop j = (limbs m2).drop j) ∧ Ext w wr) (fun i _ => (intOf i + 1).toNat)
   case atStart => exact ⟨k, Nat.le_refl _, ⟨_, rfl, rfl⟩, by rw [List.drop_of_length_le (by rw [HL.out]; omega), List.drop_of_length_le (by rw [HL2.out]; omega)]; exact Lib.hid rfl, Ext.refl _⟩
   case round =>
    obtain ⟨j, hj, ⟨z, rfl, hz⟩, hd, hE⟩ := hrel
    by_cases h0 : j = 0
    ·subst h0
     obtain rfl : z = -1 := by omega
     clear hz
     have hcm : cmpI m m2 = 0 := cmpI_eq (limbs_inj (by simpa using hd.out))
     have HC := Lib.hid hcm; clear hcm
     go_wp2_with fail
     go_ret
     exact ⟨by rw [HC.out]; rfl, hE⟩
    ·obtain ⟨i, rfl⟩ : ∃ i, j = i + 1 := ⟨j - 1, by omega⟩
     obtain rfl : z = (i : Int) := by omega
     clear hz
     have hx1 := (hE.cell (p := ⟨b, o + i, none⟩) hb1).trans (hc1 i (by omega))
     have hx2 := (hE.cell (p := ⟨b2, o2 + i, none⟩) hb2).trans (hc2 i (by omega))
     have hik : (i : Int) < k := by omega
     have hi1 : i < (limbs m).length := by rw [HL.out]; omega
     have hi2 : i < (limbs m2).length := by rw [HL2.out]; omega
     have key := val_lt_at hs1 hi1 hi2 hd.out
     have key2 := val_lt_at hs2 hi2 hi1 hd.out.symm
     have key3 := drop_eq_step hi1 hi2 hd.out
     rw [val_limbs, val_limbs] at key key2
     generalize (limbs m)[i]?.getD 0 = x at *
     generalize (limbs m2)[i]?.getD 0 = y at *
     clear hc1 hc2 hi1 hi2
     by_cases hxy : x = y
     ·subst hxy
      have K3 := Lib.hid (key3 rfl); clear key key2 key3
      go_wp2_with fail
      go_quiet (fail)
      go_wp2_with fail
      go_roundw
      case rel => exact ⟨i, by omega, ⟨_, rfl, rfl⟩, K3, below_drewN hE _⟩
      case measure => simp [intOf]
     ·have hne : ((x : Int) != (y : Int)) = true := by simp; omega
      by_cases hlt : x < y
      ·have hlt' : decide ((x : Int) < (y : Int)) = true := by simp; omega
       have HC := Lib.hid (cmpI_lt (key hlt)); clear key key2 key3
       go_wp2_with fail
       go_quiet (fail)
       go_wp2_with fail
       go_quiet (fail)
       go_wp2_with fail
       go_ret
       exact ⟨by rw [HC.out]; rfl, below_drewN (below_drewN hE _) _⟩
      ·have hlt' : decide ((x : Int) < (y : Int)) = false := by simp; omega
       have HC := Lib.hid (cmpI_gt (key2 (by omega))); clear key key2 key3
       go_wp2_with fail
       go_quiet (fail)
       go_wp2_with fail
       go_quiet (fail)
       go_wp2_with fail
       go_ret
       exact ⟨by rw [HC.out]; rfl, below_drewN (below_drewN hE _) _⟩
  ·obtain rfl : k = 0 := by omega
   have hcm : cmpI m m2 = 0 := cmpI_eq (limbs_inj (by rw [List.eq_nil_of_length_eq_zero HL.out, List.eq_nil_of_length_eq_zero HL2.out]))
   have HC := Lib.hid hcm; clear hcm hc hN hN2
   go_wp2_with fail
   go_loop [5] (fun i => i = .int .i64 (-1)) (fun i => 0)
   case atStart => rfl
   case round =>
    subst hrel
    go_wp2_with fail
    go_ret
    exact ⟨by rw [HC.out]; rfl, Ext.refl _⟩
 ·have hk' : (((k : Nat) : Int) == (k2 : Int)) = false := by simp; omega
  have hkn : (((k : Nat) : Int) != (k2 : Int)) = true := by simp; omega
  have hlt : k < k2 → m < m2 := fun h => lt_of_nl_lt (by unfold nl; omega)
  have hgt : k2 < k → m2 < m := fun h => lt_of_nl_lt (by unfold nl; omega)
  by_cases hl : k < k2
  ·have HC := Lib.hid (cmpI_lt (hlt hl))
   go_wp2_with fail
   go_ret
   exact ⟨by rw [HC.out]; rfl, Ext.refl _⟩
  ·have HC := Lib.hid (cmpI_gt (hgt (by omega)))
   go_wp2_with fail
   go_ret
   exact ⟨by rw [HC.out]; rfl, Ext.refl _⟩
theorem cmp_any (B : Nat) (w : World) (a a2 : Option Addr) (n c n2 c2 : Nat) (l l2 : Nt) (h : NatS B w a n c l) (h2 : NatS B w a2 n2 c2 l2) :
  Calls Tryz.prog 140 #[.slice a n c, .slice a2 n2 c2] w fun e w' => e = .returned (.int .i64 (cmpI (val l) (val l2))) ∧ Ext w w' :=
 cmp_aux B w a a2 n c n2 c2 l l2 h h2 _ _ (Lib.hid rfl) (Lib.hid rfl)
end Go.Proofs.YtbhenelehhiakaaGreat
namespace Go.Proofs.YtbhenelehhiakaaGreat
open Go.RowKit
theorem top_bit {n : Nat} (h : n < 4294967296) : n / 2147483648 = (n.testBit 31).toNat := by
 rw [Nat.testBit_eq_decide_div_mod_eq]
 have e : (2 : Nat) ^ 31 = 2147483648 := by decide
 rw [e]
 by_cases h1 : n / 2147483648 % 2 = 1
 ·rw [decide_eq_true h1]; simp; omega
 ·rw [decide_eq_false h1]; simp; omega
theorem testBit31 {n : Nat} (h : n < 4294967296) : n.testBit 31 = decide (2147483648 ≤ n) := by
 rw [Nat.testBit_eq_decide_div_mod_eq]
 have e : (2 : Nat) ^ 31 = 2147483648 := by decide
 rw [e, decide_eq_decide]
 omega
theorem borrow_nat (x y s d : Nat) (hx : x < 4294967296) (hy : y < 4294967296) (hs : s ≤ 1) (hd : d < 4294967296) (h : d + y + s = x + 4294967296 * (if x < y + s then 1 else 0)) :
  (((4294967295 ^^^ x) &&& y) ||| ((4294967295 ^^^ (x ^^^ y)) &&& d)) / 2147483648 = if x < y + s then 1 else 0 := by
 have e2 : (4294967296 : Nat) = 2 ^ 32 := by decide
 have hl : (((4294967295 ^^^ x) &&& y) ||| ((4294967295 ^^^ (x ^^^ y)) &&& d)) < 4294967296 := by
  rw [e2] at *
  exact Nat.or_lt_two_pow (Nat.and_lt_two_pow _ hy) (Nat.and_lt_two_pow _ hd)
 rw [top_bit hl]
 simp only [Nat.testBit_or, Nat.testBit_and, Nat.testBit_xor]
 rw [testBit31 hx, testBit31 hy, testBit31 hd, testBit31 (by decide : 4294967295 < 4294967296)]
 split at h
 ·rename_i hc
  rw [if_pos hc]
  by_cases h1 : 2147483648 ≤ x <;> by_cases h2 : 2147483648 ≤ y <;> by_cases h3 : 2147483648 ≤ d <;> simp [h1, h2, h3] <;> omega
 ·rename_i hc
  rw [if_neg hc]
  by_cases h1 : 2147483648 ≤ x <;> by_cases h2 : 2147483648 ≤ y <;> by_cases h3 : 2147483648 ≤ d <;> simp [h1, h2, h3] <;> omega
theorem sub_int (x y s : Nat) (hx : x < 4294967296) (hy : y < 4294967296) (hs : s ≤ 1) : ((x : Int) - y - s) % 4294967296 = ((subOut s x y : Nat) : Int) := by
 unfold subOut
 have e : (((x + 4294967296 - y - s) % 4294967296 : Nat) : Int) = ((x : Int) + 4294967296 - y - s) % 4294967296 := by omega
 rw [e]
 omega
theorem borrow_bits (x y s : Nat) (hx : x < 4294967296) (hy : y < 4294967296) (hs : s ≤ 1) :
  bits BinOp.or IntKind.u32 (bits BinOp.and IntKind.u32 (bits BinOp.xor IntKind.u32 IntKind.u32.max (x : Int)) (y : Int))
   (bits BinOp.and IntKind.u32 (bits BinOp.xor IntKind.u32 IntKind.u32.max (bits BinOp.xor IntKind.u32 (x : Int) (y : Int))) (((x : Int) - y - s) % 4294967296)) / 2147483648 = ((subNxt s x y : Nat) : Int) := by
 have hd : subOut s x y < 4294967296 := Nat.mod_lt _ (by decide)
 have hm : IntKind.u32.max = ((4294967295 : Nat) : Int) := by decide
 have e2 : (4294967296 : Nat) = 2 ^ 32 := by decide
 have hmx : 4294967295 ^^^ x < 4294967296 := by rw [e2] at *; exact Nat.xor_lt_two_pow (by decide) hx
 have hxy : x ^^^ y < 4294967296 := by rw [e2] at *; exact Nat.xor_lt_two_pow hx hy
 have hmxy : 4294967295 ^^^ (x ^^^ y) < 4294967296 := by rw [e2] at *; exact Nat.xor_lt_two_pow (by decide) hxy
 have ha1 : (4294967295 ^^^ x) &&& y < 4294967296 := by rw [e2] at *; exact Nat.and_lt_two_pow _ hy
 have ha2 : (4294967295 ^^^ (x ^^^ y)) &&& subOut s x y < 4294967296 := by rw [e2] at *; exact Nat.and_lt_two_pow _ hd
 rw [sub_int x y s hx hy hs, hm, u32_xor_nat x y hx hy, u32_xor_nat 4294967295 x (by decide) hx, u32_xor_nat 4294967295 _ (by decide) hxy, u32_and_nat _ _ hmx hy, u32_and_nat _ _ hmxy hd, u32_or_nat _ _ ha1 ha2]
 have key := borrow_nat x y s (subOut s x y) hx hy hs hd (by unfold subOut; exact sub_limb _ x y s hx hy hs)
 unfold subNxt
 rw [← key]
 rfl
theorem wrap_shl {x s : Nat} (hx : x < 4294967296) (hs : s < 32) : IntKind.u64.wrap ((x : Int) * 2 ^ s) / 4294967296 % 4294967296 = ((x * 2 ^ s / 4294967296 : Nat) : Int) := by
 have h1 := mul_pow_lt hx hs
 have h2 := left_carry (s := s) hx
 have h3 := pow_s_le hs
 have e : (x : Int) * 2 ^ s = ((x * 2 ^ s : Nat) : Int) := by rw [Int.natCast_mul, Int.natCast_pow]; rfl
 have e2 : IntKind.u64.wrap ((x * 2 ^ s : Nat) : Int) = ((x * 2 ^ s : Nat) : Int) := by
  simp only [IntKind.wrap, IntKind.bits, IntKind.signed]
  generalize x * 2 ^ s = y at *
  simp
  omega
 rw [e, e2]
 generalize x * 2 ^ s = y at *
 omega
theorem wrap_u64_eq (n : Int) : IntKind.u64.wrap n = n % 18446744073709551616 := by simp [IntKind.wrap, IntKind.bits, IntKind.signed]
theorem wrap_sub_lo (u p s : Nat) (hu : u < 4294967296) (hp : p < 4294967296) (hs : s ≤ 1) : IntKind.u64.wrap (IntKind.u64.wrap ((u : Int) - (p : Int)) - (s : Int)) % 4294967296 = ((subOut s u p : Nat) : Int) := by
 rw [← sub_int u p s hu hp hs, wrap_u64_eq, wrap_u64_eq]
 omega
theorem wrap_sub_hi (u p s : Nat) (hu : u < 4294967296) (hp : p < 4294967296) (hs : s ≤ 1) : IntKind.u64.wrap (IntKind.u64.wrap ((u : Int) - (p : Int)) - (s : Int)) / 9223372036854775808 = ((subNxt s u p : Nat) : Int) := by
 unfold subNxt
 rw [wrap_u64_eq, wrap_u64_eq]
 split <;> omega
end Go.Proofs.YtbhenelehhiakaaGreat
namespace Go.Proofs.YtbhenelehhiakaaGreat
open Go.RowKit
theorem addOut_lt (s x y : Nat) : addOut s x y < 4294967296 := Nat.mod_lt _ (by decide)
theorem subOut_lt (s x y : Nat) : subOut s x y < 4294967296 := Nat.mod_lt _ (by decide)
theorem addNxt_le (s x y : Nat) (hx : x < 4294967296) (hy : y < 4294967296) (hs : s ≤ 1) : addNxt s x y ≤ 1 := by unfold addNxt; omega
theorem ret2_int {k k' : IntKind} {a b c d : Int} (h : a = b) (h' : c = d) : Ending.returned (.tuple #[.int k a, .int k' c]) = .returned (.tuple #[.int k b, .int k' d]) := by rw [h, h']
set_option maxHeartbeats 400000 in
theorem add32_any (x y s : Nat) (hx : x < 4294967296) (hy : y < 4294967296) (hs : s ≤ 1) (w : World) :
  Calls Tryz.prog 147 #[.int .u32 (x : Int), .int .u32 (y : Int), .int .u32 (s : Int)] w fun e w' => e = .returned (.tuple #[.int .u32 ((addOut s x y : Nat) : Int), .int .u32 ((addNxt s x y : Nat) : Int)]) ∧ w = w' := by
 go_enter Tryz.func147, Tryz.ntmps147
 go_wp2
 go_ret2
 exact ⟨ret2_int (by unfold addOut; omega) (by unfold addNxt; omega), rfl⟩
set_option maxHeartbeats 400000 in
theorem sub32_any (x y s : Nat) (hx : x < 4294967296) (hy : y < 4294967296) (hs : s ≤ 1) (w : World) :
  Calls Tryz.prog 169 #[.int .u32 (x : Int), .int .u32 (y : Int), .int .u32 (s : Int)] w fun e w' => e = .returned (.tuple #[.int .u32 ((subOut s x y : Nat) : Int), .int .u32 ((subNxt s x y : Nat) : Int)]) ∧ w = w' := by
 go_enter Tryz.func169, Tryz.ntmps169
 go_wp2
 go_ret2
 exact ⟨ret2_int (sub_int x y s hx hy hs) (borrow_bits x y s hx hy hs), rfl⟩
def StepOf (P : Program) (f : Nat) (E : TypeId) (out nxt : Nat → Nat → Nat → Nat) : Prop :=
 ∀ (x y s cb : Nat) (w : World), x < 4294967296 → y < 4294967296 → s ≤ 1 → Blk w cb E (words [s]) →
  Calls P f #[.int .u32 (x : Int), .int .u32 (y : Int), .pointer (some ⟨cb, 0, none⟩)] w fun e w' => e = .returned (.int .u32 ((out s x y : Nat) : Int)) ∧ Blk w' cb E (words [nxt s x y]) ∧ w.grownBy w' (some cb)
theorem grownBy_trans {w w1 w2 : World} {r : Option Nat} (h : w.grownBy w1 r) (k : w1.grownBy w2 r) : w.grownBy w2 r :=
 ⟨k.os.trans h.os, k.tape.trans h.tape, k.output.trans h.output, Nat.le_trans h.size k.size, fun i hi hr => (k.block i (Nat.lt_of_lt_of_le hi h.size) hr).trans (h.block i hi hr)⟩
theorem Blk.grown {w w' : World} {b : Nat} {t : TypeId} {c : Array Value} {r : Option Nat} (h : Blk w b t c) (k : w.grownBy w' r) (hr : some b ≠ r) : Blk w' b t c := (k.block b h.lt hr).trans h
theorem grownBy_new_set {w w1 : World} {r : Option Nat} (h : w.grownBy w1 r) (b i : Nat) (v : Value) (hb : w.heap.size ≤ b) : w.grownBy (w1.setCell ⟨b, i, none⟩ v) r :=
 ⟨h.os, h.tape, h.output, by have := h.size; simp [World.setCell]; omega, fun k hk hr => (Below.heap_setCell _ _ _ _ (fun e => by simp at e; omega)).trans (h.block k hk hr)⟩
theorem grownBy_setCell (w : World) (b i : Nat) (v : Value) : w.grownBy (w.setCell ⟨b, i, none⟩ v) (some b) :=
 ⟨rfl, rfl, rfl, by simp [World.setCell], fun k _ hk => Below.heap_setCell _ _ _ _ (fun e => hk (by rw [e]))⟩
set_option maxHeartbeats 400000 in
theorem add1_any : StepOf Tryz.prog 146 126 addOut addNxt := by
 intro x y s cb w hx hy hs hb
 have hc : w.cell? ⟨cb, 0, none⟩ = some (.int .u32 (s : Int)) := hb.word (l := [s]) (i := 0) (by simp)
 have hf := hb.free 0
 have hlt := hb.lt
 go_enter Tryz.func146, Tryz.ntmps146
 go_wp2_with fail
 refine (add32_any x y s hx hy hs _).mono ?_
 rintro e w' ⟨rfl, rfl⟩
 go_wp2_with fail
 go_ret
 exact ⟨rfl, by have := hb.set 0 (.int .u32 ((addNxt s x y : Nat) : Int)); rw [words_set] at this; exact this, grownBy_setCell _ _ _ _⟩
set_option maxHeartbeats 400000 in
theorem less1_any : StepOf Tryz.prog 168 126 subOut subNxt := by
 intro x y s cb w hx hy hs hb
 have hc : w.cell? ⟨cb, 0, none⟩ = some (.int .u32 (s : Int)) := hb.word (l := [s]) (i := 0) (by simp)
 have hf := hb.free 0
 have hlt := hb.lt
 go_enter Tryz.func168, Tryz.ntmps168
 go_wp2_with fail
 refine (sub32_any x y s hx hy hs _).mono ?_
 rintro e w' ⟨rfl, rfl⟩
 go_wp2_with fail
 go_ret
 exact ⟨rfl, by have := hb.set 0 (.int .u32 ((subNxt s x y : Nat) : Int)); rw [words_set] at this; exact this, grownBy_setCell _ _ _ _⟩
set_option maxRecDepth 100000 in
set_option maxHeartbeats 1000000 in
theorem each_any (f : Nat) (out nxt : Nat → Nat → Nat → Nat) (hnxt : ∀ s x y, x < 4294967296 → y < 4294967296 → s ≤ 1 → nxt s x y ≤ 1) (hen : Enters Tryz.prog f) (hst : Hid (StepOf Tryz.prog f 126 out nxt))
  (B : Nat) (w0 w : World) (a a2 : Option Addr) (n c n2 c2 : Nat) (l l2 : Nt) (h : NatS B w0 a n c l) (h2 : NatS B w0 a2 n2 c2 l2) (hw0 : Below w0.heap.size w0 w) (cb : Nat) (hcb0 : w0.heap.size ≤ cb) (hcb : Blk w cb 126 (words [0])) (m : Nat) (hm : m = max n n2) (hsz : m ≤ 17592186044416) :
  Calls Tryz.prog 145 #[.slice a n c, .slice a2 n2 c2, .func (.func f) #[] #[.pointer (some ⟨cb, 0, none⟩)]] w fun e w' => e = .returned (.slice (some ⟨w.heap.size, 0, none⟩) m (m + 1)) ∧
   Blk w' w.heap.size 126 (words (outs out nxt 0 l l2 m ++ [0])) ∧ Blk w' cb 126 (words [stp nxt 0 l l2 m]) ∧ w.grownBy w' (some cb) := by
 have hen' : ∀ args w, (callFunc f args).run Tryz.prog w = .ok (.enter f args) w := hen
 clear hen
 have hmx : ∀ ts t w, (Builtin.max_ ts t #[.int .i64 (n : Int), .int .i64 (n2 : Int)]).run Tryz.prog w = .ok (.int .i64 (m : Int)) w := fun ts t w => by
  rw [run_max_int2]
  have e : (if (n2 : Int) > (n : Int) then (n2 : Int) else n) = (m : Int) := by split <;> omega
  rw [e]
 have hmk := fun w => make_words under_nat info_u32 m (m + 1) (by omega) (by omega) w
 have e1 : (((m + 1 : Nat) : Int)) = (m : Int) + 1 := by omega
 rw [e1] at hmk
 have HM := Lib.hid hm; clear hm
 clear e1
 go_enter Tryz.func145, Tryz.ntmps145
 go_wp2_with fail
 have hcbl := hcb.lt
 have hw0s := hw0.size
 have hlen := Lib.hid h.len
 have hlen2 := Lib.hid h2.len
 have hsm := h.small
 have hsm2 := h2.small
 go_loopw [23] (fun i wr => ∃ k : Nat, k ≤ m ∧ i = .int .i64 (k : Int) ∧ Hid (Blk wr w.heap.size 126 (words (outs out nxt 0 l l2 k ++ List.replicate (m + 1 - k) 0)) ∧ Blk wr cb 126 (words [stp nxt 0 l l2 k]) ∧ stp nxt 0 l l2 k ≤ 1) ∧ Hid (w.grownBy wr (some cb)) ∧ Hid (Below w0.heap.size w0 wr)) (fun i _ => m - (intOf i).toNat)
 case atStart =>
  exact ⟨0, Nat.zero_le _, rfl, Lib.hid ⟨Blk.new _ _ _, hcb.ext ((Below.refl _ _).alloc (Nat.le_refl _) _), Nat.zero_le _⟩, Lib.hid (World.grownBy_alloc _ _ _), Lib.hid (hw0.alloc hw0s _)⟩
 case round =>
  obtain ⟨k, hk, rfl, hb, hg, hB0⟩ := hrel
  by_cases hkm : k < m
  ·have hx := hsm.get k
   have hy := hsm2.get k
   have hbb := hb.out
   have hlt1 : w.heap.size < wr.heap.size := hbb.1.lt
   have hcall := Lib.hid (fun (w1 : World) (h1 : Blk w1 cb 126 (words [stp nxt 0 l l2 k])) => hst.out (l[k]?.getD 0) (l2[k]?.getD 0) (stp nxt 0 l l2 k) cb w1 hx hy hbb.2.2 h1)
   have hfill := Lib.hid (outs_fill out nxt 0 l l2 k (m + 1) (by omega))
   have hstp : Hid (stp nxt 0 l l2 (k + 1) = nxt (stp nxt 0 l l2 k) (l[k]?.getD 0) (l2[k]?.getD 0)) := Lib.hid rfl
   have hnx := hnxt (stp nxt 0 l l2 k) (l[k]?.getD 0) (l2[k]?.getD 0) hx hy hbb.2.2
   have hL : (words (outs out nxt 0 l l2 k ++ List.replicate (m + 1 - k) 0)).size = m + 1 := by rw [words_size, List.length_append, length_outs, List.length_replicate]; omega
   have hcx : k < n → ∃ b o, a = some ⟨b, o, none⟩ ∧ wr.cell? ⟨b, o + k, none⟩ = some (.int .u32 ((l[k]?.getD 0 : Nat) : Int)) := fun hkn => by
    obtain ⟨b, o, h1, _, h3, h4, _⟩ := h.pos (by omega)
    exact ⟨b, o, h1, (hB0.out.cell (p := ⟨b, o + k, none⟩) h3).trans (h4 k hkn)⟩
   have hcy : k < n2 → ∃ b o, a2 = some ⟨b, o, none⟩ ∧ wr.cell? ⟨b, o + k, none⟩ = some (.int .u32 ((l2[k]?.getD 0 : Nat) : Int)) := fun hkn => by
    obtain ⟨b, o, h1, _, h3, h4, _⟩ := h2.pos (by omega)
    exact ⟨b, o, h1, (hB0.out.cell (p := ⟨b, o + k, none⟩) h3).trans (h4 k hkn)⟩
   have hx0 : ¬ k < n → l[k]?.getD 0 = 0 := fun hkn => by rw [List.getElem?_eq_none (by rw [hlen.out]; omega)]; rfl
   have hy0 : ¬ k < n2 → l2[k]?.getD 0 = 0 := fun hkn => by rw [List.getElem?_eq_none (by rw [hlen2.out]; omega)]; rfl
   generalize stp nxt 0 l l2 k = s at *
   generalize hL1 : outs out nxt 0 l l2 k ++ List.replicate (m + 1 - k) 0 = L at *
   clear hL1
   generalize l[k]?.getD 0 = x at *
   generalize l2[k]?.getD 0 = y at *
   have hcell : ∀ w1 : World, Blk w1 w.heap.size 126 (words L) → w1.cell? ⟨w.heap.size, k, none⟩ = some (.int .u32 ((L[k]?.getD 0 : Nat) : Int)) ∧ w1.frozen? ⟨w.heap.size, k, none⟩ = false := fun w1 h1 =>
    ⟨h1.word (by rw [words_size] at hL; omega), h1.free k⟩
   have HC := Lib.hid hcell
   have hcb' : w0.heap.size ≤ cb := hcb0
   have fin : ∀ w1 : World, Blk w1 w.heap.size 126 (words L) → Blk w1 cb 126 (words [nxt s x y]) → wr.grownBy w1 (some cb) →
     ∃ j : Nat, j ≤ m ∧ Value.int .i64 ((k : Int) + 1) = .int .i64 (j : Int) ∧ Hid (Blk (w1.setCell ⟨w.heap.size, k, none⟩ (.int .u32 ((out s x y : Nat) : Int))) w.heap.size 126 (words (outs out nxt 0 l l2 j ++ List.replicate (m + 1 - j) 0)) ∧ Blk (w1.setCell ⟨w.heap.size, k, none⟩ (.int .u32 ((out s x y : Nat) : Int))) cb 126 (words [stp nxt 0 l l2 j]) ∧ stp nxt 0 l l2 j ≤ 1) ∧ Hid (w.grownBy (w1.setCell ⟨w.heap.size, k, none⟩ (.int .u32 ((out s x y : Nat) : Int))) (some cb)) ∧ Hid (Below w0.heap.size w0 (w1.setCell ⟨w.heap.size, k, none⟩ (.int .u32 ((out s x y : Nat) : Int)))) := fun w1 h1 h2 h3 => by
    refine ⟨k + 1, by omega, by go_num, Lib.hid ⟨?_, ?_, ?_⟩, Lib.hid ?_, Lib.hid ?_⟩
    ·have := h1.set k (.int .u32 ((out s x y : Nat) : Int))
     rw [words_set, hfill.out] at this
     exact this
    ·rw [hstp.out]
     exact h2.below ((Below.refl w.heap.size w1).setCell (p := ⟨w.heap.size, k, none⟩) (Nat.le_refl _) _) hcbl
    ·rw [hstp.out]; exact hnx
    ·exact grownBy_new_set (grownBy_trans hg.out h3) _ _ _ (Nat.le_refl _)
    ·exact (hB0.out.grown h3 hB0.out.size (fun j e => by cases e; exact hcb')).setCell (by show w0.heap.size ≤ w.heap.size; omega) _
   clear hL hcell hnx
   by_cases hkn : k < n
   ·obtain ⟨b, o, rfl, hcx⟩ := hcx hkn
    by_cases hkn2 : k < n2
    ·obtain ⟨b2, o2, rfl, hcy⟩ := hcy hkn2
     clear hx0 hy0
     go_wp2_with fail
     refine (hcall.out wr hbb.2.1).mono ?_
     rintro e w1 ⟨rfl, hb1, hg1⟩
     obtain ⟨hcl, hfr⟩ := HC.out w1 (hbb.1.grown hg1 (by simp; omega))
     have HB1 := Lib.hid (hbb.1.grown hg1 (by simp; omega))
     have HG1 := Lib.hid hg1
     have HBc := Lib.hid hb1
     clear hb1 hg1
     go_wp2_with fail
     go_roundw
     case rel => exact fin w1 HB1.out HBc.out HG1.out
     case measure => simp [intOf]; omega
    ·obtain rfl := hy0 hkn2
     clear hx0 hy0 hcy
     go_wp2_with fail
     refine (hcall.out wr hbb.2.1).mono ?_
     rintro e w1 ⟨rfl, hb1, hg1⟩
     obtain ⟨hcl, hfr⟩ := HC.out w1 (hbb.1.grown hg1 (by simp; omega))
     have HB1 := Lib.hid (hbb.1.grown hg1 (by simp; omega))
     have HG1 := Lib.hid hg1
     have HBc := Lib.hid hb1
     clear hb1 hg1
     go_wp2_with fail
     go_roundw
     case rel => exact fin w1 HB1.out HBc.out HG1.out
     case measure => simp [intOf]; omega
   ·obtain rfl := hx0 hkn
    clear hx0 hcx
    by_cases hkn2 : k < n2
    ·obtain ⟨b2, o2, rfl, hcy⟩ := hcy hkn2
     clear hy0
     go_wp2_with fail
     refine (hcall.out wr hbb.2.1).mono ?_
     rintro e w1 ⟨rfl, hb1, hg1⟩
     obtain ⟨hcl, hfr⟩ := HC.out w1 (hbb.1.grown hg1 (by simp; omega))
     have HB1 := Lib.hid (hbb.1.grown hg1 (by simp; omega))
     have HG1 := Lib.hid hg1
     have HBc := Lib.hid hb1
     clear hb1 hg1
     go_wp2_with fail
     go_roundw
     case rel => exact fin w1 HB1.out HBc.out HG1.out
     case measure => simp [intOf]; omega
    ·exact absurd HM.out (by omega)
  ·obtain rfl : k = m := by omega
   go_wp2_with fail
   go_ret
   exact ⟨rfl, by have := hb.out.1; rwa [show k + 1 - k = 1 from by omega] at this, hb.out.2.1, hg.out⟩
theorem natS_of_owns {w : World} {base g n c : Nat} {E : TypeId} {l : List Nat} (h : w.ownsRow base E 1 (.slice (some ⟨g, 0, none⟩) n c) n (l.map fun x : Nat => Value.int .u32 (x : Int))) (hs : Small l) : NatS base w (some ⟨g, 0, none⟩) n c l := by
 obtain ⟨h1, h2⟩ := h
 rcases h2 with ⟨h2, _⟩ | ⟨g', cap, cur, h2, h3, h4, h5, h6, h7, h8⟩
 ·cases h2
 ·cases h2
  have hl : l.length = n := by simpa using h1
  have hb : Blk w g E cur := h4
  have hcell : ∀ i, i < n → cur[i]? = some (.int .u32 ((l[i]?.getD 0 : Nat) : Int)) := fun i hi => by
   have e : (cur.toList.take (n * 1))[i]? = cur[i]? := by
    rw [List.getElem?_take_of_lt (by omega)]; simp
   rw [← e, h8, List.getElem?_map, List.getElem?_eq_getElem (by omega)]
   rfl
  refine natS_mk hl h5 (by unfold maxLen at h6; omega) hs h3 (fun i hi => ?_) (fun i hi => ?_)
  ·simpa using hb.cell (hcell i hi)
  ·simpa using hb.free i
theorem owns_of_blk {w : World} {base b n c : Nat} {E : TypeId} {l m : List Nat} (h : Blk w b E (words (l ++ m))) (hb : base ≤ b) (hl : l.length = n) (hc : (l ++ m).length = c) (hm : c ≤ 9223372036854775807) : w.ownsRow base E 1 (.slice (some ⟨b, 0, none⟩) n c) n (l.map fun x : Nat => Value.int .u32 (x : Int)) := by
 refine ⟨by simp [hl], Or.inr ⟨b, c, words (l ++ m), rfl, hb, h, by rw [← hl, ← hc, List.length_append]; omega, by unfold maxLen; omega, by rw [words_size, hc]; omega, ?_⟩⟩
 rw [Nat.mul_one, ← hl]
 simp [words]
theorem RNat.intro {w w' : World} {x n c : Nat} {a : Option Addr} (h : NatS w.heap.size w' a n c (limbs x)) (hE : Ext w w') : RNat w x (.returned (.slice a n c)) w' := ⟨a, n, c, rfl, h, hE⟩
theorem below_of_grown {w w' : World} {r : Option Nat} {n : Nat} (h : w.grownBy w' r) (hn : n ≤ w.heap.size) (hr : ∀ k, r = some k → n ≤ k) : Below n w w' := (Below.refl n w).grown h hn hr
end Go.Proofs.YtbhenelehhiakaaGreat
namespace Go.Proofs.YtbhenelehhiakaaGreat
open Go.RowKit
theorem add_end (x y m : Nat) (h1 : (limbs x).length ≤ m) (h2 : (limbs y).length ≤ m) : val (outs addOut addNxt 0 (limbs x) (limbs y) m ++ [stp addNxt 0 (limbs x) (limbs y) m]) = x + y := by
 have h := add_outs (limbs x) (limbs y) 0 m
 rw [List.take_of_length_le h1, List.take_of_length_le h2, val_limbs, val_limbs] at h
 rw [val_append, length_outs, val_one]
 omega
theorem stp_add_le {l l2 : List Nat} (hl : Small l) (hl2 : Small l2) (k : Nat) : stp addNxt 0 l l2 k ≤ 1 := by
 induction k with
 | zero => exact Nat.zero_le _
 | succ k ih => exact addNxt_le _ _ _ (hl.get k) (hl2.get k) ih
set_option maxRecDepth 100000 in
set_option maxHeartbeats 400000 in
theorem natAdd_aux (B : Nat) (w : World) (a a2 : Option Addr) (n c n2 c2 : Nat) (l l2 : Nt) (h : NatS B w a n c l) (h2 : NatS B w a2 n2 c2 l2) (hn : n ≤ 8796093022208) (hn2 : n2 ≤ 8796093022208) (x y : Nat) (hx : Hid (val l = x)) (hy : Hid (val l2 = y)) :
  Calls Tryz.prog 127 #[.slice a n c, .slice a2 n2 c2] w (RNat w (x + y)) := by
 have hen : Enters Tryz.prog 146 := enters_mk Tryz.func146 (by kernel_rfl) rfl
 obtain ⟨i0, hi, hz0, hz1, hz2⟩ := info_parts info_u32
 have hE0 : Ext w (w.alloc (.cells #[.int .u32 0] 126)) := (Below.refl _ w).alloc (Nat.le_refl _) _
 go_enter Tryz.func127, Tryz.ntmps127
 go_wp2_with fail
 refine (trim_all B _ a n c l (h.ext (Nat.le_refl _) hE0)).mono ?_
 rintro e w1 ⟨k, rfl, ⟨hk, hN⟩, rfl⟩
 go_wp2_with fail
 refine (trim_all B _ a2 n2 c2 l2 (h2.ext (Nat.le_refl _) hE0)).mono ?_
 rintro e w1 ⟨k2, rfl, ⟨hk2, hN2⟩, rfl⟩
 have hN := hN _ _ h
 have hN2 := hN2 _ _ h2
 rw [hx.out] at hN
 rw [hy.out] at hN2
 have hl1 := hN.len
 have hl2 := hN2.len
 have hend := Lib.hid (add_end x y (max k k2) (by omega) (by omega))
 have hsl := stp_add_le (small_limbs x) (small_limbs y) (max k k2)
 have hm : max k k2 ≤ 8796093022208 := by omega
 go_wp2_with fail
 refine (each_any 146 addOut addNxt addNxt_le hen (Lib.hid add1_any) B w _ a a2 k c k2 c2 _ _ hN hN2 hE0 w.heap.size (Nat.le_refl _) (Blk.new _ _ _) (max k k2) rfl (by omega)).mono ?_
 rintro e w1 ⟨rfl, hb1, hb2, hg⟩
 have hL := length_outs addOut addNxt 0 (limbs x) (limbs y) (max k k2)
 have hS := small_outs addOut addNxt 0 (limbs x) (limbs y) addOut_lt (max k k2)
 generalize hm' : max k k2 = m at *
 generalize hL' : outs addOut addNxt 0 (limbs x) (limbs y) m = L at *
 generalize hs' : stp addNxt 0 (limbs x) (limbs y) m = s at *
 clear hm' hL' hs' hN hN2 hl1 hl2 h h2
 have hLl := Lib.hid hL
 have hsz := hb1.lt
 have hsz2 := hb2.lt
 have hcs : w1.cell? ⟨w.heap.size, 0, none⟩ = some (.int .u32 (s : Int)) := hb2.word (l := [s]) (i := 0) (by simp)
 simp only [World.size_alloc] at hsz hb1
 have hown := owns_of_blk (base := w.heap.size) (n := m) (c := m + 1) hb1 (by omega) hL (by simp [hL]) (by omega)
 have HOWN := Lib.hid hown
 have HG := Lib.hid hg
 clear hown hb1 hb2 hg hL
 go_wp2_with (refine wpList_append_fits _ rfl (.tmp 13) (.tmp 15) 23 rfl w.heap.size 126 i0 1 under_nat hi hz1 (w.heap.size + 1) m (m + 1) _ rfl (HOWN.out.alloc _) ⟨w1.heap.size, 0, none⟩ 1 1 [.int .u32 (s : Int)] rfl rfl (cell_one_new _ _ _) (by simp [Value.oneCell']) (Nat.le_refl _) ?_; intro w2 hown2 hgrow2)
 have hN2 : NatS w.heap.size w2 (some ⟨w.heap.size + 1, 0, none⟩) (m + 1) (m + 1) (L ++ [s]) := natS_of_owns (by rw [List.map_append]; exact hown2) (hS.append (small_cons (by omega) small_nil))
 have hE1 : Ext w w1 := Below.trans hE0 (below_of_grown HG.out (by simp) (fun j e => by cases e; exact Nat.le_refl _))
 have hE2 : Ext w w2 := (hE1.alloc hE1.size _).grown hgrow2 (by have := hE1.size; simp; omega) (fun j e => by cases e; omega)
 refine (own_any w.heap.size w2 _ (m + 1) (m + 1) (L ++ [s]) hN2 (by omega)).mono ?_
 rintro e w3 ⟨a3, n3, c3, rfl, h3, hE3⟩
 rw [hend.out] at h3
 have HF := Lib.hid (RNat.intro (h3.mono hE2.size (Kept.refl _ _)) (hE2.trans hE3))
 clear h3 hE3 hE2 hE1 hE0 hN2 hown2 hgrow2
 go_wp2_with fail
 go_ret
 exact HF.out
theorem natAdd_any (B : Nat) (w : World) (a a2 : Option Addr) (n c n2 c2 : Nat) (l l2 : Nt) (h : NatS B w a n c l) (h2 : NatS B w a2 n2 c2 l2) (hn : n ≤ 8796093022208) (hn2 : n2 ≤ 8796093022208) :
  Calls Tryz.prog 127 #[.slice a n c, .slice a2 n2 c2] w (RNat w (val l + val l2)) := natAdd_aux B w a a2 n c n2 c2 l l2 h h2 hn hn2 _ _ (Lib.hid rfl) (Lib.hid rfl)
theorem subNxt_le1 (s x y : Nat) (_ : x < 4294967296) (_ : y < 4294967296) (_ : s ≤ 1) : subNxt s x y ≤ 1 := subNxt_le s x y
set_option maxRecDepth 100000 in
set_option maxHeartbeats 400000 in
theorem natLess_aux (B : Nat) (w : World) (a a2 : Option Addr) (n c n2 c2 : Nat) (l l2 : Nt) (h : NatS B w a n c l) (h2 : NatS B w a2 n2 c2 l2) (hn : n ≤ 8796093022208) (hn2 : n2 ≤ 8796093022208) (x y : Nat) (hx : Hid (val l = x)) (hy : Hid (val l2 = y)) (hxy : y ≤ x) :
  Calls Tryz.prog 161 #[.slice a n c, .slice a2 n2 c2] w (RNat w (x - y)) := by
 have hen : Enters Tryz.prog 168 := enters_mk Tryz.func168 (by kernel_rfl) rfl
 have hE0 : Ext w (w.alloc (.cells #[.int .u32 0] 126)) := (Below.refl _ w).alloc (Nat.le_refl _) _
 go_enter Tryz.func161, Tryz.ntmps161
 go_wp2_with fail
 refine (trim_all B _ a n c l (h.ext (Nat.le_refl _) hE0)).mono ?_
 rintro e w1 ⟨k, rfl, ⟨hk, hN⟩, rfl⟩
 go_wp2_with fail
 refine (trim_all B _ a2 n2 c2 l2 (h2.ext (Nat.le_refl _) hE0)).mono ?_
 rintro e w1 ⟨k2, rfl, ⟨hk2, hN2⟩, rfl⟩
 have hN := hN _ _ h
 have hN2 := hN2 _ _ h2
 rw [hx.out] at hN
 rw [hy.out] at hN2
 have hl1 := hN.len
 have hl2 := hN2.len
 have hend := Lib.hid (sub_end (small_limbs x) (small_limbs y) (by rw [val_limbs, val_limbs]; exact hxy) (max k k2) (by omega) (by omega))
 have hm : max k k2 ≤ 8796093022208 := by omega
 go_wp2_with fail
 refine (each_any 168 subOut subNxt subNxt_le1 hen (Lib.hid less1_any) B w _ a a2 k c k2 c2 _ _ hN hN2 hE0 w.heap.size (Nat.le_refl _) (Blk.new _ _ _) (max k k2) rfl (by omega)).mono ?_
 rintro e w1 ⟨rfl, hb1, hb2, hg⟩
 have hL := length_outs subOut subNxt 0 (limbs x) (limbs y) (max k k2)
 have hS := small_outs subOut subNxt 0 (limbs x) (limbs y) subOut_lt (max k k2)
 generalize hm' : max k k2 = m at *
 generalize hL' : outs subOut subNxt 0 (limbs x) (limbs y) m = L at *
 clear hm' hL' hN hN2 hl1 hl2 h h2 hb2
 have hsz := hb1.lt
 simp only [World.size_alloc] at hsz hb1
 have HB := Lib.hid hb1
 have HL := Lib.hid hL
 have HG := Lib.hid hg
 clear hL hb1 hg
 go_wp2_with fail
 have hN2 : NatS w.heap.size w1 (some ⟨w.heap.size + 1, 0, none⟩) m (m + 1) L := by
  have := HB.out.nat (B := w.heap.size) (by omega) (hS.append (small_cons (by omega) small_nil)) m (by rw [List.length_append, HL.out]; omega) (by omega) (c := m + 1) (by omega)
  rwa [List.take_append_of_le_length (by rw [HL.out]; omega), List.take_of_length_le (by rw [HL.out]; omega)] at this
 have hE1 : Ext w w1 := Below.trans hE0 (below_of_grown HG.out (by simp) (fun j e => by cases e; exact Nat.le_refl _))
 refine (own_any w.heap.size w1 _ m (m + 1) L hN2 (by omega)).mono ?_
 rintro e w3 ⟨a3, n3, c3, rfl, h3, hE3⟩
 rw [hend.out, val_limbs, val_limbs] at h3
 have HF := Lib.hid (RNat.intro (h3.mono hE1.size (Kept.refl _ _)) (hE1.trans hE3))
 clear h3 hE3 hE1 hE0 hN2
 go_wp2_with fail
 go_ret
 exact HF.out
set_option maxHeartbeats 400000 in
theorem natSub_aux (B : Nat) (w : World) (a a2 : Option Addr) (n c n2 c2 : Nat) (l l2 : Nt) (h : NatS B w a n c l) (h2 : NatS B w a2 n2 c2 l2) (hn : n ≤ 8796093022208) (hn2 : n2 ≤ 8796093022208) (x y : Nat) (hx : Hid (val l = x)) (hy : Hid (val l2 = y)) (hxy : y ≤ x) :
  Calls Tryz.prog 148 #[.slice a n c, .slice a2 n2 c2] w fun e w' => ∃ a' n' c', e = .returned (.tuple #[.slice a' n' c', .int .i64 0]) ∧ NatS w.heap.size w' a' n' c' (limbs (x - y)) ∧ Ext w w' := by
 have hc : decide (cmpI x y < 0) = false := by
  rw [decide_eq_false_iff_not]; unfold cmpI; rw [if_neg (by omega)]; split <;> omega
 generalize hz : cmpI x y = z at *
 go_enter Tryz.func148, Tryz.ntmps148
 go_wp2_with fail
 refine (cmp_aux B w a a2 n c n2 c2 l l2 h h2 x y hx hy).mono ?_
 rintro e w1 ⟨rfl, hE⟩
 rw [hz]
 go_wp2_with fail
 refine (natLess_aux B w1 a a2 n c n2 c2 l l2 (h.ext (Nat.le_refl _) hE) (h2.ext (Nat.le_refl _) hE) hn hn2 x y hx hy hxy).mono ?_
 rintro e w2 ⟨a3, n3, c3, rfl, h3, hE3⟩
 have HF := Lib.hid (h3.mono hE.size (Kept.refl _ _))
 have HE := Lib.hid (hE.trans hE3)
 clear h3 hE3 hE
 go_wp2_with fail
 go_ret2
 exact ⟨_, _, _, rfl, HF.out, HE.out⟩
end Go.Proofs.YtbhenelehhiakaaGreat
namespace Go.Proofs.YtbhenelehhiakaaGreat
open Go.RowKit
set_option maxRecDepth 100000 in
set_option maxHeartbeats 1000000 in
theorem natMul_aux (B : Nat) (w : World) (a a2 : Option Addr) (n c n2 c2 : Nat) (l l2 : Nt) (h : NatS B w a n c l) (h2 : NatS B w a2 n2 c2 l2) (hn : n ≤ 8796093022208) (hn2 : n2 ≤ 8796093022208) (x y : Nat) (hx : Hid (val l = x)) (hy : Hid (val l2 = y)) :
  Calls Tryz.prog 115 #[.slice a n c, .slice a2 n2 c2] w (RNat w (x * y)) := by
 go_enter Tryz.func115, Tryz.ntmps115
 go_wp2_with fail
 refine (trim_any B _ a n c l h).mono ?_
 rintro e w1 ⟨k, rfl, hN, rfl⟩
 go_wp2_with fail
 refine (trim_any B _ a2 n2 c2 l2 h2).mono ?_
 rintro e w1 ⟨k2, rfl, hN2, rfl⟩
 have hkn : k ≤ n := by have := hN.len; have := nl_val h.small; have := h.len; rw [length_limbs] at *; omega
 have hkn2 : k2 ≤ n2 := by have := hN2.len; have := nl_val h2.small; have := h2.len; rw [length_limbs] at *; omega
 rw [hx.out] at hN
 rw [hy.out] at hN2
 clear h h2 hx hy
 have HL := Lib.hid hN.len
 have HL2 := Lib.hid hN2.len
 by_cases hk0 : k = 0
 ·have hx0 : x = 0 := limbs_eq_nil.1 (List.eq_nil_of_length_eq_zero (by rw [HL.out]; exact hk0))
  subst hk0
  have HF := Lib.hid (RNat.intro (w := w) (w' := w) (x := x * y) (a := none) (c := 0) (n := 0) (by rw [hx0, Nat.zero_mul]; exact natS_nil _ _) (Ext.refl _))
  clear hx0
  go_wp2_with fail
  go_ret
  exact HF.out
 ·have hk0' : (((k : Nat) : Int) == 0) = false := by simpa using hk0
  by_cases hk20 : k2 = 0
  ·have hy0 : y = 0 := limbs_eq_nil.1 (List.eq_nil_of_length_eq_zero (by rw [HL2.out]; exact hk20))
   subst hk20
   have HF := Lib.hid (RNat.intro (w := w) (w' := w) (x := x * y) (a := none) (c := 0) (n := 0) (by rw [hy0, Nat.mul_zero]; exact natS_nil _ _) (Ext.refl _))
   clear hy0
   go_wp2_with fail
   go_ret
   exact HF.out
  ·have hk20' : (((k2 : Nat) : Int) == 0) = false := by simpa using hk20
   obtain ⟨b, o, rfl, _, hb1, hc1, _⟩ := hN.pos (by omega)
   obtain ⟨b2, o2, rfl, _, hb2, hc2, _⟩ := hN2.pos (by omega)
   have hmk := fun w => make_words under_nat info_u32 (k + k2) (k + k2) (Nat.le_refl _) (by omega) w
   rw [show (((k + k2 : Nat)) : Int) = (k : Int) + (k2 : Int) from by omega] at hmk
   clear hN hN2
   go_wp2_with fail
   have hst := Lib.hid (small_limbs x)
   have hst2 := Lib.hid (small_limbs y)
   go_loopw [32] (fun i wr => ∃ j : Nat, j ≤ k ∧ i = .int .i64 (j : Int) ∧ Hid (∃ O : List Nat, O.length = k + k2 ∧ Small O ∧ Blk wr w.heap.size 126 (words O) ∧ val O = val ((limbs x).take j) * y ∧ ∀ t, j + k2 ≤ t → O[t]?.getD 0 = 0) ∧ Hid (Ext w wr)) (fun i _ => k - (intOf i).toNat)
   case atStart =>
    refine ⟨0, Nat.zero_le _, rfl, Lib.hid ⟨List.replicate (k + k2) 0, by simp, small_replicate _, Blk.new _ _ _, by rw [val_replicate]; simp [val], fun t _ => ?_⟩, Lib.hid ((Below.refl _ _).alloc (Nat.le_refl _) _)⟩
    rw [List.getElem?_replicate]; split <;> rfl
   case round =>
    obtain ⟨j, hj, rfl, hO, hE⟩ := hrel
    by_cases hjk : j < k
    ·have hcx := (hE.out.cell (p := ⟨b, o + j, none⟩) hb1).trans (hc1 j hjk)
     have hxj := hst.out.get j
     have hXj : Hid ((limbs x)[j]?.getD 0 = (limbs x)[j]?.getD 0) := Lib.hid rfl
     generalize hxx : (limbs x)[j]?.getD 0 = xj at hcx hxj hXj
     have HX := Lib.hid hxx
     clear hxx hXj
     go_wp2_with fail
     obtain ⟨wo, rfl⟩ : ∃ wo : World, wo = wr := ⟨_, rfl⟩
     go_loopw [8, 39] (fun cs i wr => ∃ (j2 cc : Nat), j2 ≤ k2 ∧ i = .int .i64 (j2 : Int) ∧ cs = .int .u64 (cc : Int) ∧ cc < 4294967296 ∧ Hid (∃ O : List Nat, O.length = k + k2 ∧ Small O ∧ Blk wr w.heap.size 126 (words O) ∧ val O + 4294967296 ^ (j + j2) * cc = val ((limbs x).take j) * y + 4294967296 ^ j * (xj * val ((limbs y).take j2)) ∧ ∀ t, j + k2 ≤ t → O[t]?.getD 0 = 0) ∧ Hid (Ext w wr)) (fun _ i _ => k2 - (intOf i).toNat)
     case atStart =>
      obtain ⟨O, h1, h2, h3, h4, h5⟩ := hO.out
      exact ⟨0, 0, Nat.zero_le _, rfl, rfl, by omega, Lib.hid ⟨O, h1, h2, h3, by simp [h4, val], h5⟩, hE⟩
     case round =>
      obtain ⟨j2, cc, hj2, rfl, rfl, hcc, hO2, hE2⟩ := hrel
      clear hO hcx
      by_cases hj2k : j2 < k2
      ·have hcy := (hE2.out.cell (p := ⟨b2, o2 + j2, none⟩) hb2).trans (hc2 j2 hj2k)
       have hyj := hst2.out.get j2
       generalize hyy : (limbs y)[j2]?.getD 0 = yj at hcy hyj
       have HY := Lib.hid hyy
       clear hyy
       obtain ⟨O, h1, h2, h3, h4, h5⟩ := hO2.out
       have hco := h3.word (i := j + j2) (by omega)
       have hoj := h2.get (j + j2)
       have hfr := h3.free (j + j2)
       have hround := Lib.hid (mul_round (by omega) h4 HY.out)
       have hO5 := Lib.hid h5
       have hlen := Lib.hid h1
       have hsm := Lib.hid h2
       have hblk := Lib.hid h3
       have hwlt := h3.lt
       have hmul0 : 0 ≤ (xj : Int) * (yj : Int) := Int.mul_nonneg (by omega) (by omega)
       generalize hoo : O[j + j2]?.getD 0 = oo at *
       clear hoo
       have hbd := carry_lt hxj hyj hoj hcc
       have hmul1 : (xj : Int) * (yj : Int) + oo + cc < 18446744073709551616 := by have : ((xj * yj : Nat) : Int) = (xj : Int) * yj := Int.natCast_mul _ _; omega
       have hcast : Hid (∀ d : Int, ((xj : Int) * yj + oo + cc) % 4294967296 = (((xj * yj + oo + cc) % 4294967296 : Nat) : Int) ∧ ((xj : Int) * yj + oo + cc) / 4294967296 = (((xj * yj + oo + cc) / 4294967296 : Nat) : Int)) := Lib.hid fun _ => by
        have : ((xj * yj : Nat) : Int) = (xj : Int) * yj := Int.natCast_mul _ _
        omega
       have hdivlt : (xj * yj + oo + cc) / 4294967296 < 4294967296 := by omega
       clear h1 h2 h3 h4 h5 hO2 hbd
       go_wp2_with fail
       go_roundw
       case rel =>
        refine ⟨j2 + 1, _, by omega, by go_num, by rw [(hcast.out 0).2], hdivlt, Lib.hid ⟨O.set (j + j2) ((xj * yj + oo + cc) % 4294967296), by rw [List.length_set, hlen.out], hsm.out.set _ (Nat.mod_lt _ (by decide)), ?_, hround.out, fun t ht => ?_⟩, Lib.hid (hE2.out.setCell (Nat.le_refl _) _)⟩
        ·have := hblk.out.set (j + j2) (.int .u32 (((xj * yj + oo + cc) % 4294967296 : Nat) : Int))
         rw [words_set] at this
         rw [(hcast.out 0).1]
         exact this
        ·rw [get_set_ne (by omega)]; exact hO5.out t ht
       case measure => simp [intOf]; omega
      ·obtain rfl : j2 = k2 := by omega
       obtain ⟨O, h1, h2, h3, h4, h5⟩ := hO2.out
       have hco := h3.word (i := j + j2) (by omega)
       have hfr := h3.free (j + j2)
       have hend := Lib.hid (mul_end (X := limbs x) (by omega) HL2.out h4 (val_limbs y) HX.out (h5 _ (Nat.le_refl _)) rfl)
       have hO5 := Lib.hid h5
       have hlen := Lib.hid h1
       have hsm := Lib.hid h2
       have hblk := Lib.hid h3
       have hwlt := h3.lt
       clear h1 h2 h3 h4 h5 hO2
       go_wp2_with fail
       go_roundw
       case rel =>
        refine ⟨j + 1, by omega, by go_num, Lib.hid ⟨O.set (j + j2) cc, by rw [List.length_set, hlen.out], hsm.out.set _ hcc, ?_, hend.out, fun t ht => ?_⟩, Lib.hid (hE2.out.setCell (Nat.le_refl _) _)⟩
        ·have := hblk.out.set (j + j2) (.int .u32 (cc : Int))
         rw [words_set] at this
         exact this
        ·rw [get_set_ne (by omega)]; exact hO5.out t (by omega)
       case measure => simp [intOf]; omega
    ·obtain rfl : j = k := by omega
     obtain ⟨O, h1, h2, h3, h4, h5⟩ := hO.out
     rw [List.take_of_length_le (by rw [HL.out]; omega), val_limbs] at h4
     have hNO : NatS w.heap.size wr (some ⟨w.heap.size, 0, none⟩) (j + k2) (j + k2) O := by
      have := h3.nat (B := w.heap.size) (Nat.le_refl _) h2 (j + k2) (by omega) (Nat.le_refl _) (by omega)
      rwa [List.take_of_length_le (by omega)] at this
     have H4 := Lib.hid h4
     clear h1 h2 h3 h4 h5 hO
     go_wp2_with fail
     refine (own_any w.heap.size wr _ (j + k2) (j + k2) O hNO (by omega)).mono ?_
     rintro e w3 ⟨a3, n3, c3, rfl, h3, hE3⟩
     rw [H4.out] at h3
     have HF := Lib.hid (RNat.intro (h3.mono hE.out.size (Kept.refl _ _)) (Ext.trans hE.out hE3))
     clear h3 hE3 hNO
     go_wp2_with fail
     go_ret
     exact HF.out
theorem natMul_any (B : Nat) (w : World) (a a2 : Option Addr) (n c n2 c2 : Nat) (l l2 : Nt) (h : NatS B w a n c l) (h2 : NatS B w a2 n2 c2 l2) (hn : n ≤ 8796093022208) (hn2 : n2 ≤ 8796093022208) :
  Calls Tryz.prog 115 #[.slice a n c, .slice a2 n2 c2] w (RNat w (val l * val l2)) := natMul_aux B w a a2 n c n2 c2 l l2 h h2 hn hn2 _ _ (Lib.hid rfl) (Lib.hid rfl)
end Go.Proofs.YtbhenelehhiakaaGreat
namespace Go.Proofs.YtbhenelehhiakaaGreat
open Go.RowKit
theorem or_join (r x : Nat) (hr : r < 4294967296) (hx : x < 4294967296) : bits .or .u64 ((r : Int) * 4294967296) (x : Int) = ((r * 4294967296 + x : Nat) : Int) := by
 have e : ((r : Int) * 4294967296) = ((r * 4294967296 : Nat) : Int) := by omega
 rw [e, u64_or_nat _ _ (by omega) (by omega), nat_join 32 (r * 4294967296) x (by omega) (by omega)]
theorem emod_small {q : Nat} (h : q < 4294967296) : (q : Int) % 4294967296 = (q : Int) := by omega
set_option maxRecDepth 100000 in
set_option maxHeartbeats 1000000 in
theorem short_any (B : Nat) (w : World) (a : Option Addr) (n c : Nat) (l : Nt) (h : NatS B w a n c l) (hn : n ≤ 17592186044416) (d : Nat) (hd : 0 < d) (hd2 : d < 4294967296) :
  Calls Tryz.prog 155 #[.slice a n c, .int .u32 (d : Int)] w fun e w' => ∃ a' n' c', e = .returned (.tuple #[.slice a' n' c', .int .u32 ((val l % d : Nat) : Int)]) ∧ NatS w.heap.size w' a' n' c' (limbs (val l / d)) ∧ Ext w w' := by
 have hmk := fun w => make_words under_nat info_u32 n n (Nat.le_refl _) (by omega) w
 have hlen := Lib.hid h.len
 have hsm := Lib.hid h.small
 have hpos := Lib.hid h.pos
 clear h
 go_enter Tryz.func155, Tryz.ntmps155
 go_wp2_with fail
 go_loopw [7, 8] (fun r i wr => ∃ (j rr : Nat), j ≤ n ∧ (∃ z : Int, i = .int .i64 z ∧ z = (j : Int) - 1) ∧ r = .int .u64 (rr : Int) ∧ rr < d ∧ Hid (∃ Q : List Nat, Q.length + j = n ∧ Small Q ∧ Blk wr w.heap.size 126 (words (List.replicate j 0 ++ Q)) ∧ val Q * d + rr = val (l.drop j)) ∧ Hid (Ext w wr)) (fun _ i _ => (intOf i + 1).toNat)
 case atStart =>
  refine ⟨n, 0, Nat.le_refl _, ⟨_, rfl, rfl⟩, rfl, hd, Lib.hid ⟨[], by simp, small_nil, by rw [List.append_nil]; exact Blk.new _ _ _, ?_⟩, Lib.hid ((Below.refl _ _).alloc (Nat.le_refl _) _)⟩
  rw [List.drop_of_length_le (by rw [hlen.out]; omega)]; simp [val]
 case round =>
  obtain ⟨j, rr, hj, ⟨z, rfl, hz⟩, rfl, hrr, hQ, hE⟩ := hrel
  by_cases h0 : j = 0
  ·subst h0
   obtain rfl : z = -1 := by omega
   clear hz
   obtain ⟨Q, h1, h2, h3, h4⟩ := hQ.out
   rw [List.drop_zero] at h4
   have hq : val l / d = val Q ∧ val l % d = rr := by
    rw [← h4, Nat.mul_comm, Nat.add_comm]
    exact ⟨by rw [Nat.add_mul_div_left _ _ hd, Nat.div_eq_of_lt hrr, Nat.zero_add], by rw [Nat.add_mul_mod_self_left, Nat.mod_eq_of_lt hrr]⟩
   have HQ := Lib.hid hq
   have hNQ : NatS w.heap.size wr (some ⟨w.heap.size, 0, none⟩) n n Q := by
    have := h3.nat (B := w.heap.size) (Nat.le_refl _) (l := List.replicate 0 0 ++ Q) (by simpa using h2) n (by simp; omega) (Nat.le_refl _) (by omega)
    rw [List.take_of_length_le (by simp; omega)] at this
    simpa using this
   clear h1 h2 h3 h4 hQ hq hpos
   go_wp2_with fail
   refine (own_any w.heap.size wr _ n n Q hNQ (by omega)).mono ?_
   rintro e w3 ⟨a3, n3, c3, rfl, h3, hE3⟩
   have HF := Lib.hid (h3.mono hE.out.size (Kept.refl _ _))
   have HE := Lib.hid (Ext.trans hE.out hE3)
   have hrm : ((rr : Nat) : Int) % 4294967296 = (rr : Int) := by omega
   clear h3 hE3 hNQ
   go_wp2_with fail
   go_ret2
   exact ⟨_, _, _, by rw [HQ.out.2]; rfl, by rw [HQ.out.1]; exact HF.out, HE.out⟩
  ·obtain ⟨i, rfl⟩ : ∃ i, j = i + 1 := ⟨j - 1, by omega⟩
   obtain rfl : z = (i : Int) := by omega
   clear hz
   obtain ⟨b, o, rfl, _, hb1, hc1, _⟩ := hpos.out (by omega)
   have hcx := (hE.out.cell (p := ⟨b, o + i, none⟩) hb1).trans (hc1 i (by omega))
   have hxi := hsm.out.get i
   generalize hxx : l[i]?.getD 0 = xi at hcx hxi
   have HX := Lib.hid hxx
   clear hxx
   obtain ⟨Q, h1, h2, h3, h4⟩ := hQ.out
   have hco := h3.cell (i := i) (words_get (by simp; omega))
   have hfr := h3.free i
   have hwlt := h3.lt
   have hor := or_join rr xi (by omega) hxi
   have hround := Lib.hid (short_round (by rw [hlen.out]; omega) HX.out h4)
   have hqlt := short_q hrr hxi
   have hrlt := Nat.mod_lt (rr * 4294967296 + xi) hd
   have hcast : Hid (∀ u : Int, ((rr : Int) * 4294967296 + xi) % d = (((rr * 4294967296 + xi) % d : Nat) : Int) ∧ ((rr : Int) * 4294967296 + xi) / d % 4294967296 = (((rr * 4294967296 + xi) / d : Nat) : Int)) := Lib.hid fun _ => by
    have e : (rr : Int) * 4294967296 + xi = ((rr * 4294967296 + xi : Nat) : Int) := by omega
    have e2 : ((rr * 4294967296 + xi : Nat) : Int) / (d : Int) = (((rr * 4294967296 + xi) / d : Nat) : Int) := (Int.natCast_ediv _ _).symm
    have e3 : ((rr * 4294967296 + xi : Nat) : Int) % (d : Int) = (((rr * 4294967296 + xi) % d : Nat) : Int) := (Int.natCast_emod _ _).symm
    rw [e, e2, e3]
    exact ⟨rfl, emod_small hqlt⟩
   have hlq := Lib.hid h1
   have hsq := Lib.hid h2
   have hblk := Lib.hid h3
   clear hQ h1 h2 h3 h4
   go_wp2_with fail
   go_roundw
   case rel =>
    refine ⟨i, _, by omega, ⟨_, rfl, rfl⟩, by rw [(hcast.out 0).1], hrlt, Lib.hid ⟨(rr * 4294967296 + xi) / d :: Q, by have := hlq.out; simp; omega, small_cons hqlt hsq.out, ?_, hround.out⟩, Lib.hid (hE.out.setCell (Nat.le_refl _) _)⟩
    have := hblk.out.set i (.int .u32 (((rr * 4294967296 + xi) / d : Nat) : Int))
    rw [words_set, set_fill] at this
    rw [(hcast.out 0).2]
    exact this
   case measure => simp [intOf]
end Go.Proofs.YtbhenelehhiakaaGreat
namespace Go.Proofs.YtbhenelehhiakaaGreat
open Go.RowKit
set_option maxRecDepth 100000 in
set_option maxHeartbeats 1000000 in
theorem left_any (B : Nat) (w : World) (a : Option Addr) (n c : Nat) (l : Nt) (h : NatS B w a n c l) (hn : n ≤ 8796093022208) (s : Nat) (hs : s < 32) (x : Nat) (hx : Hid (val l = x)) :
  Calls Tryz.prog 166 #[.slice a n c, .int .i64 (s : Int)] w fun e w' => ∃ R : List Nat, e = .returned (.slice (some ⟨w.heap.size, 0, none⟩) R.length (nl x + 3)) ∧ w'.ownsRow w.heap.size 126 1 (.slice (some ⟨w.heap.size, 0, none⟩) R.length (nl x + 3)) R.length (R.map fun x : Nat => Value.int .u32 (x : Int)) ∧ Small R ∧ val R = x * 2 ^ s ∧ (R.length = nl x ∨ R.length = nl x + 1 ∧ 4294967296 ^ nl x ≤ val R) ∧ Ext w w' := by
 obtain ⟨i0, hi, hz0, hz1, hz2⟩ := info_parts info_u32
 have hs1 : (s : Int) / 32 = 0 := by omega
 have hs2 : (s : Int) % 32 = (s : Int) := by omega
 go_enter Tryz.func166, Tryz.ntmps166
 go_wp2_with fail
 refine (trim_all B _ a n c l h).mono ?_
 rintro e w1 ⟨k, rfl, ⟨hk, hN⟩, rfl⟩
 have hN := hN _ _ h
 rw [hx.out] at hN
 have hlen := hN.len
 have hpos := Lib.hid hN.pos
 have hsm := Lib.hid (small_limbs x)
 rw [length_limbs] at hlen
 have HL := Lib.hid hlen
 clear h hx hN hlen
 have hmk := fun w => make_words under_nat info_u32 0 (k + 3) (by omega) (by omega) w
 have e1 : (((k + 3 : Nat) : Int)) = (k : Int) + 3 := by omega
 rw [e1] at hmk
 clear e1
 simp only [Int.natCast_zero] at hmk
 go_wp2_with fail
 go_loopw [5, 6, 22] (fun v cs i wr => ∃ (j cc : Nat), j ≤ k ∧ i = .int .i64 (j : Int) ∧ cs = .int .u32 (cc : Int) ∧ cc < 2 ^ s ∧ v = .slice (some ⟨w.heap.size, 0, none⟩) j (k + 3) ∧ Hid (∃ R : List Nat, R.length = j ∧ Small R ∧ wr.ownsRow w.heap.size 126 1 (.slice (some ⟨w.heap.size, 0, none⟩) j (k + 3)) j (R.map fun x : Nat => Value.int .u32 (x : Int)) ∧ val R + 4294967296 ^ j * cc = val ((limbs x).take j) * 2 ^ s) ∧ Hid (Ext w wr)) (fun _ _ i _ => k - (intOf i).toNat)
 case atStart =>
  refine ⟨0, 0, Nat.zero_le _, rfl, rfl, Nat.pow_pos (by decide), rfl, Lib.hid ⟨[], rfl, small_nil, ?_, by simp [val]⟩, Lib.hid ((Below.refl _ _).alloc (Nat.le_refl _) _)⟩
  exact owns_of_blk (l := []) (m := List.replicate (k + 3) 0) (Blk.new _ _ _) (Nat.le_refl _) rfl (by simp) (by omega)
 case round =>
  obtain ⟨j, cc, hj, rfl, rfl, hcc, rfl, hR, hE⟩ := hrel
  by_cases hjk : j < k
  ·obtain ⟨b, o, rfl, _, hb1, hc1, _⟩ := hpos.out (by omega)
   have hcx := (hE.out.cell (p := ⟨b, o + j, none⟩) hb1).trans (hc1 j hjk)
   have hxi := hsm.out.get j
   generalize hxx : (limbs x)[j]?.getD 0 = xi at hcx hxi
   have HX := Lib.hid hxx
   clear hxx
   obtain ⟨R, h1, h2, h3, h4⟩ := hR.out
   have HR := Lib.hid h3
   clear h3
   have hround := Lib.hid (left_round h1 h4 HX.out)
   have hfit := left_fit (x := xi) hs hcc
   have hcar := left_carry (s := s) hxi
   have hjoin := left_low_mod (x := xi) hs
   have hps := pow_s_le hs
   have hlt := Nat.mod_lt (xi * 2 ^ s) (show 0 < 4294967296 by decide)
   have hor : bits .or .u32 ((xi : Int) * 2 ^ s % 4294967296) (cc : Int) = (((xi * 2 ^ s) % 4294967296 + cc : Nat) : Int) := by
    have e : ((xi : Int) * 2 ^ s % 4294967296) = (((xi * 2 ^ s) % 4294967296 : Nat) : Int) := by
     rw [Int.natCast_emod, Int.natCast_mul, Int.natCast_pow]; rfl
    rw [e, u32_or_nat _ _ hlt (by omega), nat_join s _ cc hjoin hcc]
   have hlR := Lib.hid h1
   have hsR := Lib.hid h2
   clear h1 h2 h4 hjoin hlt hR
   go_wp2_with (refine wpList_append_fits _ rfl (.tmp 26) (.tmp 33) 23 rfl w.heap.size 126 i0 1 under_nat hi hz1 w.heap.size j (k + 3) _ rfl (HR.out.alloc _) ⟨wr.heap.size, 0, none⟩ 1 1 [.int .u32 (((xi * 2 ^ s) % 4294967296 + cc : Nat) : Int)] rfl rfl (cell_one_new _ _ _) (by simp [Value.oneCell']) (by omega) ?_; intro w2 hown2 hgrow2)
   go_roundw
   case rel =>
    refine ⟨j + 1, _, by omega, by go_num, by rw [wrap_shl hxi hs], hcar, rfl, Lib.hid ⟨R ++ [(xi * 2 ^ s) % 4294967296 + cc], by rw [List.length_append, hlR.out]; rfl, hsR.out.append (small_cons hfit small_nil), by rw [List.map_append]; exact hown2, hround.out⟩, Lib.hid ((hE.out.alloc hE.out.size _).grown hgrow2 (by have := hE.out.size; simp; omega) (fun q e => by cases e; exact Nat.le_refl _))⟩
   case measure => simp [intOf]; omega
  ·obtain rfl : j = k := by omega
   obtain ⟨R, h1, h2, h3, h4⟩ := hR.out
   rw [List.take_of_length_le (by rw [length_limbs, HL.out]; omega), val_limbs] at h4
   have HR := Lib.hid h3
   by_cases hc0 : cc = 0
   ·subst hc0
    have HF := Lib.hid (show (∃ R : List Nat, Ending.returned (.slice (some ⟨w.heap.size, 0, none⟩) j (j + 3)) = .returned (.slice (some ⟨w.heap.size, 0, none⟩) R.length (nl x + 3)) ∧ wr.ownsRow w.heap.size 126 1 (.slice (some ⟨w.heap.size, 0, none⟩) R.length (nl x + 3)) R.length (R.map fun x : Nat => Value.int .u32 (x : Int)) ∧ Small R ∧ val R = x * 2 ^ s ∧ (R.length = nl x ∨ R.length = nl x + 1 ∧ 4294967296 ^ nl x ≤ val R) ∧ Ext w wr) from
     ⟨R, by rw [h1, HL.out], by rw [h1, HL.out]; exact h3, h2, by simpa using h4, Or.inl (by rw [h1, HL.out]), hE.out⟩)
    clear h1 h2 h3 h4 hR
    go_wp2_with fail
    go_ret
    exact HF.out
   ·have hne : ((cc : Int) != 0) = true := by simp; omega
    have hps := pow_s_le hs
    have hv : val (R ++ [cc]) = x * 2 ^ s := by rw [val_append, val_one, h1, h4]
    have hge : 4294967296 ^ nl x ≤ val (R ++ [cc]) := by
     rw [val_append, val_one, h1, HL.out]
     exact Nat.le_trans (Nat.le_mul_of_pos_right _ (by omega)) (Nat.le_add_left _ _)
    have HV := Lib.hid hv
    have HG := Lib.hid hge
    have H1 := Lib.hid h1
    have hsm' := h2.append (small_cons (by omega : cc < 4294967296) small_nil)
    clear h1 h2 h3 h4 hR hv hge
    go_wp2_with (refine wpList_append_fits _ rfl (.tmp 45) (.tmp 47) 23 rfl w.heap.size 126 i0 1 under_nat hi hz1 w.heap.size j (j + 3) _ rfl (HR.out.alloc _) ⟨wr.heap.size, 0, none⟩ 1 1 [.int .u32 (cc : Int)] rfl rfl (cell_one_new _ _ _) (by simp [Value.oneCell']) (by omega) ?_; intro w2 hown2 hgrow2)
    have hl2 : (R ++ [cc]).length = j + 1 := by rw [List.length_append, H1.out]; rfl
    have HL2 := Lib.hid hl2
    clear hl2
    go_ret
    exact ⟨R ++ [cc], by rw [HL2.out, HL.out]; rfl, by rw [HL2.out, HL.out, List.map_append]; exact hown2, hsm', HV.out, Or.inr ⟨by rw [HL2.out, HL.out], HG.out⟩, (hE.out.alloc hE.out.size _).grown hgrow2 (by have := hE.out.size; simp; omega) (fun q e => by cases e; exact Nat.le_refl _)⟩
end Go.Proofs.YtbhenelehhiakaaGreat
namespace Go.Proofs.YtbhenelehhiakaaGreat
open Go.RowKit
theorem or_join2 (x y : Nat) (hx : x < 4294967296) (hy : y < 4294967296) : bits .or .u64 (x : Int) ((y : Int) * 4294967296) = ((x + 4294967296 * y : Nat) : Int) := by
 have e : ((y : Int) * 4294967296) = ((y * 4294967296 : Nat) : Int) := by omega
 rw [e, u64_or_nat _ _ (by omega) (by omega), Nat.or_comm, nat_join 32 (y * 4294967296) x (by omega) (by omega)]
 omega
theorem right_cast (x y s : Nat) : ((x : Int) + 4294967296 * y) / 2 ^ s % 4294967296 = (((x + 4294967296 * y) / 2 ^ s % 4294967296 : Nat) : Int) := by
 rw [Int.natCast_emod, Int.natCast_ediv, Int.natCast_add, Int.natCast_mul, Int.natCast_pow]; rfl
theorem right_cast0 (x s : Nat) : (x : Int) / 2 ^ s % 4294967296 = (((x + 4294967296 * 0) / 2 ^ s % 4294967296 : Nat) : Int) := by
 rw [Nat.mul_zero, Nat.add_zero, Int.natCast_emod, Int.natCast_ediv, Int.natCast_pow]; rfl
set_option maxRecDepth 100000 in
set_option maxHeartbeats 1000000 in
theorem right_any (B : Nat) (w : World) (a : Option Addr) (n c : Nat) (l : Nt) (h : NatS B w a n c l) (hn : n ≤ 8796093022208) (s : Nat) (hs : s < 32) (x : Nat) (hx : Hid (val l = x)) :
  Calls Tryz.prog 167 #[.slice a n c, .int .i64 (s : Int)] w fun e w' => ∃ a' n' c', e = .returned (.tuple #[.slice a' n' c', .int .i64 0]) ∧ NatS w.heap.size w' a' n' c' (limbs (x / 2 ^ s)) ∧ Ext w w' := by
 have hs1 : (s : Int) / 32 = 0 := by omega
 have hs2 : (s : Int) % 32 = (s : Int) := by omega
 go_enter Tryz.func167, Tryz.ntmps167
 go_wp2_with fail
 refine (trim_all B _ a n c l h).mono ?_
 rintro e w1 ⟨k, rfl, ⟨hk, hN⟩, rfl⟩
 have hN := hN _ _ h
 rw [hx.out] at hN
 have hlen := hN.len
 have hcap := hN.cap
 have hpos := Lib.hid hN.pos
 have hsm := Lib.hid (small_limbs x)
 rw [length_limbs] at hlen
 have HL := Lib.hid hlen
 clear h hx hN hlen
 by_cases hk0 : k = 0
 ·have hx0 : x = 0 := limbs_eq_nil.1 (List.eq_nil_of_length_eq_zero (by rw [length_limbs, HL.out, hk0]))
  subst hk0
  have HX := Lib.hid hx0
  clear hx0
  go_wp2_with fail
  go_ret2
  exact ⟨_, _, _, rfl, by rw [HX.out, Nat.zero_div]; exact natS_nil _ _, Ext.refl _⟩
 ·obtain ⟨b, o, rfl, _, hb1, hc1, _⟩ := hpos.out (by omega)
  have hmk := fun w => make_words under_nat info_u32 k k (Nat.le_refl _) (by omega) w
  have hc0 : ¬ c = 0 := by omega
  have hk0' : decide ((k : Int) ≤ 0) = false := by simp; omega
  clear hpos
  go_wp2_with fail
  go_loopw [28] (fun i wr => ∃ j : Nat, j ≤ k ∧ i = .int .i64 (j : Int) ∧ Hid (Blk wr w.heap.size 126 (words (rights s (limbs x) j ++ List.replicate (k - j) 0))) ∧ Hid (Ext w wr)) (fun i _ => k - (intOf i).toNat)
  case atStart => exact ⟨0, Nat.zero_le _, rfl, Lib.hid (Blk.new _ _ _), Lib.hid ((Below.refl _ _).alloc (Nat.le_refl _) _)⟩
  case round =>
   obtain ⟨j, hj, rfl, hb, hE⟩ := hrel
   by_cases hjk : j < k
   ·have hcx := (hE.out.cell (p := ⟨b, o + j, none⟩) hb1).trans (hc1 j hjk)
    have hxi := hsm.out.get j
    have hyi := hsm.out.get (j + 1)
    have hfill := rights_fill s (limbs x) j k hjk
    have hL : (words (rights s (limbs x) j ++ List.replicate (k - j) 0)).size = k := by rw [words_size, List.length_append, length_rights, List.length_replicate]; omega
    have hcy := fun hj1 : j + 1 < k => (hE.out.cell (p := ⟨b, o + (j + 1), none⟩) hb1).trans (hc1 (j + 1) hj1)
    have hy0 : ¬ j + 1 < k → (limbs x)[j + 1]?.getD 0 = 0 := fun h => by rw [List.getElem?_eq_none (by rw [length_limbs, HL.out]; omega)]; rfl
    generalize hxx : (limbs x)[j]?.getD 0 = xi at *
    generalize hyy : (limbs x)[j + 1]?.getD 0 = yi at *
    clear hxx hyy
    generalize hLL : rights s (limbs x) j ++ List.replicate (k - j) 0 = L at *
    clear hLL
    have hco := hb.out.cell (i := j) (words_get (by rw [words_size] at hL; omega))
    have hfr := hb.out.free j
    have hwlt := hb.out.lt
    have hor := or_join2 xi yi hxi hyi
    have hcast : ((xi : Int) + 4294967296 * yi) = ((xi + 4294967296 * yi : Nat) : Int) := by omega
    have HF := Lib.hid hfill
    clear hL hfill
    have fin : ∀ v : Int, v = (((xi + 4294967296 * yi) / 2 ^ s % 4294967296 : Nat) : Int) → ∃ q : Nat, q ≤ k ∧ Value.int .i64 ((j : Int) + 1) = .int .i64 (q : Int) ∧ Hid (Blk (wr.setCell ⟨w.heap.size, j, none⟩ (.int .u32 v)) w.heap.size 126 (words (rights s (limbs x) q ++ List.replicate (k - q) 0))) ∧ Hid (Ext w (wr.setCell ⟨w.heap.size, j, none⟩ (.int .u32 v))) := fun v hv => by
     subst hv
     refine ⟨j + 1, by omega, by go_num, Lib.hid ?_, Lib.hid (hE.out.setCell (Nat.le_refl _) _)⟩
     have := hb.out.set j (.int .u32 (((xi + 4294967296 * yi) / 2 ^ s % 4294967296 : Nat) : Int))
     rw [words_set, HF.out] at this
     exact this
    have FIN := Lib.hid fin
    clear fin hcast
    by_cases hj1 : j + 1 < k
    ·have hcy := hcy hj1
     have hj1' : (j : Int) + 1 < (k : Int) := by omega
     clear hy0
     go_wp2_with fail
     go_roundw
     case rel => exact FIN.out _ (right_cast _ _ _)
     case measure => simp [intOf]; omega
    ·obtain rfl := hy0 hj1
     clear hcy hy0
     go_wp2_with fail
     go_roundw
     case rel => exact FIN.out _ (right_cast0 _ _)
     case measure => simp [intOf]; omega
   ·obtain rfl : j = k := by omega
    have hend := Lib.hid (rights_end (small_limbs x) hs (k := j) (by rw [length_limbs, HL.out]; omega))
    have hNR : NatS w.heap.size wr (some ⟨w.heap.size, 0, none⟩) j j (rights s (limbs x) j) := by
     have := hb.out.nat (B := w.heap.size) (Nat.le_refl _) ((small_rights _ _ _).append (small_replicate _)) j (by simp [length_rights]) (Nat.le_refl _) (by omega)
     rwa [List.take_of_length_le (by simp [length_rights]), Nat.sub_self, List.replicate_zero, List.append_nil] at this
    go_wp2_with fail
    refine (own_any w.heap.size wr _ j j _ hNR (by omega)).mono ?_
    rintro e w3 ⟨a3, n3, c3, rfl, h3, hE3⟩
    rw [hend.out, val_limbs] at h3
    have HF := Lib.hid (h3.mono hE.out.size (Kept.refl _ _))
    have HE := Lib.hid (Ext.trans hE.out hE3)
    clear h3 hE3 hNR
    go_wp2_with fail
    go_ret2
    exact ⟨_, _, _, rfl, HF.out, HE.out⟩
end Go.Proofs.YtbhenelehhiakaaGreat
namespace Go.Proofs.YtbhenelehhiakaaGreat
open Go.RowKit
def lenTab : ByteArray := ⟨#[0, 1, 2, 2, 3, 3, 3, 3, 4, 4, 4, 4, 4, 4, 4, 4, 5, 5, 5, 5, 5, 5, 5, 5, 5, 5, 5, 5, 5, 5, 5, 5, 6, 6, 6, 6, 6, 6, 6, 6, 6, 6, 6, 6, 6, 6, 6, 6, 6, 6, 6, 6, 6, 6, 6, 6, 6, 6, 6, 6, 6, 6, 6, 6, 7, 7, 7, 7, 7, 7, 7, 7, 7, 7, 7, 7, 7, 7, 7, 7, 7, 7, 7, 7, 7, 7, 7, 7, 7, 7, 7, 7, 7, 7, 7, 7, 7, 7, 7, 7, 7, 7, 7, 7, 7, 7, 7, 7, 7, 7, 7, 7, 7, 7, 7, 7, 7, 7, 7, 7, 7, 7, 7, 7, 7, 7, 7, 7, 8, 8, 8, 8, 8, 8, 8, 8, 8, 8, 8, 8, 8, 8, 8, 8, 8, 8, 8, 8, 8, 8, 8, 8, 8, 8, 8, 8, 8, 8, 8, 8, 8, 8, 8, 8, 8, 8, 8, 8, 8, 8, 8, 8, 8, 8, 8, 8, 8, 8, 8, 8, 8, 8, 8, 8, 8, 8, 8, 8, 8, 8, 8, 8, 8, 8, 8, 8, 8, 8, 8, 8, 8, 8, 8, 8, 8, 8, 8, 8, 8, 8, 8, 8, 8, 8, 8, 8, 8, 8, 8, 8, 8, 8, 8, 8, 8, 8, 8, 8, 8, 8, 8, 8, 8, 8, 8, 8, 8, 8, 8, 8, 8, 8, 8, 8, 8, 8, 8, 8, 8, 8, 8, 8, 8, 8, 8, 8]⟩
theorem lenTab_all : ∀ z : Fin 256, (lenTab.data[z.val]?.getD 0).toNat = blen z.val := by decide +kernel
theorem lenTab_at (x : Nat) (hx : x < 256) (h : x < lenTab.size) : (lenTab[x]'h).toNat = blen x := by
 have h1 := lenTab_all ⟨x, hx⟩
 rw [Array.getElem?_eq_getElem (show x < lenTab.data.size from h)] at h1
 exact h1
theorem wrap_len {t b : Nat} {z : Int} (h : t = b) (hb : b ≤ 8) (hz : 0 ≤ z) (hz2 : z ≤ 24) {y : Nat} (hy : (y : Int) = z + b) : wrap64 (z + wrap64 (t : Int)) = (y : Int) := by
 subst h
 unfold wrap64
 omega
theorem wrap_len0 {t b : Nat} (h : t = b) (hb : b ≤ 8) : wrap64 (wrap64 (t : Int)) = (b : Int) := by
 subst h
 unfold wrap64
 omega
theorem ret_int {k : IntKind} {a b : Int} (h : a = b) : Ending.returned (.int k a) = .returned (.int k b) := by rw [h]
set_option maxRecDepth 100000 in
set_option maxHeartbeats 1000000 in
theorem len32_any (x : Nat) (hx : x < 4294967296) (w : World) :
  Calls Tryz.prog 141 #[.int .u32 (x : Int)] w fun e w' => e = .returned (.int .i64 ((blen x : Nat) : Int)) ∧ w = w' := by
 by_cases h16 : 65536 ≤ x
 ·have h1 : decide ((65536 : Int) ≤ (x : Int)) = true := by simp; omega
  have e16 : blen x = 16 + blen (x / 65536) := blen_shift 16 h16
  by_cases h8 : 256 ≤ x / 65536
  ·have h2 : decide ((256 : Int) ≤ (x : Int) / 65536) = true := by simp; omega
   have e8 : blen (x / 65536) = 8 + blen (x / 65536 / 256) := blen_shift 8 h8
   have hb : blen (x / 65536 / 256) ≤ 8 := blen_le_of_lt (by omega)
   go_enter Tryz.func141, Tryz.ntmps141
   go_wp2_with fail
   go_ret
   exact ⟨ret_int (wrap_len (lenTab_at (x / 65536 / 256) (by omega) _) hb (by decide) (by decide) (by omega)), rfl⟩
  ·have h2 : decide ((256 : Int) ≤ (x : Int) / 65536) = false := by simp; omega
   have hb : blen (x / 65536) ≤ 8 := blen_le_of_lt (by omega)
   go_enter Tryz.func141, Tryz.ntmps141
   go_wp2_with fail
   go_ret
   exact ⟨ret_int (wrap_len (lenTab_at (x / 65536) (by omega) _) hb (by decide) (by decide) (by omega)), rfl⟩
 ·have h1 : decide ((65536 : Int) ≤ (x : Int)) = false := by simp; omega
  by_cases h8 : 256 ≤ x
  ·have h2 : decide ((256 : Int) ≤ (x : Int)) = true := by simp; omega
   have e8 : blen x = 8 + blen (x / 256) := blen_shift 8 h8
   have hb : blen (x / 256) ≤ 8 := blen_le_of_lt (by omega)
   go_enter Tryz.func141, Tryz.ntmps141
   go_wp2_with fail
   go_ret
   exact ⟨ret_int (wrap_len (lenTab_at (x / 256) (by omega) _) hb (by decide) (by decide) (by omega)), rfl⟩
  ·have h2 : decide ((256 : Int) ≤ (x : Int)) = false := by simp; omega
   have hb : blen x ≤ 8 := blen_le_of_lt (by omega)
   go_enter Tryz.func141, Tryz.ntmps141
   go_wp2_with fail
   go_ret
   exact ⟨ret_int (wrap_len0 (lenTab_at x (by omega) _) hb), rfl⟩
set_option maxHeartbeats 400000 in
theorem lz32_any (x : Nat) (hx : x < 4294967296) (w : World) :
  Calls Tryz.prog 165 #[.int .u32 (x : Int)] w fun e w' => e = .returned (.int .i64 ((32 - blen x : Nat) : Int)) ∧ w = w' := by
 have hb : blen x ≤ 32 := blen_le_of_lt (by have e : (2 : Nat) ^ 32 = 4294967296 := by decide
                                            omega)
 go_enter Tryz.func165, Tryz.ntmps165
 go_wp2_with fail
 refine (len32_any x hx w).mono ?_
 rintro e w' ⟨rfl, rfl⟩
 go_wp2_with fail
 go_ret
 exact ⟨ret_int (by omega), rfl⟩
theorem blen_val {l : List Nat} (hs : Small l) (hl : 0 < l.length) (h : l[l.length - 1]?.getD 0 ≠ 0) : blen (val l) = 32 * (l.length - 1) + blen (l[l.length - 1]?.getD 0) := by
 have h1 := val_split_at (l := l) (j := l.length - 1) (by omega)
 rw [List.drop_of_length_le (by omega)] at h1
 have h2 := val_lt (hs.take (l.length - 1))
 rw [List.length_take, Nat.min_eq_left (by omega)] at h2
 generalize l[l.length - 1]?.getD 0 = t at *
 have e : val ([] : List Nat) = 0 := rfl
 rw [e, Nat.mul_zero, Nat.add_zero] at h1
 have e2 : (4294967296 : Nat) ^ (l.length - 1) = 2 ^ (32 * (l.length - 1)) := by rw [Nat.pow_mul]
 rw [e2] at h1 h2
 have h3 : 2 ^ (32 * (l.length - 1)) ≤ val l := by
  rw [h1]
  exact Nat.le_trans (Nat.le_mul_of_pos_right _ (by omega)) (Nat.le_add_left _ _)
 rw [blen_shift (32 * (l.length - 1)) h3, h1, Nat.add_mul_div_left _ _ (Nat.pow_pos (by decide)), Nat.div_eq_of_lt h2, Nat.zero_add]
set_option maxHeartbeats 400000 in
theorem natLen_aux (B : Nat) (w : World) (a : Option Addr) (n c : Nat) (l : Nt) (h : NatS B w a n c l) (hn : n ≤ 17592186044416) (x : Nat) (hx : Hid (val l = x)) :
  Calls Tryz.prog 121 #[.slice a n c] w fun e w' => e = .returned (.int .i64 ((blen x : Nat) : Int)) ∧ Ext w w' := by
 go_enter Tryz.func121, Tryz.ntmps121
 go_wp2_with fail
 refine (trim_any B _ a n c l h).mono ?_
 rintro e w1 ⟨k, rfl, hN, rfl⟩
 have hkn : k ≤ n := by have := hN.len; have := nl_val h.small; have := h.len; rw [length_limbs] at *; omega
 rw [hx.out] at hN
 clear h
 have hlen := hN.len
 by_cases hk0 : k = 0
 ·have hx0 : x = 0 := limbs_eq_nil.1 (List.eq_nil_of_length_eq_zero (by rw [hlen, hk0]))
  subst hk0
  have HX := Lib.hid hx0
  clear hx0 hlen
  go_wp2_with fail
  go_ret
  exact ⟨by rw [HX.out]; rfl, Ext.refl _⟩
 ·obtain ⟨b, o, rfl, _, hb1, hc1, _⟩ := hN.pos (by omega)
  have hk0' : (((k : Nat) : Int) == 0) = false := by simpa using hk0
  obtain ⟨j, rfl⟩ : ∃ j, k = j + 1 := ⟨k - 1, by omega⟩
  have hcj := hc1 j (by omega)
  have hs := small_limbs x
  have hxj := hs.get j
  have hne : (limbs x)[j]?.getD 0 ≠ 0 := by
   intro e0
   have hsp := val_split_at (l := limbs x) (j := j) (by omega)
   have h4 := val_lt (hs.take j)
   rw [List.length_take, Nat.min_eq_left (by omega)] at h4
   rw [e0, List.drop_of_length_le (by omega), val_limbs] at hsp
   have e1 : val ([] : List Nat) = 0 := rfl
   rw [e1] at hsp
   have h5 := pow_nl_le (n := x) (by
    cases Nat.eq_zero_or_pos x with
    | inl h => subst h; simp [limbs_zero] at hlen
    | inr h => exact h)
   rw [← length_limbs, hlen, Nat.add_sub_cancel] at h5
   omega
  have hbl := blen_val (l := limbs x) hs (by omega) (by rw [hlen]; exact hne)
  rw [val_limbs, hlen, Nat.add_sub_cancel] at hbl
  have HB := Lib.hid hbl
  have hb32 : blen ((limbs x)[j]?.getD 0) ≤ 32 := blen_le_of_lt (by have e : (2 : Nat) ^ 32 = 4294967296 := by decide
                                                                    omega)
  generalize (limbs x)[j]?.getD 0 = t at *
  clear hlen hbl hc1 hN
  go_wp2_with fail
  refine (len32_any t hxj w).mono ?_
  rintro e w' ⟨rfl, rfl⟩
  go_wp2_with fail
  go_ret
  exact ⟨ret_int (by rw [HB.out]; omega), Ext.refl _⟩
end Go.Proofs.YtbhenelehhiakaaGreat
