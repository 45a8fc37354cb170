/-
  Natural numbers as lists of limbs of 32 bits: plain lemmas, no program.
-/
set_option linter.unusedVariables false
set_option linter.unusedSimpArgs false
namespace Go.Mt

/-- the number that the limbs say, the lowest first -/
def val : List Nat → Nat
  | [] => 0
  | x :: r => x + 4294967296 * val r

/-- each limb fits 32 bits -/
def Small (l : List Nat) : Prop := ∀ x ∈ l, x < 4294967296

def limbsF : Nat → Nat → List Nat
  | 0, _ => []
  | k + 1, n => if n = 0 then [] else n % 4294967296 :: limbsF k (n / 4294967296)

/-- the limbs of a number, none at the end being 0 -/
def limbs (n : Nat) : List Nat := limbsF n n

theorem limbsF_eq : ∀ (k m n : Nat), n ≤ k → n ≤ m → limbsF k n = limbsF m n := by
  intro k
  induction k with
  | zero => intro m n h _; obtain rfl : n = 0 := by omega
            cases m <;> simp [limbsF]
  | succ k ih =>
    intro m n h hm
    cases m with
    | zero => obtain rfl : n = 0 := by omega
              simp [limbsF]
    | succ m =>
      simp only [limbsF]
      split
      · rfl
      · rw [ih m (n / 4294967296) (by omega) (by omega)]

theorem limbs_zero : limbs 0 = [] := rfl

theorem limbs_pos {n : Nat} (h : 0 < n) : limbs n = n % 4294967296 :: limbs (n / 4294967296) := by
  unfold limbs
  cases n with
  | zero => omega
  | succ k =>
    rw [limbsF, if_neg (by omega), limbsF_eq k ((k + 1) / 4294967296) _ (by omega) (by omega)]

theorem limbs_step (x r : Nat) (hx : x < 4294967296) (h : 0 < x + 4294967296 * r) : limbs (x + 4294967296 * r) = x :: limbs r := by
  rw [limbs_pos h]
  have e1 : (x + 4294967296 * r) % 4294967296 = x := by omega
  have e2 : (x + 4294967296 * r) / 4294967296 = r := by omega
  rw [e1, e2]

theorem val_limbs (n : Nat) : val (limbs n) = n := by
  induction n using Nat.strongRecOn with
  | _ n ih =>
    cases Nat.eq_zero_or_pos n with
    | inl h => subst h; rfl
    | inr hp => rw [limbs_pos hp, val, ih _ (by omega)]; omega

theorem small_limbs (n : Nat) : Small (limbs n) := by
  induction n using Nat.strongRecOn with
  | _ n ih =>
    cases Nat.eq_zero_or_pos n with
    | inl h => subst h; intro x hx; cases hx
    | inr hp =>
      rw [limbs_pos hp]
      intro x hx
      rcases List.mem_cons.1 hx with rfl | h
      · omega
      · exact ih _ (by omega) x h

theorem Small.tail {x : Nat} {l : List Nat} (h : Small (x :: l)) : Small l := fun y hy => h y (List.mem_cons_of_mem _ hy)
theorem Small.head {x : Nat} {l : List Nat} (h : Small (x :: l)) : x < 4294967296 := h x (List.mem_cons_self)
theorem Small.take {l : List Nat} (h : Small l) (k : Nat) : Small (l.take k) := fun x hx => h x (List.mem_of_mem_take hx)
theorem Small.drop {l : List Nat} (h : Small l) (k : Nat) : Small (l.drop k) := fun x hx => h x (List.mem_of_mem_drop hx)
theorem Small.append {l m : List Nat} (h : Small l) (h' : Small m) : Small (l ++ m) := fun x hx => (List.mem_append.1 hx).elim (h x) (h' x)
theorem Small.get {l : List Nat} (h : Small l) (i : Nat) : l[i]?.getD 0 < 4294967296 := by
  cases e : l[i]? with
  | none => simp
  | some x => exact h x (List.mem_of_getElem? e)
theorem small_nil : Small [] := fun x hx => by cases hx
theorem small_cons {x : Nat} {l : List Nat} (hx : x < 4294967296) (h : Small l) : Small (x :: l) := fun y hy => by
  rcases List.mem_cons.1 hy with rfl | hy
  · exact hx
  · exact h y hy
theorem small_replicate (n : Nat) : Small (List.replicate n 0) := fun x hx => by
  rw [List.eq_of_mem_replicate hx]; decide
theorem Small.set {l : List Nat} (h : Small l) (i : Nat) {x : Nat} (hx : x < 4294967296) : Small (l.set i x) := fun y hy => by
  rcases List.mem_or_eq_of_mem_set hy with hy | rfl
  · exact h y hy
  · exact hx

theorem val_append : ∀ (l m : List Nat), val (l ++ m) = val l + 4294967296 ^ l.length * val m
  | [], m => by simp [val]
  | x :: l, m => by
    rw [List.cons_append, val, val, val_append l m, List.length_cons, Nat.pow_succ, Nat.mul_add, Nat.mul_comm (4294967296 ^ l.length) 4294967296, Nat.mul_assoc]
    omega

theorem val_replicate (n : Nat) : val (List.replicate n 0) = 0 := by
  induction n with
  | zero => rfl
  | succ n ih => rw [List.replicate_succ, val, ih]

theorem val_lt : ∀ {l : List Nat}, Small l → val l < 4294967296 ^ l.length
  | [], _ => by simp [val]
  | x :: l, h => by
    have h1 := val_lt h.tail
    have h2 := h.head
    rw [val, List.length_cons, Nat.pow_succ]
    generalize 4294967296 ^ l.length = p at h1
    omega

/-- the last limb of a normal form is not 0 -/
theorem limbs_of_val : ∀ {l : List Nat}, Small l → (l = [] ∨ l[l.length - 1]?.getD 0 ≠ 0) → limbs (val l) = l
  | [], _, _ => rfl
  | x :: l, hs, h => by
    have h' : l[l.length]?.getD 0 = 0 := by simp
    cases l with
    | nil =>
      have hx : x ≠ 0 := by simpa using h
      have := hs.head
      rw [val, limbs_step x _ this (by omega)]
      rfl
    | cons y r =>
      have hl : (y :: r)[(y :: r).length - 1]?.getD 0 ≠ 0 := by simpa using h
      have ih := limbs_of_val hs.tail (Or.inr hl)
      have hv : val (y :: r) ≠ 0 := by
        intro e
        rw [e] at ih
        cases ih
      rw [val, limbs_step x _ hs.head (by omega), ih]

theorem val_take_drop (l : List Nat) (k : Nat) : val l = val (l.take k) + 4294967296 ^ (l.take k).length * val (l.drop k) := by
  rw [← val_append, List.take_append_drop]

theorem val_eq_zero : ∀ {l : List Nat}, (∀ x ∈ l, x = 0) → val l = 0
  | [], _ => rfl
  | x :: l, h => by rw [val, h x (by simp), val_eq_zero (fun y hy => h y (by simp [hy]))]

theorem take_succ_get {l : List Nat} {k : Nat} (h : k < l.length) : l.take (k + 1) = l.take k ++ [l[k]?.getD 0] := by
  rw [List.take_add_one, List.getElem?_eq_getElem h]; rfl

theorem val_take_succ {l : List Nat} {k : Nat} (h : k < l.length) : val (l.take (k + 1)) = val (l.take k) + 4294967296 ^ k * (l[k]?.getD 0) := by
  rw [take_succ_get h, val_append, List.length_take, Nat.min_eq_left (by omega)]
  simp [val]

/-- how many limbs -/
def nl (n : Nat) : Nat := (limbs n).length

theorem lt_pow_nl (n : Nat) : n < 4294967296 ^ nl n := by
  have := val_lt (small_limbs n)
  rwa [val_limbs] at this

theorem pow_nl_le {n : Nat} (h : 0 < n) : 4294967296 ^ (nl n - 1) ≤ n := by
  induction n using Nat.strongRecOn with
  | _ n ih =>
    unfold nl
    rw [limbs_pos h]
    simp only [List.length_cons, Nat.add_sub_cancel]
    cases Nat.eq_zero_or_pos (n / 4294967296) with
    | inl h0 => rw [h0]; simp [limbs_zero]; omega
    | inr hp =>
      have h1 := ih _ (by omega) hp
      have h2 : 0 < nl (n / 4294967296) := by
        unfold nl
        rw [limbs_pos hp]; simp
      unfold nl at h1 h2
      have e : (limbs (n / 4294967296)).length = ((limbs (n / 4294967296)).length - 1) + 1 := by omega
      rw [e, Nat.pow_succ]
      generalize 4294967296 ^ ((limbs (n / 4294967296)).length - 1) = p at h1
      omega

theorem nl_le_of_lt {n k : Nat} (h : n < 4294967296 ^ k) : nl n ≤ k := by
  cases Nat.eq_zero_or_pos n with
  | inl h0 => subst h0; simp [nl, limbs_zero]
  | inr hp =>
    have h1 := pow_nl_le hp
    have h2 : 4294967296 ^ (nl n - 1) < 4294967296 ^ k := by omega
    have h3 : nl n - 1 < k := (Nat.pow_lt_pow_iff_right (by omega)).1 h2
    omega

theorem nl_zero : nl 0 = 0 := rfl
theorem nl_pos {n : Nat} (h : 0 < n) : 0 < nl n := by
  unfold nl; rw [limbs_pos h]; simp
theorem nl_mono {m n : Nat} (h : m ≤ n) : nl m ≤ nl n := nl_le_of_lt (Nat.lt_of_le_of_lt h (lt_pow_nl n))
theorem nl_mul (m n : Nat) : nl (m * n) ≤ nl m + nl n := by
  refine nl_le_of_lt ?_
  rw [Nat.pow_add]
  exact Nat.mul_lt_mul_of_lt_of_le (lt_pow_nl m) (Nat.le_of_lt (lt_pow_nl n)) (Nat.pow_pos (by omega))
theorem nl_add (m n : Nat) : nl (m + n) ≤ max (nl m) (nl n) + 1 := by
  refine nl_le_of_lt ?_
  have h1 : m < 4294967296 ^ max (nl m) (nl n) := Nat.lt_of_lt_of_le (lt_pow_nl m) (Nat.pow_le_pow_right (by omega) (Nat.le_max_left _ _))
  have h2 : n < 4294967296 ^ max (nl m) (nl n) := Nat.lt_of_lt_of_le (lt_pow_nl n) (Nat.pow_le_pow_right (by omega) (Nat.le_max_right _ _))
  rw [Nat.pow_succ]
  omega
theorem nl_val {l : List Nat} (h : Small l) : nl (val l) ≤ l.length := nl_le_of_lt (val_lt h)
theorem length_limbs (n : Nat) : (limbs n).length = nl n := rfl

/-- limb by limb over two numbers, with a state -/
def stp (nxt : Nat → Nat → Nat → Nat) (s0 : Nat) (l l2 : List Nat) : Nat → Nat
  | 0 => s0
  | k + 1 => nxt (stp nxt s0 l l2 k) (l[k]?.getD 0) (l2[k]?.getD 0)
def outs (out nxt : Nat → Nat → Nat → Nat) (s0 : Nat) (l l2 : List Nat) : Nat → List Nat
  | 0 => []
  | k + 1 => outs out nxt s0 l l2 k ++ [out (stp nxt s0 l l2 k) (l[k]?.getD 0) (l2[k]?.getD 0)]
theorem length_outs (out nxt : Nat → Nat → Nat → Nat) (s0 : Nat) (l l2 : List Nat) (k : Nat) : (outs out nxt s0 l l2 k).length = k := by
  induction k with
  | zero => rfl
  | succ k ih => rw [outs, List.length_append, ih]; rfl
theorem small_outs (out nxt : Nat → Nat → Nat → Nat) (s0 : Nat) (l l2 : List Nat) (h : ∀ s x y, out s x y < 4294967296) (k : Nat) : Small (outs out nxt s0 l l2 k) := by
  induction k with
  | zero => exact small_nil
  | succ k ih => exact ih.append (small_cons (h _ _ _) small_nil)
theorem outs_fill (out nxt : Nat → Nat → Nat → Nat) (s0 : Nat) (l l2 : List Nat) (k m : Nat) (h : k < m) :
    (outs out nxt s0 l l2 k ++ List.replicate (m - k) 0).set k (out (stp nxt s0 l l2 k) (l[k]?.getD 0) (l2[k]?.getD 0)) = outs out nxt s0 l l2 (k + 1) ++ List.replicate (m - (k + 1)) 0 := by
  have e : m - k = (m - (k + 1)) + 1 := by omega
  rw [List.set_append_right _ _ (by rw [length_outs]; omega), length_outs, Nat.sub_self, e, List.replicate_succ, List.set_cons_zero, outs, List.append_assoc]
  rfl
theorem val_take_succ' (l : List Nat) (k : Nat) : val (l.take (k + 1)) = val (l.take k) + 4294967296 ^ k * (l[k]?.getD 0) := by
  by_cases h : k < l.length
  · exact val_take_succ h
  · rw [List.take_of_length_le (by omega), List.take_of_length_le (by omega), List.getElem?_eq_none (by omega)]
    simp

def addOut (s x y : Nat) : Nat := (x + y + s) % 4294967296
def addNxt (s x y : Nat) : Nat := (x + y + s) / 4294967296
def subOut (s x y : Nat) : Nat := (x + 4294967296 - y - s) % 4294967296
def subNxt (s x y : Nat) : Nat := if x < y + s then 1 else 0

theorem add_outs (l l2 : List Nat) (s0 k : Nat) : val (outs addOut addNxt s0 l l2 k) + 4294967296 ^ k * stp addNxt s0 l l2 k = val (l.take k) + val (l2.take k) + s0 := by
  induction k with
  | zero => simp [outs, stp, val]
  | succ k ih =>
    rw [outs, val_append, length_outs, stp, val_take_succ', val_take_succ']
    generalize l[k]?.getD 0 = x
    generalize l2[k]?.getD 0 = y
    generalize hs : stp addNxt s0 l l2 k = s at *
    have e : val [addOut s x y] = (x + y + s) % 4294967296 := by simp [val, addOut]
    have e2 : x + y + s = (x + y + s) % 4294967296 + 4294967296 * addNxt s x y := by unfold addNxt; omega
    rw [e, Nat.pow_succ, Nat.mul_assoc]
    have e3 : 4294967296 ^ k * ((x + y + s) % 4294967296) + 4294967296 ^ k * (4294967296 * addNxt s x y) = 4294967296 ^ k * x + 4294967296 ^ k * y + 4294967296 ^ k * s := by
      rw [← Nat.mul_add, ← e2, Nat.mul_add, Nat.mul_add]
    omega

theorem val_one (x : Nat) : val [x] = x := by rw [val, val, Nat.mul_zero, Nat.add_zero]
theorem sub_limb (b x y s : Nat) (hx : x < b) (hy : y < b) (hs : s ≤ 1) : (x + b - y - s) % b + y + s = x + b * (if x < y + s then 1 else 0) := by
  split
  · rename_i h
    rw [Nat.mod_eq_of_lt (by omega), Nat.mul_one]
    omega
  · rename_i h
    have e : x + b - y - s = (x - y - s) + b := by omega
    rw [e, Nat.add_mod_right, Nat.mod_eq_of_lt (by omega), Nat.mul_zero]
    omega
theorem subNxt_le (s x y : Nat) : subNxt s x y ≤ 1 := by unfold subNxt; split <;> decide
theorem step_arith {A V T P X Y S N O : Nat} (h : V + T = A + P * S) (h2 : P * O + P * Y + P * S = P * X + P * N) : V + P * O + (T + P * Y) = A + P * X + P * N := by
  omega

theorem sub_outs {l l2 : List Nat} (hl : Small l) (hl2 : Small l2) (k : Nat) : val (outs subOut subNxt 0 l l2 k) + val (l2.take k) = val (l.take k) + 4294967296 ^ k * stp subNxt 0 l l2 k ∧ stp subNxt 0 l l2 k ≤ 1 := by
  induction k with
  | zero => simp [outs, stp, val]
  | succ k ih =>
    obtain ⟨ih, h1⟩ := ih
    rw [outs, val_append, length_outs, stp, val_take_succ', val_take_succ']
    have hx := hl.get k
    have hy := hl2.get k
    generalize l[k]?.getD 0 = x at *
    generalize l2[k]?.getD 0 = y at *
    generalize hs : stp subNxt 0 l l2 k = s at *
    have e : val [subOut s x y] = subOut s x y := val_one _
    have e2 : subOut s x y + y + s = x + 4294967296 * subNxt s x y := by
      unfold subOut subNxt
      exact sub_limb _ x y s hx hy h1
    refine ⟨?_, subNxt_le s x y⟩
    rw [e, Nat.pow_succ, Nat.mul_assoc]
    have e3 : 4294967296 ^ k * subOut s x y + 4294967296 ^ k * y + 4294967296 ^ k * s = 4294967296 ^ k * x + 4294967296 ^ k * (4294967296 * subNxt s x y) := by
      rw [← Nat.mul_add, ← Nat.mul_add, e2, Nat.mul_add]
    exact step_arith ih e3

theorem sub_end {l l2 : List Nat} (hl : Small l) (hl2 : Small l2) (h : val l2 ≤ val l) (k : Nat) (h1 : l.length ≤ k) (h2 : l2.length ≤ k) : val (outs subOut subNxt 0 l l2 k) = val l - val l2 := by
  obtain ⟨h3, h4⟩ := sub_outs hl hl2 k
  rw [List.take_of_length_le h1, List.take_of_length_le h2] at h3
  have h5 : val (outs subOut subNxt 0 l l2 k) < 4294967296 ^ k := by
    have := val_lt (small_outs subOut subNxt 0 l l2 (fun s x y => Nat.mod_lt _ (by omega)) k)
    rwa [length_outs] at this
  have h6 : stp subNxt 0 l l2 k = 0 ∨ stp subNxt 0 l l2 k = 1 := by omega
  rcases h6 with h6 | h6
  · rw [h6] at h3; omega
  · rw [h6] at h3; omega

theorem lt_of_nl_lt {m n : Nat} (h : nl m < nl n) : m < n := by
  have hn : 0 < n := by
    cases Nat.eq_zero_or_pos n with
    | inl h0 => subst h0; rw [nl_zero] at h; omega
    | inr h => exact h
  have h1 := lt_pow_nl m
  have h2 := pow_nl_le hn
  have h3 : 4294967296 ^ nl m ≤ 4294967296 ^ (nl n - 1) := Nat.pow_le_pow_right (by omega) (by omega)
  omega

theorem val_split_at {l : List Nat} {j : Nat} (h : j < l.length) : val l = val (l.take j) + 4294967296 ^ j * ((l[j]?.getD 0) + 4294967296 * val (l.drop (j + 1))) := by
  have h1 := val_take_drop l (j + 1)
  rw [val_take_succ h, List.length_take, Nat.min_eq_left (by omega), Nat.pow_succ] at h1
  rw [h1, Nat.mul_add, Nat.mul_assoc]
  omega

/-- the first limbs from the top that differ decide -/
theorem val_lt_at {l m : List Nat} {j : Nat} (hl : Small l) (h1 : j < l.length) (h2 : j < m.length) (he : l.drop (j + 1) = m.drop (j + 1)) (h : l[j]?.getD 0 < m[j]?.getD 0) : val l < val m := by
  rw [val_split_at h1, val_split_at h2, he]
  have h3 := val_lt (hl.take j)
  rw [List.length_take, Nat.min_eq_left (by omega)] at h3
  have h4 : 4294967296 ^ j * ((l[j]?.getD 0) + 4294967296 * val (m.drop (j + 1)) + 1) ≤ 4294967296 ^ j * ((m[j]?.getD 0) + 4294967296 * val (m.drop (j + 1))) := Nat.mul_le_mul_left _ (by omega)
  rw [Nat.mul_add, Nat.mul_one] at h4
  omega

theorem drop_eq_step {l m : List Nat} {j : Nat} (h1 : j < l.length) (h2 : j < m.length) (he : l.drop (j + 1) = m.drop (j + 1)) (h : l[j]?.getD 0 = m[j]?.getD 0) : l.drop j = m.drop j := by
  rw [List.drop_eq_getElem_cons h1, List.drop_eq_getElem_cons h2, he]
  rw [List.getElem?_eq_getElem h1, List.getElem?_eq_getElem h2] at h
  simp at h
  rw [h]

theorem val_set {l : List Nat} {j : Nat} (h : j < l.length) (v : Nat) : val (l.set j v) + 4294967296 ^ j * (l[j]?.getD 0) = val l + 4294967296 ^ j * v := by
  rw [val_split_at (l := l.set j v) (j := j) (by rw [List.length_set]; exact h), val_split_at h, List.take_set_of_le (Nat.le_refl _), List.drop_set_of_lt (by omega), List.getElem?_set_self h]
  simp only [Option.getD_some, Nat.mul_add]
  omega

theorem get_set_ne {l : List Nat} {j i : Nat} (h : j ≠ i) (v : Nat) : (l.set j v)[i]?.getD 0 = l[i]?.getD 0 := by
  rw [List.getElem?_set_ne h]

/-- one limb of a product: a round of the inner loop -/
theorem mul_round {O : List Nat} {V x y c i k : Nat} {Y : List Nat} (hO : i + k < O.length) (h : val O + 4294967296 ^ (i + k) * c = V + 4294967296 ^ i * (x * val (Y.take k))) (hy : Y[k]?.getD 0 = y) :
    val (O.set (i + k) ((x * y + O[i + k]?.getD 0 + c) % 4294967296)) + 4294967296 ^ (i + (k + 1)) * ((x * y + O[i + k]?.getD 0 + c) / 4294967296) = V + 4294967296 ^ i * (x * val (Y.take (k + 1))) := by
  have h1 := val_set hO ((x * y + O[i + k]?.getD 0 + c) % 4294967296)
  generalize O[i + k]?.getD 0 = o at *
  have h2 : x * y + o + c = (x * y + o + c) % 4294967296 + 4294967296 * ((x * y + o + c) / 4294967296) := by omega
  generalize (x * y + o + c) % 4294967296 = r at *
  generalize (x * y + o + c) / 4294967296 = q at *
  rw [val_take_succ', hy, Nat.mul_add, Nat.mul_add]
  have e1 : 4294967296 ^ i * (x * (4294967296 ^ k * y)) = 4294967296 ^ (i + k) * (x * y) := by
    rw [Nat.pow_add, Nat.mul_left_comm x, Nat.mul_assoc]
  have e2 : 4294967296 ^ (i + (k + 1)) * q = 4294967296 ^ (i + k) * (4294967296 * q) := by
    rw [show i + (k + 1) = (i + k) + 1 from by omega, Nat.pow_succ, Nat.mul_assoc]
  rw [e1, e2]
  have e3 : 4294967296 ^ (i + k) * (x * y) + 4294967296 ^ (i + k) * o + 4294967296 ^ (i + k) * c = 4294967296 ^ (i + k) * r + 4294967296 ^ (i + k) * (4294967296 * q) := by
    rw [← Nat.mul_add, ← Nat.mul_add, ← Nat.mul_add, h2]
  omega

theorem mul_end {O : List Nat} {x y c i m n : Nat} {X Y : List Nat} (hO : i + m < O.length) (hY : Y.length = m) (h : val O + 4294967296 ^ (i + m) * c = val (X.take i) * y + 4294967296 ^ i * (x * val (Y.take m))) (hy : val Y = y) (hx : X[i]?.getD 0 = x) (h0 : O[i + m]?.getD 0 = 0) (hn : n = 0) :
    val (O.set (i + m) c) = val (X.take (i + 1)) * y + n := by
  have h1 := val_set hO c
  rw [h0] at h1
  rw [List.take_of_length_le (l := Y) (by omega), hy] at h
  rw [val_take_succ', hx, Nat.add_mul, Nat.mul_assoc]
  omega

theorem carry_lt {x y o c : Nat} (hx : x < 4294967296) (hy : y < 4294967296) (ho : o < 4294967296) (hc : c < 4294967296) : x * y + o + c < 18446744073709551616 := by
  have h1 : x * y ≤ 4294967295 * 4294967295 := Nat.mul_le_mul (by omega) (by omega)
  omega

theorem val_drop {l : List Nat} {i : Nat} (h : i < l.length) : val (l.drop i) = l[i]?.getD 0 + 4294967296 * val (l.drop (i + 1)) := by
  rw [List.drop_eq_getElem_cons h, val, List.getElem?_eq_getElem h]; rfl

theorem short_round {l Q : List Nat} {i rr x d : Nat} (hi : i < l.length) (hx : l[i]?.getD 0 = x) (h : val Q * d + rr = val (l.drop (i + 1))) :
    val ((rr * 4294967296 + x) / d :: Q) * d + (rr * 4294967296 + x) % d = val (l.drop i) := by
  rw [val_drop hi, hx, ← h, val, Nat.add_mul]
  have h1 := Nat.div_add_mod (rr * 4294967296 + x) d
  rw [Nat.mul_comm d] at h1
  generalize (rr * 4294967296 + x) / d * d = a at *
  generalize (rr * 4294967296 + x) % d = r at *
  rw [Nat.mul_assoc]
  generalize val Q * d = q
  omega

theorem short_q {rr x d : Nat} (hr : rr < d) (hx : x < 4294967296) : (rr * 4294967296 + x) / d < 4294967296 := by
  rw [Nat.div_lt_iff_lt_mul (by omega)]
  have h : (rr + 1) * 4294967296 ≤ d * 4294967296 := Nat.mul_le_mul_right _ (by omega)
  rw [Nat.mul_comm 4294967296 d]
  omega

theorem set_fill (Q : List Nat) (i v : Nat) : (List.replicate (i + 1) 0 ++ Q).set i v = List.replicate i 0 ++ v :: Q := by
  have e : List.replicate (i + 1) 0 ++ Q = List.replicate i 0 ++ 0 :: Q := by
    rw [List.replicate_succ', List.append_assoc]; rfl
  rw [e, List.set_append_right _ _ (by simp), List.length_replicate, Nat.sub_self]
  rfl

theorem pow32 {s : Nat} (h : s < 32) : 4294967296 = 2 ^ s * 2 ^ (32 - s) := by
  rw [← Nat.pow_add, show s + (32 - s) = 32 from by omega]

theorem left_low {x s : Nat} (hs : s < 32) : (x * 2 ^ s) % 4294967296 = 2 ^ s * (x % 2 ^ (32 - s)) := by
  rw [pow32 hs, Nat.mul_comm x, Nat.mul_mod_mul_left]

theorem left_fit {x s cc : Nat} (hs : s < 32) (hc : cc < 2 ^ s) : (x * 2 ^ s) % 4294967296 + cc < 4294967296 := by
  rw [left_low hs]
  have h1 : x % 2 ^ (32 - s) < 2 ^ (32 - s) := Nat.mod_lt _ (Nat.pow_pos (by decide))
  have h2 : 2 ^ s * (x % 2 ^ (32 - s) + 1) ≤ 2 ^ s * 2 ^ (32 - s) := Nat.mul_le_mul_left _ h1
  rw [← pow32 hs, Nat.mul_add, Nat.mul_one] at h2
  omega

theorem left_low_mod {x s : Nat} (hs : s < 32) : (x * 2 ^ s) % 4294967296 % 2 ^ s = 0 := by
  rw [left_low hs, Nat.mul_mod_right]

theorem left_carry {x s : Nat} (hx : x < 4294967296) : x * 2 ^ s / 4294967296 < 2 ^ s := by
  rw [Nat.div_lt_iff_lt_mul (by omega), Nat.mul_comm]
  exact Nat.mul_lt_mul_of_pos_left hx (Nat.pow_pos (by decide))

theorem left_round {X R : List Nat} {j cc x s : Nat} (hj : R.length = j) (h : val R + 4294967296 ^ j * cc = val (X.take j) * 2 ^ s) (hx : X[j]?.getD 0 = x) :
    val (R ++ [(x * 2 ^ s) % 4294967296 + cc]) + 4294967296 ^ (j + 1) * (x * 2 ^ s / 4294967296) = val (X.take (j + 1)) * 2 ^ s := by
  rw [val_append, val_one, hj, val_take_succ', hx, Nat.add_mul, ← h, Nat.pow_succ, Nat.mul_assoc, Nat.mul_assoc]
  have h1 : x * 2 ^ s = (x * 2 ^ s) % 4294967296 + 4294967296 * (x * 2 ^ s / 4294967296) := by omega
  generalize (x * 2 ^ s) % 4294967296 = r at *
  generalize x * 2 ^ s / 4294967296 = q at *
  rw [h1, Nat.mul_add, Nat.mul_add]
  omega

theorem mul_pow_lt {x s : Nat} (hx : x < 4294967296) (hs : s < 32) : x * 2 ^ s < 9223372036854775808 := by
  have h1 : 2 ^ s ≤ 2 ^ 31 := Nat.pow_le_pow_right (by decide) (by omega)
  have h2 : x * 2 ^ s ≤ x * 2 ^ 31 := Nat.mul_le_mul_left _ h1
  have e : (2 : Nat) ^ 31 = 2147483648 := by decide
  rw [e] at h2
  omega

theorem pow_s_le {s : Nat} (hs : s < 32) : 2 ^ s ≤ 2147483648 := by
  have h1 : 2 ^ s ≤ 2 ^ 31 := Nat.pow_le_pow_right (by decide) (by omega)
  have e : (2 : Nat) ^ 31 = 2147483648 := by decide
  omega

theorem right_limb {x y z s : Nat} (hs : s < 32) : (x + 4294967296 * y) / 2 ^ s % 4294967296 = (x + 4294967296 * (y + 4294967296 * z)) / 2 ^ s % 4294967296 := by
  have e : x + 4294967296 * (y + 4294967296 * z) = x + 4294967296 * y + 2 ^ s * (2 ^ (32 - s) * z * 4294967296) := by
    rw [Nat.mul_add, ← Nat.mul_assoc (2 ^ s), ← Nat.mul_assoc (2 ^ s), ← pow32 hs]
    omega
  rw [e, Nat.add_mul_div_left _ _ (Nat.pow_pos (by decide)), Nat.add_mul_mod_self_right]

/-- the limbs of a number shifted down, as far as the first i -/
def rights (s : Nat) (l : List Nat) : Nat → List Nat
  | 0 => []
  | i + 1 => rights s l i ++ [((l[i]?.getD 0) + 4294967296 * (l[i + 1]?.getD 0)) / 2 ^ s % 4294967296]
theorem length_rights (s : Nat) (l : List Nat) (i : Nat) : (rights s l i).length = i := by
  induction i with
  | zero => rfl
  | succ i ih => rw [rights, List.length_append, ih]; rfl
theorem small_rights (s : Nat) (l : List Nat) (i : Nat) : Small (rights s l i) := by
  induction i with
  | zero => exact small_nil
  | succ i ih => exact ih.append (small_cons (Nat.mod_lt _ (by decide)) small_nil)
theorem val_drop' (l : List Nat) (i : Nat) : val (l.drop i) = l[i]?.getD 0 + 4294967296 * val (l.drop (i + 1)) := by
  by_cases h : i < l.length
  · exact val_drop h
  · rw [List.drop_of_length_le (by omega), List.drop_of_length_le (by omega), List.getElem?_eq_none (by omega)]; rfl
theorem val_drop_div {l : List Nat} (hl : Small l) (i : Nat) : val (l.drop i) = val l / 4294967296 ^ i := by
  induction i with
  | zero => simp
  | succ i ih =>
    have h1 := val_drop' l i
    have h2 := hl.get i
    rw [Nat.pow_succ, ← Nat.div_div_eq_div_mul, ← ih, h1]
    omega
theorem val_rights {l : List Nat} (hl : Small l) {s : Nat} (hs : s < 32) (i : Nat) : val (rights s l i) = val l / 2 ^ s % 4294967296 ^ i := by
  induction i with
  | zero => simp [rights, val, Nat.mod_one]
  | succ i ih =>
    rw [rights, val_append, length_rights, val_one, ih]
    have e : ((l[i]?.getD 0) + 4294967296 * (l[i + 1]?.getD 0)) / 2 ^ s % 4294967296 = val l / 2 ^ s / 4294967296 ^ i % 4294967296 := by
      rw [right_limb (z := val (l.drop (i + 1 + 1))) hs, ← val_drop', ← val_drop', val_drop_div hl, Nat.div_div_eq_div_mul, Nat.div_div_eq_div_mul, Nat.mul_comm]
    rw [e, Nat.mod_pow_succ]
theorem rights_end {l : List Nat} (hl : Small l) {s k : Nat} (hs : s < 32) (hk : l.length ≤ k) : val (rights s l k) = val l / 2 ^ s := by
  rw [val_rights hl hs, Nat.mod_eq_of_lt]
  have h1 := val_lt hl
  have h2 : 4294967296 ^ l.length ≤ 4294967296 ^ k := Nat.pow_le_pow_right (by decide) hk
  have h3 := Nat.div_le_self (val l) (2 ^ s)
  omega
theorem rights_fill (s : Nat) (l : List Nat) (k m : Nat) (h : k < m) :
    (rights s l k ++ List.replicate (m - k) 0).set k (((l[k]?.getD 0) + 4294967296 * (l[k + 1]?.getD 0)) / 2 ^ s % 4294967296) = rights s l (k + 1) ++ List.replicate (m - (k + 1)) 0 := by
  have e : m - k = (m - (k + 1)) + 1 := by omega
  rw [List.set_append_right _ _ (by rw [length_rights]; omega), length_rights, Nat.sub_self, e, List.replicate_succ, List.set_cons_zero, rights, List.append_assoc]
  rfl

def blenF : Nat → Nat → Nat
  | 0, _ => 0
  | k + 1, n => if n = 0 then 0 else blenF k (n / 2) + 1
/-- how many bits -/
def blen (n : Nat) : Nat := blenF n n
theorem blenF_eq : ∀ (k m n : Nat), n ≤ k → n ≤ m → blenF k n = blenF m n := by
  intro k
  induction k with
  | zero => intro m n h _; obtain rfl : n = 0 := by omega
            cases m <;> simp [blenF]
  | succ k ih =>
    intro m n h hm
    cases m with
    | zero => obtain rfl : n = 0 := by omega
              simp [blenF]
    | succ m =>
      simp only [blenF]
      split
      · rfl
      · rw [ih m (n / 2) (by omega) (by omega)]
theorem blen_zero : blen 0 = 0 := rfl
theorem blen_pos {n : Nat} (h : 0 < n) : blen n = blen (n / 2) + 1 := by
  unfold blen
  cases n with
  | zero => omega
  | succ k => rw [blenF, if_neg (by omega), blenF_eq k ((k + 1) / 2) _ (by omega) (by omega)]
theorem lt_pow_blen (n : Nat) : n < 2 ^ blen n := by
  induction n using Nat.strongRecOn with
  | _ n ih =>
    cases Nat.eq_zero_or_pos n with
    | inl h => subst h; decide
    | inr hp => rw [blen_pos hp, Nat.pow_succ]; have := ih (n / 2) (by omega); omega
theorem pow_blen_le {n : Nat} (h : 0 < n) : 2 ^ (blen n - 1) ≤ n := by
  induction n using Nat.strongRecOn with
  | _ n ih =>
    rw [blen_pos h, Nat.add_sub_cancel]
    cases Nat.eq_zero_or_pos (n / 2) with
    | inl h0 => rw [h0, blen_zero]; simp; omega
    | inr hp =>
      have h1 := ih _ (by omega) hp
      rw [blen_pos hp, Nat.add_sub_cancel] at h1
      rw [blen_pos hp, Nat.pow_succ]
      omega
theorem blen_le_of_lt {n k : Nat} (h : n < 2 ^ k) : blen n ≤ k := by
  cases Nat.eq_zero_or_pos n with
  | inl h0 => subst h0; simp [blen_zero]
  | inr hp =>
    have h1 := pow_blen_le hp
    have h3 : blen n - 1 < k := (Nat.pow_lt_pow_iff_right (by omega)).1 (Nat.lt_of_le_of_lt h1 h)
    omega
theorem blen_shift {n : Nat} (k : Nat) (h : 2 ^ k ≤ n) : blen n = k + blen (n / 2 ^ k) := by
  induction k with
  | zero => simp
  | succ k ih =>
    have e : 2 ^ k ≤ n := by rw [Nat.pow_succ] at h; omega
    have h2 : 0 < n / 2 ^ k := Nat.div_pos e (Nat.pow_pos (by decide))
    rw [ih e, blen_pos h2, Nat.div_div_eq_div_mul, Nat.pow_succ]
    omega
theorem blen_eq_zero {n : Nat} : blen n = 0 ↔ n = 0 := by
  constructor
  · intro h
    cases Nat.eq_zero_or_pos n with
    | inl h => exact h
    | inr hp => rw [blen_pos hp] at h; omega
  · rintro rfl; rfl

theorem limbs_inj {m n : Nat} (h : limbs m = limbs n) : m = n := by
  have := congrArg val h
  rwa [val_limbs, val_limbs] at this

end Go.Mt
/-
  A part of the proof.
-/
set_option linter.unusedSimpArgs false
set_option linter.unusedVariables false
namespace Go.Mt
theorem top_bit {n : Nat} (h : n < 4294967296) : n / 2147483648 = (n.testBit 31).toNat := by
  rw [Nat.testBit_eq_decide_div_mod_eq]
  have e : (2 : Nat) ^ 31 = 2147483648 := by decide
  rw [e]
  by_cases h1 : n / 2147483648 % 2 = 1
  · rw [decide_eq_true h1]; simp; omega
  · rw [decide_eq_false h1]; simp; omega
theorem testBit31 {n : Nat} (h : n < 4294967296) : n.testBit 31 = decide (2147483648 ≤ n) := by
  rw [Nat.testBit_eq_decide_div_mod_eq]
  have e : (2 : Nat) ^ 31 = 2147483648 := by decide
  rw [e, decide_eq_decide]
  omega
theorem borrow_nat (x y s d : Nat) (hx : x < 4294967296) (hy : y < 4294967296) (hs : s ≤ 1) (hd : d < 4294967296) (h : d + y + s = x + 4294967296 * (if x < y + s then 1 else 0)) :
    (((4294967295 ^^^ x) &&& y) ||| ((4294967295 ^^^ (x ^^^ y)) &&& d)) / 2147483648 = if x < y + s then 1 else 0 := by
  have e2 : (4294967296 : Nat) = 2 ^ 32 := by decide
  have hl : (((4294967295 ^^^ x) &&& y) ||| ((4294967295 ^^^ (x ^^^ y)) &&& d)) < 4294967296 := by
    rw [e2] at *
    exact Nat.or_lt_two_pow (Nat.and_lt_two_pow _ hy) (Nat.and_lt_two_pow _ hd)
  rw [top_bit hl]
  simp only [Nat.testBit_or, Nat.testBit_and, Nat.testBit_xor]
  rw [testBit31 hx, testBit31 hy, testBit31 hd, testBit31 (by decide : 4294967295 < 4294967296)]
  split at h
  · rename_i hc
    rw [if_pos hc]
    by_cases h1 : 2147483648 ≤ x <;> by_cases h2 : 2147483648 ≤ y <;> by_cases h3 : 2147483648 ≤ d <;> simp [h1, h2, h3] <;> omega
  · rename_i hc
    rw [if_neg hc]
    by_cases h1 : 2147483648 ≤ x <;> by_cases h2 : 2147483648 ≤ y <;> by_cases h3 : 2147483648 ≤ d <;> simp [h1, h2, h3] <;> omega
theorem sub_int (x y s : Nat) (hx : x < 4294967296) (hy : y < 4294967296) (hs : s ≤ 1) : ((x : Int) - y - s) % 4294967296 = ((subOut s x y : Nat) : Int) := by
  unfold subOut
  have e : (((x + 4294967296 - y - s) % 4294967296 : Nat) : Int) = ((x : Int) + 4294967296 - y - s) % 4294967296 := by omega
  rw [e]
  omega
theorem band {x y : Nat} (hx : x < 4294967296) (hy : y < 4294967296) : ((BitVec.ofInt 32 (x : Int) &&& BitVec.ofInt 32 (y : Int)).toNat : Int) % 4294967296 = ((x &&& y : Nat) : Int) := by
  have : x &&& y < 2 ^ 32 := Nat.and_lt_two_pow _ hy
  simp [BitVec.toNat_and, Nat.mod_eq_of_lt hx, Nat.mod_eq_of_lt hy]
  omega
theorem bor {x y : Nat} (hx : x < 4294967296) (hy : y < 4294967296) : ((BitVec.ofInt 32 (x : Int) ||| BitVec.ofInt 32 (y : Int)).toNat : Int) % 4294967296 = ((x ||| y : Nat) : Int) := by
  have : x ||| y < 2 ^ 32 := Nat.or_lt_two_pow hx hy
  simp [BitVec.toNat_or, Nat.mod_eq_of_lt hx, Nat.mod_eq_of_lt hy]
  omega
theorem bxor {x y : Nat} (hx : x < 4294967296) (hy : y < 4294967296) : ((BitVec.ofInt 32 (x : Int) ^^^ BitVec.ofInt 32 (y : Int)).toNat : Int) % 4294967296 = ((x ^^^ y : Nat) : Int) := by
  have : x ^^^ y < 2 ^ 32 := Nat.xor_lt_two_pow hx hy
  simp [BitVec.toNat_xor, Nat.mod_eq_of_lt hx, Nat.mod_eq_of_lt hy]
  omega
end Go.Mt
