/-
  The pure machine: regions that draw their order.
-/
import Derived.Test.YtaipmgpgklilkaaPmL
import Derived.OrdersIn
set_option linter.unusedSimpArgs false
set_option linter.unusedVariables false
namespace Go.Pm
open Go.RowKit

/-! ### overlays -/
section
variable {α : Type}
def lk : List (Nat × α) → Nat → Option α
  | [], _ => none
  | (u, p) :: l, t => if u = t then some p else lk l t
def ovr : List (List (Nat × α)) → (Nat → Bool) → Nat → List (Nat × α) → List (Nat × α)
  | [], _, _, b => b
  | u :: us, L, k, b => ovr us L (k + 1) (if L k then u ++ b else b)
theorem lk_append (u b : List (Nat × α)) (id : Nat) : lk (u ++ b) id = if id ∈ u.map (·.1) then lk u id else lk b id := by
  induction u with
  | nil => simp
  | cons x u ih =>
    obtain ⟨k, p⟩ := x
    simp only [List.cons_append, lk, List.map_cons, List.mem_cons, ih]
    by_cases h : k = id
    · simp [h]
    · have h' : ¬ id = k := fun e => h e.symm
      simp only [if_neg h]
      by_cases hm : id ∈ u.map (·.1)
      · rw [if_pos hm, if_pos (.inr hm)]
      · rw [if_neg hm, if_neg (fun x => x.elim h' hm)]
theorem ovr_agree {L1 L2 : Nat → Bool} {id : Nat} : ∀ (us : List (List (Nat × α))) (k0 : Nat) (b1 b2 : List (Nat × α)), (∀ k u, us[k]? = some u → id ∈ u.map (·.1) → L1 (k0 + k) = L2 (k0 + k)) → lk b1 id = lk b2 id →
    lk (ovr us L1 k0 b1) id = lk (ovr us L2 k0 b2) id
  | [], _, _, _, _, hb => hb
  | u :: us, k0, b1, b2, h, hb => by
    simp only [ovr]
    refine ovr_agree us (k0 + 1) _ _ (fun k v hv hi => by have := h (k + 1) v hv hi; rw [show k0 + (k + 1) = k0 + 1 + k by omega] at this; exact this) ?_
    have h0 := h 0 u rfl
    by_cases hi : id ∈ u.map (·.1)
    · have := h0 hi
      simp only [Nat.add_zero] at this
      rw [this]
      split
      · rw [lk_append, lk_append, if_pos hi, if_pos hi]
      · exact hb
    · have e : ∀ (c : Bool) (b : List (Nat × α)), lk (if c then u ++ b else b) id = lk b id := fun c b => by cases c <;> simp [lk_append, hi]
      rw [e, e, hb]
theorem ovr_last {L : Nat → Bool} {id : Nat} : ∀ (us : List (List (Nat × α))) (k0 i : Nat) (b u : List (Nat × α)), us[i]? = some u → id ∈ u.map (·.1) → L (k0 + i) = true → (∀ k v, i < k → us[k]? = some v → id ∈ v.map (·.1) → L (k0 + k) = false) →
    lk (ovr us L k0 b) id = lk u id
  | [], _, _, _, _, h, _, _, _ => by cases h
  | v :: us, k0, 0, b, u, h, hi, hL, hlast => by
    cases h
    simp only [ovr]
    rw [show L k0 = true by simpa using hL, if_pos rfl]
    rw [ovr_agree (L2 := fun _ => false) us (k0 + 1) _ (v ++ b) (fun k w hw hiw => by have := hlast (k + 1) w (by omega) hw hiw; rw [show k0 + (k + 1) = k0 + 1 + k by omega] at this; exact this) rfl]
    have : ∀ (us : List (List (Nat × α))) (k : Nat) (c : List (Nat × α)), ovr us (fun _ => false) k c = c := fun us => by
      induction us with
      | nil => intros; rfl
      | cons w us ih => intro k c; simp only [ovr]; exact ih _ _
    rw [this, lk_append, if_pos hi]
  | v :: us, k0, i + 1, b, u, h, hi, hL, hlast => by
    simp only [ovr]
    exact ovr_last us (k0 + 1) i _ u h hi (by rw [show k0 + 1 + i = k0 + (i + 1) by omega]; exact hL) (fun k w hk hw hiw => by have := hlast (k + 1) w (by omega) hw hiw; rw [show k0 + (k + 1) = k0 + 1 + k by omega] at this; exact this)
end
theorem hget_lk (h : Heap) (id : Nat) : hget h id = lk h id := by
  induction h with
  | nil => rfl
  | cons x h ih => obtain ⟨k, p⟩ := x; simp only [hget, lk, ih]
theorem get_lk (t : Slots) (u : Nat) : get t u = (lk t u).getD .any := by
  induction t with
  | nil => rfl
  | cons x t ih => obtain ⟨k, p⟩ := x; simp only [get, lk]; split <;> simp [ih]

/-! ### the steps of a region, as a list -/
structure Ent where
  skip : Bool
  r : PV
  U : Heap
  rd : List Nat
def slotU (o : Oper) (x : Ent) : Slots := match o.dst with
  | some d => [(d, x.r)]
  | none => []
def runL (L : Nat → Bool) : Nat → List Oper → List Ent → St → St
  | k, o :: os, x :: xs, σ => runL L (k + 1) os xs (if L k then stepS σ o.dst x.r x.U else σ)
  | _, _, _, σ => σ
theorem runL_t (L : Nat → Bool) : ∀ (l : List Oper) (xs : List Ent) (k : Nat) (σ : St), (runL L k l xs σ).t = ovr (List.zipWith slotU l xs) L k σ.t ∧ (runL L k l xs σ).h = ovr ((List.zipWith (fun _ x => x.U) l xs)) L k σ.h ∧ (runL L k l xs σ).m = σ.m ∧ (runL L k l xs σ).n = σ.n
  | [], _, k, σ => ⟨rfl, rfl, rfl, rfl⟩
  | _ :: _, [], k, σ => ⟨rfl, rfl, rfl, rfl⟩
  | o :: os, x :: xs, k, σ => by
    obtain ⟨h1, h2, h3, h4⟩ := runL_t L os xs (k + 1) (if L k then stepS σ o.dst x.r x.U else σ)
    simp only [runL, List.zipWith_cons_cons, ovr]
    refine ⟨h1.trans ?_, h2.trans ?_, h3.trans ?_, h4.trans ?_⟩
    · congr 1; cases L k with
      | true => simp only [if_true, stepS, putS, slotU]; cases o.dst <;> rfl
      | false => rfl
    · congr 1; cases L k <;> rfl
    · cases L k <;> rfl
    · cases L k <;> rfl

def GuardIs (ops : Array Oper) (g : Option (Nat × Bool)) (t : Slots) (b : Bool) : Prop := match g with
  | none => b = true
  | some (j, want) => ∃ d, (ops[j]?).bind (·.dst) = some d ∧ ((∃ c, get t d = .d (.v (.bool c)) ∧ b = (c == want)) ∨ ∃ vs, get t d = .d (.v (.tuple vs)) ∧ b = false)
def EntOk (P : Program) (ops : Array Oper) (o : Oper) (nid : Nat) (σ : St) (x : Ent) : Prop :=
  GuardIs ops o.guard σ.t (!x.skip) ∧ (x.skip = true → x.r = .d (.v undef) ∧ x.U = [] ∧ x.rd = []) ∧ (x.skip = false → vcOp P o nid σ (Same σ x.r x.U x.rd))

theorem guardV_is {ops : Array Oper} {g : Option (Nat × Bool)} {σ : St} {k1 k2 : St → Prop} (h : guardV ops g σ k1 k2) : (GuardIs ops g σ.t true ∧ k1 σ) ∨ (GuardIs ops g σ.t false ∧ k2 σ) := by
  unfold guardV at h
  split at h
  · exact .inl ⟨rfl, h⟩
  · rename_i j want
    split at h
    · rename_i d hd
      split at h
      · rename_i c hc
        cases e : (c == want) with
        | true => exact .inl ⟨⟨d, hd, .inl ⟨c, hc, e.symm⟩⟩, h.1 e⟩
        | false => exact .inr ⟨⟨d, hd, .inl ⟨c, hc, e.symm⟩⟩, h.2 e⟩
      · rename_i vs hc
        exact .inr ⟨⟨d, hd, .inr ⟨vs, hc, rfl⟩⟩, h⟩
      · exact h.elim
    · exact h.elim

theorem opY_no {P : Program} {o : Oper} {nid : Nat} {σ : St} {K : Kt} (h : opY P noM o nid σ K) : vcOp P o nid σ K := by
  unfold opY at h
  split at h
  · exact h.elim
  · exact h
theorem chain_of {P : Program} {ops : Array Oper} {kk : St → Log → Prop} : ∀ (l : List Oper) (i : Nat) (log : Log) (σ : St), vcOps P noM ops l i log kk σ →
    ∃ xs : List Ent, xs.length = l.length ∧ kk (runL (fun _ => true) 0 l xs σ) (log ++ xs.map fun x => (x.rd, x.U.map (·.1))) ∧
      ∀ k o x, l[k]? = some o → xs[k]? = some x → dstOk σ.m o.dst ∧ EntOk P ops o (σ.n + 4 * (i + k)) (runL (fun _ => true) 0 (l.take k) (xs.take k) σ) x
  | [], i, log, σ, h => ⟨[], rfl, by rw [List.map_nil, List.append_nil]; exact h, fun k o x hk => by cases hk⟩
  | o :: os, i, log, σ, h => by
    have run0 : ∀ (l : List Oper) (xs : List Ent) (k k' : Nat) (σ : St), runL (fun _ => true) k l xs σ = runL (fun _ => true) k' l xs σ := fun l => by
      induction l with
      | nil => intros; rfl
      | cons o l ih =>
        intro xs k k' σ
        cases xs with
        | nil => rfl
        | cons x xs => simp only [runL, if_true]; exact ih xs _ _ _
    obtain ⟨hd, h⟩ := h
    have fin : ∀ (x : Ent) (σ' : St), σ' = stepS σ o.dst x.r x.U → EntOk P ops o (σ.n + 4 * i) σ x → vcOps P noM ops os (i + 1) (log ++ [(x.rd, x.U.map (·.1))]) kk σ' → ∃ xs : List Ent, xs.length = (o :: os).length ∧ kk (runL (fun _ => true) 0 (o :: os) xs σ) (log ++ xs.map fun x => (x.rd, x.U.map (·.1))) ∧
      ∀ k o' x, (o :: os)[k]? = some o' → xs[k]? = some x → dstOk σ.m o'.dst ∧ EntOk P ops o' (σ.n + 4 * (i + k)) (runL (fun _ => true) 0 ((o :: os).take k) (xs.take k) σ) x := fun x σ' hσ hx hh => by
      subst hσ
      obtain ⟨xs, h1, h2, h3⟩ := chain_of os (i + 1) _ _ hh
      refine ⟨x :: xs, by simp [h1], ?_, fun k o' y hk hy => ?_⟩
      · rw [List.append_assoc] at h2
        simp only [runL, if_true, List.map_cons]
        rw [run0 os xs (0 + 1) 0]
        exact h2
      · cases k with
        | zero => cases hk; cases hy; exact ⟨hd, hx⟩
        | succ k =>
          obtain ⟨g1, g2⟩ := h3 k o' y hk hy
          refine ⟨g1, ?_⟩
          simp only [List.take_succ_cons, runL, if_true]
          rw [run0 _ _ (0 + 1) 0, show i + (k + 1) = i + 1 + k by omega]
          exact g2
    rcases guardV_is h with ⟨hg, h⟩ | ⟨hg, h⟩
    · obtain ⟨r, U, Rd, h1, h2⟩ := vcOp_loc (opY_no h)
      exact fin ⟨false, r, U, Rd⟩ _ rfl ⟨hg, fun e => (by cases e), fun _ => h2 σ (fun _ _ => rfl) (fun _ _ => rfl)⟩ h1
    · exact fin ⟨true, .d (.v undef), [], []⟩ _ rfl ⟨hg, fun _ => ⟨rfl, rfl, rfl⟩, fun e => by cases e⟩ h

/-! ### which operations an operation waits for -/
def befOf (acc : List Nat) (o : Oper) : Nat := o.after.toList.foldl (fun s e => if Region.binds .any e then s ||| (2 ^ e.on ||| acc.getD e.on 0) else s) 0
def befs : List Oper → List Nat → List Nat
  | [], acc => acc
  | o :: os, acc => befs os (acc ++ [befOf acc o])
theorem befOf_bit {acc : List Nat} {i : Nat} : ∀ (l : List Edge) (s : Nat), (l.foldl (fun s e => if Region.binds .any e then s ||| (2 ^ e.on ||| acc.getD e.on 0) else s) s).testBit i = true →
    s.testBit i = true ∨ ∃ e ∈ l, Region.binds .any e = true ∧ (e.on = i ∨ (acc.getD e.on 0).testBit i = true)
  | [], s, h => .inl h
  | e :: l, s, h => by
    simp only [List.foldl_cons] at h
    rcases befOf_bit l _ h with h1 | ⟨e', h1, h2⟩
    · by_cases hb : Region.binds .any e = true
      · rw [if_pos hb, Nat.testBit_or, Nat.testBit_or, Bool.or_eq_true, Bool.or_eq_true] at h1
        rcases h1 with h1 | h1 | h1
        · exact .inl h1
        · rw [Nat.testBit_two_pow] at h1
          exact .inr ⟨e, List.mem_cons_self, hb, .inl (by simpa using h1)⟩
        · exact .inr ⟨e, List.mem_cons_self, hb, .inr h1⟩
      · rw [if_neg hb] at h1
        exact .inl h1
    · exact .inr ⟨e', List.mem_cons_of_mem _ h1, h2⟩
/-- all that an operation waits for is there, and what that waits for -/
def closed (ops : List Oper) (L : Nat → Bool) : Prop := ∀ j o, ops[j]? = some o → L j = true → ∀ e ∈ o.after.toList, Region.binds .any e = true → L e.on = true
theorem befs_spec {ops : List Oper} {L : Nat → Bool} (hc : closed ops L) : ∀ (l done : List Oper) (acc : List Nat), ops = done ++ l → acc.length = done.length →
    (∀ j i, j < acc.length → (acc.getD j 0).testBit i = true → (∀ o, ops[j]? = some o → ∀ e ∈ o.after.toList, Region.binds .any e = true → L e.on = true) → L i = true) →
    ∀ j i, ((befs l acc).getD j 0).testBit i = true → (∀ o, ops[j]? = some o → ∀ e ∈ o.after.toList, Region.binds .any e = true → L e.on = true) → L i = true
  | [], done, acc, ho, hl, h, j, i, hb, hr => by
    by_cases hj : j < acc.length
    · exact h j i hj hb hr
    · rw [befs, List.getD_eq_getElem?_getD, List.getElem?_eq_none (by omega)] at hb
      simp at hb
  | o :: os, done, acc, ho, hl, h, j, i, hb, hr => by
    refine befs_spec hc os (done ++ [o]) (acc ++ [befOf acc o]) (by rw [ho]; simp) (by simp [hl]) (fun j' i' hj' hb' hr' => ?_) j i hb hr
    by_cases hlt : j' < acc.length
    · rw [List.getD_eq_getElem?_getD, List.getElem?_append_left hlt, ← List.getD_eq_getElem?_getD] at hb'
      exact h j' i' hlt hb' hr'
    · have : j' = acc.length := by simp at hj'; omega
      subst this
      have hoj : ops[acc.length]? = some o := by rw [ho, hl, List.getElem?_append_right (Nat.le_refl _)]; simp
      rw [List.getD_eq_getElem?_getD, List.getElem?_append_right (Nat.le_refl _)] at hb'
      simp only [Nat.sub_self, List.getElem?_cons_zero, Option.getD_some] at hb'
      rcases befOf_bit _ _ hb' with h1 | ⟨e, h1, h2, h3⟩
      · simp at h1
      · have hLe := hr' o hoj e h1 h2
        rcases h3 with h3 | h3
        · rw [← h3]; exact hLe
        · by_cases hlt' : e.on < acc.length
          · exact h e.on i' hlt' h3 (fun o' ho' e' he' hb' => hc e.on o' ho' hLe e' he' hb')
          · rw [List.getD_eq_getElem?_getD, List.getElem?_eq_none (by omega)] at h3
            simp at h3

/-- the slots that an operation looks at -/
def looks (ops : Array Oper) (o : Oper) : List Nat := (o.op.operands.toList.filterMap fun
  | .tmp t => some t
  | _ => none) ++ (match o.guard with
  | some (g, _) => ((ops[g]?).bind (·.dst)).toList
  | none => [])
def disj (a b : List Nat) : Bool := a.all fun x => !b.contains x
def pairOk (ops : Array Oper) (log : Log) (i j : Nat) : Bool := match ops[i]?, ops[j]?, log[i]?, log[j]? with
  | some oi, some oj, some li, some lj => disj oi.dst.toList (looks ops oj) && disj oj.dst.toList (looks ops oi) && disj oi.dst.toList oj.dst.toList && disj li.2 (lj.1 ++ lj.2) && disj lj.2 li.1
  | _, _, _, _ => false
def raceOk (ops : Array Oper) (log : Log) : Bool :=
  (List.range ops.size).all fun j => (match ops[j]? with
    | some o => o.after.toList.all fun e => !Region.binds .any e || decide (e.on < j)
    | none => true) && (List.range j).all fun i => ((befs ops.toList []).getD j 0).testBit i || pairOk ops log i j

theorem disj_spec {a b : List Nat} (h : disj a b = true) : ∀ x ∈ a, ¬ x ∈ b := fun x hx hb => by
  have := List.all_eq_true.1 h x hx
  simp [hb] at this

section
variable {P : Program} {E : Env} {ops : Array Oper} {σ : St} {xs : List Ent} {log : Log}

theorem raceOk_spec (h : raceOk ops log = true) : (∀ j o, ops[j]? = some o → ∀ e ∈ o.after.toList, Region.binds .any e = true → e.on < j) ∧
    ∀ i j, i < j → j < ops.size → ((befs ops.toList []).getD j 0).testBit i = true ∨ pairOk ops log i j = true := by
  have h := List.all_eq_true.1 h
  refine ⟨fun j o ho e he hb => ?_, fun i j hij hj => ?_⟩
  · have hj : j < ops.size := (Array.getElem?_eq_some_iff.1 ho).1
    have := h j (List.mem_range.2 hj)
    rw [Bool.and_eq_true, ho] at this
    have := List.all_eq_true.1 this.1 e he
    simp [hb] at this
    exact this
  · have := h j (List.mem_range.2 hj)
    rw [Bool.and_eq_true] at this
    have := List.all_eq_true.1 this.2 i (List.mem_range.2 hij)
    simpa using this

/-- unordered operations do not meet -/
theorem pair_apart (h : raceOk ops log = true) {L : Nat → Bool} (hc : closed ops.toList L) {i k : Nat} (hk : k < ops.size) (hi : i < ops.size) (hik : i ≠ k) (hLi : L i = false) (hri : ∀ o, ops[i]? = some o → ∀ e ∈ o.after.toList, Region.binds .any e = true → L e.on = true)
    (hun : (k < i ∧ L k = false) ∨ (i < k ∧ L k = true)) : pairOk ops log (min i k) (max i k) = true := by
  obtain ⟨_, h2⟩ := raceOk_spec h
  have spec := befs_spec hc ops.toList [] [] (by simp) rfl (fun j i hj => by cases hj)
  rcases hun with ⟨h3, h4⟩ | ⟨h3, h4⟩
  · rw [Nat.min_eq_right (by omega), Nat.max_eq_left (by omega)]
    rcases h2 k i h3 hi with h5 | h5
    · have := spec i k h5 (fun o ho => hri o (by simpa using ho))
      rw [h4] at this; cases this
    · exact h5
  · rw [Nat.min_eq_left (by omega), Nat.max_eq_right (by omega)]
    rcases h2 i k h3 hk with h5 | h5
    · have := spec k i h5 (fun o ho e he hb => hc k o ho h4 e he hb)
      rw [hLi] at this; cases this
    · exact h5

structure Apart (ops : Array Oper) (log : Log) (i k : Nat) : Prop where
  look : ∀ o o', ops[i]? = some o → ops[k]? = some o' → ∀ d, o'.dst = some d → ¬ d ∈ looks ops o
  dst : ∀ o o', ops[i]? = some o → ops[k]? = some o' → ∀ d, o.dst = some d → ¬ o'.dst = some d
  read : ∀ x y, log[i]? = some x → log[k]? = some y → ∀ id ∈ y.2, ¬ id ∈ x.1
  touch : ∀ x y, log[i]? = some x → log[k]? = some y → ∀ id ∈ x.2, ¬ id ∈ y.2
theorem apart_of {i k : Nat} (h : pairOk ops log (min i k) (max i k) = true) : Apart ops log i k := by
  unfold pairOk at h
  split at h
  · rename_i oi oj li lj h1 h2 h3 h4
    simp only [Bool.and_eq_true] at h
    obtain ⟨⟨⟨⟨g1, g2⟩, g3⟩, g4⟩, g5⟩ := h
    have g1 := disj_spec g1
    have g2 := disj_spec g2
    have g3 := disj_spec g3
    have g4 := disj_spec g4
    have g5 := disj_spec g5
    rcases Nat.le_total i k with hik | hik
    · rw [Nat.min_eq_left hik] at h1 h3
      rw [Nat.max_eq_right hik] at h2 h4
      refine ⟨fun o o' a b d hd => ?_, fun o o' a b d hd hd' => ?_, fun x y a b id hid hx => ?_, fun x y a b id hid hy => ?_⟩
      · rw [h1] at a; rw [h2] at b; cases a; cases b; exact g2 d (by simp [hd])
      · rw [h1] at a; rw [h2] at b; cases a; cases b; exact g3 d (by simp [hd]) (by simp [hd'])
      · rw [h3] at a; rw [h4] at b; cases a; cases b; exact g5 id hid hx
      · rw [h3] at a; rw [h4] at b; cases a; cases b; exact g4 id hid (by simp [hy])
    · rw [Nat.min_eq_right hik] at h1 h3
      rw [Nat.max_eq_left hik] at h2 h4
      refine ⟨fun o o' a b d hd => ?_, fun o o' a b d hd hd' => ?_, fun x y a b id hid hx => ?_, fun x y a b id hid hy => ?_⟩
      · rw [h2] at a; rw [h1] at b; cases a; cases b; exact g1 d (by simp [hd])
      · rw [h2] at a; rw [h1] at b; cases a; cases b; exact g3 d (by simp [hd']) (by simp [hd])
      · rw [h4] at a; rw [h3] at b; cases a; cases b; exact g4 id hid (by simp [hx])
      · rw [h4] at a; rw [h3] at b; cases a; cases b; exact g4 id hy (by simp [hid])
  · cases h
end

/-! ### any order -/
def cnt (L : Nat → Bool) : Nat → Nat
  | 0 => 0
  | k + 1 => cnt L k + if L k then 0 else 1
theorem cnt_zero {L : Nat → Bool} : ∀ {n : Nat}, cnt L n = 0 → ∀ k, k < n → L k = true
  | n + 1, h, k, hk => by
    simp only [cnt] at h
    by_cases hkn : k = n
    · subst hkn
      cases hL : L k with
      | true => rfl
      | false => rw [hL] at h; simp at h
    · exact cnt_zero (n := n) (by omega) k (by omega)
theorem cnt_set {L L' : Nat → Bool} {i : Nat} (hi : L i = false) (hi' : L' i = true) (h : ∀ k, k ≠ i → L' k = L k) : ∀ {n : Nat}, (i < n → cnt L' n + 1 = cnt L n) ∧ (n ≤ i → cnt L' n = cnt L n)
  | 0 => ⟨fun h => by omega, fun _ => rfl⟩
  | n + 1 => by
    obtain ⟨h1, h2⟩ := cnt_set hi hi' h (n := n)
    refine ⟨fun hlt => ?_, fun hle => ?_⟩
    · simp only [cnt]
      by_cases hin : i = n
      · subst hin
        rw [h2 (Nat.le_refl _), hi, hi']
        simp
      · rw [h n (Ne.symm hin)]
        have := h1 (by omega)
        omega
    · simp only [cnt]
      rw [h2 (by omega), h n (by omega)]

section
variable {P : Program} {E : Env} {ops : Array Oper} {σ : St} {xs : List Ent} {log : Log} {Q : Exit → Act → World → Prop}

abbrev isL (listed : Array Bool) : Nat → Bool := fun k => listed.getD k false

theorem slotU_mem {o : Oper} {x : Ent} {u : Nat} : u ∈ (slotU o x).map (·.1) ↔ o.dst = some u := by
  unfold slotU
  cases o.dst with
  | none => simp
  | some d => simp [eq_comm]

theorem zip_get {β : Type} {f : Oper → Ent → β} {l : List Oper} {xs : List Ent} {k : Nat} {y : β} (h : (List.zipWith f l xs)[k]? = some y) : ∃ o x, l[k]? = some o ∧ xs[k]? = some x ∧ y = f o x := by
  rw [List.getElem?_zipWith] at h
  split at h
  · rename_i o x h1 h2
    cases h
    exact ⟨o, x, h1, h2, rfl⟩
  · cases h

/-- what the listed operations have left, seen through one slot or one object -/
theorem seen_slot {L1 L2 : Nat → Bool} {u : Nat} {l : List Oper} {xs : List Ent} (h : ∀ k o, l[k]? = some o → o.dst = some u → L1 k = L2 k) : get (runL L1 0 l xs σ).t u = get (runL L2 0 l xs σ).t u := by
  rw [get_lk, get_lk, (runL_t L1 l xs 0 σ).1, (runL_t L2 l xs 0 σ).1]
  congr 1
  refine ovr_agree _ 0 _ _ (fun k y hy hu => ?_) rfl
  obtain ⟨o, x, h1, h2, rfl⟩ := zip_get hy
  rw [Nat.zero_add]
  exact h k o h1 (slotU_mem.1 hu)
theorem seen_obj {L1 L2 : Nat → Bool} {id : Nat} {l : List Oper} {xs : List Ent} (h : ∀ k x, xs[k]? = some x → id ∈ x.U.map (·.1) → L1 k = L2 k) : hget (runL L1 0 l xs σ).h id = hget (runL L2 0 l xs σ).h id := by
  rw [hget_lk, hget_lk, (runL_t L1 l xs 0 σ).2.1, (runL_t L2 l xs 0 σ).2.1]
  refine ovr_agree _ 0 _ _ (fun k y hy hu => ?_) rfl
  obtain ⟨o, x, h1, h2, rfl⟩ := zip_get hy
  rw [Nat.zero_add]
  exact h k x h2 hu

theorem runL_all (L : Nat → Bool) : ∀ (l : List Oper) (xs : List Ent) (k : Nat) (σ : St), xs.length = l.length → (∀ j, j < l.length → L (k + j) = true) → runL L k l xs σ = runL (fun _ => true) k l xs σ
  | [], _, _, _, _, _ => rfl
  | _ :: _, [], _, _, h, _ => by cases h
  | o :: os, x :: xs, k, σ, h, hL => by
    simp only [runL]
    rw [show L k = true by simpa using hL 0 (by simp)]
    exact runL_all L os xs (k + 1) _ (by simpa using h) (fun j hj => by have := hL (j + 1) (by simp; omega); rw [show k + 1 + j = k + (j + 1) by omega]; exact this)

/-- the steps ahead of one, as a choice of all -/
theorem runL_take : ∀ (l : List Oper) (xs : List Ent) (i k : Nat) (σ : St), runL (fun _ => true) k (l.take i) (xs.take i) σ = runL (fun j => decide (j < k + i)) k l xs σ
  | [], xs, i, k, σ => by cases i <;> cases xs <;> rfl
  | o :: os, [], i, k, σ => by cases i <;> rfl
  | o :: os, x :: xs, 0, k, σ => by
    have none : ∀ (l : List Oper) (xs : List Ent) (k0 : Nat) (σ : St), k ≤ k0 → runL (fun j => decide (j < k + 0)) k0 l xs σ = σ := fun l => by
      induction l with
      | nil => intros; rfl
      | cons o l ih =>
        intro xs k0 σ hk
        cases xs with
        | nil => rfl
        | cons x xs => simp only [runL]; rw [if_neg (by simp; omega)]; exact ih xs (k0 + 1) σ (by omega)
    rw [none _ _ k σ (Nat.le_refl _)]
    rfl
  | o :: os, x :: xs, i + 1, k, σ => by
    simp only [List.take_succ_cons, runL, if_true]
    rw [if_pos (by simp), runL_take os xs i (k + 1)]
    congr 1
    funext j
    congr 1
    simp only [eq_iff_iff]
    omega

theorem any_sound {Φ : Fr} {ro : Option Nat} {n : Nat} (hx : xs.length = ops.size) (hrace : raceOk ops log = true) (hlog : log = xs.map fun x => (x.rd, x.U.map (·.1)))
    (hent : ∀ k o x, ops[k]? = some o → xs[k]? = some x → dstOk σ.m o.dst ∧ EntOk P ops o (σ.n + 4 * k) (runL (fun _ => true) 0 (ops.toList.take k) (xs.take k) σ) x)
    (hQ : ∀ loc kn a w, Conc E (bump (runL (fun _ => true) 0 ops.toList xs σ) ops.size) loc kn a w → In E Φ (hget (runL (fun _ => true) 0 ops.toList xs σ).h) loc kn w → DefsOk Φ.w.heap.size w a.defers → Q .normal a w) :
    ∀ (fuel : Nat) (listed : Array Bool) (loc : Locs) (kn : Nat → Prop) (a : Act) (w : World), listed.size = ops.size → cnt (isL listed) ops.size ≤ fuel → closed ops.toList (isL listed) →
      MC E (hget (runL (isL listed) 0 ops.toList xs σ).h) loc kn w → SlotsOk (cxOf E (hget (runL (isL listed) 0 ops.toList xs σ).h) loc w) (hget (runL (isL listed) 0 ops.toList xs σ).h) loc kn (runL (isL listed) 0 ops.toList xs σ).t a →
      a.tmps.size = σ.m → DefsOk Φ.w.heap.size w a.defers → (∀ id, kn id → id < σ.n ∨ ∃ k, k < ops.size ∧ isL listed k = true ∧ σ.n + 4 * k ≤ id ∧ id < σ.n + 4 * k + 4) → In E Φ (hget (runL (isL listed) 0 ops.toList xs σ).h) loc kn w → wpAnyIn (FW ro) n P .any ops Q fuel listed a w := by
  obtain ⟨hord, _⟩ := raceOk_spec hrace
  -- the end
  have fin : ∀ (listed : Array Bool) (loc : Locs) (kn : Nat → Prop) (a : Act) (w : World), listed.size = ops.size → closed ops.toList (isL listed) → Region.ready .any ops listed = [] →
      MC E (hget (runL (isL listed) 0 ops.toList xs σ).h) loc kn w → SlotsOk (cxOf E (hget (runL (isL listed) 0 ops.toList xs σ).h) loc w) (hget (runL (isL listed) 0 ops.toList xs σ).h) loc kn (runL (isL listed) 0 ops.toList xs σ).t a →
      a.tmps.size = σ.m → DefsOk Φ.w.heap.size w a.defers → (∀ id, kn id → id < σ.n ∨ ∃ k, k < ops.size ∧ isL listed k = true ∧ σ.n + 4 * k ≤ id ∧ id < σ.n + 4 * k + 4) → In E Φ (hget (runL (isL listed) 0 ops.toList xs σ).h) loc kn w → Q .normal a w := by
    intro listed loc kn a w hsz hcl hready hm hs hz hd hk hin
    have hall : ∀ j, j < ops.size → isL listed j = true := by
      intro j
      induction j using Nat.strongRecOn with
      | _ j ih =>
        intro hj
        cases hlj : isL listed j with
        | true => rfl
        | false =>
          have hmem : j ∈ Region.ready .any ops listed := by
            rw [mem_ready]
            refine ⟨?_, ops[j], by simp [hj], fun e he hb => ?_⟩
            · have hjl : j < listed.size := by omega
              simpa [isL, Array.getD, hjl] using hlj
            · have h1 := hord j ops[j] (by simp [hj]) e (by simpa using he) hb
              have h2 := ih e.on h1 (by omega)
              exact h2
          rw [hready] at hmem
          cases hmem
    have e := runL_all (isL listed) ops.toList xs 0 σ (by simpa using hx) (fun j hj => by rw [Nat.zero_add]; exact hall j (by simpa using hj))
    rw [e] at hm hs hin
    obtain ⟨_, _, em, en⟩ := runL_t (fun _ => true) ops.toList xs 0 σ
    refine hQ loc kn a w ⟨hm, hs, hz.trans em.symm, fun id hid => ?_⟩ hin hd
    show id < (runL (fun _ => true) 0 ops.toList xs σ).n + 4 * ops.size
    rw [en]
    rcases hk id hid with h1 | ⟨k, h1, _, _, h2⟩ <;> omega
  intro fuel
  induction fuel with
  | zero =>
    intro listed loc kn a w hsz hc hcl hm hs hz hd hk hin
    have hr : Region.ready .any ops listed = [] := by
      apply List.eq_nil_iff_forall_not_mem.2
      intro j hj
      obtain ⟨h1, o, h2, _⟩ := mem_ready.1 hj
      have hjs : j < ops.size := (Array.getElem?_eq_some_iff.1 h2).1
      have := cnt_zero (Nat.le_zero.1 hc) j hjs
      have hjl : j < listed.size := by omega
      simp only [isL, Array.getD, hjl, dif_pos] at this
      simp only [Array.getD, hjl, dif_pos] at h1
      rw [this] at h1
      cases h1
    exact ⟨hr, fin listed loc kn a w hsz hcl hr hm hs hz hd hk hin⟩
  | succ fuel ih =>
    intro listed loc kn a w hsz hc hcl hm hs hz hd hk hin
    refine ⟨fun hr => fin listed loc kn a w hsz hcl hr hm hs hz hd hk hin, fun i hi => ?_⟩
    obtain ⟨h1, o, ho, hpre⟩ := mem_ready.1 hi
    have his : i < ops.size := (Array.getElem?_eq_some_iff.1 ho).1
    have hil : i < listed.size := by omega
    have hLi : isL listed i = false := by simpa [isL, Array.getD, hil] using h1
    have hri : ∀ o', ops[i]? = some o' → ∀ e ∈ o'.after.toList, Region.binds .any e = true → isL listed e.on = true := fun o' ho' e he hb => by
      rw [ho] at ho'; cases ho'
      exact hpre e (by simpa using he) hb
    obtain ⟨x, hxi⟩ : ∃ x, xs[i]? = some x := ⟨_, List.getElem?_eq_getElem (by omega)⟩
    obtain ⟨hdst, hg, hsk, hvc⟩ := hent i o x ho hxi
    have hlogi : log[i]? = some (x.rd, x.U.map (·.1)) := by rw [hlog, List.getElem?_map, hxi]; rfl
    have hlog_k : ∀ (k : Nat) (y : Ent), xs[k]? = some y → log[k]? = some (y.rd, y.U.map (·.1)) := fun k y hy => by rw [hlog, List.getElem?_map, hy]; rfl
    -- apart from what is unordered
    have hap : ∀ k, k < ops.size → i ≠ k → ((k < i ∧ isL listed k = false) ∨ (i < k ∧ isL listed k = true)) → Apart ops log i k := fun k hk hne hun => apart_of (pair_apart hrace hcl hk his hne hLi hri hun)
    rw [runL_take] at hg hvc
    -- the slots that it looks at
    have hslot : ∀ u, u ∈ looks ops o → get (runL (isL listed) 0 ops.toList xs σ).t u = get (runL (fun j => decide (j < 0 + i)) 0 ops.toList xs σ).t u := fun u hu => seen_slot fun k o' hk hd' => by
      have hko : ops[k]? = some o' := by simpa using hk
      have hks : k < ops.size := (Array.getElem?_eq_some_iff.1 hko).1
      by_cases hlt : k < i
      · cases hLk : isL listed k with
        | true => simp [hlt]
        | false => exact absurd hu ((hap k hks (by omega) (.inl ⟨hlt, hLk⟩)).look o o' ho hko u hd')
      · by_cases hki : k = i
        · subst hki; rw [hLi]; simp
        · cases hLk : isL listed k with
          | false => simp; omega
          | true => exact absurd hu ((hap k hks (by omega) (.inr ⟨by omega, hLk⟩)).look o o' ho hko u hd')
    have hobj : ∀ id, id ∈ x.rd → hget (runL (isL listed) 0 ops.toList xs σ).h id = hget (runL (fun j => decide (j < 0 + i)) 0 ops.toList xs σ).h id := fun id hid => seen_obj fun k y hk hy => by
      have hks : k < ops.size := by have := (List.getElem?_eq_some_iff.1 hk).1; omega
      by_cases hlt : k < i
      · cases hLk : isL listed k with
        | true => simp [hlt]
        | false => exact absurd hid ((hap k hks (by omega) (.inl ⟨hlt, hLk⟩)).read _ _ hlogi (hlog_k k y hk) id hy)
      · by_cases hki : k = i
        · subst hki; rw [hLi]; simp
        · cases hLk : isL listed k with
          | false => simp; omega
          | true => exact absurd hid ((hap k hks (by omega) (.inr ⟨by omega, hLk⟩)).read _ _ hlogi (hlog_k k y hk) id hy)
    -- behind it
    obtain ⟨et, eh, em, en⟩ := runL_t (isL listed) ops.toList xs 0 σ
    have hsz' : (listed.setIfInBounds i true).size = ops.size := by simp [hsz]
    have hL'i : isL (listed.setIfInBounds i true) i = true := by simp [isL, Array.getD, hil]
    have hL'k : ∀ k, k ≠ i → isL (listed.setIfInBounds i true) k = isL listed k := fun k hk => by
      simp only [isL, Array.getD_eq_getD_getElem?]
      rw [Array.getElem?_setIfInBounds_ne (Ne.symm hk)]
    have hcnt : cnt (isL (listed.setIfInBounds i true)) ops.size ≤ fuel := by
      have := (cnt_set hLi hL'i hL'k (n := ops.size)).1 his
      omega
    have hcl' : closed ops.toList (isL (listed.setIfInBounds i true)) := fun j o' hj hLj e he hb => by
      have hke : ∀ k, isL listed k = true → isL (listed.setIfInBounds i true) k = true := fun k hk => by
        by_cases hki : k = i
        · subst hki; exact hL'i
        · rw [hL'k k hki]; exact hk
      by_cases hji : j = i
      · subst hji
        exact hke _ (hri o' (by simpa using hj) e he hb)
      · rw [hL'k j hji] at hLj
        exact hke _ (hcl j o' hj hLj e he hb)
    -- the state with it, through slots and objects
    have hgetS : ∀ u, get (runL (isL (listed.setIfInBounds i true)) 0 ops.toList xs σ).t u = get (putS (runL (isL listed) 0 ops.toList xs σ).t o.dst x.r) u := fun u => by
      by_cases hdu : o.dst = some u
      · rw [hdu]
        simp only [putS, get, if_true]
        rw [get_lk, (runL_t _ ops.toList xs 0 σ).1]
        have := ovr_last (L := isL (listed.setIfInBounds i true)) (id := u) (List.zipWith slotU ops.toList xs) 0 i σ.t (slotU o x) (by rw [List.getElem?_zipWith]; simp [ho, hxi]) (slotU_mem.2 hdu) (by rw [Nat.zero_add]; exact hL'i) (fun k v hik hv hu => by
          obtain ⟨o', y, g1, g2, rfl⟩ := zip_get hv
          have hko : ops[k]? = some o' := by simpa using g1
          have hks : k < ops.size := (Array.getElem?_eq_some_iff.1 hko).1
          rw [Nat.zero_add, hL'k k (by omega)]
          cases hLk : isL listed k with
          | false => rfl
          | true => exact absurd (slotU_mem.1 hu) ((hap k hks (by omega) (.inr ⟨hik, hLk⟩)).dst o o' ho hko u hdu))
        rw [this]
        simp [slotU, hdu, lk]
      · have e1 : get (putS (runL (isL listed) 0 ops.toList xs σ).t o.dst x.r) u = get (runL (isL listed) 0 ops.toList xs σ).t u := by
          cases hod : o.dst with
          | none => rfl
          | some d =>
            have : ¬ d = u := fun e => hdu (by rw [hod, e])
            simp only [putS, get, if_neg this]
        rw [e1]
        refine seen_slot fun k o' hk hd' => ?_
        by_cases hki : k = i
        · subst hki
          have : o' = o := by have hk' : ops[k]? = some o' := by simpa using hk
                              rw [ho] at hk'; exact (Option.some.inj hk').symm
          subst this
          exact absurd hd' hdu
        · exact hL'k k hki
    have hgetH : hget (runL (isL (listed.setIfInBounds i true)) 0 ops.toList xs σ).h = upd x.U (hget (runL (isL listed) 0 ops.toList xs σ).h) := funext fun id => by
      rw [← hget_append]
      rw [hget_lk (x.U ++ _), lk_append]
      by_cases hu : id ∈ x.U.map (·.1)
      · rw [if_pos hu, hget_lk, (runL_t _ ops.toList xs 0 σ).2.1]
        exact ovr_last (L := isL (listed.setIfInBounds i true)) (List.zipWith (fun _ x => x.U) ops.toList xs) 0 i σ.h x.U (by rw [List.getElem?_zipWith]; simp [ho, hxi]) hu (by rw [Nat.zero_add]; exact hL'i) (fun k v hik hv hu' => by
          obtain ⟨o', y, g1, g2, rfl⟩ := zip_get hv
          have hks : k < ops.size := by have := (List.getElem?_eq_some_iff.1 g2).1; omega
          rw [Nat.zero_add, hL'k k (by omega)]
          cases hLk : isL listed k with
          | false => rfl
          | true => exact absurd hu' ((hap k hks (by omega) (.inr ⟨hik, hLk⟩)).touch _ _ hlogi (hlog_k k y g2) id hu))
      · rw [if_neg hu, ← hget_lk]
        refine seen_obj fun k y hk hy => ?_
        by_cases hki : k = i
        · subst hki
          rw [hxi] at hk
          cases hk
          exact absurd hy hu
        · exact hL'k k hki
    have hput : ∀ v, (a.put o.dst v).tmps.size = σ.m ∧ (a.put o.dst v).defers = a.defers := fun v => by
      cases o.dst <;> simp [Act.put, hz]
    -- what the walk goes on with
    have go : ∀ (v : Value) (loc' : Locs) (kn' : Nat → Prop) (w' : World), Tr E (hget (runL (isL listed) 0 ops.toList xs σ).h) loc kn w (upd x.U (hget (runL (isL listed) 0 ops.toList xs σ).h)) loc' kn' w' →
        SlotsOk (cxOf E (upd x.U (hget (runL (isL listed) 0 ops.toList xs σ).h)) loc' w') (upd x.U (hget (runL (isL listed) 0 ops.toList xs σ).h)) loc' kn' (putS (runL (isL listed) 0 ops.toList xs σ).t o.dst x.r) (a.put o.dst v) →
        (∀ id, kn' id → kn id ∨ (σ.n + 4 * i ≤ id ∧ id < σ.n + 4 * i + 4)) → wpAnyIn (FW ro) n P .any ops Q fuel (listed.setIfInBounds i true) (a.put o.dst v) w' := fun v loc' kn' w' g1 g2 g3 => by
      refine ih (listed.setIfInBounds i true) loc' kn' (a.put o.dst v) w' hsz' hcnt hcl' (by rw [hgetH]; exact g1.mc) (fun u => by rw [hgetH, hgetS u]; exact g2 u) (hput v).1 (by rw [(hput v).2]; exact hd.tr hm g1) (fun id hid => ?_) (by rw [hgetH]; exact hin.step hm g1)
      rcases g3 id hid with h2 | h2
      · rcases hk id h2 with h3 | ⟨k, k1, k2, k3⟩
        · exact .inl h3
        · refine .inr ⟨k, k1, ?_, k3⟩
          by_cases hki : k = i
          · subst hki; exact hL'i
          · rw [hL'k k hki]; exact k2
      · exact .inr ⟨i, his, hL'i, h2⟩
    -- whether it is wanted
    have hwant : Region.wanted o (yielded ops a.tmps) = !x.skip := by
      unfold GuardIs at hg
      cases hog : o.guard with
      | none => rw [hog] at hg; have hg : (!x.skip) = true := hg; rw [hg]; simp [Region.wanted, hog]
      | some g =>
        obtain ⟨j, want⟩ := g
        rw [hog] at hg
        obtain ⟨d, hd1, hd2⟩ := hg
        have hdl : d ∈ looks ops o := by
          unfold looks
          rw [hog]
          exact List.mem_append_right _ (by simp [hd1])
        have hsd := hs d
        rw [hslot d hdl] at hsd
        rcases hd2 with ⟨c, hc1, hc2⟩ | ⟨vs, hc1, hc2⟩
        · rw [hc1] at hsd
          have hv := hsd.val
          rw [hc2]
          simp only [Region.wanted, hog, yielded, hd1, Option.bind_some]
          rw [Array.getD_eq_getD_getElem?] at hv
          cases hxx : a.tmps[d]? with
          | none => rw [hxx] at hv; simp [undef] at hv
          | some y => rw [hxx] at hv; have hv : y = .bool c := hv; subst hv; cases c <;> cases want <;> rfl
        · rw [hc1] at hsd
          have hv := hsd.val
          rw [hc2]
          simp only [Region.wanted, hog, yielded, hd1, Option.bind_some]
          rw [Array.getD_eq_getD_getElem?] at hv
          cases hxx : a.tmps[d]? with
          | none => cases want <;> rfl
          | some y => rw [hxx] at hv; have hv : y = .tuple vs := hv; subst hv; cases want <;> rfl
    unfold wpOpIn
    simp only [ho]
    cases hskip : x.skip with
    | true =>
      rw [if_neg (by rw [hwant, hskip]; simp)]
      obtain ⟨e1, e2, e3⟩ := hsk hskip
      refine ⟨fun _ _ => trivial, ?_⟩
      refine go undef loc kn w (by rw [e2]; exact Tr.refl hm) ?_ (fun id h => .inl h)
      rw [e2, e1]
      exact slots_put hs (.d (.v undef)) (by rw [hz]; exact hdst)
    | false =>
      rw [if_pos (by rw [hwant, hskip]; rfl)]
      -- the condition holds at this state, too
      obtain ⟨r, U, Rd, ⟨_, e1, e2, e3⟩, hmove⟩ := vcOp_loc (hvc hskip)
      have hv := hmove (runL (isL listed) 0 ops.toList xs σ) (fun y hy => ?_) (fun id hid => hobj id (by rw [← e3]; exact hid))
      · refine op_sound hv hm (fun j hj hh => ?_) hs (fun r' U' Rd' v loc' kn' w' ⟨_, q1, q2, q3⟩ ht hr hk' => ?_)
        · rcases hk _ hh with h3 | ⟨k, k1, k2, k3, k4⟩
          · omega
          · have : k = i := by omega
            subst this
            rw [hLi] at k2
            cases k2
        · rw [q2, e2] at ht hr
          rw [q1, e1] at hr
          exact go v loc' kn' w' ht (slots_put (slots_tr ht hs) hr (by rw [hz]; exact hdst)) hk'
      · cases y with
        | tmp u =>
          exact hslot u (by
            unfold looks
            exact List.mem_append_left _ (List.mem_filterMap.2 ⟨.tmp u, hy, rfl⟩))
        | _ => rfl
end
end Go.Pm
