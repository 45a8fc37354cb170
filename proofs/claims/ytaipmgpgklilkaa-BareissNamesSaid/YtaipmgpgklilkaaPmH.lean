/-
  The pure machine: calls that turn objects of their caller's.
-/
import Derived.Test.YtaipmgpgklilkaaPm12
set_option linter.unusedSimpArgs false
set_option linter.unusedVariables false
namespace Go.Pm
open Go.RowKit

/-- objects that are handed back, under their new names -/
def outs (h : Heap) (γ : Nat → Nat) : List Nat → Option Heap
  | [] => some []
  | id :: l => match hget h id, outs h γ l with
    | some ob, some r => some ((γ id, renOb γ ob) :: r)
    | _, _ => none
def clH (S : Nat → Prop) (h : Heap) : List Nat → Prop
  | [] => True
  | id :: l => (match hget h id with
    | some (.box cs) => refsIns S False cs
    | _ => True) ∧ clH S h l
/-- new objects get names from nid on -/
def gam (nid : Nat) (L : List Nat) (id : Nat) : Nat := if id ∈ L then nid + L.idxOf id else id
def retOf : List PV → PV
  | [p] => p
  | ps => .tup ps
def RetH (P : Program) (fn : Func) (ids : List Nat) (nid : Nat) (L : List Nat) (r : PV) (h' : Heap) (τ : St) : Prop :=
  Got (retPVs P τ.t (hget τ.h) fn.results.toList) τ fun τ ps => Got (outs τ.h (gam nid L) (ids ++ L)) τ fun τ o =>
    Side (L.length ≤ 4 ∧ (∀ c ∈ L, nid ≤ c) ∧ refsIn (fun id => id ∈ ids ++ L) False (retOf ps) ∧ clH (fun id => id ∈ ids ++ L) τ.h (ids ++ L)) τ fun _ => r = ren (gam nid L) (retOf ps) ∧ h' = o
def retHK (P : Program) (fn : Func) (ids : List Nat) (nid : Nat) (L : List Nat) (r : PV) (h' : Heap) : Exit → St → Prop
  | .ret, σ => RetH P fn ids nid L r h' σ
  | .normal, σ => RetH P fn ids nid L r h' σ
  | _, _ => False

theorem upd_hget : ∀ (U : Heap) (g : Nat → Option Ob) (x : Nat), upd U g x = match hget U x with
    | some ob => some ob
    | none => g x
  | [], g, x => rfl
  | (u, p) :: l, g, x => by
    simp only [upd, hget]
    split
    · rfl
    · exact upd_hget l g x
theorem outs_get {h : Heap} {γ : Nat → Nat} : ∀ {l : List Nat} {r : Heap}, outs h γ l = some r → (∀ x y, x ∈ l → y ∈ l → γ x = γ y → x = y) → (∀ id ∈ l, ∃ ob, hget h id = some ob ∧ hget r (γ id) = some (renOb γ ob)) ∧ ∀ x, (∀ id ∈ l, γ id ≠ x) → hget r x = none
  | [], r, h0, _ => by cases h0; exact ⟨fun id h => (by cases h), fun x _ => rfl⟩
  | id :: l, r, h0, hi => by
    simp only [outs] at h0
    split at h0
    · rename_i ob r' h1 h2
      cases h0
      obtain ⟨g1, g2⟩ := outs_get h2 (fun x y hx hy => hi x y (List.mem_cons_of_mem _ hx) (List.mem_cons_of_mem _ hy))
      refine ⟨fun x hx => ?_, fun x hx => ?_⟩
      · by_cases e : γ id = γ x
        · have := hi id x List.mem_cons_self hx e
          subst this
          exact ⟨ob, h1, by simp [hget]⟩
        · rcases List.mem_cons.1 hx with rfl | hx
          · exact absurd rfl e
          · obtain ⟨ob', k1, k2⟩ := g1 x hx
            exact ⟨ob', k1, by simp only [hget, if_neg e]; exact k2⟩
      · simp only [hget, if_neg (hx id List.mem_cons_self)]
        exact g2 x (fun y hy => hx y (List.mem_cons_of_mem _ hy))
    · cases h0
theorem clH_get {S : Nat → Prop} {h : Heap} : ∀ {l : List Nat}, clH S h l → ∀ id ∈ l, ∀ cs, hget h id = some (.box cs) → refsIns S False cs
  | [], _, id, hi, _, _ => by cases hi
  | x :: l, hh, id, hi, cs, hc => by
    rcases List.mem_cons.1 hi with rfl | hi
    · have := hh.1
      rw [hc] at this
      exact this
    · exact clH_get hh.2 id hi cs hc
theorem renOb_owns (γ : Nat → Nat) (ob : Ob) (o : Nat) : (renOb γ ob).owns o ↔ ob.owns o := by
  cases ob <;> exact Iff.rfl

section
variable {P : Program}

theorem MC.part {E : Env} {hg : Nat → Option Ob} {loc : Locs} {kn : Nat → Prop} {w : World} (hm : MC E hg loc kn w) {hs : Heap} {nid : Nat} (hh : ∀ id ob, hget hs id = some ob → hg id = some ob) (hlt : heapLt nid hs) :
    MC ⟨E.w0, fun b o => E.am b o ∨ ∃ id ob, hg id = some ob ∧ hget hs id = none ∧ (loc id).has b ∧ ob.owns o, E.y⟩ (hget hs) loc (fun id => kn id ∧ id < nid) w ∧
    Cx.le (cxOf E hg loc w) (cxOf ⟨E.w0, fun b o => E.am b o ∨ ∃ id ob, hg id = some ob ∧ hget hs id = none ∧ (loc id).has b ∧ ob.owns o, E.y⟩ (hget hs) loc w) := by
  have hC : Cx.le (cxOf E hg loc w) (cxOf ⟨E.w0, fun b o => E.am b o ∨ ∃ id ob, hg id = some ob ∧ hget hs id = none ∧ (loc id).has b ∧ ob.owns o, E.y⟩ (hget hs) loc w) :=
    ⟨fun _ _ _ h _ => h, fun b o v _ g1 ⟨id, ob, g2, g3, g4⟩ => g1 ⟨id, ob, hh id ob g2, g3, g4⟩, fun b o v _ g1 g2 g3 => by
      rcases g3 with g3 | ⟨id, ob, g4, _, g5, g6⟩
      · exact g2 g3
      · exact g1 ⟨id, ob, g4, g5, g6⟩, rfl⟩
  refine ⟨⟨hm.ext, fun b o h => ?_, fun id ob hi => ?_, fun id id' b g1 g2 => ?_, fun id b g1 => ?_, fun id b o g1 g2 g3 => ?_⟩, hC⟩
  · rcases h with h | ⟨id, ob, g1, _, g2, _⟩
    · exact hm.amlt b o h
    · exact (hm.fresh id b (by simp [g1]) g2).2
  · obtain ⟨g1, g2⟩ := hm.objs id ob (hh id ob hi)
    obtain ⟨g3, g4⟩ := hget_lt hlt id ob hi
    refine ⟨⟨g1, g3⟩, ?_⟩
    cases ob with
    | arr ar => exact ⟨g2.1, ArrAt.le hC (fun _ _ => rfl) g2.2⟩
    | tab T => exact TabAt.le hC (fun _ _ => rfl) g2
    | dead => exact g2
    | box cs =>
      have g2 : BoxAt _ _ _ _ cs (loc id) := g2
      show BoxAt _ _ _ _ cs (loc id)
      cases hl : loc id with
      | no => rw [hl] at g2; exact g2
      | tb lo rl => rw [hl] at g2; exact g2
      | pl b cap =>
        rw [hl] at g2
        obtain ⟨c, e, k1, k2, k3⟩ := g2
        refine ⟨c, e, k1, k2, fun j p hj => ?_⟩
        obtain ⟨u, k4, k5, k6⟩ := k3 j p hj
        exact ⟨u, k4, k5, k6.sub hC hh (refsLts_get (g4 cs rfl) j p hj)⟩
  · obtain ⟨x, hx⟩ := Option.ne_none_iff_exists'.1 g1
    obtain ⟨y, hy⟩ := Option.ne_none_iff_exists'.1 g2
    exact hm.sep id id' b (by simp [hh _ _ hx]) (by simp [hh _ _ hy])
  · obtain ⟨x, hx⟩ := Option.ne_none_iff_exists'.1 g1
    exact hm.fresh id b (by simp [hh _ _ hx])
  · obtain ⟨x, hx⟩ := Option.ne_none_iff_exists'.1 g1
    rcases g3 with g3 | ⟨id', ob', g4, g5, g6, _⟩
    · exact hm.amno id b o (by simp [hh _ _ hx]) g2 g3
    · have := hm.sep id id' b (by simp [hh _ _ hx]) (by simp [g4]) g2 g6
      subst this
      exact g1 g5

/-- what a call leaves, seen from its caller -/
theorem call_back {E : Env} {hg : Nat → Option Ob} {loc : Locs} {kn : Nat → Prop} {w : World} (hm : MC E hg loc kn w) {hs : Heap} {nid : Nat} (hn : ∀ j, j < 4 → ¬ kn (nid + j)) (hh : ∀ id ob, hget hs id = some ob → hg id = some ob) (hlt : heapLt nid hs) {E1 : Env} (hE1 : E1 = ⟨E.w0, fun b o => E.am b o ∨ ∃ id ob, hg id = some ob ∧ hget hs id = none ∧ (loc id).has b ∧ ob.owns o, E.y⟩)
    {h1 : Heap} {loc1 : Locs} {k1 : Nat → Prop} {w' : World} (hm1 : MC E1 (hget h1) loc1 k1 w') (ht1 : TrX E1 (fun _ => False) (hget hs) loc (fun id => kn id ∧ id < nid) w (hget h1) loc1 k1 w') {L : List Nat} {h' : Heap} (hL4 : L.length ≤ 4) (hLge : ∀ c ∈ L, nid ≤ c)
    (hout : outs h1 (gam nid L) (hs.map (·.1) ++ L) = some h') (hcl : clH (fun id => id ∈ hs.map (·.1) ++ L) h1 (hs.map (·.1) ++ L)) :
    ∃ loc' kn', Tr E hg loc kn w (upd h' hg) loc' kn' w' ∧ (∀ id, kn' id → kn id ∨ (nid ≤ id ∧ id < nid + 4)) ∧
      ∀ (p : PV) (v : Value), refsIn (fun id => id ∈ hs.map (·.1) ++ L) False p → PRep (cxOf E1 (hget h1) loc1 w') (hget h1) loc1 k1 p v → PRep (cxOf E (upd h' hg) loc' w') (upd h' hg) loc' kn' (ren (gam nid L) p) v := by
  obtain ⟨Ids, hIds⟩ : ∃ Ids, Ids = hs.map (·.1) ++ L := ⟨_, rfl⟩
  obtain ⟨γ, hγ⟩ : ∃ γ, γ = gam nid L := ⟨_, rfl⟩
  rw [← hIds, ← hγ] at hout
  rw [← hIds] at hcl
  rw [← hIds, ← hγ]
  -- ids of the caller's objects
  have hsome : ∀ id, id ∈ hs.map (·.1) → ∃ ob, hget hs id = some ob := fun id hid => by
    clear hlt hh hIds ht1 hE1
    induction hs with
    | nil => cases hid
    | cons x hs ih =>
      obtain ⟨u, p⟩ := x
      simp only [hget]
      split
      · exact ⟨p, rfl⟩
      · rename_i hne
        rcases List.mem_cons.1 hid with h | h
        · exact absurd h.symm hne
        · exact ih h
  have hmem : ∀ id ob, hget hs id = some ob → id ∈ hs.map (·.1) := fun id ob h => by
    clear hlt hh hIds ht1 hE1 hsome
    induction hs with
    | nil => cases h
    | cons x hs ih =>
      obtain ⟨u, p⟩ := x
      simp only [hget] at h
      split at h
      · rename_i e; subst e; exact List.mem_cons_self
      · exact List.mem_cons_of_mem _ (ih h)
  have hold : ∀ id, id ∈ hs.map (·.1) → id < nid ∧ kn id ∧ γ id = id := fun id hid => by
    obtain ⟨ob, h⟩ := hsome id hid
    have h2 := (hget_lt hlt id ob h).1
    refine ⟨h2, (hm.objs id ob (hh id ob h)).1, ?_⟩
    rw [hγ]
    exact if_neg (fun hc => by have := hLge id hc; omega)
  have hnew : ∀ id, id ∈ L → nid ≤ γ id ∧ γ id < nid + 4 ∧ γ id = nid + L.idxOf id := fun id hid => by
    have h2 : L.idxOf id < L.length := List.idxOf_lt_length_of_mem hid
    have h3 : γ id = nid + L.idxOf id := by rw [hγ]; exact if_pos hid
    omega
  have hin : ∀ id, id ∈ Ids → id ∈ hs.map (·.1) ∨ id ∈ L := fun id h => by rw [hIds] at h; exact List.mem_append.1 h
  have hinj : ∀ x y, x ∈ Ids → y ∈ Ids → γ x = γ y → x = y := fun x y hx hy e => by
    rcases hin x hx with hx | hx <;> rcases hin y hy with hy | hy
    · rw [← (hold x hx).2.2, ← (hold y hy).2.2, e]
    · have := (hold x hx).1; rw [← (hold x hx).2.2, e] at this; have := (hnew y hy).1; omega
    · have := (hold y hy).1; rw [← (hold y hy).2.2, ← e] at this; have := (hnew x hx).1; omega
    · have h1 := (hnew x hx).2.2
      have h2 := (hnew y hy).2.2
      have h3 : L.idxOf x = L.idxOf y := by omega
      have h4 := List.getElem_idxOf (List.idxOf_lt_length_of_mem hx)
      have h5 := List.getElem_idxOf (List.idxOf_lt_length_of_mem hy)
      rw [← h4, ← h5]
      congr 1
  obtain ⟨ho1, ho2⟩ := outs_get hout hinj
  let pre : Nat → Option Nat := fun x => Ids.find? fun id => γ id == x
  have hpre : ∀ x id, pre x = some id → id ∈ Ids ∧ γ id = x := fun x id h => ⟨List.mem_of_find?_eq_some h, by simpa using List.find?_some h⟩
  have hpre2 : ∀ id, id ∈ Ids → pre (γ id) = some id := fun id h => by
    cases e : pre (γ id) with
    | none => have := List.find?_eq_none.1 e id h; simp at this
    | some id' => obtain ⟨h1, h2⟩ := hpre _ _ e; rw [hinj _ _ h1 h h2]
  have hpre3 : ∀ x, pre x = none → ∀ id ∈ Ids, γ id ≠ x := fun x h id hid e => by
    have := hpre2 id hid
    rw [e, h] at this
    cases this
  let loc' : Locs := fun x => match pre x with
    | some id => loc1 id
    | none => loc x
  have hloc1 : ∀ x id, pre x = some id → loc' x = loc1 id := fun x id h => by show (match pre x with | some id => loc1 id | none => loc x) = _; rw [h]
  have hloc2 : ∀ x, pre x = none → loc' x = loc x := fun x h => by show (match pre x with | some id => loc1 id | none => loc x) = _; rw [h]
  obtain ⟨hg', hhg'⟩ : ∃ g, g = upd h' hg := ⟨_, rfl⟩
  have hg1 : ∀ x id, pre x = some id → ∃ ob, hget h1 id = some ob ∧ hg' x = some (renOb γ ob) := fun x id h => by
    obtain ⟨e1, e2⟩ := hpre x id h
    obtain ⟨ob, k1, k2⟩ := ho1 id e1
    exact ⟨ob, k1, by rw [hhg', upd_hget, ← e2, k2]⟩
  have hg2 : ∀ x, pre x = none → hg' x = hg x := fun x h => by rw [hhg', upd_hget, ho2 x (hpre3 x h)]
  have hnotin : ∀ x, pre x = none → hget hs x = none := fun x h => by
    cases e : hget hs x with
    | none => rfl
    | some ob =>
      have h1 := hmem x ob e
      exact absurd (hold x h1).2.2 (hpre3 x h x (by rw [hIds]; exact List.mem_append_left _ h1))
  have hprekn : ∀ x id, kn x → pre x = some id → id = x ∧ x ∈ hs.map (·.1) := fun x id hk h => by
    obtain ⟨e1, e2⟩ := hpre x id h
    rcases hin id e1 with h2 | h2
    · have := (hold id h2).2.2
      rw [e2] at this
      subst this
      exact ⟨rfl, h2⟩
    · obtain ⟨g1, g2, _⟩ := hnew id h2
      rw [e2] at g1 g2
      exact absurd (by rw [show nid + (x - nid) = x by omega]; exact hk) (hn (x - nid) (by omega))
  have hown : ∀ b o, owns hg' loc' b o → owns (hget h1) loc1 b o ∨ ∃ x ob, hg x = some ob ∧ hget hs x = none ∧ (loc x).has b ∧ ob.owns o := fun b o ⟨x, ob, g1, g2, g3⟩ => by
    cases hp : pre x with
    | some id =>
      obtain ⟨ob1, k1, k2⟩ := hg1 x id hp
      rw [k2] at g1
      cases g1
      rw [hloc1 x id hp] at g2
      exact .inl ⟨id, ob1, k1, g2, (renOb_owns γ ob1 o).1 g3⟩
    | none =>
      rw [hg2 x hp] at g1
      rw [hloc2 x hp] at g2
      exact .inr ⟨x, ob, g1, hnotin x hp, g2, g3⟩
  have hC : Cx.le (cxOf E hg loc w) (cxOf E hg' loc' w') := by
    have sub : ∀ b o, ¬ owns hg loc b o → ¬ owns (hget hs) loc b o := fun b o h ⟨id, ob, g1, g2⟩ => h ⟨id, ob, hh id ob g1, g2⟩
    refine ⟨fun b o v h1 h2 => ht1.cx.cell b o v h1 (sub b o h2), fun b o v h1 h2 h3 => ?_, fun _ _ _ _ _ h => h, rfl⟩
    rcases hown b o h3 with h4 | ⟨x, ob, g1, _, g2, g3⟩
    · exact ht1.cx.ow b o v h1 (sub b o h2) h4
    · exact h2 ⟨x, ob, g1, g2, g3⟩
  have hD : Cx.leD (cxOf E1 (hget h1) loc1 w') (cxOf E hg' loc' w') := fun b o v h1 h2 h3 => by
    rw [hE1] at h3
    refine ⟨h1, fun h4 => ?_, fun h4 => h3 (.inl h4)⟩
    rcases hown b o h4 with h5 | h5
    · exact h2 h5
    · exact h3 (.inr h5)
  have hR : RefLe hg hg' loc loc' kn := by
    refine ⟨fun x cs hk hx => ?_, fun x ar hk hx => ?_, fun x T hk hx => ?_⟩
    · cases hp : pre x with
      | some id =>
        obtain ⟨e1, e2⟩ := hprekn x id hk hp
        subst e1
        obtain ⟨ob, k1, k2⟩ := hg1 id id hp
        rw [k2] at hx
        cases ob <;> simp only [renOb, Option.some.injEq, reduceCtorEq] at hx
        obtain ⟨⟨cs0, q1⟩, q2⟩ := ht1.rf.box id _ ⟨hk, (hold id e2).1⟩ k1
        exact ⟨⟨cs0, hh _ _ q1⟩, (hloc1 id id hp).trans q2⟩
      | none => rw [hg2 x hp] at hx; exact ⟨⟨cs, hx⟩, hloc2 x hp⟩
    · cases hp : pre x with
      | some id =>
        obtain ⟨e1, e2⟩ := hprekn x id hk hp
        subst e1
        obtain ⟨ob, k1, k2⟩ := hg1 id id hp
        rw [k2] at hx
        cases ob <;> simp only [renOb, Option.some.injEq, reduceCtorEq] at hx
        cases hx
        obtain ⟨a0, q1, q2, q3⟩ := ht1.rf.arr id _ ⟨hk, (hold id e2).1⟩ k1
        exact ⟨a0, hh _ _ q1, fun hv => ⟨(q2 hv).1, (q2 hv).2.1, (hloc1 id id hp).trans (q2 hv).2.2⟩, q3⟩
      | none => rw [hg2 x hp] at hx; exact ⟨ar, hx, fun _ => ⟨rfl, rfl, hloc2 x hp⟩, Nat.le_refl _⟩
    · cases hp : pre x with
      | some id =>
        obtain ⟨e1, e2⟩ := hprekn x id hk hp
        subst e1
        obtain ⟨ob, k1, k2⟩ := hg1 id id hp
        rw [k2] at hx
        cases ob <;> simp only [renOb, Option.some.injEq, reduceCtorEq] at hx
        cases hx
        obtain ⟨T0, q1, q2⟩ := ht1.rf.tab id _ ⟨hk, (hold id e2).1⟩ k1
        exact ⟨T0, hh _ _ q1, by rw [hloc1 id id hp]; exact q2⟩
      | none => rw [hg2 x hp] at hx; exact ⟨T, hx, by rw [hloc2 x hp]; exact .refl _ _⟩
  have hkn : ∀ id, id ∈ Ids → kn (γ id) ∨ (nid ≤ γ id ∧ γ id < nid + 4) := fun id hid => by
    rcases hin id hid with h | h
    · rw [(hold id h).2.2]; exact .inl (hold id h).2.1
    · exact .inr ⟨(hnew id h).1, (hnew id h).2.1⟩
  have hren : ∀ (p : PV) (v : Value), refsIn (fun id => id ∈ Ids) False p → PRep (cxOf E1 (hget h1) loc1 w') (hget h1) loc1 k1 p v → PRep (cxOf E hg' loc' w') hg' loc' (fun id => kn id ∨ (nid ≤ id ∧ id < nid + 4)) (ren γ p) v := fun p v hp hr =>
    PRep.ren hD (fun h => h.elim) (fun id _ hs => hkn id hs) (fun id _ hs ob' ho => by
      obtain ⟨ob, q1, q2⟩ := hg1 _ id (hpre2 id hs)
      rw [q2] at ho
      cases ho
      exact ⟨ob, q1, sim_ren γ ob, hloc1 _ id (hpre2 id hs)⟩) hr hp
  have hw0 : E.w0.heap.size ≤ w.heap.size := hm.ext.size
  have hE0 : E1.w0 = E.w0 := by rw [hE1]
  have unowned : ∀ x b, pre x = none → hg x ≠ none → (loc x).has b → ¬ ∃ i, hget hs i ≠ none ∧ (loc i).has b := fun x b hp hx hb ⟨i, h1, h2⟩ => by
    obtain ⟨ob, hob⟩ := Option.ne_none_iff_exists'.1 h1
    have := hm.sep x i b hx (by simp [hh _ _ hob]) hb h2
    subst this
    exact h1 (hnotin x hp)
  refine ⟨loc', fun id => kn id ∨ (nid ≤ id ∧ id < nid + 4), ?_, fun _ h => h, by rw [← hhg']; exact hren⟩
  rw [← hhg']
  refine ⟨⟨by have := hm1.ext; rw [hE0] at this; exact this, fun b o ha => Nat.lt_of_lt_of_le (hm.amlt b o ha) ht1.sz, fun x ob hx => ?_, fun x y b hx hy hbx hby => ?_, fun x b hx hb => ?_, fun x b o hx hb ha => ?_⟩, hC, hR, fun _ h => .inl h, ht1.sz,
    fun b hb hno => ht1.blk b hb (fun ⟨i, h1, h2⟩ => hno (by obtain ⟨ob, hob⟩ := Option.ne_none_iff_exists'.1 h1; exact ⟨i, by simp [hh _ _ hob], h2⟩)) (fun h => h), fun x b hx hb => ?_⟩
  · cases hp : pre x with
    | some id =>
      obtain ⟨ob1, q1, q2⟩ := hg1 x id hp
      obtain ⟨e1, e2⟩ := hpre x id hp
      rw [q2] at hx
      cases hx
      refine ⟨by rw [← e2]; exact hkn id e1, ?_⟩
      rw [hloc1 x id hp]
      have hA := (hm1.objs id ob1 q1).2
      cases ob1 with
      | arr ar => exact ⟨hA.1, ArrAt.leD hD (fun _ _ => rfl) hA.2⟩
      | tab T => exact TabAt.leD hD (fun _ _ => rfl) hA
      | dead => exact hA
      | box cs =>
        have hA : BoxAt _ _ _ _ cs (loc1 id) := hA
        show BoxAt _ _ _ _ (rens γ cs) (loc1 id)
        have hrs := clH_get hcl id e1 cs q1
        cases hl : loc1 id with
        | no => rw [hl] at hA; exact hA
        | tb lo rl => rw [hl] at hA; exact hA
        | pl b cap =>
          rw [hl] at hA
          obtain ⟨c, e, k1, k2, k3⟩ := hA
          refine ⟨c, e, k1, by rw [rens_map, List.length_map]; exact k2, fun j p hj => ?_⟩
          rw [rens_map, List.getElem?_map] at hj
          obtain ⟨q, hq, rfl⟩ := Option.map_eq_some_iff.1 hj
          obtain ⟨u, k4, k5, k6⟩ := k3 j q hq
          exact ⟨u, k4, k5, hren q u (refsIns_get hrs j q hq) k6⟩
    | none =>
      have hx0 := hx
      rw [hg2 x hp] at hx
      obtain ⟨q1, q2⟩ := hm.objs x ob hx
      refine ⟨.inl q1, ?_⟩
      rw [hloc2 x hp]
      exact q2.le hC hR (fun _ h => .inl h) (fun b hb => ht1.blk b (hm.fresh x b (by simp [hx]) hb).2 (unowned x b hp (by simp [hx]) hb) (fun h => h))
  · cases hpx : pre x with
    | some id =>
      obtain ⟨ob1, q1, _⟩ := hg1 x id hpx
      rw [hloc1 x id hpx] at hbx
      cases hpy : pre y with
      | some id' =>
        obtain ⟨ob2, r1, _⟩ := hg1 y id' hpy
        rw [hloc1 y id' hpy] at hby
        have := hm1.sep id id' b (by simp [q1]) (by simp [r1]) hbx hby
        subst this
        rw [← (hpre x id hpx).2, ← (hpre y id hpy).2]
      | none =>
        rw [hg2 y hpy] at hy
        rw [hloc2 y hpy] at hby
        rcases ht1.own id b (by simp [q1]) hbx with h | h
        · exact absurd h (unowned y b hpy hy hby)
        · have := (hm.fresh y b hy hby).2
          omega
    | none =>
      rw [hg2 x hpx] at hx
      rw [hloc2 x hpx] at hbx
      cases hpy : pre y with
      | some id' =>
        obtain ⟨ob2, r1, _⟩ := hg1 y id' hpy
        rw [hloc1 y id' hpy] at hby
        rcases ht1.own id' b (by simp [r1]) hby with h | h
        · exact absurd h (unowned x b hpx hx hbx)
        · have := (hm.fresh x b hx hbx).2
          omega
      | none =>
        rw [hg2 y hpy] at hy
        rw [hloc2 y hpy] at hby
        exact hm.sep x y b hx hy hbx hby
  · cases hp : pre x with
    | some id =>
      obtain ⟨ob1, q1, _⟩ := hg1 x id hp
      rw [hloc1 x id hp] at hb
      have := hm1.fresh id b (by simp [q1]) hb
      rw [hE0] at this
      exact this
    | none =>
      rw [hg2 x hp] at hx
      rw [hloc2 x hp] at hb
      obtain ⟨g1, g2⟩ := hm.fresh x b hx hb
      exact ⟨g1, Nat.lt_of_lt_of_le g2 ht1.sz⟩
  · cases hp : pre x with
    | some id =>
      obtain ⟨ob1, q1, _⟩ := hg1 x id hp
      rw [hloc1 x id hp] at hb
      refine hm1.amno id b o (by simp [q1]) hb ?_
      rw [hE1]
      exact .inl ha
    | none =>
      rw [hg2 x hp] at hx
      rw [hloc2 x hp] at hb
      exact hm.amno x b o hx hb ha
  · cases hp : pre x with
    | some id =>
      obtain ⟨ob1, q1, _⟩ := hg1 x id hp
      rw [hloc1 x id hp] at hb
      rcases ht1.own id b (by simp [q1]) hb with ⟨i, h1, h2⟩ | h
      · obtain ⟨ob, hob⟩ := Option.ne_none_iff_exists'.1 h1
        exact .inl ⟨i, by simp [hh _ _ hob], h2⟩
      · exact .inr h
    | none =>
      rw [hg2 x hp] at hx
      rw [hloc2 x hp] at hb
      exact .inl ⟨x, hx, hb⟩

/-- A CONTRACT OVER OBJECTS, out of its body's condition -/
theorem hcallS_of {f : FuncId} {fn : Func} {c : Code} {args : List PV} {hs : Heap} {nid : Nat} {L : List Nat} {r : PV} {h' : Heap} (hf : P.funcs[f]? = some fn) (hb : fn.body = some c) (hname : (fn.name == "runtime.NumGoroutine") = false) (hargs : args.length ≤ fn.ntmps)
    (hlt : heapLt nid hs) (hal : refsLts nid args) (h : SC P false noM.Y c (retHK P fn (hs.map (·.1)) nid L r h') ⟨fn.ntmps, argSlots 0 args, hs, nid⟩) : HCall P f args hs nid r h' where
  enters as w := by
    have h1 : fn.name ≠ "runtime.NumGoroutine" := by simpa using hname
    simp [callFunc, hf, h1, hb]
  calls E hg loc kn w vs hm hh hn hl hrep := by
    obtain ⟨hm1, hC1⟩ := hm.part hh hlt
    obtain ⟨E1, hE1⟩ : ∃ E1 : Env, E1 = ⟨E.w0, fun b o => E.am b o ∨ ∃ id ob, hg id = some ob ∧ hget hs id = none ∧ (loc id).has b ∧ ob.owns o, E.y⟩ := ⟨_, rfl⟩
    rw [← hE1] at hm1 hC1
    let Φ : Fr := ⟨fun _ => False, hget hs, loc, fun id => kn id ∧ id < nid, w, nid, fun _ => none⟩
    have hci : CI E1 Φ ⟨fn.ntmps, argSlots 0 args, hs, nid⟩ loc (fun id => kn id ∧ id < nid) { tmps := vs ++ Array.replicate (fn.ntmps - vs.size) undef, defers := [] } w :=
      ⟨⟨hm1, args_slots hl (fun j p v h1 h2 => (hrep j p v h1 h2).sub hC1 hh (refsLts_get hal j p h1)) [], by simp; omega, fun id h => h.2⟩, ⟨⟨.refl _, .refl _ _ _, fun _ h => h, Nat.le_refl _, fun _ _ _ _ => rfl, fun id b h1 h2 => .inl ⟨id, h1, h2⟩⟩, fun b o hb => (by cases hb), fun id h => h.2, fun b o hb => (by cases hb), by rw [hE1]; exact hm.ext.size⟩, Nat.le_refl _, .nil _ _⟩
    refine body_calls hf hb h hci (fun e τ hk => ?_) (fun e a' τ l k w' h1 h2 h3 => ?_)
    · cases e <;> first | exact .inl rfl | exact .inr rfl | exact hk.elim
    have fin : RetH P fn (hs.map (·.1)) nid L r h' τ → ∃ v, (results fn a'.tmps).run P w' = .ok v w' ∧ ∃ v' loc' kn', Ending.returned v = .returned v' ∧ Tr E hg loc kn w (upd h' hg) loc' kn' w' ∧ PRep (cxOf E (upd h' hg) loc' w') (upd h' hg) loc' kn' r v' ∧ ∀ id, kn' id → kn id ∨ (nid ≤ id ∧ id < nid + 4) := fun hr => by
      obtain ⟨ps, hps, hr⟩ := got_spec hr
      obtain ⟨o, ho, ⟨q1, q3, q4, q5⟩, rfl, rfl⟩ := got_spec hr
      obtain ⟨vs', g1, g2, g3⟩ := results_run h2 hps
      obtain ⟨loc', kn', ht, hk, hret⟩ := call_back hm hn hh hlt hE1 h2.mc h3.tr q1 q3 ho q5
      refine ⟨_, g1, _, loc', kn', rfl, ht, hret _ _ q4 ?_, hk⟩
      by_cases hv1 : vs'.length = 1
      · rw [if_pos hv1]
        have hpl : ps.length = 1 := g2.symm.trans hv1
        match ps, vs', hpl, hv1 with
        | [p], [v], _, _ => exact g3 0 p v rfl rfl
      · rw [if_neg hv1]
        have e : retOf ps = .tup ps := by
          match ps, g2 with
          | [], _ => rfl
          | [p], g2 => exact absurd g2 hv1
          | _ :: _ :: _, _ => rfl
        rw [e]
        exact .tup (by simp [g2]) (fun j p v h1 h2 => g3 j p v h1 (by simpa using h2))
    cases e with
    | ret => exact fin h1
    | normal => exact fin h1
    | _ => exact h1.elim
theorem hcall_of (hmo : P.follows .mixedOrders = true) {f : FuncId} {fn : Func} {c : Code} {args : List PV} {hs : Heap} {nid : Nat} {L : List Nat} {r : PV} {h' : Heap} (hf : P.funcs[f]? = some fn) (hb : fn.body = some c) (hname : (fn.name == "runtime.NumGoroutine") = false) (hargs : args.length ≤ fn.ntmps)
    (hlt : heapLt nid hs) (hal : refsLts nid args) (h : vc P (fnM P) c (retHK P fn (hs.map (·.1)) nid L r h') ⟨fn.ntmps, argSlots 0 args, hs, nid⟩) : HCall P f args hs nid r h' := hcallS_of hf hb hname hargs hlt hal (.of_fn hmo h)
end
end Go.Pm
