/-
  The pure machine: objects under other names.
-/
import Derived.Test.YtaipmgpgklilkaaPmT
set_option linter.unusedSimpArgs false
set_option linter.unusedVariables false
namespace Go.Pm
open Go.RowKit

mutual
def ren (γ : Nat → Nat) : PV → PV
  | .sr id v => .sr (γ id) v
  | .pr id v i o => .pr (γ id) v i o
  | .st id v => .st (γ id) v
  | .tv id v o n => .tv (γ id) v o n
  | .po id v i => .po (γ id) v i
  | .sw id r => .sw (γ id) r
  | .pw id r i o => .pw (γ id) r i o
  | .lt cs => .lt (rens γ cs)
  | .lp cs => .lp (rens γ cs)
  | .agg cs => .agg (rens γ cs)
  | .tup cs => .tup (rens γ cs)
  | .fn f cs => .fn f (rens γ cs)
  | .any => .any
  | .d x => .d x
  | .nl => .nl
  | .yd => .yd
  | .bw cs => .bw cs
def rens (γ : Nat → Nat) : List PV → List PV
  | [] => []
  | p :: l => ren γ p :: rens γ l
end
mutual
def refsIn (S : Nat → Prop) (B : Prop) : PV → Prop
  | .sr id _ => S id
  | .pr id _ _ _ => S id
  | .st id _ => S id
  | .tv id _ _ _ => S id
  | .po id _ _ => S id
  | .sw id _ => S id
  | .pw id _ _ _ => S id
  | .lt cs => refsIns S B cs
  | .lp cs => refsIns S B cs
  | .agg cs => refsIns S B cs
  | .tup cs => refsIns S B cs
  | .fn _ cs => refsIns S B cs
  | .any => True
  | .d _ => True
  | .nl => True
  | .yd => False
  | .bw _ => B
def refsIns (S : Nat → Prop) (B : Prop) : List PV → Prop
  | [] => True
  | p :: l => refsIn S B p ∧ refsIns S B l
end
theorem rens_map (γ : Nat → Nat) (l : List PV) : rens γ l = l.map (ren γ) := by
  induction l with
  | nil => rfl
  | cons p l ih => simp only [rens, List.map_cons, ih]
theorem refsIns_get {S : Nat → Prop} {B : Prop} : ∀ {l : List PV}, refsIns S B l → ∀ (j : Nat) (p : PV), l[j]? = some p → refsIn S B p
  | [], _, j, p, h => by cases h
  | q :: l, h, j, p, hj => by
    cases j with
    | zero => cases hj; exact h.1
    | succ j => exact refsIns_get h.2 j p hj
def renOb (γ : Nat → Nat) : Ob → Ob
  | .box cs => .box (rens γ cs)
  | o => o
/-- the same object, but for names -/
def Ob.sim : Ob → Ob → Prop
  | .box _, .box _ => True
  | .arr a, .arr b => a = b
  | .tab a, .tab b => a = b
  | .dead, .dead => True
  | _, _ => False
theorem sim_ren (γ : Nat → Nat) (o : Ob) : o.sim (renOb γ o) := by
  cases o <;> first | trivial | rfl

theorem PRep.ren {C C' : Cx} {hg hg' : Nat → Option Ob} {loc loc' : Locs} {kn kn' : Nat → Prop} {γ : Nat → Nat} {S : Nat → Prop} {B : Prop} (hC : C.leD C') (hB : B → C.le C') (hk : ∀ id, kn id → S id → kn' (γ id)) (hob : ∀ id, kn id → S id → ∀ ob', hg' (γ id) = some ob' → ∃ ob, hg id = some ob ∧ ob.sim ob' ∧ loc' (γ id) = loc id)
    {p : PV} {v : Value} (h : PRep C hg loc kn p v) (hs : refsIn S B p) : PRep C' hg' loc' kn' (Pm.ren γ p) v := by
  have arr : ∀ id, kn id → S id → ∀ a, hg' (γ id) = some (.arr a) → hg id = some (.arr a) ∧ loc' (γ id) = loc id := fun id h1 h2 a h3 => by
    obtain ⟨ob, g1, g2, g3⟩ := hob id h1 h2 _ h3
    cases ob <;> first | exact g2.elim | (cases g2; exact ⟨g1, g3⟩)
  have tab : ∀ id, kn id → S id → ∀ a, hg' (γ id) = some (.tab a) → hg id = some (.tab a) ∧ loc' (γ id) = loc id := fun id h1 h2 a h3 => by
    obtain ⟨ob, g1, g2, g3⟩ := hob id h1 h2 _ h3
    cases ob <;> first | exact g2.elim | (cases g2; exact ⟨g1, g3⟩)
  have box : ∀ id, kn id → S id → ∀ a, hg' (γ id) = some (.box a) → (∃ b, hg id = some (.box b)) ∧ loc' (γ id) = loc id := fun id h1 h2 a h3 => by
    obtain ⟨ob, g1, g2, g3⟩ := hob id h1 h2 _ h3
    cases ob <;> first | exact g2.elim | exact ⟨⟨_, g1⟩, g3⟩
  induction h with
  | any v => exact .any v
  | d h => exact .d (h.leD hC)
  | nl => exact .nl
  | yd h => exact hs.elim
  | bw f hcell hrep =>
    have hb := hB hs
    refine .bw f (fun j p h1 => ?_) (fun j p h1 => (hrep j p h1).le hb)
    obtain ⟨a1, a2, a3⟩ := hcell j p h1
    exact ⟨hb.cell _ _ _ a1 a3, a2, hb.ow _ _ _ a1 a3⟩
  | sr hk1 ho hv h =>
    have hs : S _ := hs
    refine .sr (hk _ hk1 hs) ho (fun a ha => hv a (arr _ hk1 hs a ha).1) (fun a ha hver => ?_)
    obtain ⟨g1, g2⟩ := arr _ hk1 hs a ha
    rw [g2]
    exact h a g1 hver
  | pr hk1 ho hv hb ha =>
    have hs : S _ := hs
    refine .pr (hk _ hk1 hs) ho (fun a ha => hv a (arr _ hk1 hs a ha).1) (fun cs hcs b cap hl => ?_) (fun a har hver b cap hl => ?_)
    · obtain ⟨⟨cs', g1⟩, g2⟩ := box _ hk1 hs cs hcs
      exact hb cs' g1 b cap (by rw [← g2]; exact hl)
    · obtain ⟨g1, g2⟩ := arr _ hk1 hs a har
      exact ha a g1 hver b cap (by rw [← g2]; exact hl)
  | @lt cs b c f hc hm hcell _ ih =>
    have hs : refsIns S B cs := hs
    have e : cs.length = (rens γ cs).length := by rw [rens_map, List.length_map]
    show PRep C' hg' loc' kn' (.lt (rens γ cs)) _
    rw [e]
    have get : ∀ (j : Nat) (p : PV), (rens γ cs)[j]? = some p → ∃ q, cs[j]? = some q ∧ p = Pm.ren γ q := fun j p hj => by
      rw [rens_map, List.getElem?_map] at hj
      obtain ⟨q, h1, h2⟩ := Option.map_eq_some_iff.1 hj
      exact ⟨q, h1, h2.symm⟩
    refine .lt f (by rw [← e]; exact hc) hm (fun j p hj => ?_) (fun j p hj => ?_)
    · obtain ⟨q, h1, rfl⟩ := get j p hj
      obtain ⟨a1, a2, a3, a4⟩ := hcell j q h1
      obtain ⟨b1, b2, b3⟩ := hC _ _ _ a1 a3 a4
      exact ⟨b1, a2, b2, b3⟩
    · obtain ⟨q, h1, rfl⟩ := get j p hj
      exact ih j q h1 (refsIns_get hs j q h1)
  | @lp cs b c f hcell _ ih =>
    have hs : refsIns S B cs := hs
    have get : ∀ (j : Nat) (p : PV), (rens γ cs)[j]? = some p → ∃ q, cs[j]? = some q ∧ p = Pm.ren γ q := fun j p hj => by
      rw [rens_map, List.getElem?_map] at hj
      obtain ⟨q, h1, h2⟩ := Option.map_eq_some_iff.1 hj
      exact ⟨q, h1, h2.symm⟩
    refine .lp f (fun j p hj => ?_) (fun j p hj => ?_)
    · obtain ⟨q, h1, rfl⟩ := get j p hj
      obtain ⟨a1, a2, a3, a4⟩ := hcell j q h1
      obtain ⟨b1, b2, b3⟩ := hC _ _ _ a1 a3 a4
      exact ⟨b1, a2, b2, b3⟩
    · obtain ⟨q, h1, rfl⟩ := get j p hj
      exact ih j q h1 (refsIns_get hs j q h1)
  | st hk1 ho hv h =>
    have hs : S _ := hs
    refine .st (hk _ hk1 hs) ho (fun a ha => hv a (tab _ hk1 hs a ha).1) (fun a ha hver lo rl hl => ?_)
    obtain ⟨g1, g2⟩ := tab _ hk1 hs a ha
    exact h a g1 hver lo rl (by rw [← g2]; exact hl)
  | tv hk1 ho hv h =>
    have hs : S _ := hs
    refine .tv (hk _ hk1 hs) ho (fun a ha => hv a (tab _ hk1 hs a ha).1) (fun a ha hver lo rl hl => ?_)
    obtain ⟨g1, g2⟩ := tab _ hk1 hs a ha
    exact h a g1 hver lo rl (by rw [← g2]; exact hl)
  | po hk1 ho hv h =>
    have hs : S _ := hs
    refine .po (hk _ hk1 hs) ho (fun a ha => hv a (tab _ hk1 hs a ha).1) (fun a ha hver b cap rl hl => ?_)
    obtain ⟨g1, g2⟩ := tab _ hk1 hs a ha
    exact h a g1 hver b cap rl (by rw [← g2]; exact hl)
  | sw hk1 ho hv h =>
    have hs : S _ := hs
    refine .sw (hk _ hk1 hs) ho (fun a ha => hv a (tab _ hk1 hs a ha).1) (fun a es ha he lo rl hl => ?_)
    obtain ⟨g1, g2⟩ := tab _ hk1 hs a ha
    exact h a es g1 he lo rl (by rw [← g2]; exact hl)
  | pw hk1 ho hv h =>
    have hs : S _ := hs
    refine .pw (hk _ hk1 hs) ho (fun a ha => hv a (tab _ hk1 hs a ha).1) (fun a es ha he lo rl b cap hl hr => ?_)
    obtain ⟨g1, g2⟩ := tab _ hk1 hs a ha
    exact h a es g1 he lo rl b cap (by rw [← g2]; exact hl) hr
  | @agg cs vs hl _ ih =>
    have hs : refsIns S B cs := hs
    refine .agg (by rw [rens_map, List.length_map]; exact hl) (fun j p v hj hv => ?_)
    rw [rens_map, List.getElem?_map] at hj
    obtain ⟨q, h1, rfl⟩ := Option.map_eq_some_iff.1 hj
    exact ih j q v h1 hv (refsIns_get hs j q h1)
  | @tup cs vs hl _ ih =>
    have hs : refsIns S B cs := hs
    refine .tup (by rw [rens_map, List.length_map]; exact hl) (fun j p v hj hv => ?_)
    rw [rens_map, List.getElem?_map] at hj
    obtain ⟨q, h1, rfl⟩ := Option.map_eq_some_iff.1 hj
    exact ih j q v h1 hv (refsIns_get hs j q h1)
  | @fn f caps vs hl _ ih =>
    have hs : refsIns S B caps := hs
    refine .fn (by rw [rens_map, List.length_map]; exact hl) (fun j p v hj hv => ?_)
    rw [rens_map, List.getElem?_map] at hj
    obtain ⟨q, h1, rfl⟩ := Option.map_eq_some_iff.1 hj
    exact ih j q v h1 hv (refsIns_get hs j q h1)
end Go.Pm
