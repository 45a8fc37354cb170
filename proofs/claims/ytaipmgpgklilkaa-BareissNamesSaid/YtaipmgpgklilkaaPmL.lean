/-
  The pure machine: an operation looks at its operands and at the objects that its footprint names, and at nothing else.
-/
import Derived.Test.YtaipmgpgklilkaaPm10
set_option linter.unusedSimpArgs false
set_option linter.unusedVariables false
namespace Go.Pm
section
variable {P : Program} {σ : St} {nid : Nat} {o : Oper}

theorem dz_loc {g g' : Nat → Option Ob} {p : PV} (h : ∀ id ∈ fz p, g' id = g id) : dz g' p = dz g p := by
  cases p with
  | sr id ver => simp only [dz, h id (by simp [fz])]
  | st id ver => simp only [dz, h id (by simp [fz])]
  | tv id ver o n => simp only [dz, h id (by simp [fz])]
  | sw id r => simp only [dz, h id (by simp [fz])]
  | _ => rfl
theorem dzs_loc {g g' : Nat → Option Ob} : ∀ {ps : List PV}, (∀ id ∈ fzs ps, g' id = g id) → dzs g' ps = dzs g ps
  | [], _ => rfl
  | p :: l, h => by simp only [dzs, dz_loc (g := g) (p := p) (fun id hi => h id (by simp [fzs, hi])), dzs_loc (ps := l) (fun id hi => h id (by simp [fzs, hi]))]
theorem d0_loc {g g' : Nat → Option Ob} {p : PV} (h : ∀ id ∈ f0 p, g' id = g id) : d0 g' p = d0 g p := by
  cases p with
  | lt ps => simp only [d0, dzs_loc (g := g) (ps := ps) h]
  | sr id ver => exact dz_loc (p := .sr id ver) h
  | st id ver => exact dz_loc (p := .st id ver) h
  | tv id ver o n => exact dz_loc (p := .tv id ver o n) h
  | sw id r => exact dz_loc (p := .sw id r) h
  | _ => rfl
theorem els_loc {g g' : Nat → Option Ob} {p : PV} (h : ∀ id ∈ f0 p, g' id = g id) : els g' p = els g p := by
  simp only [els, d0_loc h]
theorem len_loc {g g' : Nat → Option Ob} {p : PV} (h : ∀ id ∈ fz p, g' id = g id) : lenOf g' p = lenOf g p := by
  cases p with
  | sr id ver => simp only [lenOf, h id (by simp [fz])]
  | st id ver => simp only [lenOf, h id (by simp [fz])]
  | tv id ver o n => simp only [lenOf, h id (by simp [fz])]
  | sw id r => simp only [lenOf, h id (by simp [fz])]
  | d x => cases x <;> rfl
  | _ => rfl
theorem fa_sub {p : PV} : ∀ id ∈ fa p, id ∈ f0 p := fun id h => by
  cases p with
  | lt ps => exact h
  | st id ver => exact h
  | tv id ver o n => exact h
  | _ => cases h
theorem d0s_loc {g g' : Nat → Option Ob} : ∀ {ps : List PV}, (∀ id ∈ f0s ps, g' id = g id) → d0s g' ps = d0s g ps
  | [], _ => rfl
  | p :: l, h => by simp only [d0s, d0_loc (g := g) (p := p) (fun id hi => h id (by simp [f0s, hi])), d0s_loc (ps := l) (fun id hi => h id (by simp [f0s, hi]))]
theorem frz_loc {g g' : Nat → Option Ob} : ∀ {l : List Nat}, (∀ id ∈ l, g' id = g id) → frz g' l = frz g l
  | [], _ => rfl
  | id :: l, h => by simp only [frz, h id (by simp), frz_loc (l := l) (fun i hi => h i (by simp [hi]))]
theorem d1_loc {g g' : Nat → Option Ob} {p : PV} (h : ∀ id ∈ f1 p, g' id = g id) : d1 g' p = d1 g p := by
  cases p with
  | agg cs => simp only [d1, d0s_loc (ps := cs) h]
  | sr id ver => exact d0_loc (g := g) (p := .sr id ver) h
  | st id ver => exact d0_loc (g := g) (p := .st id ver) h
  | tv id ver o n => exact d0_loc (g := g) (p := .tv id ver o n) h
  | sw id r => exact d0_loc (g := g) (p := .sw id r) h
  | lt ps => exact d0_loc (g := g) (p := .lt ps) h
  | _ => rfl
theorem g1_loc {g g' : Nat → Option Ob} {p : PV} (h : ∀ id ∈ r1 p, g' id = g id) : g1 g' p = g1 g p := by
  cases p with
  | pr id ver i off => simp only [g1, h id (by simp [r1])]
  | _ => rfl
theorem a1_loc {g g' : Nat → Option Ob} {p : PV} (h : ∀ id ∈ r1 p, g' id = g id) (k : ∀ id ∈ g1 g p, g' id = g id) : a1 g' p = a1 g p := by
  cases p with
  | pr id ver i off =>
    simp only [a1, h id (by simp [r1])]
    cases hg : g id with
    | none => rfl
    | some ob =>
      cases ob with
      | arr a => rfl
      | tab a => rfl
      | dead => rfl
      | box cs => simp only [d0s_loc (ps := cs.drop off) (fun i hi => k i (by simp [g1, hg, hi]))]
  | agg cs => simp only [a1, d1_loc (p := .agg cs) k]
  | sr id ver => simp only [a1, d1_loc (p := .sr id ver) k]
  | st id ver => simp only [a1, d1_loc (p := .st id ver) k]
  | tv id ver o n => simp only [a1, d1_loc (p := .tv id ver o n) k]
  | sw id r => simp only [a1, d1_loc (p := .sw id r) k]
  | lt ps => simp only [a1, d1_loc (p := .lt ps) k]
  | bw cs => rfl
  | d x => rfl
  | _ => rfl
theorem a1s_loc {g g' : Nat → Option Ob} : ∀ {ps : List PV}, (∀ id ∈ r1s ps, g' id = g id) → (∀ id ∈ g1s g ps, g' id = g id) → a1s g' ps = a1s g ps ∧ g1s g' ps = g1s g ps
  | [], _, _ => ⟨rfl, rfl⟩
  | p :: l, h, k => by
    obtain ⟨e1, e2⟩ := a1s_loc (ps := l) (fun id hi => h id (by simp [r1s, hi])) (fun id hi => k id (by simp [g1s, hi]))
    have e3 := a1_loc (p := p) (fun id hi => h id (by simp [r1s, hi])) (fun id hi => k id (by simp [g1s, hi]))
    have e4 := g1_loc (p := p) (fun id hi => h id (by simp [r1s, hi]))
    simp only [a1s, g1s, e1, e2, e3, e4]
    exact ⟨trivial, trivial⟩
theorem a2_loc {g g' : Nat → Option Ob} {p : PV} (h : ∀ id ∈ r2 p, g' id = g id) (k : ∀ id ∈ g2 g p, g' id = g id) : a2 g' p = a2 g p ∧ g2 g' p = g2 g p := by
  cases p with
  | fn f caps =>
    obtain ⟨e1, e2⟩ := a1s_loc (ps := caps) h k
    simp only [a2, g2, e1, e2]
    exact ⟨trivial, trivial⟩
  | any => exact ⟨rfl, rfl⟩
  | d x => exact ⟨rfl, rfl⟩
  | nl => exact ⟨rfl, rfl⟩
  | yd => exact ⟨rfl, rfl⟩
  | bw cs => exact ⟨rfl, rfl⟩
  | tup cs => exact ⟨rfl, rfl⟩
  | sr id ver => exact ⟨a1_loc (p := .sr id ver) h k, g1_loc (p := .sr id ver) h⟩
  | st id ver => exact ⟨a1_loc (p := .st id ver) h k, g1_loc (p := .st id ver) h⟩
  | tv id ver o n => exact ⟨a1_loc (p := .tv id ver o n) h k, g1_loc (p := .tv id ver o n) h⟩
  | sw id r => exact ⟨a1_loc (p := .sw id r) h k, g1_loc (p := .sw id r) h⟩
  | lt ps => exact ⟨a1_loc (p := .lt ps) h k, g1_loc (p := .lt ps) h⟩
  | lp ps => exact ⟨rfl, rfl⟩
  | po id ver i => exact ⟨rfl, rfl⟩
  | pw id r i off => exact ⟨rfl, rfl⟩
  | pr id ver i off => exact ⟨a1_loc (p := .pr id ver i off) h k, g1_loc (p := .pr id ver i off) h⟩
  | agg cs => exact ⟨a1_loc (p := .agg cs) h k, g1_loc (p := .agg cs) h⟩
theorem a2s_loc {g g' : Nat → Option Ob} : ∀ {ps : List PV}, (∀ id ∈ r2s ps, g' id = g id) → (∀ id ∈ g2s g ps, g' id = g id) → a2s g' ps = a2s g ps ∧ g2s g' ps = g2s g ps
  | [], _, _ => ⟨rfl, rfl⟩
  | p :: l, h, k => by
    obtain ⟨e1, e2⟩ := a2s_loc (ps := l) (fun id hi => h id (by simp [r2s, hi])) (fun id hi => k id (by simp [g2s, hi]))
    obtain ⟨e3, e4⟩ := a2_loc (p := p) (fun id hi => h id (by simp [r2s, hi])) (fun id hi => k id (by simp [g2s, hi]))
    simp only [a2s, g2s, e1, e2, e3, e4]
    exact ⟨trivial, trivial⟩

theorem got_mk {α : Type} {x : Option α} {y : α} {τ : St} {L : St → α → Prop} (h : x = some y) (hl : L τ y) : Got x τ L := by subst h; exact hl

/-- the same again, at a state that agrees -/
def Same (σ' : St) (r : PV) (U : Heap) (Rd : List Nat) : Kt := fun s r' U' Rd' => s = σ' ∧ r' = r ∧ U' = U ∧ Rd' = Rd
def SameV (σ' : St) (v : PV) : St → PV → Prop := fun s v' => s = σ' ∧ v' = v
theorem arith_loc {k : IntKind} {z : Int} {L : St → PV → Prop} (h : arith k z σ L) : ∃ v, L σ v ∧ ∀ σ', arith k z σ' (SameV σ' v) := by
  cases k with
  | i64 => exact ⟨_, h.2, fun σ' => ⟨h.1, rfl, rfl⟩⟩
  | _ => exact ⟨_, h, fun σ' => ⟨rfl, rfl⟩⟩
theorem binV_loc {op : BinOp} {t : TypeId} {x y : PV} {L : St → PV → Prop} (h : binV P op t x y σ L) : ∃ v, L σ v ∧ ∀ σ', binV P op t x y σ' (SameV σ' v) := by
  unfold binV at h ⊢
  split at h
  case h_1 | h_2 | h_3 | h_4 =>
    obtain ⟨hk, h⟩ := h
    obtain ⟨v, h1, h2⟩ := arith_loc h
    exact ⟨v, h1, fun σ' => ⟨hk, h2 σ'⟩⟩
  case h_21 => exact h.elim
  all_goals
    obtain ⟨hk, h⟩ := h
    exact ⟨_, h, fun σ' => ⟨hk, rfl, rfl⟩⟩
theorem arith_mono {k : IntKind} {z : Int} {L L' : St → PV → Prop} (h : arith k z σ L) (hh : ∀ s v, L s v → L' s v) : arith k z σ L' := by
  cases k with
  | i64 => exact ⟨h.1, hh _ _ h.2⟩
  | _ => exact hh _ _ h
theorem binV_mono {op : BinOp} {t : TypeId} {x y : PV} {L L' : St → PV → Prop} (h : binV P op t x y σ L) (hh : ∀ s v, L s v → L' s v) : binV P op t x y σ L' := by
  unfold binV at h ⊢
  split at h
  case h_1 | h_2 | h_3 | h_4 => exact ⟨h.1, arith_mono h.2 hh⟩
  case h_21 => exact h.elim
  all_goals exact ⟨h.1, hh _ _ h.2⟩
theorem unV_mono {op : UnOp} {x : PV} {L L' : St → PV → Prop} (h : unV op x σ L) (hh : ∀ s v, L s v → L' s v) : unV op x σ L' := by
  unfold unV at h ⊢
  split at h
  · exact hh _ _ h
  · exact arith_mono h hh
  · exact hh _ _ h
  · exact h.elim
theorem convV_mono {s d : TypeId} {x : PV} {L L' : St → PV → Prop} (h : convV P s d x σ L) (hh : ∀ s v, L s v → L' s v) : convV P s d x σ L' := by
  unfold convV at h ⊢
  split at h
  · obtain ⟨k', h1, h⟩ := got_spec h
    obtain ⟨k, h2, h⟩ := got_spec h
    rw [h1, h2]
    exact hh _ _ h
  · exact h.elim
theorem unV_loc {op : UnOp} {x : PV} {L : St → PV → Prop} (h : unV op x σ L) : ∃ v, L σ v ∧ ∀ σ', unV op x σ' (SameV σ' v) := by
  unfold unV at h ⊢
  split at h
  · exact ⟨_, h, fun σ' => ⟨rfl, rfl⟩⟩
  · exact arith_loc h
  · exact ⟨_, h, fun σ' => ⟨rfl, rfl⟩⟩
  · exact h.elim
theorem convV_loc {s d : TypeId} {x : PV} {L : St → PV → Prop} (h : convV P s d x σ L) : ∃ v, L σ v ∧ ∀ σ', convV P s d x σ' (SameV σ' v) := by
  unfold convV at h ⊢
  split at h
  · obtain ⟨k', h1, h⟩ := got_spec h
    obtain ⟨k, h2, h⟩ := got_spec h
    exact ⟨_, h, fun σ' => by rw [h1, h2]; exact ⟨rfl, rfl⟩⟩
  · exact h.elim

theorem loadV_loc {T : Ty} {x : PV} {K : Kt} (h : loadV T x σ K) : ∃ r U Rd, K σ r U Rd ∧ ∀ σ', (∀ id ∈ Rd, hget σ'.h id = hget σ.h id) → loadV T x σ' (Same σ' r U Rd) := by
  unfold loadV at h ⊢
  split at h
  · rename_i id ver i off
    obtain ⟨ob, hob, h⟩ := got_spec h
    split at h
    · obtain ⟨hs, h⟩ := h
      exact ⟨_, _, _, h, fun σ' ha => by rw [ha id (by simp), hob]; exact ⟨hs, rfl, rfl, rfl, rfl⟩⟩
    · obtain ⟨hs, e, he, h⟩ := h
      exact ⟨_, _, _, h, fun σ' ha => by rw [ha id (by simp), hob]; exact ⟨hs, e, he, rfl, rfl, rfl, rfl⟩⟩
    · exact h.elim
  · rename_i id ver i
    obtain ⟨ob, hob, h⟩ := got_spec h
    split at h
    · obtain ⟨hs, r, hr, es, hes, h⟩ := h
      exact ⟨_, _, _, h, fun σ' ha => got_mk ((ha id (by simp)).trans hob) ⟨hs, r, hr, es, hes, rfl, rfl, rfl, rfl⟩⟩
    · exact h.elim
  · rename_i id r i off
    obtain ⟨ob, hob, h⟩ := got_spec h
    split at h
    · obtain ⟨hs, es, hes, e, he, h⟩ := h
      exact ⟨_, _, _, h, fun σ' ha => got_mk ((ha id (by simp)).trans hob) ⟨hs, es, hes, e, he, rfl, rfl, rfl, rfl⟩⟩
    · exact h.elim
  · obtain ⟨hs, h⟩ := h
    exact ⟨_, _, _, h, fun σ' ha => ⟨hs, rfl, rfl, rfl, rfl⟩⟩
  · obtain ⟨hs, h⟩ := h
    exact ⟨_, _, _, h, fun σ' ha => ⟨hs, rfl, rfl, rfl, rfl⟩⟩
  · exact h.elim
theorem storeV_loc {T : Ty} {x y : PV} {K : Kt} (h : storeV T x y σ K) : ∃ r U Rd, K σ r U Rd ∧ ∀ σ', (∀ id ∈ Rd, hget σ'.h id = hget σ.h id) → storeV T x y σ' (Same σ' r U Rd) := by
  unfold storeV at h ⊢
  split at h
  · rename_i id ver i off
    obtain ⟨ob, hob, h⟩ := got_spec h
    split at h
    · obtain ⟨hs, h⟩ := h
      exact ⟨_, _, _, h, fun σ' ha => by rw [ha id (by simp), hob]; exact ⟨hs, rfl, rfl, rfl, rfl⟩⟩
    · obtain ⟨ds, hds, h⟩ := got_spec h
      obtain ⟨hs, e, he, h⟩ := h
      refine ⟨_, _, _, h, fun σ' ha => ?_⟩
      have e1 := d0s_loc (g := hget σ.h) (g' := hget σ'.h) (ps := cellsP y) (fun i hi => ha i (by simp [hi]))
      have e2 := frz_loc (g := hget σ.h) (g' := hget σ'.h) (l := f0s (cellsP y)) (fun i hi => ha i (by simp [hi]))
      refine got_mk ((ha id (by simp)).trans hob) ?_
      refine got_mk (e1.trans hds) ?_
      exact ⟨hs, e, he, rfl, rfl, by rw [e2], rfl⟩
    · exact h.elim
  · rename_i id r i off
    obtain ⟨ob, hob, h⟩ := got_spec h
    split at h
    · obtain ⟨ds, hds, h⟩ := got_spec h
      obtain ⟨hs, es, hes, e, he, h⟩ := h
      refine ⟨_, _, _, h, fun σ' ha => ?_⟩
      have e1 := d0s_loc (g := hget σ.h) (g' := hget σ'.h) (ps := cellsP y) (fun i hi => ha i (by simp [hi]))
      have e2 := frz_loc (g := hget σ.h) (g' := hget σ'.h) (l := f0s (cellsP y)) (fun i hi => ha i (by simp [hi]))
      refine got_mk ((ha id (by simp)).trans hob) ?_
      refine got_mk (e1.trans hds) ?_
      exact ⟨hs, es, hes, e, he, rfl, rfl, by rw [e2], rfl⟩
    · exact h.elim
  · rename_i id ver i
    obtain ⟨ob, hob, h⟩ := got_spec h
    split at h
    · obtain ⟨hs, h⟩ := h
      split at h
      · obtain ⟨h1, es, hes, h⟩ := h
        exact ⟨_, _, _, h, fun σ' ha => got_mk ((ha id (by simp)).trans hob) ⟨hs, h1, es, hes, rfl, rfl, rfl, rfl⟩⟩
      · rename_i id1 ver1
        obtain ⟨ob1, hob1, h⟩ := got_spec h
        split at h
        · obtain ⟨h1, h⟩ := h
          exact ⟨_, _, _, h, fun σ' ha => got_mk ((ha id (by simp)).trans hob) ⟨hs, got_mk ((ha _ (by simp)).trans hob1) ⟨h1, rfl, rfl, rfl, rfl⟩⟩⟩
        · exact h.elim
      · exact h.elim
    · exact h.elim
  · exact h.elim
theorem idxV_loc {T : Ty} {x ix : PV} {K : Kt} (h : idxV P T x ix σ K) : ∃ r U Rd, K σ r U Rd ∧ ∀ σ', (∀ id ∈ Rd, hget σ'.h id = hget σ.h id) → idxV P T x ix σ' (Same σ' r U Rd) := by
  unfold idxV at h ⊢
  split at h
  · split at h
    · rename_i hslc
      simp only [if_pos hslc]
      split at h
      · rename_i id ver
        obtain ⟨ob, hob, h⟩ := got_spec h
        split at h
        · obtain ⟨E, hE, h⟩ := got_spec h
          obtain ⟨hs, h⟩ := h
          exact ⟨_, _, _, h, fun σ' ha => got_mk ((ha id (by simp)).trans hob) (got_mk hE ⟨hs, rfl, rfl, rfl, rfl⟩)⟩
        · exact h.elim
      · rename_i id ver
        obtain ⟨ob, hob, h⟩ := got_spec h
        split at h
        · obtain ⟨E, hE, h⟩ := got_spec h
          obtain ⟨hs, h⟩ := h
          exact ⟨_, _, _, h, fun σ' ha => got_mk ((ha id (by simp)).trans hob) (got_mk hE ⟨hs, rfl, rfl, rfl, rfl⟩)⟩
        · exact h.elim
      · rename_i id ver o n
        obtain ⟨ob, hob, h⟩ := got_spec h
        split at h
        · obtain ⟨E, hE, h⟩ := got_spec h
          obtain ⟨hs, h⟩ := h
          exact ⟨_, _, _, h, fun σ' ha => got_mk ((ha id (by simp)).trans hob) (got_mk hE ⟨hs, rfl, rfl, rfl, rfl⟩)⟩
        · exact h.elim
      · rename_i id r
        obtain ⟨ob, hob, h⟩ := got_spec h
        split at h
        · obtain ⟨E, hE, h⟩ := got_spec h
          obtain ⟨es, hes, hs, h⟩ := h
          exact ⟨_, _, _, h, fun σ' ha => got_mk ((ha id (by simp)).trans hob) (got_mk hE ⟨es, hes, hs, rfl, rfl, rfl, rfl⟩)⟩
        · exact h.elim
      · obtain ⟨E, hE, h⟩ := got_spec h
        obtain ⟨hs, e, he, hs2, h⟩ := h
        exact ⟨_, _, _, h, fun σ' ha => by rw [hE]; exact ⟨hs, e, he, hs2, rfl, rfl, rfl, rfl⟩⟩
      · obtain ⟨E, hE, h⟩ := got_spec h
        obtain ⟨hs, h⟩ := h
        exact ⟨_, _, _, h, fun σ' ha => got_mk hE ⟨hs, rfl, rfl, rfl, rfl⟩⟩
      · exact h.elim
    · exact h.elim
  · exact h.elim
theorem appV_loc {T : Ty} {s x : PV} {K : Kt} (h : appV P T s x nid σ K) : ∃ r U Rd, K σ r U Rd ∧ ∀ σ', (∀ id ∈ Rd, hget σ'.h id = hget σ.h id) → appV P T s x nid σ' (Same σ' r U Rd) := by
  unfold appV at h ⊢
  obtain ⟨E, hE, hs, h⟩ := got_spec h
  split at h
  · obtain ⟨ns, hns, hs2, h⟩ := got_spec h
    refine ⟨_, _, _, h, fun σ' ha => ?_⟩
    have e2 := frz_loc (g := hget σ.h) (g' := hget σ'.h) (l := fa x) (fun i hi => ha i (fa_sub i hi))
    exact got_mk hE ⟨hs, got_mk ((els_loc (g := hget σ.h) (fun i hi => ha i hi)).trans hns) ⟨hs2, rfl, rfl, by rw [e2], rfl⟩⟩
  · obtain ⟨ob, hob, h⟩ := got_spec h
    split at h
    · obtain ⟨ns, hns, hs2, h⟩ := got_spec h
      refine ⟨_, _, _, h, fun σ' ha => ?_⟩
      have e2 := frz_loc (g := hget σ.h) (g' := hget σ'.h) (l := fa x) (fun i hi => ha i (by simp [fa_sub i hi]))
      exact got_mk hE ⟨hs, got_mk ((ha _ (by simp)).trans hob) (got_mk ((els_loc (g := hget σ.h) (fun i hi => ha i (by simp [hi]))).trans hns) ⟨hs2, rfl, rfl, by rw [e2], rfl⟩)⟩
    · exact h.elim
  · obtain ⟨ob, hob, h⟩ := got_spec h
    split at h
    · obtain ⟨hs2, h⟩ := h
      split at h
      · obtain ⟨ob1, hob1, h⟩ := got_spec h
        split at h
        · obtain ⟨hs3, h⟩ := h
          exact ⟨_, _, _, h, fun σ' ha => got_mk hE ⟨hs, got_mk ((ha _ (by simp)).trans hob) ⟨hs2, got_mk ((ha _ (by simp)).trans hob1) ⟨hs3, rfl, rfl, rfl, rfl⟩⟩⟩⟩
        · exact h.elim
      · exact h.elim
    · exact h.elim
  · obtain ⟨ob, hob, h⟩ := got_spec h
    split at h
    · obtain ⟨ns, hns, es, hes, hs2, h⟩ := got_spec h
      refine ⟨_, _, _, h, fun σ' ha => ?_⟩
      exact got_mk hE ⟨hs, got_mk ((ha _ (by simp)).trans hob) (got_mk ((els_loc (g := hget σ.h) (fun i hi => by rw [hs2.2.2.2.2.2.2] at hi; cases hi)).trans hns) ⟨es, hes, hs2, rfl, rfl, rfl, rfl⟩)⟩
    · exact h.elim
  · exact h.elim

theorem copyV_loc {T : Ty} {s x : PV} {K : Kt} (h : copyV P T s x σ K) : ∃ r U Rd, K σ r U Rd ∧ ∀ σ', (∀ id ∈ Rd, hget σ'.h id = hget σ.h id) → copyV P T s x σ' (Same σ' r U Rd) := by
  unfold copyV at h ⊢
  obtain ⟨E, hE, hs, h⟩ := got_spec h
  split at h
  · obtain ⟨ob, hob, h⟩ := got_spec h
    split at h
    · obtain ⟨ns, hns, hs2, h⟩ := got_spec h
      refine ⟨_, _, _, h, fun σ' ha => ?_⟩
      have e2 := frz_loc (g := hget σ.h) (g' := hget σ'.h) (l := fa x) (fun i hi => ha i (by simp [fa_sub i hi]))
      exact got_mk hE ⟨hs, got_mk ((ha _ (by simp)).trans hob) (got_mk ((els_loc (g := hget σ.h) (fun i hi => ha i (by simp [hi]))).trans hns) ⟨hs2, rfl, rfl, by rw [e2], rfl⟩)⟩
    · exact h.elim
  · exact h.elim
theorem map_ev {σ' : St} {l : List Operand} (h : ∀ x ∈ l, ev σ'.t x = ev σ.t x) : l.map (ev σ'.t) = l.map (ev σ.t) := List.map_congr_left h

theorem callV_loc {c : Call} {K : Kt} (h : callV P c nid σ K) : ∃ r U Rd, K σ r U Rd ∧ ∀ σ', (∀ x ∈ c.operands.toList, ev σ'.t x = ev σ.t x) → (∀ id ∈ Rd, hget σ'.h id = hget σ.h id) → callV P c nid σ' (Same σ' r U Rd) := by
  have hop : ∀ σ' : St, (∀ x ∈ c.operands.toList, ev σ'.t x = ev σ.t x) → ∀ x ∈ c.args.toList, ev σ'.t x = ev σ.t x := fun σ' h x hx => h x (by
    unfold Call.operands
    rw [Array.toList_append]
    exact List.mem_append_right _ hx)
  unfold callV at h ⊢
  cases hc : c.callee with
  | invoke x y => simp only [hc] at h
  | value f =>
    simp only [hc] at h ⊢
    have hf : ∀ σ' : St, (∀ x ∈ c.operands.toList, ev σ'.t x = ev σ.t x) → ev σ'.t f = ev σ.t f := fun σ' h => h f (by unfold Call.operands; simp [hc])
    split at h
    · rename_i g caps hev
      rcases h with h | ⟨hs, r, h', hcall, hhas, hK⟩
      · obtain ⟨as, has, h⟩ := got_spec h
        obtain ⟨r, hp, hlen, h⟩ := h
        refine ⟨_, _, _, h, fun σ' ha hb => ?_⟩
        have hm := map_ev (hop σ' ha)
        obtain ⟨e1, e2⟩ := a2s_loc (g := hget σ.h) (g' := hget σ'.h) (ps := c.args.toList.map (ev σ.t) ++ caps) (fun i hi => hb i (by simp [hi])) (fun i hi => hb i (by simp [hi]))
        have e3 := frz_loc (g := hget σ.h) (g' := hget σ'.h) (l := g2s (hget σ.h) (c.args.toList.map (ev σ.t) ++ caps)) (fun i hi => hb i (by simp [hi]))
        rw [hf σ' ha, hev]
        refine .inl (got_mk (by rw [hm]; exact e1.trans has) ⟨r, hp, hlen, rfl, rfl, by rw [hm, e2, e3], by rw [hm, e2]⟩)
      · refine ⟨_, _, _, hK, fun σ' ha hb => ?_⟩
        have hm := map_ev (hop σ' ha)
        rw [hf σ' ha, hev]
        exact .inr ⟨hs, r, h', by rw [hm]; exact hcall, hasH_loc hb hhas, rfl, rfl, rfl, rfl⟩
    · exact h.elim
  | builtin b =>
    cases b with
    | len =>
      simp only [hc] at h ⊢
      split at h
      · rename_i x t hx ht
        obtain ⟨T, hT, h⟩ := got_spec h
        obtain ⟨es, hes, h⟩ := got_spec h
        obtain ⟨hs, h⟩ := h
        refine ⟨_, _, _, h, fun σ' ha hb => ?_⟩
        have hm := hop σ' ha x (by rw [hx]; simp)
        exact got_mk hT (got_mk (by rw [hm]; exact (len_loc (g := hget σ.h) (fun i hi => hb i hi)).trans hes) ⟨hs, rfl, rfl, rfl, by rw [hm]⟩)
      · exact h.elim
    | append =>
      simp only [hc] at h ⊢
      split at h
      · rename_i s x t t' hx ht
        obtain ⟨T, hT, hs, h⟩ := got_spec h
        obtain ⟨r, U, Rd, h1, h2⟩ := appV_loc h
        refine ⟨r, U, Rd, h1, fun σ' ha hb => ?_⟩
        have h3 := h2 σ' hb
        rw [← hop σ' ha s (by rw [hx]; simp), ← hop σ' ha x (by rw [hx]; simp)] at h3
        exact got_mk hT ⟨hs, h3⟩
      · exact h.elim
    | copy =>
      simp only [hc] at h ⊢
      split at h
      · rename_i s x t t' hx ht
        obtain ⟨T, hT, h⟩ := got_spec h
        obtain ⟨r, U, Rd, h1, h2⟩ := copyV_loc h
        refine ⟨r, U, Rd, h1, fun σ' ha hb => ?_⟩
        have h3 := h2 σ' hb
        rw [← hop σ' ha s (by rw [hx]; simp), ← hop σ' ha x (by rw [hx]; simp)] at h3
        exact got_mk hT h3
      · exact h.elim
    | max =>
      simp only [hc] at h ⊢
      obtain ⟨m, hm, h⟩ := got_spec h
      exact ⟨_, _, _, h, fun σ' ha hb => got_mk (by rw [map_ev (hop σ' ha)]; exact hm) ⟨rfl, rfl, rfl, rfl⟩⟩
    | _ => simp only [hc] at h

theorem vcOp_loc {K : Kt} (h : vcOp P o nid σ K) : ∃ r U Rd, K σ r U Rd ∧ ∀ σ', (∀ x ∈ o.op.operands.toList, ev σ'.t x = ev σ.t x) → (∀ id ∈ Rd, hget σ'.h id = hget σ.h id) → vcOp P o nid σ' (Same σ' r U Rd) := by
  unfold vcOp at h ⊢
  cases ho : o.op with
  | move x => simp only [ho] at h ⊢; exact ⟨_, _, _, h, fun σ' ha hb => by rw [ha x (by simp [Op.operands])]; exact ⟨rfl, rfl, rfl, rfl⟩⟩
  | assign x => simp only [ho] at h ⊢; exact ⟨_, _, _, h, fun σ' ha hb => by rw [ha x (by simp [Op.operands])]; exact ⟨rfl, rfl, rfl, rfl⟩⟩
  | pick c x y =>
    simp only [ho] at h ⊢
    split at h
    · rename_i b hb
      cases b with
      | true => exact ⟨_, _, _, h.1 rfl, fun σ' ha _ => by rw [ha c (by simp [Op.operands]), hb]; exact ⟨fun _ => ⟨rfl, ha x (by simp [Op.operands]), rfl, rfl⟩, fun e => by cases e⟩⟩
      | false => exact ⟨_, _, _, h.2 rfl, fun σ' ha _ => by rw [ha c (by simp [Op.operands]), hb]; exact ⟨fun e => (by cases e), fun _ => ⟨rfl, ha y (by simp [Op.operands]), rfl, rfl⟩⟩⟩
    · exact h.elim
  | extract x i =>
    simp only [ho] at h ⊢
    split at h
    · rename_i vs hv
      obtain ⟨hs, h⟩ := h
      exact ⟨_, _, _, h, fun σ' ha _ => by rw [ha x (by simp [Op.operands]), hv]; exact ⟨hs, rfl, rfl, rfl, rfl⟩⟩
    · exact h.elim
  | alloc t =>
    simp only [ho] at h ⊢
    obtain ⟨T, hT, hs, h⟩ := got_spec h
    exact ⟨_, _, _, h, fun σ' _ _ => got_mk hT ⟨hs, rfl, rfl, rfl, rfl⟩⟩
  | box t x =>
    simp only [ho] at h ⊢
    obtain ⟨hs, h⟩ := h
    exact ⟨_, _, _, h, fun σ' ha _ => by rw [ha x (by simp [Op.operands])]; exact ⟨hs, rfl, rfl, by rw [ha x (by simp [Op.operands])], rfl⟩⟩
  | build t ps =>
    simp only [ho] at h ⊢
    obtain ⟨T, hT, hs, h⟩ := got_spec h
    obtain ⟨cs, hcs, h⟩ := got_spec h
    refine ⟨_, _, _, h, fun σ' ha _ => ?_⟩
    have e0 : ∀ p ∈ ps.toList, ev σ'.t p.2 = ev σ.t p.2 := fun p hp => ha p.2 (by simp only [Op.operands, List.mem_map]; exact ⟨p, hp, rfl⟩)
    have e1 : (ps.toList.map fun p => ev σ'.t p.2) = ps.toList.map fun p => ev σ.t p.2 := List.map_congr_left e0
    have e2 : (ps.toList.map fun p => (p.1, ev σ'.t p.2)) = ps.toList.map fun p => (p.1, ev σ.t p.2) := List.map_congr_left fun p hp => by rw [e0 p hp]
    exact got_mk hT ⟨by rw [e1]; exact hs, got_mk (by rw [e2]; exact hcs) ⟨rfl, rfl, rfl, rfl⟩⟩
  | buildSlice t len ps =>
    simp only [ho] at h ⊢
    obtain ⟨T, hT, h⟩ := got_spec h
    obtain ⟨E, hE, h⟩ := got_spec h
    by_cases hlit : litT E = true ∧ 0 < len
    · rw [if_pos hlit] at h
      obtain ⟨hs, h⟩ := h
      refine ⟨_, _, _, h, fun σ' ha hb => ?_⟩
      have e0 : ∀ p ∈ ps.toList, ev σ'.t p.2 = ev σ.t p.2 := fun p hp => ha p.2 (by simp only [Op.operands, List.mem_map]; exact ⟨p, hp, rfl⟩)
      have e1 : (ps.toList.map fun p => ev σ'.t p.2) = ps.toList.map fun p => ev σ.t p.2 := List.map_congr_left e0
      refine got_mk hT (got_mk hE ?_)
      rw [if_pos hlit]
      exact ⟨⟨hs.1, hs.2.1, hs.2.2.1, hs.2.2.2.1, hs.2.2.2.2.1, fun p hp => by rw [e0 p hp]; exact hs.2.2.2.2.2 p hp⟩, rfl, by rw [e1], rfl, rfl⟩
    rw [if_neg hlit] at h
    obtain ⟨ds, hds, hs, h⟩ := got_spec h
    refine ⟨_, _, _, h, fun σ' ha hb => ?_⟩
    have e0 : ∀ p ∈ ps.toList, ev σ'.t p.2 = ev σ.t p.2 := fun p hp => ha p.2 (by simp only [Op.operands, List.mem_map]; exact ⟨p, hp, rfl⟩)
    have e1 : (ps.toList.map fun p => ev σ'.t p.2) = ps.toList.map fun p => ev σ.t p.2 := List.map_congr_left e0
    have e2 := d0s_loc (g := hget σ.h) (g' := hget σ'.h) (ps := (ps.toList.map fun p => ev σ.t p.2).flatMap cellsP) hb
    have e3 := frz_loc (g := hget σ.h) (g' := hget σ'.h) (l := f0s ((ps.toList.map fun p => ev σ.t p.2).flatMap cellsP)) hb
    have hsub : ∀ p ∈ ps.toList, ∀ i ∈ f0s (cellsP (ev σ.t p.2)), i ∈ f0s ((ps.toList.map fun p => ev σ.t p.2).flatMap cellsP) := fun p hp i hi => by
      have key : ∀ (A B : List PV), (∀ q ∈ A, q ∈ B) → ∀ i ∈ f0s A, i ∈ f0s B := fun A B hAB i hi => by
        induction A with
        | nil => cases hi
        | cons q A ih =>
          rcases List.mem_append.1 (show i ∈ f0 q ++ f0s A from hi) with h1 | h1
          · have hq := hAB q List.mem_cons_self
            clear ih hAB
            induction B with
            | nil => cases hq
            | cons r B ih2 =>
              rcases List.mem_cons.1 hq with rfl | hq
              · exact List.mem_append_left _ h1
              · exact List.mem_append_right _ (ih2 hq)
          · exact ih (fun r hr => hAB r (List.mem_cons_of_mem _ hr)) h1
      exact key _ _ (fun q hq => List.mem_flatMap.2 ⟨_, List.mem_map.2 ⟨p, hp, rfl⟩, hq⟩) i hi
    have e4 : (ps.toList.map fun p => ((d0s (hget σ'.h) (cellsP (ev σ'.t p.2))).getD [])) = ps.toList.map fun p => ((d0s (hget σ.h) (cellsP (ev σ.t p.2))).getD []) := List.map_congr_left fun p hp => by
      rw [e0 p hp, d0s_loc (g := hget σ.h) (fun i hi => hb i (hsub p hp i hi))]
    refine got_mk hT (got_mk hE ?_)
    rw [if_neg hlit]
    refine (got_mk (by rw [e1]; exact e2.trans hds) ⟨⟨hs.1, hs.2.1, hs.2.2.1, hs.2.2.2.1, fun p hp => by rw [e0 p hp]; exact hs.2.2.2.2.1 p hp, hs.2.2.2.2.2.1, by rw [e1]; exact hs.2.2.2.2.2.2⟩, rfl, rfl, ?_, by rw [e1]⟩)
    rw [e1, e3, e4]
  | load t x =>
    simp only [ho] at h ⊢
    obtain ⟨T, hT, h⟩ := got_spec h
    obtain ⟨r, U, Rd, h1, h2⟩ := loadV_loc h
    exact ⟨r, U, Rd, h1, fun σ' ha hb => got_mk hT (by rw [ha x (by simp [Op.operands])]; exact h2 σ' hb)⟩
  | store t x y =>
    simp only [ho] at h ⊢
    obtain ⟨T, hT, h⟩ := got_spec h
    obtain ⟨r, U, Rd, h1, h2⟩ := storeV_loc h
    exact ⟨r, U, Rd, h1, fun σ' ha hb => got_mk hT (by rw [ha x (by simp [Op.operands]), ha y (by simp [Op.operands])]; exact h2 σ' hb)⟩
  | binOp op t x y t' =>
    simp only [ho] at h ⊢
    obtain ⟨v, h1, h2⟩ := binV_loc h
    exact ⟨_, _, _, h1, fun σ' ha _ => by rw [ha x (by simp [Op.operands]), ha y (by simp [Op.operands])]; exact binV_mono (h2 σ') (fun s v' ⟨e1, e2⟩ => ⟨e1, e2, rfl, rfl⟩)⟩
  | unOp op t x =>
    simp only [ho] at h ⊢
    obtain ⟨v, h1, h2⟩ := unV_loc h
    exact ⟨_, _, _, h1, fun σ' ha _ => by rw [ha x (by simp [Op.operands])]; exact unV_mono (h2 σ') (fun s v' ⟨e1, e2⟩ => ⟨e1, e2, rfl, rfl⟩)⟩
  | convert s d x =>
    simp only [ho] at h ⊢
    obtain ⟨v, h1, h2⟩ := convV_loc h
    exact ⟨_, _, _, h1, fun σ' ha _ => by rw [ha x (by simp [Op.operands])]; exact convV_mono (h2 σ') (fun s v' ⟨e1, e2⟩ => ⟨e1, e2, rfl, rfl⟩)⟩
  | nilCheck x =>
    simp only [ho] at h ⊢
    split at h
    · rename_i id ver i off he
      obtain ⟨ob, hob, h⟩ := got_spec h
      split at h
      · exact ⟨_, _, _, h, fun σ' ha hb => by rw [ha x (by simp [Op.operands]), he]; exact got_mk ((hb id (by simp)).trans hob) ⟨rfl, rfl, rfl, rfl⟩⟩
      · exact h.elim
    · rename_i cs he
      exact ⟨_, _, _, h, fun σ' ha hb => by rw [ha x (by simp [Op.operands]), he]; exact ⟨rfl, rfl, rfl, rfl⟩⟩
    · rename_i cs he
      exact ⟨_, _, _, h, fun σ' ha hb => by rw [ha x (by simp [Op.operands]), he]; exact ⟨rfl, rfl, rfl, rfl⟩⟩
    · rename_i f cs he
      exact ⟨_, _, _, h, fun σ' ha hb => by rw [ha x (by simp [Op.operands]), he]; exact ⟨rfl, rfl, rfl, rfl⟩⟩
    · exact h.elim
  | index t x i =>
    simp only [ho] at h ⊢
    split at h
    · rename_i s k z e1 e2
      obtain ⟨hs, h⟩ := h
      obtain ⟨b, hb', h⟩ := got_spec h
      exact ⟨_, _, _, h, fun σ' ha hb => by rw [ha x (by simp [Op.operands]), ha i (by simp [Op.operands]), e1, e2]; exact ⟨hs, got_mk hb' ⟨rfl, rfl, rfl, rfl⟩⟩⟩
    · exact h.elim
  | makeFunc fn first caps =>
    simp only [ho] at h ⊢
    split at h
    · obtain ⟨hs, h⟩ := h
      refine ⟨_, _, _, h, fun σ' ha _ => ?_⟩
      refine ⟨hs, rfl, ?_, rfl, rfl⟩
      show PV.fn _ _ = PV.fn _ _
      rw [map_ev (fun x hx => ha x (by simp only [Op.operands, Array.toList_append]; exact List.mem_append_right _ hx))]
    · exact h.elim
  | makeSlice t l c =>
    simp only [ho] at h ⊢
    split at h
    · rename_i k1 n k2 m e1 e2
      obtain ⟨T, hT, h⟩ := got_spec h
      obtain ⟨E, hE, hs, h⟩ := got_spec h
      refine ⟨_, _, _, h, fun σ' ha _ => ?_⟩
      rw [ha l (by simp [Op.operands]), ha c (by simp [Op.operands]), e1, e2]
      exact got_mk hT (got_mk hE ⟨hs, rfl, rfl, rfl, rfl⟩)
    · exact h.elim
  | fieldAddr s x f =>
    simp only [ho] at h ⊢
    obtain ⟨T, hT, h⟩ := got_spec h
    obtain ⟨fo, hfo, h⟩ := got_spec h
    split at h
    · rename_i id ver i off he
      obtain ⟨ob, hob, h⟩ := got_spec h
      split at h
      · obtain ⟨hs, h⟩ := h
        refine ⟨_, _, _, h, fun σ' ha hb => ?_⟩
        refine got_mk hT (got_mk hfo ?_)
        simp only [ha x (by simp [Op.operands]), he]
        exact got_mk ((hb id (by simp)).trans hob) ⟨hs, rfl, rfl, rfl, rfl⟩
      · obtain ⟨hs, h⟩ := h
        refine ⟨_, _, _, h, fun σ' ha hb => ?_⟩
        refine got_mk hT (got_mk hfo ?_)
        simp only [ha x (by simp [Op.operands]), he]
        exact got_mk ((hb id (by simp)).trans hob) ⟨hs, rfl, rfl, rfl, rfl⟩
      · exact h.elim
    · rename_i id r i off he
      obtain ⟨ob, hob, h⟩ := got_spec h
      split at h
      · obtain ⟨es, hes, hs, h⟩ := h
        refine ⟨_, _, _, h, fun σ' ha hb => ?_⟩
        refine got_mk hT (got_mk hfo ?_)
        simp only [ha x (by simp [Op.operands]), he]
        exact got_mk ((hb id (by simp)).trans hob) ⟨es, hes, hs, rfl, rfl, rfl, rfl⟩
      · exact h.elim
    · rename_i cs he
      obtain ⟨hs, h⟩ := h
      refine ⟨_, _, _, h, fun σ' ha hb => ?_⟩
      refine got_mk hT (got_mk hfo ?_)
      simp only [ha x (by simp [Op.operands]), he]
      exact ⟨hs, rfl, rfl, rfl, rfl⟩
    · exact h.elim
  | indexAddr t x ix =>
    simp only [ho] at h ⊢
    obtain ⟨T, hT, h⟩ := got_spec h
    obtain ⟨r, U, Rd, h1, h2⟩ := idxV_loc h
    exact ⟨r, U, Rd, h1, fun σ' ha hb => got_mk hT (by rw [ha x (by simp [Op.operands]), ha ix (by simp [Op.operands])]; exact h2 σ' hb)⟩
  | slice t x lo hi mx =>
    simp only [ho] at h ⊢
    obtain ⟨T, hT, h⟩ := got_spec h
    obtain ⟨es, hes, h⟩ := got_spec h
    obtain ⟨l, hl, h⟩ := got_spec h
    obtain ⟨hh, hhi, h⟩ := got_spec h
    obtain ⟨m, hmx, h⟩ := got_spec h
    obtain ⟨E, hE, hs, h⟩ := got_spec h
    have o1 : ∀ σ' : St, (∀ q ∈ (Op.slice t x lo hi mx).operands.toList, ev σ'.t q = ev σ.t q) → ∀ y : Option Operand, (∀ z, y = some z → z ∈ (Op.slice t x lo hi mx).operands.toList) → y.map (ev σ'.t) = y.map (ev σ.t) := fun σ' ha y hy => by
      cases y with
      | none => rfl
      | some z => simp only [Option.map_some]; rw [ha z (hy z rfl)]
    have go : ∀ σ' : St, (∀ q ∈ (Op.slice t x lo hi mx).operands.toList, ev σ'.t q = ev σ.t q) → lo.map (ev σ'.t) = lo.map (ev σ.t) ∧ hi.map (ev σ'.t) = hi.map (ev σ.t) ∧ mx.map (ev σ'.t) = mx.map (ev σ.t) ∧ ev σ'.t x = ev σ.t x := fun σ' ha =>
      ⟨o1 σ' ha lo (fun z hz => by subst hz; simp [Op.operands]), o1 σ' ha hi (fun z hz => by subst hz; simp [Op.operands]), o1 σ' ha mx (fun z hz => by subst hz; simp [Op.operands]), ha x (by simp [Op.operands])⟩
    have fzf : ∀ i ∈ fz (ev σ.t x), i ∈ f0 (ev σ.t x) := fun i hi => by
      generalize ev σ.t x = q at hi
      cases q <;> first | exact hi | cases hi
    split at h
    · rename_i id ver he
      obtain ⟨hs2, h⟩ := h
      refine ⟨_, _, _, h, fun σ' ha hb => ?_⟩
      obtain ⟨m1, m2, m3, e0⟩ := go σ' ha
      refine got_mk hT (got_mk (by rw [e0, he]; rw [he] at hes; exact (len_loc (g := hget σ.h) (p := .st id ver) hb).trans hes) (got_mk (by rw [m1]; exact hl) (got_mk (by rw [m2]; exact hhi) (got_mk (by rw [m3]; exact hmx) (got_mk hE ⟨hs, ?_⟩)))))
      dsimp only
      rw [e0, he]
      exact ⟨hs2, rfl, rfl, rfl, rfl⟩
    · rename_i hne
      obtain ⟨es2, hes2, hs2, h⟩ := got_spec h
      refine ⟨_, _, _, h, fun σ' ha hb => ?_⟩
      obtain ⟨m1, m2, m3, e0⟩ := go σ' ha
      have e1 := els_loc (g := hget σ.h) (g' := hget σ'.h) (p := ev σ.t x) hb
      have e2 := frz_loc (g := hget σ.h) (g' := hget σ'.h) (l := f0 (ev σ.t x)) hb
      refine got_mk hT (got_mk (by rw [e0]; exact (len_loc (g := hget σ.h) (p := ev σ.t x) (fun i hi => hb i (fzf i hi))).trans hes) (got_mk (by rw [m1]; exact hl) (got_mk (by rw [m2]; exact hhi) (got_mk (by rw [m3]; exact hmx) (got_mk hE ⟨hs, ?_⟩)))))
      dsimp only
      rw [e0]
      split
      · rename_i id ver he
        exact absurd he (hne id ver)
      · exact got_mk (e1.trans hes2) ⟨hs2, rfl, rfl, by rw [e2], rfl⟩
  | call c =>
    simp only [ho] at h ⊢
    obtain ⟨r, U, Rd, h1, h2⟩ := callV_loc h
    exact ⟨r, U, Rd, h1, fun σ' ha hb => h2 σ' (fun x hx => ha x hx) hb⟩
  | _ => simp only [ho] at h
end
end Go.Pm
