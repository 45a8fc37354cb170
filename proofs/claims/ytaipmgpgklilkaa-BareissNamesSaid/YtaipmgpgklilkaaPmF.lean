/-
  The pure machine: ranges over functions, the iterator walked in place.
-/
import Derived.Test.YtaipmgpgklilkaaPm11
set_option linter.unusedSimpArgs false
set_option linter.unusedVariables false
namespace Go.Pm
open Go.RowKit

section
variable {P : Program} {E : Env} {loc : Locs} {kn : Nat → Prop} {w : World} {a : Act} {σ : St}

/-- blocks that hold no cells turn -/
structure RawTo (B : Nat) (w w' : World) : Prop where
  os : w'.os = w.os
  tape : w'.tape = w.tape
  output : w'.output = w.output
  size : w'.heap.size = w.heap.size
  blk : ∀ b, w'.heap[b]? = w.heap[b]? ∨ (B ≤ b ∧ ∃ o, w.heap[b]? = some o ∧ o.rawO = true)
theorem RawTo.refl (B : Nat) (w : World) : RawTo B w w := ⟨rfl, rfl, rfl, rfl, fun _ => .inl rfl⟩
theorem RawTo.trans {B : Nat} {w w1 w2 : World} (h : RawTo B w w1) (k : RawTo B w1 w2) : RawTo B w w2 :=
  ⟨k.os.trans h.os, k.tape.trans h.tape, k.output.trans h.output, k.size.trans h.size, fun b => by
    rcases k.blk b with k1 | ⟨k1, o, k2, k3⟩ <;> rcases h.blk b with h1 | ⟨h1, o', h2, h3⟩
    · exact .inl (k1.trans h1)
    · exact .inr ⟨h1, o', h2, h3⟩
    · exact .inr ⟨k1, o, h1 ▸ k2, k3⟩
    · exact .inr ⟨h1, o', h2, h3⟩⟩
theorem RawTo.put {B b : Nat} {w : World} {o : Obj} (o' : Obj) (h : w.heap[b]? = some o) (hr : o.rawO = true) (hb : B ≤ b) : RawTo B w (w.putObj b o') :=
  ⟨rfl, rfl, rfl, by simp, fun x => by
    by_cases e : x = b
    · subst e; exact .inr ⟨hb, o, h, hr⟩
    · exact .inl (World.putObj_heap_other e)⟩
theorem RawTo.rd {B : Nat} {w w' : World} (h : RawTo B w w') {b o : Nat} {v : Value} (hr : rd w b o v) : rd w' b o v := by
  rcases h.blk b with h1 | ⟨_, x, h2, h3⟩
  · exact cell_old hr h1
  · have := hr.1
    simp only [World.cell?, h2] at this
    cases x <;> first | exact absurd (show (none : Option Value) = some v from this) (by simp) | exact absurd (show false = true from h3) (by simp)
theorem MC.rawTo {hg : Nat → Option Ob} {B : Nat} {w' : World} (h : MC E hg loc kn w) (hr : RawTo B w w') (hB : E.w0.heap.size ≤ B) : MC E hg loc kn w' ∧ TrX E (fun b => B ≤ b) hg loc kn w hg loc kn w' := by
  have same : ∀ id b, hg id ≠ none → (loc id).has b → w'.heap[b]? = w.heap[b]? := fun id b h1 h2 => by
    obtain ⟨c, t, h3⟩ := h.cells h1 h2
    rcases hr.blk b with h4 | ⟨_, o, h4, h5⟩
    · exact h4
    · rw [h3] at h4; cases h4; cases h5
  have hC : Cx.le (cxOf E hg loc w) (cxOf E hg loc w') := ⟨fun b o v h1 _ => hr.rd h1, fun _ _ _ _ h => h, fun _ _ _ _ _ h => h, rfl⟩
  refine ⟨⟨⟨hr.os.trans h.ext.os, hr.tape.trans h.ext.tape, hr.output.trans h.ext.output, by rw [hr.size]; exact h.ext.size, fun k hk => ?_⟩, fun b o ha => by rw [hr.size]; exact h.amlt b o ha, fun id ob hi => ?_, h.sep, fun id b h1 h2 => by rw [hr.size]; exact h.fresh id b h1 h2, h.amno⟩,
    ⟨hC, .refl _ _ _, fun _ h => h, by rw [hr.size]; exact Nat.le_refl _, fun b _ _ hx => ?_, fun id b h1 h2 => .inl ⟨id, h1, h2⟩⟩⟩
  · rcases hr.blk k with h1 | ⟨h1, _⟩
    · exact h1.trans (h.ext.block k hk)
    · omega
  · obtain ⟨g1, g2⟩ := h.objs id ob hi
    exact ⟨g1, g2.le hC (.refl _ _ _) (fun _ h => h) (fun b hb => same id b (by simp [hi]) hb)⟩
  · rcases hr.blk b with h1 | ⟨h1, _⟩
    · exact h1
    · exact absurd h1 hx
theorem MC.put {hg : Nat → Option Ob} {l : Nat} {o o' : Obj} (h : MC E hg loc kn w) (ho : w.heap[l]? = some o) (hr : o.rawO = true) (hl : E.w0.heap.size ≤ l) : MC E hg loc kn (w.putObj l o') ∧ TrX E (· = l) hg loc kn w hg loc kn (w.putObj l o') := by
  obtain ⟨h1, h2⟩ := h.rawTo (RawTo.put o' ho hr hl) (Nat.le_refl _)
  exact ⟨h1, ⟨h2.cx, h2.rf, h2.kn, h2.sz, fun b _ _ hx => World.putObj_heap_other hx, h2.own⟩⟩
theorem TrX.mono {X X' : Nat → Prop} {hg hg' : Nat → Option Ob} {loc' : Locs} {kn' : Nat → Prop} {w' : World} (h : TrX E X hg loc kn w hg' loc' kn' w') (hx : ∀ b, b < w.heap.size → X b → X' b) : TrX E X' hg loc kn w hg' loc' kn' w' :=
  ⟨h.cx, h.rf, h.kn, h.sz, fun b h1 h2 h3 => h.blk b h1 h2 (fun h4 => h3 (hx b h1 h4)), h.own⟩
theorem CI.rawTo {Φ : Fr} {w' : World} (h : CI E Φ σ loc kn a w) (hr : RawTo Φ.w.heap.size w w') : Conc E σ loc kn a w' ∧ In E Φ (hget σ.h) loc kn w' := by
  obtain ⟨h1, h2⟩ := h.c.mc.rawTo hr h.i.w0
  refine ⟨⟨h1, fun u => (h.c.slots u).le h2.cx h2.rf h2.kn, h.c.size, h.c.known⟩, ⟨?_, fun b o hb => ⟨(h.i.keep b o hb).1, ?_⟩, h.i.knlt, h.i.llt, h.i.w0⟩⟩
  · have := h.i.tr
    exact ⟨this.cx.trans h2.cx, this.rf.trans h2.rf this.kn, fun id hi => h2.kn id (this.kn id hi), Nat.le_trans this.sz h2.sz, fun b hb hno hx => by
      rcases hr.blk b with h3 | ⟨h3, _⟩
      · exact h3.trans (this.blk b hb hno hx)
      · omega, this.own⟩
  · rcases hr.blk b with h3 | ⟨h3, _⟩
    · exact h3.trans (h.i.keep b o hb).2
    · have := h.i.llt b o hb
      omega

/-- the marks of loops over functions, as a frame leaves -/
theorem leaves_marks {n : Nat} {ro : Option Nat} {fn : Func} {tmps : Array Value} {R : Ending → World → Prop} {B : Nat} : ∀ (bs : List Nat) (w : World), bs.Nodup → (∀ b ∈ bs, w.heap[b]? = some (.deferred (some [])) ∧ B ≤ b) →
    (∀ w', RawTo B w w' → ∃ v, (results fn tmps).run P w' = .ok v w' ∧ R (.returned v) w') → LeavesInM (FW ro) n P fn tmps R (bs.map fun b => { target := .collected b, args := #[] }) .returning w
  | [], w, _, _, h => h w (.refl _ _)
  | b :: bs, w, hn, hb, h => by
    obtain ⟨h1, h2⟩ := hb b List.mem_cons_self
    obtain ⟨n1, n2⟩ := List.nodup_cons.1 hn
    refine ⟨by simp, .inl ⟨b, _, rfl, run_takeDeferred h1, ?_⟩⟩
    have hr := RawTo.put (B := B) (.deferred none) h1 rfl h2
    refine leaves_marks bs _ n2 (fun c hc => ?_) (fun w' hw => h w' (hr.trans hw))
    obtain ⟨h3, h4⟩ := hb c (List.mem_cons_of_mem _ hc)
    exact ⟨(World.putObj_heap_other (fun e => n1 (by rw [← e]; exact hc))).trans h3, h4⟩

/-! ### values without a yield -/
mutual
def noYd : PV → Prop
  | .yd => False
  | .lt cs => noYs cs
  | .lp cs => noYs cs
  | .agg cs => noYs cs
  | .tup cs => noYs cs
  | .fn _ cs => noYs cs
  | .any => True
  | .d _ => True
  | .nl => True
  | .bw _ => True
  | .sr _ _ => True
  | .pr _ _ _ _ => True
  | .st _ _ => True
  | .tv _ _ _ _ => True
  | .po _ _ _ => True
  | .sw _ _ => True
  | .pw _ _ _ _ => True
def noYs : List PV → Prop
  | [] => True
  | p :: l => noYd p ∧ noYs l
end
theorem noYs_get : ∀ {l : List PV}, noYs l → ∀ (j : Nat) (p : PV), l[j]? = some p → noYd p
  | [], _, j, p, h => by cases h
  | q :: l, h, j, p, hj => by
    cases j with
    | zero => cases hj; exact h.1
    | succ j => exact noYs_get h.2 j p hj
def noYT : Slots → Prop
  | [] => True
  | (_, p) :: l => noYd p ∧ noYT l
def noYH : Heap → Prop
  | [] => True
  | (_, .box cs) :: l => noYs cs ∧ noYH l
  | (_, _) :: l => noYH l
theorem noYT_get : ∀ {t : Slots}, noYT t → ∀ u, noYd (get t u)
  | [], _, u => trivial
  | (v, p) :: t, h, u => by
    simp only [get]
    split
    · exact h.1
    · exact noYT_get h.2 u
theorem noYH_get : ∀ {h : Heap}, noYH h → ∀ id cs, hget h id = some (.box cs) → noYs cs
  | [], _, id, cs, e => by cases e
  | (v, o) :: h, hh, id, cs, e => by
    have h1 : (∀ cs, o = .box cs → noYs cs) ∧ noYH h := by
      cases o with
      | box cs => exact ⟨fun cs' h => by cases h; exact hh.1, hh.2⟩
      | arr a => exact ⟨fun cs' h => (by cases h), hh⟩
      | tab a => exact ⟨fun cs' h => (by cases h), hh⟩
      | dead => exact ⟨fun cs' h => (by cases h), hh⟩
    simp only [hget] at e
    split at e
    · exact h1.1 cs (Option.some.inj e)
    · exact noYH_get h1.2 id cs e
abbrev Env.setY (E : Env) (y : Option Nat) : Env := ⟨E.w0, E.am, y⟩
theorem PRep.setY {C C' : Cx} {hg : Nat → Option Ob} (hw : C'.w = C.w) (ho : C'.ow = C.ow) (ha : C'.am = C.am) {p : PV} {v : Value} (h : PRep C hg loc kn p v) (hn : noYd p) : PRep C' hg loc kn p v := by
  have hD : C.leD C' := fun b o v h1 h2 h3 => by rw [hw, ho, ha]; exact ⟨h1, h2, h3⟩
  induction h with
  | any v => exact .any v
  | d h => exact .d (h.leD hD)
  | nl => exact .nl
  | yd h => exact hn.elim
  | bw f hcell hrep => exact .bw f (fun j p h1 => by rw [hw, ho]; exact hcell j p h1) (fun j p h1 => (hrep j p h1).leD hD)
  | sr hk ho hv h => exact .sr hk ho hv h
  | pr hk ho hv hb ha => exact .pr hk ho hv hb ha
  | lt f hc hm hcell _ ih => exact .lt f hc hm (fun j p h1 => by rw [hw, ho, ha]; exact hcell j p h1) (fun j p h1 => ih j p h1 (noYs_get hn j p h1))
  | lp f hcell _ ih => exact .lp f (fun j p h1 => by rw [hw, ho, ha]; exact hcell j p h1) (fun j p h1 => ih j p h1 (noYs_get hn j p h1))
  | st hk ho hv h => exact .st hk ho hv h
  | tv hk ho hv h => exact .tv hk ho hv h
  | po hk ho hv h => exact .po hk ho hv h
  | sw hk ho hv h => exact .sw hk ho hv h
  | pw hk ho hv h => exact .pw hk ho hv h
  | agg hl _ ih => exact .agg hl (fun j p v h1 h2 => ih j p v h1 h2 (noYs_get hn j p h1))
  | tup hl _ ih => exact .tup hl (fun j p v h1 h2 => ih j p v h1 h2 (noYs_get hn j p h1))
  | fn hl _ ih => exact .fn hl (fun j p v h1 h2 => ih j p v h1 h2 (noYs_get hn j p h1))
theorem MC.setY {h : Heap} (hm : MC E (hget h) loc kn w) (hn : noYH h) (y : Option Nat) : MC (E.setY y) (hget h) loc kn w := by
  have hD : (cxOf E (hget h) loc w).leD (cxOf (E.setY y) (hget h) loc w) := fun b o v h1 h2 h3 => ⟨h1, h2, h3⟩
  refine ⟨hm.ext, hm.amlt, fun id ob hi => ?_, hm.sep, hm.fresh, hm.amno⟩
  obtain ⟨g1, g2⟩ := hm.objs id ob hi
  refine ⟨g1, ?_⟩
  cases ob with
  | arr ar => exact ⟨g2.1, ArrAt.leD hD (fun _ _ => rfl) g2.2⟩
  | tab T => exact TabAt.leD hD (fun _ _ => rfl) g2
  | dead => exact g2
  | box cs =>
    have hcs := noYH_get hn id cs hi
    have g2 : BoxAt _ _ _ _ cs (loc id) := g2
    show BoxAt _ _ _ _ cs (loc id)
    cases hl : loc id with
    | no => rw [hl] at g2; exact g2
    | tb lo rl => rw [hl] at g2; exact g2
    | pl b cap =>
      rw [hl] at g2
      obtain ⟨c, e, k1, k2, k3⟩ := g2
      refine ⟨c, e, k1, k2, fun j p hj => ?_⟩
      obtain ⟨u, k4, k5, k6⟩ := k3 j p hj
      exact ⟨u, k4, k5, PRep.setY (C := cxOf E (hget h) loc w) (C' := cxOf (E.setY y) (hget h) loc w) rfl rfl rfl k6 (noYs_get hcs j p hj)⟩
theorem TrX.setY {E' : Env} {X : Nat → Prop} {hg hg' : Nat → Option Ob} {loc' : Locs} {kn' : Nat → Prop} {w' : World} (h : TrX E' X hg loc kn w hg' loc' kn' w') : TrX E X hg loc kn w hg' loc' kn' w' :=
  ⟨⟨h.cx.cell, h.cx.ow, fun _ _ _ _ _ h3 => h3, rfl⟩, h.rf, h.kn, h.sz, h.blk, h.own⟩

/-! ### the round -/
def zipS : List Tmp → List PV → Slots → Slots
  | p :: ps, x :: xs, t => zipS ps xs ((p, x) :: t)
  | _, _, t => t
def asgK (k : St → Prop) : Exit → St → Prop
  | .normal, ρ => k ρ
  | _, _ => False
def rndK (τ : St) (K : St → Bool → Prop) : Exit → St → Prop
  | .normal, ρ => K ⟨τ.m, τ.t, ρ.h, ρ.n⟩ true
  | _, _ => False
def allLt (m : Nat) : List Tmp → Prop
  | [] => True
  | p :: ps => p < m ∧ allLt m ps
/-- what a condition on code stands for: rd: the code may stand in a round -/
def SC (P : Program) (rd : Bool) (Y : List PV → St → (St → Bool → Prop) → Prop) (c : Code) (K : Exit → St → Prop) (σ : St) : Prop :=
  ∀ (E : Env) (Φ : Fr) (ro : Option Nat) (n : Nat) (loc : Locs) (kn : Nat → Prop) (a : Act) (w : World), (rd = false → ro = none) → YOk P E Φ ro n Y → CI E Φ σ loc kn a w → c.wpIn (FW ro) n P (Reach E Φ K) a w
theorem SC.mono {rd : Bool} {Y : List PV → St → (St → Bool → Prop) → Prop} {c : Code} {K K' : Exit → St → Prop} (h : SC P rd Y c K σ) (hk : ∀ e τ, K e τ → K' e τ) : SC P rd Y c K' σ := fun E Φ ro n loc kn a w h1 h2 h3 =>
  wpIn_mono (h E Φ ro n loc kn a w h1 h2 h3) (fun _ _ _ ⟨τ, l, k, h4, h5⟩ => ⟨τ, l, k, hk _ _ h4, h5⟩)
theorem YOk.anti {Φ : Fr} {ro : Option Nat} {n : Nat} {Y Y' : List PV → St → (St → Bool → Prop) → Prop} (h : YOk P E Φ ro n Y') (hy : ∀ as τ K, Y as τ K → Y' as τ K) : YOk P E Φ ro n Y := fun l as σ K loc kn w vs h1 h2 => h l as σ K loc kn w vs h1 (hy _ _ _ h2)
/-- the round, by what its code does -/
def roundS (P : Program) (σ0 : St) (ps : Array Tmp) (asg body : Code) (args : List PV) (τ : St) (K : St → Bool → Prop) : Prop :=
  args.length = ps.size ∧ allLt σ0.m ps.toList ∧ SC P true noM.Y asg (asgK (SC P true noM.Y body (rndK τ K))) ⟨σ0.m, zipS ps.toList args σ0.t, τ.h, τ.n⟩
def roundY (P : Program) (σ0 : St) (ps : Array Tmp) (asg body : Code) (args : List PV) (τ : St) (K : St → Bool → Prop) : Prop :=
  Side (args.length = ps.size ∧ allLt σ0.m ps.toList) τ fun τ => vc P noM asg (asgK (vc P noM body (rndK τ K))) ⟨σ0.m, zipS ps.toList args σ0.t, τ.h, τ.n⟩
def itK (σ : St) (K : Exit → St → Prop) : Exit → St → Prop
  | .normal, τ => noYH τ.h ∧ K .normal ⟨σ.m, σ.t, τ.h, τ.n⟩
  | .ret, τ => noYH τ.h ∧ K .normal ⟨σ.m, σ.t, τ.h, τ.n⟩
  | _, _ => False
def argSlots : Nat → List PV → Slots
  | _, [] => []
  | i, p :: l => (i, p) :: argSlots (i + 1) l
def RangeV (P : Program) (g : Operand) (ps : Array Tmp) (asg body : Code) (K : Exit → St → Prop) (σ : St) : Prop := match ev σ.t g with
  | .fn gf caps => ∃ fn c, P.funcs[gf]? = some fn ∧ fn.body = some c ∧ (fn.name == "runtime.NumGoroutine") = false ∧ fn.results = #[] ∧ caps.length + 1 ≤ fn.ntmps ∧ noYT σ.t ∧ noYH σ.h ∧
      vc P ⟨roundY P σ ps asg body, noM.R⟩ c (itK σ K) ⟨fn.ntmps, argSlots 0 (.yd :: caps), σ.h, σ.n⟩
  | _ => False
def RangeS (P : Program) (g : Operand) (ps : Array Tmp) (asg body : Code) (K : Exit → St → Prop) (σ : St) : Prop := match ev σ.t g with
  | .fn gf caps => ∃ fn c, P.funcs[gf]? = some fn ∧ fn.body = some c ∧ (fn.name == "runtime.NumGoroutine") = false ∧ fn.results = #[] ∧ caps.length + 1 ≤ fn.ntmps ∧ noYT σ.t ∧ noYH σ.h ∧
      SC P true (roundS P σ ps asg body) c (itK σ K) ⟨fn.ntmps, argSlots 0 (.yd :: caps), σ.h, σ.n⟩
  | _ => False
theorem SC.of_vc (hmo : P.follows .mixedOrders = true) {Y : List PV → St → (St → Bool → Prop) → Prop} {c : Code} {K : Exit → St → Prop} (h : vc P ⟨Y, noM.R⟩ c K σ) : SC P true Y c K σ := fun _ _ _ _ loc kn a w _ hy hc => vc_sound (M := ⟨Y, noM.R⟩) hmo hy .no c K σ loc kn a w h hc
theorem roundS_of (hmo : P.follows .mixedOrders = true) {σ0 : St} {ps : Array Tmp} {asg body : Code} (args : List PV) (τ : St) (K : St → Bool → Prop) (h : roundY P σ0 ps asg body args τ K) : roundS P σ0 ps asg body args τ K := by
  obtain ⟨⟨h1, h2⟩, h3⟩ := h
  refine ⟨h1, h2, (SC.of_vc hmo (Y := noM.Y) h3).mono (fun e ρ hk => ?_)⟩
  cases e with
  | normal => exact SC.of_vc hmo (Y := noM.Y) hk
  | _ => exact hk.elim
theorem RangeS_of (hmo : P.follows .mixedOrders = true) {g : Operand} {ps : Array Tmp} {asg body : Code} {K : Exit → St → Prop} (h : RangeV P g ps asg body K σ) : RangeS P g ps asg body K σ := by
  unfold RangeV at h
  unfold RangeS
  split at h
  · obtain ⟨fn, c, h1, h2, h3, h4, h5, h6, h7, h8⟩ := h
    exact ⟨fn, c, h1, h2, h3, h4, h5, h6, h7, fun E Φ ro n loc kn a w g1 g2 g3 => SC.of_vc hmo h8 E Φ ro n loc kn a w g1 (g2.anti (roundS_of hmo)) g3⟩
  · exact h.elim
def fnM (P : Program) : Md := ⟨noM.Y, RangeV P⟩

theorem argSlots_get : ∀ (l : List PV) (i u : Nat), get (argSlots i l) u = if i ≤ u ∧ u < i + l.length then (l[u - i]?).getD .any else .any
  | [], i, u => by simp [argSlots, get]
  | p :: l, i, u => by
    simp only [argSlots, get]
    split
    · rename_i e
      subst e
      rw [if_pos ⟨Nat.le_refl _, by simp⟩, Nat.sub_self]
      rfl
    · rename_i e
      rw [argSlots_get l (i + 1) u]
      by_cases h : i ≤ u ∧ u < i + (p :: l).length
      · simp only [List.length_cons] at h
        rw [if_pos (by omega), if_pos (by simp only [List.length_cons]; omega), show u - i = (u - (i + 1)) + 1 by omega, List.getElem?_cons_succ]
      · simp only [List.length_cons] at h
        rw [if_neg (by omega), if_neg (by simp only [List.length_cons]; omega)]
/-- the slots with which a function begins -/
theorem args_slots {C : Cx} {hg : Nat → Option Ob} {args : List PV} {vs : Array Value} {m : Nat} (hl : vs.size = args.length) (hrep : ∀ (j : Nat) (p : PV) (v : Value), args[j]? = some p → vs[j]? = some v → PRep C hg loc kn p v) (ds : List Deferred) :
    SlotsOk C hg loc kn (argSlots 0 args) { tmps := vs ++ Array.replicate (m - vs.size) undef, defers := ds } := fun u => by
  rw [argSlots_get]
  split
  · rename_i hu
    obtain ⟨_, hu⟩ := hu
    rw [Nat.zero_add] at hu
    rw [Nat.sub_zero, List.getElem?_eq_getElem hu]
    have hv : (vs ++ Array.replicate (m - vs.size) undef).getD u undef = vs[u] := by
      rw [Array.getD_eq_getD_getElem?, Array.getElem?_append_left (by omega), Array.getElem?_eq_getElem (by omega)]; rfl
    rw [hv, Option.getD_some]
    exact hrep u args[u] vs[u] (List.getElem?_eq_getElem hu) (Array.getElem?_eq_getElem (by omega))
  · exact .any _

def setTmps (ps : List Tmp) (vs : List Value) (t : Array Value) : Array Value := (ps.zip vs).foldl (fun t x => t.setIfInBounds x.1 x.2) t
theorem setTmps_size : ∀ (ps : List Tmp) (vs : List Value) (t : Array Value), (setTmps ps vs t).size = t.size
  | [], vs, t => rfl
  | p :: ps, [], t => rfl
  | p :: ps, v :: vs, t => by
    show (setTmps ps vs (t.setIfInBounds p v)).size = _
    rw [setTmps_size]; simp
theorem zipS_slots {C : Cx} {hg : Nat → Option Ob} : ∀ (ps : List Tmp) (xs : List PV) (vs : List Value) (t : Slots) (tm : Array Value) (ds : List Deferred), xs.length = ps.length → vs.length = ps.length → allLt tm.size ps →
    (∀ (j : Nat) (p : PV) (v : Value), xs[j]? = some p → vs[j]? = some v → PRep C hg loc kn p v) → SlotsOk C hg loc kn t { tmps := tm, defers := ds } → SlotsOk C hg loc kn (zipS ps xs t) { tmps := setTmps ps vs tm, defers := ds }
  | [], xs, vs, t, tm, ds, _, _, _, _, h => by
    have e1 : zipS [] xs t = t := by cases xs <;> rfl
    rw [e1]; exact h
  | p :: ps, [], vs, t, tm, ds, h, _, _, _, _ => by cases h
  | p :: ps, x :: xs, [], t, tm, ds, _, h, _, _, _ => by cases h
  | p :: ps, x :: xs, v :: vs, t, tm, ds, hx, hv, hp, hr, h => by
    refine zipS_slots ps xs vs ((p, x) :: t) (tm.setIfInBounds p v) ds (by simpa using hx) (by simpa using hv) (by rw [Array.size_setIfInBounds]; exact hp.2) (fun j q u h1 h2 => hr (j + 1) q u h1 h2) (fun u => ?_)
    simp only [get]
    split
    · rename_i e
      subst e
      have e : (tm.setIfInBounds p v).getD p undef = v := by
        rw [Array.getD_eq_getD_getElem?, Array.getElem?_setIfInBounds_self_of_lt hp.1]; rfl
      rw [e]; exact hr 0 x v rfl rfl
    · rename_i e
      have e2 : (tm.setIfInBounds p v).getD u undef = tm.getD u undef := by simp [Array.getD_eq_getD_getElem?, e]
      rw [e2]; exact h u

/-- one round -/
theorem round_ok {n l D : Nat} {ps : Array Tmp} {asg body : Code} {Φ : Fr} {fid : FuncId} {rc : Loop} (hrc : rc = { state := .ready, pending := none, fn := fid, tmps := a.tmps, params := ps, assign := asg, body := body, defers := D })
    (hEy : E.y = some l) (hl0 : E.w0.heap.size ≤ l) (hX : Φ.X = (· = l)) (hL : Φ.L l = some (.loop rc)) (hsz : a.tmps.size = σ.m) (hsl : SlotsOk (cxOf E Φ.hg Φ.loc Φ.w) Φ.hg Φ.loc Φ.kn σ.t a) : YOk P E Φ none n (roundS P σ ps asg body) := by
  intro l' args τ K loc kn w vs hy h hm hi hn hk hvs hrep
  obtain ⟨hal, hlt, h⟩ := h
  rw [hEy] at hy
  cases hy
  have hlw := (hi.keep l _ hL).2
  have hll := hi.llt l _ hL
  have hlw' : l < w.heap.size := (Array.getElem?_eq_some_iff.1 hlw).1
  have hX' : ∀ b, Φ.X b ↔ b = l := fun b => by rw [hX]
  refine ⟨rc.fn, _, rc.assign, rc.body, run_yield hlw (by rw [hrc]; simpa [hal] using hvs), ?_⟩
  -- the frame of the round, ahead of its beginning and behind it
  let Φ1 : Fr := ⟨(· = l), hget τ.h, loc, kn, w, τ.n, Φ.L⟩
  let Φ2 : Fr := ⟨(· = l), hget τ.h, loc, kn, w, τ.n, fun b => if b = l then some (.loop { rc with state := .busy }) else Φ.L b⟩
  have hfold : (rc.params.zip vs).foldl (fun tmps (x : Tmp × Value) => tmps.setIfInBounds x.1 x.2) rc.tmps = setTmps ps.toList vs.toList a.tmps := by
    rw [hrc]
    unfold setTmps
    rw [← Array.foldl_toList, Array.toList_zip]
  have hin1 : In E Φ1 (hget τ.h) loc kn w := ⟨⟨.refl _, .refl _ _ _, fun _ h => h, Nat.le_refl _, fun _ _ _ _ => rfl, fun id b h1 h2 => .inl ⟨id, h1, h2⟩⟩, hi.keep, hk, fun b o hb => Nat.lt_of_lt_of_le (hi.llt b o hb) hi.tr.sz, hm.ext.size⟩
  have hci1 : CI E Φ1 ⟨σ.m, zipS ps.toList args σ.t, τ.h, τ.n⟩ loc kn { tmps := setTmps ps.toList vs.toList a.tmps, defers := [] } w :=
    ⟨⟨hm, zipS_slots ps.toList args vs.toList σ.t a.tmps [] (by simpa using hal) (by simp [hvs, hal]) (by rw [hsz]; exact hlt) (fun j p v h1 h2 => hrep j p v h1 (by simpa using h2)) (fun u => (hsl u).le hi.tr.cx hi.tr.rf hi.tr.kn), by rw [setTmps_size]; exact hsz, hk⟩, hin1, Nat.le_refl _, .nil _ _⟩
  have e0 : rc.assign = asg := by rw [hrc]
  have e1 : rc.body = body := by rw [hrc]
  rw [e0, e1, hfold]
  refine roundIn_of_wpIn (F := FW none) trivial (wpIn_mono (h E Φ1 (some l) (n - 1) loc kn _ w (fun h => by cases h) .no hci1) (fun e a1 w1 ⟨ρ, loc1, kn1, hk1, hc1⟩ => ?_))
  cases e with
  | normal =>
    have hk1 : SC P true noM.Y body (rndK τ K) ρ := hk1
    have hl1 := (hc1.i.keep l _ hL).2
    have hl1' : l < w1.heap.size := (Array.getElem?_eq_some_iff.1 hl1).1
    refine ⟨_, run_beginRound hl1 (by rw [hrc]), ?_⟩
    obtain ⟨hm2, ht2⟩ := hc1.c.mc.put (o' := .loop { rc with state := .busy }) hl1 rfl hl0
    have hd2 : ∀ B ds, DefsOk B w1 ds → DefsOk B (w1.putObj l (.loop { rc with state := .busy })) ds := fun B ds ⟨bs, g1, g2, g3⟩ => ⟨bs, g1, g2, fun b hb => ⟨(World.putObj_heap_other (fun e => by subst e; have := (g3 _ hb).1; rw [hl1] at this; cases this)).trans (g3 b hb).1, (g3 b hb).2⟩⟩
    have hci2 : CI E Φ2 ρ loc1 kn1 a1 (w1.putObj l (.loop { rc with state := .busy })) := by
      refine ⟨⟨hm2, fun u => (hc1.c.slots u).le ht2.cx ht2.rf ht2.kn, hc1.c.size, hc1.c.known⟩, ⟨hc1.i.tr.trans ht2, fun b o hb => ?_, hc1.i.knlt, fun b o hb => ?_, hc1.i.w0⟩, hc1.le, hd2 _ _ hc1.nod⟩
      · by_cases e : b = l
        · subst e
          have hb : (if b = b then some (Obj.loop { rc with state := .busy }) else Φ.L b) = some o := hb
          rw [if_pos rfl] at hb
          cases hb
          exact ⟨rfl, World.putObj_heap_same hl1'⟩
        · have hb : (if b = l then some (Obj.loop { rc with state := .busy }) else Φ.L b) = some o := hb
          rw [if_neg e] at hb
          exact ⟨(hc1.i.keep b o hb).1, (World.putObj_heap_other e).trans (hc1.i.keep b o hb).2⟩
      · by_cases e : b = l
        · subst e; exact hlw'
        · have hb : (if b = l then some (Obj.loop { rc with state := .busy }) else Φ.L b) = some o := hb
          rw [if_neg e] at hb
          exact hc1.i.llt b o hb
    refine wpIn_mono (hk1 E Φ2 (some l) (n - 1) loc1 kn1 a1 _ (fun h => by cases h) .no hci2) (fun e a3 w3 ⟨ρ3, loc3, kn3, hk3, hc3⟩ => ?_)
    cases e with
    | normal =>
      have hk3 : K ⟨τ.m, τ.t, ρ3.h, ρ3.n⟩ true := hk3
      have hl3 := (hc3.i.keep l (.loop { rc with state := .busy }) (if_pos rfl)).2
      have hl3' : l < w3.heap.size := (Array.getElem?_eq_some_iff.1 hl3).1
      obtain ⟨hm4, ht4⟩ := hc3.c.mc.put (o' := .loop rc) hl3 rfl hl0
      have hrc2 : ({ ({ rc with state := .busy } : Loop) with state := .ready, pending := none } : Loop) = rc := by rw [hrc]
      have hend := run_endRound (P := P) none hl3
      simp only [Option.isNone_none, if_true, hrc2] at hend
      have htr := hc3.i.tr.trans ht4
      refine ⟨_, _, hend, true, ρ3.h, ρ3.n, loc3, kn3, rfl, hk3, hm4, ⟨?_, fun b o hb => ?_, hi.knlt, hi.llt, hi.w0⟩, htr.cx, htr.rf, htr.kn, fun B ds ⟨bs, g1, g2, g3⟩ => ⟨bs, g1, g2, fun b hb => ⟨?_, (g3 b hb).2⟩⟩, hc3.c.known, hc3.le⟩
      · exact hi.tr.trans (htr.mono (fun b _ hb => (hX' b).2 hb))
      · by_cases e : b = l
        · subst e
          rw [hL] at hb
          cases hb
          exact ⟨rfl, World.putObj_heap_same hl3'⟩
        · have hb' : (if b = l then some (Obj.loop { rc with state := .busy }) else Φ.L b) = some o := by rw [if_neg e]; exact hb
          exact ⟨(hc3.i.keep b o hb').1, (World.putObj_heap_other e).trans (hc3.i.keep b o hb').2⟩
      · obtain ⟨g4, _⟩ := g3 b hb
        have hne : b ≠ l := fun e => by subst e; rw [hlw] at g4; cases g4
        exact (htr.blk b (Array.getElem?_eq_some_iff.1 g4).1 (hm.raw g4 rfl) hne).trans g4
    | _ => exact hk3.elim
  | _ => exact hk1.elim

/-- a range over a function that is walked in place -/
theorem range_soundS {n : Nat} {Φ : Fr} : ROk P E Φ none n (RangeS P) := by
  intro g ps asg body K σ loc kn a w h hci
  unfold RangeS at h
  split at h
  · rename_i gf caps hg
    obtain ⟨fn, c, hf, hb, hname, hres, hcap, hnt, hnh, hvc⟩ := h
    have hgv := evRep hci.c.slots g
    rw [hg] at hgv
    generalize hav : a.eval g = av at hgv
    cases hgv with
    | @fn _ _ lb hlb hj =>
    have hnc : noYs caps := by
      cases g with
      | tmp u => have := noYT_get hnt u; rw [show get σ.t u = .fn gf caps from hg] at this; exact this
      | const v => simp only [ev] at hg; unfold zPV at hg; split at hg <;> cases hg
      | global _ => cases hg
      | func f => cases hg; trivial
    have eg : ∀ args w, (callFunc gf args).run P w = .ok (.enter gf args) w := fun args w => by
      have h1 : fn.name ≠ "runtime.NumGoroutine" := by simpa using hname
      simp [callFunc, hf, h1, hb]
    refine wpIn_rangeFunc ?_
    intro fid hfid
    obtain ⟨rc, hrc⟩ : ∃ rc : Loop, rc = { state := .ready, pending := none, fn := fid, tmps := a.tmps, params := ps, assign := asg, body := body, defers := w.heap.size } := ⟨_, rfl⟩
    obtain ⟨W1, hW1⟩ : ∃ W1, (w.alloc (.deferred (some []))).alloc (.loop rc) = W1 := ⟨_, rfl⟩
    have hsz1 : W1.heap.size = w.heap.size + 2 := by rw [← hW1]; simp
    have hL1 : W1.heap[w.heap.size + 1]? = some (.loop rc) := by
      rw [← hW1]; have := World.alloc_heap_new (w.alloc (.deferred (some []))) (.loop rc); rwa [World.size_alloc] at this
    have hK1 : W1.heap[w.heap.size]? = some (.deferred (some [])) := by
      rw [← hW1]; exact (Below.heap_alloc _ _ _ (by simp)).trans (World.alloc_heap_new w _)
    have hb1 : Below w.heap.size w W1 := by
      rw [← hW1]; exact ((Below.refl _ w).alloc (Nat.le_refl _) _).alloc (by simp) _
    have ht1 := Tr.ext hci.c.mc hb1
    have hE0 := hci.c.mc.ext.size
    refine ⟨w.heap.size + 1, [{ target := .collected w.heap.size, args := #[] }], W1, { target := .fn (.func gf) lb, args := #[.func (.yield (w.heap.size + 1)) #[] #[]] }, W1, gf,
      #[.func (.yield (w.heap.size + 1)) #[] #[]] ++ lb, W1, ?_, ?_, fun _ _ => trivial, ?_, fun h0 => (by cases h0), ?_⟩
    · rw [← hW1, hrc]; exact run_enterLoop_outer _ _ _ _ _
    · simp only [resolve, hav]
      simp [go_sem]
    · simp [invoke, eg]
    · -- the iterator
      let Φi : Fr := ⟨(· = w.heap.size + 1), hget σ.h, loc, kn, W1, σ.n, fun b => if b = w.heap.size + 1 then some (.loop rc) else if b = w.heap.size then some (.deferred (some [])) else Φ.L b⟩
      have hLi : ∀ b o, Φi.L b = some o → (b = w.heap.size + 1 ∧ o = .loop rc) ∨ (b = w.heap.size ∧ o = .deferred (some [])) ∨ Φ.L b = some o := fun b o hb => by
        have hb : (if b = w.heap.size + 1 then some (Obj.loop rc) else if b = w.heap.size then some (.deferred (some [])) else Φ.L b) = some o := hb
        split at hb
        · cases hb; exact .inl ⟨by assumption, rfl⟩
        · split at hb
          · cases hb; exact .inr (.inl ⟨by assumption, rfl⟩)
          · exact .inr (.inr hb)
      have hLo : ∀ b o, Φ.L b = some o → Φi.L b = some o := fun b o hb => by
        have h1 : b < w.heap.size := (Array.getElem?_eq_some_iff.1 (hci.i.keep b o hb).2).1
        show (if b = w.heap.size + 1 then some (Obj.loop rc) else if b = w.heap.size then some (.deferred (some [])) else Φ.L b) = some o
        rw [if_neg (by omega), if_neg (by omega)]; exact hb
      let E' : Env := E.setY (some (w.heap.size + 1))
      have hin : In E' Φi (hget σ.h) loc kn W1 := ⟨⟨.refl _, .refl _ _ _, fun _ h => h, Nat.le_refl _, fun _ _ _ _ => rfl, fun id b h1 h2 => .inl ⟨id, h1, h2⟩⟩, fun b o hb => by
          rcases hLi b o hb with ⟨rfl, rfl⟩ | ⟨rfl, rfl⟩ | hb
          · exact ⟨rfl, hL1⟩
          · exact ⟨rfl, hK1⟩
          · have := hci.i.keep b o hb
            exact ⟨this.1, (hb1.block b (Array.getElem?_eq_some_iff.1 this.2).1).trans this.2⟩, hci.c.known, fun b o hb => by
          show b < W1.heap.size
          rcases hLi b o hb with ⟨rfl, rfl⟩ | ⟨rfl, rfl⟩ | hb
          · omega
          · omega
          · have := (Array.getElem?_eq_some_iff.1 (hci.i.keep b o hb).2).1
            omega, by show E.w0.heap.size ≤ W1.heap.size; omega⟩
      have hy : YOk P E' Φi none (n - 1) (roundS P σ ps asg body) := round_ok (E := E') (a := a) (D := w.heap.size) hrc rfl (by show E.w0.heap.size ≤ _; omega) rfl (if_pos rfl) hci.c.size (fun u => PRep.setY (C := cxOf E (hget σ.h) loc W1) (C' := cxOf E' (hget σ.h) loc W1) rfl rfl rfl ((hci.c.slots u).le ht1.cx ht1.rf ht1.kn) (noYT_get hnt u))
      refine callsIn_of_wp_marks (F := FW none) hf hb trivial ?_
      have hsl := args_slots (C := cxOf E' (hget σ.h) loc W1) (hg := hget σ.h) (loc := loc) (kn := kn) (args := .yd :: caps) (vs := #[.func (.yield (w.heap.size + 1)) #[] #[]] ++ lb) (m := fn.ntmps) (by simp [hlb]; omega) (fun j p v h1 h2 => by
        cases j with
        | zero =>
          cases h1
          have : v = yl (w.heap.size + 1) := by
            rw [Array.getElem?_append_left (by simp)] at h2
            exact (Option.some.inj h2).symm
          rw [this]; exact .yd rfl
        | succ j =>
          have h2 : lb[j]? = some v := by
            rw [Array.getElem?_append_right (by simp)] at h2
            simpa using h2
          exact PRep.setY (C := cxOf E (hget σ.h) loc W1) (C' := cxOf E' (hget σ.h) loc W1) rfl rfl rfl ((hj j p v h1 h2).le ht1.cx ht1.rf ht1.kn) (noYs_get hnc j p h1)) []
      have hcii : CI E' Φi ⟨fn.ntmps, argSlots 0 (.yd :: caps), σ.h, σ.n⟩ loc kn { tmps := #[.func (.yield (w.heap.size + 1)) #[] #[]] ++ lb ++ Array.replicate (fn.ntmps - (#[Value.func (.yield (w.heap.size + 1)) #[] #[]] ++ lb).size) undef, defers := [] } W1 :=
        ⟨⟨ht1.mc.setY hnh _, hsl, by simp [hlb]; omega, hci.c.known⟩, hin, Nat.le_refl _, .nil _ _⟩
      refine wpIn_mono (hvc E' Φi none (n - 1) loc kn _ W1 (fun _ => rfl) hy hcii) (fun e a' w' ⟨τ, loc', kn', hk', hc'⟩ => ?_)
      have fin : noYH τ.h ∧ K .normal ⟨σ.m, σ.t, τ.h, τ.n⟩ → LeavesInM (FW none) (n - 1) P fn a'.tmps (rangePost (FW none) n P (w.heap.size + 1) (Reach E Φ K) { a with defers := [{ target := .collected w.heap.size, args := #[] }] ++ a.defers }) a'.defers .returning w' := fun ⟨hnh', hK⟩ => by
        obtain ⟨bs, hbs, hnd, hmk⟩ := hc'.nod
        rw [hbs]
        refine leaves_marks bs w' hnd hmk (fun w'' hraw => ?_)
        obtain ⟨hcr, hir⟩ := hc'.rawTo hraw
        refine ⟨.tuple #[], by simp [results, hres], ?_⟩
        have hl2 := (hir.keep (w.heap.size + 1) (.loop rc) (if_pos rfl)).2
        obtain ⟨hm3', ht3'⟩ := hcr.mc.put (o' := .loop { rc with state := .exhausted }) hl2 rfl (by show E.w0.heap.size ≤ _; omega)
        have hm3 := hm3'.setY hnh' E.y
        have ht3 := ht3'.setY (E := E)
        have hirt := hir.tr.setY (E := E)
        have hend := run_endLoop (P := P) hl2 (by rw [hrc]; simp)
        have hpend : rc.pending = none := by rw [hrc]
        have hother : ∀ b, b ≠ w.heap.size + 1 → (w''.putObj (w.heap.size + 1) (.loop { rc with state := .exhausted })).heap[b]? = w''.heap[b]? := fun b hb => World.putObj_heap_other hb
        obtain ⟨W4, hW4⟩ : ∃ W4, W4 = w''.putObj (w.heap.size + 1) (.loop { rc with state := .exhausted }) := ⟨_, rfl⟩
        rw [← hW4] at hend hm3 ht3 hother
        rw [hpend] at hend
        refine ⟨none, W4, hend, ?_⟩
        -- back in the frame of the loop
        have htr : TrX E (fun b => w.heap.size ≤ b) (hget σ.h) loc kn w (hget τ.h) loc' kn' W4 :=
          ((ht1.x _).trans (hirt.mono (fun b _ (hb : b = w.heap.size + 1) => by omega))).trans (ht3.mono (fun b _ hb => by omega))
        have hkeep : ∀ b o, Φi.L b = some o → b ≠ w.heap.size + 1 → W4.heap[b]? = some o := fun b o hb hne => (hother b hne).trans (hir.keep b o hb).2
        have old : ∀ (b : Nat) (o : Obj), w.heap[b]? = some o → o.rawO = true → W4.heap[b]? = some o := fun b o hb hr => by
          have hlt := (Array.getElem?_eq_some_iff.1 hb).1
          exact (htr.blk b hlt (hci.c.mc.raw hb hr) (by omega)).trans hb
        refine ⟨⟨σ.m, σ.t, τ.h, τ.n⟩, loc', kn', hK, ⟨⟨hm3, fun u => (hci.c.slots u).le htr.cx htr.rf htr.kn, hci.c.size, hc'.c.known⟩, ⟨?_, fun b o hb => ⟨(hci.i.keep b o hb).1, old b o (hci.i.keep b o hb).2 (hci.i.keep b o hb).1⟩, hci.i.knlt, hci.i.llt, hci.i.w0⟩, Nat.le_trans hci.le hc'.le, ?_⟩⟩
        · have h1 := hci.i.tr
          exact ⟨h1.cx.trans htr.cx, h1.rf.trans htr.rf h1.kn, fun id hi => htr.kn id (h1.kn id hi), Nat.le_trans h1.sz htr.sz, fun b hb hno hx => (htr.blk b (Nat.lt_of_lt_of_le hb h1.sz) (fun ⟨id, g1, g2⟩ => (h1.own id b g1 g2).elim hno (fun g => absurd hb (by omega))) (by have := h1.sz; omega)).trans (h1.blk b hb hno hx),
            fun id b g1 g2 => (htr.own id b g1 g2).elim (fun ⟨i, g3, g4⟩ => h1.own i b g3 g4) (fun g => .inr (Nat.le_trans h1.sz g))⟩
        · obtain ⟨bs2, q1, q2, q3⟩ := hci.nod
          refine ⟨w.heap.size :: bs2, by rw [q1]; rfl, List.nodup_cons.2 ⟨fun hmem => ?_, q2⟩, fun b hb => ?_⟩
          · have := (Array.getElem?_eq_some_iff.1 (q3 _ hmem).1).1
            omega
          · rcases List.mem_cons.1 hb with rfl | hb
            · exact ⟨hkeep _ _ (by show (if w.heap.size = w.heap.size + 1 then some (Obj.loop rc) else if w.heap.size = w.heap.size then some (.deferred (some [])) else Φ.L w.heap.size) = _; rw [if_neg (by omega), if_pos rfl]) (by omega), hci.i.tr.sz⟩
            · exact ⟨old b _ (q3 b hb).1 rfl, (q3 b hb).2⟩
      cases e with
      | normal => exact fin hk'
      | ret => exact fin hk'
      | _ => exact hk'.elim
  · exact h.elim
theorem range_sound (hmo : P.follows .mixedOrders = true) {n : Nat} {Φ : Fr} : ROk P E Φ none n (RangeV P) := fun g ps asg body K σ loc kn a w h hci =>
  range_soundS g ps asg body K σ loc kn a w (RangeS_of hmo h) hci
end
end Go.Pm
