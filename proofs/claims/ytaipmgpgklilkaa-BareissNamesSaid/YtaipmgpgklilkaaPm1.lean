/-
  The pure machine, part 2: own memory, and how it may turn.
-/
import Derived.Test.YtaipmgpgklilkaaPm0
set_option linter.unusedSimpArgs false
set_option linter.unusedVariables false
namespace Go.Pm
open Go.RowKit

/-- the call's surroundings: the world that it was entered in, and cells that others may write later -/
structure Env where
  w0 : World
  am : Nat → Nat → Prop
  y : Option Nat

abbrev cxOf (E : Env) (hg : Nat → Option Ob) (loc : Locs) (w : World) : Cx := ⟨w, owns hg loc, E.am, E.y⟩

def BoxAt (C : Cx) (hg : Nat → Option Ob) (loc : Locs) (kn : Nat → Prop) (cs : List PV) : Lc → Prop
  | .no => False
  | .tb _ _ => False
  | .pl b _ => ∃ c e, C.w.heap[b]? = some (.cells c e (0, 0)) ∧ c.size = cs.length ∧ ∀ (j : Nat) (p : PV), cs[j]? = some p → ∃ u, c[j]? = some u ∧ u.oneCell' = true ∧ PRep C hg loc kn p u
def ArrAt (C : Cx) (a : Arr) : Lc → Prop
  | .no => a.es = []
  | .tb _ _ => False
  | .pl b cap => ∃ c : Array Value, C.w.heap[b]? = some (.cells c a.el (0, 0)) ∧ c.size = cap * a.k ∧ a.es.length ≤ cap ∧ cap ≤ maxLen ∧ (∀ e ∈ a.es, e.length = a.k) ∧
      ∀ (i j : Nat) (e : List D) (d : D), a.es[i]? = some e → e[j]? = some d → ∃ u, c[i * a.k + j]? = some u ∧ u.oneCell' = true ∧ Rep C d u
/-- where the rows' places lie -/
def OutAt (C : Cx) (T : Tab) (rl : Nat → Lc) : Lc → Prop
  | .no => T.out = []
  | .tb _ _ => False
  | .pl b cap => ∃ c : Array Value, C.w.heap[b]? = some (.cells c T.el (0, 0)) ∧ c.size = cap ∧ T.out.length ≤ cap ∧ cap ≤ maxLen ∧ ∀ (i r : Nat) (es : List (List D)), T.out[i]? = some r → T.row r = some es → c[i]? = some ((rl r).val es.length)
abbrev Tab.arr (T : Tab) (es : List (List D)) : Arr := ⟨T.rel, T.k, 0, false, es⟩
structure TabIn (C : Cx) (T : Tab) (lo : Lc) (rl : Nat → Lc) : Prop where
  pos : 0 < T.k
  out : OutAt C T rl lo
  row : ∀ r es, T.row r = some es → ArrAt C (T.arr es) (rl r)
  gone : ∀ r, T.row r = none → rl r = .no
  sep : ∀ r r' b, (rl r).has b → (rl r').has b → r = r'
  off : ∀ r b, lo.has b → ¬ (rl r).has b
  idx : ∀ (i r : Nat), T.out[i]? = some r → r < T.rows.length
def TabAt (C : Cx) (T : Tab) : Lc → Prop
  | .tb lo rl => TabIn C T lo rl
  | _ => False
def ObAt (C : Cx) (hg : Nat → Option Ob) (loc : Locs) (kn : Nat → Prop) (l : Lc) : Ob → Prop
  | .box cs => BoxAt C hg loc kn cs l
  | .arr a => 0 < a.k ∧ ArrAt C a l
  | .tab T => TabAt C T l
  | .dead => l = .no

/-- the own memory of a call, as it lies in a world -/
structure MC (E : Env) (hg : Nat → Option Ob) (loc : Locs) (kn : Nat → Prop) (w : World) : Prop where
  ext : Below E.w0.heap.size E.w0 w
  amlt : ∀ b o, E.am b o → b < w.heap.size
  objs : ∀ id ob, hg id = some ob → kn id ∧ ObAt (cxOf E hg loc w) hg loc kn (loc id) ob
  sep : ∀ id id' b, hg id ≠ none → hg id' ≠ none → (loc id).has b → (loc id').has b → id = id'
  fresh : ∀ id b, hg id ≠ none → (loc id).has b → E.w0.heap.size ≤ b ∧ b < w.heap.size
  amno : ∀ id b o, hg id ≠ none → (loc id).has b → ¬ E.am b o

structure Tr (E : Env) (hg : Nat → Option Ob) (loc : Locs) (kn : Nat → Prop) (w : World) (hg' : Nat → Option Ob) (loc' : Locs) (kn' : Nat → Prop) (w' : World) : Prop where
  mc : MC E hg' loc' kn' w'
  cx : Cx.le (cxOf E hg loc w) (cxOf E hg' loc' w')
  rf : RefLe hg hg' loc loc' kn
  kn : ∀ id, kn id → kn' id
  sz : w.heap.size ≤ w'.heap.size
  blk : ∀ b, b < w.heap.size → (¬ ∃ id, hg id ≠ none ∧ (loc id).has b) → w'.heap[b]? = w.heap[b]?
  own : ∀ id b, hg' id ≠ none → (loc' id).has b → (∃ i, hg i ≠ none ∧ (loc i).has b) ∨ w.heap.size ≤ b

theorem Cx.le.refl (C : Cx) : C.le C := ⟨fun _ _ _ h _ => h, fun _ _ _ _ h => h, fun _ _ _ _ _ h => h, rfl⟩
theorem Cx.le.trans {A B C : Cx} (h : A.le B) (k : B.le C) : A.le C :=
  ⟨fun b o v h1 h2 => k.cell b o v (h.cell b o v h1 h2) (h.ow b o v h1 h2), fun b o v h1 h2 => k.ow b o v (h.cell b o v h1 h2) (h.ow b o v h1 h2),
    fun b o v h1 h2 h3 => k.am b o v (h.cell b o v h1 h2) (h.ow b o v h1 h2) (h.am b o v h1 h2 h3), h.y.trans k.y⟩

theorem RefLe.refl (hg : Nat → Option Ob) (loc : Locs) (kn : Nat → Prop) : RefLe hg hg loc loc kn := ⟨fun _ _ _ h => ⟨⟨_, h⟩, rfl⟩, fun _ a _ h => ⟨a, h, fun _ => ⟨rfl, rfl, rfl⟩, Nat.le_refl _⟩, fun _ T _ h => ⟨T, h, .refl _ _⟩⟩
theorem RefLe.trans {h1 h2 h3 : Nat → Option Ob} {l1 l2 l3 : Locs} {k1 k2 : Nat → Prop} (h : RefLe h1 h2 l1 l2 k1) (k : RefLe h2 h3 l2 l3 k2) (hk : ∀ id, k1 id → k2 id) : RefLe h1 h3 l1 l3 k1 where
  box id cs' hi hb := by
    obtain ⟨⟨c, hc⟩, e⟩ := k.box id cs' (hk _ hi) hb
    obtain ⟨r, e'⟩ := h.box id c hi hc
    exact ⟨r, e.trans e'⟩
  arr id a' hi ha := by
    obtain ⟨a2, h2, e2, v2⟩ := k.arr id a' (hk _ hi) ha
    obtain ⟨a1, h1, e1, v1⟩ := h.arr id a2 hi h2
    refine ⟨a1, h1, fun hv => ?_, Nat.le_trans v1 v2⟩
    obtain ⟨x1, x2, x3⟩ := e2 (by omega)
    obtain ⟨y1, y2, y3⟩ := e1 (by omega)
    exact ⟨y1.trans x1, y2.trans x2, x3.trans y3⟩
  tab id T' hi hT := by
    obtain ⟨T2, h2, e2⟩ := k.tab id T' (hk _ hi) hT
    obtain ⟨T1, h1, e1⟩ := h.tab id T2 hi h2
    exact ⟨T1, h1, e1.trans e2⟩

theorem Tr.refl {E : Env} {hg : Nat → Option Ob} {loc : Locs} {kn : Nat → Prop} {w : World} (h : MC E hg loc kn w) : Tr E hg loc kn w hg loc kn w := ⟨h, .refl _, .refl _ _ _, fun _ h => h, Nat.le_refl _, fun _ _ _ => rfl, fun id _ h1 h2 => .inl ⟨id, h1, h2⟩⟩
theorem Tr.trans {E : Env} {h1 h2 h3 : Nat → Option Ob} {l1 l2 l3 : Locs} {k1 k2 k3 : Nat → Prop} {w1 w2 w3 : World} (h : Tr E h1 l1 k1 w1 h2 l2 k2 w2) (k : Tr E h2 l2 k2 w2 h3 l3 k3 w3) : Tr E h1 l1 k1 w1 h3 l3 k3 w3 :=
  ⟨k.mc, h.cx.trans k.cx, h.rf.trans k.rf h.kn, fun id hi => k.kn id (h.kn id hi), Nat.le_trans h.sz k.sz,
    fun b hb hno => (k.blk b (Nat.lt_of_lt_of_le hb h.sz) (fun ⟨id, g1, g2⟩ => (h.own id b g1 g2).elim hno (fun g => absurd hb (by omega)))).trans (h.blk b hb hno),
    fun id b g1 g2 => (k.own id b g1 g2).elim (fun ⟨i, g3, g4⟩ => h.own i b g3 g4) (fun g => .inr (Nat.le_trans h.sz g))⟩

/-- an object that is not touched -/
theorem BoxAt.le {C C' : Cx} {hg hg' : Nat → Option Ob} {loc loc' : Locs} {kn kn' : Nat → Prop} (hC : C.le C') (hR : RefLe hg hg' loc loc' kn) (hK : ∀ id, kn id → kn' id) {cs : List PV} {l : Lc}
    (hb : ∀ b, l.has b → C'.w.heap[b]? = C.w.heap[b]?) (h : BoxAt C hg loc kn cs l) : BoxAt C' hg' loc' kn' cs l := by
  cases l with
  | no => exact h
  | tb lo rl => exact h
  | pl b cap =>
    obtain ⟨c, e, h1, h2, h3⟩ := h
    refine ⟨c, e, (hb b rfl).trans h1, h2, fun j p hj => ?_⟩
    obtain ⟨u, h4, h5, h6⟩ := h3 j p hj
    exact ⟨u, h4, h5, h6.le hC hR hK⟩
theorem ArrAt.le {C C' : Cx} (hC : C.le C') {a : Arr} {l : Lc} (hb : ∀ b, l.has b → C'.w.heap[b]? = C.w.heap[b]?) (h : ArrAt C a l) : ArrAt C' a l := by
  cases l with
  | no => exact h
  | tb lo rl => exact h
  | pl b cap =>
    obtain ⟨c, h1, h2, h3, h4, h5, h6⟩ := h
    refine ⟨c, (hb b rfl).trans h1, h2, h3, h4, h5, fun i j e d hi hj => ?_⟩
    obtain ⟨u, h7, h8, h9⟩ := h6 i j e d hi hj
    exact ⟨u, h7, h8, h9.le hC⟩
theorem OutAt.le {C C' : Cx} {T : Tab} {rl : Nat → Lc} {l : Lc} (hb : ∀ b, l.has b → C'.w.heap[b]? = C.w.heap[b]?) (h : OutAt C T rl l) : OutAt C' T rl l := by
  cases l with
  | no => exact h
  | tb lo rl => exact h
  | pl b cap =>
    obtain ⟨c, h1, h2⟩ := h
    exact ⟨c, (hb b rfl).trans h1, h2⟩
theorem TabAt.le {C C' : Cx} (hC : C.le C') {T : Tab} {l : Lc} (hb : ∀ b, l.has b → C'.w.heap[b]? = C.w.heap[b]?) (h : TabAt C T l) : TabAt C' T l := by
  cases l with
  | no => exact h
  | pl b cap => exact h
  | tb lo rl => exact ⟨h.pos, h.out.le (fun b hl => hb b (.inl hl)), fun r es he => (h.row r es he).le hC (fun b hl => hb b (.inr ⟨r, hl⟩)), h.gone, h.sep, h.off, h.idx⟩
theorem ObAt.le {C C' : Cx} {hg hg' : Nat → Option Ob} {loc loc' : Locs} {kn kn' : Nat → Prop} (hC : C.le C') (hR : RefLe hg hg' loc loc' kn) (hK : ∀ id, kn id → kn' id) {ob : Ob} {l : Lc}
    (hb : ∀ b, l.has b → C'.w.heap[b]? = C.w.heap[b]?) (h : ObAt C hg loc kn l ob) : ObAt C' hg' loc' kn' l ob := by
  cases ob with
  | box cs => exact BoxAt.le hC hR hK hb h
  | arr a => exact ⟨h.1, ArrAt.le hC hb h.2⟩
  | tab T => exact TabAt.le hC hb h
  | dead => exact h

theorem cell_old {w w' : World} {b o : Nat} {v : Value} (h : rd w b o v) (hb : w'.heap[b]? = w.heap[b]?) : rd w' b o v :=
  ⟨(World.cell?_of_block (w := w) (a := ⟨b, o, none⟩) hb).trans h.1, by have := h.2; unfold World.frozen? at this ⊢; rw [show w'.heap[(⟨b, o, none⟩ : Addr).block]? = w.heap[(⟨b, o, none⟩ : Addr).block]? from hb]; exact this⟩
theorem cell_lt {w : World} {b o : Nat} {v : Value} (h : rd w b o v) : b < w.heap.size := World.block_lt_of_cell? w ⟨b, o, none⟩ h.1
theorem rd_row {w : World} {b o : Nat} {c : Array Value} {t : TypeId} {v : Value} (h : w.heap[b]? = some (.cells c t (0, 0))) (hv : c[o]? = some v) : rd w b o v :=
  ⟨by simp only [World.cell?, h]; simpa using hv, by simp [World.frozen?, h]⟩

/-- new memory beside the own -/
theorem Tr.ext {E : Env} {hg : Nat → Option Ob} {loc : Locs} {kn : Nat → Prop} {w w' : World} (h : MC E hg loc kn w) (hE : Below w.heap.size w w') : Tr E hg loc kn w hg loc kn w' := by
  have hsz : E.w0.heap.size ≤ w.heap.size := h.ext.size
  have hC : Cx.le (cxOf E hg loc w) (cxOf E hg loc w') := ⟨fun b o v h1 _ => cell_old h1 (hE.block b (cell_lt h1)), fun _ _ _ _ h => h, fun _ _ _ _ _ h => h, rfl⟩
  refine ⟨⟨h.ext.trans (hE.mono hsz), fun b o ha => Nat.lt_of_lt_of_le (h.amlt b o ha) hE.size, fun id ob hi => ?_, h.sep, fun id b hi hb => ?_, h.amno⟩, hC, .refl _ _ _, fun _ h => h, hE.size, fun b hb _ => hE.block b hb, fun id _ h1 h2 => .inl ⟨id, h1, h2⟩⟩
  · obtain ⟨h1, h2⟩ := h.objs id ob hi
    exact ⟨h1, h2.le hC (.refl _ _ _) (fun _ h => h) (fun b hb => hE.block b (h.fresh id b (by simp [hi]) hb).2)⟩
  · obtain ⟨h1, h2⟩ := h.fresh id b hi hb
    exact ⟨h1, Nat.lt_of_lt_of_le h2 hE.size⟩

/-- a table of objects with some replaced -/
def upd : Heap → (Nat → Option Ob) → Nat → Option Ob
  | [], g, t => g t
  | (u, p) :: l, g, t => if u = t then some p else upd l g t
theorem hget_append (U h : Heap) (t : Nat) : hget (U ++ h) t = upd U (hget h) t := by
  induction U with
  | nil => rfl
  | cons x U ih => obtain ⟨u, p⟩ := x; simp only [List.cons_append, hget, upd, ih]

/-- one object replaced or made: what has to be shown -/
theorem Tr.one {E : Env} {hg : Nat → Option Ob} {loc : Locs} {kn : Nat → Prop} {w : World} (h : MC E hg loc kn w) (id : Nat) (ob : Ob) (l : Lc) (w' : World)
    (hsz : w.heap.size ≤ w'.heap.size) (hos : w'.os = w.os) (htape : w'.tape = w.tape) (hout : w'.output = w.output)
    (hnew : ∀ b, l.has b → (hg id ≠ none ∧ (loc id).has b) ∨ (w.heap.size ≤ b ∧ b < w'.heap.size))
    (hblk : ∀ b, b < w.heap.size → ¬ (hg id ≠ none ∧ (loc id).has b) → w'.heap[b]? = w.heap[b]?)
    (hcell : ∀ b o v, hg id ≠ none → (loc id).has b → rd w b o v → ¬ owns hg loc b o → rd w' b o v ∧ ¬ (l.has b ∧ ob.owns o))
    (hbox : ∀ cs, ob = .box cs → kn id → (∃ cs', hg id = some (.box cs')) ∧ l = loc id)
    (harr : ∀ a', ob = .arr a' → kn id → ∃ a, hg id = some (.arr a) ∧ (a'.ver = a.ver → a.es.length = a'.es.length ∧ a.k = a'.k ∧ l = loc id) ∧ a.ver ≤ a'.ver)
    (htab : ∀ T', ob = .tab T' → kn id → ∃ T, hg id = some (.tab T) ∧ TabLe T T' (loc id) l)
    (hob : Cx.le (cxOf E hg loc w) (cxOf E (upd [(id, ob)] hg) (fun x => if x = id then l else loc x) w') → RefLe hg (upd [(id, ob)] hg) loc (fun x => if x = id then l else loc x) kn →
      ObAt (cxOf E (upd [(id, ob)] hg) (fun x => if x = id then l else loc x) w') (upd [(id, ob)] hg) (fun x => if x = id then l else loc x) (fun x => kn x ∨ x = id) l ob) :
    Tr E hg loc kn w (upd [(id, ob)] hg) (fun x => if x = id then l else loc x) (fun x => kn x ∨ x = id) w' := by
  have hw0 : E.w0.heap.size ≤ w.heap.size := h.ext.size
  have hself : upd [(id, ob)] hg id = some ob := by simp [upd]
  have hoth : ∀ x, x ≠ id → upd [(id, ob)] hg x = hg x := fun x hx => by simp [upd, Ne.symm hx]
  -- a block that the object may not take from others
  have hown : ∀ x b, x ≠ id → hg x ≠ none → (loc x).has b → ¬ l.has b := fun x b hx hgx hb hl => by
    rcases hnew b hl with ⟨h1, h2⟩ | ⟨h1, _⟩
    · exact hx (h.sep x id b hgx h1 hb h2)
    · exact absurd (h.fresh x b hgx hb).2 (by omega)
  have hblk' : ∀ x b, x ≠ id → hg x ≠ none → (loc x).has b → w'.heap[b]? = w.heap[b]? := fun x b hx hgx hb =>
    hblk b (h.fresh x b hgx hb).2 (fun ⟨h1, h2⟩ => hx (h.sep x id b hgx h1 hb h2))
  have hC : Cx.le (cxOf E hg loc w) (cxOf E (upd [(id, ob)] hg) (fun x => if x = id then l else loc x) w') := by
    have key : ∀ b o v, rd w b o v → ¬ owns hg loc b o → rd w' b o v ∧ ¬ (l.has b ∧ ob.owns o) := fun b o v h1 h2 => by
      by_cases hc : hg id ≠ none ∧ (loc id).has b
      · exact hcell b o v hc.1 hc.2 h1 h2
      · refine ⟨cell_old h1 (hblk b (cell_lt h1) hc), fun ⟨h3, _⟩ => ?_⟩
        rcases hnew b h3 with h4 | ⟨h4, _⟩
        · exact hc h4
        · exact absurd (cell_lt h1) (by omega)
    refine ⟨fun b o v h1 h2 => (key b o v h1 h2).1, fun b o v h1 h2 h3 => ?_, fun _ _ _ _ _ h => h, rfl⟩
    obtain ⟨x, ox, h4, h5, h6⟩ := h3
    by_cases hx : x = id
    · subst hx
      rw [hself] at h4
      cases h4
      simp only [if_true] at h5
      exact (key b o v h1 h2).2 ⟨h5, h6⟩
    · rw [hoth x hx] at h4
      simp only [if_neg hx] at h5
      exact h2 ⟨x, ox, h4, h5, h6⟩
  have hR : RefLe hg (upd [(id, ob)] hg) loc (fun x => if x = id then l else loc x) kn := by
    constructor
    · intro x cs hk hx
      by_cases e : x = id
      · subst e
        rw [hself] at hx
        cases hx
        obtain ⟨h1, h2⟩ := hbox cs rfl hk
        exact ⟨h1, by simp [h2]⟩
      · rw [hoth x e] at hx
        exact ⟨⟨_, hx⟩, by simp [e]⟩
    · intro x a hk hx
      by_cases e : x = id
      · subst e
        rw [hself] at hx
        cases hx
        obtain ⟨a0, h1, h2, h3⟩ := harr a rfl hk
        exact ⟨a0, h1, fun hv => by simpa using h2 hv, h3⟩
      · rw [hoth x e] at hx
        exact ⟨a, hx, fun _ => ⟨rfl, rfl, by simp [e]⟩, Nat.le_refl _⟩
    · intro x T hk hx
      by_cases e : x = id
      · subst e
        rw [hself] at hx
        cases hx
        obtain ⟨T0, h1, h2⟩ := htab T rfl hk
        exact ⟨T0, h1, by simpa using h2⟩
      · rw [hoth x e] at hx
        exact ⟨T, hx, by simp only [if_neg e]; exact .refl _ _⟩
  refine ⟨⟨?_, fun b o ha => Nat.lt_of_lt_of_le (h.amlt b o ha) hsz, fun x ox hx => ?_, fun x y b hx hy hbx hby => ?_, fun x b hx hb => ?_, fun x b o hx hb ha => ?_⟩, hC, hR, fun _ h => .inl h, hsz, fun b hb hno => hblk b hb (fun h1 => hno ⟨id, h1⟩), fun x b hx hb => ?_⟩
  · refine ⟨hos.trans h.ext.os, htape.trans h.ext.tape, hout.trans h.ext.output, Nat.le_trans hw0 hsz, fun k hk => ?_⟩
    rw [hblk k (by omega) (fun ⟨h1, h2⟩ => absurd (h.fresh id k h1 h2).1 (by omega))]
    exact h.ext.block k hk
  · by_cases e : x = id
    · subst e
      rw [hself] at hx
      cases hx
      exact ⟨.inr rfl, by simpa using hob hC hR⟩
    · rw [hoth x e] at hx
      obtain ⟨h1, h2⟩ := h.objs x ox hx
      refine ⟨.inl h1, ?_⟩
      simp only [if_neg e]
      exact h2.le hC hR (fun _ h => .inl h) (fun b hb => hblk' x b e (by simp [hx]) hb)
  · by_cases ex : x = id <;> by_cases ey : y = id
    · rw [ex, ey]
    · subst ex
      rw [hoth y ey] at hy
      simp only [if_neg ey, if_true] at hbx hby
      exact absurd hbx (hown y b ey hy hby)
    · subst ey
      rw [hoth x ex] at hx
      simp only [if_neg ex, if_true] at hbx hby
      exact absurd hby (hown x b ex hx hbx)
    · rw [hoth x ex] at hx
      rw [hoth y ey] at hy
      simp only [if_neg ex, if_neg ey] at hbx hby
      exact h.sep x y b hx hy hbx hby
  · by_cases ex : x = id
    · subst ex
      simp only [if_true] at hb
      rcases hnew b hb with ⟨h1, h2⟩ | ⟨h1, h2⟩
      · obtain ⟨h3, h4⟩ := h.fresh x b h1 h2
        exact ⟨h3, by omega⟩
      · exact ⟨by omega, h2⟩
    · rw [hoth x ex] at hx
      simp only [if_neg ex] at hb
      obtain ⟨h3, h4⟩ := h.fresh x b hx hb
      exact ⟨h3, by omega⟩
  · by_cases ex : x = id
    · subst ex
      simp only [if_true] at hb
      rcases hnew b hb with ⟨h1, h2⟩ | ⟨h1, _⟩
      · exact h.amno x b o h1 h2 ha
      · exact absurd (h.amlt b o ha) (by omega)
    · rw [hoth x ex] at hx
      simp only [if_neg ex] at hb
      exact h.amno x b o hx hb ha
  · by_cases ex : x = id
    · subst ex
      simp only [if_true] at hb
      rcases hnew b hb with h1 | ⟨h1, _⟩
      · exact .inl ⟨x, h1⟩
      · exact .inr h1
    · rw [hoth x ex] at hx
      simp only [if_neg ex] at hb
      exact .inl ⟨x, hx, hb⟩
end Go.Pm
