/-
  The pure machine, part 1: deep data, references, abstract states, and what they stand for in a world.
-/
import Derived.WalkKit
import Derived.Laws.CopyOwn
import Derived.Laws.Rows
import Derived.Maps.AppendAt
import Derived.KernelRfl
set_option linter.unusedVariables false
set_option linter.unusedSimpArgs false
set_option linter.unusedSimpArgs false
set_option linter.unusedVariables false
namespace Go.Pm
open Go.RowKit

/-- deep data that nobody writes -/
inductive D where
  | v (x : Value)
  | sl (es : List (List D))
  | agg (cs : List D)

/-- a world, the cells that the call itself may still write, and those that others may -/
structure Cx where
  w : World
  ow : Nat → Nat → Prop
  am : Nat → Nat → Prop
  y : Option Nat
def yl (l : Nat) : Value := .func (.yield l) ⟨[]⟩ ⟨[]⟩

/-- a cell that can be read, and whose bytes no string shares -/
abbrev rd (w : World) (b o : Nat) (v : Value) : Prop := w.cell? ⟨b, o, none⟩ = some v ∧ w.frozen? ⟨b, o, none⟩ = false

inductive Rep (C : Cx) : D → Value → Prop
  | v (x : Value) : Rep C (.v x) x
  | nil : Rep C (.sl []) (.slice none 0 0)
  | emp (a : Option Addr) (c : Nat) (hm : c ≤ maxLen) : Rep C (.sl []) (.slice a 0 c)
  | sl (es : List (List D)) (k c b o : Nat) (f : Nat → Nat → Value) (hc : es.length ≤ c) (hm : c ≤ maxLen) (hk : ∀ e ∈ es, e.length = k)
      (hcell : ∀ (i j : Nat) (e : List D) (p : D), es[i]? = some e → e[j]? = some p → rd C.w b (o + i * k + j) (f i j) ∧ (f i j).oneCell' = true ∧ ¬ C.ow b (o + i * k + j) ∧ ¬ C.am b (o + i * k + j))
      (hrep : ∀ (i j : Nat) (e : List D) (p : D), es[i]? = some e → e[j]? = some p → Rep C p (f i j)) : Rep C (.sl es) (.slice (some ⟨b, o, none⟩) es.length c)
  | agg (cs : List D) (vs : Array Value) (hl : vs.size = cs.length) (h : ∀ (j : Nat) (p : D) (v : Value), cs[j]? = some p → vs[j]? = some v → Rep C p v) : Rep C (.agg cs) (.agg vs)

/-- what is read stays read -/
structure Cx.le (C C' : Cx) : Prop where
  cell : ∀ b o v, rd C.w b o v → ¬ C.ow b o → rd C'.w b o v
  ow : ∀ b o v, rd C.w b o v → ¬ C.ow b o → ¬ C'.ow b o
  am : ∀ b o v, rd C.w b o v → ¬ C.ow b o → ¬ C.am b o → ¬ C'.am b o
  y : C.y = C'.y

def Cx.leD (C C' : Cx) : Prop := ∀ b o v, rd C.w b o v → ¬ C.ow b o → ¬ C.am b o → rd C'.w b o v ∧ ¬ C'.ow b o ∧ ¬ C'.am b o
theorem Cx.le.d {C C' : Cx} (h : C.le C') : C.leD C' := fun b o v h1 h2 h3 => ⟨h.cell b o v h1 h2, h.ow b o v h1 h2, h.am b o v h1 h2 h3⟩

theorem Rep.leD {C C' : Cx} (h : C.leD C') {d : D} {v : Value} (hr : Rep C d v) : Rep C' d v := by
  induction hr with
  | v x => exact .v x
  | nil => exact .nil
  | emp a c hm => exact .emp a c hm
  | sl es k c b o f hc hm hk hcell hrep ih =>
    refine .sl es k c b o f hc hm hk (fun i j e p h1 h2 => ?_) ih
    obtain ⟨a1, a2, a3, a4⟩ := hcell i j e p h1 h2
    obtain ⟨b1, b2, b3⟩ := h _ _ _ a1 a3 a4
    exact ⟨b1, a2, b2, b3⟩
  | agg cs vs hl _ ih => exact .agg cs vs hl ih
theorem Rep.le {C C' : Cx} (h : C.le C') {d : D} {v : Value} (hr : Rep C d v) : Rep C' d v := hr.leD h.d

/-- values in the abstract state: data, or references into own objects -/
inductive PV where
  | any
  | d (x : D)
  | nl
  | yd
  | bw (cs : List D)
  | sr (id ver : Nat)
  | pr (id ver i off : Nat)
  | st (id ver : Nat)
  | tv (id ver o n : Nat)
  | po (id ver i : Nat)
  | sw (id r : Nat)
  | pw (id r i off : Nat)
  | lt (cs : List PV)
  | lp (cs : List PV)
  | agg (cs : List PV)
  | tup (vs : List PV)
  | fn (f : FuncId) (caps : List PV)

structure Arr where
  el : TypeId
  k : Nat
  ver : Nat
  fz : Bool
  es : List (List D)

/-- rows that are written in place: where each stands, and what each holds; a row that is gone holds nothing -/
structure Tab where
  el : TypeId
  rel : TypeId
  k : Nat
  ver : Nat
  fz : Bool
  out : List Nat
  rows : List (Option (List (List D)))
def Tab.row (T : Tab) (r : Nat) : Option (List (List D)) := (T.rows[r]?).getD none

/-- the rows that stand in these places, as data -/
def Tab.sl (T : Tab) : List Nat → Option (List (List D))
  | [] => some []
  | r :: l => match T.row r, T.sl l with
    | some es, some rest => some ([.sl es] :: rest)
    | _, _ => none

inductive Ob where
  | box (cs : List PV)
  | arr (a : Arr)
  | tab (t : Tab)
  | dead

abbrev Slots := List (Nat × PV)
abbrev Heap := List (Nat × Ob)

def get : Slots → Nat → PV
  | [], _ => .any
  | (u, p) :: l, t => if u = t then p else get l t
def hget : Heap → Nat → Option Ob
  | [], _ => none
  | (u, p) :: l, t => if u = t then some p else hget l t

structure St where
  m : Nat
  t : Slots
  h : Heap
  n : Nat

/-- where an object lies -/
inductive Lc where
  | no
  | pl (b cap : Nat)
  | tb (lo : Lc) (rl : Nat → Lc)
def Lc.has : Lc → Nat → Prop
  | .no, _ => False
  | .pl b _, x => x = b
  | .tb lo rl, x => lo.has x ∨ ∃ r, (rl r).has x
/-- what stands where a place says -/
def Lc.val : Lc → Nat → Value
  | .no, _ => .slice none 0 0
  | .pl b cap, n => .slice (some ⟨b, 0, none⟩) n cap
  | .tb _ _, _ => .slice none 0 0
abbrev Locs := Nat → Lc

def Ob.owns : Ob → Nat → Prop
  | .arr a, o => a.fz = true → a.es.length * a.k ≤ o
  | .tab T, _ => T.fz = false
  | _, _ => True
def owns (hg : Nat → Option Ob) (loc : Locs) (b o : Nat) : Prop := ∃ id ob, hg id = some ob ∧ (loc id).has b ∧ ob.owns o

inductive PRep (C : Cx) (hg : Nat → Option Ob) (loc : Locs) (kn : Nat → Prop) : PV → Value → Prop
  | any (v) : PRep C hg loc kn .any v
  | d {x v} (h : Rep C x v) : PRep C hg loc kn (.d x) v
  | nl : PRep C hg loc kn .nl (.slice none 0 0)
  | yd {l : Nat} (h : C.y = some l) : PRep C hg loc kn .yd (yl l)
  | bw {cs : List D} {b o : Nat} (f : Nat → Value) (hcell : ∀ (j : Nat) (p : D), cs[j]? = some p → rd C.w b (o + j) (f j) ∧ (f j).oneCell' = true ∧ ¬ C.ow b (o + j))
      (hrep : ∀ (j : Nat) (p : D), cs[j]? = some p → Rep C p (f j)) : PRep C hg loc kn (.bw cs) (.pointer (some ⟨b, o, none⟩))
  | sr {id ver v} (hk : kn id) (ho : v.oneCell' = true) (hv : ∀ a, hg id = some (.arr a) → ver ≤ a.ver) (h : ∀ a, hg id = some (.arr a) → a.ver = ver → match loc id with
      | .no => v = .slice none 0 0
      | .pl b cap => v = .slice (some ⟨b, 0, none⟩) a.es.length cap
      | .tb _ _ => False) : PRep C hg loc kn (.sr id ver) v
  | pr {id ver i off v} (hk : kn id) (ho : v.oneCell' = true) (hv : ∀ a, hg id = some (.arr a) → ver ≤ a.ver) (hb : ∀ cs, hg id = some (.box cs) → ∀ b cap, loc id = .pl b cap → v = .pointer (some ⟨b, off, none⟩))
      (ha : ∀ a, hg id = some (.arr a) → a.ver = ver → ∀ b cap, loc id = .pl b cap → v = .pointer (some ⟨b, i * a.k + off, none⟩)) : PRep C hg loc kn (.pr id ver i off) v
  | lt {cs : List PV} {b c : Nat} (f : Nat → Value) (hc : cs.length ≤ c) (hm : c ≤ maxLen) (hcell : ∀ (j : Nat) (p : PV), cs[j]? = some p → rd C.w b j (f j) ∧ (f j).oneCell' = true ∧ ¬ C.ow b j ∧ ¬ C.am b j)
      (h : ∀ (j : Nat) (p : PV), cs[j]? = some p → PRep C hg loc kn p (f j)) : PRep C hg loc kn (.lt cs) (.slice (some ⟨b, 0, none⟩) cs.length c)
  | lp {cs : List PV} {b o : Nat} (f : Nat → Value) (hcell : ∀ (j : Nat) (p : PV), cs[j]? = some p → rd C.w b (o + j) (f j) ∧ (f j).oneCell' = true ∧ ¬ C.ow b (o + j) ∧ ¬ C.am b (o + j))
      (h : ∀ (j : Nat) (p : PV), cs[j]? = some p → PRep C hg loc kn p (f j)) : PRep C hg loc kn (.lp cs) (.pointer (some ⟨b, o, none⟩))
  | st {id ver v} (hk : kn id) (ho : v.oneCell' = true) (hv : ∀ T, hg id = some (.tab T) → ver ≤ T.ver) (h : ∀ T, hg id = some (.tab T) → T.ver = ver → ∀ lo rl, loc id = .tb lo rl → v = lo.val T.out.length) : PRep C hg loc kn (.st id ver) v
  | tv {id ver o n v} (hk : kn id) (ho : v.oneCell' = true) (hv : ∀ T, hg id = some (.tab T) → ver ≤ T.ver) (h : ∀ T, hg id = some (.tab T) → T.ver = ver → ∀ lo rl, loc id = .tb lo rl → o + n ≤ T.out.length ∧ match lo with
      | .no => v = .slice none 0 0 ∧ n = 0
      | .pl b _ => ∃ q c, v = .slice (some ⟨b, q, none⟩) n c ∧ (0 < n → q = o) ∧ n ≤ c ∧ c ≤ maxLen
      | .tb _ _ => False) : PRep C hg loc kn (.tv id ver o n) v
  | po {id ver i v} (hk : kn id) (ho : v.oneCell' = true) (hv : ∀ T, hg id = some (.tab T) → ver ≤ T.ver) (h : ∀ T, hg id = some (.tab T) → T.ver = ver → ∀ b cap rl, loc id = .tb (.pl b cap) rl → v = .pointer (some ⟨b, i, none⟩)) : PRep C hg loc kn (.po id ver i) v
  | sw {id r v} (hk : kn id) (ho : v.oneCell' = true) (hv : ∀ T, hg id = some (.tab T) → r < T.rows.length) (h : ∀ T es, hg id = some (.tab T) → T.row r = some es → ∀ lo rl, loc id = .tb lo rl → v = (rl r).val es.length) : PRep C hg loc kn (.sw id r) v
  | pw {id r i off v} (hk : kn id) (ho : v.oneCell' = true) (hv : ∀ T, hg id = some (.tab T) → r < T.rows.length) (h : ∀ T es, hg id = some (.tab T) → T.row r = some es → ∀ lo rl b cap, loc id = .tb lo rl → rl r = .pl b cap → v = .pointer (some ⟨b, i * T.k + off, none⟩)) : PRep C hg loc kn (.pw id r i off) v
  | agg {cs vs} (hl : vs.size = cs.length) (h : ∀ (j : Nat) (p : PV) (v : Value), cs[j]? = some p → vs[j]? = some v → PRep C hg loc kn p v) : PRep C hg loc kn (.agg cs) (.agg vs)
  | tup {cs vs} (hl : vs.size = cs.length) (h : ∀ (j : Nat) (p : PV) (v : Value), cs[j]? = some p → vs[j]? = some v → PRep C hg loc kn p v) : PRep C hg loc kn (.tup cs) (.tuple vs)
  | fn {f caps vs} (hl : vs.size = caps.length) (h : ∀ (j : Nat) (p : PV) (v : Value), caps[j]? = some p → vs[j]? = some v → PRep C hg loc kn p v) : PRep C hg loc kn (.fn f caps) (.func (.func f) #[] vs)

/-- a table that lives on: its rows keep their places, and those that are gone stay gone -/
def TabLe (T T' : Tab) (l l' : Lc) : Prop := T.ver ≤ T'.ver ∧ T.k = T'.k ∧ (T'.ver = T.ver → T.out.length = T'.out.length) ∧ T.rows.length ≤ T'.rows.length ∧
  (∀ r es', r < T.rows.length → T'.row r = some es' → ∃ es, T.row r = some es ∧ es.length = es'.length) ∧
  ∀ lo' rl', l' = .tb lo' rl' → ∃ lo rl, l = .tb lo rl ∧ (T'.ver = T.ver → lo = lo') ∧ ∀ r es', r < T.rows.length → T'.row r = some es' → rl r = rl' r
theorem TabLe.refl (T : Tab) (l : Lc) : TabLe T T l l := ⟨Nat.le_refl _, rfl, fun _ => rfl, Nat.le_refl _, fun _ es _ h => ⟨es, h, rfl⟩, fun lo rl h => ⟨lo, rl, h, fun _ => rfl, fun _ _ _ _ => rfl⟩⟩
theorem TabLe.trans {T1 T2 T3 : Tab} {l1 l2 l3 : Lc} (h : TabLe T1 T2 l1 l2) (k : TabLe T2 T3 l2 l3) : TabLe T1 T3 l1 l3 := by
  obtain ⟨a1, a2, a3, a4, a5, a6⟩ := h
  obtain ⟨b1, b2, b3, b4, b5, b6⟩ := k
  refine ⟨Nat.le_trans a1 b1, a2.trans b2, fun e => (a3 (by omega)).trans (b3 (by omega)), Nat.le_trans a4 b4, fun r es hr he => ?_, fun lo rl hl => ?_⟩
  · obtain ⟨e2, h1, h2⟩ := b5 r es (by omega) he
    obtain ⟨e1, h3, h4⟩ := a5 r e2 hr h1
    exact ⟨e1, h3, h4.trans h2⟩
  · obtain ⟨lo2, rl2, h1, h2, h3⟩ := b6 lo rl hl
    obtain ⟨lo1, rl1, h4, h5, h6⟩ := a6 lo2 rl2 h1
    refine ⟨lo1, rl1, h4, fun e => (h5 (by omega)).trans (h2 (by omega)), fun r es hr he => ?_⟩
    obtain ⟨e2, h7, _⟩ := b5 r es (by omega) he
    exact (h6 r e2 hr h7).trans (h3 r es (by omega) he)

/-- references that stay good: an object that is known keeps its place, its version, its length -/
structure RefLe (hg hg' : Nat → Option Ob) (loc loc' : Locs) (kn : Nat → Prop) : Prop where
  box : ∀ id cs', kn id → hg' id = some (.box cs') → (∃ cs, hg id = some (.box cs)) ∧ loc' id = loc id
  arr : ∀ id a', kn id → hg' id = some (.arr a') → ∃ a, hg id = some (.arr a) ∧ (a'.ver = a.ver → a.es.length = a'.es.length ∧ a.k = a'.k ∧ loc' id = loc id) ∧ a.ver ≤ a'.ver
  tab : ∀ id T', kn id → hg' id = some (.tab T') → ∃ T, hg id = some (.tab T) ∧ TabLe T T' (loc id) (loc' id)

theorem PRep.le {C C' : Cx} {hg hg' : Nat → Option Ob} {loc loc' : Locs} {kn kn' : Nat → Prop} (hC : C.le C') (hR : RefLe hg hg' loc loc' kn) (hK : ∀ id, kn id → kn' id) {p : PV} {v : Value}
    (h : PRep C hg loc kn p v) : PRep C' hg' loc' kn' p v := by
  induction h with
  | any v => exact .any v
  | d h => exact .d (h.le hC)
  | nl => exact .nl
  | yd h => exact .yd (hC.y ▸ h)
  | bw f hcell hrep =>
    refine .bw f (fun j p h1 => ?_) (fun j p h1 => (hrep j p h1).le hC)
    obtain ⟨a1, a2, a3⟩ := hcell j p h1
    exact ⟨hC.cell _ _ _ a1 a3, a2, hC.ow _ _ _ a1 a3⟩
  | @sr id ver v hk ho hv h =>
    refine .sr (hK _ hk) ho (fun a' ha' => ?_) (fun a' ha' hver => ?_)
    · obtain ⟨a, ha, h1, h2⟩ := hR.arr _ _ hk ha'
      exact Nat.le_trans (hv _ ha) h2
    · obtain ⟨a, ha, h1, h2⟩ := hR.arr _ _ hk ha'
      have h3 := hv _ ha
      have h4 : a'.ver = a.ver := by omega
      obtain ⟨e1, e2, e3⟩ := h1 h4
      have := h _ ha (by omega)
      rw [e3, ← e1]
      exact this
  | @pr id ver i off v hk ho hv hb ha =>
    refine .pr (hK _ hk) ho (fun a' ha' => ?_) (fun cs hcs b cap hl => ?_) (fun a' ha' hver b cap hl => ?_)
    · obtain ⟨a, ha, h1, h2⟩ := hR.arr _ _ hk ha'
      exact Nat.le_trans (hv _ ha) h2
    · obtain ⟨⟨cs0, h0⟩, h1⟩ := hR.box _ _ hk hcs
      exact hb _ h0 b cap (h1 ▸ hl)
    · obtain ⟨a, h0, h1, h2⟩ := hR.arr _ _ hk ha'
      have h3 := hv _ h0
      obtain ⟨e1, e2, e3⟩ := h1 (by omega)
      rw [← e2]
      exact ha _ h0 (by omega) b cap (e3 ▸ hl)
  | lt f hc hm hcell _ ih =>
    refine .lt f hc hm (fun j p h1 => ?_) ih
    obtain ⟨a1, a2, a3, a4⟩ := hcell j p h1
    exact ⟨hC.cell _ _ _ a1 a3, a2, hC.ow _ _ _ a1 a3, hC.am _ _ _ a1 a3 a4⟩
  | lp f hcell _ ih =>
    refine .lp f (fun j p h1 => ?_) ih
    obtain ⟨a1, a2, a3, a4⟩ := hcell j p h1
    exact ⟨hC.cell _ _ _ a1 a3, a2, hC.ow _ _ _ a1 a3, hC.am _ _ _ a1 a3 a4⟩
  | @st id ver v hk ho hv h =>
    refine .st (hK _ hk) ho (fun T' hT' => ?_) (fun T' hT' hver lo rl hl => ?_)
    · obtain ⟨T, hT, h1, _⟩ := hR.tab _ _ hk hT'
      exact Nat.le_trans (hv _ hT) h1
    · obtain ⟨T, hT, h1, _, h3, _, _, h6⟩ := hR.tab _ _ hk hT'
      have h7 := hv _ hT
      have h8 : T'.ver = T.ver := by omega
      obtain ⟨lo1, rl1, g1, g2, _⟩ := h6 lo rl hl
      rw [← h3 h8, ← g2 h8]
      exact h T hT (by omega) lo1 rl1 g1
  | @tv id ver o n v hk ho hv h =>
    refine .tv (hK _ hk) ho (fun T' hT' => ?_) (fun T' hT' hver lo rl hl => ?_)
    · obtain ⟨T, hT, h1, _⟩ := hR.tab _ _ hk hT'
      exact Nat.le_trans (hv _ hT) h1
    · obtain ⟨T, hT, h1, _, h3, _, _, h6⟩ := hR.tab _ _ hk hT'
      have h7 := hv _ hT
      have h8 : T'.ver = T.ver := by omega
      obtain ⟨lo1, rl1, g1, g2, _⟩ := h6 lo rl hl
      rw [← h3 h8, ← g2 h8]
      exact h T hT (by omega) lo1 rl1 g1
  | @po id ver i v hk ho hv h =>
    refine .po (hK _ hk) ho (fun T' hT' => ?_) (fun T' hT' hver b cap rl hl => ?_)
    · obtain ⟨T, hT, h1, _⟩ := hR.tab _ _ hk hT'
      exact Nat.le_trans (hv _ hT) h1
    · obtain ⟨T, hT, h1, _, _, _, _, h6⟩ := hR.tab _ _ hk hT'
      have h7 := hv _ hT
      have h8 : T'.ver = T.ver := by omega
      obtain ⟨lo1, rl1, g1, g2, _⟩ := h6 _ rl hl
      exact h T hT (by omega) b cap rl1 (by rw [g1, g2 h8])
  | @sw id r v hk ho hv h =>
    refine .sw (hK _ hk) ho (fun T' hT' => ?_) (fun T' es' hT' he lo rl hl => ?_)
    · obtain ⟨T, hT, _, _, _, h4, _⟩ := hR.tab _ _ hk hT'
      exact Nat.lt_of_lt_of_le (hv _ hT) h4
    · obtain ⟨T, hT, _, _, _, _, h5, h6⟩ := hR.tab _ _ hk hT'
      obtain ⟨es, h7, h8⟩ := h5 r es' (hv _ hT) he
      obtain ⟨lo1, rl1, g1, _, g3⟩ := h6 lo rl hl
      rw [← g3 r es' (hv _ hT) he, ← h8]
      exact h T es hT h7 lo1 rl1 g1
  | @pw id r i off v hk ho hv h =>
    refine .pw (hK _ hk) ho (fun T' hT' => ?_) (fun T' es' hT' he lo rl b cap hl hr => ?_)
    · obtain ⟨T, hT, _, _, _, h4, _⟩ := hR.tab _ _ hk hT'
      exact Nat.lt_of_lt_of_le (hv _ hT) h4
    · obtain ⟨T, hT, _, h2, _, _, h5, h6⟩ := hR.tab _ _ hk hT'
      obtain ⟨es, h7, h8⟩ := h5 r es' (hv _ hT) he
      obtain ⟨lo1, rl1, g1, _, g3⟩ := h6 lo rl hl
      rw [← h2]
      exact h T es hT h7 lo1 rl1 b cap g1 ((g3 r es' (hv _ hT) he).trans hr)
  | agg hl _ ih => exact .agg hl ih
  | tup hl _ ih => exact .tup hl ih
  | fn hl _ ih => exact .fn hl ih
end Go.Pm
/-
  The pure machine, part 2: own memory, and how it may turn.
-/
set_option linter.unusedSimpArgs false
set_option linter.unusedVariables false
namespace Go.Pm
open Go.RowKit

/-- the call's surroundings: the world that it was entered in, and cells that others may write later -/
structure Env where
  w0 : World
  am : Nat → Nat → Prop
  y : Option Nat

abbrev cxOf (E : Env) (hg : Nat → Option Ob) (loc : Locs) (w : World) : Cx := ⟨w, owns hg loc, E.am, E.y⟩

def BoxAt (C : Cx) (hg : Nat → Option Ob) (loc : Locs) (kn : Nat → Prop) (cs : List PV) : Lc → Prop
  | .no => False
  | .tb _ _ => False
  | .pl b _ => ∃ c e, C.w.heap[b]? = some (.cells c e (0, 0)) ∧ c.size = cs.length ∧ ∀ (j : Nat) (p : PV), cs[j]? = some p → ∃ u, c[j]? = some u ∧ u.oneCell' = true ∧ PRep C hg loc kn p u
def ArrAt (C : Cx) (a : Arr) : Lc → Prop
  | .no => a.es = []
  | .tb _ _ => False
  | .pl b cap => ∃ c : Array Value, C.w.heap[b]? = some (.cells c a.el (0, 0)) ∧ c.size = cap * a.k ∧ a.es.length ≤ cap ∧ cap ≤ maxLen ∧ (∀ e ∈ a.es, e.length = a.k) ∧
      ∀ (i j : Nat) (e : List D) (d : D), a.es[i]? = some e → e[j]? = some d → ∃ u, c[i * a.k + j]? = some u ∧ u.oneCell' = true ∧ Rep C d u
/-- where the rows' places lie -/
def OutAt (C : Cx) (T : Tab) (rl : Nat → Lc) : Lc → Prop
  | .no => T.out = []
  | .tb _ _ => False
  | .pl b cap => ∃ c : Array Value, C.w.heap[b]? = some (.cells c T.el (0, 0)) ∧ c.size = cap ∧ T.out.length ≤ cap ∧ cap ≤ maxLen ∧ ∀ (i r : Nat) (es : List (List D)), T.out[i]? = some r → T.row r = some es → c[i]? = some ((rl r).val es.length)
abbrev Tab.arr (T : Tab) (es : List (List D)) : Arr := ⟨T.rel, T.k, 0, false, es⟩
structure TabIn (C : Cx) (T : Tab) (lo : Lc) (rl : Nat → Lc) : Prop where
  pos : 0 < T.k
  out : OutAt C T rl lo
  row : ∀ r es, T.row r = some es → ArrAt C (T.arr es) (rl r)
  gone : ∀ r, T.row r = none → rl r = .no
  sep : ∀ r r' b, (rl r).has b → (rl r').has b → r = r'
  off : ∀ r b, lo.has b → ¬ (rl r).has b
  idx : ∀ (i r : Nat), T.out[i]? = some r → r < T.rows.length
def TabAt (C : Cx) (T : Tab) : Lc → Prop
  | .tb lo rl => TabIn C T lo rl
  | _ => False
def ObAt (C : Cx) (hg : Nat → Option Ob) (loc : Locs) (kn : Nat → Prop) (l : Lc) : Ob → Prop
  | .box cs => BoxAt C hg loc kn cs l
  | .arr a => 0 < a.k ∧ ArrAt C a l
  | .tab T => TabAt C T l
  | .dead => l = .no

/-- the own memory of a call, as it lies in a world -/
structure MC (E : Env) (hg : Nat → Option Ob) (loc : Locs) (kn : Nat → Prop) (w : World) : Prop where
  ext : Below E.w0.heap.size E.w0 w
  amlt : ∀ b o, E.am b o → b < w.heap.size
  objs : ∀ id ob, hg id = some ob → kn id ∧ ObAt (cxOf E hg loc w) hg loc kn (loc id) ob
  sep : ∀ id id' b, hg id ≠ none → hg id' ≠ none → (loc id).has b → (loc id').has b → id = id'
  fresh : ∀ id b, hg id ≠ none → (loc id).has b → E.w0.heap.size ≤ b ∧ b < w.heap.size
  amno : ∀ id b o, hg id ≠ none → (loc id).has b → ¬ E.am b o

structure Tr (E : Env) (hg : Nat → Option Ob) (loc : Locs) (kn : Nat → Prop) (w : World) (hg' : Nat → Option Ob) (loc' : Locs) (kn' : Nat → Prop) (w' : World) : Prop where
  mc : MC E hg' loc' kn' w'
  cx : Cx.le (cxOf E hg loc w) (cxOf E hg' loc' w')
  rf : RefLe hg hg' loc loc' kn
  kn : ∀ id, kn id → kn' id
  sz : w.heap.size ≤ w'.heap.size
  blk : ∀ b, b < w.heap.size → (¬ ∃ id, hg id ≠ none ∧ (loc id).has b) → w'.heap[b]? = w.heap[b]?
  own : ∀ id b, hg' id ≠ none → (loc' id).has b → (∃ i, hg i ≠ none ∧ (loc i).has b) ∨ w.heap.size ≤ b

theorem Cx.le.refl (C : Cx) : C.le C := ⟨fun _ _ _ h _ => h, fun _ _ _ _ h => h, fun _ _ _ _ _ h => h, rfl⟩
theorem Cx.le.trans {A B C : Cx} (h : A.le B) (k : B.le C) : A.le C :=
  ⟨fun b o v h1 h2 => k.cell b o v (h.cell b o v h1 h2) (h.ow b o v h1 h2), fun b o v h1 h2 => k.ow b o v (h.cell b o v h1 h2) (h.ow b o v h1 h2),
    fun b o v h1 h2 h3 => k.am b o v (h.cell b o v h1 h2) (h.ow b o v h1 h2) (h.am b o v h1 h2 h3), h.y.trans k.y⟩

theorem RefLe.refl (hg : Nat → Option Ob) (loc : Locs) (kn : Nat → Prop) : RefLe hg hg loc loc kn := ⟨fun _ _ _ h => ⟨⟨_, h⟩, rfl⟩, fun _ a _ h => ⟨a, h, fun _ => ⟨rfl, rfl, rfl⟩, Nat.le_refl _⟩, fun _ T _ h => ⟨T, h, .refl _ _⟩⟩
theorem RefLe.trans {h1 h2 h3 : Nat → Option Ob} {l1 l2 l3 : Locs} {k1 k2 : Nat → Prop} (h : RefLe h1 h2 l1 l2 k1) (k : RefLe h2 h3 l2 l3 k2) (hk : ∀ id, k1 id → k2 id) : RefLe h1 h3 l1 l3 k1 where
  box id cs' hi hb := by
    obtain ⟨⟨c, hc⟩, e⟩ := k.box id cs' (hk _ hi) hb
    obtain ⟨r, e'⟩ := h.box id c hi hc
    exact ⟨r, e.trans e'⟩
  arr id a' hi ha := by
    obtain ⟨a2, h2, e2, v2⟩ := k.arr id a' (hk _ hi) ha
    obtain ⟨a1, h1, e1, v1⟩ := h.arr id a2 hi h2
    refine ⟨a1, h1, fun hv => ?_, Nat.le_trans v1 v2⟩
    obtain ⟨x1, x2, x3⟩ := e2 (by omega)
    obtain ⟨y1, y2, y3⟩ := e1 (by omega)
    exact ⟨y1.trans x1, y2.trans x2, x3.trans y3⟩
  tab id T' hi hT := by
    obtain ⟨T2, h2, e2⟩ := k.tab id T' (hk _ hi) hT
    obtain ⟨T1, h1, e1⟩ := h.tab id T2 hi h2
    exact ⟨T1, h1, e1.trans e2⟩

theorem Tr.refl {E : Env} {hg : Nat → Option Ob} {loc : Locs} {kn : Nat → Prop} {w : World} (h : MC E hg loc kn w) : Tr E hg loc kn w hg loc kn w := ⟨h, .refl _, .refl _ _ _, fun _ h => h, Nat.le_refl _, fun _ _ _ => rfl, fun id _ h1 h2 => .inl ⟨id, h1, h2⟩⟩
theorem Tr.trans {E : Env} {h1 h2 h3 : Nat → Option Ob} {l1 l2 l3 : Locs} {k1 k2 k3 : Nat → Prop} {w1 w2 w3 : World} (h : Tr E h1 l1 k1 w1 h2 l2 k2 w2) (k : Tr E h2 l2 k2 w2 h3 l3 k3 w3) : Tr E h1 l1 k1 w1 h3 l3 k3 w3 :=
  ⟨k.mc, h.cx.trans k.cx, h.rf.trans k.rf h.kn, fun id hi => k.kn id (h.kn id hi), Nat.le_trans h.sz k.sz,
    fun b hb hno => (k.blk b (Nat.lt_of_lt_of_le hb h.sz) (fun ⟨id, g1, g2⟩ => (h.own id b g1 g2).elim hno (fun g => absurd hb (by omega)))).trans (h.blk b hb hno),
    fun id b g1 g2 => (k.own id b g1 g2).elim (fun ⟨i, g3, g4⟩ => h.own i b g3 g4) (fun g => .inr (Nat.le_trans h.sz g))⟩

/-- an object that is not touched -/
theorem BoxAt.le {C C' : Cx} {hg hg' : Nat → Option Ob} {loc loc' : Locs} {kn kn' : Nat → Prop} (hC : C.le C') (hR : RefLe hg hg' loc loc' kn) (hK : ∀ id, kn id → kn' id) {cs : List PV} {l : Lc}
    (hb : ∀ b, l.has b → C'.w.heap[b]? = C.w.heap[b]?) (h : BoxAt C hg loc kn cs l) : BoxAt C' hg' loc' kn' cs l := by
  cases l with
  | no => exact h
  | tb lo rl => exact h
  | pl b cap =>
    obtain ⟨c, e, h1, h2, h3⟩ := h
    refine ⟨c, e, (hb b rfl).trans h1, h2, fun j p hj => ?_⟩
    obtain ⟨u, h4, h5, h6⟩ := h3 j p hj
    exact ⟨u, h4, h5, h6.le hC hR hK⟩
theorem ArrAt.le {C C' : Cx} (hC : C.le C') {a : Arr} {l : Lc} (hb : ∀ b, l.has b → C'.w.heap[b]? = C.w.heap[b]?) (h : ArrAt C a l) : ArrAt C' a l := by
  cases l with
  | no => exact h
  | tb lo rl => exact h
  | pl b cap =>
    obtain ⟨c, h1, h2, h3, h4, h5, h6⟩ := h
    refine ⟨c, (hb b rfl).trans h1, h2, h3, h4, h5, fun i j e d hi hj => ?_⟩
    obtain ⟨u, h7, h8, h9⟩ := h6 i j e d hi hj
    exact ⟨u, h7, h8, h9.le hC⟩
theorem OutAt.le {C C' : Cx} {T : Tab} {rl : Nat → Lc} {l : Lc} (hb : ∀ b, l.has b → C'.w.heap[b]? = C.w.heap[b]?) (h : OutAt C T rl l) : OutAt C' T rl l := by
  cases l with
  | no => exact h
  | tb lo rl => exact h
  | pl b cap =>
    obtain ⟨c, h1, h2⟩ := h
    exact ⟨c, (hb b rfl).trans h1, h2⟩
theorem TabAt.le {C C' : Cx} (hC : C.le C') {T : Tab} {l : Lc} (hb : ∀ b, l.has b → C'.w.heap[b]? = C.w.heap[b]?) (h : TabAt C T l) : TabAt C' T l := by
  cases l with
  | no => exact h
  | pl b cap => exact h
  | tb lo rl => exact ⟨h.pos, h.out.le (fun b hl => hb b (.inl hl)), fun r es he => (h.row r es he).le hC (fun b hl => hb b (.inr ⟨r, hl⟩)), h.gone, h.sep, h.off, h.idx⟩
theorem ObAt.le {C C' : Cx} {hg hg' : Nat → Option Ob} {loc loc' : Locs} {kn kn' : Nat → Prop} (hC : C.le C') (hR : RefLe hg hg' loc loc' kn) (hK : ∀ id, kn id → kn' id) {ob : Ob} {l : Lc}
    (hb : ∀ b, l.has b → C'.w.heap[b]? = C.w.heap[b]?) (h : ObAt C hg loc kn l ob) : ObAt C' hg' loc' kn' l ob := by
  cases ob with
  | box cs => exact BoxAt.le hC hR hK hb h
  | arr a => exact ⟨h.1, ArrAt.le hC hb h.2⟩
  | tab T => exact TabAt.le hC hb h
  | dead => exact h

theorem cell_old {w w' : World} {b o : Nat} {v : Value} (h : rd w b o v) (hb : w'.heap[b]? = w.heap[b]?) : rd w' b o v :=
  ⟨(World.cell?_of_block (w := w) (a := ⟨b, o, none⟩) hb).trans h.1, by have := h.2; unfold World.frozen? at this ⊢; rw [show w'.heap[(⟨b, o, none⟩ : Addr).block]? = w.heap[(⟨b, o, none⟩ : Addr).block]? from hb]; exact this⟩
theorem cell_lt {w : World} {b o : Nat} {v : Value} (h : rd w b o v) : b < w.heap.size := World.block_lt_of_cell? w ⟨b, o, none⟩ h.1
theorem rd_row {w : World} {b o : Nat} {c : Array Value} {t : TypeId} {v : Value} (h : w.heap[b]? = some (.cells c t (0, 0))) (hv : c[o]? = some v) : rd w b o v :=
  ⟨by simp only [World.cell?, h]; simpa using hv, by simp [World.frozen?, h]⟩

/-- new memory beside the own -/
theorem Tr.ext {E : Env} {hg : Nat → Option Ob} {loc : Locs} {kn : Nat → Prop} {w w' : World} (h : MC E hg loc kn w) (hE : Below w.heap.size w w') : Tr E hg loc kn w hg loc kn w' := by
  have hsz : E.w0.heap.size ≤ w.heap.size := h.ext.size
  have hC : Cx.le (cxOf E hg loc w) (cxOf E hg loc w') := ⟨fun b o v h1 _ => cell_old h1 (hE.block b (cell_lt h1)), fun _ _ _ _ h => h, fun _ _ _ _ _ h => h, rfl⟩
  refine ⟨⟨h.ext.trans (hE.mono hsz), fun b o ha => Nat.lt_of_lt_of_le (h.amlt b o ha) hE.size, fun id ob hi => ?_, h.sep, fun id b hi hb => ?_, h.amno⟩, hC, .refl _ _ _, fun _ h => h, hE.size, fun b hb _ => hE.block b hb, fun id _ h1 h2 => .inl ⟨id, h1, h2⟩⟩
  · obtain ⟨h1, h2⟩ := h.objs id ob hi
    exact ⟨h1, h2.le hC (.refl _ _ _) (fun _ h => h) (fun b hb => hE.block b (h.fresh id b (by simp [hi]) hb).2)⟩
  · obtain ⟨h1, h2⟩ := h.fresh id b hi hb
    exact ⟨h1, Nat.lt_of_lt_of_le h2 hE.size⟩

/-- a table of objects with some replaced -/
def upd : Heap → (Nat → Option Ob) → Nat → Option Ob
  | [], g, t => g t
  | (u, p) :: l, g, t => if u = t then some p else upd l g t
theorem hget_append (U h : Heap) (t : Nat) : hget (U ++ h) t = upd U (hget h) t := by
  induction U with
  | nil => rfl
  | cons x U ih => obtain ⟨u, p⟩ := x; simp only [List.cons_append, hget, upd, ih]

/-- one object replaced or made: what has to be shown -/
theorem Tr.one {E : Env} {hg : Nat → Option Ob} {loc : Locs} {kn : Nat → Prop} {w : World} (h : MC E hg loc kn w) (id : Nat) (ob : Ob) (l : Lc) (w' : World)
    (hsz : w.heap.size ≤ w'.heap.size) (hos : w'.os = w.os) (htape : w'.tape = w.tape) (hout : w'.output = w.output)
    (hnew : ∀ b, l.has b → (hg id ≠ none ∧ (loc id).has b) ∨ (w.heap.size ≤ b ∧ b < w'.heap.size))
    (hblk : ∀ b, b < w.heap.size → ¬ (hg id ≠ none ∧ (loc id).has b) → w'.heap[b]? = w.heap[b]?)
    (hcell : ∀ b o v, hg id ≠ none → (loc id).has b → rd w b o v → ¬ owns hg loc b o → rd w' b o v ∧ ¬ (l.has b ∧ ob.owns o))
    (hbox : ∀ cs, ob = .box cs → kn id → (∃ cs', hg id = some (.box cs')) ∧ l = loc id)
    (harr : ∀ a', ob = .arr a' → kn id → ∃ a, hg id = some (.arr a) ∧ (a'.ver = a.ver → a.es.length = a'.es.length ∧ a.k = a'.k ∧ l = loc id) ∧ a.ver ≤ a'.ver)
    (htab : ∀ T', ob = .tab T' → kn id → ∃ T, hg id = some (.tab T) ∧ TabLe T T' (loc id) l)
    (hob : Cx.le (cxOf E hg loc w) (cxOf E (upd [(id, ob)] hg) (fun x => if x = id then l else loc x) w') → RefLe hg (upd [(id, ob)] hg) loc (fun x => if x = id then l else loc x) kn →
      ObAt (cxOf E (upd [(id, ob)] hg) (fun x => if x = id then l else loc x) w') (upd [(id, ob)] hg) (fun x => if x = id then l else loc x) (fun x => kn x ∨ x = id) l ob) :
    Tr E hg loc kn w (upd [(id, ob)] hg) (fun x => if x = id then l else loc x) (fun x => kn x ∨ x = id) w' := by
  have hw0 : E.w0.heap.size ≤ w.heap.size := h.ext.size
  have hself : upd [(id, ob)] hg id = some ob := by simp [upd]
  have hoth : ∀ x, x ≠ id → upd [(id, ob)] hg x = hg x := fun x hx => by simp [upd, Ne.symm hx]
  -- a block that the object may not take from others
  have hown : ∀ x b, x ≠ id → hg x ≠ none → (loc x).has b → ¬ l.has b := fun x b hx hgx hb hl => by
    rcases hnew b hl with ⟨h1, h2⟩ | ⟨h1, _⟩
    · exact hx (h.sep x id b hgx h1 hb h2)
    · exact absurd (h.fresh x b hgx hb).2 (by omega)
  have hblk' : ∀ x b, x ≠ id → hg x ≠ none → (loc x).has b → w'.heap[b]? = w.heap[b]? := fun x b hx hgx hb =>
    hblk b (h.fresh x b hgx hb).2 (fun ⟨h1, h2⟩ => hx (h.sep x id b hgx h1 hb h2))
  have hC : Cx.le (cxOf E hg loc w) (cxOf E (upd [(id, ob)] hg) (fun x => if x = id then l else loc x) w') := by
    have key : ∀ b o v, rd w b o v → ¬ owns hg loc b o → rd w' b o v ∧ ¬ (l.has b ∧ ob.owns o) := fun b o v h1 h2 => by
      by_cases hc : hg id ≠ none ∧ (loc id).has b
      · exact hcell b o v hc.1 hc.2 h1 h2
      · refine ⟨cell_old h1 (hblk b (cell_lt h1) hc), fun ⟨h3, _⟩ => ?_⟩
        rcases hnew b h3 with h4 | ⟨h4, _⟩
        · exact hc h4
        · exact absurd (cell_lt h1) (by omega)
    refine ⟨fun b o v h1 h2 => (key b o v h1 h2).1, fun b o v h1 h2 h3 => ?_, fun _ _ _ _ _ h => h, rfl⟩
    obtain ⟨x, ox, h4, h5, h6⟩ := h3
    by_cases hx : x = id
    · subst hx
      rw [hself] at h4
      cases h4
      simp only [if_true] at h5
      exact (key b o v h1 h2).2 ⟨h5, h6⟩
    · rw [hoth x hx] at h4
      simp only [if_neg hx] at h5
      exact h2 ⟨x, ox, h4, h5, h6⟩
  have hR : RefLe hg (upd [(id, ob)] hg) loc (fun x => if x = id then l else loc x) kn := by
    constructor
    · intro x cs hk hx
      by_cases e : x = id
      · subst e
        rw [hself] at hx
        cases hx
        obtain ⟨h1, h2⟩ := hbox cs rfl hk
        exact ⟨h1, by simp [h2]⟩
      · rw [hoth x e] at hx
        exact ⟨⟨_, hx⟩, by simp [e]⟩
    · intro x a hk hx
      by_cases e : x = id
      · subst e
        rw [hself] at hx
        cases hx
        obtain ⟨a0, h1, h2, h3⟩ := harr a rfl hk
        exact ⟨a0, h1, fun hv => by simpa using h2 hv, h3⟩
      · rw [hoth x e] at hx
        exact ⟨a, hx, fun _ => ⟨rfl, rfl, by simp [e]⟩, Nat.le_refl _⟩
    · intro x T hk hx
      by_cases e : x = id
      · subst e
        rw [hself] at hx
        cases hx
        obtain ⟨T0, h1, h2⟩ := htab T rfl hk
        exact ⟨T0, h1, by simpa using h2⟩
      · rw [hoth x e] at hx
        exact ⟨T, hx, by simp only [if_neg e]; exact .refl _ _⟩
  refine ⟨⟨?_, fun b o ha => Nat.lt_of_lt_of_le (h.amlt b o ha) hsz, fun x ox hx => ?_, fun x y b hx hy hbx hby => ?_, fun x b hx hb => ?_, fun x b o hx hb ha => ?_⟩, hC, hR, fun _ h => .inl h, hsz, fun b hb hno => hblk b hb (fun h1 => hno ⟨id, h1⟩), fun x b hx hb => ?_⟩
  · refine ⟨hos.trans h.ext.os, htape.trans h.ext.tape, hout.trans h.ext.output, Nat.le_trans hw0 hsz, fun k hk => ?_⟩
    rw [hblk k (by omega) (fun ⟨h1, h2⟩ => absurd (h.fresh id k h1 h2).1 (by omega))]
    exact h.ext.block k hk
  · by_cases e : x = id
    · subst e
      rw [hself] at hx
      cases hx
      exact ⟨.inr rfl, by simpa using hob hC hR⟩
    · rw [hoth x e] at hx
      obtain ⟨h1, h2⟩ := h.objs x ox hx
      refine ⟨.inl h1, ?_⟩
      simp only [if_neg e]
      exact h2.le hC hR (fun _ h => .inl h) (fun b hb => hblk' x b e (by simp [hx]) hb)
  · by_cases ex : x = id <;> by_cases ey : y = id
    · rw [ex, ey]
    · subst ex
      rw [hoth y ey] at hy
      simp only [if_neg ey, if_true] at hbx hby
      exact absurd hbx (hown y b ey hy hby)
    · subst ey
      rw [hoth x ex] at hx
      simp only [if_neg ex, if_true] at hbx hby
      exact absurd hby (hown x b ex hx hbx)
    · rw [hoth x ex] at hx
      rw [hoth y ey] at hy
      simp only [if_neg ex, if_neg ey] at hbx hby
      exact h.sep x y b hx hy hbx hby
  · by_cases ex : x = id
    · subst ex
      simp only [if_true] at hb
      rcases hnew b hb with ⟨h1, h2⟩ | ⟨h1, h2⟩
      · obtain ⟨h3, h4⟩ := h.fresh x b h1 h2
        exact ⟨h3, by omega⟩
      · exact ⟨by omega, h2⟩
    · rw [hoth x ex] at hx
      simp only [if_neg ex] at hb
      obtain ⟨h3, h4⟩ := h.fresh x b hx hb
      exact ⟨h3, by omega⟩
  · by_cases ex : x = id
    · subst ex
      simp only [if_true] at hb
      rcases hnew b hb with ⟨h1, h2⟩ | ⟨h1, _⟩
      · exact h.amno x b o h1 h2 ha
      · exact absurd (h.amlt b o ha) (by omega)
    · rw [hoth x ex] at hx
      simp only [if_neg ex] at hb
      exact h.amno x b o hx hb ha
  · by_cases ex : x = id
    · subst ex
      simp only [if_true] at hb
      rcases hnew b hb with h1 | ⟨h1, _⟩
      · exact .inl ⟨x, h1⟩
      · exact .inr h1
    · rw [hoth x ex] at hx
      simp only [if_neg ex] at hb
      exact .inl ⟨x, hx, hb⟩
end Go.Pm
