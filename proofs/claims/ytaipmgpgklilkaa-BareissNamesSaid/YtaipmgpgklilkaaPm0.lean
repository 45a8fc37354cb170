/-
  The pure machine, part 1: deep data, references, abstract states, and what they stand for in a world.
-/
import Derived.WalkKit
import Derived.Laws.CopyOwn
import Derived.Laws.Rows
import Derived.Maps.AppendAt
import Derived.KernelRfl
set_option linter.unusedSimpArgs false
set_option linter.unusedVariables false
namespace Go.Pm
open Go.RowKit

/-- deep data that nobody writes -/
inductive D where
  | v (x : Value)
  | sl (es : List (List D))
  | agg (cs : List D)

/-- a world, the cells that the call itself may still write, and those that others may -/
structure Cx where
  w : World
  ow : Nat → Nat → Prop
  am : Nat → Nat → Prop
  y : Option Nat
def yl (l : Nat) : Value := .func (.yield l) ⟨[]⟩ ⟨[]⟩

/-- a cell that can be read, and whose bytes no string shares -/
abbrev rd (w : World) (b o : Nat) (v : Value) : Prop := w.cell? ⟨b, o, none⟩ = some v ∧ w.frozen? ⟨b, o, none⟩ = false

inductive Rep (C : Cx) : D → Value → Prop
  | v (x : Value) : Rep C (.v x) x
  | nil : Rep C (.sl []) (.slice none 0 0)
  | sl (es : List (List D)) (k c b o : Nat) (f : Nat → Nat → Value) (hc : es.length ≤ c) (hm : c ≤ maxLen) (hk : ∀ e ∈ es, e.length = k)
      (hcell : ∀ (i j : Nat) (e : List D) (p : D), es[i]? = some e → e[j]? = some p → rd C.w b (o + i * k + j) (f i j) ∧ (f i j).oneCell' = true ∧ ¬ C.ow b (o + i * k + j) ∧ ¬ C.am b (o + i * k + j))
      (hrep : ∀ (i j : Nat) (e : List D) (p : D), es[i]? = some e → e[j]? = some p → Rep C p (f i j)) : Rep C (.sl es) (.slice (some ⟨b, o, none⟩) es.length c)
  | agg (cs : List D) (vs : Array Value) (hl : vs.size = cs.length) (h : ∀ (j : Nat) (p : D) (v : Value), cs[j]? = some p → vs[j]? = some v → Rep C p v) : Rep C (.agg cs) (.agg vs)

/-- what is read stays read -/
structure Cx.le (C C' : Cx) : Prop where
  cell : ∀ b o v, rd C.w b o v → ¬ C.ow b o → rd C'.w b o v
  ow : ∀ b o v, rd C.w b o v → ¬ C.ow b o → ¬ C'.ow b o
  am : ∀ b o v, rd C.w b o v → ¬ C.ow b o → ¬ C.am b o → ¬ C'.am b o
  y : C.y = C'.y

def Cx.leD (C C' : Cx) : Prop := ∀ b o v, rd C.w b o v → ¬ C.ow b o → ¬ C.am b o → rd C'.w b o v ∧ ¬ C'.ow b o ∧ ¬ C'.am b o
theorem Cx.le.d {C C' : Cx} (h : C.le C') : C.leD C' := fun b o v h1 h2 h3 => ⟨h.cell b o v h1 h2, h.ow b o v h1 h2, h.am b o v h1 h2 h3⟩

theorem Rep.leD {C C' : Cx} (h : C.leD C') {d : D} {v : Value} (hr : Rep C d v) : Rep C' d v := by
  induction hr with
  | v x => exact .v x
  | nil => exact .nil
  | sl es k c b o f hc hm hk hcell hrep ih =>
    refine .sl es k c b o f hc hm hk (fun i j e p h1 h2 => ?_) ih
    obtain ⟨a1, a2, a3, a4⟩ := hcell i j e p h1 h2
    obtain ⟨b1, b2, b3⟩ := h _ _ _ a1 a3 a4
    exact ⟨b1, a2, b2, b3⟩
  | agg cs vs hl _ ih => exact .agg cs vs hl ih
theorem Rep.le {C C' : Cx} (h : C.le C') {d : D} {v : Value} (hr : Rep C d v) : Rep C' d v := hr.leD h.d

/-- values in the abstract state: data, or references into own objects -/
inductive PV where
  | any
  | d (x : D)
  | nl
  | yd
  | bw (cs : List D)
  | sr (id ver : Nat)
  | pr (id ver i off : Nat)
  | st (id ver : Nat)
  | tv (id ver o n : Nat)
  | po (id ver i : Nat)
  | sw (id r : Nat)
  | pw (id r i off : Nat)
  | lt (cs : List PV)
  | lp (cs : List PV)
  | agg (cs : List PV)
  | tup (vs : List PV)
  | fn (f : FuncId) (caps : List PV)

structure Arr where
  el : TypeId
  k : Nat
  ver : Nat
  fz : Bool
  es : List (List D)

/-- rows that are written in place: where each stands, and what each holds; a row that is gone holds nothing -/
structure Tab where
  el : TypeId
  rel : TypeId
  k : Nat
  ver : Nat
  fz : Bool
  out : List Nat
  rows : List (Option (List (List D)))
def Tab.row (T : Tab) (r : Nat) : Option (List (List D)) := (T.rows[r]?).getD none

/-- the rows that stand in these places, as data -/
def Tab.sl (T : Tab) : List Nat → Option (List (List D))
  | [] => some []
  | r :: l => match T.row r, T.sl l with
    | some es, some rest => some ([.sl es] :: rest)
    | _, _ => none

inductive Ob where
  | box (cs : List PV)
  | arr (a : Arr)
  | tab (t : Tab)
  | dead

abbrev Slots := List (Nat × PV)
abbrev Heap := List (Nat × Ob)

def get : Slots → Nat → PV
  | [], _ => .any
  | (u, p) :: l, t => if u = t then p else get l t
def hget : Heap → Nat → Option Ob
  | [], _ => none
  | (u, p) :: l, t => if u = t then some p else hget l t

structure St where
  m : Nat
  t : Slots
  h : Heap
  n : Nat

/-- where an object lies -/
inductive Lc where
  | no
  | pl (b cap : Nat)
  | tb (lo : Lc) (rl : Nat → Lc)
def Lc.has : Lc → Nat → Prop
  | .no, _ => False
  | .pl b _, x => x = b
  | .tb lo rl, x => lo.has x ∨ ∃ r, (rl r).has x
/-- what stands where a place says -/
def Lc.val : Lc → Nat → Value
  | .no, _ => .slice none 0 0
  | .pl b cap, n => .slice (some ⟨b, 0, none⟩) n cap
  | .tb _ _, _ => .slice none 0 0
abbrev Locs := Nat → Lc

def Ob.owns : Ob → Nat → Prop
  | .arr a, o => a.fz = true → a.es.length * a.k ≤ o
  | .tab T, _ => T.fz = false
  | _, _ => True
def owns (hg : Nat → Option Ob) (loc : Locs) (b o : Nat) : Prop := ∃ id ob, hg id = some ob ∧ (loc id).has b ∧ ob.owns o

inductive PRep (C : Cx) (hg : Nat → Option Ob) (loc : Locs) (kn : Nat → Prop) : PV → Value → Prop
  | any (v) : PRep C hg loc kn .any v
  | d {x v} (h : Rep C x v) : PRep C hg loc kn (.d x) v
  | nl : PRep C hg loc kn .nl (.slice none 0 0)
  | yd {l : Nat} (h : C.y = some l) : PRep C hg loc kn .yd (yl l)
  | bw {cs : List D} {b o : Nat} (f : Nat → Value) (hcell : ∀ (j : Nat) (p : D), cs[j]? = some p → rd C.w b (o + j) (f j) ∧ (f j).oneCell' = true ∧ ¬ C.ow b (o + j))
      (hrep : ∀ (j : Nat) (p : D), cs[j]? = some p → Rep C p (f j)) : PRep C hg loc kn (.bw cs) (.pointer (some ⟨b, o, none⟩))
  | sr {id ver v} (hk : kn id) (ho : v.oneCell' = true) (hv : ∀ a, hg id = some (.arr a) → ver ≤ a.ver) (h : ∀ a, hg id = some (.arr a) → a.ver = ver → match loc id with
      | .no => v = .slice none 0 0
      | .pl b cap => v = .slice (some ⟨b, 0, none⟩) a.es.length cap
      | .tb _ _ => False) : PRep C hg loc kn (.sr id ver) v
  | pr {id ver i off v} (hk : kn id) (ho : v.oneCell' = true) (hv : ∀ a, hg id = some (.arr a) → ver ≤ a.ver) (hb : ∀ cs, hg id = some (.box cs) → ∀ b cap, loc id = .pl b cap → v = .pointer (some ⟨b, off, none⟩))
      (ha : ∀ a, hg id = some (.arr a) → a.ver = ver → ∀ b cap, loc id = .pl b cap → v = .pointer (some ⟨b, i * a.k + off, none⟩)) : PRep C hg loc kn (.pr id ver i off) v
  | lt {cs : List PV} {b c : Nat} (f : Nat → Value) (hc : cs.length ≤ c) (hm : c ≤ maxLen) (hcell : ∀ (j : Nat) (p : PV), cs[j]? = some p → rd C.w b j (f j) ∧ (f j).oneCell' = true ∧ ¬ C.ow b j ∧ ¬ C.am b j)
      (h : ∀ (j : Nat) (p : PV), cs[j]? = some p → PRep C hg loc kn p (f j)) : PRep C hg loc kn (.lt cs) (.slice (some ⟨b, 0, none⟩) cs.length c)
  | lp {cs : List PV} {b o : Nat} (f : Nat → Value) (hcell : ∀ (j : Nat) (p : PV), cs[j]? = some p → rd C.w b (o + j) (f j) ∧ (f j).oneCell' = true ∧ ¬ C.ow b (o + j) ∧ ¬ C.am b (o + j))
      (h : ∀ (j : Nat) (p : PV), cs[j]? = some p → PRep C hg loc kn p (f j)) : PRep C hg loc kn (.lp cs) (.pointer (some ⟨b, o, none⟩))
  | st {id ver v} (hk : kn id) (ho : v.oneCell' = true) (hv : ∀ T, hg id = some (.tab T) → ver ≤ T.ver) (h : ∀ T, hg id = some (.tab T) → T.ver = ver → ∀ lo rl, loc id = .tb lo rl → v = lo.val T.out.length) : PRep C hg loc kn (.st id ver) v
  | tv {id ver o n v} (hk : kn id) (ho : v.oneCell' = true) (hv : ∀ T, hg id = some (.tab T) → ver ≤ T.ver) (h : ∀ T, hg id = some (.tab T) → T.ver = ver → ∀ lo rl, loc id = .tb lo rl → o + n ≤ T.out.length ∧ match lo with
      | .no => v = .slice none 0 0 ∧ n = 0
      | .pl b _ => ∃ q c, v = .slice (some ⟨b, q, none⟩) n c ∧ (0 < n → q = o) ∧ n ≤ c ∧ c ≤ maxLen
      | .tb _ _ => False) : PRep C hg loc kn (.tv id ver o n) v
  | po {id ver i v} (hk : kn id) (ho : v.oneCell' = true) (hv : ∀ T, hg id = some (.tab T) → ver ≤ T.ver) (h : ∀ T, hg id = some (.tab T) → T.ver = ver → ∀ b cap rl, loc id = .tb (.pl b cap) rl → v = .pointer (some ⟨b, i, none⟩)) : PRep C hg loc kn (.po id ver i) v
  | sw {id r v} (hk : kn id) (ho : v.oneCell' = true) (hv : ∀ T, hg id = some (.tab T) → r < T.rows.length) (h : ∀ T es, hg id = some (.tab T) → T.row r = some es → ∀ lo rl, loc id = .tb lo rl → v = (rl r).val es.length) : PRep C hg loc kn (.sw id r) v
  | pw {id r i off v} (hk : kn id) (ho : v.oneCell' = true) (hv : ∀ T, hg id = some (.tab T) → r < T.rows.length) (h : ∀ T es, hg id = some (.tab T) → T.row r = some es → ∀ lo rl b cap, loc id = .tb lo rl → rl r = .pl b cap → v = .pointer (some ⟨b, i * T.k + off, none⟩)) : PRep C hg loc kn (.pw id r i off) v
  | agg {cs vs} (hl : vs.size = cs.length) (h : ∀ (j : Nat) (p : PV) (v : Value), cs[j]? = some p → vs[j]? = some v → PRep C hg loc kn p v) : PRep C hg loc kn (.agg cs) (.agg vs)
  | tup {cs vs} (hl : vs.size = cs.length) (h : ∀ (j : Nat) (p : PV) (v : Value), cs[j]? = some p → vs[j]? = some v → PRep C hg loc kn p v) : PRep C hg loc kn (.tup cs) (.tuple vs)
  | fn {f caps vs} (hl : vs.size = caps.length) (h : ∀ (j : Nat) (p : PV) (v : Value), caps[j]? = some p → vs[j]? = some v → PRep C hg loc kn p v) : PRep C hg loc kn (.fn f caps) (.func (.func f) #[] vs)

/-- a table that lives on: its rows keep their places, and those that are gone stay gone -/
def TabLe (T T' : Tab) (l l' : Lc) : Prop := T.ver ≤ T'.ver ∧ T.k = T'.k ∧ (T'.ver = T.ver → T.out.length = T'.out.length) ∧ T.rows.length ≤ T'.rows.length ∧
  (∀ r es', r < T.rows.length → T'.row r = some es' → ∃ es, T.row r = some es ∧ es.length = es'.length) ∧
  ∀ lo' rl', l' = .tb lo' rl' → ∃ lo rl, l = .tb lo rl ∧ (T'.ver = T.ver → lo = lo') ∧ ∀ r es', r < T.rows.length → T'.row r = some es' → rl r = rl' r
theorem TabLe.refl (T : Tab) (l : Lc) : TabLe T T l l := ⟨Nat.le_refl _, rfl, fun _ => rfl, Nat.le_refl _, fun _ es _ h => ⟨es, h, rfl⟩, fun lo rl h => ⟨lo, rl, h, fun _ => rfl, fun _ _ _ _ => rfl⟩⟩
theorem TabLe.trans {T1 T2 T3 : Tab} {l1 l2 l3 : Lc} (h : TabLe T1 T2 l1 l2) (k : TabLe T2 T3 l2 l3) : TabLe T1 T3 l1 l3 := by
  obtain ⟨a1, a2, a3, a4, a5, a6⟩ := h
  obtain ⟨b1, b2, b3, b4, b5, b6⟩ := k
  refine ⟨Nat.le_trans a1 b1, a2.trans b2, fun e => (a3 (by omega)).trans (b3 (by omega)), Nat.le_trans a4 b4, fun r es hr he => ?_, fun lo rl hl => ?_⟩
  · obtain ⟨e2, h1, h2⟩ := b5 r es (by omega) he
    obtain ⟨e1, h3, h4⟩ := a5 r e2 hr h1
    exact ⟨e1, h3, h4.trans h2⟩
  · obtain ⟨lo2, rl2, h1, h2, h3⟩ := b6 lo rl hl
    obtain ⟨lo1, rl1, h4, h5, h6⟩ := a6 lo2 rl2 h1
    refine ⟨lo1, rl1, h4, fun e => (h5 (by omega)).trans (h2 (by omega)), fun r es hr he => ?_⟩
    obtain ⟨e2, h7, _⟩ := b5 r es (by omega) he
    exact (h6 r e2 hr h7).trans (h3 r es (by omega) he)

/-- references that stay good: an object that is known keeps its place, its version, its length -/
structure RefLe (hg hg' : Nat → Option Ob) (loc loc' : Locs) (kn : Nat → Prop) : Prop where
  box : ∀ id cs', kn id → hg' id = some (.box cs') → (∃ cs, hg id = some (.box cs)) ∧ loc' id = loc id
  arr : ∀ id a', kn id → hg' id = some (.arr a') → ∃ a, hg id = some (.arr a) ∧ (a'.ver = a.ver → a.es.length = a'.es.length ∧ a.k = a'.k ∧ loc' id = loc id) ∧ a.ver ≤ a'.ver
  tab : ∀ id T', kn id → hg' id = some (.tab T') → ∃ T, hg id = some (.tab T) ∧ TabLe T T' (loc id) (loc' id)

theorem PRep.le {C C' : Cx} {hg hg' : Nat → Option Ob} {loc loc' : Locs} {kn kn' : Nat → Prop} (hC : C.le C') (hR : RefLe hg hg' loc loc' kn) (hK : ∀ id, kn id → kn' id) {p : PV} {v : Value}
    (h : PRep C hg loc kn p v) : PRep C' hg' loc' kn' p v := by
  induction h with
  | any v => exact .any v
  | d h => exact .d (h.le hC)
  | nl => exact .nl
  | yd h => exact .yd (hC.y ▸ h)
  | bw f hcell hrep =>
    refine .bw f (fun j p h1 => ?_) (fun j p h1 => (hrep j p h1).le hC)
    obtain ⟨a1, a2, a3⟩ := hcell j p h1
    exact ⟨hC.cell _ _ _ a1 a3, a2, hC.ow _ _ _ a1 a3⟩
  | @sr id ver v hk ho hv h =>
    refine .sr (hK _ hk) ho (fun a' ha' => ?_) (fun a' ha' hver => ?_)
    · obtain ⟨a, ha, h1, h2⟩ := hR.arr _ _ hk ha'
      exact Nat.le_trans (hv _ ha) h2
    · obtain ⟨a, ha, h1, h2⟩ := hR.arr _ _ hk ha'
      have h3 := hv _ ha
      have h4 : a'.ver = a.ver := by omega
      obtain ⟨e1, e2, e3⟩ := h1 h4
      have := h _ ha (by omega)
      rw [e3, ← e1]
      exact this
  | @pr id ver i off v hk ho hv hb ha =>
    refine .pr (hK _ hk) ho (fun a' ha' => ?_) (fun cs hcs b cap hl => ?_) (fun a' ha' hver b cap hl => ?_)
    · obtain ⟨a, ha, h1, h2⟩ := hR.arr _ _ hk ha'
      exact Nat.le_trans (hv _ ha) h2
    · obtain ⟨⟨cs0, h0⟩, h1⟩ := hR.box _ _ hk hcs
      exact hb _ h0 b cap (h1 ▸ hl)
    · obtain ⟨a, h0, h1, h2⟩ := hR.arr _ _ hk ha'
      have h3 := hv _ h0
      obtain ⟨e1, e2, e3⟩ := h1 (by omega)
      rw [← e2]
      exact ha _ h0 (by omega) b cap (e3 ▸ hl)
  | lt f hc hm hcell _ ih =>
    refine .lt f hc hm (fun j p h1 => ?_) ih
    obtain ⟨a1, a2, a3, a4⟩ := hcell j p h1
    exact ⟨hC.cell _ _ _ a1 a3, a2, hC.ow _ _ _ a1 a3, hC.am _ _ _ a1 a3 a4⟩
  | lp f hcell _ ih =>
    refine .lp f (fun j p h1 => ?_) ih
    obtain ⟨a1, a2, a3, a4⟩ := hcell j p h1
    exact ⟨hC.cell _ _ _ a1 a3, a2, hC.ow _ _ _ a1 a3, hC.am _ _ _ a1 a3 a4⟩
  | @st id ver v hk ho hv h =>
    refine .st (hK _ hk) ho (fun T' hT' => ?_) (fun T' hT' hver lo rl hl => ?_)
    · obtain ⟨T, hT, h1, _⟩ := hR.tab _ _ hk hT'
      exact Nat.le_trans (hv _ hT) h1
    · obtain ⟨T, hT, h1, _, h3, _, _, h6⟩ := hR.tab _ _ hk hT'
      have h7 := hv _ hT
      have h8 : T'.ver = T.ver := by omega
      obtain ⟨lo1, rl1, g1, g2, _⟩ := h6 lo rl hl
      rw [← h3 h8, ← g2 h8]
      exact h T hT (by omega) lo1 rl1 g1
  | @tv id ver o n v hk ho hv h =>
    refine .tv (hK _ hk) ho (fun T' hT' => ?_) (fun T' hT' hver lo rl hl => ?_)
    · obtain ⟨T, hT, h1, _⟩ := hR.tab _ _ hk hT'
      exact Nat.le_trans (hv _ hT) h1
    · obtain ⟨T, hT, h1, _, h3, _, _, h6⟩ := hR.tab _ _ hk hT'
      have h7 := hv _ hT
      have h8 : T'.ver = T.ver := by omega
      obtain ⟨lo1, rl1, g1, g2, _⟩ := h6 lo rl hl
      rw [← h3 h8, ← g2 h8]
      exact h T hT (by omega) lo1 rl1 g1
  | @po id ver i v hk ho hv h =>
    refine .po (hK _ hk) ho (fun T' hT' => ?_) (fun T' hT' hver b cap rl hl => ?_)
    · obtain ⟨T, hT, h1, _⟩ := hR.tab _ _ hk hT'
      exact Nat.le_trans (hv _ hT) h1
    · obtain ⟨T, hT, h1, _, _, _, _, h6⟩ := hR.tab _ _ hk hT'
      have h7 := hv _ hT
      have h8 : T'.ver = T.ver := by omega
      obtain ⟨lo1, rl1, g1, g2, _⟩ := h6 _ rl hl
      exact h T hT (by omega) b cap rl1 (by rw [g1, g2 h8])
  | @sw id r v hk ho hv h =>
    refine .sw (hK _ hk) ho (fun T' hT' => ?_) (fun T' es' hT' he lo rl hl => ?_)
    · obtain ⟨T, hT, _, _, _, h4, _⟩ := hR.tab _ _ hk hT'
      exact Nat.lt_of_lt_of_le (hv _ hT) h4
    · obtain ⟨T, hT, _, _, _, _, h5, h6⟩ := hR.tab _ _ hk hT'
      obtain ⟨es, h7, h8⟩ := h5 r es' (hv _ hT) he
      obtain ⟨lo1, rl1, g1, _, g3⟩ := h6 lo rl hl
      rw [← g3 r es' (hv _ hT) he, ← h8]
      exact h T es hT h7 lo1 rl1 g1
  | @pw id r i off v hk ho hv h =>
    refine .pw (hK _ hk) ho (fun T' hT' => ?_) (fun T' es' hT' he lo rl b cap hl hr => ?_)
    · obtain ⟨T, hT, _, _, _, h4, _⟩ := hR.tab _ _ hk hT'
      exact Nat.lt_of_lt_of_le (hv _ hT) h4
    · obtain ⟨T, hT, _, h2, _, _, h5, h6⟩ := hR.tab _ _ hk hT'
      obtain ⟨es, h7, h8⟩ := h5 r es' (hv _ hT) he
      obtain ⟨lo1, rl1, g1, _, g3⟩ := h6 lo rl hl
      rw [← h2]
      exact h T es hT h7 lo1 rl1 b cap g1 ((g3 r es' (hv _ hT) he).trans hr)
  | agg hl _ ih => exact .agg hl ih
  | tup hl _ ih => exact .tup hl ih
  | fn hl _ ih => exact .fn hl ih
end Go.Pm
