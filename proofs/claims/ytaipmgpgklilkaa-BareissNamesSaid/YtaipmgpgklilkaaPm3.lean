/-
  The pure machine, part 4: what an operation does to an abstract state, as a condition (vcOp).
-/
import Derived.Test.YtaipmgpgklilkaaPmR
set_option linter.unusedSimpArgs false
set_option linter.unusedVariables false
namespace Go.Pm
open Go.RowKit

/-- what is used of a type -/
structure Ty where
  size : Nat
  bytes : Nat
  agg : Bool
  zero : List Value
  elem : TypeId
  flds : List (Nat × Nat)
  arr : Bool
  slc : Bool

def fldsOf (P : Program) : TypeDesc → Option (List (Nat × Nat))
  | .struct fs => fs.toList.mapM fun f => (P.info? f.type).map fun i => (f.offset, i.size)
  | _ => some []
def TY (P : Program) (t : TypeId) : Option Ty :=
  match P.info? t, P.underlying t with
  | some i, some d => match i.zero, fldsOf P d with
    | some z, some fl => some ⟨i.size, i.bytes, (match d with | .struct _ | .array _ _ => true | _ => false), z.cells.toList, (match d with | .slice e => e | .array _ e => e | _ => 0), fl, (match d with | .array _ _ => true | _ => false), (match d with | .slice _ => true | _ => false)⟩
    | _, _ => none
  | _, _ => none

def litT (E : Ty) : Bool := E.slc || match E.zero with
  | [.nilFunc] => true
  | _ => false
def zPV : Value → PV
  | .slice none 0 0 => .nl
  | v => .d (.v v)
def zD : Value → D
  | .slice none 0 0 => .sl []
  | v => .v v
def ev (t : Slots) : Operand → PV
  | .tmp u => get t u
  | .const v => zPV v
  | .global _ => .any
  | .func f => .fn f []
def cellsP : PV → List PV
  | .agg cs => cs
  | .d (.agg cs) => cs.map .d
  | p => [p]
def D.one : D → Prop
  | .v (.agg _) => False
  | .v (.tuple _) => False
  | .agg _ => False
  | _ => True
def PV.one : PV → Prop
  | .d x => x.one
  | .agg _ => False
  | .tup _ => False
  | .any => False
  | _ => True
def allOne : List PV → Prop
  | [] => True
  | p :: l => p.one ∧ allOne l
def mk (agg : Bool) (cs : List PV) : PV := if agg then .agg cs else match cs with
  | [p] => p
  | _ => .any
def splice {α : Type} (cs : List α) (off : Nat) (new : List α) : List α := cs.take off ++ new ++ cs.drop (off + new.length)
def fillP (flds : List (Nat × Nat)) : List (Nat × PV) → List PV → Option (List PV)
  | [], cells => some cells
  | (i, p) :: rest, cells => match flds[i]? with
    | some (off, sz) => if (cellsP p).length = sz ∧ off + sz ≤ cells.length then fillP flds rest (splice cells off (cellsP p)) else none
    | none => none

/-! ### own arrays as data -/
def tabIf (T : Tab) (ver : Nat) (l : List Nat) : Option D := if T.ver = ver then match T.sl l with
  | some es => some (.sl es)
  | none => none else none
def dz (hg : Nat → Option Ob) : PV → Option D
  | .d x => some x
  | .nl => some (.sl [])
  | .sr id ver => match hg id with
    | some (.arr a) => if a.ver = ver then some (.sl a.es) else none
    | _ => none
  | .st id ver => match hg id with
    | some (.tab T) => tabIf T ver T.out
    | _ => none
  | .tv id ver o n => match hg id with
    | some (.tab T) => tabIf T ver ((T.out.drop o).take n)
    | _ => none
  | .sw id r => match hg id with
    | some (.tab T) => match T.row r with
      | some es => some (.sl es)
      | none => none
    | _ => none
  | _ => none
def dzs (hg : Nat → Option Ob) : List PV → Option (List D)
  | [] => some []
  | p :: l => match dz hg p, dzs hg l with
    | some x, some r => some (x :: r)
    | _, _ => none
def d0 (hg : Nat → Option Ob) : PV → Option D
  | .lt ps => match dzs hg ps with
    | some ds => some (.sl (ds.map fun x => [x]))
    | none => none
  | p => dz hg p
def d0s (hg : Nat → Option Ob) : List PV → Option (List D)
  | [] => some []
  | p :: l => match d0 hg p, d0s hg l with
    | some x, some r => some (x :: r)
    | _, _ => none
def d1 (hg : Nat → Option Ob) : PV → Option D
  | .agg cs => match d0s hg cs with
    | some r => some (.agg r)
    | none => none
  | p => d0 hg p
def fz : PV → List Nat
  | .sr id _ => [id]
  | .st id _ => [id]
  | .tv id _ _ _ => [id]
  | .sw id _ => [id]
  | _ => []
def fzs : List PV → List Nat
  | [] => []
  | p :: l => fz p ++ fzs l
def f0 : PV → List Nat
  | .lt ps => fzs ps
  | p => fz p
def f0s : List PV → List Nat
  | [] => []
  | p :: l => f0 p ++ f0s l
def f1 : PV → List Nat
  | .agg cs => f0s cs
  | p => f0 p
/-- the arrays that are frozen, as replacements -/
def frz (hg : Nat → Option Ob) : List Nat → Heap
  | [] => []
  | id :: l => match hg id with
    | some (.arr a) => (id, .arr { a with fz := true }) :: frz hg l
    | some (.tab T) => (id, .tab { T with fz := true }) :: frz hg l
    | _ => frz hg l
def dcells : D → List D
  | .agg cs => cs
  | x => [x]
/-- an argument: data, or a pointer to cells that the callee may read -/
def a1 (hg : Nat → Option Ob) : PV → Option PV
  | .bw cs => some (.bw cs)
  | .pr id _ _ off => match hg id with
    | some (.box cs) => match d0s hg (cs.drop off) with
      | some r => some (.bw r)
      | none => none
    | _ => none
  | p => match d1 hg p with
    | some x => some (.d x)
    | none => none
def a1s (hg : Nat → Option Ob) : List PV → Option (List PV)
  | [] => some []
  | p :: l => match a1 hg p, a1s hg l with
    | some x, some r => some (x :: r)
    | _, _ => none
def a2 (hg : Nat → Option Ob) : PV → Option PV
  | .fn f caps => match a1s hg caps with
    | some r => some (.fn f r)
    | none => none
  | p => a1 hg p
def a2s (hg : Nat → Option Ob) : List PV → Option (List PV)
  | [] => some []
  | p :: l => match a2 hg p, a2s hg l with
    | some x, some r => some (x :: r)
    | _, _ => none
def g1 (hg : Nat → Option Ob) : PV → List Nat
  | .pr id _ _ off => match hg id with
    | some (.box cs) => f0s (cs.drop off)
    | _ => []
  | p => f1 p
def g1s (hg : Nat → Option Ob) : List PV → List Nat
  | [] => []
  | p :: l => g1 hg p ++ g1s hg l
def g2 (hg : Nat → Option Ob) : PV → List Nat
  | .fn _ caps => g1s hg caps
  | p => g1 hg p
def g2s (hg : Nat → Option Ob) : List PV → List Nat
  | [] => []
  | p :: l => g2 hg p ++ g2s hg l
/-- the objects that are looked at -/
def r1 : PV → List Nat
  | .pr id _ _ _ => [id]
  | .agg cs => f0s cs
  | p => f0 p
def r1s : List PV → List Nat
  | [] => []
  | p :: l => r1 p ++ r1s l
def r2 : PV → List Nat
  | .fn _ caps => r1s caps
  | p => r1 p
def r2s : List PV → List Nat
  | [] => []
  | p :: l => r2 p ++ r2s l

/-! ### answers of calls -/
inductive R1 where
  | d (x : D)
  | so (el : TypeId) (k : Nat) (es : List (List D))
  | sto (el rel : TypeId) (k : Nat) (rows : List (List (List D)))
inductive R where
  | one (r : R1)
  | tup (rs : List R1)
/-- an answer without memory: the arguments need not be frozen for it -/
def R1.plain : R1 → Bool
  | .d (.v _) => true
  | _ => false
def R.plain : R → Bool
  | .one r => r.plain
  | .tup rs => rs.all R1.plain
def R1At (C : Cx) (l : Lc) : R1 → Value → Prop
  | .d x, v => l = .no ∧ Rep C x v
  | .so el k es, v => 0 < k ∧ ArrAt C ⟨el, k, 0, false, es⟩ l ∧ v = l.val es.length
  | .sto el rel k rows, v => TabAt C ⟨el, rel, k, 0, false, List.range rows.length, rows.map some⟩ l ∧ ∀ lo rl, l = .tb lo rl → v = lo.val rows.length
def owl (ls : List Lc) (b _ : Nat) : Prop := ∃ l ∈ ls, l.has b
def RAll (C : Cx) : List Lc → List R1 → List Value → Prop
  | [], [], [] => True
  | l :: ls, r :: rs, v :: vs => R1At C l r v ∧ RAll C ls rs vs
  | _, _, _ => False
def lcSep : List Lc → Prop
  | [] => True
  | l :: ls => (∀ b, l.has b → ∀ l' ∈ ls, ¬ l'.has b) ∧ lcSep ls
def R.list : R → List R1
  | .one r => [r]
  | .tup rs => rs
def R.val : R → List Value → Value
  | .one _, vs => vs.getD 0 undef
  | .tup _, vs => .tuple vs.toArray
def RRep (am : Nat → Nat → Prop) (w w' : World) (r : R) (v : Value) : Prop :=
  ∃ ls vs, v = r.val vs ∧ RAll ⟨w', owl ls, am, none⟩ ls r.list vs ∧ lcSep ls ∧ ∀ l ∈ ls, ∀ b, l.has b → w.heap.size ≤ b ∧ b < w'.heap.size

/-- f, called with these arguments, answers r, wherever it is called; it writes nothing that was there -/
structure PCall (P : Program) (f : FuncId) (args : List PV) (r : R) : Prop where
  enters : ∀ args w, (callFunc f args).run P w = .ok (.enter f args) w
  calls : ∀ (am : Nat → Nat → Prop) (w : World) (vs : Array Value), (∀ b o, am b o → b < w.heap.size) → vs.size = args.length →
    (∀ (j : Nat) (p : PV) (v : Value), args[j]? = some p → vs[j]? = some v → PRep ⟨w, fun _ _ => False, am, none⟩ (fun _ => none) (fun _ => .no) (fun _ => False) p v) →
    Calls P f vs w fun e w' => ∃ v, e = .returned v ∧ Below w.heap.size w w' ∧ RRep am w w' r v

/-- f, called over objects of the caller's, answers r and leaves those objects as h' says, with new ones from nid on -/
structure HCall (P : Program) (f : FuncId) (args : List PV) (hs : Heap) (nid : Nat) (r : PV) (h' : Heap) : Prop where
  enters : ∀ args w, (callFunc f args).run P w = .ok (.enter f args) w
  calls : ∀ (E : Env) (hg : Nat → Option Ob) (loc : Locs) (kn : Nat → Prop) (w : World) (vs : Array Value), MC E hg loc kn w → (∀ id ob, hget hs id = some ob → hg id = some ob) → (∀ j, j < 4 → ¬ kn (nid + j)) → vs.size = args.length →
    (∀ (j : Nat) (p : PV) (v : Value), args[j]? = some p → vs[j]? = some v → PRep (cxOf E hg loc w) hg loc kn p v) →
    Calls P f vs w fun e w' => ∃ v loc' kn', e = .returned v ∧ Tr E hg loc kn w (upd h' hg) loc' kn' w' ∧ PRep (cxOf E (upd h' hg) loc' w') (upd h' hg) loc' kn' r v ∧ ∀ id, kn' id → kn id ∨ (nid ≤ id ∧ id < nid + 4)
/-- these objects are there -/
def hasH (h : Heap) : Heap → Prop
  | [] => True
  | (id, ob) :: l => hget h id = some ob ∧ hasH h l
theorem hasH_get {h : Heap} : ∀ {s : Heap}, hasH h s → ∀ id ob, hget s id = some ob → hget h id = some ob
  | [], _, id, ob, e => by cases e
  | (v, p) :: s, hh, id, ob, e => by
    simp only [hget] at e
    split at e
    · rename_i e2; subst e2; rw [← e]; exact hh.1
    · exact hasH_get hh.2 id ob e
theorem hasH_loc {h h' : Heap} : ∀ {s : Heap}, (∀ id ∈ s.map (·.1), hget h' id = hget h id) → hasH h s → hasH h' s
  | [], _, _ => trivial
  | (v, p) :: s, he, hh => ⟨(he v (by simp)).trans hh.1, hasH_loc (fun id hi => he id (by simp only [List.map_cons, List.mem_cons]; exact .inr hi)) hh.2⟩

def R1.ob : R1 → Option Ob
  | .d _ => none
  | .so el k es => some (.arr ⟨el, k, 0, false, es⟩)
  | .sto el rel k rows => some (.tab ⟨el, rel, k, 0, false, List.range rows.length, rows.map some⟩)
def adopt1 (nid : Nat) : R1 → PV × Heap
  | .d x => (.d x, [])
  | .so el k es => (.sr nid 0, [(nid, .arr ⟨el, k, 0, false, es⟩)])
  | .sto el rel k rows => (.st nid 0, [(nid, .tab ⟨el, rel, k, 0, false, List.range rows.length, rows.map some⟩)])
def adoptL : Nat → List R1 → List PV × Heap
  | _, [] => ([], [])
  | nid, r :: rs => ((adopt1 nid r).1 :: (adoptL (nid + 1) rs).1, (adopt1 nid r).2 ++ (adoptL (nid + 1) rs).2)
def adopt (nid : Nat) : R → PV × Heap
  | .one r => adopt1 nid r
  | .tup rs => (.tup (adoptL nid rs).1, (adoptL nid rs).2)

/-! ### where a walk over abstract states stops -/
def Side (p : Prop) (σ : St) (k : St → Prop) : Prop := p ∧ k σ
def Elem (es : List (List D)) (i : Nat) (σ : St) (k : St → List D → Prop) : Prop := ∃ e, es[i]? = some e ∧ k σ e
def IfB (b : Bool) (σ : St) (k1 k2 : St → Prop) : Prop := (b = true → k1 σ) ∧ (b = false → k2 σ)
def CallS (P : Program) (f : FuncId) (args : List PV) (σ : St) (k : St → R → Prop) : Prop := ∃ r, PCall P f args r ∧ k σ r
def Got {α : Type} (x : Option α) (σ : St) (k : St → α → Prop) : Prop := match x with
  | some a => k σ a
  | none => False

def inRange (k : IntKind) (z : Int) : Prop := k.min ≤ z ∧ z ≤ k.max

abbrev Kt := St → PV → Heap → List Nat → Prop
def intP (k : IntKind) (z : Int) : PV := .d (.v (.int k z))
def boolP (b : Bool) : PV := .d (.v (.bool b))

/-- sums, products, comparisons of integers and Booleans: signed ones must fit, unsigned ones wrap -/
def arith (k : IntKind) (z : Int) (σ : St) (K : St → PV → Prop) : Prop := match k with
  | .i64 => Side (-9223372036854775808 ≤ z ∧ z ≤ 9223372036854775807) σ fun σ => K σ (intP .i64 z)
  | k => K σ (intP k (k.wrap z))
def isStr (P : Program) (t : TypeId) : Bool := match P.underlying t with
  | some .string => true
  | _ => false
def isBool (P : Program) (t : TypeId) : Bool := match P.underlying t with
  | some .bool => true
  | _ => false
def slcT (P : Program) (t : TypeId) : Bool := match TY P t with
  | some T => T.slc
  | none => false
def binV (P : Program) (op : BinOp) (t : TypeId) (x y : PV) (σ : St) (K : St → PV → Prop) : Prop :=
  match op, x, y with
  | .add, .d (.v (.int k a)), .d (.v (.int k' b)) => Side (k' = k) σ fun σ => arith k (a + b) σ K
  | .sub, .d (.v (.int k a)), .d (.v (.int k' b)) => Side (k' = k) σ fun σ => arith k (a - b) σ K
  | .mul, .d (.v (.int k a)), .d (.v (.int k' b)) => Side (k' = k) σ fun σ => arith k (a * b) σ K
  | .quo, .d (.v (.int k a)), .d (.v (.int k' b)) => Side (k' = k ∧ b ≠ 0) σ fun σ => arith k (a.tdiv b) σ K
  | .rem, .d (.v (.int k a)), .d (.v (.int k' b)) => Side (k' = k ∧ b ≠ 0) σ fun σ => K σ (intP k (a.tmod b))
  | .and, .d (.v (.int k a)), .d (.v (.int k' b)) => Side (k' = k) σ fun σ => K σ (intP k (k.wrap (BitVec.ofInt k.bits a &&& BitVec.ofInt k.bits b).toNat))
  | .or, .d (.v (.int k a)), .d (.v (.int k' b)) => Side (k' = k) σ fun σ => K σ (intP k (k.wrap (BitVec.ofInt k.bits a ||| BitVec.ofInt k.bits b).toNat))
  | .xor, .d (.v (.int k a)), .d (.v (.int k' b)) => Side (k' = k) σ fun σ => K σ (intP k (k.wrap (BitVec.ofInt k.bits a ^^^ BitVec.ofInt k.bits b).toNat))
  | .shl, .d (.v (.int k a)), .d (.v (.int _ b)) => Side (0 ≤ b) σ fun σ => K σ (intP k (k.wrap (a * 2 ^ min b.toNat k.bits)))
  | .shr, .d (.v (.int k a)), .d (.v (.int _ b)) => Side (0 ≤ b) σ fun σ => K σ (intP k (a.fdiv (2 ^ min b.toNat k.bits)))
  | .eql, .d (.v (.int k a)), .d (.v (.int k' b)) => Side (k' = k) σ fun σ => K σ (boolP (decide (a = b)))
  | .neq, .d (.v (.int k a)), .d (.v (.int k' b)) => Side (k' = k) σ fun σ => K σ (boolP (decide (a ≠ b)))
  | .lss, .d (.v (.int k a)), .d (.v (.int k' b)) => Side (k' = k) σ fun σ => K σ (boolP (decide (a < b)))
  | .leq, .d (.v (.int k a)), .d (.v (.int k' b)) => Side (k' = k) σ fun σ => K σ (boolP (decide (a ≤ b)))
  | .gtr, .d (.v (.int k a)), .d (.v (.int k' b)) => Side (k' = k) σ fun σ => K σ (boolP (decide (b < a)))
  | .geq, .d (.v (.int k a)), .d (.v (.int k' b)) => Side (k' = k) σ fun σ => K σ (boolP (decide (b ≤ a)))
  | .eql, .d (.v (.bool a)), .d (.v (.bool b)) => Side (isBool P t = true) σ fun σ => K σ (boolP (a == b))
  | .neq, .d (.v (.bool a)), .d (.v (.bool b)) => Side (isBool P t = true) σ fun σ => K σ (boolP (a != b))
  | .eql, .d (.sl (_ :: _)), .nl => Side (slcT P t = true) σ fun σ => K σ (boolP false)
  | .neq, .d (.sl (_ :: _)), .nl => Side (slcT P t = true) σ fun σ => K σ (boolP true)
  | _, _, _ => False
def unV (op : UnOp) (x : PV) (σ : St) (K : St → PV → Prop) : Prop :=
  match op, x with
  | .not, .d (.v (.bool b)) => K σ (boolP (!b))
  | .neg, .d (.v (.int k a)) => arith k (0 - a) σ K
  | .xor, .d (.v (.int k a)) => K σ (intP k (k.wrap (BitVec.ofInt k.bits (if k.signed then -1 else k.max) ^^^ BitVec.ofInt k.bits a).toNat))
  | _, _ => False
def kindOf (P : Program) (t : TypeId) : Option IntKind := match P.underlying t with
  | some (.int k) => some k
  | _ => none
def convV (P : Program) (src dst : TypeId) (x : PV) (σ : St) (K : St → PV → Prop) : Prop :=
  match x with
  | .d (.v (.int _ a)) => Got (kindOf P src) σ fun σ _ => Got (kindOf P dst) σ fun σ k => K σ (intP k (k.wrap a))
  | _ => False

/-- the elements of a slice -/
def els (hg : Nat → Option Ob) (p : PV) : Option (List (List D)) := match d0 hg p with
  | some (.sl es) => some es
  | _ => none
/-- how many there are -/
def lenOf (hg : Nat → Option Ob) : PV → Option Nat
  | .nl => some 0
  | .d (.sl es) => some es.length
  | .lt ps => some ps.length
  | .sr id ver => match hg id with
    | some (.arr a) => if a.ver = ver then some a.es.length else none
    | _ => none
  | .st id ver => match hg id with
    | some (.tab T) => if T.ver = ver then some T.out.length else none
    | _ => none
  | .tv id ver _ n => match hg id with
    | some (.tab T) => if T.ver = ver then some n else none
    | _ => none
  | .sw id r => match hg id with
    | some (.tab T) => match T.row r with
      | some es => some es.length
      | none => none
    | _ => none
  | _ => none
/-- a row of a table -/
def RowAt (T : Tab) (r : Nat) (σ : St) (k : St → List (List D) → Prop) : Prop := ∃ es, T.row r = some es ∧ k σ es
def ElemR (T : Tab) (i : Nat) (σ : St) (k : St → Nat → Prop) : Prop := ∃ r, T.out[i]? = some r ∧ ∃ es, T.row r = some es ∧ k σ r
def bound (d : Int) : Option PV → Option Int
  | none => some d
  | some (.d (.v (.int _ z))) => some z
  | some _ => none

def loadV (T : Ty) (x : PV) (σ : St) (K : Kt) : Prop := match x with
  | .pr id ver i off => Got (hget σ.h id) σ fun σ ob => match ob with
    | .box cs => Side (off + T.size ≤ cs.length ∧ (T.agg = false → T.size = 1)) σ fun σ => K σ (mk T.agg ((cs.drop off).take T.size)) [] [id]
    | .arr a => Side (a.ver = ver ∧ off + T.size ≤ a.k ∧ (T.agg = false → T.size = 1)) σ fun σ => Elem a.es i σ fun σ e => K σ (mk T.agg (((e.drop off).take T.size).map .d)) [] [id]
    | _ => False
  | .po id ver i => Got (hget σ.h id) σ fun σ ob => match ob with
    | .tab t => Side (t.ver = ver ∧ T.agg = false ∧ T.size = 1) σ fun σ => ElemR t i σ fun σ r => K σ (.sw id r) [] [id]
    | _ => False
  | .pw id r i off => Got (hget σ.h id) σ fun σ ob => match ob with
    | .tab t => Side (off + T.size ≤ t.k ∧ (T.agg = false → T.size = 1)) σ fun σ => RowAt t r σ fun σ es => Elem es i σ fun σ e => K σ (mk T.agg (((e.drop off).take T.size).map .d)) [] [id]
    | _ => False
  | .bw cs => Side (T.size ≤ cs.length ∧ (T.agg = false → T.size = 1)) σ fun σ => K σ (mk T.agg ((cs.take T.size).map .d)) [] []
  | .lp cs => Side (T.size ≤ cs.length ∧ (T.agg = false → T.size = 1)) σ fun σ => K σ (mk T.agg (cs.take T.size)) [] []
  | _ => False
def storeV (T : Ty) (x y : PV) (σ : St) (K : Kt) : Prop := match x with
  | .pr id ver i off => Got (hget σ.h id) σ fun σ ob => match ob with
    | .box cs => Side ((cellsP y).length = T.size ∧ off + T.size ≤ cs.length ∧ allOne (cellsP y)) σ fun σ => K σ .any [(id, .box (splice cs off (cellsP y)))] [id]
    | .arr a => Got (d0s (hget σ.h) (cellsP y)) σ fun σ ds => Side (a.ver = ver ∧ a.fz = false ∧ ds.length = T.size ∧ off + T.size ≤ a.k ∧ allOne (cellsP y) ∧ ¬ id ∈ f0s (cellsP y)) σ fun σ =>
        Elem a.es i σ fun σ e => K σ .any ((id, .arr { a with es := a.es.set i (splice e off ds) }) :: frz (hget σ.h) (f0s (cellsP y))) (id :: f0s (cellsP y))
    | _ => False
  | .pw id r i off => Got (hget σ.h id) σ fun σ ob => match ob with
    | .tab t => Got (d0s (hget σ.h) (cellsP y)) σ fun σ ds => Side (t.fz = false ∧ ds.length = T.size ∧ off + T.size ≤ t.k ∧ allOne (cellsP y) ∧ ¬ id ∈ f0s (cellsP y)) σ fun σ => RowAt t r σ fun σ es =>
        Elem es i σ fun σ e => K σ .any ((id, .tab { t with rows := t.rows.set r (some (es.set i (splice e off ds))) }) :: frz (hget σ.h) (f0s (cellsP y))) (id :: f0s (cellsP y))
    | _ => False
  | .po id ver i => Got (hget σ.h id) σ fun σ ob => match ob with
    | .tab t => Side (t.ver = ver ∧ t.fz = false ∧ T.size = 1 ∧ i < t.out.length) σ fun σ => match y with
      | .sw id1 r => Side (id1 = id) σ fun σ => RowAt t r σ fun σ _ => K σ .any [(id, .tab { t with out := t.out.set i r })] [id]
      | .sr id1 ver1 => Got (hget σ.h id1) σ fun σ ob => match ob with
        | .arr a => Side (a.ver = ver1 ∧ a.fz = false ∧ a.el = t.rel ∧ a.k = t.k ∧ ¬ id1 = id) σ fun σ => K σ .any [(id, .tab { t with out := t.out.set i t.rows.length, rows := t.rows ++ [some a.es] }), (id1, .dead)] [id, id1]
        | _ => False
      | _ => False
    | _ => False
  | _ => False
def idxV (P : Program) (T : Ty) (x ix : PV) (σ : St) (K : Kt) : Prop := match ix with
  | .d (.v (.int _ z)) => if T.slc then match x with
      | .sr id ver => Got (hget σ.h id) σ fun σ ob => match ob with
        | .arr a => Got (TY P T.elem) σ fun σ E => Side (a.ver = ver ∧ a.k = E.size ∧ 0 ≤ z ∧ z.toNat < a.es.length) σ fun σ => K σ (.pr id ver z.toNat 0) [] [id]
        | _ => False
      | .st id ver => Got (hget σ.h id) σ fun σ ob => match ob with
        | .tab t => Got (TY P T.elem) σ fun σ E => Side (t.ver = ver ∧ E.size = 1 ∧ 0 ≤ z ∧ z.toNat < t.out.length) σ fun σ => K σ (.po id ver z.toNat) [] [id]
        | _ => False
      | .tv id ver o n => Got (hget σ.h id) σ fun σ ob => match ob with
        | .tab t => Got (TY P T.elem) σ fun σ E => Side (t.ver = ver ∧ E.size = 1 ∧ 0 ≤ z ∧ z.toNat < n) σ fun σ => K σ (.po id ver (o + z.toNat)) [] [id]
        | _ => False
      | .sw id r => Got (hget σ.h id) σ fun σ ob => match ob with
        | .tab t => Got (TY P T.elem) σ fun σ E => RowAt t r σ fun σ es => Side (t.k = E.size ∧ 0 ≤ z ∧ z.toNat < es.length) σ fun σ => K σ (.pw id r z.toNat 0) [] [id]
        | _ => False
      | .d (.sl es) => Got (TY P T.elem) σ fun σ E => Side (0 ≤ z) σ fun σ => Elem es z.toNat σ fun σ e => Side (e.length = E.size) σ fun σ => K σ (.bw e) [] []
      | .lt cs => Got (TY P T.elem) σ fun σ E => Side (E.size = 1 ∧ 0 ≤ z ∧ z.toNat < cs.length) σ fun σ => K σ (.lp (cs.drop z.toNat)) [] []
      | _ => False
    else False
  | _ => False
/-- what a literal holds is frozen as it is appended -/
def fa : PV → List Nat
  | .lt ps => fzs ps
  | .st id _ => [id]
  | .tv id _ _ _ => [id]
  | _ => []
def appV (P : Program) (T : Ty) (s x : PV) (nid : Nat) (σ : St) (K : Kt) : Prop :=
  Got (TY P T.elem) σ fun σ E => Side (T.slc = true ∧ 0 < E.size ∧ E.zero.length = E.size) σ fun σ => match s with
  | .nl => Got (els (hget σ.h) x) σ fun σ ns => Side ((∀ e ∈ ns, e.length = E.size) ∧ ns.length * E.bytes ≤ 140737488355328 ∧ ns.length ≤ 9223372036854775807) σ fun σ =>
      K σ (.sr nid 1) ((nid, .arr ⟨T.elem, E.size, 1, false, ns⟩) :: frz (hget σ.h) (fa x)) (f0 x)
  | .sr id ver => Got (hget σ.h id) σ fun σ ob => match ob with
    | .arr a => Got (els (hget σ.h) x) σ fun σ ns => Side ((∀ e ∈ ns, e.length = E.size) ∧ a.ver = ver ∧ a.el = T.elem ∧ a.k = E.size ∧ (a.es.length + ns.length) * E.bytes ≤ 140737488355328 ∧ a.es.length + ns.length ≤ 9223372036854775807 ∧ ¬ id ∈ fa x) σ fun σ =>
        K σ (.sr id (ver + 1)) ((id, .arr { a with es := a.es ++ ns, ver := ver + 1 }) :: frz (hget σ.h) (fa x)) (id :: f0 x)
    | _ => False
  | .st id ver => Got (hget σ.h id) σ fun σ ob => match ob with
    | .tab t => Side (t.ver = ver ∧ t.fz = false ∧ t.el = T.elem ∧ E.size = 1 ∧ (t.out.length + 1) * E.bytes ≤ 140737488355328 ∧ t.out.length + 1 ≤ 9223372036854775807) σ fun σ => match x with
      | .lt [.sr id1 ver1] => Got (hget σ.h id1) σ fun σ ob => match ob with
        | .arr a => Side (a.ver = ver1 ∧ a.fz = false ∧ a.el = t.rel ∧ a.k = t.k ∧ ¬ id1 = id) σ fun σ =>
            K σ (.st id (ver + 1)) [(id, .tab { t with ver := ver + 1, out := t.out ++ [t.rows.length], rows := t.rows ++ [some a.es] }), (id1, .dead)] [id, id1]
        | _ => False
      | _ => False
    | _ => False
  | .sw id r => Got (hget σ.h id) σ fun σ ob => match ob with
    | .tab t => Got (els (hget σ.h) x) σ fun σ ns => RowAt t r σ fun σ es => Side ((∀ e ∈ ns, e.length = E.size) ∧ t.fz = false ∧ t.rel = T.elem ∧ t.k = E.size ∧ (es.length + ns.length) * E.bytes ≤ 140737488355328 ∧ es.length + ns.length ≤ 9223372036854775807 ∧ f0 x = []) σ fun σ =>
        K σ (.sr nid 1) [(nid, .arr ⟨t.rel, t.k, 1, false, es ++ ns⟩), (id, .tab { t with rows := t.rows.set r none })] [id]
    | _ => False
  | _ => False

/-- elements of another slice over those of an own array -/
def copyV (P : Program) (T : Ty) (d x : PV) (σ : St) (K : Kt) : Prop :=
  Got (TY P T.elem) σ fun σ E => Side (T.slc = true ∧ E.size = 1) σ fun σ => match d with
  | .sr id ver => Got (hget σ.h id) σ fun σ ob => match ob with
    | .arr a => Got (els (hget σ.h) x) σ fun σ ns => Side ((∀ e ∈ ns, e.length = E.size) ∧ a.ver = ver ∧ a.fz = false ∧ a.k = 1 ∧ ¬ id ∈ fa x) σ fun σ =>
        K σ (intP .i64 (min ns.length a.es.length : Nat)) ((id, .arr { a with es := ns.take a.es.length ++ a.es.drop ns.length }) :: frz (hget σ.h) (fa x)) (id :: f0 x)
    | _ => False
  | _ => False
def maxL : List PV → Option (IntKind × Int)
  | [] => none
  | .d (.v (.int k a)) :: l => maxG k a l
  | _ :: _ => none
where maxG (k : IntKind) (a : Int) : List PV → Option (IntKind × Int)
  | [] => some (k, a)
  | .d (.v (.int _ b)) :: l => maxG k (if b > a then b else a) l
  | _ :: _ => none

/-- a call of f with what the arguments stand for, as data -/
def CallP (P : Program) (g : FuncId) (ps : List PV) (nid : Nat) (σ : St) (K : Kt) : Prop :=
  Got (a2s (hget σ.h) ps) σ fun σ as => CallS P g as σ fun σ r => Side (r.list.length ≤ 4) σ fun σ =>
    K σ (adopt nid r).1 ((adopt nid r).2 ++ if r.plain = true then [] else frz (hget σ.h) (g2s (hget σ.h) ps)) (r2s ps ++ g2s (hget σ.h) ps)
/-- a call of f that turns some objects -/
def CallH (P : Program) (g : FuncId) (ps : List PV) (nid : Nat) (σ : St) (K : Kt) : Prop :=
  ∃ hs r h', HCall P g ps hs nid r h' ∧ hasH σ.h hs ∧ K σ r h' (hs.map (·.1))
def CallB (P : Program) (g : FuncId) (ps : List PV) (nid : Nat) (σ : St) (K : Kt) : Prop := CallP P g ps nid σ K ∨ CallH P g ps nid σ K
def callV (P : Program) (c : Call) (nid : Nat) (σ : St) (K : Kt) : Prop :=
  match c.callee with
  | .builtin .len => match c.args.toList, c.argTypes.toList with
    | [x], [t] => Got (TY P t) σ fun σ T => Got (lenOf (hget σ.h) (ev σ.t x)) σ fun σ n => Side (T.slc = true) σ fun σ => K σ (intP .i64 n) [] (fz (ev σ.t x))
    | _, _ => False
  | .builtin .append => match c.args.toList, c.argTypes.toList with
    | [s, x], [t, t'] => Got (TY P t) σ fun σ T => Side (t' = t) σ fun σ => appV P T (ev σ.t s) (ev σ.t x) nid σ K
    | _, _ => False
  | .builtin .max => Got (maxL (c.args.toList.map (ev σ.t))) σ fun σ m => K σ (intP m.1 m.2) [] []
  | .builtin .copy => match c.args.toList, c.argTypes.toList with
    | [s, x], [t, _] => Got (TY P t) σ fun σ T => copyV P T (ev σ.t s) (ev σ.t x) σ K
    | _, _ => False
  | .builtin _ => False
  | .value f => match ev σ.t f with
    | .fn g caps => CallB P g (c.args.toList.map (ev σ.t) ++ caps) nid σ K
    | _ => False
  | .invoke _ _ => False

/-- what an operation asks for and leaves -/
def vcOp (P : Program) (o : Oper) (nid : Nat) (σ : St) (K : Kt) : Prop :=
  match o.op with
  | .move x | .assign x => K σ (ev σ.t x) [] []
  | .pick c a b => match ev σ.t c with
    | .d (.v (.bool c)) => IfB c σ (fun σ => K σ (ev σ.t a) [] []) (fun σ => K σ (ev σ.t b) [] [])
    | _ => False
  | .extract x i => match ev σ.t x with
    | .tup vs => Side (i < vs.length) σ fun σ => K σ (vs.getD i .any) [] []
    | _ => False
  | .alloc t => Got (TY P t) σ fun σ T => Side (allOne (T.zero.map zPV)) σ fun σ => K σ (.pr nid 0 0 0) [(nid, .box (T.zero.map zPV))] []
  | .box _ x => Side (allOne (cellsP (ev σ.t x))) σ fun σ => K σ (.pr nid 0 0 0) [(nid, .box (cellsP (ev σ.t x)))] []
  | .build t parts => Got (TY P t) σ fun σ T => Side (T.arr = false ∧ T.agg = true ∧ allOne ((parts.toList.map fun p => ev σ.t p.2).flatMap cellsP)) σ fun σ => Got (fillP T.flds (parts.toList.map fun p => (p.1, ev σ.t p.2)) (T.zero.map zPV)) σ fun σ cs => K σ (.agg cs) [] []
  | .buildSlice t len parts => Got (TY P t) σ fun σ T => Got (TY P T.elem) σ fun σ E => if litT E = true ∧ 0 < len then
        Side (T.slc = true ∧ parts.toList.map (·.1) = List.range len ∧ E.size = 1 ∧ E.zero.length = 1 ∧ len ≤ 16777216 ∧ ∀ p ∈ parts.toList, (cellsP (ev σ.t p.2)) = [ev σ.t p.2] ∧ (ev σ.t p.2).one) σ fun σ => K σ (.lt (parts.toList.map fun p => ev σ.t p.2)) [] []
      else Got (d0s (hget σ.h) ((parts.toList.map fun p => ev σ.t p.2).flatMap cellsP)) σ fun σ _ =>
      Side (T.slc = true ∧ parts.toList.map (·.1) = List.range len ∧ 0 < E.size ∧ E.zero.length = E.size ∧ (∀ p ∈ parts.toList, (cellsP (ev σ.t p.2)).length = E.size) ∧ len * E.size ≤ 16777216 ∧ allOne ((parts.toList.map fun p => ev σ.t p.2).flatMap cellsP)) σ fun σ =>
        K σ (.sr nid 0) ((nid, .arr ⟨T.elem, E.size, 0, false, (parts.toList.map fun p => ((d0s (hget σ.h) (cellsP (ev σ.t p.2))).getD []))⟩) :: frz (hget σ.h) (f0s ((parts.toList.map fun p => ev σ.t p.2).flatMap cellsP)))
          (f0s ((parts.toList.map fun p => ev σ.t p.2).flatMap cellsP))
  | .load t x => Got (TY P t) σ fun σ T => loadV T (ev σ.t x) σ K
  | .store t x y => Got (TY P t) σ fun σ T => storeV T (ev σ.t x) (ev σ.t y) σ K
  | .binOp op t x y _ => binV P op t (ev σ.t x) (ev σ.t y) σ fun σ v => K σ v [] []
  | .unOp op _ x => unV op (ev σ.t x) σ fun σ v => K σ v [] []
  | .nilCheck x => match ev σ.t x with
    | .pr id ver i off => Got (hget σ.h id) σ fun σ ob => match ob with
      | .box _ => K σ (.pr id ver i off) [] [id]
      | _ => False
    | .bw cs => K σ (.bw cs) [] []
    | .lp cs => K σ (.lp cs) [] []
    | .fn f cs => K σ (.fn f cs) [] []
    | _ => False
  | .index t x i => match ev σ.t x, ev σ.t i with
    | .d (.v (.string s)), .d (.v (.int _ z)) => Side (isStr P t = true ∧ 0 ≤ z) σ fun σ => Got (s[z.toNat]?) σ fun σ b => K σ (intP .u8 b.toNat) [] []
    | _, _ => False
  | .convert src dst x => convV P src dst (ev σ.t x) σ fun σ v => K σ v [] []
  | .makeFunc fn first caps => match fn with
    | .func f => Side (first.size = 0) σ fun σ => K σ (.fn f (caps.toList.map (ev σ.t))) [] []
    | _ => False
  | .makeSlice t l c => match ev σ.t l, ev σ.t c with
    | .d (.v (.int _ n)), .d (.v (.int _ m)) => Got (TY P t) σ fun σ T => Got (TY P T.elem) σ fun σ E =>
        Side (T.slc = true ∧ 0 < E.size ∧ E.zero.length = E.size ∧ 0 ≤ n ∧ n ≤ m ∧ m ≤ 9223372036854775807 ∧ (E.bytes : Int) * m ≤ 140737488355328 ∧ allOne (E.zero.map zPV)) σ fun σ => K σ (.sr nid 0) [(nid, .arr ⟨T.elem, E.size, 0, false, List.replicate n.toNat (E.zero.map zD)⟩)] []
    | _, _ => False
  | .fieldAddr s x f => Got (TY P s) σ fun σ T => Got (T.flds[f]?) σ fun σ fo => match ev σ.t x with
    | .pr id ver i off => Got (hget σ.h id) σ fun σ ob => match ob with
      | .box _ => Side (0 < fo.2) σ fun σ => K σ (.pr id ver i (off + fo.1)) [] [id]
      | .arr a => Side (0 < fo.2 ∧ a.ver = ver ∧ i < a.es.length) σ fun σ => K σ (.pr id ver i (off + fo.1)) [] [id]
      | _ => False
    | .pw id r i off => Got (hget σ.h id) σ fun σ ob => match ob with
      | .tab t => RowAt t r σ fun σ es => Side (0 < fo.2 ∧ i < es.length) σ fun σ => K σ (.pw id r i (off + fo.1)) [] [id]
      | _ => False
    | .bw cs => Side (0 < fo.2) σ fun σ => K σ (.bw (cs.drop fo.1)) [] []
    | _ => False
  | .field _ _ _ => False
  | .indexAddr t x ix => Got (TY P t) σ fun σ T => idxV P T (ev σ.t x) (ev σ.t ix) σ K
  | .slice t x lo hi mx => Got (TY P t) σ fun σ T => Got (lenOf (hget σ.h) (ev σ.t x)) σ fun σ n => Got (bound 0 (lo.map (ev σ.t))) σ fun σ l => Got (bound n (hi.map (ev σ.t))) σ fun σ h => Got (bound h (mx.map (ev σ.t))) σ fun σ m => Got (TY P T.elem) σ fun σ E =>
      Side (T.slc = true ∧ 0 ≤ l ∧ l ≤ h ∧ h ≤ m ∧ m ≤ n ∧ (mx.isSome = true → hi.isSome = true)) σ fun σ => match ev σ.t x with
      | .st id ver => Side (E.size = 1) σ fun σ => K σ (.tv id ver l.toNat (h.toNat - l.toNat)) [] [id]
      | p => Got (els (hget σ.h) p) σ fun σ es => Side (∀ e ∈ es, e.length = E.size) σ fun σ => K σ (.d (.sl ((es.drop l.toNat).take (h.toNat - l.toNat)))) (frz (hget σ.h) (f0 p)) (f0 p)
  | .call c => callV P c nid σ K
  | _ => False
end Go.Pm
