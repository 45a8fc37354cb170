/-
  The pure machine, run: closed calls, by the kernel.
-/
import Derived.Test.YtaipmgpgklilkaaPmH
set_option linter.unusedSimpArgs false
set_option linter.unusedVariables false
namespace Go.Pm
open Go.RowKit
structure Tb where
  ty : List (Option Ty)
  kind : List (Option IntKind)
  isB : List Bool
  isS : List Bool
  hs : List Nat
  gh : List (Nat × Nat × Nat × Nat × Nat × Nat)
def Tb.t (W : Tb) (t : TypeId) : Option Ty := (W.ty[t]?).getD none
def Tb.k (W : Tb) (t : TypeId) : Option IntKind := (W.kind[t]?).getD none

def oneD : D → Bool
  | .v (.agg _) => false
  | .v (.tuple _) => false
  | .agg _ => false
  | _ => true
def oneP : PV → Bool
  | .d x => oneD x
  | .agg _ => false
  | .tup _ => false
  | .any => false
  | _ => true
def oneL : List PV → Bool
  | [] => true
  | p :: l => oneP p && oneL l
def lenAll (k : Nat) : List (List D) → Bool
  | [] => true
  | e :: l => Nat.beq e.length k && lenAll k l
section
variable {α : Type}
def fN (n : Nat) (k : Nat → α) : α := match n with
  | 0 => k 0
  | n + 1 => k (n + 1)
def fI (z : Int) (k : Int → α) : α := match z with
  | .ofNat n => fN n fun n => k (.ofNat n)
  | .negSucc n => fN n fun n => k (.negSucc n)
def fB (b : Bool) (k : Bool → α) : α := match b with
  | true => k true
  | false => k false
def fV (v : Value) (k : Value → α) : α := match v with
  | .int kd z => fI z fun z => k (.int kd z)
  | .bool b => fB b fun b => k (.bool b)
  | v => k v
def fQ (p : PV) (k : PV → α) : α := match p with
  | .d (.v x) => fV x fun x => k (.d (.v x))
  | p => k p
theorem fN_eq (n : Nat) (k : Nat → α) : fN n k = k n := by cases n <;> rfl
theorem fI_eq (z : Int) (k : Int → α) : fI z k = k z := by cases z <;> simp [fI, fN_eq]
theorem fB_eq (b : Bool) (k : Bool → α) : fB b k = k b := by cases b <;> rfl
theorem fV_eq (v : Value) (k : Value → α) : fV v k = k v := by cases v <;> simp [fV, fI_eq, fB_eq]
theorem fQ_eq (p : PV) (k : PV → α) : fQ p k = k p := by
  unfold fQ
  split
  · rw [fV_eq]
  · rfl
end
def bT (b : Bool) {α : Type} (x : Option α) : Option α := if b then x else none
def eArith (k : IntKind) (z : Int) : Option PV := match k with
  | .i64 => if -9223372036854775808 ≤ z then (if z ≤ 9223372036854775807 then some (intP .i64 z) else none) else none
  | k => some (intP k (k.wrap z))
def eBin (W : Tb) (op : BinOp) (t : TypeId) (x y : PV) : Option PV :=
  match x, y with
  | .d (.v (.int k a)), .d (.v (.int k' b)) => match op with
    | .shl => if 0 ≤ b then some (intP k (k.wrap (a * 2 ^ min b.toNat k.bits))) else none
    | .shr => if 0 ≤ b then some (intP k (a.fdiv (2 ^ min b.toNat k.bits))) else none
    | _ => if k' = k then match op with
      | .add => eArith k (a + b)
      | .sub => eArith k (a - b)
      | .mul => eArith k (a * b)
      | .quo => if b = 0 then none else eArith k (a.tdiv b)
      | .rem => if b = 0 then none else some (intP k (a.tmod b))
      | .and => some (intP k (k.wrap (BitVec.ofInt k.bits a &&& BitVec.ofInt k.bits b).toNat))
      | .or => some (intP k (k.wrap (BitVec.ofInt k.bits a ||| BitVec.ofInt k.bits b).toNat))
      | .xor => some (intP k (k.wrap (BitVec.ofInt k.bits a ^^^ BitVec.ofInt k.bits b).toNat))
      | .eql => some (boolP (decide (a = b)))
      | .neq => some (boolP (decide (a ≠ b)))
      | .lss => some (boolP (decide (a < b)))
      | .leq => some (boolP (decide (a ≤ b)))
      | .gtr => some (boolP (decide (b < a)))
      | .geq => some (boolP (decide (b ≤ a)))
      | _ => none else none
  | .d (.v (.bool a)), .d (.v (.bool b)) => if (W.isB[t]?).getD false then match op with
      | .eql => some (boolP (a == b))
      | .neq => some (boolP (a != b))
      | _ => none else none
  | .d (.sl (_ :: _)), .nl => match W.t t with
    | some T => bT T.slc (match op with
      | .eql => some (boolP false)
      | .neq => some (boolP true)
      | _ => none)
    | none => none
  | _, _ => none
def eUn (op : UnOp) (x : PV) : Option PV := match op, x with
  | .not, .d (.v (.bool b)) => some (boolP (!b))
  | .neg, .d (.v (.int k a)) => eArith k (0 - a)
  | .xor, .d (.v (.int k a)) => some (intP k (k.wrap (BitVec.ofInt k.bits (if k.signed then -1 else k.max) ^^^ BitVec.ofInt k.bits a).toNat))
  | _, _ => none
def eConv (W : Tb) (src dst : TypeId) (x : PV) : Option PV := match x with
  | .d (.v (.int _ a)) => match W.k src, W.k dst with
    | some _, some k => some (intP k (k.wrap a))
    | _, _ => none
  | _ => none
def eLoad (T : Ty) (x : PV) (σ : St) : Option (PV × List Nat) := match x with
  | .pr id ver i off => match hget σ.h id with
    | some (.box cs) => bT (Nat.ble (off + T.size) cs.length && (T.agg || Nat.beq T.size 1)) (some (mk T.agg ((cs.drop off).take T.size), [id]))
    | some (.arr a) => bT (Nat.beq a.ver ver && Nat.ble (off + T.size) a.k && (T.agg || Nat.beq T.size 1)) (match a.es[i]? with
      | some e => some (mk T.agg (((e.drop off).take T.size).map .d), [id])
      | none => none)
    | _ => none
  | .po id ver i => match hget σ.h id with
    | some (.tab t) => bT (Nat.beq t.ver ver && !T.agg && Nat.beq T.size 1) (match t.out[i]? with
      | some r => match t.row r with
        | some _ => some (.sw id r, [id])
        | none => none
      | none => none)
    | _ => none
  | .pw id r i off => match hget σ.h id with
    | some (.tab t) => bT (Nat.ble (off + T.size) t.k && (T.agg || Nat.beq T.size 1)) (match t.row r with
      | some es => match es[i]? with
        | some e => some (mk T.agg (((e.drop off).take T.size).map .d), [id])
        | none => none
      | none => none)
    | _ => none
  | .bw cs => bT (Nat.ble T.size cs.length && (T.agg || Nat.beq T.size 1)) (some (mk T.agg ((cs.take T.size).map .d), []))
  | .lp cs => bT (Nat.ble T.size cs.length && (T.agg || Nat.beq T.size 1)) (some (mk T.agg (cs.take T.size), []))
  | _ => none
def memN (x : Nat) : List Nat → Bool
  | [] => false
  | y :: l => Nat.beq x y || memN x l
def eStore (T : Ty) (x y : PV) (σ : St) : Option (Heap × List Nat) := match x with
  | .pr id ver i off => match hget σ.h id with
    | some (.box cs) => bT (Nat.beq (cellsP y).length T.size && Nat.ble (off + T.size) cs.length && oneL (cellsP y)) (some ([(id, .box (splice cs off (cellsP y)))], [id]))
    | some (.arr a) => match d0s (hget σ.h) (cellsP y) with
      | some ds => bT (Nat.beq a.ver ver && !a.fz && Nat.beq ds.length T.size && Nat.ble (off + T.size) a.k && oneL (cellsP y) && !memN id (f0s (cellsP y))) (match a.es[i]? with
        | some e => some ((id, .arr { a with es := a.es.set i (splice e off ds) }) :: frz (hget σ.h) (f0s (cellsP y)), id :: f0s (cellsP y))
        | none => none)
      | none => none
    | _ => none
  | .pw id r i off => match hget σ.h id with
    | some (.tab t) => match d0s (hget σ.h) (cellsP y) with
      | some ds => bT (!t.fz && Nat.beq ds.length T.size && Nat.ble (off + T.size) t.k && oneL (cellsP y) && !memN id (f0s (cellsP y))) (match t.row r with
        | some es => match es[i]? with
          | some e => some ((id, .tab { t with rows := t.rows.set r (some (es.set i (splice e off ds))) }) :: frz (hget σ.h) (f0s (cellsP y)), id :: f0s (cellsP y))
          | none => none
        | none => none)
      | none => none
    | _ => none
  | .po id ver i => match hget σ.h id with
    | some (.tab t) => bT (Nat.beq t.ver ver && !t.fz && Nat.beq T.size 1 && Nat.blt i t.out.length) (match y with
      | .sw id1 r => bT (Nat.beq id1 id) (match t.row r with
        | some _ => some ([(id, .tab { t with out := t.out.set i r })], [id])
        | none => none)
      | .sr id1 ver1 => match hget σ.h id1 with
        | some (.arr a) => bT (Nat.beq a.ver ver1 && !a.fz && Nat.beq a.el t.rel && Nat.beq a.k t.k && !Nat.beq id1 id) (some ([(id, .tab { t with out := t.out.set i t.rows.length, rows := t.rows ++ [some a.es] }), (id1, .dead)], [id, id1]))
        | _ => none
      | _ => none)
    | _ => none
  | _ => none
def eIdx (W : Tb) (T : Ty) (x ix : PV) (σ : St) : Option (PV × List Nat) := match ix with
  | .d (.v (.int _ z)) => if T.slc then (if 0 ≤ z then match W.t T.elem with
    | some E => match x with
      | .sr id ver => match hget σ.h id with
        | some (.arr a) => bT (Nat.beq a.ver ver && Nat.beq a.k E.size && Nat.blt z.toNat a.es.length) (some (.pr id ver z.toNat 0, [id]))
        | _ => none
      | .st id ver => match hget σ.h id with
        | some (.tab t) => bT (Nat.beq t.ver ver && Nat.beq E.size 1 && Nat.blt z.toNat t.out.length) (some (.po id ver z.toNat, [id]))
        | _ => none
      | .tv id ver o n => match hget σ.h id with
        | some (.tab t) => bT (Nat.beq t.ver ver && Nat.beq E.size 1 && Nat.blt z.toNat n) (some (.po id ver (o + z.toNat), [id]))
        | _ => none
      | .sw id r => match hget σ.h id with
        | some (.tab t) => match t.row r with
          | some es => bT (Nat.beq t.k E.size && Nat.blt z.toNat es.length) (some (.pw id r z.toNat 0, [id]))
          | none => none
        | _ => none
      | .d (.sl es) => match es[z.toNat]? with
        | some e => bT (Nat.beq e.length E.size) (some (.bw e, []))
        | none => none
      | .lt cs => bT (Nat.beq E.size 1 && Nat.blt z.toNat cs.length) (some (.lp (cs.drop z.toNat), []))
      | _ => none
    | none => none else none) else none
  | _ => none
def eApp (W : Tb) (T : Ty) (s x : PV) (nid : Nat) (σ : St) : Option (PV × Heap × List Nat) := match W.t T.elem with
  | some E => bT (T.slc && Nat.blt 0 E.size && Nat.beq E.zero.length E.size) (match s with
    | .nl => match els (hget σ.h) x with
      | some ns => bT (lenAll E.size ns && Nat.ble (ns.length * E.bytes) 140737488355328 && Nat.ble ns.length 9223372036854775807) (some (.sr nid 1, (nid, .arr ⟨T.elem, E.size, 1, false, ns⟩) :: frz (hget σ.h) (fa x), f0 x))
      | none => none
    | .sr id ver => match hget σ.h id with
      | some (.arr a) => match els (hget σ.h) x with
        | some ns => bT (lenAll E.size ns && Nat.beq a.ver ver && Nat.beq a.el T.elem && Nat.beq a.k E.size && Nat.ble ((a.es.length + ns.length) * E.bytes) 140737488355328 && Nat.ble (a.es.length + ns.length) 9223372036854775807 && !memN id (fa x))
            (some (.sr id (ver + 1), (id, .arr { a with es := a.es ++ ns, ver := ver + 1 }) :: frz (hget σ.h) (fa x), id :: f0 x))
        | none => none
      | _ => none
    | .st id ver => match hget σ.h id with
      | some (.tab t) => bT (Nat.beq t.ver ver && !t.fz && Nat.beq t.el T.elem && Nat.beq E.size 1 && Nat.ble ((t.out.length + 1) * E.bytes) 140737488355328 && Nat.ble (t.out.length + 1) 9223372036854775807) (match x with
        | .lt [.sr id1 ver1] => match hget σ.h id1 with
          | some (.arr a) => bT (Nat.beq a.ver ver1 && !a.fz && Nat.beq a.el t.rel && Nat.beq a.k t.k && !Nat.beq id1 id) (some (.st id (ver + 1), [(id, .tab { t with ver := ver + 1, out := t.out ++ [t.rows.length], rows := t.rows ++ [some a.es] }), (id1, .dead)], [id, id1]))
          | _ => none
        | _ => none)
      | _ => none
    | .sw id r => match hget σ.h id with
      | some (.tab t) => match els (hget σ.h) x with
        | some ns => match t.row r with
          | some es => bT (lenAll E.size ns && !t.fz && Nat.beq t.rel T.elem && Nat.beq t.k E.size && Nat.ble ((es.length + ns.length) * E.bytes) 140737488355328 && Nat.ble (es.length + ns.length) 9223372036854775807 && (f0 x).isEmpty) (some (.sr nid 1, [(nid, .arr ⟨t.rel, t.k, 1, false, es ++ ns⟩), (id, .tab { t with rows := t.rows.set r none })], [id]))
          | none => none
        | none => none
      | _ => none
    | _ => none)
  | none => none
def eCopy (W : Tb) (T : Ty) (d x : PV) (σ : St) : Option (PV × Heap × List Nat) := match W.t T.elem with
  | some E => bT (T.slc && Nat.beq E.size 1) (match d with
    | .sr id ver => match hget σ.h id with
      | some (.arr a) => match els (hget σ.h) x with
        | some ns => bT (lenAll E.size ns && Nat.beq a.ver ver && !a.fz && Nat.beq a.k 1 && !memN id (fa x)) (some (intP .i64 (min ns.length a.es.length : Nat), (id, .arr { a with es := ns.take a.es.length ++ a.es.drop ns.length }) :: frz (hget σ.h) (fa x), id :: f0 x))
        | none => none
      | _ => none
    | _ => none)
  | none => none
def q3 (x : Option (PV × List Nat)) : Option (PV × Heap × List Nat) := match x with
  | some (p, r) => some (p, [], r)
  | none => none
abbrev CPt := FuncId → List PV → Option R
abbrev CHt := FuncId → List PV → Heap → Nat → Option (PV × Heap)

mutual
def refsOf : PV → List Nat
  | .sr id _ => [id]
  | .pr id _ _ _ => [id]
  | .st id _ => [id]
  | .tv id _ _ _ => [id]
  | .po id _ _ => [id]
  | .sw id _ => [id]
  | .pw id _ _ _ => [id]
  | .lt cs => refsOfs cs
  | .lp cs => refsOfs cs
  | .agg cs => refsOfs cs
  | .tup cs => refsOfs cs
  | .fn _ cs => refsOfs cs
  | .any => []
  | .d _ => []
  | .nl => []
  | .yd => []
  | .bw _ => []
def refsOfs : List PV → List Nat
  | [] => []
  | p :: l => refsOf p ++ refsOfs l
end
/-- the objects that are reached -/
def reach (h : Heap) : Nat → List Nat → Heap → Heap
  | 0, _, acc => acc
  | _, [], acc => acc
  | f + 1, id :: l, acc => if (hget acc id).isSome then reach h f l acc else match hget h id with
    | some (.box cs) => reach h f (refsOfs cs ++ l) ((id, .box cs) :: acc)
    | some ob => reach h f l ((id, ob) :: acc)
    | none => reach h f l acc
def cLen (W : Tb) (c : Call) (σ : St) : Option (PV × Heap × List Nat) := match c.args.toList, c.argTypes.toList with
    | [x], [t] => match W.t t, lenOf (hget σ.h) (ev σ.t x) with
      | some T, some n => bT T.slc (some (intP .i64 n, [], fz (ev σ.t x)))
      | _, _ => none
    | _, _ => none
def cApp (W : Tb) (c : Call) (nid : Nat) (σ : St) : Option (PV × Heap × List Nat) := match c.args.toList, c.argTypes.toList with
    | [s, x], [t, t'] => match W.t t with
      | some T => bT (Nat.beq t' t) (eApp W T (ev σ.t s) (ev σ.t x) nid σ)
      | none => none
    | _, _ => none
def cMax (c : Call) (σ : St) : Option (PV × Heap × List Nat) := match maxL (c.args.toList.map (ev σ.t)) with
    | some m => some (intP m.1 m.2, [], [])
    | none => none
def cCopy (W : Tb) (c : Call) (σ : St) : Option (PV × Heap × List Nat) := match c.args.toList, c.argTypes.toList with
    | [s, x], [t, _] => match W.t t with
      | some T => eCopy W T (ev σ.t s) (ev σ.t x) σ
      | none => none
    | _, _ => none
def cHeap (CH : CHt) (g : FuncId) (ps : List PV) (nid : Nat) (h : Heap) (hs : Heap) : Option (PV × Heap × List Nat) := match CH g ps hs nid with
        | some (r, h') => some (r, h', hs.map (·.1))
        | none => none
def cPure2 (ps : List PV) (nid : Nat) (hg : Nat → Option Ob) (r : R) : Option (PV × Heap × List Nat) :=
  bT (Nat.ble r.list.length 4) (some ((adopt nid r).1, (adopt nid r).2 ++ (if r.plain then [] else frz hg (g2s hg ps)), r2s ps ++ g2s hg ps))
def cPure (CP : CPt) (g : FuncId) (ps : List PV) (nid : Nat) (σ : St) : Option (PV × Heap × List Nat) := match a2s (hget σ.h) ps with
      | some as => match CP g as with
        | some r => cPure2 ps nid (hget σ.h) r
        | none => none
      | none => none
def eCall (W : Tb) (CP : CPt) (CH : CHt) (c : Call) (nid : Nat) (σ : St) : Option (PV × Heap × List Nat) :=
  match c.callee with
  | .builtin .len => cLen W c σ
  | .builtin .append => cApp W c nid σ
  | .builtin .max => cMax c σ
  | .builtin .copy => cCopy W c σ
  | .builtin _ => none
  | .value f => match ev σ.t f with
    | .fn g caps =>
      if memN g W.hs then cHeap CH g (c.args.toList.map (ev σ.t) ++ caps) nid σ.h (reach σ.h 1000 (refsOfs (c.args.toList.map (ev σ.t) ++ caps)) [])
      else cPure CP g (c.args.toList.map (ev σ.t) ++ caps) nid σ
    | _ => none
  | .invoke _ _ => none
def partsOk (k : Nat) : List PV → Bool
  | [] => true
  | p :: l => Nat.beq (cellsP p).length k && partsOk k l
def rangeIs (i : Nat) : List Nat → Bool
  | [] => true
  | x :: l => Nat.beq x i && rangeIs (i + 1) l
def o_alloc (W : Tb) (t : TypeId) (nid : Nat) (σ : St) : Option (PV × Heap × List Nat) :=
  match W.t t with
    | some T => bT (oneL (T.zero.map zPV)) (some (.pr nid 0 0 0, [(nid, .box (T.zero.map zPV))], []))
    | none => none

def o_build (W : Tb) (t : TypeId) (parts : Array (Nat × Operand)) (nid : Nat) (σ : St) : Option (PV × Heap × List Nat) :=
  match W.t t with
    | some T => bT (!T.arr && T.agg && oneL ((parts.toList.map fun p => ev σ.t p.2).flatMap cellsP)) (match fillP T.flds (parts.toList.map fun p => (p.1, ev σ.t p.2)) (T.zero.map zPV) with
      | some cs => some (.agg cs, [], [])
      | none => none)
    | none => none

def o_buildSlice (W : Tb) (t : TypeId) (len : Nat) (parts : Array (Nat × Operand)) (nid : Nat) (σ : St) : Option (PV × Heap × List Nat) :=
  match W.t t with
    | some T => match W.t T.elem with
      | some E => if litT E && Nat.blt 0 len then
          bT (T.slc && Nat.beq parts.size len && rangeIs 0 (parts.toList.map (·.1)) && Nat.beq E.size 1 && Nat.beq E.zero.length 1 && Nat.ble len 16777216 && oneL (parts.toList.map fun p => ev σ.t p.2)) (some (.lt (parts.toList.map fun p => ev σ.t p.2), [], []))
        else match d0s (hget σ.h) ((parts.toList.map fun p => ev σ.t p.2).flatMap cellsP) with
          | some _ => bT (T.slc && Nat.beq parts.size len && rangeIs 0 (parts.toList.map (·.1)) && Nat.blt 0 E.size && Nat.beq E.zero.length E.size && partsOk E.size (parts.toList.map fun p => ev σ.t p.2) && Nat.ble (len * E.size) 16777216 && oneL ((parts.toList.map fun p => ev σ.t p.2).flatMap cellsP))
            (some (.sr nid 0, (nid, .arr ⟨T.elem, E.size, 0, false, (parts.toList.map fun p => ((d0s (hget σ.h) (cellsP (ev σ.t p.2))).getD []))⟩) :: frz (hget σ.h) (f0s ((parts.toList.map fun p => ev σ.t p.2).flatMap cellsP)),
              f0s ((parts.toList.map fun p => ev σ.t p.2).flatMap cellsP)))
          | none => none
      | none => none
    | none => none

def o_load (W : Tb) (t : TypeId) (x : Operand) (nid : Nat) (σ : St) : Option (PV × Heap × List Nat) :=
  match W.t t with
    | some T => q3 (eLoad T (ev σ.t x) σ)
    | none => none

def o_store (W : Tb) (t : TypeId) (x y : Operand) (nid : Nat) (σ : St) : Option (PV × Heap × List Nat) :=
  match W.t t with
    | some T => match eStore T (ev σ.t x) (ev σ.t y) σ with
      | some (U, r) => some (.any, U, r)
      | none => none
    | none => none

def o_binOp (W : Tb) (op : BinOp) (t : TypeId) (x y : Operand) (nid : Nat) (σ : St) : Option (PV × Heap × List Nat) :=
  (eBin W op t (ev σ.t x) (ev σ.t y)).map fun p => (p, [], [])

def o_unOp (W : Tb) (op : UnOp) (x : Operand) (nid : Nat) (σ : St) : Option (PV × Heap × List Nat) :=
  (eUn op (ev σ.t x)).map fun p => (p, [], [])

def o_nilCheck (W : Tb) (x : Operand) (nid : Nat) (σ : St) : Option (PV × Heap × List Nat) :=
  match ev σ.t x with
    | .pr id ver i off => match hget σ.h id with
      | some (.box _) => some (.pr id ver i off, [], [id])
      | _ => none
    | .bw cs => some (.bw cs, [], [])
    | .lp cs => some (.lp cs, [], [])
    | .fn f cs => some (.fn f cs, [], [])
    | _ => none

def o_index (W : Tb) (t : TypeId) (x i : Operand) (nid : Nat) (σ : St) : Option (PV × Heap × List Nat) :=
  match ev σ.t x, ev σ.t i with
    | .d (.v (.string s)), .d (.v (.int _ z)) => if 0 ≤ z then bT ((W.isS[t]?).getD false) (match s[z.toNat]? with
      | some b => some (intP .u8 b.toNat, [], [])
      | none => none) else none
    | _, _ => none

def o_convert (W : Tb) (s d : TypeId) (x : Operand) (nid : Nat) (σ : St) : Option (PV × Heap × List Nat) :=
  (eConv W s d (ev σ.t x)).map fun p => (p, [], [])

def o_makeSlice (W : Tb) (t : TypeId) (l c : Operand) (nid : Nat) (σ : St) : Option (PV × Heap × List Nat) :=
  match ev σ.t l, ev σ.t c with
    | .d (.v (.int _ n)), .d (.v (.int _ m)) => match W.t t with
      | some T => match W.t T.elem with
        | some E => if 0 ≤ n ∧ n ≤ m ∧ m ≤ 9223372036854775807 ∧ (E.bytes : Int) * m ≤ 140737488355328 then bT (T.slc && Nat.blt 0 E.size && Nat.beq E.zero.length E.size && oneL (E.zero.map zPV)) (some (.sr nid 0, [(nid, .arr ⟨T.elem, E.size, 0, false, List.replicate n.toNat (E.zero.map zD)⟩)], [])) else none
        | none => none
      | none => none
    | _, _ => none

def o_fieldAddr (W : Tb) (t : TypeId) (x : Operand) (f : Nat) (nid : Nat) (σ : St) : Option (PV × Heap × List Nat) :=
  match W.t t with
    | some T => match T.flds[f]? with
      | some fo => if Nat.blt 0 fo.2 then match ev σ.t x with
        | .pr id ver i off => match hget σ.h id with
          | some (.box _) => some (.pr id ver i (off + fo.1), [], [id])
          | some (.arr a) => bT (Nat.beq a.ver ver && Nat.blt i a.es.length) (some (.pr id ver i (off + fo.1), [], [id]))
          | _ => none
        | .pw id r i off => match hget σ.h id with
          | some (.tab t) => match t.row r with
            | some es => bT (Nat.blt i es.length) (some (.pw id r i (off + fo.1), [], [id]))
            | none => none
          | _ => none
        | .bw cs => some (.bw (cs.drop fo.1), [], [])
        | _ => none else none
      | none => none
    | none => none

def o_indexAddr (W : Tb) (t : TypeId) (x ix : Operand) (nid : Nat) (σ : St) : Option (PV × Heap × List Nat) :=
  match W.t t with
    | some T => q3 (eIdx W T (ev σ.t x) (ev σ.t ix) σ)
    | none => none

def o_slice (W : Tb) (t : TypeId) (x : Operand) (lo hi mx : Option Operand) (nid : Nat) (σ : St) : Option (PV × Heap × List Nat) :=
  match W.t t, lenOf (hget σ.h) (ev σ.t x) with
    | some T, some n => match bound 0 (lo.map (ev σ.t)), bound n (hi.map (ev σ.t)) with
      | some l, some h => match bound h (mx.map (ev σ.t)), W.t T.elem with
        | some m, some E => if 0 ≤ l ∧ l ≤ h ∧ h ≤ m ∧ m ≤ n then bT (T.slc && (!mx.isSome || hi.isSome)) (match ev σ.t x with
          | .st id ver => bT (Nat.beq E.size 1) (some (.tv id ver l.toNat (h.toNat - l.toNat), [], [id]))
          | p => match els (hget σ.h) p with
            | some es => bT (lenAll E.size es) (some (.d (.sl ((es.drop l.toNat).take (h.toNat - l.toNat))), frz (hget σ.h) (f0 p), f0 p))
            | none => none) else none
        | _, _ => none
      | _, _ => none
    | _, _ => none

def eOp (W : Tb) (CP : CPt) (CH : CHt) (o : Oper) (nid : Nat) (σ : St) : Option (PV × Heap × List Nat) :=
  match o.op with
  | .move x | .assign x => some (ev σ.t x, [], [])
  | .pick c a b => match ev σ.t c with
    | .d (.v (.bool c)) => some (if c then ev σ.t a else ev σ.t b, [], [])
    | _ => none
  | .extract x i => match ev σ.t x with
    | .tup vs => bT (Nat.blt i vs.length) (some (vs.getD i .any, [], []))
    | _ => none
  | .alloc t => o_alloc W t nid σ
  | .box _ x => bT (oneL (cellsP (ev σ.t x))) (some (.pr nid 0 0 0, [(nid, .box (cellsP (ev σ.t x)))], []))
  | .build t parts => o_build W t parts nid σ
  | .buildSlice t len parts => o_buildSlice W t len parts nid σ
  | .load t x => o_load W t x nid σ
  | .store t x y => o_store W t x y nid σ
  | .binOp op t x y _ => o_binOp W op t x y nid σ
  | .unOp op _ x => o_unOp W op x nid σ
  | .nilCheck x => o_nilCheck W x nid σ
  | .index t x i => o_index W t x i nid σ
  | .convert s d x => o_convert W s d x nid σ
  | .makeFunc (.func f) first caps => bT (Nat.beq first.size 0) (some (.fn f (caps.toList.map (ev σ.t)), [], []))
  | .makeSlice t l c => o_makeSlice W t l c nid σ
  | .fieldAddr t x f => o_fieldAddr W t x f nid σ
  | .indexAddr t x ix => o_indexAddr W t x ix nid σ
  | .slice t x lo hi mx => o_slice W t x lo hi mx nid σ
  | .call c => eCall W CP CH c nid σ
  | _ => none




/-! ### tables of calls -/
def eqN : List Nat → List Nat → Bool
  | [], [] => true
  | x :: l, y :: k => Nat.beq x y && eqN l k
  | _, _ => false
def eqI (x y : Int) : Bool := match x, y with
  | .ofNat a, .ofNat b => Nat.beq a b
  | .negSucc a, .negSucc b => Nat.beq a b
  | _, _ => false
def eqK (x y : IntKind) : Bool := match x, y with
  | .i64, .i64 => true
  | .u32, .u32 => true
  | .u64, .u64 => true
  | .u8, .u8 => true
  | _, _ => false
def eqV (x y : Value) : Bool := match x, y with
  | .int k a, .int k' b => eqK k k' && eqI a b
  | .bool a, .bool b => a == b
  | .nilFunc, .nilFunc => true
  | _, _ => false
mutual
def eqD (x y : D) : Bool := match x with
  | .v a => (match y with
    | .v b => eqV a b
    | _ => false)
  | .sl es => (match y with
    | .sl fs => eqDss es fs
    | _ => false)
  | .agg cs => (match y with
    | .agg ds => eqDs cs ds
    | _ => false)
termination_by structural x
def eqDs (x y : List D) : Bool := match x with
  | [] => (match y with
    | [] => true
    | _ => false)
  | a :: l => (match y with
    | b :: k => eqD a b && eqDs l k
    | _ => false)
termination_by structural x
def eqDss (x y : List (List D)) : Bool := match x with
  | [] => (match y with
    | [] => true
    | _ => false)
  | a :: l => (match y with
    | b :: k => eqDs a b && eqDss l k
    | _ => false)
termination_by structural x
end
mutual
def eqP (x y : PV) : Bool := match x with
  | .any => (match y with | .any => true | _ => false)
  | .nl => (match y with | .nl => true | _ => false)
  | .yd => (match y with | .yd => true | _ => false)
  | .d a => (match y with | .d b => eqD a b | _ => false)
  | .bw a => (match y with | .bw b => eqDs a b | _ => false)
  | .sr a b => (match y with | .sr a' b' => Nat.beq a a' && Nat.beq b b' | _ => false)
  | .pr a b c d => (match y with | .pr a' b' c' d' => Nat.beq a a' && Nat.beq b b' && Nat.beq c c' && Nat.beq d d' | _ => false)
  | .st a b => (match y with | .st a' b' => Nat.beq a a' && Nat.beq b b' | _ => false)
  | .tv a b c d => (match y with | .tv a' b' c' d' => Nat.beq a a' && Nat.beq b b' && Nat.beq c c' && Nat.beq d d' | _ => false)
  | .po a b c => (match y with | .po a' b' c' => Nat.beq a a' && Nat.beq b b' && Nat.beq c c' | _ => false)
  | .sw a b => (match y with | .sw a' b' => Nat.beq a a' && Nat.beq b b' | _ => false)
  | .pw a b c d => (match y with | .pw a' b' c' d' => Nat.beq a a' && Nat.beq b b' && Nat.beq c c' && Nat.beq d d' | _ => false)
  | .lt a => (match y with | .lt b => eqPs a b | _ => false)
  | .lp a => (match y with | .lp b => eqPs a b | _ => false)
  | .agg a => (match y with | .agg b => eqPs a b | _ => false)
  | .tup a => (match y with | .tup b => eqPs a b | _ => false)
  | .fn f a => (match y with | .fn g b => Nat.beq f g && eqPs a b | _ => false)
termination_by structural x
def eqPs (x y : List PV) : Bool := match x with
  | [] => (match y with
    | [] => true
    | _ => false)
  | a :: l => (match y with
    | b :: k => eqP a b && eqPs l k
    | _ => false)
termination_by structural x
end
def eqRows (x y : List (Option (List (List D)))) : Bool := match x with
  | [] => (match y with
    | [] => true
    | _ => false)
  | a :: l => (match y with
    | b :: k => (match a, b with
      | none, none => true
      | some a, some b => eqDss a b
      | _, _ => false) && eqRows l k
    | _ => false)
def eqO (x y : Ob) : Bool := match x, y with
  | .box a, .box b => eqPs a b
  | .arr a, .arr b => Nat.beq a.el b.el && Nat.beq a.k b.k && Nat.beq a.ver b.ver && (a.fz == b.fz) && eqDss a.es b.es
  | .tab a, .tab b => Nat.beq a.el b.el && Nat.beq a.rel b.rel && Nat.beq a.k b.k && Nat.beq a.ver b.ver && (a.fz == b.fz) && eqN a.out b.out && eqRows a.rows b.rows
  | .dead, .dead => true
  | _, _ => false
def eqH : Heap → Heap → Bool
  | [], [] => true
  | (u, x) :: l, (v, y) :: k => Nat.beq u v && eqO x y && eqH l k
  | _, _ => false
def tabP : List (FuncId × List PV × R) → CPt
  | [], _, _ => none
  | (g', as', r) :: l, g, as => if Nat.beq g g' && eqPs as as' then some r else tabP l g as
def tabH : List (FuncId × List PV × Heap × Nat × PV × Heap) → CHt
  | [], _, _, _, _ => none
  | (g', ps', hs', n', r, h') :: l, g, ps, hs, n => if Nat.beq g g' && Nat.beq n n' && eqPs ps ps' && eqH hs hs' then some (r, h') else tabH l g ps hs n

/-! ### code -/
def eGuard (ops : Array Oper) (g : Option (Nat × Bool)) (t : Slots) : Option Bool := match g with
  | none => some true
  | some (j, want) => match (ops[j]?).bind (·.dst) with
    | some d => match get t d with
      | .d (.v (.bool c)) => some (c == want)
      | .d (.v (.tuple _)) => some false
      | _ => none
    | none => none
abbrev Yt := List PV → St → Option (St × Bool)
def noYt : Yt := fun _ _ => none
def dstB (m : Nat) : Option Tmp → Bool
  | some d => Nat.blt d m
  | none => true
def eOps (W : Tb) (CP : CPt) (CH : CHt) (Y : Yt) (ops : Array Oper) : List Oper → Nat → Log → St → Option (St × Log)
  | [], _, log, σ => some (σ, log)
  | o :: os, i, log, σ => if dstB σ.m o.dst then match eGuard ops o.guard σ.t with
    | some true => match yieldOf o σ with
      | some as => match Y as ⟨σ.m, σ.t, σ.h, σ.n + 4 * i⟩ with
        | some (τ, b) => eOps W CP CH Y ops os (i + 1) (log ++ [([], [])]) (stepS τ o.dst (boolP b) [])
        | none => none
      | none => match eOp W CP CH o (σ.n + 4 * i) σ with
        | some (r, U, rd) => fQ r fun r => eOps W CP CH Y ops os (i + 1) (log ++ [(rd, U.map (·.1))]) (stepS σ o.dst r U)
        | none => none
    | some false => eOps W CP CH Y ops os (i + 1) (log ++ [([], [])]) (stepS σ o.dst (.d (.v undef)) [])
    | none => none else none
def cmpT (seen : Nat) : Slots → Slots
  | [] => []
  | (u, p) :: l => if seen.testBit u then cmpT seen l else (u, p) :: cmpT (seen ||| 2 ^ u) l
def cmpH (seen : Nat) : Heap → Heap
  | [] => []
  | (u, p) :: l => if seen.testBit u then cmpH seen l else (u, p) :: cmpH (seen ||| 2 ^ u) l
def cmpS (σ : St) : St := ⟨σ.m, cmpT 0 σ.t, cmpH 0 σ.h, σ.n⟩
/-- a nil in a box becomes an own empty table: functions of m slots; the box's slot, its cell, the table's types -/
def gst1 (x : Nat × Nat × Nat × Nat × Nat × Nat) (σ : St) : St := match x with
  | (m, u, j, el, rel, k) => if Nat.beq σ.m m && Nat.blt 0 k then match get σ.t u with
    | .pr id _ _ _ => match hget σ.h id with
      | some (.box cs) => match cs[j]? with
        | some .nl => ⟨σ.m, σ.t, (id, .box (cs.set j (.st σ.n 0))) :: (σ.n, .tab ⟨el, rel, k, 0, false, [], []⟩) :: σ.h, σ.n + 1⟩
        | _ => σ
      | _ => σ
    | _ => σ else σ
def gst : List (Nat × Nat × Nat × Nat × Nat × Nat) → St → St
  | [], σ => σ
  | x :: l, σ => gst l (gst1 x σ)
abbrev Ct := Bool → Yt → Code → St → Option (Exit × St)
def kReg (W : Tb) (CP : CPt) (CH : CHt) (Y : Yt) (ops : Array Oper) (d : Bool) (σ : St) : Option (Exit × St) :=
  match eOps W CP CH (if d then noYt else Y) ops ops.toList 0 [] σ with
  | some (τ, log) => if !d || raceOk ops log then some (.normal, bump τ ops.size) else none
  | none => none
def kSeq (C : Ct) (rd : Bool) (Y : Yt) (y : Code) (r : Option (Exit × St)) : Option (Exit × St) := match r with
  | some (.normal, τ) => C rd Y y τ
  | r => r
def kLoop (C : Ct) (rd : Bool) (Y : Yt) (y : Code) (r : Option (Exit × St)) : Option (Exit × St) := match r with
  | some (.normal, τ) => C rd Y (.loop y) (cmpS τ)
  | r => r
def kCond (C : Ct) (rd : Bool) (Y : Yt) (c : PV) (x y : Code) (σ : St) : Option (Exit × St) := match c with
  | .d (.v (.bool true)) => C rd Y x σ
  | .d (.v (.bool false)) => C rd Y y σ
  | _ => none
def kBlock (id : Nat) (r : Option (Exit × St)) : Option (Exit × St) := match r with
  | some (.exit i, τ) => if i = id then some (.normal, τ) else some (.exit i, τ)
  | r => r
def kScope (r : Option (Exit × St)) : Option (Exit × St) := match r with
  | some (.goto _, _) => none
  | r => r
def kRound (C : Ct) (σ : St) (ps : Array Tmp) (asg body : Code) : Yt := fun as τ => match C true noYt asg ⟨σ.m, zipS ps.toList as σ.t, τ.h, τ.n⟩ with
  | some (.normal, ρ) => match C true noYt body ρ with
    | some (.normal, ρ) => some (⟨τ.m, τ.t, ρ.h, ρ.n⟩, true)
    | _ => none
  | _ => none
mutual
def noYdB : PV → Bool
  | .yd => false
  | .lt cs => noYsB cs
  | .lp cs => noYsB cs
  | .agg cs => noYsB cs
  | .tup cs => noYsB cs
  | .fn _ cs => noYsB cs
  | .any => true
  | .d _ => true
  | .nl => true
  | .bw _ => true
  | .sr _ _ => true
  | .pr _ _ _ _ => true
  | .st _ _ => true
  | .tv _ _ _ _ => true
  | .po _ _ _ => true
  | .sw _ _ => true
  | .pw _ _ _ _ => true
def noYsB : List PV → Bool
  | [] => true
  | p :: l => noYdB p && noYsB l
end
def noYTB : Slots → Bool
  | [] => true
  | (_, p) :: l => noYdB p && noYTB l
def noYHB : Heap → Bool
  | [] => true
  | (_, .box cs) :: l => noYsB cs && noYHB l
  | (_, _) :: l => noYHB l
def allLtB (m : Nat) : List Tmp → Bool
  | [] => true
  | p :: ps => Nat.blt p m && allLtB m ps
def yNum (Y : Yt) (ps : Array Tmp) : Yt := fun as τ => if Nat.beq as.length ps.size then Y as τ else none
def kItEnd (σ : St) (r : Option (Exit × St)) : Option (Exit × St) := match r with
  | some (.normal, τ) => if noYHB τ.h then some (.normal, ⟨σ.m, σ.t, τ.h, τ.n⟩) else none
  | some (.ret, τ) => if noYHB τ.h then some (.normal, ⟨σ.m, σ.t, τ.h, τ.n⟩) else none
  | _ => none
def kRange (P : Program) (C : Ct) (σ : St) (g : PV) (ps : Array Tmp) (asg body : Code) : Option (Exit × St) := match g with
  | .fn gf caps => match P.funcs[gf]? with
    | some fn => match fn.body with
      | some c => if (!(fn.name == "runtime.NumGoroutine")) && Nat.beq fn.results.size 0 && Nat.ble (caps.length + 1) fn.ntmps && noYTB σ.t && noYHB σ.h && allLtB σ.m ps.toList then
          kItEnd σ (C true (yNum (kRound C σ ps asg body) ps) c ⟨fn.ntmps, argSlots 0 (.yd :: caps), σ.h, σ.n⟩)
        else none
      | none => none
    | none => none
  | _ => none
def kCode (P : Program) (W : Tb) (CP : CPt) (CH : CHt) (C : Ct) (rd : Bool) (Y : Yt) (c : Code) (σ : St) : Option (Exit × St) := match c with
  | .skip => some (.normal, σ)
  | .region _ ops d => kReg W CP CH Y ops d σ
  | .seq x y => kSeq C rd Y y (C rd Y x σ)
  | .cond c x y => kCond C rd Y (ev σ.t c) x y σ
  | .block id b => kBlock id (C rd Y b σ)
  | .loop b => kLoop C rd Y b (C rd Y b (gst W.gh σ))
  | .exit id => some (.exit id, σ)
  | .scope b => kScope (C rd Y b σ)
  | .label _ => some (.normal, σ)
  | .ret => some (.ret, σ)
  | .rangeFunc g ps asg body => if rd then none else kRange P C σ (ev σ.t g) ps asg body
  | _ => none
def evC (P : Program) (W : Tb) (CP : CPt) (CH : CHt) (f : Nat) : Ct := Nat.rec (fun _ _ _ _ => none) (fun _ C => kCode P W CP CH C) f

/-! ### calls -/
def eRet1 (hg : Nat → Option Ob) (p : PV) : Option R1 := match p with
  | .sr id ver => match hg id with
    | some (.arr a) => if Nat.beq a.ver ver && !a.fz then some (.so a.el a.k a.es) else (d1 hg p).map .d
    | _ => none
  | p => (d1 hg p).map .d
def eRets (hg : Nat → Option Ob) : List PV → Option (List R1)
  | [] => some []
  | p :: l => match eRet1 hg p, eRets hg l with
    | some r, some rs => some (r :: rs)
    | _, _ => none
def apartB : List Nat → List Nat → Bool
  | [], _ => true
  | i :: l, fr => !memN i l && !memN i fr && apartB l fr
def kRet (P : Program) (fn : Func) (τ : St) : Option R := match retPVs P τ.t (hget τ.h) fn.results.toList with
  | some ps => match eRets (hget τ.h) ps with
    | some rs => if apartB (ownIds ps rs) (frIds ps rs) then (match rs with
      | [r] => some (.one r)
      | rs => some (.tup rs)) else none
    | none => none
  | none => none
def kCall (P : Program) (W : Tb) (CP : CPt) (CH : CHt) (f : Nat) (g : FuncId) (as : List PV) : Option R := match P.funcs[g]? with
  | some fn => match fn.body with
    | some c => if (!(fn.name == "runtime.NumGoroutine")) && Nat.ble as.length fn.ntmps then (match evC P W CP CH f false noYt c ⟨fn.ntmps, argSlots 0 as, [], 0⟩ with
      | some (.ret, τ) => kRet P fn τ
      | some (.normal, τ) => kRet P fn τ
      | _ => none) else none
    | none => none
  | none => none
mutual
def refsInB (S : List Nat) : PV → Bool
  | .sr id _ => memN id S
  | .pr id _ _ _ => memN id S
  | .st id _ => memN id S
  | .tv id _ _ _ => memN id S
  | .po id _ _ => memN id S
  | .sw id _ => memN id S
  | .pw id _ _ _ => memN id S
  | .lt cs => refsInsB S cs
  | .lp cs => refsInsB S cs
  | .agg cs => refsInsB S cs
  | .tup cs => refsInsB S cs
  | .fn _ cs => refsInsB S cs
  | .any => true
  | .d _ => true
  | .nl => true
  | .yd => false
  | .bw _ => false
def refsInsB (S : List Nat) : List PV → Bool
  | [] => true
  | p :: l => refsInB S p && refsInsB S l
end
def clHB (S : List Nat) (h : Heap) : List Nat → Bool
  | [] => true
  | id :: l => (match hget h id with
    | some (.box cs) => refsInsB S cs
    | _ => true) && clHB S h l
mutual
def refsLtB (n : Nat) : PV → Bool
  | .sr id _ => Nat.blt id n
  | .pr id _ _ _ => Nat.blt id n
  | .st id _ => Nat.blt id n
  | .tv id _ _ _ => Nat.blt id n
  | .po id _ _ => Nat.blt id n
  | .sw id _ => Nat.blt id n
  | .pw id _ _ _ => Nat.blt id n
  | .lt cs => refsLtsB n cs
  | .lp cs => refsLtsB n cs
  | .agg cs => refsLtsB n cs
  | .tup cs => refsLtsB n cs
  | .fn _ cs => refsLtsB n cs
  | .any => true
  | .d _ => true
  | .nl => true
  | .yd => true
  | .bw _ => true
def refsLtsB (n : Nat) : List PV → Bool
  | [] => true
  | p :: l => refsLtB n p && refsLtsB n l
end
def heapLtB (n : Nat) : Heap → Bool
  | [] => true
  | (id, .box cs) :: l => Nat.blt id n && refsLtsB n cs && heapLtB n l
  | (id, _) :: l => Nat.blt id n && heapLtB n l
def newIds (nid : Nat) : Heap → List Nat
  | [] => []
  | (id, _) :: l => if Nat.ble nid id then id :: newIds nid l else newIds nid l
def kRetH2 (hs : Heap) (nid : Nat) (τ : St) (q : PV) (L : List Nat) : Option (PV × Heap) := match outs τ.h (gam nid L) (hs.map (·.1) ++ L) with
  | some o => if Nat.ble L.length 4 && refsInB (hs.map (·.1) ++ L) q && clHB (hs.map (·.1) ++ L) τ.h (hs.map (·.1) ++ L) then some (ren (gam nid L) q, o) else none
  | none => none
def kRetH (P : Program) (fn : Func) (hs : Heap) (nid : Nat) (τ : St) : Option (PV × Heap) := match retPVs P τ.t (hget τ.h) fn.results.toList with
  | some ps => kRetH2 hs nid τ (retOf ps) (newIds nid (reach τ.h 1000 (refsOfs ps ++ hs.map (·.1)) []))
  | none => none
def kCallH (P : Program) (W : Tb) (CP : CPt) (CH : CHt) (f : Nat) (g : FuncId) (ps : List PV) (hs : Heap) (nid : Nat) : Option (PV × Heap) := match P.funcs[g]? with
  | some fn => match fn.body with
    | some c => if (!(fn.name == "runtime.NumGoroutine")) && Nat.ble ps.length fn.ntmps && heapLtB nid hs && refsLtsB nid ps then (match evC P W CP CH f false noYt c ⟨fn.ntmps, argSlots 0 ps, hs, nid⟩ with
      | some (.ret, τ) => kRetH P fn hs nid τ
      | some (.normal, τ) => kRetH P fn hs nid τ
      | _ => none) else none
    | none => none
  | none => none
end Go.Pm
