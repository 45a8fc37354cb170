/-
  How Go's data read in a world: a datum for each value, by the type's shape; what is read stays read where memory is kept.
-/
import Derived.WalkKit
import Derived.WalkSpells
import Derived.Lib.Hide
import Derived.Laws.CopyOwn
import Derived.WalkSmall
import Derived.Test.YtbhenelehhiakaaGreatSum1
set_option linter.unusedVariables false
set_option linter.unusedSimpArgs false
namespace Go.Proofs.YtbhenelehhiakaaGreat
open Go.RowKit

/-- the cell o of block b, from block B on, holds v, and may be written -/
structure Cel (B : Nat) (w : World) (b o : Nat) (v : Value) : Prop where
  ge : B ≤ b
  cell : w.cell? ⟨b, o, none⟩ = some v
  free : w.frozen? ⟨b, o, none⟩ = false

/-- every cell from block B on is there, as it was -/
def Kept (B : Nat) (w w' : World) : Prop := ∀ b o v, Cel B w b o v → Cel B w' b o v

theorem Kept.refl (B : Nat) (w : World) : Kept B w w := fun _ _ _ h => h
theorem Kept.trans {B : Nat} {a b c : World} (h : Kept B a b) (k : Kept B b c) : Kept B a c := fun x o v hx => k x o v (h x o v hx)
theorem Kept.mono {B B' : Nat} {a b : World} (h : Kept B a b) (hB : B ≤ B') : Kept B' a b := fun x o v hx => by
  obtain ⟨h1, h2, h3⟩ := h x o v ⟨Nat.le_trans hB hx.ge, hx.cell, hx.free⟩
  exact ⟨hx.ge, h2, h3⟩

/-- how a value of some type (its cells) reads as a datum -/
structure Rd (α : Type) where
  size : Nat
  ok : Nat → World → List Value → α → Prop
  len : ∀ {B w cs x}, ok B w cs x → cs.length = size
  mono : ∀ {B B' w w' cs x}, ok B w cs x → B' ≤ B → Kept B w w' → ok B' w' cs x

/-- a slice that starts at a, with n elements and room for c, reads as the list xs -/
structure Sl {α : Type} (r : Rd α) (B : Nat) (w : World) (a : Option Addr) (n c : Nat) (xs : List α) : Prop where
  len : xs.length = n
  cap : n ≤ c
  most : c ≤ 9223372036854775807
  nil : a = none → c = 0
  at_ : ∀ i (h : i < xs.length), ∃ b o cs, a = some ⟨b, o, none⟩ ∧ r.ok B w cs xs[i] ∧ ∀ j (hj : j < cs.length), Cel B w b (o + i * r.size + j) cs[j]

theorem Sl.mono {α : Type} {r : Rd α} {B B' : Nat} {w w' : World} {a : Option Addr} {n c : Nat} {xs : List α} (h : Sl r B w a n c xs) (hB : B' ≤ B) (hk : Kept B w w') : Sl r B' w' a n c xs :=
  ⟨h.len, h.cap, h.most, h.nil, fun i hi => by
    obtain ⟨b, o, cs, ha, hr, hc⟩ := h.at_ i hi
    refine ⟨b, o, cs, ha, r.mono hr hB hk, fun j hj => ?_⟩
    obtain ⟨h1, h2, h3⟩ := hk _ _ _ (hc j hj)
    exact ⟨Nat.le_trans hB h1, h2, h3⟩⟩

def Rd.u32 : Rd Nat where
  size := 1
  ok _ _ cs x := cs = [.int .u32 x] ∧ x < 4294967296
  len h := by rw [h.1]; rfl
  mono h _ _ := h

def Rd.int : Rd Int where
  size := 1
  ok _ _ cs x := cs = [.int .i64 x]
  len h := by rw [h]; rfl
  mono h _ _ := h

def Rd.bool : Rd Bool where
  size := 1
  ok _ _ cs x := cs = [.bool x]
  len h := by rw [h]; rfl
  mono h _ _ := h

def Rd.slice {α : Type} (r : Rd α) : Rd (List α) where
  size := 1
  ok B w cs xs := ∃ a n c, cs = [.slice a n c] ∧ Sl r B w a n c xs
  len h := by obtain ⟨a, n, c, h, _⟩ := h; rw [h]; rfl
  mono h hB hk := by
    obtain ⟨a, n, c, h, hs⟩ := h
    exact ⟨a, n, c, h, hs.mono hB hk⟩

def Rd.pair {α β : Type} (r : Rd α) (s : Rd β) : Rd (α × β) where
  size := r.size + s.size
  ok B w cs x := ∃ c1 c2, cs = c1 ++ c2 ∧ r.ok B w c1 x.1 ∧ s.ok B w c2 x.2
  len h := by obtain ⟨c1, c2, h, h1, h2⟩ := h; rw [h, List.length_append, r.len h1, s.len h2]
  mono h hB hk := by
    obtain ⟨c1, c2, h, h1, h2⟩ := h
    exact ⟨c1, c2, h, r.mono h1 hB hk, s.mono h2 hB hk⟩

abbrev Nt := List Nat
abbrev It := Bool × Nt
def rNat : Rd Nt := Rd.u32.slice
def rInt : Rd It := Rd.bool.pair rNat
def rInts : Rd (List It) := rInt.slice
/-! ### what new memory keeps -/

theorem cel_lt {B : Nat} {w : World} {b o : Nat} {v : Value} (h : Cel B w b o v) : b < w.heap.size := by
  have := h.cell
  unfold World.cell? at this
  cases e : w.heap[b]? with
  | none => simp [e] at this
  | some x => exact (Array.getElem?_eq_some_iff.1 e).1

theorem kept_of_below {B n : Nat} {w w' : World} (h : Below n w w') (hn : w.heap.size ≤ n) : Kept B w w' := fun b o v hc => by
  have hb : b < n := Nat.lt_of_lt_of_le (cel_lt hc) hn
  exact ⟨hc.ge, (h.cell (p := ⟨b, o, none⟩) hb).trans hc.cell, (h.frozen (p := ⟨b, o, none⟩) hb).trans hc.free⟩

/-- what a call that makes new memory alone leaves -/
abbrev Ext (w w' : World) : Prop := Below w.heap.size w w'

theorem Ext.kept {B : Nat} {w w' : World} (h : Ext w w') : Kept B w w' := kept_of_below h (Nat.le_refl _)
theorem Ext.trans {a b c : World} (h : Ext a b) (k : Ext b c) : Ext a c := Below.trans h (k.mono h.size)
theorem Ext.refl (w : World) : Ext w w := Below.refl _ _

theorem Sl.ext {α : Type} {r : Rd α} {B B' : Nat} {w w' : World} {a : Option Addr} {n c : Nat} {xs : List α} (h : Sl r B w a n c xs) (hB : B' ≤ B) (hk : Ext w w') : Sl r B' w' a n c xs := h.mono hB hk.kept

/-! ### natural numbers -/
abbrev NatS (B : Nat) (w : World) (a : Option Addr) (n c : Nat) (l : Nt) : Prop := Sl Rd.u32 B w a n c l

theorem NatS.small {B : Nat} {w : World} {a : Option Addr} {n c : Nat} {l : Nt} (h : NatS B w a n c l) : Small l := fun x hx => by
  obtain ⟨i, hi, rfl⟩ := List.getElem_of_mem hx
  obtain ⟨b, o, cs, _, hr, _⟩ := h.at_ i hi
  exact hr.2

theorem NatS.pos {B : Nat} {w : World} {a : Option Addr} {n c : Nat} {l : Nt} (h : NatS B w a n c l) (hn : 0 < n) : ∃ b o, a = some ⟨b, o, none⟩ ∧ B ≤ b ∧ b < w.heap.size ∧
    (∀ i, i < n → w.cell? ⟨b, o + i, none⟩ = some (.int .u32 ((l[i]?.getD 0 : Nat) : Int))) ∧ ∀ i, i < n → w.frozen? ⟨b, o + i, none⟩ = false := by
  obtain ⟨b, o, cs, ha, hr, hc⟩ := h.at_ 0 (by rw [h.len]; exact hn)
  have key : ∀ i, i < n → Cel B w b (o + i) (.int .u32 ((l[i]?.getD 0 : Nat) : Int)) := fun i hi => by
    obtain ⟨b', o', cs', ha', hr', hc'⟩ := h.at_ i (by rw [h.len]; exact hi)
    rw [ha] at ha'
    cases ha'
    obtain ⟨rfl, _⟩ := hr'
    have := hc' 0 (by simp)
    simpa [Rd.u32, List.getElem?_eq_getElem (show i < l.length by rw [h.len]; exact hi)] using this
  exact ⟨b, o, ha, (key 0 hn).ge, cel_lt (key 0 hn), fun i hi => (key i hi).cell, fun i hi => (key i hi).free⟩

theorem natS_mk {B : Nat} {w : World} {b o n c : Nat} {l : Nt} (hl : l.length = n) (hc : n ≤ c) (hm : c ≤ 9223372036854775807) (hs : Small l) (hB : B ≤ b)
    (h : ∀ i, i < n → w.cell? ⟨b, o + i, none⟩ = some (.int .u32 ((l[i]?.getD 0 : Nat) : Int))) (hf : ∀ i, i < n → w.frozen? ⟨b, o + i, none⟩ = false) : NatS B w (some ⟨b, o, none⟩) n c l :=
  ⟨hl, hc, hm, fun e => by (cases e), fun i hi => ⟨b, o, [.int .u32 (l[i] : Nat)], rfl, ⟨rfl, hs _ (List.getElem_mem hi)⟩, fun j hj => by
    obtain rfl : j = 0 := by simp at hj; omega
    have h1 := h i (by omega)
    rw [List.getElem?_eq_getElem hi] at h1
    exact ⟨hB, by simpa [Rd.u32] using h1, by simpa [Rd.u32] using hf i (by omega)⟩⟩⟩

theorem natS_nil (B : Nat) (w : World) : NatS B w none 0 0 [] := ⟨rfl, Nat.le_refl _, by omega, fun _ => rfl, fun i hi => absurd hi (by simp)⟩

/-- a part from the front -/
theorem Sl.take {α : Type} {r : Rd α} {B : Nat} {w : World} {a : Option Addr} {n c : Nat} {l : List α} (h : Sl r B w a n c l) {k : Nat} (hk : k ≤ n) : Sl r B w a k c (l.take k) :=
  ⟨by rw [List.length_take, h.len]; omega, Nat.le_trans hk h.cap, h.most, h.nil, fun i hi => by
    have hi' : i < l.length := by rw [List.length_take] at hi; omega
    obtain ⟨b, o, cs, ha, hr, hc⟩ := h.at_ i hi'
    exact ⟨b, o, cs, ha, by rw [List.getElem_take]; exact hr, hc⟩⟩

/-- the length of a slice in a slot: for a loop's measure -/
def lenOf : Value → Nat | .slice _ k _ => k | _ => 0

/-- what a call that answers a natural number leaves -/
def RNat (w : World) (x : Nat) (e : Ending) (w' : World) : Prop := ∃ a n c, e = .returned (.slice a n c) ∧ NatS w.heap.size w' a n c (limbs x) ∧ Ext w w'

/-- a block's cells: words of 32 bits -/
def words (l : List Nat) : Array Value := (l.map fun x : Nat => Value.int .u32 (x : Int)).toArray

theorem words_get {l : List Nat} {i : Nat} (h : i < l.length) : (words l)[i]? = some (.int .u32 ((l[i]?.getD 0 : Nat) : Int)) := by
  simp [words, List.getElem?_eq_getElem h]
theorem words_size (l : List Nat) : (words l).size = l.length := by simp [words]
theorem words_set (l : List Nat) (i x : Nat) : (words l).setIfInBounds i (.int .u32 (x : Int)) = words (l.set i x) := by
  simp [words, List.map_set]

/-- block b of the world holds these words -/
def Blk (w : World) (b : Nat) (t : TypeId) (c : Array Value) : Prop := w.heap[b]? = some (.cells c t (0, 0))

theorem Blk.cell {w : World} {b : Nat} {t : TypeId} {c : Array Value} (h : Blk w b t c) {i : Nat} {v : Value} (hv : c[i]? = some v) : w.cell? ⟨b, i, none⟩ = some v := by
  unfold Blk at h
  simp [World.cell?, h, hv]
theorem Blk.free {w : World} {b : Nat} {t : TypeId} {c : Array Value} (h : Blk w b t c) (i : Nat) : w.frozen? ⟨b, i, none⟩ = false := by
  unfold Blk at h
  simp [World.frozen?, h]
theorem Blk.lt {w : World} {b : Nat} {t : TypeId} {c : Array Value} (h : Blk w b t c) : b < w.heap.size := (Array.getElem?_eq_some_iff.1 h).1
theorem Blk.new (w : World) (t : TypeId) (c : Array Value) : Blk (w.alloc (.cells c t)) w.heap.size t c := by
  show (w.heap.push _)[w.heap.size]? = _
  rw [Array.getElem?_push, if_pos rfl]
theorem Blk.set {w : World} {b : Nat} {t : TypeId} {c : Array Value} (h : Blk w b t c) (i : Nat) (v : Value) : Blk (w.setCell ⟨b, i, none⟩ v) b t (c.setIfInBounds i v) := by
  unfold Blk at *
  show (w.heap.modify b _)[b]? = _
  rw [Array.getElem?_modify, if_pos rfl, h]
  rfl
theorem Blk.below {w w' : World} {b n : Nat} {t : TypeId} {c : Array Value} (h : Blk w b t c) (k : Below n w w') (hb : b < n) : Blk w' b t c := (k.block b hb).trans h
theorem Blk.ext {w w' : World} {b : Nat} {t : TypeId} {c : Array Value} (h : Blk w b t c) (k : Ext w w') : Blk w' b t c := h.below k h.lt
theorem Blk.word {w : World} {b : Nat} {t : TypeId} {l : List Nat} (h : Blk w b t (words l)) {i : Nat} (hi : i < l.length) : w.cell? ⟨b, i, none⟩ = some (.int .u32 ((l[i]?.getD 0 : Nat) : Int)) := h.cell (words_get hi)

/-- a slice from the head of such a block on -/
theorem Blk.nat {B : Nat} {w : World} {b c : Nat} {t : TypeId} {l : List Nat} (h : Blk w b t (words l)) (hB : B ≤ b) (hs : Small l) (n : Nat) (hn : n ≤ l.length) (hc : n ≤ c) (hm : c ≤ 9223372036854775807) : NatS B w (some ⟨b, 0, none⟩) n c (l.take n) :=
  natS_mk (by rw [List.length_take]; omega) hc hm (hs.take n) hB (fun i hi => by
    rw [List.getElem?_take_of_lt hi]
    simpa using h.word (i := i) (by omega)) (fun i _ => by simpa using h.free i)

theorem make_words {P : Program} {t e : TypeId} (ht : P.underlying t = some (.slice e)) (hi : (P.info? e).map (fun i => (i.zero, i.size, i.bytes)) = some (some (.int .u32 0), 1, 4)) (n : Nat) (m : Nat) (hn : n ≤ m) (hm : m ≤ 70368744177664) (w : World) :
    (Instr.makeSlice t (.int .i64 (n : Int)) (.int .i64 (m : Int))).run P w = .ok (.slice (some ⟨w.heap.size, 0, none⟩) n m) (w.alloc (.cells (words (List.replicate m 0)) e)) := by
  obtain ⟨i0, h1, h2, h3, h4⟩ := info_parts hi
  have := run_make (P := P) w t e i0 _ ht h1 h2 .i64 .i64 (n : Int) (m : Int) (by omega) (by omega) (by rw [h4]; omega) (by omega)
  rw [this]
  have e1 : madeCells (Value.int .u32 0).cells ((m : Int).toNat * i0.size) = words (List.replicate m 0) := by
    rw [h3]
    apply Array.ext
    · simp [madeCells, words]
    · intro j h1 h2
      simp [madeCells, words, Value.cells, Nat.mod_one]
  rw [e1]
  simp

theorem cell_alloc {w : World} {a : Addr} {v : Value} (h : w.cell? a = some v) (o : Obj) : (w.alloc o).cell? a = some v := by
  rw [World.cell?_alloc_lt _ _ _ (World.block_lt_of_cell? w a h), h]

/-- a call of function f enters it: for a function value that is a letter -/
def Enters (P : Program) (f : Nat) : Prop := ∀ args w, (callFunc f args).run P w = .ok (.enter f args) w
theorem enters_mk {P : Program} {f : FuncId} {fn : Func} (hf : P.funcs[f]? = some fn) (hname : (fn.name == "runtime.NumGoroutine") = false) (hb : fn.body.isSome = true) : Enters P f := fun args w => by
  obtain ⟨c, hb⟩ := Option.isSome_iff_exists.1 hb
  have h1 : fn.name ≠ "runtime.NumGoroutine" := by simpa using hname
  simp [callFunc, hf, h1, hb]

/-- the built-in copy of a whole list of words into a new block -/
theorem wpList_copy_words {P : Program} {w : World} {ops : Array Oper} {rest : List Oper} {o : Oper} {a : Act} {Q : Exit → Act → World → Prop} (hgd : o.guard = none) (d s : Operand) (T E : TypeId)
    (ho : o.op = .call { callee := .builtin .copy, args := #[d, s], argTypes := #[T, T] }) (hu : P.underlying T = some (.slice E)) (hsz : (P.info? E).map (·.size) = some 1)
    (g b off k c : Nat) (sc : Nat) (l : List Nat) (hd : a.eval d = .slice (some ⟨g, 0, none⟩) k c) (hs : a.eval s = .slice (some ⟨b, off, none⟩) k sc)
    (hg : Blk w g E (words (List.replicate k 0))) (hl : Hid (l.length = k)) (hc : ∀ i, i < k → w.cell? ⟨b, off + i, none⟩ = some (.int .u32 ((l[i]?.getD 0 : Nat) : Int)))
    (B : Nat) (w0 : World) (hb : Below B w0 w) (hBg : B ≤ g)
    (h : ∀ w', Hid (Blk w' g E (words l)) → Below B w0 w' → wpList P ops Q rest (a.put o.dst (goInt k)) w') : wpList P ops Q (o :: rest) a w := by
  have hl' := hl.out
  refine wpList_copy_splice hgd d s T T ho E hu hsz (some ⟨g, 0, none⟩) (some ⟨b, off, none⟩) k c k sc hd hs g 0 ((List.replicate k 0).map fun x : Nat => Value.int .u32 (x : Int)) E hg (l.map fun x : Nat => Value.int .u32 (x : Int)) (by simp [hl']) ?_ (by simp [hl']) (by simp [Value.oneCell']) B w0 hb hBg ?_
  · intro _
    refine ⟨rfl, ⟨b, off, none⟩, rfl, fun j v hj => ?_⟩
    rw [List.getElem?_map] at hj
    cases e : l[j]? with
    | none => rw [e] at hj; cases hj
    | some x =>
      rw [e] at hj
      cases hj
      have := hc j (by have := (List.getElem?_eq_some_iff.1 e).1; omega)
      rw [e] at this
      by_cases hj0 : j = 0
      · subst hj0; simpa [Addr.add] using this
      · simpa [Addr.add, hj0] using this
  · intro w' h1 h2
    have e : splice ((List.replicate k 0).map fun x : Nat => Value.int .u32 (x : Int)) 0 (l.map fun x : Nat => Value.int .u32 (x : Int)) = l.map fun x : Nat => Value.int .u32 (x : Int) := by
      simp [splice, hl']
    have h3 := h1.out
    rw [e] at h3
    have := h w' h3 h2
    simpa [hl'] using this

end Go.Proofs.YtbhenelehhiakaaGreat
/-
  A region taken out of a function's body by its number.
-/
namespace Go.Proofs.YtbhenelehhiakaaGreat
def regAt (k : Nat) : Code → Option Code
  | .region i ops b => if i = k then some (.region i ops b) else none
  | .seq a b => match regAt k a with
    | some c => some c
    | none => regAt k b
  | .loop c => regAt k c
  | .block _ c => regAt k c
  | .scope c => regAt k c
  | .cond _ a b => match regAt k a with
    | some c => some c
    | none => regAt k b
  | _ => none
end Go.Proofs.YtbhenelehhiakaaGreat
