/-
  The laws' own small functions: same, none, right, refused, size.
-/
import Derived.Test.YtbhenelehhiakaaGreatSum28
import Derived.Test.YtbhenelehhiakaaGreatSum24
set_option linter.unusedVariables false
set_option linter.unusedSimpArgs false
namespace Go.Proofs.YtbhenelehhiakaaGreat
open Go.RowKit

/-- a call that answers true and makes new memory alone -/
def Yes (w : World) (e : Ending) (w' : World) : Prop := e = .returned (.bool true) ∧ Ext w w'

set_option maxHeartbeats 1000000 in
theorem same_yes (w : World) (b : Bool) (a a2 a3 a4 : Option Addr) (n c n2 c2 n3 c3 n4 c4 : Nat) (l : Nt) (xss : List (List It)) (h : NatS 0 w a n c l) (h2 : NatS 0 w a2 n2 c2 l) (h3 : Sl rInts 0 w a3 n3 c3 xss) (h4 : Sl rInts 0 w a4 n4 c4 xss) :
    Calls Tryz.prog 29 #[.agg #[.bool b, .slice a n c, .slice a3 n3 c3], .agg #[.bool b, .slice a2 n2 c2, .slice a4 n4 c4]] w (Yes w) := by
  go_enter Tryz.func29, Tryz.ntmps29
  go_wp2_with fail
  have p0 := Blk.new w 28 #[.bool b, .slice a n c, .slice a3 n3 c3]
  have p1 := Blk.new (w.alloc (Obj.cells #[.bool b, .slice a n c, .slice a3 n3 c3] 28)) 28 #[.bool b, .slice a2 n2 c2, .slice a4 n4 c4]
  replace p0 := p0.ext ((Below.refl _ _).alloc (Nat.le_refl _) (Obj.cells #[.bool b, .slice a2 n2 c2, .slice a4 n4 c4] 28))
  have hEW : Ext w ((w.alloc (Obj.cells #[.bool b, .slice a n c, .slice a3 n3 c3] 28)).alloc (Obj.cells #[.bool b, .slice a2 n2 c2, .slice a4 n4 c4] 28)) := (((Below.refl _ w).alloc (by simp) _).alloc (by simp) _)
  generalize hgW : (w.alloc (Obj.cells #[.bool b, .slice a n c, .slice a3 n3 c3] 28)).alloc (Obj.cells #[.bool b, .slice a2 n2 c2, .slice a4 n4 c4] 28) = W at *
  clear hgW
  simp only [World.size_alloc] at p1
  have p0_ne_p1 : ¬ w.heap.size = w.heap.size + 1 := by omega
  have p1_ne_p0 : ¬ w.heap.size + 1 = w.heap.size := by omega
  replace p0_0 := p0.cell (i := 0) rfl
  replace p0_1 := p0.cell (i := 1) rfl
  replace p0_2 := p0.cell (i := 2) rfl
  replace p1_0 := p1.cell (i := 0) rfl
  replace p1_1 := p1.cell (i := 1) rfl
  replace p1_2 := p1.cell (i := 2) rfl
  refine (r11Same_any W b b a a2 a3 a4 n c n2 c2 n3 c3 n4 c4 l l xss xss (h.ext (Nat.le_refl _) hEW) (h2.ext (Nat.le_refl _) hEW) (h3.ext (Nat.le_refl _) hEW) (h4.ext (Nat.le_refl _) hEW) true (Lib.hid (by simp))).mono ?_
  rintro e w1 ⟨rfl, hE1⟩
  have HE := Lib.hid (Ext.trans hEW hE1)
  clear h h2 h3 h4 hEW hE1
  go_wp2_with fail
  go_ret
  exact ⟨rfl, HE.out⟩

set_option maxHeartbeats 1000000 in
theorem none_yes (w : World) : Calls Tryz.prog 30 #[.agg #[.bool false, .slice none 0 0, .slice none 0 0]] w (Yes w) := by
  go_enter Tryz.func30, Tryz.ntmps30
  go_wp2_with fail
  have p0 := Blk.new w 28 #[.bool false, .slice none 0 0, .slice none 0 0]
  have hEW : Ext w (w.alloc (Obj.cells #[.bool false, .slice none 0 0, .slice none 0 0] 28)) := ((Below.refl _ w).alloc (by simp) _)
  generalize hgW : w.alloc (Obj.cells #[.bool false, .slice none 0 0, .slice none 0 0] 28) = W at *
  clear hgW
  replace p0_0 := p0.cell (i := 0) rfl
  replace p0_1 := p0.cell (i := 1) rfl
  replace p0_2 := p0.cell (i := 2) rfl
  refine (same_yes W false none none none none 0 0 0 0 0 0 0 0 [] [] (natS_nil _ _) (natS_nil _ _) (Sl.empty _ _ _ _) (Sl.empty _ _ _ _)).mono ?_
  rintro e w1 ⟨rfl, hE1⟩
  have HE := Lib.hid (Ext.trans hEW hE1)
  clear hEW hE1
  go_wp2_with fail
  go_ret
  exact ⟨rfl, HE.out⟩

set_option maxHeartbeats 1000000 in
theorem refused_yes (w : World) (s : Int) : Calls Tryz.prog 18 #[.agg #[.bool false, .slice none 0 0, .slice none 0 0], .int .i64 s, .int .i64 s] w (Yes w) := by
  go_enter Tryz.func18, Tryz.ntmps18
  go_wp2_with fail
  have p0 := Blk.new w 28 #[.bool false, .slice none 0 0, .slice none 0 0]
  have hEW : Ext w (w.alloc (Obj.cells #[.bool false, .slice none 0 0, .slice none 0 0] 28)) := ((Below.refl _ w).alloc (by simp) _)
  generalize hgW : w.alloc (Obj.cells #[.bool false, .slice none 0 0, .slice none 0 0] 28) = W at *
  clear hgW
  replace p0_0 := p0.cell (i := 0) rfl
  replace p0_1 := p0.cell (i := 1) rfl
  replace p0_2 := p0.cell (i := 2) rfl
  refine (none_yes W).mono ?_
  rintro e w1 ⟨rfl, hE1⟩
  have HE := Lib.hid (Ext.trans hEW hE1)
  clear hEW hE1
  go_wp2_with fail
  go_ret
  exact ⟨rfl, HE.out⟩

set_option maxHeartbeats 1000000 in
theorem right_yes (w : World) (b : Bool) (a a2 a3 a4 : Option Addr) (n c n2 c2 n3 c3 n4 c4 : Nat) (l : Nt) (xss : List (List It)) (h : NatS 0 w a n c l) (h2 : NatS 0 w a2 n2 c2 l) (h3 : Sl rInts 0 w a3 n3 c3 xss) (h4 : Sl rInts 0 w a4 n4 c4 xss) :
    Calls Tryz.prog 19 #[.agg #[.bool b, .slice a n c, .slice a3 n3 c3], .int .i64 0, .agg #[.bool b, .slice a2 n2 c2, .slice a4 n4 c4]] w (Yes w) := by
  go_enter Tryz.func19, Tryz.ntmps19
  go_wp2_with fail
  have p0 := Blk.new w 28 #[.bool b, .slice a n c, .slice a3 n3 c3]
  have p1 := Blk.new (w.alloc (Obj.cells #[.bool b, .slice a n c, .slice a3 n3 c3] 28)) 28 #[.bool b, .slice a2 n2 c2, .slice a4 n4 c4]
  replace p0 := p0.ext ((Below.refl _ _).alloc (Nat.le_refl _) (Obj.cells #[.bool b, .slice a2 n2 c2, .slice a4 n4 c4] 28))
  have hEW : Ext w ((w.alloc (Obj.cells #[.bool b, .slice a n c, .slice a3 n3 c3] 28)).alloc (Obj.cells #[.bool b, .slice a2 n2 c2, .slice a4 n4 c4] 28)) := (((Below.refl _ w).alloc (by simp) _).alloc (by simp) _)
  generalize hgW : (w.alloc (Obj.cells #[.bool b, .slice a n c, .slice a3 n3 c3] 28)).alloc (Obj.cells #[.bool b, .slice a2 n2 c2, .slice a4 n4 c4] 28) = W at *
  clear hgW
  simp only [World.size_alloc] at p1
  have p0_ne_p1 : ¬ w.heap.size = w.heap.size + 1 := by omega
  have p1_ne_p0 : ¬ w.heap.size + 1 = w.heap.size := by omega
  replace p0_0 := p0.cell (i := 0) rfl
  replace p0_1 := p0.cell (i := 1) rfl
  replace p0_2 := p0.cell (i := 2) rfl
  replace p1_0 := p1.cell (i := 0) rfl
  replace p1_1 := p1.cell (i := 1) rfl
  replace p1_2 := p1.cell (i := 2) rfl
  refine (same_yes W b a a2 a3 a4 n c n2 c2 n3 c3 n4 c4 l xss (h.ext (Nat.le_refl _) hEW) (h2.ext (Nat.le_refl _) hEW) (h3.ext (Nat.le_refl _) hEW) (h4.ext (Nat.le_refl _) hEW)).mono ?_
  rintro e w1 ⟨rfl, hE1⟩
  have HE := Lib.hid (Ext.trans hEW hE1)
  clear h h2 h3 h4 hEW hE1
  go_wp2_with fail
  go_ret
  exact ⟨rfl, HE.out⟩

end Go.Proofs.YtbhenelehhiakaaGreat
/-
  What is made with the denominator 1 stays; Identity and Zero as raw data.
-/
namespace Go.Proofs.YtbhenelehhiakaaGreat
open Go.RowKit

section
variable {P : Program} {md : Region.Mode} {ops : Array Oper} {Q : Exit → Act → World → Prop} {S : World → Prop}
theorem put_some {a : Act} {o : Oper} {d : Nat} {v : Value} (hd : o.dst = some d) : a.put o.dst v = { tmps := a.tmps.setIfInBounds d v, defers := a.defers } := by rw [hd]; rfl
/-- an operation of a drawn region that yields at every world that meets S, its slot told -/
theorem takeD (i d : Nat) {oi : Oper} {v : Value} {fuel : Nat} {listed : Array Bool} {a : Act} {w : World} (hi : ops[i]? = some oi) (hd : oi.dst = some d)
    (hs : Region.noSelect ops = true) (hf : Region.free md ops listed i = true) (hr : (Region.ready md ops listed).contains i = true)
    (hQ : ∀ c a w, Q (.panic c) (a.put oi.dst v) w → Q (.panic c) a w) (hy : YieldsIf P ops S oi v a) (hS : S w)
    (h : wpAnyH P md ops Q S fuel (listed.setIfInBounds i true) { tmps := a.tmps.setIfInBounds d v, defers := a.defers } w) : wpAnyH P md ops Q S (fuel + 1) listed a w :=
  wpAnyH_take hi hs hf hr hQ hy hS (by rw [put_some hd]; exact h)
/-- the operation that alone may come up -/
theorem stepD (i : Nat) {oi : Oper} {fuel : Nat} {listed : Array Bool} {a : Act} {w : World} (hi : ops[i]? = some oi) (hr : Region.ready md ops listed = [i])
    (h : ∀ K' : Act → World → Prop, Shut (∀ a w, S w → (S w → wpAnyH P md ops Q S fuel (listed.setIfInBounds i true) a w) → K' a w) → if Region.wanted oi (yielded ops a.tmps) = true then Oper.wp P oi a w K' Q else K' (a.put oi.dst undef) w) : wpAnyH P md ops Q S (fuel + 1) listed a w :=
  wpAnyH_ready hr (by simp) (AllReadyH.cons hi h AllReadyH.nil)
/-- the same, where its guard is false -/
theorem skipD (i d : Nat) {oi : Oper} {fuel : Nat} {listed : Array Bool} {a : Act} {w : World} (hi : ops[i]? = some oi) (hd : oi.dst = some d) (hr : Region.ready md ops listed = [i]) (hw : Region.wanted oi (yielded ops a.tmps) = false) (hS : S w)
    (h : wpAnyH P md ops Q S fuel (listed.setIfInBounds i true) { tmps := a.tmps.setIfInBounds d undef, defers := a.defers } w) : wpAnyH P md ops Q S (fuel + 1) listed a w :=
  stepD i hi hr fun K hK => by rw [if_neg (by rw [hw]; decide), put_some hd]; exact hK.out _ _ hS (fun _ => h)
end

/-- a matrix with the denominator 1 and no error, as raw data -/
def RRaw (w : World) (d : Nat) (zss : List (List Int)) (e : Ending) (w' : World) : Prop := ∃ a n c a2 n2 c2, e = .returned (.tuple #[.agg #[.bool false, .slice a n c, .slice a2 n2 c2], .int .i64 0]) ∧ NatS 0 w' a n c (limbs d) ∧ Sl rInts 0 w' a2 n2 c2 (zss.map fun zs => zs.map rawI) ∧ Ext w w'
/-- the same without an error's number -/
def RRaw1 (w : World) (d : Nat) (zss : List (List Int)) (e : Ending) (w' : World) : Prop := ∃ a n c a2 n2 c2, e = .returned (.agg #[.bool false, .slice a n c, .slice a2 n2 c2]) ∧ NatS 0 w' a n c (limbs d) ∧ Sl rInts 0 w' a2 n2 c2 (zss.map fun zs => zs.map rawI) ∧ Ext w w'
theorem RMatOk.raw {w w' : World} {D : Int} {zss : List (List Int)} {e : Ending} (h : RMatOk w D zss e w') (d : Nat) (hd : D = d) : RRaw w d zss e w' := by
  subst hd
  obtain ⟨a, n, c, a2, n2, c2, he, h1, h2, h3⟩ := h
  have hb : decide (((d : Nat) : Int) < 0) = false := by simp
  rw [hb] at he
  exact ⟨a, n, c, a2, n2, c2, he, Sl.zero h1, rawRows h2, h3⟩
theorem RFrom.raw {w w' : World} {d : Nat} {zss : List (List Int)} {e : Ending} (h : RFrom w d zss e w') : RRaw1 w d zss e w' := by
  obtain ⟨a, n, c, a2, n2, c2, he, h1, h2, h3⟩ := h
  exact ⟨a, n, c, a2, n2, c2, he, Sl.zero h1, rawRows h2, h3⟩

end Go.Proofs.YtbhenelehhiakaaGreat
/-
  Steps of a drawn region, their closed facts found by themselves.
-/
namespace Go.Proofs.YtbhenelehhiakaaGreat
open Go.RowKit

section
variable {P : Program} {md : Region.Mode} {ops : Array Oper} {Q : Exit → Act → World → Prop} {S : World → Prop}
/-- an operation that yields at every world that meets S -/
theorem takeY (i d : Nat) {oi : Oper} {v : Value} {fuel : Nat} {listed l2 : Array Bool} {t t2 : Array Value} {df : List Deferred} {w : World} (hS : S w)
    (h : wpAnyH P md ops Q S fuel l2 { tmps := t2, defers := df } w)
    (hi : ops[i]? = some oi := by exact rfl) (hd : oi.dst = some d := by exact rfl)
    (hs : Region.noSelect ops = true := by as_aux_lemma => kernel_rfl) (hf : Region.free md ops listed i = true := by as_aux_lemma => kernel_rfl) (hr : (Region.ready md ops listed).contains i = true := by as_aux_lemma => kernel_rfl)
    (hw : Region.wanted oi (yielded ops t) = true := by as_aux_lemma => kernel_rfl)
    (hQ : ∀ c a w, Q (.panic c) (a.put oi.dst v) w → Q (.panic c) a w := by exact fun _ _ _ h => h)
    (hy : ∀ w, S w → (execOp (Act.eval { tmps := t, defers := df }) oi).run P w = .ok (.value v) w := by intro w hSw; (try dsimp only at hSw); go_simp; try with_reducible rfl)
    (hl : listed.setIfInBounds i true = l2 := by (try simp only [List.setIfInBounds_toArray, List.set_cons_zero, List.set_cons_succ]) <;> rfl)
    (ht : t.setIfInBounds d v = t2 := by (try simp only [List.setIfInBounds_toArray, List.set_cons_zero, List.set_cons_succ]) <;> rfl) : wpAnyH P md ops Q S (fuel + 1) listed { tmps := t, defers := df } w :=
  takeD i d hi hd hs hf hr hQ (.inl ⟨hw, hy⟩) hS (by rw [hl, ht]; exact h)
/-- an operation whose guard is false -/
theorem passY (i d : Nat) {oi : Oper} {fuel : Nat} {listed l2 : Array Bool} {t t2 : Array Value} {df : List Deferred} {w : World} (hS : S w)
    (h : wpAnyH P md ops Q S fuel l2 { tmps := t2, defers := df } w)
    (hi : ops[i]? = some oi := by exact rfl) (hd : oi.dst = some d := by exact rfl)
    (hs : Region.noSelect ops = true := by as_aux_lemma => kernel_rfl) (hf : Region.free md ops listed i = true := by as_aux_lemma => kernel_rfl) (hr : (Region.ready md ops listed).contains i = true := by as_aux_lemma => kernel_rfl)
    (hw : Region.wanted oi (yielded ops t) = false := by as_aux_lemma => kernel_rfl)
    (hQ : ∀ c a w, Q (.panic c) (a.put oi.dst undef) w → Q (.panic c) a w := by exact fun _ _ _ h => h)
    (hl : listed.setIfInBounds i true = l2 := by (try simp only [List.setIfInBounds_toArray, List.set_cons_zero, List.set_cons_succ]) <;> rfl)
    (ht : t.setIfInBounds d undef = t2 := by (try simp only [List.setIfInBounds_toArray, List.set_cons_zero, List.set_cons_succ]) <;> rfl) : wpAnyH P md ops Q S (fuel + 1) listed { tmps := t, defers := df } w :=
  takeD i d hi hd hs hf hr hQ (.inr ⟨hw, rfl⟩) hS (by rw [hl, ht]; exact h)
/-- the call that alone may come up, its guard false -/
theorem skipY (i d : Nat) {oi : Oper} {fuel : Nat} {listed l2 : Array Bool} {t t2 : Array Value} {df : List Deferred} {w : World} (hS : S w)
    (h : wpAnyH P md ops Q S fuel l2 { tmps := t2, defers := df } w)
    (hi : ops[i]? = some oi := by exact rfl) (hd : oi.dst = some d := by exact rfl) (hr : Region.ready md ops listed = [i] := by as_aux_lemma => kernel_rfl)
    (hw : Region.wanted oi (yielded ops t) = false := by as_aux_lemma => kernel_rfl)
    (hl : listed.setIfInBounds i true = l2 := by (try simp only [List.setIfInBounds_toArray, List.set_cons_zero, List.set_cons_succ]) <;> rfl)
    (ht : t.setIfInBounds d undef = t2 := by (try simp only [List.setIfInBounds_toArray, List.set_cons_zero, List.set_cons_succ]) <;> rfl) : wpAnyH P md ops Q S (fuel + 1) listed { tmps := t, defers := df } w :=
  skipD i d hi hd hr hw hS (by rw [hl, ht]; exact h)
end
end Go.Proofs.YtbhenelehhiakaaGreat
