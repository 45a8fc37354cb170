/-
  The laws' own small functions: same, none, right, refused, size.
-/
import Derived.Test.YtbhenelehhiakaaFrom28
import Derived.Test.YtbhenelehhiakaaFrom24
set_option linter.unusedVariables false
set_option linter.unusedSimpArgs false
namespace Go.Proofs.Ytbhenelehhiakaa
open Go.RowKit

/-- a call that answers true and makes new memory alone -/
def Yes (w : World) (e : Ending) (w' : World) : Prop := e = .returned (.bool true) ∧ Ext w w'

set_option maxHeartbeats 1000000 in
theorem same_yes (w : World) (b : Bool) (a a2 a3 a4 : Option Addr) (n c n2 c2 n3 c3 n4 c4 : Nat) (l : Nt) (xss : List (List It)) (h : NatS 0 w a n c l) (h2 : NatS 0 w a2 n2 c2 l) (h3 : Sl rInts 0 w a3 n3 c3 xss) (h4 : Sl rInts 0 w a4 n4 c4 xss) :
    Calls Try.prog 27 #[.agg #[.bool b, .slice a n c, .slice a3 n3 c3], .agg #[.bool b, .slice a2 n2 c2, .slice a4 n4 c4]] w (Yes w) := by
  go_enter Try.func27, Try.ntmps27
  go_wp2_with fail
  have p0 := Blk.new w 30 #[.bool b, .slice a n c, .slice a3 n3 c3]
  have p1 := Blk.new (w.alloc (Obj.cells #[.bool b, .slice a n c, .slice a3 n3 c3] 30)) 30 #[.bool b, .slice a2 n2 c2, .slice a4 n4 c4]
  replace p0 := p0.ext ((Below.refl _ _).alloc (Nat.le_refl _) (Obj.cells #[.bool b, .slice a2 n2 c2, .slice a4 n4 c4] 30))
  have hEW : Ext w ((w.alloc (Obj.cells #[.bool b, .slice a n c, .slice a3 n3 c3] 30)).alloc (Obj.cells #[.bool b, .slice a2 n2 c2, .slice a4 n4 c4] 30)) := (((Below.refl _ w).alloc (by simp) _).alloc (by simp) _)
  generalize hgW : (w.alloc (Obj.cells #[.bool b, .slice a n c, .slice a3 n3 c3] 30)).alloc (Obj.cells #[.bool b, .slice a2 n2 c2, .slice a4 n4 c4] 30) = W at *
  clear hgW
  simp only [World.size_alloc] at p1
  have p0_ne_p1 : ¬ w.heap.size = w.heap.size + 1 := by omega
  have p1_ne_p0 : ¬ w.heap.size + 1 = w.heap.size := by omega
  replace p0_0 := p0.cell (i := 0) rfl
  replace p0_1 := p0.cell (i := 1) rfl
  replace p0_2 := p0.cell (i := 2) rfl
  replace p1_0 := p1.cell (i := 0) rfl
  replace p1_1 := p1.cell (i := 1) rfl
  replace p1_2 := p1.cell (i := 2) rfl
  refine (r11Same_any W b b a a2 a3 a4 n c n2 c2 n3 c3 n4 c4 l l xss xss (h.ext (Nat.le_refl _) hEW) (h2.ext (Nat.le_refl _) hEW) (h3.ext (Nat.le_refl _) hEW) (h4.ext (Nat.le_refl _) hEW) true (Lib.hid (by simp))).mono ?_
  rintro e w1 ⟨rfl, hE1⟩
  have HE := Lib.hid (Ext.trans hEW hE1)
  clear h h2 h3 h4 hEW hE1
  go_wp2_with fail
  go_ret
  exact ⟨rfl, HE.out⟩

set_option maxHeartbeats 1000000 in
theorem none_yes (w : World) : Calls Try.prog 26 #[.agg #[.bool false, .slice none 0 0, .slice none 0 0]] w (Yes w) := by
  go_enter Try.func26, Try.ntmps26
  go_wp2_with fail
  have p0 := Blk.new w 30 #[.bool false, .slice none 0 0, .slice none 0 0]
  have hEW : Ext w (w.alloc (Obj.cells #[.bool false, .slice none 0 0, .slice none 0 0] 30)) := ((Below.refl _ w).alloc (by simp) _)
  generalize hgW : w.alloc (Obj.cells #[.bool false, .slice none 0 0, .slice none 0 0] 30) = W at *
  clear hgW
  replace p0_0 := p0.cell (i := 0) rfl
  replace p0_1 := p0.cell (i := 1) rfl
  replace p0_2 := p0.cell (i := 2) rfl
  refine (same_yes W false none none none none 0 0 0 0 0 0 0 0 [] [] (natS_nil _ _) (natS_nil _ _) (Sl.empty _ _ _ _) (Sl.empty _ _ _ _)).mono ?_
  rintro e w1 ⟨rfl, hE1⟩
  have HE := Lib.hid (Ext.trans hEW hE1)
  clear hEW hE1
  go_wp2_with fail
  go_ret
  exact ⟨rfl, HE.out⟩

set_option maxHeartbeats 1000000 in
theorem refused_yes (w : World) (s : Int) : Calls Try.prog 11 #[.agg #[.bool false, .slice none 0 0, .slice none 0 0], .int .i64 s, .int .i64 s] w (Yes w) := by
  go_enter Try.func11, Try.ntmps11
  go_wp2_with fail
  have p0 := Blk.new w 30 #[.bool false, .slice none 0 0, .slice none 0 0]
  have hEW : Ext w (w.alloc (Obj.cells #[.bool false, .slice none 0 0, .slice none 0 0] 30)) := ((Below.refl _ w).alloc (by simp) _)
  generalize hgW : w.alloc (Obj.cells #[.bool false, .slice none 0 0, .slice none 0 0] 30) = W at *
  clear hgW
  replace p0_0 := p0.cell (i := 0) rfl
  replace p0_1 := p0.cell (i := 1) rfl
  replace p0_2 := p0.cell (i := 2) rfl
  refine (none_yes W).mono ?_
  rintro e w1 ⟨rfl, hE1⟩
  have HE := Lib.hid (Ext.trans hEW hE1)
  clear hEW hE1
  go_wp2_with fail
  go_ret
  exact ⟨rfl, HE.out⟩

set_option maxHeartbeats 1000000 in
theorem right_yes (w : World) (b : Bool) (a a2 a3 a4 : Option Addr) (n c n2 c2 n3 c3 n4 c4 : Nat) (l : Nt) (xss : List (List It)) (h : NatS 0 w a n c l) (h2 : NatS 0 w a2 n2 c2 l) (h3 : Sl rInts 0 w a3 n3 c3 xss) (h4 : Sl rInts 0 w a4 n4 c4 xss) :
    Calls Try.prog 12 #[.agg #[.bool b, .slice a n c, .slice a3 n3 c3], .int .i64 0, .agg #[.bool b, .slice a2 n2 c2, .slice a4 n4 c4]] w (Yes w) := by
  go_enter Try.func12, Try.ntmps12
  go_wp2_with fail
  have p0 := Blk.new w 30 #[.bool b, .slice a n c, .slice a3 n3 c3]
  have p1 := Blk.new (w.alloc (Obj.cells #[.bool b, .slice a n c, .slice a3 n3 c3] 30)) 30 #[.bool b, .slice a2 n2 c2, .slice a4 n4 c4]
  replace p0 := p0.ext ((Below.refl _ _).alloc (Nat.le_refl _) (Obj.cells #[.bool b, .slice a2 n2 c2, .slice a4 n4 c4] 30))
  have hEW : Ext w ((w.alloc (Obj.cells #[.bool b, .slice a n c, .slice a3 n3 c3] 30)).alloc (Obj.cells #[.bool b, .slice a2 n2 c2, .slice a4 n4 c4] 30)) := (((Below.refl _ w).alloc (by simp) _).alloc (by simp) _)
  generalize hgW : (w.alloc (Obj.cells #[.bool b, .slice a n c, .slice a3 n3 c3] 30)).alloc (Obj.cells #[.bool b, .slice a2 n2 c2, .slice a4 n4 c4] 30) = W at *
  clear hgW
  simp only [World.size_alloc] at p1
  have p0_ne_p1 : ¬ w.heap.size = w.heap.size + 1 := by omega
  have p1_ne_p0 : ¬ w.heap.size + 1 = w.heap.size := by omega
  replace p0_0 := p0.cell (i := 0) rfl
  replace p0_1 := p0.cell (i := 1) rfl
  replace p0_2 := p0.cell (i := 2) rfl
  replace p1_0 := p1.cell (i := 0) rfl
  replace p1_1 := p1.cell (i := 1) rfl
  replace p1_2 := p1.cell (i := 2) rfl
  refine (same_yes W b a a2 a3 a4 n c n2 c2 n3 c3 n4 c4 l xss (h.ext (Nat.le_refl _) hEW) (h2.ext (Nat.le_refl _) hEW) (h3.ext (Nat.le_refl _) hEW) (h4.ext (Nat.le_refl _) hEW)).mono ?_
  rintro e w1 ⟨rfl, hE1⟩
  have HE := Lib.hid (Ext.trans hEW hE1)
  clear h h2 h3 h4 hEW hE1
  go_wp2_with fail
  go_ret
  exact ⟨rfl, HE.out⟩

/-- the error of one size -/
def sizeE (n : Int) : Int := if n < 0 then 1 else if 1000 < n then 4 else 0
theorem sizeE_err (n : Int) : sizeErr [n] = sizeE n := by
  unfold sizeErr sizeE
  by_cases h1 : n < 0
  · rw [if_pos h1, if_pos (by simp [h1])]
  · rw [if_neg h1, if_neg (by simp [h1])]
    by_cases h2 : 1000 < n
    · rw [if_pos h2, if_pos (by simp [h2])]
    · rw [if_neg h2, if_neg (by simp; omega)]

set_option maxHeartbeats 1000000 in
theorem size_any (n : Int) (w : World) (s : Int) (hs : Hid (sizeE n = s)) : Calls Try.prog 7 #[.int .i64 n] w fun e w' => e = .returned (.int .i64 s) ∧ w = w' := by
  by_cases h1 : n < 0
  · have HS : Hid (s = 1) := Lib.hid (by rw [← hs.out]; unfold sizeE; rw [if_pos h1])
    go_enter Try.func7, Try.ntmps7
    go_wp2_with fail
    go_ret
    exact ⟨by rw [HS.out]; rfl, rfl⟩
  · have h1' : decide (n < 0) = false := decide_eq_false h1
    by_cases h2 : 1000 < n
    · have h2' : decide (1000 < n) = true := decide_eq_true h2
      have HS : Hid (s = 4) := Lib.hid (by rw [← hs.out]; unfold sizeE; rw [if_neg h1, if_pos h2])
      clear h1 h2
      go_enter Try.func7, Try.ntmps7
      go_wp2_with fail
      go_ret
      exact ⟨by rw [HS.out]; rfl, rfl⟩
    · have h2' : decide (1000 < n) = false := decide_eq_false h2
      have HS : Hid (s = 0) := Lib.hid (by rw [← hs.out]; unfold sizeE; rw [if_neg h1, if_neg h2])
      clear h1 h2
      go_enter Try.func7, Try.ntmps7
      go_wp2_with fail
      go_ret
      exact ⟨by rw [HS.out]; rfl, rfl⟩
end Go.Proofs.Ytbhenelehhiakaa
/-
  What is made with the denominator 1 stays; Identity and Zero as raw data.
-/
namespace Go.Proofs.Ytbhenelehhiakaa
open Go.RowKit

section
variable {P : Program} {md : Region.Mode} {ops : Array Oper} {Q : Exit → Act → World → Prop} {S : World → Prop}
theorem put_some {a : Act} {o : Oper} {d : Nat} {v : Value} (hd : o.dst = some d) : a.put o.dst v = { tmps := a.tmps.setIfInBounds d v, defers := a.defers } := by rw [hd]; rfl
/-- an operation of a drawn region that yields at every world that meets S, its slot told -/
theorem takeD (i d : Nat) {oi : Oper} {v : Value} {fuel : Nat} {listed : Array Bool} {a : Act} {w : World} (hi : ops[i]? = some oi) (hd : oi.dst = some d)
    (hs : Region.noSelect ops = true) (hf : Region.free md ops listed i = true) (hr : (Region.ready md ops listed).contains i = true)
    (hQ : ∀ c a w, Q (.panic c) (a.put oi.dst v) w → Q (.panic c) a w) (hy : YieldsIf P ops S oi v a) (hS : S w)
    (h : wpAnyH P md ops Q S fuel (listed.setIfInBounds i true) { tmps := a.tmps.setIfInBounds d v, defers := a.defers } w) : wpAnyH P md ops Q S (fuel + 1) listed a w :=
  wpAnyH_take hi hs hf hr hQ hy hS (by rw [put_some hd]; exact h)
/-- the operation that alone may come up -/
theorem stepD (i : Nat) {oi : Oper} {fuel : Nat} {listed : Array Bool} {a : Act} {w : World} (hi : ops[i]? = some oi) (hr : Region.ready md ops listed = [i])
    (h : ∀ K' : Act → World → Prop, Shut (∀ a w, S w → (S w → wpAnyH P md ops Q S fuel (listed.setIfInBounds i true) a w) → K' a w) → if Region.wanted oi (yielded ops a.tmps) = true then Oper.wp P oi a w K' Q else K' (a.put oi.dst undef) w) : wpAnyH P md ops Q S (fuel + 1) listed a w :=
  wpAnyH_ready hr (by simp) (AllReadyH.cons hi h AllReadyH.nil)
/-- the same, where its guard is false -/
theorem skipD (i d : Nat) {oi : Oper} {fuel : Nat} {listed : Array Bool} {a : Act} {w : World} (hi : ops[i]? = some oi) (hd : oi.dst = some d) (hr : Region.ready md ops listed = [i]) (hw : Region.wanted oi (yielded ops a.tmps) = false) (hS : S w)
    (h : wpAnyH P md ops Q S fuel (listed.setIfInBounds i true) { tmps := a.tmps.setIfInBounds d undef, defers := a.defers } w) : wpAnyH P md ops Q S (fuel + 1) listed a w :=
  stepD i hi hr fun K hK => by rw [if_neg (by rw [hw]; decide), put_some hd]; exact hK.out _ _ hS (fun _ => h)
end

theorem undef_no : ¬ (Go.yielded.match_1 (fun _ => Option Bool) (some undef) (fun b => some b) (fun _ => none) = some true) := by intro h; cases h
theorem undef_no2 : ¬ (Go.yielded.match_1 (fun _ => Option Bool) (some undef) (fun b => some b) (fun _ => none) = some false) := by intro h; cases h

theorem madeG_one (l : List Int) : madeG 1 l = 1 := by
  unfold madeG gcdI
  rw [if_neg (by omega)]
  simp
theorem madeDen_one (Z : List (List Int)) : madeDen 1 Z = 1 := by
  unfold madeDen
  rw [madeG_one]
  split <;> simp
theorem madeRows_one (Z : List (List Int)) : madeRows 1 Z = Z := by
  unfold madeRows
  rw [madeG_one]
  simp

/-- a matrix with the denominator 1 and no error, as raw data -/
def RRaw (w : World) (d : Nat) (zss : List (List Int)) (e : Ending) (w' : World) : Prop := ∃ a n c a2 n2 c2, e = .returned (.tuple #[.agg #[.bool false, .slice a n c, .slice a2 n2 c2], .int .i64 0]) ∧ NatS 0 w' a n c (limbs d) ∧ Sl rInts 0 w' a2 n2 c2 (zss.map fun zs => zs.map rawI) ∧ Ext w w'
/-- the same without an error's number -/
def RRaw1 (w : World) (d : Nat) (zss : List (List Int)) (e : Ending) (w' : World) : Prop := ∃ a n c a2 n2 c2, e = .returned (.agg #[.bool false, .slice a n c, .slice a2 n2 c2]) ∧ NatS 0 w' a n c (limbs d) ∧ Sl rInts 0 w' a2 n2 c2 (zss.map fun zs => zs.map rawI) ∧ Ext w w'
theorem RMatOk.raw {w w' : World} {D : Int} {zss : List (List Int)} {e : Ending} (h : RMatOk w D zss e w') (d : Nat) (hd : D = d) : RRaw w d zss e w' := by
  subst hd
  obtain ⟨a, n, c, a2, n2, c2, he, h1, h2, h3⟩ := h
  have hb : decide (((d : Nat) : Int) < 0) = false := by simp
  rw [hb] at he
  exact ⟨a, n, c, a2, n2, c2, he, Sl.zero h1, rawRows h2, h3⟩
theorem RFrom.raw {w w' : World} {d : Nat} {zss : List (List Int)} {e : Ending} (h : RFrom w d zss e w') : RRaw1 w d zss e w' := by
  obtain ⟨a, n, c, a2, n2, c2, he, h1, h2, h3⟩ := h
  exact ⟨a, n, c, a2, n2, c2, he, Sl.zero h1, rawRows h2, h3⟩

theorem identity_raw (n : Nat) (hn : n ≤ 1000) (w : World) (Z : List (List Int)) (hZ : Hid (tableZ (fun i k => if i = k then 1 else 0) n n = Z)) :
    Calls Try.prog 9 #[.int .i64 (n : Int)] w (RRaw w 1 Z) := by
  have := identity_any n hn w Z hZ
  rw [madeDen_one, madeRows_one] at this
  exact this.mono fun e w' h => h.raw 1 rfl
theorem zero_raw (n m : Nat) (hn : n ≤ 1000) (hm : m ≤ 1000) (w : World) (Z : List (List Int)) (hZ : Hid (tableZ (fun _ _ => 0) n m = Z)) :
    Calls Try.prog 10 #[.int .i64 (n : Int), .int .i64 (m : Int)] w (RRaw w 1 Z) := by
  have := zero_any n m hn hm w Z hZ
  rw [madeDen_one, madeRows_one] at this
  exact this.mono fun e w' h => h.raw 1 rfl
theorem r11Identity_raw (n : Nat) (hn : n ≤ 1000) (w : World) (Z : List (List Int)) (hZ : Hid (tableZ (fun i k => if i = k then 1 else 0) n n = Z)) :
    Calls Try.prog 13 #[.int .i64 (n : Int)] w (RRaw1 w 1 Z) :=
  (r11Identity_any n hn w Z hZ).mono fun e w' h => h.raw
theorem r11Zero_raw (r c : Nat) (hr : r ≤ 1000) (hc : c ≤ 1000) (w : World) (Z : List (List Int)) (hZ : Hid (tableZ (fun _ _ => 0) r c = Z)) :
    Calls Try.prog 14 #[.int .i64 (r : Int), .int .i64 (c : Int)] w (RRaw1 w 1 Z) :=
  (r11Zero_any r c hr hc w Z hZ).mono fun e w' h => h.raw

theorem identity_i (n : Int) (h0 : 0 ≤ n) (hn : n ≤ 1000) (w : World) (Z : List (List Int)) (hZ : Hid (tableZ (fun i k => if i = k then 1 else 0) n.toNat n.toNat = Z)) :
    Calls Try.prog 9 #[.int .i64 n] w (RRaw w 1 Z) := by
  have := identity_raw n.toNat (by omega) w Z hZ
  rwa [Int.toNat_of_nonneg h0] at this
theorem r11Identity_i (n : Int) (h0 : 0 ≤ n) (hn : n ≤ 1000) (w : World) (Z : List (List Int)) (hZ : Hid (tableZ (fun i k => if i = k then 1 else 0) n.toNat n.toNat = Z)) :
    Calls Try.prog 13 #[.int .i64 n] w (RRaw1 w 1 Z) := by
  have := r11Identity_raw n.toNat (by omega) w Z hZ
  rwa [Int.toNat_of_nonneg h0] at this
theorem zero_i (n c : Int) (h0 : 0 ≤ n) (hn : n ≤ 1000) (h1 : 0 ≤ c) (hc : c ≤ 1000) (w : World) (Z : List (List Int)) (hZ : Hid (tableZ (fun _ _ => 0) n.toNat c.toNat = Z)) :
    Calls Try.prog 10 #[.int .i64 n, .int .i64 c] w (RRaw w 1 Z) := by
  have := zero_raw n.toNat c.toNat (by omega) (by omega) w Z hZ
  rwa [Int.toNat_of_nonneg h0, Int.toNat_of_nonneg h1] at this
theorem r11Zero_i (n c : Int) (h0 : 0 ≤ n) (hn : n ≤ 1000) (h1 : 0 ≤ c) (hc : c ≤ 1000) (w : World) (Z : List (List Int)) (hZ : Hid (tableZ (fun _ _ => 0) n.toNat c.toNat = Z)) :
    Calls Try.prog 14 #[.int .i64 n, .int .i64 c] w (RRaw1 w 1 Z) := by
  have := r11Zero_raw n.toNat c.toNat (by omega) (by omega) w Z hZ
  rwa [Int.toNat_of_nonneg h0, Int.toNat_of_nonneg h1] at this
end Go.Proofs.Ytbhenelehhiakaa
