/-
  A part.
-/
import Derived.Maps.OwnIn
import Derived.Test.YtbhenelehhiakaaGreatSum22
import Derived.Test.YtbhenelehhiakaaGreatSum11
set_option linter.unusedVariables false
set_option linter.unusedSimpArgs false
namespace Go.Proofs.YtbhenelehhiakaaGreat
open Go.RowKit Go.Shelf
attribute [local go_sem] Oper.semAt_some

theorem kept_own {B : Nat} {W W' : World} {row : Option Nat} (hg : W.grownBy W' row) (hr : ∀ r, row = some r → ∃ o : Obj, W.heap[r]? = some o ∧ o.isCells = false) : Kept B W W' := fun _ _ _ hc =>
  ⟨hc.ge, cell_kept hc.cell hg hr, (frozen_kept hc.cell hg hr).trans hc.free⟩
theorem Blk.own {W W' : World} {row : Option Nat} {b : Nat} {t : TypeId} {c : Array Value} (h : Blk W b t c) (hg : W.grownBy W' row) (hr : ∀ r, row = some r → ∃ o : Obj, W.heap[r]? = some o ∧ o.isCells = false) : Blk W' b t c :=
  (grownBy_keeps_cells hg hr h rfl).trans h

/-- two integers in a new block -/
theorem ints2 {B : Nat} {w : World} {p : Nat} {t : TypeId} {b1 b2 : Bool} {a1 a2 : Option Addr} {n1 c1 n2 c2 : Nat} {l1 l2 : Nt} (h : Blk w p t #[.bool b1, .slice a1 n1 c1, .bool b2, .slice a2 n2 c2]) (hB : B ≤ p) (h1 : NatS B w a1 n1 c1 l1) (h2 : NatS B w a2 n2 c2 l2) :
    Sl rInt B w (some ⟨p, 0, none⟩) 2 2 [(b1, l1), (b2, l2)] :=
  ⟨rfl, Nat.le_refl _, by omega, fun e => (by cases e), fun i hi => by
    obtain rfl | rfl : i = 0 ∨ i = 1 := by simp at hi; omega
    · refine ⟨p, 0, _, rfl, rInt_mk h1, fun j hj => ?_⟩
      obtain rfl | rfl : j = 0 ∨ j = 1 := by simp at hj; omega
      · exact ⟨hB, h.cell (i := 0) rfl, h.free 0⟩
      · exact ⟨hB, h.cell (i := 1) rfl, h.free 1⟩
    · refine ⟨p, 0, _, rfl, rInt_mk h2, fun j hj => ?_⟩
      obtain rfl | rfl : j = 0 ∨ j = 1 := by simp at hj; omega
      · exact ⟨hB, h.cell (i := 2) rfl, h.free 2⟩
      · exact ⟨hB, h.cell (i := 3) rfl, h.free 3⟩⟩

theorem keepsOthers_ext {w w' : World} (h : Ext w w') : KeepsOthers w w' := ⟨h.size, fun k _ hk _ => (h.block k (Array.getElem?_eq_some_iff.1 hk).1).trans hk⟩

/-- the greatest common divisor of the numbers that have come -/
def gcds (l : List Int) : Int := l.foldl gcdI 0
theorem gcds_snoc (l : List Int) (x : Int) : gcds (l ++ [x]) = gcdI (gcds l) x := by simp [gcds]

theorem gcds_dvd (l : List Int) (x : Int) (hx : x ∈ l) : gcds l ∣ x := by
  have key : ∀ (l : List Int) (z : Int), l.foldl gcdI z ∣ z ∧ ∀ x ∈ l, l.foldl gcdI z ∣ x := by
    intro l
    induction l with
    | nil => intro z; exact ⟨Int.dvd_refl z, fun x hx => by simp at hx⟩
    | cons y l ih =>
      intro z
      obtain ⟨h1, h2⟩ := ih (gcdI z y)
      refine ⟨Int.dvd_trans h1 (by unfold gcdI; exact Int.gcd_dvd_left ..), fun x hx => ?_⟩
      rcases List.mem_cons.1 hx with rfl | hx
      · exact Int.dvd_trans h1 (by unfold gcdI; exact Int.gcd_dvd_right ..)
      · exact h2 x hx
  exact (key l 0).2 x hx

theorem info_int : (Tryz.prog.info? 25).map (fun i => (i.zero, i.size, i.bytes)) = some (some (.agg #[.bool false, .slice none 0 0]), 2, 32) := by kernel_rfl
theorem info_ints : (Tryz.prog.info? 30).map (fun i => (i.zero, i.size, i.bytes)) = some (some (.slice none 0 0), 1, 24) := by kernel_rfl
theorem under_ints : Tryz.prog.underlying 30 = some (.slice 25) := by kernel_rfl
theorem under_intss : Tryz.prog.underlying 26 = some (.slice 30) := by kernel_rfl

theorem nl_gcds {K : Nat} (l : List Int) (h : ∀ x ∈ l, nl x.natAbs ≤ K) : nl (gcds l).natAbs ≤ K := by
  have key : ∀ (l : List Int) (z : Int), nl z.natAbs ≤ K → (∀ x ∈ l, nl x.natAbs ≤ K) → nl (l.foldl gcdI z).natAbs ≤ K := by
    intro l
    induction l with
    | nil => intro z hz _; exact hz
    | cons x l ih =>
      intro z hz hx
      refine ih _ ?_ (fun y hy => hx y (List.mem_cons_of_mem _ hy))
      show nl (((Int.gcd z x : Nat) : Int)).natAbs ≤ K
      rw [Int.natAbs_natCast]
      exact nl_gcd hz (hx x (List.mem_cons_self ..))
  exact key l 0 (by rw [Int.natAbs_zero, nl_zero]; omega) h

theorem IntAt.nl {w : World} (x : IntAt w) : nl x.z.natAbs ≤ 8796093022208 := Nat.le_trans (nl_of x.h (Lib.hid rfl)) x.hn

/-- how many columns -/
def colsOf {α : Type} (xss : List (List α)) : Nat := match xss with | [] => 0 | xs :: _ => xs.length

set_option maxHeartbeats 1000000 in
theorem gridCols_any (w0 w : World) (a : Option Addr) (m c : Nat) (xss : List (List (IntAt w0))) (hG : GridAt w0 a m c xss) (hw : Below w0.heap.size w0 w) :
    Calls Tryz.prog 113 #[.slice a m c] w fun e w' => e = .returned (.int .i64 (colsOf xss : Nat)) ∧ w' = w := by
  by_cases h0 : m = 0
  · subst h0
    obtain rfl : xss = [] := List.length_eq_zero_iff.1 hG.len
    clear hG
    go_enter Tryz.func113, Tryz.ntmps113
    go_wp2_with fail
    go_ret
    exact ⟨rfl, rfl⟩
  · obtain ⟨b, o, rfl, hb, hcs⟩ := hG.cells (by omega)
    have hl := hG.len
    obtain ⟨a1, n1, c1, hc1, hrow⟩ := hcs 0 (by omega)
    have hc2 := (hw.cell (p := ⟨b, o + 0, none⟩) hb).trans hc1
    have hcl : colsOf xss = n1 := by
      cases xss with
      | nil => simp at hl; omega
      | cons x xs => exact hrow.len
    rw [hcl]
    have hm0 : ((m : Int) == 0) = false := by simpa using h0
    have hmp : 0 < m := by omega
    simp only [Nat.add_zero] at hc2
    clear hcs hl hrow hcl hG h0 hc1
    go_enter Tryz.func113, Tryz.ntmps113
    go_wp2_with fail
    go_ret
    exact ⟨rfl, rfl⟩

/-- what made divides by, its denominator, its rows -/
def madeG (d : Int) (zs : List Int) : Int := if d < 0 then -(gcdI (gcds zs) d) else gcdI (gcds zs) d
def madeDen (d : Int) (zss : List (List Int)) : Int := if colsOf zss = 0 then 1 else d / madeG d zss.flatten
def madeRows (d : Int) (zss : List (List Int)) : List (List Int) := zss.map fun zs => zs.map fun z => z / madeG d zss.flatten
/-- a matrix in new memory -/
def RMat (w : World) (de : Int) (zss : List (List Int)) (e : Ending) (w' : World) : Prop := ∃ a n c a2 n2 c2, e = .returned (.agg #[.bool (decide (de < 0)), .slice a n c, .slice a2 n2 c2]) ∧ NatS w.heap.size w' a n c (limbs de.natAbs) ∧ Sl rRowsN w.heap.size w' a2 n2 c2 zss ∧ Ext w w'
def zssOf {w : World} (xss : List (List (IntAt w))) : List (List Int) := xss.map fun xs => xs.map IntAt.z

/-- the state of made behind its first loop: the boxes, the divisor, the mark -/
structure MSt (w : World) (b : Bool) (a : Option Addr) (n c D : Nat) (zg : Int) (W : World) : Prop where
  p0 : Blk W w.heap.size 25 #[.bool b, .slice a n c]
  r : Blk W (w.heap.size + 1) 28 #[.bool false, .slice none 0 0, .slice none 0 0]
  g : ∃ a3 n3 c3, Blk W (w.heap.size + 1 + 1) 25 #[.bool (decide (zg < 0)), .slice a3 n3 c3] ∧ NatS (w.heap.size + 4) W a3 n3 c3 (limbs zg.natAbs)
  low : Below w.heap.size w W
  sz : w.heap.size + 4 ≤ W.heap.size
  mark : W.heap[D]? = some (.deferred (some []))

theorem MSt.ext {w : World} {b : Bool} {a : Option Addr} {n c D : Nat} {zg : Int} {W W' : World} (h : MSt w b a n c D zg W) (k : Ext W W') : MSt w b a n c D zg W' := by
  obtain ⟨a3, n3, c3, h3, h4⟩ := h.g
  exact ⟨h.p0.ext k, h.r.ext k, ⟨a3, n3, c3, h3.ext k, h4.ext (Nat.le_refl _) k⟩, h.low.trans (k.mono h.low.size), Nat.le_trans h.sz k.size, (k.block D (Array.getElem?_eq_some_iff.1 h.mark).1).trans h.mark⟩

theorem MSt.set {w : World} {b : Bool} {a : Option Addr} {n c D : Nat} {zg z : Int} {W : World} (h : MSt w b a n c D zg W) {a5 : Option Addr} {n5 c5 : Nat} (hN : NatS (w.heap.size + 4) W a5 n5 c5 (limbs z.natAbs)) :
    MSt w b a n c D z ((W.setCell ⟨w.heap.size + 1 + 1, 0, none⟩ (.bool (decide (z < 0)))).setCell ⟨w.heap.size + 1 + 1, 1, none⟩ (.slice a5 n5 c5)) := by
  obtain ⟨a3, n3, c3, h3, h4⟩ := h.g
  refine ⟨(h.p0.set_ne 0 _ (by omega)).set_ne 1 _ (by omega), (h.r.set_ne 0 _ (by omega)).set_ne 1 _ (by omega), ⟨a5, n5, c5, (h3.set 0 _).set 1 _, hN.mono (Nat.le_refl _) (Kept.trans (kept_set _ _ _ (by omega)) (kept_set _ _ _ (by omega)))⟩, ?_, ?_, ?_⟩
  · exact Below.setCell (Below.setCell h.low (p := ⟨w.heap.size + 1 + 1, 0, none⟩) (by simp; omega) _) (p := ⟨w.heap.size + 1 + 1, 1, none⟩) (by simp; omega) _
  · have := h.sz; simp [World.setCell]; omega
  · exact ((KeepsOthers.setCell _ _ _).trans (KeepsOthers.setCell _ _ _)).same D _ h.mark rfl

set_option maxRecDepth 100000 in
set_option maxHeartbeats 2000000 in
theorem made_any (w : World) (b : Bool) (a a2 : Option Addr) (n c m c2 : Nat) (l : Nt) (xss : List (List (IntAt w))) (h : NatS 0 w a n c l) (hG : GridAt w a2 m c2 xss) (hn : n ≤ 8796093022208) (d : Int) (hd : Hid (ival b l = d)) (hd0 : d ≠ 0) :
    Calls Tryz.prog 67 #[.agg #[.bool b, .slice a n c], .slice a2 m c2] w (RMat w (madeDen d (zssOf xss)) (madeRows d (zssOf xss))) := by
  have hdp := Lib.hid hd0
  clear hd0
  refine (callsIn_wide (n := 5)).1 ?_
  refine callsIn_of_wp_marks Tryz.func67 rfl trivial ?_ rfl
  simp only [Tryz.ntmps67, List.size_toArray, List.length_cons, List.length_nil, Nat.reduceAdd, Nat.reduceSub, Array.replicate_succ, Array.replicate_zero, List.push_toArray, List.append_toArray, List.nil_append, List.cons_append]
  gi_wp2_with (fail)
  refine ⟨trivial, (callsIn_wide.2 (gridEach_any a2 m c2 _)).mono ?_⟩
  rintro e w1 ⟨rfl, rfl⟩
  gi_wp2_with (fail)
  have p0 := Blk.new w 25 #[.bool b, .slice a n c]
  have r := Blk.new (w.alloc (Obj.cells #[.bool b, .slice a n c] 25)) 28 #[.bool false, .slice none 0 0, .slice none 0 0]
  replace p0 := p0.ext ((Below.refl _ _).alloc (Nat.le_refl _) (Obj.cells #[.bool false, .slice none 0 0, .slice none 0 0] 28))
  have g := Blk.new ((w.alloc (Obj.cells #[.bool b, .slice a n c] 25)).alloc (Obj.cells #[.bool false, .slice none 0 0, .slice none 0 0] 28)) 25 #[.bool false, .slice none 0 0]
  replace p0 := p0.ext ((Below.refl _ _).alloc (Nat.le_refl _) (Obj.cells #[.bool false, .slice none 0 0] 25))
  replace r := r.ext ((Below.refl _ _).alloc (Nat.le_refl _) (Obj.cells #[.bool false, .slice none 0 0] 25))
  have s := Blk.new (((w.alloc (Obj.cells #[.bool b, .slice a n c] 25)).alloc (Obj.cells #[.bool false, .slice none 0 0, .slice none 0 0] 28)).alloc (Obj.cells #[.bool false, .slice none 0 0] 25)) 91 #[.slice a2 m c2]
  replace p0 := p0.ext ((Below.refl _ _).alloc (Nat.le_refl _) (Obj.cells #[.slice a2 m c2] 91))
  replace r := r.ext ((Below.refl _ _).alloc (Nat.le_refl _) (Obj.cells #[.slice a2 m c2] 91))
  replace g := g.ext ((Below.refl _ _).alloc (Nat.le_refl _) (Obj.cells #[.slice a2 m c2] 91))
  have hEW : Ext w ((((w.alloc (Obj.cells #[.bool b, .slice a n c] 25)).alloc (Obj.cells #[.bool false, .slice none 0 0, .slice none 0 0] 28)).alloc (Obj.cells #[.bool false, .slice none 0 0] 25)).alloc (Obj.cells #[.slice a2 m c2] 91)) := (((((Below.refl _ w).alloc (by simp) _).alloc (by simp) _).alloc (by simp; omega) _).alloc (by simp; omega) _)
  generalize hgW : (((w.alloc (Obj.cells #[.bool b, .slice a n c] 25)).alloc (Obj.cells #[.bool false, .slice none 0 0, .slice none 0 0] 28)).alloc (Obj.cells #[.bool false, .slice none 0 0] 25)).alloc (Obj.cells #[.slice a2 m c2] 91) = W at *
  clear hgW
  simp only [World.size_alloc] at r g s
  have p0_ne_r : ¬ w.heap.size = w.heap.size + 1 := by omega
  have p0_ne_g : ¬ w.heap.size = w.heap.size + 1 + 1 := by omega
  have p0_ne_s : ¬ w.heap.size = w.heap.size + 1 + 1 + 1 := by omega
  have r_ne_p0 : ¬ w.heap.size + 1 = w.heap.size := by omega
  have r_ne_g : ¬ w.heap.size + 1 = w.heap.size + 1 + 1 := by omega
  have r_ne_s : ¬ w.heap.size + 1 = w.heap.size + 1 + 1 + 1 := by omega
  have g_ne_p0 : ¬ w.heap.size + 1 + 1 = w.heap.size := by omega
  have g_ne_r : ¬ w.heap.size + 1 + 1 = w.heap.size + 1 := by omega
  have g_ne_s : ¬ w.heap.size + 1 + 1 = w.heap.size + 1 + 1 + 1 := by omega
  have s_ne_p0 : ¬ w.heap.size + 1 + 1 + 1 = w.heap.size := by omega
  have s_ne_r : ¬ w.heap.size + 1 + 1 + 1 = w.heap.size + 1 := by omega
  have s_ne_g : ¬ w.heap.size + 1 + 1 + 1 = w.heap.size + 1 + 1 := by omega
  replace p0_0 := p0.cell (i := 0) rfl
  replace p0_1 := p0.cell (i := 1) rfl
  replace r_0 := r.cell (i := 0) rfl
  replace r_1 := r.cell (i := 1) rfl
  replace r_2 := r.cell (i := 2) rfl
  replace r_f0 := r.free 0
  replace r_f1 := r.free 1
  replace r_f2 := r.free 2
  replace r_lt := r.lt
  replace g_0 := g.cell (i := 0) rfl
  replace g_1 := g.cell (i := 1) rfl
  replace g_f0 := g.free 0
  replace g_f1 := g.free 1
  replace g_lt := g.lt
  replace s_0 := s.cell (i := 0) rfl
  have hW4 : w.heap.size + 4 ≤ W.heap.size := s.lt
  have hEWs := hEW.size
  refine wpIn_rangeFunc_ownH (α := IntAt w) rfl (by omega) (gf := 102) (lb := #[.pointer (some ⟨w.heap.size + 1 + 1 + 1, 0, none⟩)]) rfl trivial (enters_of Tryz.func102 (by kernel_rfl) rfl)
    (each_stops w W 4 (by omega) (w.heap.size + 1 + 1 + 1) a2 m c2 xss hG hEW s.lt s_0) belowK_t (belowK_b hEW.size) (Below.refl _ _) (fun _ => rfl)
    (fun pre W' => Blk W' w.heap.size 25 #[.bool b, .slice a n c] ∧ Blk W' (w.heap.size + 1) 28 #[.bool false, .slice none 0 0, .slice none 0 0] ∧ (∃ a3 n3 c3, Blk W' (w.heap.size + 1 + 1) 25 #[.bool (decide (gcds (pre.map IntAt.z) < 0)), .slice a3 n3 c3] ∧ NatS (w.heap.size + 4) W' a3 n3 c3 (limbs (gcds (pre.map IntAt.z)).natAbs)) ∧ Below w.heap.size w W' ∧ w.heap.size + 4 ≤ W'.heap.size)
    (fun _ _ _ => False)
    (fun pre A B row hs hg hr => ⟨hs.1.own hg (fun r e => (hr r e).2), hs.2.1.own hg (fun r e => (hr r e).2), (by
      obtain ⟨a3, n3, c3, h1, h2⟩ := hs.2.2.1
      exact ⟨a3, n3, c3, h1.own hg (fun r e => (hr r e).2), h2.mono (Nat.le_refl _) (kept_own hg (fun r e => (hr r e).2))⟩), hs.2.2.2.1.grown hg hs.2.2.2.1.size (fun k e => Nat.le_trans hEW.size (hr k e).1), Nat.le_trans hs.2.2.2.2 hg.size⟩)
    (fun _ _ _ _ _ hs _ _ => hs)
    ⟨p0, r, ⟨none, 0, 0, g, natS_nil _ _⟩, hEW, hW4⟩
    (fun x a' W' => ∃ Bx, w.heap.size + 4 ≤ Bx ∧ Blk W' Bx 25 #[.bool x.b, .slice x.a x.n x.c] ∧ a' = { tmps := #[.agg #[.bool b, .slice a n c], .slice a2 m c2, .pointer (some ⟨w.heap.size, 0, none⟩), undef, .pointer (some ⟨w.heap.size + 1, 0, none⟩), .pointer (some ⟨w.heap.size + 1 + 1, 0, none⟩), .pointer (some ⟨Bx, 0, none⟩), undef, undef, undef, undef, undef, undef, undef, undef, .slice a2 m c2, .func (.func 102) #[] #[.pointer (some ⟨w.heap.size + 1 + 1 + 1, 0, none⟩)], .agg #[.bool x.b, .slice x.a x.n x.c], undef, undef, undef, undef, undef, undef, undef, undef, undef, undef, undef, undef, undef, undef, undef, undef, undef, undef, undef, undef, undef, undef, undef, undef, undef, undef, undef, undef, undef, undef, undef, undef, undef, undef, undef, undef, undef, undef, undef, undef, undef, undef, undef, undef, undef, undef, undef, undef, undef, undef, undef, undef, undef, undef, undef, undef, undef, undef, undef, undef, undef, undef, undef, undef, undef], defers := [] })
    (fun x a' _ A B row hs hg hr => by
      obtain ⟨Bx, h1, h2, h3⟩ := hs
      exact ⟨Bx, h1, h2.own hg (fun r e => (hr r e).2), h3⟩)
    ?assign ?body ?done ?stop
  case assign =>
    rintro l pre x W' K ⟨h1, h2, ⟨a3, n3, c3, h3, h4⟩, h5, h6⟩ hK
    dsimp only [IntAt.v]
    have hEA : Ext W' (W'.alloc (Obj.cells #[.bool x.b, .slice x.a x.n x.c] 25)) := (Below.refl _ _).alloc (Nat.le_refl _) _
    gi_wp2
    exact hK _ _ ((KeepsOthers.alloc _ _).from _) ((Below.refl _ W').alloc h5.size _) ⟨h1.ext hEA, h2.ext hEA, ⟨a3, n3, c3, h3.ext hEA, h4.ext (Nat.le_refl _) hEA⟩, h5.alloc h5.size _, Nat.le_trans h6 hEA.size⟩ ⟨W'.heap.size, h6, Blk.new _ _ _, rfl⟩
  case body =>
    rintro l pre x a' W' hl ⟨rr, hrr⟩ ⟨h1, h2, ⟨a3, n3, c3, h3, h4⟩, h5, h6⟩ ⟨Bx, hBx, hX, rfl⟩ hlen
    skip
    skip
    replace h3_0 := h3.cell (i := 0) rfl
    replace h3_1 := h3.cell (i := 1) rfl
    replace h3_f0 := h3.free 0
    replace h3_f1 := h3.free 1
    replace h3_lt := h3.lt
    replace hX_0 := hX.cell (i := 0) rfl
    replace hX_1 := hX.cell (i := 1) rfl
    have hgn : nl (gcds (pre.map IntAt.z)).natAbs ≤ 8796093022208 := nl_gcds _ (by intro y hy; obtain ⟨u, _, rfl⟩ := List.mem_map.1 hy; exact u.nl)
    have hgs : gcds ((pre ++ [x]).map IntAt.z) = gcdI (gcds (pre.map IntAt.z)) x.z := by rw [List.map_append]; exact gcds_snoc _ _
    have HGS := Lib.hid hgs
    clear hgs
    generalize gcds (pre.map IntAt.z) = zg at *
    have hB4 : Hid (Blk (W'.alloc (Obj.cells #[.bool (decide (zg < 0)), .slice a3 n3 c3, .bool x.b, .slice x.a x.n x.c] 25)) W'.heap.size 25 #[.bool (decide (zg < 0)), .slice a3 n3 c3, .bool x.b, .slice x.a x.n x.c]) := Lib.hid (Blk.new _ _ _)
    have hEA : Ext W' (W'.alloc (Obj.cells #[.bool (decide (zg < 0)), .slice a3 n3 c3, .bool x.b, .slice x.a x.n x.c] 25)) := (Below.refl _ _).alloc (Nat.le_refl _) _
    gi_wp2
    refine ⟨trivial, (CallsIn.inRound l (callsIn_wide.2 (zintGcd_any 0 _ _ 2 2 (decide (zg < 0), limbs zg.natAbs) (x.b, x.l) (ints2 hB4.out (Nat.zero_le _) (h4.ext (Nat.zero_le _) hEA) (x.h.ext (Nat.le_refl _) (h5.trans (hEA.mono h5.size)))) (by rw [length_limbs]; exact hgn) (by rw [x.h.len]; exact x.hn) zg x.z (hnorm zg) (Lib.hid rfl)))).mono ?_⟩
    rintro e W2 ⟨a5, n5, c5, rfl, h7, hE2⟩
    have hE3 := Ext.trans hEA hE2
    have h1 := h1.ext hE3
    have h2 := h2.ext hE3
    replace h3 := h3.ext hE3; replace h3_0 := h3.cell (i := 0) rfl; replace h3_1 := h3.cell (i := 1) rfl; replace h3_f0 := h3.free 0; replace h3_f1 := h3.free 1; replace h3_lt := h3.lt
    rw [show ((Int.gcd zg x.z : Nat) : Int) = gcdI zg x.z from rfl] at h7 ⊢
    rw [← HGS.out] at h7 ⊢
    generalize hz2 : gcds ((pre ++ [x]).map IntAt.z) = z2 at *
    have HZ2 := Lib.hid hz2
    clear hz2
    gi_wp2
    refine ⟨(((keepsOthers_ext hE3).trans (KeepsOthers.setCell _ _ _)).trans (KeepsOthers.setCell _ _ _)).from _, (((hE3.mono h5.size).setCell (p := ⟨w.heap.size + 1 + 1, 0, none⟩) (by simp; omega) _).setCell (p := ⟨w.heap.size + 1 + 1, 1, none⟩) (by simp; omega) _), (h1.set_ne 0 _ (by omega)).set_ne 1 _ (by omega), (h2.set_ne 0 _ (by omega)).set_ne 1 _ (by omega), ?_, ?_, ?_⟩
    · refine ⟨a5, n5, c5, ?_, ?_⟩
      · rw [HZ2.out]; exact (h3.set 0 _).set 1 _
      · rw [HZ2.out]; exact (h7.mono (B' := w.heap.size + 4) (by simp; omega) (Kept.refl _ _)).mono (Nat.le_refl _) (Kept.trans (kept_set _ _ _ (by omega)) (kept_set _ _ _ (by omega)))
    · exact h5.trans (((hE3.mono h5.size).setCell (p := ⟨w.heap.size + 1 + 1, 0, none⟩) (by simp; omega) _).setCell (p := ⟨w.heap.size + 1 + 1, 1, none⟩) (by simp; omega) _)
    · have := hE3.size
      simp [World.setCell]; omega
  case done =>
    rintro D xs W' hD rfl ⟨h1, h2, ⟨a3, n3, c3, h3, h4⟩, h5, h6⟩ hK
    generalize hzg : gcds (xss.flatten.map IntAt.z) = zg at *
    have hgn : nl zg.natAbs ≤ 8796093022208 := by rw [← hzg]; exact nl_gcds _ (by intro y hy; obtain ⟨u, _, rfl⟩ := List.mem_map.1 hy; exact u.nl)
    have HZG := Lib.hid hzg
    have HM : Hid (MSt w b a n c D zg W') := Lib.hid ⟨h1, h2, ⟨a3, n3, c3, h3, h4⟩, h5, h6, hK⟩
    have HN4 := Lib.hid h4
    clear hzg hK h5 h4 p0 r g s p0_0 p0_1 r_0 r_1 r_2 r_f0 r_f1 r_f2 r_lt g_0 g_1 g_f0 g_f1 g_lt s_0 hEW
    skip
    skip
    replace h1_0 := h1.cell (i := 0) rfl
    replace h1_1 := h1.cell (i := 1) rfl
    replace h3_0 := h3.cell (i := 0) rfl
    replace h3_1 := h3.cell (i := 1) rfl
    replace h3_f0 := h3.free 0
    replace h3_f1 := h3.free 1
    replace h3_lt := h3.lt
    gi_upto_if 24 with (fail)
    refine ⟨trivial, (callsIn_wide.2 (zintSign_z _ _ _ _ _ _ _ zg HN4.out (by have := len_norm HN4.out; omega) (hnorm zg))).mono ?_⟩
    rintro e W2 ⟨rfl, hE2⟩
    have HM2 := Lib.hid (HM.out.ext hE2)
    have HN5 := Lib.hid (HN4.out.ext (Nat.le_refl _) hE2)
    have hlow := HM2.out.low
    replace h1 := h1.ext hE2; replace h1_0 := h1.cell (i := 0) rfl; replace h1_1 := h1.cell (i := 1) rfl; replace h3 := h3.ext hE2; replace h3_0 := h3.cell (i := 0) rfl; replace h3_1 := h3.cell (i := 1) rfl; replace h3_f0 := h3.free 0; replace h3_f1 := h3.free 1; replace h3_lt := h3.lt
    gi_upto_if 24 with (fail)
    gi_cut [] from 18 (fun wx => Hid (MSt w b a n c D (gcdI zg d) wx))
    case first =>
      by_cases hz0 : zg = 0
      · have hs : (zg.sign == 0) = true := by subst hz0; rfl
        have hg0 : gcdI zg d = (d.natAbs : Int) := by subst hz0; unfold gcdI; rw [Int.gcd_zero_left]
        have HG0 := Lib.hid hg0
        clear hz0 hg0
        generalize zg.sign = sg at *
        gi_wp2
        refine ⟨trivial, (callsIn_wide.2 (zintAbs_z b 0 W2 a n c l d (h.ext (Nat.le_refl _) hlow) (by omega) hd)).mono ?_⟩
        rintro e W3 ⟨a5, n5, c5, rfl, h7, hE3⟩
        have HM3 := Lib.hid ((HM2.out.ext hE3).set (h7.mono (B' := w.heap.size + 4) HM2.out.sz (Kept.refl _ _)))
        replace h3 := h3.ext hE3; replace h3_0 := h3.cell (i := 0) rfl; replace h3_1 := h3.cell (i := 1) rfl; replace h3_f0 := h3.free 0; replace h3_f1 := h3.free 1; replace h3_lt := h3.lt
        rw [← HG0.out] at *
        generalize gcdI zg d = zz at *
        gi_wp2
        gi_meet
        exact HM3
      · have hs : (zg.sign == 0) = false := by simpa using hz0
        clear hz0
        generalize zg.sign = sg at *
        have hB4 : Hid (Blk (W2.alloc (Obj.cells #[.bool (decide (zg < 0)), .slice a3 n3 c3, .bool b, .slice a n c] 25)) W2.heap.size 25 #[.bool (decide (zg < 0)), .slice a3 n3 c3, .bool b, .slice a n c]) := Lib.hid (Blk.new _ _ _)
        have hEA : Ext W2 (W2.alloc (Obj.cells #[.bool (decide (zg < 0)), .slice a3 n3 c3, .bool b, .slice a n c] 25)) := (Below.refl _ _).alloc (Nat.le_refl _) _
        gi_wp2
        refine ⟨trivial, (callsIn_wide.2 (zintGcd_any 0 _ _ 2 2 (decide (zg < 0), limbs zg.natAbs) (b, l) (ints2 hB4.out (Nat.zero_le _) (HN5.out.ext (Nat.zero_le _) hEA) (h.ext (Nat.le_refl _) (hlow.trans (hEA.mono hlow.size)))) (by rw [length_limbs]; exact hgn) (by rw [h.len]; exact hn) zg d (hnorm zg) hd)).mono ?_⟩
        rintro e W3 ⟨a5, n5, c5, rfl, h7, hE3⟩
        have hE4 := Ext.trans hEA hE3
        have HM3 := Lib.hid ((HM2.out.ext hE4).set (h7.mono (B' := w.heap.size + 4) (Nat.le_trans HM2.out.sz hEA.size) (Kept.refl _ _)))
        replace h3 := h3.ext hE4; replace h3_0 := h3.cell (i := 0) rfl; replace h3_1 := h3.cell (i := 1) rfl; replace h3_f0 := h3.free 0; replace h3_f1 := h3.free 1; replace h3_lt := h3.lt
        rw [show ((Int.gcd zg d : Nat) : Int) = gcdI zg d from rfl] at *
        generalize gcdI zg d = zz at *
        gi_wp2
        gi_meet
        exact HM3
    case rest =>
      have hG0 : 0 < gcdI zg d := by
        unfold gcdI
        have := Int.gcd_pos_of_ne_zero_right zg hdp.out
        omega
      have hGn : nl (gcdI zg d).natAbs ≤ 8796093022208 := by
        unfold gcdI
        rw [Int.natAbs_natCast]
        exact nl_gcd hgn (Nat.le_trans (nl_of h hd) hn)
      have hGd : gcdI zg d ∣ d := by unfold gcdI; exact Int.gcd_dvd_right ..
      have hGx : ∀ x ∈ xss.flatten, gcdI zg d ∣ x.z := fun x hx => by
        have h1 : zg ∣ x.z := by rw [← HZG.out]; exact gcds_dvd _ _ (List.mem_map_of_mem hx)
        exact Int.dvd_trans (by unfold gcdI; exact Int.gcd_dvd_left ..) h1
      have HC := hcut
      clear hcut HM2 HN5 HM HN4 hgn h1 h2 h3 h6
      generalize hGE : gcdI zg d = G at *
      have HGE := Lib.hid hGE
      clear hGE
      have h1 := HC.out.p0
      obtain ⟨a3, n3, c3, h3, hN3⟩ := HC.out.g
      have HN3 := Lib.hid hN3
      have hlow := HC.out.low
      clear hN3
      replace h1_0 := h1.cell (i := 0) rfl
      replace h1_1 := h1.cell (i := 1) rfl
      replace h3_0 := h3.cell (i := 0) rfl
      replace h3_1 := h3.cell (i := 1) rfl
      replace h3_f0 := h3.free 0
      replace h3_f1 := h3.free 1
      replace h3_lt := h3.lt
      gi_upto_if 33 with (fail)
      refine ⟨trivial, (callsIn_wide.2 (zintSign_z b 0 wc a n c l d (h.ext (Nat.le_refl _) hlow) (by omega) hd)).mono ?_⟩
      rintro e W4 ⟨rfl, hE4⟩
      have HM4 := Lib.hid (HC.out.ext hE4)
      have HN5 := Lib.hid (HN3.out.ext (Nat.le_refl _) hE4)
      replace h1 := h1.ext hE4; replace h1_0 := h1.cell (i := 0) rfl; replace h1_1 := h1.cell (i := 1) rfl; replace h3 := h3.ext hE4; replace h3_0 := h3.cell (i := 0) rfl; replace h3_1 := h3.cell (i := 1) rfl; replace h3_f0 := h3.free 0; replace h3_f1 := h3.free 1; replace h3_lt := h3.lt
      gi_upto_if 33 with (fail)
      gi_cut [] from 18 (fun wx => Hid (MSt w b a n c D (if d < 0 then -G else G) wx))
      case first =>
        by_cases hdn : d < 0
        · gi_wp2
          refine ⟨trivial, (callsIn_wide.2 (zintNeg_z _ _ W4 a3 n3 c3 _ G HN5.out (by have := len_norm HN5.out; omega) (hnorm G))).mono ?_⟩
          rintro e W5 ⟨a5, n5, c5, rfl, h7, hE5⟩
          have HM5 := Lib.hid ((HM4.out.ext hE5).set (h7.mono (B' := w.heap.size + 4) HM4.out.sz (Kept.refl _ _)))
          replace h3 := h3.ext hE5; replace h3_0 := h3.cell (i := 0) rfl; replace h3_1 := h3.cell (i := 1) rfl; replace h3_f0 := h3.free 0; replace h3_f1 := h3.free 1; replace h3_lt := h3.lt
          generalize -G = zz at *
          gi_wp2
          gi_meet
          rw [if_pos hdn]
          exact HM5
        · gi_wp2
          gi_meet
          rw [if_neg (by omega)]
          exact HM4
      case rest =>
        rename World => wb
        have hG1 : Hid ((if d < 0 then -G else G) ≠ 0) := Lib.hid (by split <;> omega)
        have hG2 : Hid ((if d < 0 then -G else G) ∣ d) := Lib.hid (by split; exact Int.neg_dvd.2 hGd; exact hGd)
        have hG3 : Hid (∀ x ∈ xss.flatten, (if d < 0 then -G else G) ∣ x.z) := Lib.hid (fun x hx => by split; exact Int.neg_dvd.2 (hGx x hx); exact hGx x hx)
        have HC2 := hcut
        clear hcut HM4 HN5 HN3 HC h1 h3 hGd hGx hlow
        generalize hg1 : (if d < 0 then -G else G) = g1 at *
        have HG1 := Lib.hid hg1
        clear hg1
        have h1 := HC2.out.p0
        have hrr := HC2.out.r
        obtain ⟨a5, n5, c5, h3, hN3⟩ := HC2.out.g
        have HN3 := Lib.hid hN3
        have hlow := HC2.out.low
        have hsz := HC2.out.sz
        clear hN3
        skip
        skip
        skip
        replace h1_0 := h1.cell (i := 0) rfl
        replace h1_1 := h1.cell (i := 1) rfl
        replace h1_f0 := h1.free 0
        replace h1_f1 := h1.free 1
        replace h1_lt := h1.lt
        replace h3_0 := h3.cell (i := 0) rfl
        replace h3_1 := h3.cell (i := 1) rfl
        replace h3_f0 := h3.free 0
        replace h3_f1 := h3.free 1
        replace h3_lt := h3.lt
        replace hrr_0 := hrr.cell (i := 0) rfl
        replace hrr_1 := hrr.cell (i := 1) rfl
        replace hrr_2 := hrr.cell (i := 2) rfl
        replace hrr_f0 := hrr.free 0
        replace hrr_f1 := hrr.free 1
        replace hrr_f2 := hrr.free 2
        replace hrr_lt := hrr.lt
        gi_upto_region 11 with (fail)
        have o := Blk.new wb 28 #[.bool false, .slice none 0 0, .slice none 0 0]
        have hEW6 : Ext wb (wb.alloc (Obj.cells #[.bool false, .slice none 0 0, .slice none 0 0] 28)) := ((Below.refl _ wb).alloc (by simp) _)
        generalize hgW6 : wb.alloc (Obj.cells #[.bool false, .slice none 0 0, .slice none 0 0] 28) = W6 at *
        clear hgW6
        replace o_0 := o.cell (i := 0) rfl
        replace o_1 := o.cell (i := 1) rfl
        replace o_2 := o.cell (i := 2) rfl
        replace o_f0 := o.free 0
        replace o_f1 := o.free 1
        replace o_f2 := o.free 2
        replace o_lt := o.lt
        replace h1 := h1.ext hEW6; replace h1_0 := h1.cell (i := 0) rfl; replace h1_1 := h1.cell (i := 1) rfl; replace h1_f0 := h1.free 0; replace h1_f1 := h1.free 1; replace h1_lt := h1.lt; replace h3 := h3.ext hEW6; replace h3_0 := h3.cell (i := 0) rfl; replace h3_1 := h3.cell (i := 1) rfl; replace h3_f0 := h3.free 0; replace h3_f1 := h3.free 1; replace h3_lt := h3.lt; replace hrr := hrr.ext hEW6; replace hrr_0 := hrr.cell (i := 0) rfl; replace hrr_1 := hrr.cell (i := 1) rfl; replace hrr_2 := hrr.cell (i := 2) rfl; replace hrr_f0 := hrr.free 0; replace hrr_f1 := hrr.free 1; replace hrr_f2 := hrr.free 2; replace hrr_lt := hrr.lt
        have hlow6 := hlow.trans (hEW6.mono hlow.size)
        have HN6 := Lib.hid (HN3.out.ext (Nat.le_refl _) hEW6)
        have hoW := o_lt
        clear HN3 hlow
        gi_upto_region 12 with (fail)
        refine ⟨trivial, (callsIn_wide.2 (zintExact_z b _ 0 W6 a a5 n c n5 c5 l _ d g1 (h.ext (Nat.le_refl _) hlow6) (HN6.out.mono (Nat.zero_le _) (Kept.refl _ _)) hn hd (hnorm g1) hG1.out hG2.out)).mono ?_⟩
        rintro e W7 ⟨v7, rfl, ⟨a7, n7, c7, rfl, h7⟩, hE7⟩
        replace h1 := h1.ext hE7; replace h1_0 := h1.cell (i := 0) rfl; replace h1_1 := h1.cell (i := 1) rfl; replace h1_f0 := h1.free 0; replace h1_f1 := h1.free 1; replace h1_lt := h1.lt; replace h3 := h3.ext hE7; replace h3_0 := h3.cell (i := 0) rfl; replace h3_1 := h3.cell (i := 1) rfl; replace h3_f0 := h3.free 0; replace h3_f1 := h3.free 1; replace h3_lt := h3.lt; replace hrr := hrr.ext hE7; replace hrr_0 := hrr.cell (i := 0) rfl; replace hrr_1 := hrr.cell (i := 1) rfl; replace hrr_2 := hrr.cell (i := 2) rfl; replace hrr_f0 := hrr.free 0; replace hrr_f1 := hrr.free 1; replace hrr_f2 := hrr.free 2; replace hrr_lt := hrr.lt; replace o := o.ext hE7; replace o_0 := o.cell (i := 0) rfl; replace o_1 := o.cell (i := 1) rfl; replace o_2 := o.cell (i := 2) rfl; replace o_f0 := o.free 0; replace o_f1 := o.free 1; replace o_f2 := o.free 2; replace o_lt := o.lt
        have hEc := Ext.trans hEW6 hE7
        generalize hdg : d / g1 = dg at *
        have HDG := Lib.hid hdg
        clear HN6 hlow6 hEW6 hE7 hdg
        gi_upto_region 12 with (fail)
        replace o := o.set 0 (.bool (decide (dg < 0)))
        replace h1 := h1.set_ne 0 (.bool (decide (dg < 0))) (show w.heap.size ≠ wb.heap.size by omega)
        replace h3 := h3.set_ne 0 (.bool (decide (dg < 0))) (show (w.heap.size + 1 + 1) ≠ wb.heap.size by omega)
        replace hrr := hrr.set_ne 0 (.bool (decide (dg < 0))) (show (w.heap.size + 1) ≠ wb.heap.size by omega)
        replace o := o.set 1 (.slice a7 n7 c7)
        replace h1 := h1.set_ne 1 (.slice a7 n7 c7) (show w.heap.size ≠ wb.heap.size by omega)
        replace h3 := h3.set_ne 1 (.slice a7 n7 c7) (show (w.heap.size + 1 + 1) ≠ wb.heap.size by omega)
        replace hrr := hrr.set_ne 1 (.slice a7 n7 c7) (show (w.heap.size + 1) ≠ wb.heap.size by omega)
        have hKW8 : ∀ bB_ : Nat, wb.heap.size < bB_ → Kept bB_ W7 (((W7).setCell ⟨wb.heap.size, 0, none⟩ (.bool (decide (dg < 0)))).setCell ⟨wb.heap.size, 1, none⟩ (.slice a7 n7 c7)) := fun bB_ h0 => (Kept.trans (kept_set _ _ _ h0) (kept_set _ _ _ h0))
        have hzW8 : W7.heap.size ≤ (((W7).setCell ⟨wb.heap.size, 0, none⟩ (.bool (decide (dg < 0)))).setCell ⟨wb.heap.size, 1, none⟩ (.slice a7 n7 c7)).heap.size := by simp only [World.setCell, Array.size_modify]; exact Nat.le_refl _
        have hSW8 : ∀ (nB_ : Nat) (uB_ : World), nB_ ≤ wb.heap.size → Below nB_ uB_ W7 → Below nB_ uB_ (((W7).setCell ⟨wb.heap.size, 0, none⟩ (.bool (decide (dg < 0)))).setCell ⟨wb.heap.size, 1, none⟩ (.slice a7 n7 c7)) := fun nB_ uB_ h0 hb => (Below.setCell (Below.setCell hb (p := ⟨wb.heap.size, 0, none⟩) h0 (.bool (decide (dg < 0)))) (p := ⟨wb.heap.size, 1, none⟩) h0 (.slice a7 n7 c7))
        replace o : Blk (((W7).setCell ⟨wb.heap.size, 0, none⟩ (.bool (decide (dg < 0)))).setCell ⟨wb.heap.size, 1, none⟩ (.slice a7 n7 c7)) (wb.heap.size) 28 #[.bool (decide (dg < 0)), .slice a7 n7 c7, .slice none 0 0] := o
        generalize hgW8 : ((W7).setCell ⟨wb.heap.size, 0, none⟩ (.bool (decide (dg < 0)))).setCell ⟨wb.heap.size, 1, none⟩ (.slice a7 n7 c7) = W8 at *
        clear hgW8
        replace o_0 := o.cell (i := 0) rfl
        replace o_1 := o.cell (i := 1) rfl
        replace o_2 := o.cell (i := 2) rfl
        replace o_f0 := o.free 0
        replace o_f1 := o.free 1
        replace o_f2 := o.free 2
        replace o_lt := o.lt
        replace h1_0 := h1.cell (i := 0) rfl
        replace h1_1 := h1.cell (i := 1) rfl
        replace h1_f0 := h1.free 0
        replace h1_f1 := h1.free 1
        replace h1_lt := h1.lt
        replace h3_0 := h3.cell (i := 0) rfl
        replace h3_1 := h3.cell (i := 1) rfl
        replace h3_f0 := h3.free 0
        replace h3_f1 := h3.free 1
        replace h3_lt := h3.lt
        replace hrr_0 := hrr.cell (i := 0) rfl
        replace hrr_1 := hrr.cell (i := 1) rfl
        replace hrr_2 := hrr.cell (i := 2) rfl
        replace hrr_f0 := hrr.free 0
        replace hrr_f1 := hrr.free 1
        replace hrr_f2 := hrr.free 2
        replace hrr_lt := hrr.lt
        have h8 := h7.mono (Nat.le_refl _) (hKW8 _ hoW)
        have hEc := hSW8 _ _ (Nat.le_refl _) hEc
        have H8 := Lib.hid (h8.mono (B' := wb.heap.size + 1) hoW (Kept.refl _ _))
        have HEc := Lib.hid hEc
        have hlow8 := HC2.out.low.trans (hEc.mono HC2.out.low.size)
        clear h7 h8 hEc hKW8 hSW8
        gi_upto_if 46 with (fail)
        refine ⟨trivial, (callsIn_wide.2 (gridCols_any w W8 a2 m c2 xss hG hlow8)).mono ?_⟩
        rintro e W9 ⟨rfl, rfl⟩
        gi_upto_if 46 with (fail)
        gi_cut [] from 18 (fun wx => ∃ a8 n8 c8, Hid (Blk wx wb.heap.size 28 #[.bool (decide ((if colsOf xss = 0 then 1 else dg) < 0)), .slice a8 n8 c8, .slice none 0 0]) ∧ Hid (NatS (wb.heap.size + 1) wx a8 n8 c8 (limbs (if colsOf xss = 0 then 1 else dg).natAbs)) ∧ Hid (Ext wb wx))
        case first =>
          have hrc : (⟨wb.heap.size, 0, none⟩ : Addr).block = wb.heap.size := rfl
          by_cases hc0 : colsOf xss = 0
          · have hcz : ((colsOf xss : Int) == 0) = true := by rw [hc0]; rfl
            have HCZ := Lib.hid hc0
            clear hc0
            generalize (colsOf xss : Int) = cz at *
            gi_wp2
            have hoW9 := o_lt
            refine ⟨trivial, (callsIn_wide.2 (zintOf_any 1 W9 (by omega) (by omega))).mono ?_⟩
            rintro e W10 ⟨a10, n10, c10, rfl, h10, hE10⟩
            replace o := o.ext hE10; replace o_0 := o.cell (i := 0) rfl; replace o_1 := o.cell (i := 1) rfl; replace o_2 := o.cell (i := 2) rfl; replace o_f0 := o.free 0; replace o_f1 := o.free 1; replace o_f2 := o.free 2; replace o_lt := o.lt
            gi_wp2
            gi_meet
            have hE11 := Ext.trans HEc.out hE10
            refine ⟨a10, n10, c10, ?_, ?_, Lib.hid (Below.setCell (Below.setCell hE11 (p := ⟨wb.heap.size, 0, none⟩) (Nat.le_refl _) _) (p := ⟨wb.heap.size, 1, none⟩) (Nat.le_refl _) _)⟩
            · rw [if_pos HCZ.out]
              exact Lib.hid ((o.set 0 _).set 1 _)
            · rw [if_pos HCZ.out]
              exact Lib.hid ((h10.mono (Nat.le_refl _) (Kept.trans (kept_set _ _ _ hoW9) (kept_set _ _ _ hoW9))).mono hoW9 (Kept.refl _ _))
          · have hcz : ((colsOf xss : Int) == 0) = false := by simpa using hc0
            have HCZ := Lib.hid hc0
            clear hc0
            generalize (colsOf xss : Int) = cz at *
            gi_wp2
            gi_meet
            exact ⟨a7, n7, c7, by rw [if_neg HCZ.out]; exact Lib.hid o, by rw [if_neg HCZ.out]; exact H8, HEc⟩
        case rest =>
          obtain ⟨a8, n8, c8, HO, HN8, HEx⟩ := hcut
          have HM := Lib.hid (HC2.out.ext HEx.out)
          clear HEc H8 o h1 h3 hrr h1_0 h1_1 h1_f0 h1_f1 h1_lt h3_0 h3_1 h3_f0 h3_f1 h3_lt hrr_0 hrr_1 hrr_2 hrr_f0 hrr_f1 hrr_f2 hrr_lt o_0 o_1 o_2 o_f0 o_f1 o_f2 o_lt hlow8
          generalize hde : (if colsOf xss = 0 then 1 else dg) = de at *
          have HDE := Lib.hid hde
          clear hde
          rename World => wd
          have HGR := Lib.hid hG
          have hm := hG.most
          have HHL := HM.out.low
          have hwbd := HO.out.lt
          clear hG hGn hG0 hdp
          gi_wp2
          gi_loopg [51] m (fun k vi wr => ∃ (i : Nat) (vo : Value), i ≤ m ∧ k = m - i ∧ vi = .int .i64 (i : Int) ∧ Hid (Blk wr wb.heap.size 28 #[.bool (decide (de < 0)), .slice a8 n8 c8, vo]) ∧ wd.heap.size ≤ wr.heap.size ∧ Hid (∃ css, Grp rRowsN wd.heap.size 30 wr vo i ((zssOf (xss.take i)).map fun zs => zs.map fun z => z / g1) css) ∧ Hid (∀ b, wb.heap.size + 1 ≤ b → b < wd.heap.size → wr.heap[b]? = wd.heap[b]?) ∧ Hid (Ext wb wr))
          case atStart => exact ⟨0, _, Nat.zero_le _, rfl, rfl, HO, Nat.le_refl _, Lib.hid ⟨[], Grp.nil _ _ _ _⟩, Lib.hid (fun _ _ _ => rfl), HEx⟩
          case round =>
            obtain ⟨i, vo, hi, hk, rfl, HB, hwr, HGp, HNi, HEr⟩ := hrel
            by_cases him : i < m
            · rename World => wo
              obtain ⟨b2, o2, rfl, hb2, hcs⟩ := HGR.out.cells (by omega)
              have hil : i < xss.length := by rw [HGR.out.len]; exact him
              obtain ⟨a1, n1, c1, hc1, hrow⟩ := hcs i hil
              have HMr := Lib.hid (HC2.out.ext HEr.out)
              have hlr := HMr.out.low
              have hc2 := (hlr.cell (p := ⟨b2, o2 + i, none⟩) hb2).trans hc1
              have HRow := Lib.hid hrow
              have hn1 := hrow.most
              obtain ⟨cur, hcur, hmk⟩ := make_any under_ints info_int 0 n1 (Nat.zero_le _) (by omega) (by omega)
              have hmk : ∀ w, (Instr.makeSlice 30 (.int .i64 0) (.int .i64 (n1 : Int))).run Tryz.prog w = .ok (.slice (some ⟨w.heap.size, 0, none⟩) 0 n1) (w.alloc (.cells cur 25)) := hmk
              have HCur := Lib.hid hcur
              obtain ⟨a6, n6, c6, hg6, hN6⟩ := HMr.out.g
              have HN6 := Lib.hid hN6
              have hob := HB.out
              clear hc1 hcs hrow hcur hN6
              skip
              replace hg6_0 := hg6.cell (i := 0) rfl
              replace hg6_1 := hg6.cell (i := 1) rfl
              replace hg6_f0 := hg6.free 0
              replace hg6_f1 := hg6.free 1
              replace hg6_lt := hg6.lt
              have hEA : Ext wo (wo.alloc (Obj.cells cur 25)) := (Below.refl _ _).alloc (Nat.le_refl _) _
              have hG0 : Grp rIntN wo.heap.size 25 (wo.alloc (Obj.cells cur 25)) (.slice (some ⟨wo.heap.size, 0, none⟩) 0 n1) 0 [] [] := ⟨rfl, rfl, World.ownsRow_made wo cur n1 (Nat.le_refl _) (by unfold maxLen; omega) HCur.out, fun k hk => absurd hk (by simp)⟩
              have HG0 := Lib.hid hG0
              clear hG0
              generalize hxs : xss[i]'hil = xs at *
              have HXS := Lib.hid hxs
              clear hxs
              gi_wp2
              gi_loopg [10, 60] n1 (fun k vr vi w2 => ∃ (j : Nat), j ≤ n1 ∧ k = n1 - j ∧ vi = .int .i64 (j : Int) ∧ Hid (∃ css, Grp rIntN wo.heap.size 25 w2 vr j ((xs.take j).map fun x => x.z / g1) css) ∧ Hid (Ext wo w2))
              case atStart => exact ⟨0, Nat.zero_le _, rfl, rfl, Lib.hid ⟨[], HG0.out⟩, Lib.hid hEA⟩
              case round =>
                obtain ⟨j, hj, hk2, rfl, HGj, HEj⟩ := hrel
                by_cases hjn : j < n1
                · obtain ⟨b3, o3, rfl, hb3, hcs3⟩ := HRow.out.cells (by omega)
                  have hjl : j < xs.length := by rw [HRow.out.len]; exact hjn
                  obtain ⟨hd1, hd2⟩ := hcs3 j hjl
                  have hlow3 := hlr.trans (HEj.out.mono hlr.size)
                  have hd1 := (hlow3.cell (p := ⟨b3, o3 + j * 2, none⟩) hb3).trans hd1
                  have hd2 := (hlow3.cell (p := ⟨b3, o3 + j * 2 + 1, none⟩) hb3).trans hd2
                  have HT : Hid ((xs.take (j + 1)).map (fun x => x.z / g1) = (xs.take j).map (fun x => x.z / g1) ++ [xs[j].z / g1]) := Lib.hid (by rw [List.take_succ_eq_append_getElem hjl, List.map_append]; rfl)
                  have HDV : Hid (g1 ∣ xs[j].z) := Lib.hid (hG3.out _ (by
                    rw [List.mem_flatten]
                    exact ⟨xs, by rw [← HXS.out]; exact List.getElem_mem _, List.getElem_mem _⟩))
                  clear hcs3
                  generalize xs[j] = x at *
                  have hg6 := hg6.ext HEj.out
                  replace hg6_0 := hg6.cell (i := 0) rfl
                  replace hg6_1 := hg6.cell (i := 1) rfl
                  replace hg6_f0 := hg6.free 0
                  replace hg6_f1 := hg6.free 1
                  replace hg6_lt := hg6.lt
                  have hEX : Ext wr (wr.alloc (Obj.cells #[.bool x.b, .slice x.a x.n x.c] 25)) := (Below.refl _ _).alloc (Nat.le_refl _) _
                  gi_wp2
                  refine ⟨trivial, (callsIn_wide.2 (zintExact_z x.b _ 0 _ x.a a6 x.n x.c n6 c6 x.l _ x.z g1 (x.h.ext (Nat.le_refl _) (hlow3.trans (hEX.mono hlow3.size))) (HN6.out.ext (Nat.zero_le _) (Ext.trans HEj.out hEX)) x.hn (Lib.hid rfl) (hnorm g1) hG1.out HDV.out)).mono ?_⟩
                  rintro e W7 ⟨v7, rfl, ⟨a7, n7, c7, rfl, h7⟩, hE7⟩
                  have hE8 := Ext.trans hEX hE7
                  generalize x.z / g1 = zq at *
                  have hQ1 : Ext W7 (W7.alloc (Obj.cells #[.bool (decide (zq < 0)), .slice a7 n7 c7] 25)) := (Below.refl _ _).alloc (Nat.le_refl _) _
                  have hQ2 := Ext.trans hQ1 ((Below.refl _ _).alloc (Nat.le_refl _) (Obj.cells #[.bool (decide (zq < 0)), .slice a7 n7 c7] 25))
                  have hEL : Blk ((W7.alloc (Obj.cells #[.bool (decide (zq < 0)), .slice a7 n7 c7] 25)).alloc (Obj.cells #[.bool (decide (zq < 0)), .slice a7 n7 c7] 25)) (W7.heap.size + 1) 25 #[.bool (decide (zq < 0)), .slice a7 n7 c7] := by have := Blk.new (W7.alloc (Obj.cells #[.bool (decide (zq < 0)), .slice a7 n7 c7] 25)) 25 #[.bool (decide (zq < 0)), .slice a7 n7 c7]; simpa only [World.size_alloc] using this
                  have hE9 := Ext.trans hE8 hQ2
                  obtain ⟨css, hGj⟩ := HGj.out
                  have hlt10 := hGj.own.lt
                  have hG9 := Lib.hid (hGj.keep hE9.size (fun b _ h2 => hE9.block b h2))
                  have H79 := Lib.hid (h7.ext (Nat.le_refl _) hQ2)
                  have HE9 := Lib.hid (Ext.trans HEj.out hE9)
                  obtain ⟨i0, hi0, hz0, hz1, hz2⟩ := info_parts info_int
                  have hnews : ∀ (j' : Nat) (u : Value), [Value.bool (decide (zq < 0)), .slice a7 n7 c7][j']? = some u → ((W7.alloc (Obj.cells #[.bool (decide (zq < 0)), .slice a7 n7 c7] 25)).alloc (Obj.cells #[.bool (decide (zq < 0)), .slice a7 n7 c7] 25)).cell? ((⟨W7.heap.size + 1, 0, none⟩ : Addr).add j') = some u := fun j' u hu => by
                    match j', hu with
                    | 0, hu => cases hu; exact hEL.cell (i := 0) rfl
                    | 1, hu => cases hu; exact hEL.cell (i := 1) rfl
                    | k + 2, hu => simp at hu
                  clear hGj h7 hE9 hEL hE8
                  gi_wp2_with (gi_at_builtin; refine wpListIn_append_own_at _ rfl _ _ 30 rfl wo.heap.size 25 i0 _ 2 32 under_ints hi0 hz0 hz1 hz2 rfl (by decide) _ _ _ rfl hG9.out.own ⟨W7.heap.size + 1, 0, none⟩ 1 1 [.bool (decide (zq < 0)), .slice a7 n7 c7] rfl rfl hnews (by simp [Value.oneCell']) (by unfold maxLen; omega) (by omega) (by have := HE9.out.size; exact this) ?_; intro v' w1 hown' hgrow _ hat)
                  gi_roundg (n1 - (j + 1))
                  case measure => omega
                  case rel =>
                    refine ⟨j + 1, by omega, rfl, by go_num, Lib.hid ⟨css ++ [[.bool (decide (zq < 0)), .slice a7 n7 c7]], ?_⟩, Lib.hid (HE9.out.grown hgrow HE9.out.size (fun k e => (hlt10 k e).1))⟩
                    rw [HT.out]
                    exact hG9.out.add hown' hgrow hat (x := zq) ⟨a7, n7, c7, rfl, H79.out⟩ (Nat.le_trans HEj.out.size hEX.size) (fun k e => Nat.lt_of_lt_of_le (hlt10 k e).2 hEX.size)
                · obtain rfl : j = n1 := by omega
                  obtain ⟨css, hGj⟩ := HGj.out
                  rw [List.take_of_length_le (by rw [HRow.out.len]; omega)] at hGj
                  obtain ⟨ar, cr, rfl, hsr⟩ := hGj.sl
                  have hobl := HB.out.lt
                  have hob := hob.ext HEj.out
                  have hEB : Ext wr (wr.alloc (Obj.cells #[.slice ar j cr] 30)) := (Below.refl _ _).alloc (Nat.le_refl _) _
                  have hEB2 := Ext.trans HEj.out hEB
                  obtain ⟨css2, hGo⟩ := HGp.out
                  have hlt11 := hGo.own.lt
                  have hG11 := Lib.hid (hGo.keep hEB2.size (fun b _ h2 => hEB2.block b h2))
                  have H11 := Lib.hid (hsr.ext (Nat.le_refl _) hEB)
                  have hEB2s := hEB2.size
                  have HN11 : Hid (∀ b, wb.heap.size + 1 ≤ b → b < wd.heap.size → (wr.alloc (Obj.cells #[.slice ar j cr] 30)).heap[b]? = wd.heap[b]?) := Lib.hid (fun b h1 h2 => (hEB2.block b (by omega)).trans (HNi.out b h1 h2))
                  have HE11 := Lib.hid (Ext.trans HEr.out hEB2)
                  have hob11 := hob.ext hEB
                  have hnews : ∀ (j' : Nat) (u : Value), [Value.slice ar j cr][j']? = some u → (wr.alloc (Obj.cells #[.slice ar j cr] 30)).cell? ((⟨wr.heap.size, 0, none⟩ : Addr).add j') = some u := fun j' u hu => by
                    match j', hu with
                    | 0, hu => cases hu; exact (Blk.new wr 30 #[.slice ar j cr]).cell (i := 0) rfl
                    | k + 1, hu => simp at hu
                  have HT2 : Hid ((zssOf (xss.take (i + 1))).map (fun zs => zs.map fun z => z / g1) = (zssOf (xss.take i)).map (fun zs => zs.map fun z => z / g1) ++ [xs.map fun x => x.z / g1]) := Lib.hid (by
                    rw [List.take_succ_eq_append_getElem hil, HXS.out]
                    simp [zssOf, List.map_map, Function.comp_def])
                  obtain ⟨i0, hi0, hz0, hz1, hz2⟩ := info_parts info_ints
                  clear hGo hGj hEB2 hsr
                  skip
                  replace hob_0 := hob.cell (i := 0) rfl
                  replace hob_1 := hob.cell (i := 1) rfl
                  replace hob_2 := hob.cell (i := 2) rfl
                  replace hob_f0 := hob.free 0
                  replace hob_f1 := hob.free 1
                  replace hob_f2 := hob.free 2
                  replace hob_lt := hob.lt
                  gi_wp2_with (gi_at_builtin; refine wpListIn_append_own_at _ rfl _ _ 26 rfl wd.heap.size 30 i0 _ 1 24 under_intss hi0 hz0 hz1 hz2 rfl (by decide) _ _ _ rfl hG11.out.own ⟨wr.heap.size, 0, none⟩ 1 1 [.slice ar j cr] rfl rfl hnews (by simp [Value.oneCell']) (by unfold maxLen; omega) (by omega) (by omega) ?_; intro v' w1 hown' hgrow _ hat; obtain ⟨g', cap', rfl⟩ := ownsRow_succ hown'; have hob := Blk.grown hob11 hgrow (fun e => by have := (hlt11 _ e.symm).1; omega); replace hob_0 := hob.cell (i := 0) rfl; replace hob_1 := hob.cell (i := 1) rfl; replace hob_2 := hob.cell (i := 2) rfl; replace hob_f0 := hob.free 0; replace hob_f1 := hob.free 1; replace hob_f2 := hob.free 2; replace hob_lt := hob.lt)
                  have hob2 := hob.set 2 (.slice (some ⟨g', 0, none⟩) (i + 1) cap')
                  have hGa := hG11.out.add (x := xs.map fun x => x.z / g1) (Bx := wo.heap.size) hown' hgrow hat ⟨ar, j, cr, rfl, H11.out⟩ (by omega) (fun k e => (hlt11 k e).2)
                  have HEz := HE11.out.grown hgrow HE11.out.size (fun k e => by have := (hlt11 k e).1; omega)
                  gi_roundg (m - (i + 1))
                  case measure => omega
                  case rel =>
                    refine ⟨i + 1, _, by omega, rfl, by go_num, Lib.hid hob2, (by have := hgrow.size; simp only [World.setCell, Array.size_modify]; omega), Lib.hid ⟨css2 ++ [[.slice ar j cr]], ?_⟩, Lib.hid ?_, Lib.hid (HEz.setCell (p := ⟨wb.heap.size, 2, none⟩) (Nat.le_refl _) _)⟩
                    · rw [HT2.out]
                      exact hGa.keep (by simp [World.setCell]) (fun b h1 _ => Below.heap_setCell _ _ _ b (by simp; omega))
                    · exact fun b h1 h2 => (Below.heap_setCell _ _ _ b (by simp; omega)).trans ((hgrow.block b (by omega) (fun e => by have := (hlt11 b e.symm).1; omega)).trans (HN11.out b h1 h2))
            · obtain rfl : i = m := by omega
              have HNd := Lib.hid (HN8.out.mono (Nat.le_refl _) (kept_int HNi.out))
              obtain ⟨css, hGp⟩ := HGp.out
              rw [List.take_of_length_le (by rw [HGR.out.len]; omega)] at hGp
              have HMr := HC2.out.ext HEr.out
              have hrr := HMr.r
              have hob := HB.out
              have hfz : gcds (xss.flatten.map IntAt.z) = gcds (zssOf xss).flatten := by unfold zssOf; rw [List.map_flatten]
              have hmg : madeG d (zssOf xss).flatten = g1 := by unfold madeG; rw [← hfz, HZG.out, HGE.out, HG1.out]
              have hmd : madeDen d (zssOf xss) = de := by
                unfold madeDen
                rw [hmg, HDG.out, ← HDE.out]
                have : colsOf (zssOf xss) = colsOf xss := by cases xss with | nil => rfl | cons x l => simp [zssOf, colsOf]
                rw [this]
              have hmr : madeRows d (zssOf xss) = (zssOf xss).map fun zs => zs.map fun z => z / g1 := by unfold madeRows; rw [hmg]
              obtain ⟨aa, ca, rfl, hsl⟩ := hGp.sl
              skip
              skip
              replace hob_0 := hob.cell (i := 0) rfl
              replace hob_1 := hob.cell (i := 1) rfl
              replace hob_2 := hob.cell (i := 2) rfl
              replace hrr_0 := hrr.cell (i := 0) rfl
              replace hrr_1 := hrr.cell (i := 1) rfl
              replace hrr_2 := hrr.cell (i := 2) rfl
              replace hrr_f0 := hrr.free 0
              replace hrr_f1 := hrr.free 1
              replace hrr_f2 := hrr.free 2
              replace hrr_lt := hrr.lt
              have hmark := HMr.mark
              have hsl2 := hsl.mono (Nat.le_refl _) (Kept.trans (kept_set wr 0 (.bool (decide (de < 0))) (show w.heap.size + 1 < wd.heap.size by omega)) (Kept.trans (kept_set _ 1 (.slice a8 n8 c8) (show w.heap.size + 1 < wd.heap.size by omega)) (kept_set _ 2 (.slice aa i ca) (show w.heap.size + 1 < wd.heap.size by omega))))
              have hnd2 := HNd.out.mono (Nat.le_refl _) (Kept.trans (kept_set wr 0 (.bool (decide (de < 0))) (show w.heap.size + 1 < wb.heap.size + 1 by omega)) (Kept.trans (kept_set _ 1 (.slice a8 n8 c8) (show w.heap.size + 1 < wb.heap.size + 1 by omega)) (kept_set _ 2 (.slice aa i ca) (show w.heap.size + 1 < wb.heap.size + 1 by omega))))
              have hlo2 := Below.setCell (Below.setCell (Below.setCell HMr.low (p := ⟨w.heap.size + 1, 0, none⟩) (by simp) (.bool (decide (de < 0)))) (p := ⟨w.heap.size + 1, 1, none⟩) (by simp) (.slice a8 n8 c8)) (p := ⟨w.heap.size + 1, 2, none⟩) (by simp) (.slice aa i ca)
              have hr2 := ((hrr.set 0 (.bool (decide (de < 0)))).set 1 (.slice a8 n8 c8)).set 2 (.slice aa i ca)
              have hm2 := (((KeepsOthers.setCell wr ⟨w.heap.size + 1, 0, none⟩ (.bool (decide (de < 0)))).trans (KeepsOthers.setCell _ ⟨w.heap.size + 1, 1, none⟩ (.slice a8 n8 c8))).trans (KeepsOthers.setCell _ ⟨w.heap.size + 1, 2, none⟩ (.slice aa i ca))).same D _ hmark rfl
              have HS2 := Lib.hid hsl2
              have HN2 := Lib.hid hnd2
              have HL2 := Lib.hid hlo2
              have HR2 := Lib.hid hr2
              have HM2 := Lib.hid hm2
              have hDw := Nat.le_trans hEWs hD
              clear hsl2 hnd2 hlo2 hr2 hm2 hmark hsl hfz
              gi_wp2
              generalize ((wr.setCell ⟨w.heap.size + 1, 0, none⟩ (.bool (decide (de < 0)))).setCell ⟨w.heap.size + 1, 1, none⟩ (.slice a8 n8 c8)).setCell ⟨w.heap.size + 1, 2, none⟩ (.slice aa i ca) = W20 at *
              refine ⟨by simp, .inl ⟨_, _, rfl, run_takeDeferred HM2.out, ?_⟩⟩
              have hrow : ∀ r, some D = some r → ∃ o : Obj, W20.heap[r]? = some o ∧ o.isCells = false := fun r e => by cases e; exact ⟨_, HM2.out, rfl⟩
              have hgp := grownBy_putObj' W20 D (.deferred none)
              have hr3 := HR2.out.own hgp hrow
              have q0 := hr3.cell (i := 0) rfl
              have q1 := hr3.cell (i := 1) rfl
              have q2 := hr3.cell (i := 2) rfl
              refine ⟨.agg #[.bool (decide (de < 0)), .slice a8 n8 c8, .slice aa i ca], by simp [results, Tryz.results67, go_sem, q0, q1, q2], ?_⟩
              rw [hmd, hmr]
              exact ⟨a8, n8, c8, aa, i, ca, rfl, HN2.out.mono (by omega) (kept_own hgp hrow), HS2.out.mono (by omega) (kept_own hgp hrow), HL2.out.grown hgp HL2.out.size (fun k e => by cases e; omega)⟩
  case stop => rintro D c pre W' _ _ h _; exact h.elim
end Go.Proofs.YtbhenelehhiakaaGreat
namespace Go.Proofs.YtbhenelehhiakaaGreat
open Go.RowKit

/-- an integer as it lies, not too long -/
def rIntB : Rd Int where
  size := 2
  ok B w cs z := ∃ b a n c l, cs = [.bool b, .slice a n c] ∧ NatS B w a n c l ∧ ival b l = z ∧ n ≤ 8796093022208
  len h := by obtain ⟨b, a, n, c, l, h, _⟩ := h; rw [h]; rfl
  mono h hB hk := by
    obtain ⟨b, a, n, c, l, h, hs, hz, hn⟩ := h
    exact ⟨b, a, n, c, l, h, hs.mono hB hk, hz, hn⟩

/-- an integer that lies in the old world w0, or in new memory -/
def rIntW (w0 : World) : Rd Int where
  size := 2
  ok B w cs z := ∃ b a n c l, cs = [.bool b, .slice a n c] ∧ (NatS 0 w0 a n c l ∨ NatS B w a n c l) ∧ ival b l = z ∧ n ≤ 8796093022208
  len h := by obtain ⟨b, a, n, c, l, h, _⟩ := h; rw [h]; rfl
  mono h hB hk := by
    obtain ⟨b, a, n, c, l, h, hs, hz, hn⟩ := h
    exact ⟨b, a, n, c, l, h, hs.imp id (fun hs => hs.mono hB hk), hz, hn⟩

def CellR (w0 W : World) (z : Int) (e : Ending) (W' : World) : Prop := ∃ b a n c l, e = .returned (.agg #[.bool b, .slice a n c]) ∧ (NatS 0 w0 a n c l ∨ NatS W.heap.size W' a n c l) ∧ ival b l = z ∧ n ≤ 8796093022208 ∧ Ext W W'

/-- what the function value of a table does: at each place a number that lies somewhere -/
def CellOf (P : Program) (fid : Nat) (lb : Array Value) (r c : Nat) (zs : Nat → Nat → Int) (w0 : World) : Prop := ∀ (i k : Nat) (W : World), i < r → k < c → Ext w0 W →
  Calls P fid (#[.int .i64 (i : Int), .int .i64 (k : Int)] ++ lb) W (CellR w0 W (zs i k))

def tableZ (zs : Nat → Nat → Int) (r c : Nat) : List (List Int) := (List.range r).map fun i => (List.range c).map fun k => zs i k

set_option maxHeartbeats 1000000 in
theorem table_any (fid : Nat) (lb : Array Value) (r c : Nat) (zs : Nat → Nat → Int) (w : World) (hen : Enters Tryz.prog fid) (hf : Hid (CellOf Tryz.prog fid lb r c zs w)) (hr : r ≤ 1099511627776) (hc : c ≤ 1099511627776) :
    Calls Tryz.prog 68 #[.int .i64 (r : Int), .int .i64 (c : Int), .func (.func fid) #[] lb] w fun e w' => ∃ a c2, e = .returned (.slice a r c2) ∧ Sl (rIntW w).slice w.heap.size w' a r c2 (tableZ zs r c) ∧ Ext w w' := by
  have hen' : ∀ args w, (callFunc fid args).run Tryz.prog w = .ok (.enter fid args) w := hen
  obtain ⟨cur, hcur, hmk⟩ := make_any under_ints info_int 0 c (Nat.zero_le _) (by omega) (by omega)
  have hmk : ∀ w, (Instr.makeSlice 30 (.int .i64 0) (.int .i64 (c : Int))).run Tryz.prog w = .ok (.slice (some ⟨w.heap.size, 0, none⟩) 0 c) (w.alloc (.cells cur 25)) := hmk
  have HCur := Lib.hid hcur
  clear hen hcur
  go_enter Tryz.func68, Tryz.ntmps68
  go_wp2_with fail
  go_loopg [12, 7] r (fun k vi vo wr => ∃ (i : Nat), i ≤ r ∧ k = r - i ∧ vi = .int .i64 (i : Int) ∧ Hid (∃ css, Grp (rIntW w).slice w.heap.size 30 wr vo i (tableZ zs i c) css) ∧ Hid (Ext w wr))
  case atStart => exact ⟨0, Nat.zero_le _, rfl, rfl, Lib.hid ⟨[], Grp.nil _ _ _ _⟩, Lib.hid (Ext.refl _)⟩
  case round =>
    obtain ⟨i, hi, hk, rfl, HG, HE⟩ := hrel
    by_cases hir : i < r
    · rename World => wo
      have hEA : Ext wo (wo.alloc (Obj.cells cur 25)) := (Below.refl _ _).alloc (Nat.le_refl _) _
      have hG0 : Grp (rIntW w) wo.heap.size 25 (wo.alloc (Obj.cells cur 25)) (.slice (some ⟨wo.heap.size, 0, none⟩) 0 c) 0 [] [] := ⟨rfl, rfl, World.ownsRow_made wo cur c (Nat.le_refl _) (by unfold maxLen; omega) HCur.out, fun k hk => absurd hk (by simp)⟩
      have HG0 := Lib.hid hG0
      clear hG0
      go_wp2_with fail
      go_loopg [9, 18] c (fun k vr vi w2 => ∃ (j : Nat), j ≤ c ∧ k = c - j ∧ vi = .int .i64 (j : Int) ∧ Hid (∃ css, Grp (rIntW w) wo.heap.size 25 w2 vr j ((List.range j).map (zs i)) css) ∧ Hid (Ext wo w2))
      case atStart => exact ⟨0, Nat.zero_le _, rfl, rfl, Lib.hid ⟨[], HG0.out⟩, Lib.hid hEA⟩
      case round =>
        obtain ⟨j, hj, hk2, rfl, HGj, HEj⟩ := hrel
        by_cases hjc : j < c
        · go_wp2_with fail
          refine (hf.out i j wr hir hjc (Ext.trans HE.out HEj.out)).mono ?_
          rintro e W7 ⟨b7, a7, n7, c7, l7, rfl, hN7, hz7, hn7, hE7⟩
          have hQ1 : Ext W7 (W7.alloc (Obj.cells #[.bool b7, .slice a7 n7 c7] 25)) := (Below.refl _ _).alloc (Nat.le_refl _) _
          have hE9 := Ext.trans hE7 hQ1
          obtain ⟨css, hGj⟩ := HGj.out
          have hlt10 := hGj.own.lt
          have hG9 := Lib.hid (hGj.keep hE9.size (fun b _ h2 => hE9.block b h2))
          have HE9 := Lib.hid (Ext.trans HEj.out hE9)
          have HN9 : Hid ((rIntW w).ok wr.heap.size (W7.alloc (Obj.cells #[.bool b7, .slice a7 n7 c7] 25)) [.bool b7, .slice a7 n7 c7] (zs i j)) := Lib.hid ⟨b7, a7, n7, c7, l7, rfl, hN7.imp id (fun h => h.ext (Nat.le_refl _) hQ1), hz7, hn7⟩
          obtain ⟨i0, hi0, hz0, hz1, hz2⟩ := info_parts info_int
          have hnews : ∀ (j' : Nat) (u : Value), [Value.bool b7, .slice a7 n7 c7][j']? = some u → (W7.alloc (Obj.cells #[.bool b7, .slice a7 n7 c7] 25)).cell? ((⟨W7.heap.size, 0, none⟩ : Addr).add j') = some u := fun j' u hu => by
            match j', hu with
            | 0, hu => cases hu; exact (Blk.new W7 25 #[.bool b7, .slice a7 n7 c7]).cell (i := 0) rfl
            | 1, hu => cases hu; exact (Blk.new W7 25 #[.bool b7, .slice a7 n7 c7]).cell (i := 1) rfl
            | k + 2, hu => simp at hu
          clear hGj hE9 hE7 hQ1 hN7 hz7
          go_wp2_with (at_builtin; refine wpList_append_own_at _ rfl _ _ 30 rfl wo.heap.size 25 i0 _ 2 32 under_ints hi0 hz0 hz1 hz2 rfl (by decide) _ _ _ rfl hG9.out.own ⟨W7.heap.size, 0, none⟩ 1 1 [.bool b7, .slice a7 n7 c7] rfl rfl hnews (by simp [Value.oneCell']) (by unfold maxLen; omega) (by omega) (by exact HE9.out.size) ?_; intro v' w1 hown' hgrow _ hat)
          go_roundg (c - (j + 1))
          case measure => omega
          case rel =>
            refine ⟨j + 1, by omega, rfl, by go_num, Lib.hid ⟨css ++ [[.bool b7, .slice a7 n7 c7]], ?_⟩, Lib.hid (HE9.out.grown hgrow HE9.out.size (fun k e => (hlt10 k e).1))⟩
            rw [List.range_succ, List.map_append]
            exact hG9.out.add hown' hgrow hat (x := zs i j) HN9.out HEj.out.size (fun k e => (hlt10 k e).2)
        · obtain rfl : j = c := by omega
          obtain ⟨css, hGj⟩ := HGj.out
          obtain ⟨ar, cr, rfl, hsr⟩ := hGj.sl
          have hEB : Ext wr (wr.alloc (Obj.cells #[.slice ar j cr] 30)) := (Below.refl _ _).alloc (Nat.le_refl _) _
          have hEB2 := Ext.trans HEj.out hEB
          obtain ⟨css2, hGo⟩ := HG.out
          have hlt11 := hGo.own.lt
          have hG11 := Lib.hid (hGo.keep hEB2.size (fun b _ h2 => hEB2.block b h2))
          have H11 := Lib.hid (hsr.ext (Nat.le_refl _) hEB)
          have HE11 := Lib.hid (Ext.trans HE.out hEB2)
          have HEs := HE.out.size
          have hnews : ∀ (j' : Nat) (u : Value), [Value.slice ar j cr][j']? = some u → (wr.alloc (Obj.cells #[.slice ar j cr] 30)).cell? ((⟨wr.heap.size, 0, none⟩ : Addr).add j') = some u := fun j' u hu => by
            match j', hu with
            | 0, hu => cases hu; exact (Blk.new wr 30 #[.slice ar j cr]).cell (i := 0) rfl
            | k + 1, hu => simp at hu
          obtain ⟨i0, hi0, hz0, hz1, hz2⟩ := info_parts info_ints
          clear hGo hGj hEB2 hsr hEB
          go_wp2_with (at_builtin; refine wpList_append_own_at _ rfl _ _ 26 rfl w.heap.size 30 i0 _ 1 24 under_intss hi0 hz0 hz1 hz2 rfl (by decide) _ _ _ rfl hG11.out.own ⟨wr.heap.size, 0, none⟩ 1 1 [.slice ar j cr] rfl rfl hnews (by simp [Value.oneCell']) (by unfold maxLen; omega) (by omega) (by exact HE11.out.size) ?_; intro v' w1 hown' hgrow _ hat)
          go_roundg (r - (i + 1))
          case measure => omega
          case rel =>
            refine ⟨i + 1, by omega, rfl, by go_num, Lib.hid ⟨css2 ++ [[.slice ar j cr]], ?_⟩, Lib.hid (HE11.out.grown hgrow HE11.out.size (fun k e => (hlt11 k e).1))⟩
            unfold tableZ
            rw [List.range_succ, List.map_append]
            exact hG11.out.add hown' hgrow hat (x := (List.range j).map (zs i)) (Bx := wo.heap.size) ⟨ar, j, cr, rfl, H11.out⟩ HEs (fun k e => (hlt11 k e).2)
    · obtain rfl : i = r := by omega
      obtain ⟨css, hG⟩ := HG.out
      obtain ⟨aa, ca, rfl, hsl⟩ := hG.sl
      have HS := Lib.hid hsl
      clear hG hsl
      go_wp2_with fail
      go_ret
      exact ⟨aa, ca, rfl, HS.out, HE.out⟩
end Go.Proofs.YtbhenelehhiakaaGreat
/-
  qmat: sizes, Identity, Zero; how rows that were made are rows that lie in the world.
-/
namespace Go.Proofs.YtbhenelehhiakaaGreat
open Go.RowKit

theorem exists_list {α : Type} {n : Nat} (P : Nat → α → Prop) (h : ∀ i, i < n → ∃ x, P i x) : ∃ l : List α, l.length = n ∧ ∀ i (hi : i < l.length), P i l[i] := by
  induction n with
  | zero => exact ⟨[], rfl, fun i hi => absurd hi (by simp)⟩
  | succ n ih =>
    obtain ⟨l, hl, hp⟩ := ih (fun i hi => h i (by omega))
    obtain ⟨x, hx⟩ := h n (by omega)
    refine ⟨l ++ [x], by simp [hl], fun i hi => ?_⟩
    by_cases hin : i < l.length
    · rw [List.getElem_append_left hin]; exact hp i hin
    · rw [List.getElem_append_right (by omega)]
      have : i = n := by simp at hi; omega
      subst this
      simpa [hl] using hx

/-- rows of integers that read so are rows that lie in this world -/
theorem grid_of {B : Nat} {w : World} {a : Option Addr} {n c : Nat} {zss : List (List Int)} (h : Sl rIntB.slice B w a n c zss) (hn : n ≤ 1099511627776) (hr : ∀ zs ∈ zss, zs.length ≤ 1099511627776) : ∃ xss : List (List (IntAt w)), GridAt w a n c xss ∧ zssOf xss = zss := by
  have row : ∀ (a1 : Option Addr) (n1 c1 : Nat) (zs : List Int), Sl rIntB B w a1 n1 c1 zs → n1 ≤ 1099511627776 → ∃ xs : List (IntAt w), RowAt w a1 n1 c1 xs ∧ xs.map IntAt.z = zs := fun a1 n1 c1 zs hz h1 => by
    obtain ⟨xs, hl, hp⟩ := exists_list (α := IntAt w) (n := n1) (fun k x => ∃ b o, a1 = some ⟨b, o, none⟩ ∧ b < w.heap.size ∧ w.cell? ⟨b, o + k * 2, none⟩ = some (.bool x.b) ∧ w.cell? ⟨b, o + k * 2 + 1, none⟩ = some (.slice x.a x.n x.c) ∧ zs[k]? = some x.z) (fun k hk => by
      have hkl : k < zs.length := by rw [hz.len]; exact hk
      obtain ⟨b, o, cs, ha, ⟨s, a2, n2, c2, l, rfl, h3, h4, h5⟩, hc⟩ := hz.at_ k hkl
      exact ⟨⟨s, a2, n2, c2, l, h3.mono (Nat.zero_le _) (Kept.refl _ _), h5⟩, b, o, ha, cel_lt (hc 0 (by simp)), (hc 0 (by simp)).cell, (hc 1 (by simp)).cell, by rw [List.getElem?_eq_getElem hkl, ← h4]; rfl⟩)
    refine ⟨xs, ⟨hl, h1, fun h0 => ?_⟩, ?_⟩
    · obtain ⟨b, o, ha, hb, _⟩ := hp 0 (by omega)
      refine ⟨b, o, ha, hb, fun k hk => ?_⟩
      obtain ⟨b', o', ha', _, h6, h7, _⟩ := hp k hk
      rw [ha] at ha'; cases ha'
      exact ⟨h6, h7⟩
    · refine List.ext_getElem (by rw [List.length_map, hl, hz.len]) fun k h6 h7 => ?_
      obtain ⟨_, _, _, _, _, _, h8⟩ := hp k (by simpa using h6)
      rw [List.getElem?_eq_getElem h7] at h8
      rw [List.getElem_map]
      exact (Option.some.inj h8).symm
  obtain ⟨xss, hl, hp⟩ := exists_list (α := List (IntAt w)) (n := n) (fun i xs => ∃ b o a1 n1 c1, a = some ⟨b, o, none⟩ ∧ b < w.heap.size ∧ w.cell? ⟨b, o + i, none⟩ = some (.slice a1 n1 c1) ∧ RowAt w a1 n1 c1 xs ∧ zss[i]? = some (xs.map IntAt.z)) (fun i hi => by
    have hil : i < zss.length := by rw [h.len]; exact hi
    obtain ⟨b, o, cs, ha, ⟨a1, n1, c1, rfl, hz⟩, hc⟩ := h.at_ i hil
    obtain ⟨xs, h3, h4⟩ := row a1 n1 c1 _ hz (by have := hr _ (List.getElem_mem hil); rw [hz.len] at this; exact this)
    exact ⟨xs, b, o, a1, n1, c1, ha, cel_lt (hc 0 (by simp)), by simpa [Rd.slice] using (hc 0 (by simp)).cell, h3, by rw [List.getElem?_eq_getElem hil, h4]⟩)
  refine ⟨xss, ⟨hl, hn, fun h0 => ?_⟩, ?_⟩
  · obtain ⟨b, o, _, _, _, ha, hb, _⟩ := hp 0 (by omega)
    refine ⟨b, o, ha, hb, fun i hi => ?_⟩
    obtain ⟨b', o', a1, n1, c1, ha', _, h6, h7, _⟩ := hp i hi
    rw [ha] at ha'; cases ha'
    exact ⟨a1, n1, c1, h6, h7⟩
  · unfold zssOf
    refine List.ext_getElem (by rw [List.length_map, hl, h.len]) fun i h6 h7 => ?_
    obtain ⟨_, _, _, _, _, _, _, _, _, h8⟩ := hp i (by simpa using h6)
    rw [List.getElem?_eq_getElem h7] at h8
    rw [List.getElem_map]
    exact (Option.some.inj h8).symm

/-- what a table made reads as integers of the world it left -/
theorem Sl.weak {α : Type} {r s : Rd α} {B B' : Nat} {w : World} {a : Option Addr} {n c : Nat} {xs : List α} (h : Sl r B w a n c xs) (hB : B' ≤ B) (hs : r.size = s.size) (hok : ∀ cs x, r.ok B w cs x → s.ok B' w cs x) : Sl s B' w a n c xs :=
  ⟨h.len, h.cap, h.most, h.nil, fun i hi => by
    obtain ⟨b, o, cs, ha, hr, hc⟩ := h.at_ i hi
    refine ⟨b, o, cs, ha, hok _ _ hr, fun j hj => ?_⟩
    obtain ⟨h1, h2, h3⟩ := hc j hj
    rw [← hs]
    exact ⟨Nat.le_trans hB h1, h2, h3⟩⟩
theorem rows_of_table {w w' : World} {B : Nat} {a : Option Addr} {n c : Nat} {zss : List (List Int)} (h : Sl (rIntW w).slice B w' a n c zss) (hE : Ext w w') : Sl rIntB.slice 0 w' a n c zss :=
  h.weak (Nat.zero_le _) rfl fun _ _ ⟨a1, n1, c1, e, hz⟩ => ⟨a1, n1, c1, e, hz.weak (Nat.zero_le _) rfl fun _ _ ⟨b, a2, n2, c2, l, e2, h3, h4, h5⟩ => ⟨b, a2, n2, c2, l, e2, h3.elim (fun h => h.ext (Nat.le_refl _) hE) (fun h => h.mono (Nat.zero_le _) (Kept.refl _ _)), h4, h5⟩⟩

end Go.Proofs.YtbhenelehhiakaaGreat
/-
  qmat: Identity and Zero.
-/
namespace Go.Proofs.YtbhenelehhiakaaGreat
open Go.RowKit

/-- a matrix in new memory, and no error -/
def RMatOk (w : World) (de : Int) (zss : List (List Int)) (e : Ending) (w' : World) : Prop := ∃ a n c a2 n2 c2, e = .returned (.tuple #[.agg #[.bool (decide (de < 0)), .slice a n c, .slice a2 n2 c2], .int .i64 0]) ∧ NatS w.heap.size w' a n c (limbs de.natAbs) ∧ Sl rRowsN w.heap.size w' a2 n2 c2 zss ∧ Ext w w'
/-- nothing, and an error -/
def RMatErr (w : World) (s : Int) (e : Ending) (w' : World) : Prop := e = .returned (.tuple #[.agg #[.bool false, .slice none 0 0, .slice none 0 0], .int .i64 s]) ∧ Ext w w'

theorem kept_set3 {B b : Nat} (w : World) (v0 v1 v2 : Value) (hb : b < B) : Kept B w (((w.setCell ⟨b, 0, none⟩ v0).setCell ⟨b, 1, none⟩ v1).setCell ⟨b, 2, none⟩ v2) :=
  Kept.trans (kept_set _ _ _ hb) (Kept.trans (kept_set _ _ _ hb) (kept_set _ _ _ hb))
theorem ext_set3 {w w' : World} {b : Nat} (h : Ext w w') (v0 v1 v2 : Value) (hb : w.heap.size ≤ b) : Ext w (((w'.setCell ⟨b, 0, none⟩ v0).setCell ⟨b, 1, none⟩ v1).setCell ⟨b, 2, none⟩ v2) :=
  Below.setCell (Below.setCell (Below.setCell h (p := ⟨b, 0, none⟩) hb _) (p := ⟨b, 1, none⟩) hb _) (p := ⟨b, 2, none⟩) hb _
theorem RMatOk.box {w w2 : World} {B r : Nat} {de : Int} {zss : List (List Int)} {v0 v1 v2 : Value} {a a2 : Option Addr} {n c n2 c2 : Nat} (hr : w.heap.size ≤ r) (hrB : r < B) (hE : Ext w w2) (h : NatS B w2 a n c (limbs de.natAbs)) (h2 : Sl rRowsN B w2 a2 n2 c2 zss) :
    RMatOk w de zss (.returned (.tuple #[.agg #[.bool (decide (de < 0)), .slice a n c, .slice a2 n2 c2], .int .i64 0])) (((w2.setCell ⟨r, 0, none⟩ v0).setCell ⟨r, 1, none⟩ v1).setCell ⟨r, 2, none⟩ v2) :=
  ⟨a, n, c, a2, n2, c2, rfl, h.mono (by omega) (kept_set3 _ _ _ _ hrB), h2.mono (by omega) (kept_set3 _ _ _ _ hrB), ext_set3 hE _ _ _ hr⟩

theorem table_len (zs : Nat → Nat → Int) (r c : Nat) : ∀ row ∈ tableZ zs r c, row.length = c := by
  intro row hr
  obtain ⟨i, _, rfl⟩ := List.mem_map.1 hr
  simp

end Go.Proofs.YtbhenelehhiakaaGreat
