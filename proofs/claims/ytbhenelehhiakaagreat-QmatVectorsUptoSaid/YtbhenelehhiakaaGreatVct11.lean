/-
  qmat: VecAdd.
-/
import Derived.Test.YtbhenelehhiakaaGreatVct10
set_option linter.unusedVariables false
set_option linter.unusedSimpArgs false
namespace Go.Proofs.YtbhenelehhiakaaGreat
open Go.RowKit
def vaddQ (xs ys : List Rat) (c : Rat) : List Rat := (List.range xs.length).map fun i => (xs[i]?).getD 0 + c * (ys[i]?).getD 0
def vaddE (x y : Int × List Int) (q : Int × Int) : Int := if vecsE [x, y] ≠ 0 then vecsE [x, y] else if q.2 = 0 then 6 else if x.2.length ≠ y.2.length then 2 else 0
def vaddZ (xs ys : List Int) (u d : Int) (i : Nat) : Int := (xs[i]?).getD 0 * u + (ys[i]?).getD 0 * d
theorem frV_get (d : Int) (xs : List Int) (i : Nat) : ((frV d xs)[i]?).getD 0 = ratv ((xs[i]?).getD 0) d := by
 unfold frV
 rw [List.getElem?_map]
 cases xs[i]? with
 | none => exact (Rat.zero_divInt d).symm
 | some z => rfl
theorem ratv_mk (z d : Int) : ratv z d = (z : Rat) * (d : Rat)⁻¹ := by unfold ratv; rw [Rat.divInt_eq_div, Rat.div_def]
theorem vadd_frac (x y dx dy : Int) (c : Rat) (hx : dx ≠ 0) (hy : dy ≠ 0) : ratv (x * (dy * (c.den : Int)) + y * (dx * c.num)) (dx * (dy * (c.den : Int))) = ratv x dx + c * ratv y dy := by
 have hc : (c.den : Int) ≠ 0 := by have := c.den_nz; omega
 rw [ratv_mk, ratv_mk, ratv_mk]
 have hcc : c = (c.num : Rat) * ((c.den : Int) : Rat)⁻¹ := by
  have := (Rat.num_divInt_den c).symm
  rwa [show Rat.divInt c.num c.den = ratv c.num c.den from rfl, ratv_mk] at this
 have key : ∀ z : Int, z ≠ 0 → (z : Rat) ≠ 0 := fun z h e => h (Rat.intCast_inj.1 (show ((z : Int) : Rat) = ((0 : Int) : Rat) from e))
 conv => rhs; rw [hcc]
 have h1 := key dx hx
 have h2 := key dy hy
 have h3 := key _ hc
 simp only [Rat.intCast_mul, Rat.intCast_add]
 generalize ((c.den : Int) : Rat) = cd at *
 generalize (c.num : Rat) = cn at *
 generalize (dx : Rat) = a at *
 generalize (dy : Rat) = b at *
 generalize (x : Rat) = x at *
 generalize (y : Rat) = y at *
 have e1 : a * a⁻¹ = 1 := Rat.mul_inv_cancel _ h1
 have e2 : b * b⁻¹ = 1 := Rat.mul_inv_cancel _ h2
 have e3 : cd * cd⁻¹ = 1 := Rat.mul_inv_cancel _ h3
 have e4 : (a * (b * cd))⁻¹ = a⁻¹ * (b⁻¹ * cd⁻¹) := by rw [Rat.inv_mul_rev, Rat.inv_mul_rev]; grind
 rw [e4]
 generalize a⁻¹ = ai at *
 generalize b⁻¹ = bi at *
 generalize cd⁻¹ = ci at *
 grind
theorem vadd_eq (xs ys : List Int) (dx dy : Int) (c : Rat) (hx : dx ≠ 0) (hy : dy ≠ 0) : frV (dx * (dy * (c.den : Int))) ((List.range xs.length).map (vaddZ xs ys (dy * (c.den : Int)) (dx * c.num))) = vaddQ (frV dx xs) (frV dy ys) c := by
 unfold vaddQ
 rw [show (frV dx xs).length = xs.length by simp [frV]]
 conv => lhs; unfold frV
 rw [List.map_map]
 refine List.map_congr_left fun i hi => ?_
 rw [frV_get, frV_get]
 exact vadd_frac _ _ _ _ _ hx hy
set_option maxRecDepth 100000 in
set_option maxHeartbeats 40000000 in
theorem vecAdd_ans (K : Nat) (hK : K + (K + K) + 1 ≤ 8796093022208) (w : World) (b : Bool) (a a2 : Option Addr) (n c n2 c2 : Nat) (x : Int × List Int) (h : VecS K w b a n c a2 n2 c2 x.1 x.2) (b' : Bool) (a' a2' : Option Addr) (n' c' n2' c2' : Nat) (y : Int × List Int) (h' : VecS K w b' a' n' c' a2' n2' c2' y.1 y.2) (bx by1 : Bool) (ax ay : Option Addr) (nx cx ny cy : Nat) (q : Int × Int) (hq : (rFr K).ok 0 w [.bool bx, .slice ax nx cx, .bool by1, .slice ay ny cy] q) (hn2 : n2 ≤ 1099511627776) (s : Int) (hs : Hid (vaddE x y q = s)) (qs : List Rat) (hqs : Hid (vaddQ (frV x.1 x.2) (frV y.1 y.2) (frR q) = qs)) :
  Calls Tryz.prog 53 #[.agg #[.bool b, .slice a n c, .slice a2 n2 c2], .agg #[.bool b', .slice a' n' c', .slice a2' n2' c2'], .agg #[.bool bx, .slice ax nx cx, .bool by1, .slice ay ny cy]] w (RVAns w s qs) := by
 obtain ⟨s0, hs0⟩ : ∃ t, vecsE [x, y] = t := ⟨_, rfl⟩
 have HS0 := Lib.hid hs0
 have hl := h.len
 have hl' := h'.len
 have HSS : Hid (s = if s0 ≠ 0 then s0 else if q.2 = 0 then 6 else if n2 ≠ n2' then 2 else 0) := Lib.hid (by rw [← hs.out, ← hs0, ← hl, ← hl']; rfl)
 have HL := Lib.hid hl
 have HL' := Lib.hid hl'
 clear hs0 hl hl'
 go_enter Tryz.func53, Tryz.ntmps53
 go_wp2_with fail
 have p0 := Blk.new w 32 #[.bool b, .slice a n c, .slice a2 n2 c2]
 have p1 := Blk.new (w.alloc (Obj.cells #[.bool b, .slice a n c, .slice a2 n2 c2] 32)) 32 #[.bool b', .slice a' n' c', .slice a2' n2' c2']
 replace p0 := p0.ext ((Below.refl _ _).alloc (Nat.le_refl _) (Obj.cells #[.bool b', .slice a' n' c', .slice a2' n2' c2'] 32))
 have p2 := Blk.new ((w.alloc (Obj.cells #[.bool b, .slice a n c, .slice a2 n2 c2] 32)).alloc (Obj.cells #[.bool b', .slice a' n' c', .slice a2' n2' c2'] 32)) 75 #[.bool bx, .slice ax nx cx, .bool by1, .slice ay ny cy]
 replace p0 := p0.ext ((Below.refl _ _).alloc (Nat.le_refl _) (Obj.cells #[.bool bx, .slice ax nx cx, .bool by1, .slice ay ny cy] 75))
 replace p1 := p1.ext ((Below.refl _ _).alloc (Nat.le_refl _) (Obj.cells #[.bool bx, .slice ax nx cx, .bool by1, .slice ay ny cy] 75))
 have r0 := Blk.new (((w.alloc (Obj.cells #[.bool b, .slice a n c, .slice a2 n2 c2] 32)).alloc (Obj.cells #[.bool b', .slice a' n' c', .slice a2' n2' c2'] 32)).alloc (Obj.cells #[.bool bx, .slice ax nx cx, .bool by1, .slice ay ny cy] 75)) 32 #[.bool false, .slice none 0 0, .slice none 0 0]
 replace p0 := p0.ext ((Below.refl _ _).alloc (Nat.le_refl _) (Obj.cells #[.bool false, .slice none 0 0, .slice none 0 0] 32))
 replace p1 := p1.ext ((Below.refl _ _).alloc (Nat.le_refl _) (Obj.cells #[.bool false, .slice none 0 0, .slice none 0 0] 32))
 replace p2 := p2.ext ((Below.refl _ _).alloc (Nat.le_refl _) (Obj.cells #[.bool false, .slice none 0 0, .slice none 0 0] 32))
 have y0 := Blk.new ((((w.alloc (Obj.cells #[.bool b, .slice a n c, .slice a2 n2 c2] 32)).alloc (Obj.cells #[.bool b', .slice a' n' c', .slice a2' n2' c2'] 32)).alloc (Obj.cells #[.bool bx, .slice ax nx cx, .bool by1, .slice ay ny cy] 75)).alloc (Obj.cells #[.bool false, .slice none 0 0, .slice none 0 0] 32)) 32 #[.bool b, .slice a n c, .slice a2 n2 c2, .bool b', .slice a' n' c', .slice a2' n2' c2']
 replace p0 := p0.ext ((Below.refl _ _).alloc (Nat.le_refl _) (Obj.cells #[.bool b, .slice a n c, .slice a2 n2 c2, .bool b', .slice a' n' c', .slice a2' n2' c2'] 32))
 replace p1 := p1.ext ((Below.refl _ _).alloc (Nat.le_refl _) (Obj.cells #[.bool b, .slice a n c, .slice a2 n2 c2, .bool b', .slice a' n' c', .slice a2' n2' c2'] 32))
 replace p2 := p2.ext ((Below.refl _ _).alloc (Nat.le_refl _) (Obj.cells #[.bool b, .slice a n c, .slice a2 n2 c2, .bool b', .slice a' n' c', .slice a2' n2' c2'] 32))
 replace r0 := r0.ext ((Below.refl _ _).alloc (Nat.le_refl _) (Obj.cells #[.bool b, .slice a n c, .slice a2 n2 c2, .bool b', .slice a' n' c', .slice a2' n2' c2'] 32))
 have hEW : Ext w (((((w.alloc (Obj.cells #[.bool b, .slice a n c, .slice a2 n2 c2] 32)).alloc (Obj.cells #[.bool b', .slice a' n' c', .slice a2' n2' c2'] 32)).alloc (Obj.cells #[.bool bx, .slice ax nx cx, .bool by1, .slice ay ny cy] 75)).alloc (Obj.cells #[.bool false, .slice none 0 0, .slice none 0 0] 32)).alloc (Obj.cells #[.bool b, .slice a n c, .slice a2 n2 c2, .bool b', .slice a' n' c', .slice a2' n2' c2'] 32)) := ((((((Below.refl _ w).alloc (by simp) _).alloc (by simp) _).alloc (by simp; omega) _).alloc (by simp; omega) _).alloc (by simp; omega) _)
 generalize hgW : ((((w.alloc (Obj.cells #[.bool b, .slice a n c, .slice a2 n2 c2] 32)).alloc (Obj.cells #[.bool b', .slice a' n' c', .slice a2' n2' c2'] 32)).alloc (Obj.cells #[.bool bx, .slice ax nx cx, .bool by1, .slice ay ny cy] 75)).alloc (Obj.cells #[.bool false, .slice none 0 0, .slice none 0 0] 32)).alloc (Obj.cells #[.bool b, .slice a n c, .slice a2 n2 c2, .bool b', .slice a' n' c', .slice a2' n2' c2'] 32) = W at *
 clear hgW
 simp only [World.size_alloc] at p1 p2 r0 y0
 have p0_ne_p1 : ¬ w.heap.size = w.heap.size + 1 := by omega
 have p0_ne_p2 : ¬ w.heap.size = w.heap.size + 1 + 1 := by omega
 have p0_ne_r0 : ¬ w.heap.size = w.heap.size + 1 + 1 + 1 := by omega
 have p0_ne_y0 : ¬ w.heap.size = w.heap.size + 1 + 1 + 1 + 1 := by omega
 have p1_ne_p0 : ¬ w.heap.size + 1 = w.heap.size := by omega
 have p1_ne_p2 : ¬ w.heap.size + 1 = w.heap.size + 1 + 1 := by omega
 have p1_ne_r0 : ¬ w.heap.size + 1 = w.heap.size + 1 + 1 + 1 := by omega
 have p1_ne_y0 : ¬ w.heap.size + 1 = w.heap.size + 1 + 1 + 1 + 1 := by omega
 have p2_ne_p0 : ¬ w.heap.size + 1 + 1 = w.heap.size := by omega
 have p2_ne_p1 : ¬ w.heap.size + 1 + 1 = w.heap.size + 1 := by omega
 have p2_ne_r0 : ¬ w.heap.size + 1 + 1 = w.heap.size + 1 + 1 + 1 := by omega
 have p2_ne_y0 : ¬ w.heap.size + 1 + 1 = w.heap.size + 1 + 1 + 1 + 1 := by omega
 have r0_ne_p0 : ¬ w.heap.size + 1 + 1 + 1 = w.heap.size := by omega
 have r0_ne_p1 : ¬ w.heap.size + 1 + 1 + 1 = w.heap.size + 1 := by omega
 have r0_ne_p2 : ¬ w.heap.size + 1 + 1 + 1 = w.heap.size + 1 + 1 := by omega
 have r0_ne_y0 : ¬ w.heap.size + 1 + 1 + 1 = w.heap.size + 1 + 1 + 1 + 1 := by omega
 have y0_ne_p0 : ¬ w.heap.size + 1 + 1 + 1 + 1 = w.heap.size := by omega
 have y0_ne_p1 : ¬ w.heap.size + 1 + 1 + 1 + 1 = w.heap.size + 1 := by omega
 have y0_ne_p2 : ¬ w.heap.size + 1 + 1 + 1 + 1 = w.heap.size + 1 + 1 := by omega
 have y0_ne_r0 : ¬ w.heap.size + 1 + 1 + 1 + 1 = w.heap.size + 1 + 1 + 1 := by omega
 replace p0_0 := p0.cell (i := 0) rfl
 replace p0_1 := p0.cell (i := 1) rfl
 replace p0_2 := p0.cell (i := 2) rfl
 replace p0_f0 := p0.free 0
 replace p0_f1 := p0.free 1
 replace p0_f2 := p0.free 2
 replace p0_lt := p0.lt
 replace p1_0 := p1.cell (i := 0) rfl
 replace p1_1 := p1.cell (i := 1) rfl
 replace p1_2 := p1.cell (i := 2) rfl
 replace p1_f0 := p1.free 0
 replace p1_f1 := p1.free 1
 replace p1_f2 := p1.free 2
 replace p1_lt := p1.lt
 replace p2_0 := p2.cell (i := 0) rfl
 replace p2_1 := p2.cell (i := 1) rfl
 replace p2_2 := p2.cell (i := 2) rfl
 replace p2_3 := p2.cell (i := 3) rfl
 replace p2_f0 := p2.free 0
 replace p2_f1 := p2.free 1
 replace p2_f2 := p2.free 2
 replace p2_f3 := p2.free 3
 replace p2_lt := p2.lt
 replace r0_0 := r0.cell (i := 0) rfl
 replace r0_1 := r0.cell (i := 1) rfl
 replace r0_2 := r0.cell (i := 2) rfl
 replace r0_f0 := r0.free 0
 replace r0_f1 := r0.free 1
 replace r0_f2 := r0.free 2
 replace r0_lt := r0.lt
 replace y0_0 := y0.cell (i := 0) rfl
 replace y0_1 := y0.cell (i := 1) rfl
 replace y0_2 := y0.cell (i := 2) rfl
 replace y0_3 := y0.cell (i := 3) rfl
 replace y0_4 := y0.cell (i := 4) rfl
 replace y0_5 := y0.cell (i := 5) rfl
 (with_reducible refine (vecCheck_any K (by omega) W _ 2 2 [x, y] (two_vec y0 (h.ext hEW) (h'.ext hEW)) s0 HS0).mono ?_)
 rintro e w1 ⟨rfl, hE1⟩
 replace p0 := p0.ext hE1; replace p0_0 := p0.cell (i := 0) rfl; replace p0_1 := p0.cell (i := 1) rfl; replace p0_2 := p0.cell (i := 2) rfl; replace p0_f0 := p0.free 0; replace p0_f1 := p0.free 1; replace p0_f2 := p0.free 2; replace p0_lt := p0.lt; replace p1 := p1.ext hE1; replace p1_0 := p1.cell (i := 0) rfl; replace p1_1 := p1.cell (i := 1) rfl; replace p1_2 := p1.cell (i := 2) rfl; replace p1_f0 := p1.free 0; replace p1_f1 := p1.free 1; replace p1_f2 := p1.free 2; replace p1_lt := p1.lt; replace p2 := p2.ext hE1; replace p2_0 := p2.cell (i := 0) rfl; replace p2_1 := p2.cell (i := 1) rfl; replace p2_2 := p2.cell (i := 2) rfl; replace p2_3 := p2.cell (i := 3) rfl; replace p2_f0 := p2.free 0; replace p2_f1 := p2.free 1; replace p2_f2 := p2.free 2; replace p2_f3 := p2.free 3; replace p2_lt := p2.lt; replace r0 := r0.ext hE1; replace r0_0 := r0.cell (i := 0) rfl; replace r0_1 := r0.cell (i := 1) rfl; replace r0_2 := r0.cell (i := 2) rfl; replace r0_f0 := r0.free 0; replace r0_f1 := r0.free 1; replace r0_f2 := r0.free 2; replace r0_lt := r0.lt
 have hE0 := Ext.trans hEW hE1
 have hszW : w.heap.size + 1 + 1 + 1 + 1 < W.heap.size := y0.lt
 have hsz1 := hE1.size
 clear y0 y0_0 y0_1 y0_2 y0_3 y0_4 y0_5 hEW hE1
 by_cases h0 : s0 = 0
 ·subst h0
  have hx0 := vecsE_zero HS0.out x (by simp)
  have hy0 := vecsE_zero HS0.out y (by simp)
  go_wp2_with fail
  by_cases hq0 : q.2 = 0
  ·obtain rfl : s = 6 := by rw [HSS.out, if_neg (by decide), if_pos hq0]
   (with_reducible refine (ratNorm_err K (by omega) w1 bx ax nx cx by1 ay ny cy q (rFr_ext hq hE0) hq0).mono ?_)
   rintro e w2 ⟨rfl, hE2⟩
   replace p2 := p2.ext hE2; replace p2_0 := p2.cell (i := 0) rfl; replace p2_1 := p2.cell (i := 1) rfl; replace p2_2 := p2.cell (i := 2) rfl; replace p2_3 := p2.cell (i := 3) rfl; replace p2_f0 := p2.free 0; replace p2_f1 := p2.free 1; replace p2_f2 := p2.free 2; replace p2_f3 := p2.free 3; replace p2_lt := p2.lt; replace r0 := r0.ext hE2; replace r0_0 := r0.cell (i := 0) rfl; replace r0_1 := r0.cell (i := 1) rfl; replace r0_2 := r0.cell (i := 2) rfl; replace r0_f0 := r0.free 0; replace r0_f1 := r0.free 1; replace r0_f2 := r0.free 2; replace r0_lt := r0.lt
   have hsz2 := hE2.size
   replace hE0 := Ext.trans hE0 hE2
   clear hE2 hq0
   go_upto_region 5 with (fail)
   replace p2 := p2.set 0 (.bool false)
   replace r0 := r0.set_ne 0 (.bool false) (show w.heap.size + 1 + 1 + 1 ≠ w.heap.size + 1 + 1 by omega)
   replace p2 := p2.set 1 (.slice none 0 0)
   replace r0 := r0.set_ne 1 (.slice none 0 0) (show w.heap.size + 1 + 1 + 1 ≠ w.heap.size + 1 + 1 by omega)
   replace p2 := p2.set 2 (.bool false)
   replace r0 := r0.set_ne 2 (.bool false) (show w.heap.size + 1 + 1 + 1 ≠ w.heap.size + 1 + 1 by omega)
   replace p2 := p2.set 3 (.slice none 0 0)
   replace r0 := r0.set_ne 3 (.slice none 0 0) (show w.heap.size + 1 + 1 + 1 ≠ w.heap.size + 1 + 1 by omega)
   have hKW3 : ∀ bB_ : Nat, w.heap.size + 1 + 1 < bB_ → Kept bB_ w2 (((((w2).setCell ⟨w.heap.size + 1 + 1, 0, none⟩ (.bool false)).setCell ⟨w.heap.size + 1 + 1, 1, none⟩ (.slice none 0 0)).setCell ⟨w.heap.size + 1 + 1, 2, none⟩ (.bool false)).setCell ⟨w.heap.size + 1 + 1, 3, none⟩ (.slice none 0 0)) := fun bB_ h0 => (Kept.trans (kept_set _ _ _ h0) (Kept.trans (kept_set _ _ _ h0) (Kept.trans (kept_set _ _ _ h0) (kept_set _ _ _ h0))))
   have hzW3 : w2.heap.size ≤ (((((w2).setCell ⟨w.heap.size + 1 + 1, 0, none⟩ (.bool false)).setCell ⟨w.heap.size + 1 + 1, 1, none⟩ (.slice none 0 0)).setCell ⟨w.heap.size + 1 + 1, 2, none⟩ (.bool false)).setCell ⟨w.heap.size + 1 + 1, 3, none⟩ (.slice none 0 0)).heap.size := by simp only [World.setCell, Array.size_modify]; exact Nat.le_refl _
   have hSW3 : ∀ (nB_ : Nat) (uB_ : World), nB_ ≤ w.heap.size + 1 + 1 → Below nB_ uB_ w2 → Below nB_ uB_ (((((w2).setCell ⟨w.heap.size + 1 + 1, 0, none⟩ (.bool false)).setCell ⟨w.heap.size + 1 + 1, 1, none⟩ (.slice none 0 0)).setCell ⟨w.heap.size + 1 + 1, 2, none⟩ (.bool false)).setCell ⟨w.heap.size + 1 + 1, 3, none⟩ (.slice none 0 0)) := fun nB_ uB_ h0 hb => (Below.setCell (Below.setCell (Below.setCell (Below.setCell hb (p := ⟨w.heap.size + 1 + 1, 0, none⟩) h0 (.bool false)) (p := ⟨w.heap.size + 1 + 1, 1, none⟩) h0 (.slice none 0 0)) (p := ⟨w.heap.size + 1 + 1, 2, none⟩) h0 (.bool false)) (p := ⟨w.heap.size + 1 + 1, 3, none⟩) h0 (.slice none 0 0))
   replace p2 : Blk (((((w2).setCell ⟨w.heap.size + 1 + 1, 0, none⟩ (.bool false)).setCell ⟨w.heap.size + 1 + 1, 1, none⟩ (.slice none 0 0)).setCell ⟨w.heap.size + 1 + 1, 2, none⟩ (.bool false)).setCell ⟨w.heap.size + 1 + 1, 3, none⟩ (.slice none 0 0)) (w.heap.size + 1 + 1) 75 #[.bool false, .slice none 0 0, .bool false, .slice none 0 0] := p2
   generalize hgW3 : ((((w2).setCell ⟨w.heap.size + 1 + 1, 0, none⟩ (.bool false)).setCell ⟨w.heap.size + 1 + 1, 1, none⟩ (.slice none 0 0)).setCell ⟨w.heap.size + 1 + 1, 2, none⟩ (.bool false)).setCell ⟨w.heap.size + 1 + 1, 3, none⟩ (.slice none 0 0) = W3 at *
   clear hgW3
   replace p2_0 := p2.cell (i := 0) rfl
   replace p2_1 := p2.cell (i := 1) rfl
   replace p2_2 := p2.cell (i := 2) rfl
   replace p2_3 := p2.cell (i := 3) rfl
   replace p2_f0 := p2.free 0
   replace p2_f1 := p2.free 1
   replace p2_f2 := p2.free 2
   replace p2_f3 := p2.free 3
   replace p2_lt := p2.lt
   replace r0_0 := r0.cell (i := 0) rfl
   replace r0_1 := r0.cell (i := 1) rfl
   replace r0_2 := r0.cell (i := 2) rfl
   replace r0_f0 := r0.free 0
   replace r0_f1 := r0.free 1
   replace r0_f2 := r0.free 2
   replace r0_lt := r0.lt
   replace hE0 := hSW3 _ _ (by omega) hE0
   have HF : Hid (RVAns w 6 qs (.returned (.tuple #[.agg #[.bool false, .slice none 0 0, .slice none 0 0], .int .i64 6])) (((W3.setCell ⟨w.heap.size + 1 + 1 + 1, 0, none⟩ (.bool false)).setCell ⟨w.heap.size + 1 + 1 + 1, 1, none⟩ (.slice none 0 0)).setCell ⟨w.heap.size + 1 + 1 + 1, 2, none⟩ (.slice none 0 0))) := Lib.hid ⟨false, none, 0, 0, none, 0, 0, rfl, ext_set3 hE0 _ _ _ (by omega), fun _ => ⟨rfl, rfl, rfl, rfl, rfl, rfl, rfl⟩, fun h => absurd h (by decide)⟩
   clear hE0 h h' hq
   have r02 : Blk ((((W3).setCell ⟨w.heap.size + 1 + 1 + 1, 0, none⟩ (.bool false)).setCell ⟨w.heap.size + 1 + 1 + 1, 1, none⟩ (.slice none 0 0)).setCell ⟨w.heap.size + 1 + 1 + 1, 2, none⟩ (.slice none 0 0)) _ _ #[.bool false, .slice none 0 0, .slice none 0 0] := (((r0).set 0 (.bool false)).set 1 (.slice none 0 0)).set 2 (.slice none 0 0)
   have hr00 := r02.cell (i := 0) rfl
   have hr01 := r02.cell (i := 1) rfl
   have hr02 := r02.cell (i := 2) rfl
   go_wp2_with fail
   exact bodyPost_ret (v := .tuple #[.agg #[.bool false, .slice none 0 0, .slice none 0 0], .int .i64 6]) (by simp [results, Tryz.results53, go_sem, hr00, hr01, hr02]) rfl HF.out
  ·obtain ⟨xq, hxq⟩ : ∃ t, frR q = t := ⟨_, rfl⟩
   have HXQ := Lib.hid hxq
   have hqK : nl q.1.natAbs ≤ K ∧ nl q.2.natAbs ≤ K := by
    obtain ⟨_, _, _, _, _, _, _, _, hcs, l, l2, h1, h2, hv1, hv2, hn, hn2⟩ := hq
    cases hcs
    exact ⟨Nat.le_trans (nl_of h1 (Lib.hid hv1)) hn, Nat.le_trans (nl_of h2 (Lib.hid hv2)) hn2⟩
   have hle : nl xq.num.natAbs ≤ K ∧ nl xq.den ≤ K := by
    rw [← hxq]
    have := ratv_le q.1 q.2 hq0
    exact ⟨Nat.le_trans (nl_mono this.1) hqK.1, Nat.le_trans (nl_mono this.2) hqK.2⟩
   have hxd : ((xq.den : Nat) : Int) ≠ 0 := by have := xq.den_nz; omega
   (with_reducible refine (ratNorm_any K (by omega) w1 bx ax nx cx by1 ay ny cy q (rFr_ext hq hE0) hq0 xq HXQ).mono ?_)
   rintro e w2 ⟨a6, n6, c6, a7, n7, c7, rfl, h6, h7, hE2⟩
   replace p0 := p0.ext hE2; replace p0_0 := p0.cell (i := 0) rfl; replace p0_1 := p0.cell (i := 1) rfl; replace p0_2 := p0.cell (i := 2) rfl; replace p0_f0 := p0.free 0; replace p0_f1 := p0.free 1; replace p0_f2 := p0.free 2; replace p0_lt := p0.lt; replace p1 := p1.ext hE2; replace p1_0 := p1.cell (i := 0) rfl; replace p1_1 := p1.cell (i := 1) rfl; replace p1_2 := p1.cell (i := 2) rfl; replace p1_f0 := p1.free 0; replace p1_f1 := p1.free 1; replace p1_f2 := p1.free 2; replace p1_lt := p1.lt; replace p2 := p2.ext hE2; replace p2_0 := p2.cell (i := 0) rfl; replace p2_1 := p2.cell (i := 1) rfl; replace p2_2 := p2.cell (i := 2) rfl; replace p2_3 := p2.cell (i := 3) rfl; replace p2_f0 := p2.free 0; replace p2_f1 := p2.free 1; replace p2_f2 := p2.free 2; replace p2_f3 := p2.free 3; replace p2_lt := p2.lt; replace r0 := r0.ext hE2; replace r0_0 := r0.cell (i := 0) rfl; replace r0_1 := r0.cell (i := 1) rfl; replace r0_2 := r0.cell (i := 2) rfl; replace r0_f0 := r0.free 0; replace r0_f1 := r0.free 1; replace r0_f2 := r0.free 2; replace r0_lt := r0.lt
   have hsz2 := hE2.size
   have hn6 : n6 ≤ K := by have := h6.len; rw [length_limbs] at this; omega
   have hn7 : n7 ≤ K := by have := h7.len; rw [length_limbs] at this; omega
   replace hE0 := Ext.trans hE0 hE2
   clear hE2 hxq hqK
   have HXN : Hid (ival (decide (xq.num < 0)) (limbs xq.num.natAbs) = xq.num) := hnorm _
   have HXD : Hid (ival false (limbs xq.den) = (xq.den : Int)) := Lib.hid (by rw [ival_limbs]; rfl)
   generalize decide (xq.num < 0) = sx at *
   go_upto_region 5 with (fail)
   replace p2 := p2.set 0 (.bool sx)
   replace p0 := p0.set_ne 0 (.bool sx) (show w.heap.size ≠ w.heap.size + 1 + 1 by omega)
   replace p1 := p1.set_ne 0 (.bool sx) (show w.heap.size + 1 ≠ w.heap.size + 1 + 1 by omega)
   replace r0 := r0.set_ne 0 (.bool sx) (show w.heap.size + 1 + 1 + 1 ≠ w.heap.size + 1 + 1 by omega)
   replace p2 := p2.set 1 (.slice a6 n6 c6)
   replace p0 := p0.set_ne 1 (.slice a6 n6 c6) (show w.heap.size ≠ w.heap.size + 1 + 1 by omega)
   replace p1 := p1.set_ne 1 (.slice a6 n6 c6) (show w.heap.size + 1 ≠ w.heap.size + 1 + 1 by omega)
   replace r0 := r0.set_ne 1 (.slice a6 n6 c6) (show w.heap.size + 1 + 1 + 1 ≠ w.heap.size + 1 + 1 by omega)
   replace p2 := p2.set 2 (.bool false)
   replace p0 := p0.set_ne 2 (.bool false) (show w.heap.size ≠ w.heap.size + 1 + 1 by omega)
   replace p1 := p1.set_ne 2 (.bool false) (show w.heap.size + 1 ≠ w.heap.size + 1 + 1 by omega)
   replace r0 := r0.set_ne 2 (.bool false) (show w.heap.size + 1 + 1 + 1 ≠ w.heap.size + 1 + 1 by omega)
   replace p2 := p2.set 3 (.slice a7 n7 c7)
   replace p0 := p0.set_ne 3 (.slice a7 n7 c7) (show w.heap.size ≠ w.heap.size + 1 + 1 by omega)
   replace p1 := p1.set_ne 3 (.slice a7 n7 c7) (show w.heap.size + 1 ≠ w.heap.size + 1 + 1 by omega)
   replace r0 := r0.set_ne 3 (.slice a7 n7 c7) (show w.heap.size + 1 + 1 + 1 ≠ w.heap.size + 1 + 1 by omega)
   have hKW3 : ∀ bB_ : Nat, w.heap.size + 1 + 1 < bB_ → Kept bB_ w2 (((((w2).setCell ⟨w.heap.size + 1 + 1, 0, none⟩ (.bool sx)).setCell ⟨w.heap.size + 1 + 1, 1, none⟩ (.slice a6 n6 c6)).setCell ⟨w.heap.size + 1 + 1, 2, none⟩ (.bool false)).setCell ⟨w.heap.size + 1 + 1, 3, none⟩ (.slice a7 n7 c7)) := fun bB_ h0 => (Kept.trans (kept_set _ _ _ h0) (Kept.trans (kept_set _ _ _ h0) (Kept.trans (kept_set _ _ _ h0) (kept_set _ _ _ h0))))
   have hzW3 : w2.heap.size ≤ (((((w2).setCell ⟨w.heap.size + 1 + 1, 0, none⟩ (.bool sx)).setCell ⟨w.heap.size + 1 + 1, 1, none⟩ (.slice a6 n6 c6)).setCell ⟨w.heap.size + 1 + 1, 2, none⟩ (.bool false)).setCell ⟨w.heap.size + 1 + 1, 3, none⟩ (.slice a7 n7 c7)).heap.size := by simp only [World.setCell, Array.size_modify]; exact Nat.le_refl _
   have hSW3 : ∀ (nB_ : Nat) (uB_ : World), nB_ ≤ w.heap.size + 1 + 1 → Below nB_ uB_ w2 → Below nB_ uB_ (((((w2).setCell ⟨w.heap.size + 1 + 1, 0, none⟩ (.bool sx)).setCell ⟨w.heap.size + 1 + 1, 1, none⟩ (.slice a6 n6 c6)).setCell ⟨w.heap.size + 1 + 1, 2, none⟩ (.bool false)).setCell ⟨w.heap.size + 1 + 1, 3, none⟩ (.slice a7 n7 c7)) := fun nB_ uB_ h0 hb => (Below.setCell (Below.setCell (Below.setCell (Below.setCell hb (p := ⟨w.heap.size + 1 + 1, 0, none⟩) h0 (.bool sx)) (p := ⟨w.heap.size + 1 + 1, 1, none⟩) h0 (.slice a6 n6 c6)) (p := ⟨w.heap.size + 1 + 1, 2, none⟩) h0 (.bool false)) (p := ⟨w.heap.size + 1 + 1, 3, none⟩) h0 (.slice a7 n7 c7))
   replace p2 : Blk (((((w2).setCell ⟨w.heap.size + 1 + 1, 0, none⟩ (.bool sx)).setCell ⟨w.heap.size + 1 + 1, 1, none⟩ (.slice a6 n6 c6)).setCell ⟨w.heap.size + 1 + 1, 2, none⟩ (.bool false)).setCell ⟨w.heap.size + 1 + 1, 3, none⟩ (.slice a7 n7 c7)) (w.heap.size + 1 + 1) 75 #[.bool sx, .slice a6 n6 c6, .bool false, .slice a7 n7 c7] := p2
   generalize hgW3 : ((((w2).setCell ⟨w.heap.size + 1 + 1, 0, none⟩ (.bool sx)).setCell ⟨w.heap.size + 1 + 1, 1, none⟩ (.slice a6 n6 c6)).setCell ⟨w.heap.size + 1 + 1, 2, none⟩ (.bool false)).setCell ⟨w.heap.size + 1 + 1, 3, none⟩ (.slice a7 n7 c7) = W3 at *
   clear hgW3
   replace p2_0 := p2.cell (i := 0) rfl
   replace p2_1 := p2.cell (i := 1) rfl
   replace p2_2 := p2.cell (i := 2) rfl
   replace p2_3 := p2.cell (i := 3) rfl
   replace p2_f0 := p2.free 0
   replace p2_f1 := p2.free 1
   replace p2_f2 := p2.free 2
   replace p2_f3 := p2.free 3
   replace p2_lt := p2.lt
   replace p0_0 := p0.cell (i := 0) rfl
   replace p0_1 := p0.cell (i := 1) rfl
   replace p0_2 := p0.cell (i := 2) rfl
   replace p0_f0 := p0.free 0
   replace p0_f1 := p0.free 1
   replace p0_f2 := p0.free 2
   replace p0_lt := p0.lt
   replace p1_0 := p1.cell (i := 0) rfl
   replace p1_1 := p1.cell (i := 1) rfl
   replace p1_2 := p1.cell (i := 2) rfl
   replace p1_f0 := p1.free 0
   replace p1_f1 := p1.free 1
   replace p1_f2 := p1.free 2
   replace p1_lt := p1.lt
   replace r0_0 := r0.cell (i := 0) rfl
   replace r0_1 := r0.cell (i := 1) rfl
   replace r0_2 := r0.cell (i := 2) rfl
   replace r0_f0 := r0.free 0
   replace r0_f1 := r0.free 1
   replace r0_f2 := r0.free 2
   replace r0_lt := r0.lt
   replace hE0 := hSW3 _ _ (by omega) hE0
   replace h6 := Sl.zero (h6.mono (Nat.le_refl _) (hKW3 _ (by omega)))
   replace h7 := Sl.zero (h7.mono (Nat.le_refl _) (hKW3 _ (by omega)))
   have hszW3 := hzW3
   clear hSW3 hKW3 hzW3
   by_cases hnn : n2 = n2'
   ·subst hnn
    obtain rfl : s = 0 := by rw [HSS.out, if_neg (by decide), if_neg hq0, if_neg (by simp)]
    obtain ⟨lx, gx1, gx2, gx3, gx4⟩ := h.ext hE0
    obtain ⟨ly, gy1, gy2, gy3, gy4⟩ := h'.ext hE0
    have GX2 := Lib.hid gx2
    have GY2 := Lib.hid gy2
    have GX4 := Lib.hid gx4
    have GY4 := Lib.hid gy4
    have GX1 := Lib.hid gx1
    have hm1 := gx4.most
    have hm2 := gx4.cap
    obtain ⟨UP, hUP⟩ : ∃ t, y.1 * (xq.den : Int) = t := ⟨_, rfl⟩
    obtain ⟨DN, hDN⟩ : ∃ t, x.1 * xq.num = t := ⟨_, rfl⟩
    have HUP := Lib.hid hUP
    have HDN := Lib.hid hDN
    have hup0 : UP ≠ 0 := by rw [← hUP]; exact Int.mul_ne_zero hy0 hxd
    have HQE : Hid (frV (x.1 * UP) ((List.range n2).map (vaddZ x.2 y.2 UP DN)) = qs) := Lib.hid (by rw [← hqs.out, ← hUP, ← hDN, HXQ.out, ← HL.out]; exact vadd_eq _ _ _ _ _ hx0 hy0)
    obtain ⟨DD, hDD⟩ : ∃ t, x.1 * UP = t := ⟨_, rfl⟩
    have HDD := Lib.hid hDD
    have HQE2 : Hid (frV DD ((List.range n2).map (vaddZ x.2 y.2 UP DN)) = qs) := Lib.hid (by rw [← hDD]; exact HQE.out)
    have hdd0 : DD ≠ 0 := by rw [← hDD]; exact Int.mul_ne_zero hx0 hup0
    have HE3 := Lib.hid hE0
    have hr0l := r0_lt
    clear gx2 gy2 gx4 gy4 h h' hq hq0 hUP hDN hDD hxd hE0
    go_upto_region 9 with (fail)
    have HR0 := Lib.hid r0
    have HP0 := Lib.hid p0
    have HP1 := Lib.hid p1
    clear r0 r0_0 r0_1 r0_2 r0_f0 r0_f1 r0_f2 r0_lt
    go_cut [10, 11] (fun s5 s6 wx => ∃ qU qD su au nu cu sd ad nd cd, s5 = .pointer (some ⟨qU, 0, none⟩) ∧ s6 = .pointer (some ⟨qD, 0, none⟩) ∧ Hid (Blk wx qU 25 #[.bool su, .slice au nu cu]) ∧ Hid (Blk wx qD 25 #[.bool sd, .slice ad nd cd]) ∧ Hid (NatS 0 wx au nu cu (limbs UP.natAbs)) ∧ Hid (ival su (limbs UP.natAbs) = UP) ∧ nu ≤ K + K ∧ Hid (NatS 0 wx ad nd cd (limbs DN.natAbs)) ∧ Hid (ival sd (limbs DN.natAbs) = DN) ∧ nd ≤ K + K ∧ Hid (Ext W3 wx))
    case first =>
     have p0W := p0
     have p1W := p1
     have p2W := p2
     have hlt_p0 : w.heap.size < W3.heap.size := p0.lt
     have hlt_p1 : w.heap.size + 1 < W3.heap.size := p1.lt
     have hlt_p2 : w.heap.size + 1 + 1 < W3.heap.size := p2.lt
     have hEd : Ext W3 W3.drew := (Below.refl _ _).drew
     have hsd : W3.heap.size ≤ W3.drew.heap.size := hEd.size
     replace p0 := p0.ext hEd; replace p0_0 := p0.cell (i := 0) rfl; replace p0_1 := p0.cell (i := 1) rfl; replace p0_2 := p0.cell (i := 2) rfl; replace p1 := p1.ext hEd; replace p1_0 := p1.cell (i := 0) rfl; replace p1_1 := p1.cell (i := 1) rfl; replace p1_2 := p1.cell (i := 2) rfl; replace p2 := p2.ext hEd; replace p2_0 := p2.cell (i := 0) rfl; replace p2_1 := p2.cell (i := 1) rfl; replace p2_2 := p2.cell (i := 2) rfl; replace p2_3 := p2.cell (i := 3) rfl
     have hE0 := hEd
     clear hEd
     refine wp_region_noPanic ?_
     refine wp_region_held_drew (S := (fun w' => w'.cell? ⟨w.heap.size, 0, none⟩ = some (.bool b) ∧ w'.cell? ⟨w.heap.size, 1, none⟩ = some (.slice a n c) ∧ w'.cell? ⟨w.heap.size, 2, none⟩ = some (.slice a2 n2 c2) ∧ w'.cell? ⟨w.heap.size + 1, 0, none⟩ = some (.bool b') ∧ w'.cell? ⟨w.heap.size + 1, 1, none⟩ = some (.slice a' n' c') ∧ w'.cell? ⟨w.heap.size + 1, 2, none⟩ = some (.slice a2' n2 c2') ∧ w'.cell? ⟨w.heap.size + 1 + 1, 0, none⟩ = some (.bool sx) ∧ w'.cell? ⟨w.heap.size + 1 + 1, 1, none⟩ = some (.slice a6 n6 c6) ∧ w'.cell? ⟨w.heap.size + 1 + 1, 2, none⟩ = some (.bool false) ∧ w'.cell? ⟨w.heap.size + 1 + 1, 3, none⟩ = some (.slice a7 n7 c7))) (by kernel_rfl) ⟨p0_0, p0_1, p0_2, p1_0, p1_1, p1_2, p2_0, p2_1, p2_2, p2_3⟩ (fun hHeld => ?_)
     refine takeD 0 40 (v := ?_) rfl rfl (by kernel_rfl) (by kernel_rfl) (by kernel_rfl) (fun _ _ _ h => h) (Or.inl ⟨by kernel_rfl, ?hy⟩) hHeld ?_
     case hy => (intro w hSw; (try dsimp only at hSw); go_simp; try with_reducible rfl)
     try simp only [List.setIfInBounds_toArray, List.set_cons_zero, List.set_cons_succ]
     refine takeD 1 41 (v := ?_) rfl rfl (by kernel_rfl) (by kernel_rfl) (by kernel_rfl) (fun _ _ _ h => h) (Or.inl ⟨by kernel_rfl, ?hy⟩) hHeld ?_
     case hy => (intro w hSw; (try dsimp only at hSw); go_simp; try with_reducible rfl)
     try simp only [List.setIfInBounds_toArray, List.set_cons_zero, List.set_cons_succ]
     refine takeD 2 42 (v := ?_) rfl rfl (by kernel_rfl) (by kernel_rfl) (by kernel_rfl) (fun _ _ _ h => h) (Or.inl ⟨by kernel_rfl, ?hy⟩) hHeld ?_
     case hy => (intro w hSw; (try dsimp only at hSw); go_simp; try with_reducible rfl)
     try simp only [List.setIfInBounds_toArray, List.set_cons_zero, List.set_cons_succ]
     refine takeD 3 43 (v := ?_) rfl rfl (by kernel_rfl) (by kernel_rfl) (by kernel_rfl) (fun _ _ _ h => h) (Or.inl ⟨by kernel_rfl, ?hy⟩) hHeld ?_
     case hy => (intro w hSw; (try dsimp only at hSw); go_simp; try with_reducible rfl)
     try simp only [List.setIfInBounds_toArray, List.set_cons_zero, List.set_cons_succ]
     refine takeD 5 45 (v := ?_) rfl rfl (by kernel_rfl) (by kernel_rfl) (by kernel_rfl) (fun _ _ _ h => h) (Or.inl ⟨by kernel_rfl, ?hy⟩) hHeld ?_
     case hy => (intro w hSw; (try dsimp only at hSw); go_simp; try with_reducible rfl)
     try simp only [List.setIfInBounds_toArray, List.set_cons_zero, List.set_cons_succ]
     refine takeD 6 46 (v := ?_) rfl rfl (by kernel_rfl) (by kernel_rfl) (by kernel_rfl) (fun _ _ _ h => h) (Or.inl ⟨by kernel_rfl, ?hy⟩) hHeld ?_
     case hy => (intro w hSw; (try dsimp only at hSw); go_simp; try with_reducible rfl)
     try simp only [List.setIfInBounds_toArray, List.set_cons_zero, List.set_cons_succ]
     refine takeD 7 47 (v := ?_) rfl rfl (by kernel_rfl) (by kernel_rfl) (by kernel_rfl) (fun _ _ _ h => h) (Or.inl ⟨by kernel_rfl, ?hy⟩) hHeld ?_
     case hy => (intro w hSw; (try dsimp only at hSw); go_simp; try with_reducible rfl)
     try simp only [List.setIfInBounds_toArray, List.set_cons_zero, List.set_cons_succ]
     refine takeD 8 48 (v := ?_) rfl rfl (by kernel_rfl) (by kernel_rfl) (by kernel_rfl) (fun _ _ _ h => h) (Or.inl ⟨by kernel_rfl, ?hy⟩) hHeld ?_
     case hy => (intro w hSw; (try dsimp only at hSw); go_simp; try with_reducible rfl)
     try simp only [List.setIfInBounds_toArray, List.set_cons_zero, List.set_cons_succ]
     skip
     skip
     skip
     refine wpAnyH_ready (rs := [4, 10, 11]) (by kernel_rfl) (by simp) ?_
     refine AllReadyH.cons rfl (fun Kc hKc => ?_) (AllReadyH.cons rfl (fun Kc hKc => ?_) (AllReadyH.cons rfl (fun Kc hKc => ?_) AllReadyH.nil))
     rotate_left 2
     focus
      refine Eq.mpr (if_pos (by kernel_rfl)) ?_
      go_simp
      have hE1 : Ext W3 (W3.alloc (Obj.cells #[.bool false, .slice none 0 0] 25)).drew := ((Below.refl _ _).alloc (Nat.le_refl _) _).drew
      have qd : Blk (W3.alloc (Obj.cells #[.bool false, .slice none 0 0] 25)).drew W3.heap.size 25 #[.bool false, .slice none 0 0] := Blk.new W3 25 #[.bool false, .slice none 0 0]
      replace hE0 := hE1
      have p0 := p0W.ext hE1
      have p1 := p1W.ext hE1
      have p2 := p2W.ext hE1
      replace p0_0 := p0.cell (i := 0) rfl
      replace p0_1 := p0.cell (i := 1) rfl
      replace p0_2 := p0.cell (i := 2) rfl
      replace p1_0 := p1.cell (i := 0) rfl
      replace p1_1 := p1.cell (i := 1) rfl
      replace p1_2 := p1.cell (i := 2) rfl
      replace p2_0 := p2.cell (i := 0) rfl
      replace p2_1 := p2.cell (i := 1) rfl
      replace p2_2 := p2.cell (i := 2) rfl
      replace p2_3 := p2.cell (i := 3) rfl
      have hs0 := hE1.size
      clear hE1
      refine hKc.out _ _ ⟨p0_0, p0_1, p0_2, p1_0, p1_1, p1_2, p2_0, p2_1, p2_2, p2_3⟩ (fun hHeld => ?_)
      clear hKc Kc
      try simp only [Act.put, List.setIfInBounds_toArray, List.set_cons_zero, List.set_cons_succ]
      have ltqD : W3.heap.size < (W3.alloc (Obj.cells #[.bool false, .slice none 0 0] 25)).drew.heap.size := qd.lt
      generalize (W3.alloc (Obj.cells #[.bool false, .slice none 0 0] 25)).drew = v0 at *
      obtain ⟨qD, hqD⟩ : ∃ q, W3.heap.size = q := ⟨_, rfl⟩
      have geqD : W3.heap.size ≤ qD := Nat.le_of_eq hqD
      have leqD : qD ≤ W3.heap.size := Nat.le_of_eq hqD.symm
      rw [hqD] at qd ⊢
      clear hqD
      skip
      replace qd_0 := qd.cell (i := 0) rfl
      replace qd_1 := qd.cell (i := 1) rfl
      replace qd_f0 := qd.free 0
      replace qd_f1 := qd.free 1
      replace qd_lt := qd.lt
      skip
      skip
      skip
      refine wpAnyH_ready (rs := [4, 10]) (by kernel_rfl) (by simp) ?_
      refine AllReadyH.cons rfl (fun Kc hKc => ?_) (AllReadyH.cons rfl (fun Kc hKc => ?_) AllReadyH.nil)
      rotate_left 1
      focus
       refine Eq.mpr (if_pos (by kernel_rfl)) ?_
       go_simp
       have hE1 : Ext v0 (v0.alloc (Obj.cells #[.bool false, .slice none 0 0] 25)) := (Below.refl _ _).alloc (Nat.le_refl _) _
       have qu : Blk (v0.alloc (Obj.cells #[.bool false, .slice none 0 0] 25)) v0.heap.size 25 #[.bool false, .slice none 0 0] := Blk.new v0 25 #[.bool false, .slice none 0 0]
       replace hE0 := Ext.trans hE0 hE1
       skip
       replace p0 := p0.ext hE1; replace p0_0 := p0.cell (i := 0) rfl; replace p0_1 := p0.cell (i := 1) rfl; replace p0_2 := p0.cell (i := 2) rfl; replace p1 := p1.ext hE1; replace p1_0 := p1.cell (i := 0) rfl; replace p1_1 := p1.cell (i := 1) rfl; replace p1_2 := p1.cell (i := 2) rfl; replace p2 := p2.ext hE1; replace p2_0 := p2.cell (i := 0) rfl; replace p2_1 := p2.cell (i := 1) rfl; replace p2_2 := p2.cell (i := 2) rfl; replace p2_3 := p2.cell (i := 3) rfl; replace qd := qd.ext hE1; replace qd_0 := qd.cell (i := 0) rfl; replace qd_1 := qd.cell (i := 1) rfl; replace qd_f0 := qd.free 0; replace qd_f1 := qd.free 1; replace qd_lt := qd.lt
       have hs1 := hE1.size
       clear hE1
       refine hKc.out _ _ ⟨p0_0, p0_1, p0_2, p1_0, p1_1, p1_2, p2_0, p2_1, p2_2, p2_3⟩ (fun hHeld => ?_)
       clear hKc Kc
       try simp only [Act.put, List.setIfInBounds_toArray, List.set_cons_zero, List.set_cons_succ]
       have ltqU : v0.heap.size < (v0.alloc (Obj.cells #[.bool false, .slice none 0 0] 25)).heap.size := qu.lt
       generalize (v0.alloc (Obj.cells #[.bool false, .slice none 0 0] 25)) = v1 at *
       obtain ⟨qU, hqU⟩ : ∃ q, v0.heap.size = q := ⟨_, rfl⟩
       have geqU : v0.heap.size ≤ qU := Nat.le_of_eq hqU
       have leqU : qU ≤ v0.heap.size := Nat.le_of_eq hqU.symm
       rw [hqU] at qu ⊢
       clear hqU
       skip
       replace qu_0 := qu.cell (i := 0) rfl
       replace qu_1 := qu.cell (i := 1) rfl
       replace qu_f0 := qu.free 0
       replace qu_f1 := qu.free 1
       replace qu_lt := qu.lt
       skip
       skip
       skip
       refine stepD 4 rfl (by kernel_rfl) (fun Kc hKc => ?_)
       refine Eq.mpr (if_pos (by kernel_rfl)) ?_
       go_simp
       refine (zmul_b b' false v1 a' a7 n' c' n7 c7 ly (limbs xq.den) y.1 (xq.den : Int) (gy1.ext (Nat.le_refl _) hE0) (h7.ext (Nat.le_refl _) hE0) gy3 hn7 (by omega) GY2 HXD UP HUP).mono ?_
       rintro e v2 ⟨su, au, nu, cu, rfl, hu, HVu, hnu, hE1⟩
       have hs2 := hE1.size
       skip
       skip
       replace p0 := p0.ext hE1; replace p0_0 := p0.cell (i := 0) rfl; replace p0_1 := p0.cell (i := 1) rfl; replace p0_2 := p0.cell (i := 2) rfl; replace p1 := p1.ext hE1; replace p1_0 := p1.cell (i := 0) rfl; replace p1_1 := p1.cell (i := 1) rfl; replace p1_2 := p1.cell (i := 2) rfl; replace p2 := p2.ext hE1; replace p2_0 := p2.cell (i := 0) rfl; replace p2_1 := p2.cell (i := 1) rfl; replace p2_2 := p2.cell (i := 2) rfl; replace p2_3 := p2.cell (i := 3) rfl; replace qu := qu.ext hE1; replace qu_0 := qu.cell (i := 0) rfl; replace qu_1 := qu.cell (i := 1) rfl; replace qu_f0 := qu.free 0; replace qu_f1 := qu.free 1; replace qu_lt := qu.lt; replace qd := qd.ext hE1; replace qd_0 := qd.cell (i := 0) rfl; replace qd_1 := qd.cell (i := 1) rfl; replace qd_f0 := qd.free 0; replace qd_f1 := qd.free 1; replace qd_lt := qd.lt
       have hk_hu := Kept.refl v1.heap.size v2
       replace hE0 := Ext.trans hE0 hE1
       clear hE1
       go_wp2_with fail
       refine hKc.out _ _ ⟨p0_0, p0_1, p0_2, p1_0, p1_1, p1_2, p2_0, p2_1, p2_2, p2_3⟩ (fun hHeld => ?_)
       clear hKc Kc
       try simp only [Act.put, List.setIfInBounds_toArray, List.set_cons_zero, List.set_cons_succ]
       skip
       skip
       skip
       refine stepD 9 rfl (by kernel_rfl) (fun Kc hKc => ?_)
       refine Eq.mpr (if_pos (by kernel_rfl)) ?_
       go_simp
       refine (zmul_b b sx v2 a a6 n c n6 c6 lx _ x.1 xq.num (gx1.ext (Nat.le_refl _) hE0) (h6.ext (Nat.le_refl _) hE0) gx3 hn6 (by omega) GX2 HXN DN HDN).mono ?_
       rintro e v3 ⟨sd, ad, nd, cd, rfl, hd, HVd, hnd, hE1⟩
       have hs3 := hE1.size
       skip
       skip
       replace p0 := p0.ext hE1; replace p0_0 := p0.cell (i := 0) rfl; replace p0_1 := p0.cell (i := 1) rfl; replace p0_2 := p0.cell (i := 2) rfl; replace p1 := p1.ext hE1; replace p1_0 := p1.cell (i := 0) rfl; replace p1_1 := p1.cell (i := 1) rfl; replace p1_2 := p1.cell (i := 2) rfl; replace p2 := p2.ext hE1; replace p2_0 := p2.cell (i := 0) rfl; replace p2_1 := p2.cell (i := 1) rfl; replace p2_2 := p2.cell (i := 2) rfl; replace p2_3 := p2.cell (i := 3) rfl; replace qu := qu.ext hE1; replace qu_0 := qu.cell (i := 0) rfl; replace qu_1 := qu.cell (i := 1) rfl; replace qu_f0 := qu.free 0; replace qu_f1 := qu.free 1; replace qu_lt := qu.lt; replace qd := qd.ext hE1; replace qd_0 := qd.cell (i := 0) rfl; replace qd_1 := qd.cell (i := 1) rfl; replace qd_f0 := qd.free 0; replace qd_f1 := qd.free 1; replace qd_lt := qd.lt
       have hk_hd := Kept.refl v2.heap.size v3
       replace hk_hu := Kept.trans hk_hu (Ext.kept hE1)
       replace hE0 := Ext.trans hE0 hE1
       clear hE1
       go_wp2_with fail
       refine hKc.out _ _ ⟨p0_0, p0_1, p0_2, p1_0, p1_1, p1_2, p2_0, p2_1, p2_2, p2_3⟩ (fun hHeld => ?_)
       clear hKc Kc
       try simp only [Act.put, List.setIfInBounds_toArray, List.set_cons_zero, List.set_cons_succ]
       obtain ⟨wL, rfl⟩ : ∃ x : World, x = v3 := ⟨_, rfl⟩
      rotate_right 1
      focus
       refine Eq.mpr (if_pos (by kernel_rfl)) ?_
       go_simp
       refine (zmul_b b' false v0 a' a7 n' c' n7 c7 ly (limbs xq.den) y.1 (xq.den : Int) (gy1.ext (Nat.le_refl _) hE0) (h7.ext (Nat.le_refl _) hE0) gy3 hn7 (by omega) GY2 HXD UP HUP).mono ?_
       rintro e v1 ⟨su, au, nu, cu, rfl, hu, HVu, hnu, hE1⟩
       have hs1 := hE1.size
       skip
       replace p0 := p0.ext hE1; replace p0_0 := p0.cell (i := 0) rfl; replace p0_1 := p0.cell (i := 1) rfl; replace p0_2 := p0.cell (i := 2) rfl; replace p1 := p1.ext hE1; replace p1_0 := p1.cell (i := 0) rfl; replace p1_1 := p1.cell (i := 1) rfl; replace p1_2 := p1.cell (i := 2) rfl; replace p2 := p2.ext hE1; replace p2_0 := p2.cell (i := 0) rfl; replace p2_1 := p2.cell (i := 1) rfl; replace p2_2 := p2.cell (i := 2) rfl; replace p2_3 := p2.cell (i := 3) rfl; replace qd := qd.ext hE1; replace qd_0 := qd.cell (i := 0) rfl; replace qd_1 := qd.cell (i := 1) rfl; replace qd_f0 := qd.free 0; replace qd_f1 := qd.free 1; replace qd_lt := qd.lt
       have hk_hu := Kept.refl v0.heap.size v1
       replace hE0 := Ext.trans hE0 hE1
       clear hE1
       go_wp2_with fail
       refine hKc.out _ _ ⟨p0_0, p0_1, p0_2, p1_0, p1_1, p1_2, p2_0, p2_1, p2_2, p2_3⟩ (fun hHeld => ?_)
       clear hKc Kc
       try simp only [Act.put, List.setIfInBounds_toArray, List.set_cons_zero, List.set_cons_succ]
       skip
       skip
       skip
       refine wpAnyH_ready (rs := [9, 10]) (by kernel_rfl) (by simp) ?_
       refine AllReadyH.cons rfl (fun Kc hKc => ?_) (AllReadyH.cons rfl (fun Kc hKc => ?_) AllReadyH.nil)
       rotate_left 1
       focus
        refine Eq.mpr (if_pos (by kernel_rfl)) ?_
        go_simp
        have hE1 : Ext v1 (v1.alloc (Obj.cells #[.bool false, .slice none 0 0] 25)) := (Below.refl _ _).alloc (Nat.le_refl _) _
        have qu : Blk (v1.alloc (Obj.cells #[.bool false, .slice none 0 0] 25)) v1.heap.size 25 #[.bool false, .slice none 0 0] := Blk.new v1 25 #[.bool false, .slice none 0 0]
        replace hE0 := Ext.trans hE0 hE1
        skip
        replace p0 := p0.ext hE1; replace p0_0 := p0.cell (i := 0) rfl; replace p0_1 := p0.cell (i := 1) rfl; replace p0_2 := p0.cell (i := 2) rfl; replace p1 := p1.ext hE1; replace p1_0 := p1.cell (i := 0) rfl; replace p1_1 := p1.cell (i := 1) rfl; replace p1_2 := p1.cell (i := 2) rfl; replace p2 := p2.ext hE1; replace p2_0 := p2.cell (i := 0) rfl; replace p2_1 := p2.cell (i := 1) rfl; replace p2_2 := p2.cell (i := 2) rfl; replace p2_3 := p2.cell (i := 3) rfl; replace qd := qd.ext hE1; replace qd_0 := qd.cell (i := 0) rfl; replace qd_1 := qd.cell (i := 1) rfl; replace qd_f0 := qd.free 0; replace qd_f1 := qd.free 1; replace qd_lt := qd.lt
        replace hk_hu := Kept.trans hk_hu (Ext.kept hE1)
        have hs2 := hE1.size
        clear hE1
        refine hKc.out _ _ ⟨p0_0, p0_1, p0_2, p1_0, p1_1, p1_2, p2_0, p2_1, p2_2, p2_3⟩ (fun hHeld => ?_)
        clear hKc Kc
        try simp only [Act.put, List.setIfInBounds_toArray, List.set_cons_zero, List.set_cons_succ]
        have ltqU : v1.heap.size < (v1.alloc (Obj.cells #[.bool false, .slice none 0 0] 25)).heap.size := qu.lt
        generalize (v1.alloc (Obj.cells #[.bool false, .slice none 0 0] 25)) = v2 at *
        obtain ⟨qU, hqU⟩ : ∃ q, v1.heap.size = q := ⟨_, rfl⟩
        have geqU : v1.heap.size ≤ qU := Nat.le_of_eq hqU
        have leqU : qU ≤ v1.heap.size := Nat.le_of_eq hqU.symm
        rw [hqU] at qu ⊢
        clear hqU
        skip
        replace qu_0 := qu.cell (i := 0) rfl
        replace qu_1 := qu.cell (i := 1) rfl
        replace qu_f0 := qu.free 0
        replace qu_f1 := qu.free 1
        replace qu_lt := qu.lt
        skip
        skip
        skip
        refine stepD 9 rfl (by kernel_rfl) (fun Kc hKc => ?_)
        refine Eq.mpr (if_pos (by kernel_rfl)) ?_
        go_simp
        refine (zmul_b b sx v2 a a6 n c n6 c6 lx _ x.1 xq.num (gx1.ext (Nat.le_refl _) hE0) (h6.ext (Nat.le_refl _) hE0) gx3 hn6 (by omega) GX2 HXN DN HDN).mono ?_
        rintro e v3 ⟨sd, ad, nd, cd, rfl, hd, HVd, hnd, hE1⟩
        have hs3 := hE1.size
        skip
        skip
        replace p0 := p0.ext hE1; replace p0_0 := p0.cell (i := 0) rfl; replace p0_1 := p0.cell (i := 1) rfl; replace p0_2 := p0.cell (i := 2) rfl; replace p1 := p1.ext hE1; replace p1_0 := p1.cell (i := 0) rfl; replace p1_1 := p1.cell (i := 1) rfl; replace p1_2 := p1.cell (i := 2) rfl; replace p2 := p2.ext hE1; replace p2_0 := p2.cell (i := 0) rfl; replace p2_1 := p2.cell (i := 1) rfl; replace p2_2 := p2.cell (i := 2) rfl; replace p2_3 := p2.cell (i := 3) rfl; replace qu := qu.ext hE1; replace qu_0 := qu.cell (i := 0) rfl; replace qu_1 := qu.cell (i := 1) rfl; replace qu_f0 := qu.free 0; replace qu_f1 := qu.free 1; replace qu_lt := qu.lt; replace qd := qd.ext hE1; replace qd_0 := qd.cell (i := 0) rfl; replace qd_1 := qd.cell (i := 1) rfl; replace qd_f0 := qd.free 0; replace qd_f1 := qd.free 1; replace qd_lt := qd.lt
        have hk_hd := Kept.refl v2.heap.size v3
        replace hk_hu := Kept.trans hk_hu (Ext.kept hE1)
        replace hE0 := Ext.trans hE0 hE1
        clear hE1
        go_wp2_with fail
        refine hKc.out _ _ ⟨p0_0, p0_1, p0_2, p1_0, p1_1, p1_2, p2_0, p2_1, p2_2, p2_3⟩ (fun hHeld => ?_)
        clear hKc Kc
        try simp only [Act.put, List.setIfInBounds_toArray, List.set_cons_zero, List.set_cons_succ]
        obtain ⟨wL, rfl⟩ : ∃ x : World, x = v3 := ⟨_, rfl⟩
       rotate_right 1
       focus
        refine Eq.mpr (if_pos (by kernel_rfl)) ?_
        go_simp
        refine (zmul_b b sx v1 a a6 n c n6 c6 lx _ x.1 xq.num (gx1.ext (Nat.le_refl _) hE0) (h6.ext (Nat.le_refl _) hE0) gx3 hn6 (by omega) GX2 HXN DN HDN).mono ?_
        rintro e v2 ⟨sd, ad, nd, cd, rfl, hd, HVd, hnd, hE1⟩
        have hs2 := hE1.size
        skip
        replace p0 := p0.ext hE1; replace p0_0 := p0.cell (i := 0) rfl; replace p0_1 := p0.cell (i := 1) rfl; replace p0_2 := p0.cell (i := 2) rfl; replace p1 := p1.ext hE1; replace p1_0 := p1.cell (i := 0) rfl; replace p1_1 := p1.cell (i := 1) rfl; replace p1_2 := p1.cell (i := 2) rfl; replace p2 := p2.ext hE1; replace p2_0 := p2.cell (i := 0) rfl; replace p2_1 := p2.cell (i := 1) rfl; replace p2_2 := p2.cell (i := 2) rfl; replace p2_3 := p2.cell (i := 3) rfl; replace qd := qd.ext hE1; replace qd_0 := qd.cell (i := 0) rfl; replace qd_1 := qd.cell (i := 1) rfl; replace qd_f0 := qd.free 0; replace qd_f1 := qd.free 1; replace qd_lt := qd.lt
        have hk_hd := Kept.refl v1.heap.size v2
        replace hk_hu := Kept.trans hk_hu (Ext.kept hE1)
        replace hE0 := Ext.trans hE0 hE1
        clear hE1
        go_wp2_with fail
        refine hKc.out _ _ ⟨p0_0, p0_1, p0_2, p1_0, p1_1, p1_2, p2_0, p2_1, p2_2, p2_3⟩ (fun hHeld => ?_)
        clear hKc Kc
        try simp only [Act.put, List.setIfInBounds_toArray, List.set_cons_zero, List.set_cons_succ]
        skip
        skip
        skip
        refine stepD 10 rfl (by kernel_rfl) (fun Kc hKc => ?_)
        refine Eq.mpr (if_pos (by kernel_rfl)) ?_
        go_simp
        have hE1 : Ext v2 (v2.alloc (Obj.cells #[.bool false, .slice none 0 0] 25)) := (Below.refl _ _).alloc (Nat.le_refl _) _
        have qu : Blk (v2.alloc (Obj.cells #[.bool false, .slice none 0 0] 25)) v2.heap.size 25 #[.bool false, .slice none 0 0] := Blk.new v2 25 #[.bool false, .slice none 0 0]
        replace hE0 := Ext.trans hE0 hE1
        skip
        replace p0 := p0.ext hE1; replace p0_0 := p0.cell (i := 0) rfl; replace p0_1 := p0.cell (i := 1) rfl; replace p0_2 := p0.cell (i := 2) rfl; replace p1 := p1.ext hE1; replace p1_0 := p1.cell (i := 0) rfl; replace p1_1 := p1.cell (i := 1) rfl; replace p1_2 := p1.cell (i := 2) rfl; replace p2 := p2.ext hE1; replace p2_0 := p2.cell (i := 0) rfl; replace p2_1 := p2.cell (i := 1) rfl; replace p2_2 := p2.cell (i := 2) rfl; replace p2_3 := p2.cell (i := 3) rfl; replace qd := qd.ext hE1; replace qd_0 := qd.cell (i := 0) rfl; replace qd_1 := qd.cell (i := 1) rfl; replace qd_f0 := qd.free 0; replace qd_f1 := qd.free 1; replace qd_lt := qd.lt
        replace hk_hu := Kept.trans hk_hu (Ext.kept hE1)
        replace hk_hd := Kept.trans hk_hd (Ext.kept hE1)
        have hs3 := hE1.size
        clear hE1
        refine hKc.out _ _ ⟨p0_0, p0_1, p0_2, p1_0, p1_1, p1_2, p2_0, p2_1, p2_2, p2_3⟩ (fun hHeld => ?_)
        clear hKc Kc
        try simp only [Act.put, List.setIfInBounds_toArray, List.set_cons_zero, List.set_cons_succ]
        have ltqU : v2.heap.size < (v2.alloc (Obj.cells #[.bool false, .slice none 0 0] 25)).heap.size := qu.lt
        generalize (v2.alloc (Obj.cells #[.bool false, .slice none 0 0] 25)) = v3 at *
        obtain ⟨qU, hqU⟩ : ∃ q, v2.heap.size = q := ⟨_, rfl⟩
        have geqU : v2.heap.size ≤ qU := Nat.le_of_eq hqU
        have leqU : qU ≤ v2.heap.size := Nat.le_of_eq hqU.symm
        rw [hqU] at qu ⊢
        clear hqU
        skip
        replace qu_0 := qu.cell (i := 0) rfl
        replace qu_1 := qu.cell (i := 1) rfl
        replace qu_f0 := qu.free 0
        replace qu_f1 := qu.free 1
        replace qu_lt := qu.lt
        obtain ⟨wL, rfl⟩ : ∃ x : World, x = v3 := ⟨_, rfl⟩
     rotate_right 2
     rotate_left 1
     focus
      refine Eq.mpr (if_pos (by kernel_rfl)) ?_
      go_simp
      have hE1 : Ext W3 (W3.alloc (Obj.cells #[.bool false, .slice none 0 0] 25)).drew := ((Below.refl _ _).alloc (Nat.le_refl _) _).drew
      have qu : Blk (W3.alloc (Obj.cells #[.bool false, .slice none 0 0] 25)).drew W3.heap.size 25 #[.bool false, .slice none 0 0] := Blk.new W3 25 #[.bool false, .slice none 0 0]
      replace hE0 := hE1
      have p0 := p0W.ext hE1
      have p1 := p1W.ext hE1
      have p2 := p2W.ext hE1
      replace p0_0 := p0.cell (i := 0) rfl
      replace p0_1 := p0.cell (i := 1) rfl
      replace p0_2 := p0.cell (i := 2) rfl
      replace p1_0 := p1.cell (i := 0) rfl
      replace p1_1 := p1.cell (i := 1) rfl
      replace p1_2 := p1.cell (i := 2) rfl
      replace p2_0 := p2.cell (i := 0) rfl
      replace p2_1 := p2.cell (i := 1) rfl
      replace p2_2 := p2.cell (i := 2) rfl
      replace p2_3 := p2.cell (i := 3) rfl
      have hs0 := hE1.size
      clear hE1
      refine hKc.out _ _ ⟨p0_0, p0_1, p0_2, p1_0, p1_1, p1_2, p2_0, p2_1, p2_2, p2_3⟩ (fun hHeld => ?_)
      clear hKc Kc
      try simp only [Act.put, List.setIfInBounds_toArray, List.set_cons_zero, List.set_cons_succ]
      have ltqU : W3.heap.size < (W3.alloc (Obj.cells #[.bool false, .slice none 0 0] 25)).drew.heap.size := qu.lt
      generalize (W3.alloc (Obj.cells #[.bool false, .slice none 0 0] 25)).drew = v0 at *
      obtain ⟨qU, hqU⟩ : ∃ q, W3.heap.size = q := ⟨_, rfl⟩
      have geqU : W3.heap.size ≤ qU := Nat.le_of_eq hqU
      have leqU : qU ≤ W3.heap.size := Nat.le_of_eq hqU.symm
      rw [hqU] at qu ⊢
      clear hqU
      skip
      replace qu_0 := qu.cell (i := 0) rfl
      replace qu_1 := qu.cell (i := 1) rfl
      replace qu_f0 := qu.free 0
      replace qu_f1 := qu.free 1
      replace qu_lt := qu.lt
      skip
      skip
      skip
      refine wpAnyH_ready (rs := [4, 11]) (by kernel_rfl) (by simp) ?_
      refine AllReadyH.cons rfl (fun Kc hKc => ?_) (AllReadyH.cons rfl (fun Kc hKc => ?_) AllReadyH.nil)
      rotate_left 1
      focus
       refine Eq.mpr (if_pos (by kernel_rfl)) ?_
       go_simp
       have hE1 : Ext v0 (v0.alloc (Obj.cells #[.bool false, .slice none 0 0] 25)) := (Below.refl _ _).alloc (Nat.le_refl _) _
       have qd : Blk (v0.alloc (Obj.cells #[.bool false, .slice none 0 0] 25)) v0.heap.size 25 #[.bool false, .slice none 0 0] := Blk.new v0 25 #[.bool false, .slice none 0 0]
       replace hE0 := Ext.trans hE0 hE1
       skip
       replace p0 := p0.ext hE1; replace p0_0 := p0.cell (i := 0) rfl; replace p0_1 := p0.cell (i := 1) rfl; replace p0_2 := p0.cell (i := 2) rfl; replace p1 := p1.ext hE1; replace p1_0 := p1.cell (i := 0) rfl; replace p1_1 := p1.cell (i := 1) rfl; replace p1_2 := p1.cell (i := 2) rfl; replace p2 := p2.ext hE1; replace p2_0 := p2.cell (i := 0) rfl; replace p2_1 := p2.cell (i := 1) rfl; replace p2_2 := p2.cell (i := 2) rfl; replace p2_3 := p2.cell (i := 3) rfl; replace qu := qu.ext hE1; replace qu_0 := qu.cell (i := 0) rfl; replace qu_1 := qu.cell (i := 1) rfl; replace qu_f0 := qu.free 0; replace qu_f1 := qu.free 1; replace qu_lt := qu.lt
       have hs1 := hE1.size
       clear hE1
       refine hKc.out _ _ ⟨p0_0, p0_1, p0_2, p1_0, p1_1, p1_2, p2_0, p2_1, p2_2, p2_3⟩ (fun hHeld => ?_)
       clear hKc Kc
       try simp only [Act.put, List.setIfInBounds_toArray, List.set_cons_zero, List.set_cons_succ]
       have ltqD : v0.heap.size < (v0.alloc (Obj.cells #[.bool false, .slice none 0 0] 25)).heap.size := qd.lt
       generalize (v0.alloc (Obj.cells #[.bool false, .slice none 0 0] 25)) = v1 at *
       obtain ⟨qD, hqD⟩ : ∃ q, v0.heap.size = q := ⟨_, rfl⟩
       have geqD : v0.heap.size ≤ qD := Nat.le_of_eq hqD
       have leqD : qD ≤ v0.heap.size := Nat.le_of_eq hqD.symm
       rw [hqD] at qd ⊢
       clear hqD
       skip
       replace qd_0 := qd.cell (i := 0) rfl
       replace qd_1 := qd.cell (i := 1) rfl
       replace qd_f0 := qd.free 0
       replace qd_f1 := qd.free 1
       replace qd_lt := qd.lt
       skip
       skip
       skip
       refine stepD 4 rfl (by kernel_rfl) (fun Kc hKc => ?_)
       refine Eq.mpr (if_pos (by kernel_rfl)) ?_
       go_simp
       refine (zmul_b b' false v1 a' a7 n' c' n7 c7 ly (limbs xq.den) y.1 (xq.den : Int) (gy1.ext (Nat.le_refl _) hE0) (h7.ext (Nat.le_refl _) hE0) gy3 hn7 (by omega) GY2 HXD UP HUP).mono ?_
       rintro e v2 ⟨su, au, nu, cu, rfl, hu, HVu, hnu, hE1⟩
       have hs2 := hE1.size
       skip
       skip
       replace p0 := p0.ext hE1; replace p0_0 := p0.cell (i := 0) rfl; replace p0_1 := p0.cell (i := 1) rfl; replace p0_2 := p0.cell (i := 2) rfl; replace p1 := p1.ext hE1; replace p1_0 := p1.cell (i := 0) rfl; replace p1_1 := p1.cell (i := 1) rfl; replace p1_2 := p1.cell (i := 2) rfl; replace p2 := p2.ext hE1; replace p2_0 := p2.cell (i := 0) rfl; replace p2_1 := p2.cell (i := 1) rfl; replace p2_2 := p2.cell (i := 2) rfl; replace p2_3 := p2.cell (i := 3) rfl; replace qu := qu.ext hE1; replace qu_0 := qu.cell (i := 0) rfl; replace qu_1 := qu.cell (i := 1) rfl; replace qu_f0 := qu.free 0; replace qu_f1 := qu.free 1; replace qu_lt := qu.lt; replace qd := qd.ext hE1; replace qd_0 := qd.cell (i := 0) rfl; replace qd_1 := qd.cell (i := 1) rfl; replace qd_f0 := qd.free 0; replace qd_f1 := qd.free 1; replace qd_lt := qd.lt
       have hk_hu := Kept.refl v1.heap.size v2
       replace hE0 := Ext.trans hE0 hE1
       clear hE1
       go_wp2_with fail
       refine hKc.out _ _ ⟨p0_0, p0_1, p0_2, p1_0, p1_1, p1_2, p2_0, p2_1, p2_2, p2_3⟩ (fun hHeld => ?_)
       clear hKc Kc
       try simp only [Act.put, List.setIfInBounds_toArray, List.set_cons_zero, List.set_cons_succ]
       skip
       skip
       skip
       refine stepD 9 rfl (by kernel_rfl) (fun Kc hKc => ?_)
       refine Eq.mpr (if_pos (by kernel_rfl)) ?_
       go_simp
       refine (zmul_b b sx v2 a a6 n c n6 c6 lx _ x.1 xq.num (gx1.ext (Nat.le_refl _) hE0) (h6.ext (Nat.le_refl _) hE0) gx3 hn6 (by omega) GX2 HXN DN HDN).mono ?_
       rintro e v3 ⟨sd, ad, nd, cd, rfl, hd, HVd, hnd, hE1⟩
       have hs3 := hE1.size
       skip
       skip
       replace p0 := p0.ext hE1; replace p0_0 := p0.cell (i := 0) rfl; replace p0_1 := p0.cell (i := 1) rfl; replace p0_2 := p0.cell (i := 2) rfl; replace p1 := p1.ext hE1; replace p1_0 := p1.cell (i := 0) rfl; replace p1_1 := p1.cell (i := 1) rfl; replace p1_2 := p1.cell (i := 2) rfl; replace p2 := p2.ext hE1; replace p2_0 := p2.cell (i := 0) rfl; replace p2_1 := p2.cell (i := 1) rfl; replace p2_2 := p2.cell (i := 2) rfl; replace p2_3 := p2.cell (i := 3) rfl; replace qu := qu.ext hE1; replace qu_0 := qu.cell (i := 0) rfl; replace qu_1 := qu.cell (i := 1) rfl; replace qu_f0 := qu.free 0; replace qu_f1 := qu.free 1; replace qu_lt := qu.lt; replace qd := qd.ext hE1; replace qd_0 := qd.cell (i := 0) rfl; replace qd_1 := qd.cell (i := 1) rfl; replace qd_f0 := qd.free 0; replace qd_f1 := qd.free 1; replace qd_lt := qd.lt
       have hk_hd := Kept.refl v2.heap.size v3
       replace hk_hu := Kept.trans hk_hu (Ext.kept hE1)
       replace hE0 := Ext.trans hE0 hE1
       clear hE1
       go_wp2_with fail
       refine hKc.out _ _ ⟨p0_0, p0_1, p0_2, p1_0, p1_1, p1_2, p2_0, p2_1, p2_2, p2_3⟩ (fun hHeld => ?_)
       clear hKc Kc
       try simp only [Act.put, List.setIfInBounds_toArray, List.set_cons_zero, List.set_cons_succ]
       obtain ⟨wL, rfl⟩ : ∃ x : World, x = v3 := ⟨_, rfl⟩
      rotate_right 1
      focus
       refine Eq.mpr (if_pos (by kernel_rfl)) ?_
       go_simp
       refine (zmul_b b' false v0 a' a7 n' c' n7 c7 ly (limbs xq.den) y.1 (xq.den : Int) (gy1.ext (Nat.le_refl _) hE0) (h7.ext (Nat.le_refl _) hE0) gy3 hn7 (by omega) GY2 HXD UP HUP).mono ?_
       rintro e v1 ⟨su, au, nu, cu, rfl, hu, HVu, hnu, hE1⟩
       have hs1 := hE1.size
       skip
       replace p0 := p0.ext hE1; replace p0_0 := p0.cell (i := 0) rfl; replace p0_1 := p0.cell (i := 1) rfl; replace p0_2 := p0.cell (i := 2) rfl; replace p1 := p1.ext hE1; replace p1_0 := p1.cell (i := 0) rfl; replace p1_1 := p1.cell (i := 1) rfl; replace p1_2 := p1.cell (i := 2) rfl; replace p2 := p2.ext hE1; replace p2_0 := p2.cell (i := 0) rfl; replace p2_1 := p2.cell (i := 1) rfl; replace p2_2 := p2.cell (i := 2) rfl; replace p2_3 := p2.cell (i := 3) rfl; replace qu := qu.ext hE1; replace qu_0 := qu.cell (i := 0) rfl; replace qu_1 := qu.cell (i := 1) rfl; replace qu_f0 := qu.free 0; replace qu_f1 := qu.free 1; replace qu_lt := qu.lt
       have hk_hu := Kept.refl v0.heap.size v1
       replace hE0 := Ext.trans hE0 hE1
       clear hE1
       go_wp2_with fail
       refine hKc.out _ _ ⟨p0_0, p0_1, p0_2, p1_0, p1_1, p1_2, p2_0, p2_1, p2_2, p2_3⟩ (fun hHeld => ?_)
       clear hKc Kc
       try simp only [Act.put, List.setIfInBounds_toArray, List.set_cons_zero, List.set_cons_succ]
       skip
       skip
       skip
       refine wpAnyH_ready (rs := [9, 11]) (by kernel_rfl) (by simp) ?_
       refine AllReadyH.cons rfl (fun Kc hKc => ?_) (AllReadyH.cons rfl (fun Kc hKc => ?_) AllReadyH.nil)
       rotate_left 1
       focus
        refine Eq.mpr (if_pos (by kernel_rfl)) ?_
        go_simp
        have hE1 : Ext v1 (v1.alloc (Obj.cells #[.bool false, .slice none 0 0] 25)) := (Below.refl _ _).alloc (Nat.le_refl _) _
        have qd : Blk (v1.alloc (Obj.cells #[.bool false, .slice none 0 0] 25)) v1.heap.size 25 #[.bool false, .slice none 0 0] := Blk.new v1 25 #[.bool false, .slice none 0 0]
        replace hE0 := Ext.trans hE0 hE1
        skip
        replace p0 := p0.ext hE1; replace p0_0 := p0.cell (i := 0) rfl; replace p0_1 := p0.cell (i := 1) rfl; replace p0_2 := p0.cell (i := 2) rfl; replace p1 := p1.ext hE1; replace p1_0 := p1.cell (i := 0) rfl; replace p1_1 := p1.cell (i := 1) rfl; replace p1_2 := p1.cell (i := 2) rfl; replace p2 := p2.ext hE1; replace p2_0 := p2.cell (i := 0) rfl; replace p2_1 := p2.cell (i := 1) rfl; replace p2_2 := p2.cell (i := 2) rfl; replace p2_3 := p2.cell (i := 3) rfl; replace qu := qu.ext hE1; replace qu_0 := qu.cell (i := 0) rfl; replace qu_1 := qu.cell (i := 1) rfl; replace qu_f0 := qu.free 0; replace qu_f1 := qu.free 1; replace qu_lt := qu.lt
        replace hk_hu := Kept.trans hk_hu (Ext.kept hE1)
        have hs2 := hE1.size
        clear hE1
        refine hKc.out _ _ ⟨p0_0, p0_1, p0_2, p1_0, p1_1, p1_2, p2_0, p2_1, p2_2, p2_3⟩ (fun hHeld => ?_)
        clear hKc Kc
        try simp only [Act.put, List.setIfInBounds_toArray, List.set_cons_zero, List.set_cons_succ]
        have ltqD : v1.heap.size < (v1.alloc (Obj.cells #[.bool false, .slice none 0 0] 25)).heap.size := qd.lt
        generalize (v1.alloc (Obj.cells #[.bool false, .slice none 0 0] 25)) = v2 at *
        obtain ⟨qD, hqD⟩ : ∃ q, v1.heap.size = q := ⟨_, rfl⟩
        have geqD : v1.heap.size ≤ qD := Nat.le_of_eq hqD
        have leqD : qD ≤ v1.heap.size := Nat.le_of_eq hqD.symm
        rw [hqD] at qd ⊢
        clear hqD
        skip
        replace qd_0 := qd.cell (i := 0) rfl
        replace qd_1 := qd.cell (i := 1) rfl
        replace qd_f0 := qd.free 0
        replace qd_f1 := qd.free 1
        replace qd_lt := qd.lt
        skip
        skip
        skip
        refine stepD 9 rfl (by kernel_rfl) (fun Kc hKc => ?_)
        refine Eq.mpr (if_pos (by kernel_rfl)) ?_
        go_simp
        refine (zmul_b b sx v2 a a6 n c n6 c6 lx _ x.1 xq.num (gx1.ext (Nat.le_refl _) hE0) (h6.ext (Nat.le_refl _) hE0) gx3 hn6 (by omega) GX2 HXN DN HDN).mono ?_
        rintro e v3 ⟨sd, ad, nd, cd, rfl, hd, HVd, hnd, hE1⟩
        have hs3 := hE1.size
        skip
        skip
        replace p0 := p0.ext hE1; replace p0_0 := p0.cell (i := 0) rfl; replace p0_1 := p0.cell (i := 1) rfl; replace p0_2 := p0.cell (i := 2) rfl; replace p1 := p1.ext hE1; replace p1_0 := p1.cell (i := 0) rfl; replace p1_1 := p1.cell (i := 1) rfl; replace p1_2 := p1.cell (i := 2) rfl; replace p2 := p2.ext hE1; replace p2_0 := p2.cell (i := 0) rfl; replace p2_1 := p2.cell (i := 1) rfl; replace p2_2 := p2.cell (i := 2) rfl; replace p2_3 := p2.cell (i := 3) rfl; replace qu := qu.ext hE1; replace qu_0 := qu.cell (i := 0) rfl; replace qu_1 := qu.cell (i := 1) rfl; replace qu_f0 := qu.free 0; replace qu_f1 := qu.free 1; replace qu_lt := qu.lt; replace qd := qd.ext hE1; replace qd_0 := qd.cell (i := 0) rfl; replace qd_1 := qd.cell (i := 1) rfl; replace qd_f0 := qd.free 0; replace qd_f1 := qd.free 1; replace qd_lt := qd.lt
        have hk_hd := Kept.refl v2.heap.size v3
        replace hk_hu := Kept.trans hk_hu (Ext.kept hE1)
        replace hE0 := Ext.trans hE0 hE1
        clear hE1
        go_wp2_with fail
        refine hKc.out _ _ ⟨p0_0, p0_1, p0_2, p1_0, p1_1, p1_2, p2_0, p2_1, p2_2, p2_3⟩ (fun hHeld => ?_)
        clear hKc Kc
        try simp only [Act.put, List.setIfInBounds_toArray, List.set_cons_zero, List.set_cons_succ]
        obtain ⟨wL, rfl⟩ : ∃ x : World, x = v3 := ⟨_, rfl⟩
       rotate_right 1
       focus
        refine Eq.mpr (if_pos (by kernel_rfl)) ?_
        go_simp
        refine (zmul_b b sx v1 a a6 n c n6 c6 lx _ x.1 xq.num (gx1.ext (Nat.le_refl _) hE0) (h6.ext (Nat.le_refl _) hE0) gx3 hn6 (by omega) GX2 HXN DN HDN).mono ?_
        rintro e v2 ⟨sd, ad, nd, cd, rfl, hd, HVd, hnd, hE1⟩
        have hs2 := hE1.size
        skip
        replace p0 := p0.ext hE1; replace p0_0 := p0.cell (i := 0) rfl; replace p0_1 := p0.cell (i := 1) rfl; replace p0_2 := p0.cell (i := 2) rfl; replace p1 := p1.ext hE1; replace p1_0 := p1.cell (i := 0) rfl; replace p1_1 := p1.cell (i := 1) rfl; replace p1_2 := p1.cell (i := 2) rfl; replace p2 := p2.ext hE1; replace p2_0 := p2.cell (i := 0) rfl; replace p2_1 := p2.cell (i := 1) rfl; replace p2_2 := p2.cell (i := 2) rfl; replace p2_3 := p2.cell (i := 3) rfl; replace qu := qu.ext hE1; replace qu_0 := qu.cell (i := 0) rfl; replace qu_1 := qu.cell (i := 1) rfl; replace qu_f0 := qu.free 0; replace qu_f1 := qu.free 1; replace qu_lt := qu.lt
        have hk_hd := Kept.refl v1.heap.size v2
        replace hk_hu := Kept.trans hk_hu (Ext.kept hE1)
        replace hE0 := Ext.trans hE0 hE1
        clear hE1
        go_wp2_with fail
        refine hKc.out _ _ ⟨p0_0, p0_1, p0_2, p1_0, p1_1, p1_2, p2_0, p2_1, p2_2, p2_3⟩ (fun hHeld => ?_)
        clear hKc Kc
        try simp only [Act.put, List.setIfInBounds_toArray, List.set_cons_zero, List.set_cons_succ]
        skip
        skip
        skip
        refine stepD 11 rfl (by kernel_rfl) (fun Kc hKc => ?_)
        refine Eq.mpr (if_pos (by kernel_rfl)) ?_
        go_simp
        have hE1 : Ext v2 (v2.alloc (Obj.cells #[.bool false, .slice none 0 0] 25)) := (Below.refl _ _).alloc (Nat.le_refl _) _
        have qd : Blk (v2.alloc (Obj.cells #[.bool false, .slice none 0 0] 25)) v2.heap.size 25 #[.bool false, .slice none 0 0] := Blk.new v2 25 #[.bool false, .slice none 0 0]
        replace hE0 := Ext.trans hE0 hE1
        skip
        replace p0 := p0.ext hE1; replace p0_0 := p0.cell (i := 0) rfl; replace p0_1 := p0.cell (i := 1) rfl; replace p0_2 := p0.cell (i := 2) rfl; replace p1 := p1.ext hE1; replace p1_0 := p1.cell (i := 0) rfl; replace p1_1 := p1.cell (i := 1) rfl; replace p1_2 := p1.cell (i := 2) rfl; replace p2 := p2.ext hE1; replace p2_0 := p2.cell (i := 0) rfl; replace p2_1 := p2.cell (i := 1) rfl; replace p2_2 := p2.cell (i := 2) rfl; replace p2_3 := p2.cell (i := 3) rfl; replace qu := qu.ext hE1; replace qu_0 := qu.cell (i := 0) rfl; replace qu_1 := qu.cell (i := 1) rfl; replace qu_f0 := qu.free 0; replace qu_f1 := qu.free 1; replace qu_lt := qu.lt
        replace hk_hu := Kept.trans hk_hu (Ext.kept hE1)
        replace hk_hd := Kept.trans hk_hd (Ext.kept hE1)
        have hs3 := hE1.size
        clear hE1
        refine hKc.out _ _ ⟨p0_0, p0_1, p0_2, p1_0, p1_1, p1_2, p2_0, p2_1, p2_2, p2_3⟩ (fun hHeld => ?_)
        clear hKc Kc
        try simp only [Act.put, List.setIfInBounds_toArray, List.set_cons_zero, List.set_cons_succ]
        have ltqD : v2.heap.size < (v2.alloc (Obj.cells #[.bool false, .slice none 0 0] 25)).heap.size := qd.lt
        generalize (v2.alloc (Obj.cells #[.bool false, .slice none 0 0] 25)) = v3 at *
        obtain ⟨qD, hqD⟩ : ∃ q, v2.heap.size = q := ⟨_, rfl⟩
        have geqD : v2.heap.size ≤ qD := Nat.le_of_eq hqD
        have leqD : qD ≤ v2.heap.size := Nat.le_of_eq hqD.symm
        rw [hqD] at qd ⊢
        clear hqD
        skip
        replace qd_0 := qd.cell (i := 0) rfl
        replace qd_1 := qd.cell (i := 1) rfl
        replace qd_f0 := qd.free 0
        replace qd_f1 := qd.free 1
        replace qd_lt := qd.lt
        obtain ⟨wL, rfl⟩ : ∃ x : World, x = v3 := ⟨_, rfl⟩
     rotate_right 1
     focus
      refine Eq.mpr (if_pos (by kernel_rfl)) ?_
      go_simp
      refine (zmul_b b' false W3.drew a' a7 n' c' n7 c7 ly (limbs xq.den) y.1 (xq.den : Int) (gy1.ext (Nat.le_refl _) hE0) (h7.ext (Nat.le_refl _) hE0) gy3 hn7 (by omega) GY2 HXD UP HUP).mono ?_
      rintro e v0 ⟨su, au, nu, cu, rfl, hu, HVu, hnu, hE1⟩
      have hs0 := hE1.size
      replace p0 := p0.ext hE1; replace p0_0 := p0.cell (i := 0) rfl; replace p0_1 := p0.cell (i := 1) rfl; replace p0_2 := p0.cell (i := 2) rfl; replace p1 := p1.ext hE1; replace p1_0 := p1.cell (i := 0) rfl; replace p1_1 := p1.cell (i := 1) rfl; replace p1_2 := p1.cell (i := 2) rfl; replace p2 := p2.ext hE1; replace p2_0 := p2.cell (i := 0) rfl; replace p2_1 := p2.cell (i := 1) rfl; replace p2_2 := p2.cell (i := 2) rfl; replace p2_3 := p2.cell (i := 3) rfl
      have hk_hu := Kept.refl W3.drew.heap.size v0
      replace hE0 := Ext.trans hE0 hE1
      clear hE1
      go_wp2_with fail
      refine hKc.out _ _ ⟨p0_0, p0_1, p0_2, p1_0, p1_1, p1_2, p2_0, p2_1, p2_2, p2_3⟩ (fun hHeld => ?_)
      clear hKc Kc
      try simp only [Act.put, List.setIfInBounds_toArray, List.set_cons_zero, List.set_cons_succ]
      skip
      skip
      skip
      refine wpAnyH_ready (rs := [9, 10, 11]) (by kernel_rfl) (by simp) ?_
      refine AllReadyH.cons rfl (fun Kc hKc => ?_) (AllReadyH.cons rfl (fun Kc hKc => ?_) (AllReadyH.cons rfl (fun Kc hKc => ?_) AllReadyH.nil))
      rotate_left 2
      focus
       refine Eq.mpr (if_pos (by kernel_rfl)) ?_
       go_simp
       have hE1 : Ext v0 (v0.alloc (Obj.cells #[.bool false, .slice none 0 0] 25)) := (Below.refl _ _).alloc (Nat.le_refl _) _
       have qd : Blk (v0.alloc (Obj.cells #[.bool false, .slice none 0 0] 25)) v0.heap.size 25 #[.bool false, .slice none 0 0] := Blk.new v0 25 #[.bool false, .slice none 0 0]
       replace hE0 := Ext.trans hE0 hE1
       replace p0 := p0.ext hE1; replace p0_0 := p0.cell (i := 0) rfl; replace p0_1 := p0.cell (i := 1) rfl; replace p0_2 := p0.cell (i := 2) rfl; replace p1 := p1.ext hE1; replace p1_0 := p1.cell (i := 0) rfl; replace p1_1 := p1.cell (i := 1) rfl; replace p1_2 := p1.cell (i := 2) rfl; replace p2 := p2.ext hE1; replace p2_0 := p2.cell (i := 0) rfl; replace p2_1 := p2.cell (i := 1) rfl; replace p2_2 := p2.cell (i := 2) rfl; replace p2_3 := p2.cell (i := 3) rfl
       replace hk_hu := Kept.trans hk_hu (Ext.kept hE1)
       have hs1 := hE1.size
       clear hE1
       refine hKc.out _ _ ⟨p0_0, p0_1, p0_2, p1_0, p1_1, p1_2, p2_0, p2_1, p2_2, p2_3⟩ (fun hHeld => ?_)
       clear hKc Kc
       try simp only [Act.put, List.setIfInBounds_toArray, List.set_cons_zero, List.set_cons_succ]
       have ltqD : v0.heap.size < (v0.alloc (Obj.cells #[.bool false, .slice none 0 0] 25)).heap.size := qd.lt
       generalize (v0.alloc (Obj.cells #[.bool false, .slice none 0 0] 25)) = v1 at *
       obtain ⟨qD, hqD⟩ : ∃ q, v0.heap.size = q := ⟨_, rfl⟩
       have geqD : v0.heap.size ≤ qD := Nat.le_of_eq hqD
       have leqD : qD ≤ v0.heap.size := Nat.le_of_eq hqD.symm
       rw [hqD] at qd ⊢
       clear hqD
       skip
       replace qd_0 := qd.cell (i := 0) rfl
       replace qd_1 := qd.cell (i := 1) rfl
       replace qd_f0 := qd.free 0
       replace qd_f1 := qd.free 1
       replace qd_lt := qd.lt
       skip
       skip
       skip
       refine wpAnyH_ready (rs := [9, 10]) (by kernel_rfl) (by simp) ?_
       refine AllReadyH.cons rfl (fun Kc hKc => ?_) (AllReadyH.cons rfl (fun Kc hKc => ?_) AllReadyH.nil)
       rotate_left 1
       focus
        refine Eq.mpr (if_pos (by kernel_rfl)) ?_
        go_simp
        have hE1 : Ext v1 (v1.alloc (Obj.cells #[.bool false, .slice none 0 0] 25)) := (Below.refl _ _).alloc (Nat.le_refl _) _
        have qu : Blk (v1.alloc (Obj.cells #[.bool false, .slice none 0 0] 25)) v1.heap.size 25 #[.bool false, .slice none 0 0] := Blk.new v1 25 #[.bool false, .slice none 0 0]
        replace hE0 := Ext.trans hE0 hE1
        skip
        replace p0 := p0.ext hE1; replace p0_0 := p0.cell (i := 0) rfl; replace p0_1 := p0.cell (i := 1) rfl; replace p0_2 := p0.cell (i := 2) rfl; replace p1 := p1.ext hE1; replace p1_0 := p1.cell (i := 0) rfl; replace p1_1 := p1.cell (i := 1) rfl; replace p1_2 := p1.cell (i := 2) rfl; replace p2 := p2.ext hE1; replace p2_0 := p2.cell (i := 0) rfl; replace p2_1 := p2.cell (i := 1) rfl; replace p2_2 := p2.cell (i := 2) rfl; replace p2_3 := p2.cell (i := 3) rfl; replace qd := qd.ext hE1; replace qd_0 := qd.cell (i := 0) rfl; replace qd_1 := qd.cell (i := 1) rfl; replace qd_f0 := qd.free 0; replace qd_f1 := qd.free 1; replace qd_lt := qd.lt
        replace hk_hu := Kept.trans hk_hu (Ext.kept hE1)
        have hs2 := hE1.size
        clear hE1
        refine hKc.out _ _ ⟨p0_0, p0_1, p0_2, p1_0, p1_1, p1_2, p2_0, p2_1, p2_2, p2_3⟩ (fun hHeld => ?_)
        clear hKc Kc
        try simp only [Act.put, List.setIfInBounds_toArray, List.set_cons_zero, List.set_cons_succ]
        have ltqU : v1.heap.size < (v1.alloc (Obj.cells #[.bool false, .slice none 0 0] 25)).heap.size := qu.lt
        generalize (v1.alloc (Obj.cells #[.bool false, .slice none 0 0] 25)) = v2 at *
        obtain ⟨qU, hqU⟩ : ∃ q, v1.heap.size = q := ⟨_, rfl⟩
        have geqU : v1.heap.size ≤ qU := Nat.le_of_eq hqU
        have leqU : qU ≤ v1.heap.size := Nat.le_of_eq hqU.symm
        rw [hqU] at qu ⊢
        clear hqU
        skip
        replace qu_0 := qu.cell (i := 0) rfl
        replace qu_1 := qu.cell (i := 1) rfl
        replace qu_f0 := qu.free 0
        replace qu_f1 := qu.free 1
        replace qu_lt := qu.lt
        skip
        skip
        skip
        refine stepD 9 rfl (by kernel_rfl) (fun Kc hKc => ?_)
        refine Eq.mpr (if_pos (by kernel_rfl)) ?_
        go_simp
        refine (zmul_b b sx v2 a a6 n c n6 c6 lx _ x.1 xq.num (gx1.ext (Nat.le_refl _) hE0) (h6.ext (Nat.le_refl _) hE0) gx3 hn6 (by omega) GX2 HXN DN HDN).mono ?_
        rintro e v3 ⟨sd, ad, nd, cd, rfl, hd, HVd, hnd, hE1⟩
        have hs3 := hE1.size
        skip
        skip
        replace p0 := p0.ext hE1; replace p0_0 := p0.cell (i := 0) rfl; replace p0_1 := p0.cell (i := 1) rfl; replace p0_2 := p0.cell (i := 2) rfl; replace p1 := p1.ext hE1; replace p1_0 := p1.cell (i := 0) rfl; replace p1_1 := p1.cell (i := 1) rfl; replace p1_2 := p1.cell (i := 2) rfl; replace p2 := p2.ext hE1; replace p2_0 := p2.cell (i := 0) rfl; replace p2_1 := p2.cell (i := 1) rfl; replace p2_2 := p2.cell (i := 2) rfl; replace p2_3 := p2.cell (i := 3) rfl; replace qu := qu.ext hE1; replace qu_0 := qu.cell (i := 0) rfl; replace qu_1 := qu.cell (i := 1) rfl; replace qu_f0 := qu.free 0; replace qu_f1 := qu.free 1; replace qu_lt := qu.lt; replace qd := qd.ext hE1; replace qd_0 := qd.cell (i := 0) rfl; replace qd_1 := qd.cell (i := 1) rfl; replace qd_f0 := qd.free 0; replace qd_f1 := qd.free 1; replace qd_lt := qd.lt
        have hk_hd := Kept.refl v2.heap.size v3
        replace hk_hu := Kept.trans hk_hu (Ext.kept hE1)
        replace hE0 := Ext.trans hE0 hE1
        clear hE1
        go_wp2_with fail
        refine hKc.out _ _ ⟨p0_0, p0_1, p0_2, p1_0, p1_1, p1_2, p2_0, p2_1, p2_2, p2_3⟩ (fun hHeld => ?_)
        clear hKc Kc
        try simp only [Act.put, List.setIfInBounds_toArray, List.set_cons_zero, List.set_cons_succ]
        obtain ⟨wL, rfl⟩ : ∃ x : World, x = v3 := ⟨_, rfl⟩
       rotate_right 1
       focus
        refine Eq.mpr (if_pos (by kernel_rfl)) ?_
        go_simp
        refine (zmul_b b sx v1 a a6 n c n6 c6 lx _ x.1 xq.num (gx1.ext (Nat.le_refl _) hE0) (h6.ext (Nat.le_refl _) hE0) gx3 hn6 (by omega) GX2 HXN DN HDN).mono ?_
        rintro e v2 ⟨sd, ad, nd, cd, rfl, hd, HVd, hnd, hE1⟩
        have hs2 := hE1.size
        skip
        replace p0 := p0.ext hE1; replace p0_0 := p0.cell (i := 0) rfl; replace p0_1 := p0.cell (i := 1) rfl; replace p0_2 := p0.cell (i := 2) rfl; replace p1 := p1.ext hE1; replace p1_0 := p1.cell (i := 0) rfl; replace p1_1 := p1.cell (i := 1) rfl; replace p1_2 := p1.cell (i := 2) rfl; replace p2 := p2.ext hE1; replace p2_0 := p2.cell (i := 0) rfl; replace p2_1 := p2.cell (i := 1) rfl; replace p2_2 := p2.cell (i := 2) rfl; replace p2_3 := p2.cell (i := 3) rfl; replace qd := qd.ext hE1; replace qd_0 := qd.cell (i := 0) rfl; replace qd_1 := qd.cell (i := 1) rfl; replace qd_f0 := qd.free 0; replace qd_f1 := qd.free 1; replace qd_lt := qd.lt
        have hk_hd := Kept.refl v1.heap.size v2
        replace hk_hu := Kept.trans hk_hu (Ext.kept hE1)
        replace hE0 := Ext.trans hE0 hE1
        clear hE1
        go_wp2_with fail
        refine hKc.out _ _ ⟨p0_0, p0_1, p0_2, p1_0, p1_1, p1_2, p2_0, p2_1, p2_2, p2_3⟩ (fun hHeld => ?_)
        clear hKc Kc
        try simp only [Act.put, List.setIfInBounds_toArray, List.set_cons_zero, List.set_cons_succ]
        skip
        skip
        skip
        refine stepD 10 rfl (by kernel_rfl) (fun Kc hKc => ?_)
        refine Eq.mpr (if_pos (by kernel_rfl)) ?_
        go_simp
        have hE1 : Ext v2 (v2.alloc (Obj.cells #[.bool false, .slice none 0 0] 25)) := (Below.refl _ _).alloc (Nat.le_refl _) _
        have qu : Blk (v2.alloc (Obj.cells #[.bool false, .slice none 0 0] 25)) v2.heap.size 25 #[.bool false, .slice none 0 0] := Blk.new v2 25 #[.bool false, .slice none 0 0]
        replace hE0 := Ext.trans hE0 hE1
        skip
        replace p0 := p0.ext hE1; replace p0_0 := p0.cell (i := 0) rfl; replace p0_1 := p0.cell (i := 1) rfl; replace p0_2 := p0.cell (i := 2) rfl; replace p1 := p1.ext hE1; replace p1_0 := p1.cell (i := 0) rfl; replace p1_1 := p1.cell (i := 1) rfl; replace p1_2 := p1.cell (i := 2) rfl; replace p2 := p2.ext hE1; replace p2_0 := p2.cell (i := 0) rfl; replace p2_1 := p2.cell (i := 1) rfl; replace p2_2 := p2.cell (i := 2) rfl; replace p2_3 := p2.cell (i := 3) rfl; replace qd := qd.ext hE1; replace qd_0 := qd.cell (i := 0) rfl; replace qd_1 := qd.cell (i := 1) rfl; replace qd_f0 := qd.free 0; replace qd_f1 := qd.free 1; replace qd_lt := qd.lt
        replace hk_hu := Kept.trans hk_hu (Ext.kept hE1)
        replace hk_hd := Kept.trans hk_hd (Ext.kept hE1)
        have hs3 := hE1.size
        clear hE1
        refine hKc.out _ _ ⟨p0_0, p0_1, p0_2, p1_0, p1_1, p1_2, p2_0, p2_1, p2_2, p2_3⟩ (fun hHeld => ?_)
        clear hKc Kc
        try simp only [Act.put, List.setIfInBounds_toArray, List.set_cons_zero, List.set_cons_succ]
        have ltqU : v2.heap.size < (v2.alloc (Obj.cells #[.bool false, .slice none 0 0] 25)).heap.size := qu.lt
        generalize (v2.alloc (Obj.cells #[.bool false, .slice none 0 0] 25)) = v3 at *
        obtain ⟨qU, hqU⟩ : ∃ q, v2.heap.size = q := ⟨_, rfl⟩
        have geqU : v2.heap.size ≤ qU := Nat.le_of_eq hqU
        have leqU : qU ≤ v2.heap.size := Nat.le_of_eq hqU.symm
        rw [hqU] at qu ⊢
        clear hqU
        skip
        replace qu_0 := qu.cell (i := 0) rfl
        replace qu_1 := qu.cell (i := 1) rfl
        replace qu_f0 := qu.free 0
        replace qu_f1 := qu.free 1
        replace qu_lt := qu.lt
        obtain ⟨wL, rfl⟩ : ∃ x : World, x = v3 := ⟨_, rfl⟩
      rotate_right 2
      rotate_left 1
      focus
       refine Eq.mpr (if_pos (by kernel_rfl)) ?_
       go_simp
       have hE1 : Ext v0 (v0.alloc (Obj.cells #[.bool false, .slice none 0 0] 25)) := (Below.refl _ _).alloc (Nat.le_refl _) _
       have qu : Blk (v0.alloc (Obj.cells #[.bool false, .slice none 0 0] 25)) v0.heap.size 25 #[.bool false, .slice none 0 0] := Blk.new v0 25 #[.bool false, .slice none 0 0]
       replace hE0 := Ext.trans hE0 hE1
       replace p0 := p0.ext hE1; replace p0_0 := p0.cell (i := 0) rfl; replace p0_1 := p0.cell (i := 1) rfl; replace p0_2 := p0.cell (i := 2) rfl; replace p1 := p1.ext hE1; replace p1_0 := p1.cell (i := 0) rfl; replace p1_1 := p1.cell (i := 1) rfl; replace p1_2 := p1.cell (i := 2) rfl; replace p2 := p2.ext hE1; replace p2_0 := p2.cell (i := 0) rfl; replace p2_1 := p2.cell (i := 1) rfl; replace p2_2 := p2.cell (i := 2) rfl; replace p2_3 := p2.cell (i := 3) rfl
       replace hk_hu := Kept.trans hk_hu (Ext.kept hE1)
       have hs1 := hE1.size
       clear hE1
       refine hKc.out _ _ ⟨p0_0, p0_1, p0_2, p1_0, p1_1, p1_2, p2_0, p2_1, p2_2, p2_3⟩ (fun hHeld => ?_)
       clear hKc Kc
       try simp only [Act.put, List.setIfInBounds_toArray, List.set_cons_zero, List.set_cons_succ]
       have ltqU : v0.heap.size < (v0.alloc (Obj.cells #[.bool false, .slice none 0 0] 25)).heap.size := qu.lt
       generalize (v0.alloc (Obj.cells #[.bool false, .slice none 0 0] 25)) = v1 at *
       obtain ⟨qU, hqU⟩ : ∃ q, v0.heap.size = q := ⟨_, rfl⟩
       have geqU : v0.heap.size ≤ qU := Nat.le_of_eq hqU
       have leqU : qU ≤ v0.heap.size := Nat.le_of_eq hqU.symm
       rw [hqU] at qu ⊢
       clear hqU
       skip
       replace qu_0 := qu.cell (i := 0) rfl
       replace qu_1 := qu.cell (i := 1) rfl
       replace qu_f0 := qu.free 0
       replace qu_f1 := qu.free 1
       replace qu_lt := qu.lt
       skip
       skip
       skip
       refine wpAnyH_ready (rs := [9, 11]) (by kernel_rfl) (by simp) ?_
       refine AllReadyH.cons rfl (fun Kc hKc => ?_) (AllReadyH.cons rfl (fun Kc hKc => ?_) AllReadyH.nil)
       rotate_left 1
       focus
        refine Eq.mpr (if_pos (by kernel_rfl)) ?_
        go_simp
        have hE1 : Ext v1 (v1.alloc (Obj.cells #[.bool false, .slice none 0 0] 25)) := (Below.refl _ _).alloc (Nat.le_refl _) _
        have qd : Blk (v1.alloc (Obj.cells #[.bool false, .slice none 0 0] 25)) v1.heap.size 25 #[.bool false, .slice none 0 0] := Blk.new v1 25 #[.bool false, .slice none 0 0]
        replace hE0 := Ext.trans hE0 hE1
        skip
        replace p0 := p0.ext hE1; replace p0_0 := p0.cell (i := 0) rfl; replace p0_1 := p0.cell (i := 1) rfl; replace p0_2 := p0.cell (i := 2) rfl; replace p1 := p1.ext hE1; replace p1_0 := p1.cell (i := 0) rfl; replace p1_1 := p1.cell (i := 1) rfl; replace p1_2 := p1.cell (i := 2) rfl; replace p2 := p2.ext hE1; replace p2_0 := p2.cell (i := 0) rfl; replace p2_1 := p2.cell (i := 1) rfl; replace p2_2 := p2.cell (i := 2) rfl; replace p2_3 := p2.cell (i := 3) rfl; replace qu := qu.ext hE1; replace qu_0 := qu.cell (i := 0) rfl; replace qu_1 := qu.cell (i := 1) rfl; replace qu_f0 := qu.free 0; replace qu_f1 := qu.free 1; replace qu_lt := qu.lt
        replace hk_hu := Kept.trans hk_hu (Ext.kept hE1)
        have hs2 := hE1.size
        clear hE1
        refine hKc.out _ _ ⟨p0_0, p0_1, p0_2, p1_0, p1_1, p1_2, p2_0, p2_1, p2_2, p2_3⟩ (fun hHeld => ?_)
        clear hKc Kc
        try simp only [Act.put, List.setIfInBounds_toArray, List.set_cons_zero, List.set_cons_succ]
        have ltqD : v1.heap.size < (v1.alloc (Obj.cells #[.bool false, .slice none 0 0] 25)).heap.size := qd.lt
        generalize (v1.alloc (Obj.cells #[.bool false, .slice none 0 0] 25)) = v2 at *
        obtain ⟨qD, hqD⟩ : ∃ q, v1.heap.size = q := ⟨_, rfl⟩
        have geqD : v1.heap.size ≤ qD := Nat.le_of_eq hqD
        have leqD : qD ≤ v1.heap.size := Nat.le_of_eq hqD.symm
        rw [hqD] at qd ⊢
        clear hqD
        skip
        replace qd_0 := qd.cell (i := 0) rfl
        replace qd_1 := qd.cell (i := 1) rfl
        replace qd_f0 := qd.free 0
        replace qd_f1 := qd.free 1
        replace qd_lt := qd.lt
        skip
        skip
        skip
        refine stepD 9 rfl (by kernel_rfl) (fun Kc hKc => ?_)
        refine Eq.mpr (if_pos (by kernel_rfl)) ?_
        go_simp
        refine (zmul_b b sx v2 a a6 n c n6 c6 lx _ x.1 xq.num (gx1.ext (Nat.le_refl _) hE0) (h6.ext (Nat.le_refl _) hE0) gx3 hn6 (by omega) GX2 HXN DN HDN).mono ?_
        rintro e v3 ⟨sd, ad, nd, cd, rfl, hd, HVd, hnd, hE1⟩
        have hs3 := hE1.size
        skip
        skip
        replace p0 := p0.ext hE1; replace p0_0 := p0.cell (i := 0) rfl; replace p0_1 := p0.cell (i := 1) rfl; replace p0_2 := p0.cell (i := 2) rfl; replace p1 := p1.ext hE1; replace p1_0 := p1.cell (i := 0) rfl; replace p1_1 := p1.cell (i := 1) rfl; replace p1_2 := p1.cell (i := 2) rfl; replace p2 := p2.ext hE1; replace p2_0 := p2.cell (i := 0) rfl; replace p2_1 := p2.cell (i := 1) rfl; replace p2_2 := p2.cell (i := 2) rfl; replace p2_3 := p2.cell (i := 3) rfl; replace qu := qu.ext hE1; replace qu_0 := qu.cell (i := 0) rfl; replace qu_1 := qu.cell (i := 1) rfl; replace qu_f0 := qu.free 0; replace qu_f1 := qu.free 1; replace qu_lt := qu.lt; replace qd := qd.ext hE1; replace qd_0 := qd.cell (i := 0) rfl; replace qd_1 := qd.cell (i := 1) rfl; replace qd_f0 := qd.free 0; replace qd_f1 := qd.free 1; replace qd_lt := qd.lt
        have hk_hd := Kept.refl v2.heap.size v3
        replace hk_hu := Kept.trans hk_hu (Ext.kept hE1)
        replace hE0 := Ext.trans hE0 hE1
        clear hE1
        go_wp2_with fail
        refine hKc.out _ _ ⟨p0_0, p0_1, p0_2, p1_0, p1_1, p1_2, p2_0, p2_1, p2_2, p2_3⟩ (fun hHeld => ?_)
        clear hKc Kc
        try simp only [Act.put, List.setIfInBounds_toArray, List.set_cons_zero, List.set_cons_succ]
        obtain ⟨wL, rfl⟩ : ∃ x : World, x = v3 := ⟨_, rfl⟩
       rotate_right 1
       focus
        refine Eq.mpr (if_pos (by kernel_rfl)) ?_
        go_simp
        refine (zmul_b b sx v1 a a6 n c n6 c6 lx _ x.1 xq.num (gx1.ext (Nat.le_refl _) hE0) (h6.ext (Nat.le_refl _) hE0) gx3 hn6 (by omega) GX2 HXN DN HDN).mono ?_
        rintro e v2 ⟨sd, ad, nd, cd, rfl, hd, HVd, hnd, hE1⟩
        have hs2 := hE1.size
        skip
        replace p0 := p0.ext hE1; replace p0_0 := p0.cell (i := 0) rfl; replace p0_1 := p0.cell (i := 1) rfl; replace p0_2 := p0.cell (i := 2) rfl; replace p1 := p1.ext hE1; replace p1_0 := p1.cell (i := 0) rfl; replace p1_1 := p1.cell (i := 1) rfl; replace p1_2 := p1.cell (i := 2) rfl; replace p2 := p2.ext hE1; replace p2_0 := p2.cell (i := 0) rfl; replace p2_1 := p2.cell (i := 1) rfl; replace p2_2 := p2.cell (i := 2) rfl; replace p2_3 := p2.cell (i := 3) rfl; replace qu := qu.ext hE1; replace qu_0 := qu.cell (i := 0) rfl; replace qu_1 := qu.cell (i := 1) rfl; replace qu_f0 := qu.free 0; replace qu_f1 := qu.free 1; replace qu_lt := qu.lt
        have hk_hd := Kept.refl v1.heap.size v2
        replace hk_hu := Kept.trans hk_hu (Ext.kept hE1)
        replace hE0 := Ext.trans hE0 hE1
        clear hE1
        go_wp2_with fail
        refine hKc.out _ _ ⟨p0_0, p0_1, p0_2, p1_0, p1_1, p1_2, p2_0, p2_1, p2_2, p2_3⟩ (fun hHeld => ?_)
        clear hKc Kc
        try simp only [Act.put, List.setIfInBounds_toArray, List.set_cons_zero, List.set_cons_succ]
        skip
        skip
        skip
        refine stepD 11 rfl (by kernel_rfl) (fun Kc hKc => ?_)
        refine Eq.mpr (if_pos (by kernel_rfl)) ?_
        go_simp
        have hE1 : Ext v2 (v2.alloc (Obj.cells #[.bool false, .slice none 0 0] 25)) := (Below.refl _ _).alloc (Nat.le_refl _) _
        have qd : Blk (v2.alloc (Obj.cells #[.bool false, .slice none 0 0] 25)) v2.heap.size 25 #[.bool false, .slice none 0 0] := Blk.new v2 25 #[.bool false, .slice none 0 0]
        replace hE0 := Ext.trans hE0 hE1
        skip
        replace p0 := p0.ext hE1; replace p0_0 := p0.cell (i := 0) rfl; replace p0_1 := p0.cell (i := 1) rfl; replace p0_2 := p0.cell (i := 2) rfl; replace p1 := p1.ext hE1; replace p1_0 := p1.cell (i := 0) rfl; replace p1_1 := p1.cell (i := 1) rfl; replace p1_2 := p1.cell (i := 2) rfl; replace p2 := p2.ext hE1; replace p2_0 := p2.cell (i := 0) rfl; replace p2_1 := p2.cell (i := 1) rfl; replace p2_2 := p2.cell (i := 2) rfl; replace p2_3 := p2.cell (i := 3) rfl; replace qu := qu.ext hE1; replace qu_0 := qu.cell (i := 0) rfl; replace qu_1 := qu.cell (i := 1) rfl; replace qu_f0 := qu.free 0; replace qu_f1 := qu.free 1; replace qu_lt := qu.lt
        replace hk_hu := Kept.trans hk_hu (Ext.kept hE1)
        replace hk_hd := Kept.trans hk_hd (Ext.kept hE1)
        have hs3 := hE1.size
        clear hE1
        refine hKc.out _ _ ⟨p0_0, p0_1, p0_2, p1_0, p1_1, p1_2, p2_0, p2_1, p2_2, p2_3⟩ (fun hHeld => ?_)
        clear hKc Kc
        try simp only [Act.put, List.setIfInBounds_toArray, List.set_cons_zero, List.set_cons_succ]
        have ltqD : v2.heap.size < (v2.alloc (Obj.cells #[.bool false, .slice none 0 0] 25)).heap.size := qd.lt
        generalize (v2.alloc (Obj.cells #[.bool false, .slice none 0 0] 25)) = v3 at *
        obtain ⟨qD, hqD⟩ : ∃ q, v2.heap.size = q := ⟨_, rfl⟩
        have geqD : v2.heap.size ≤ qD := Nat.le_of_eq hqD
        have leqD : qD ≤ v2.heap.size := Nat.le_of_eq hqD.symm
        rw [hqD] at qd ⊢
        clear hqD
        skip
        replace qd_0 := qd.cell (i := 0) rfl
        replace qd_1 := qd.cell (i := 1) rfl
        replace qd_f0 := qd.free 0
        replace qd_f1 := qd.free 1
        replace qd_lt := qd.lt
        obtain ⟨wL, rfl⟩ : ∃ x : World, x = v3 := ⟨_, rfl⟩
      rotate_right 1
      focus
       refine Eq.mpr (if_pos (by kernel_rfl)) ?_
       go_simp
       refine (zmul_b b sx v0 a a6 n c n6 c6 lx _ x.1 xq.num (gx1.ext (Nat.le_refl _) hE0) (h6.ext (Nat.le_refl _) hE0) gx3 hn6 (by omega) GX2 HXN DN HDN).mono ?_
       rintro e v1 ⟨sd, ad, nd, cd, rfl, hd, HVd, hnd, hE1⟩
       have hs1 := hE1.size
       replace p0 := p0.ext hE1; replace p0_0 := p0.cell (i := 0) rfl; replace p0_1 := p0.cell (i := 1) rfl; replace p0_2 := p0.cell (i := 2) rfl; replace p1 := p1.ext hE1; replace p1_0 := p1.cell (i := 0) rfl; replace p1_1 := p1.cell (i := 1) rfl; replace p1_2 := p1.cell (i := 2) rfl; replace p2 := p2.ext hE1; replace p2_0 := p2.cell (i := 0) rfl; replace p2_1 := p2.cell (i := 1) rfl; replace p2_2 := p2.cell (i := 2) rfl; replace p2_3 := p2.cell (i := 3) rfl
       have hk_hd := Kept.refl v0.heap.size v1
       replace hk_hu := Kept.trans hk_hu (Ext.kept hE1)
       replace hE0 := Ext.trans hE0 hE1
       clear hE1
       go_wp2_with fail
       refine hKc.out _ _ ⟨p0_0, p0_1, p0_2, p1_0, p1_1, p1_2, p2_0, p2_1, p2_2, p2_3⟩ (fun hHeld => ?_)
       clear hKc Kc
       try simp only [Act.put, List.setIfInBounds_toArray, List.set_cons_zero, List.set_cons_succ]
       skip
       skip
       skip
       refine wpAnyH_ready (rs := [10, 11]) (by kernel_rfl) (by simp) ?_
       refine AllReadyH.cons rfl (fun Kc hKc => ?_) (AllReadyH.cons rfl (fun Kc hKc => ?_) AllReadyH.nil)
       rotate_left 1
       focus
        refine Eq.mpr (if_pos (by kernel_rfl)) ?_
        go_simp
        have hE1 : Ext v1 (v1.alloc (Obj.cells #[.bool false, .slice none 0 0] 25)) := (Below.refl _ _).alloc (Nat.le_refl _) _
        have qd : Blk (v1.alloc (Obj.cells #[.bool false, .slice none 0 0] 25)) v1.heap.size 25 #[.bool false, .slice none 0 0] := Blk.new v1 25 #[.bool false, .slice none 0 0]
        replace hE0 := Ext.trans hE0 hE1
        replace p0 := p0.ext hE1; replace p0_0 := p0.cell (i := 0) rfl; replace p0_1 := p0.cell (i := 1) rfl; replace p0_2 := p0.cell (i := 2) rfl; replace p1 := p1.ext hE1; replace p1_0 := p1.cell (i := 0) rfl; replace p1_1 := p1.cell (i := 1) rfl; replace p1_2 := p1.cell (i := 2) rfl; replace p2 := p2.ext hE1; replace p2_0 := p2.cell (i := 0) rfl; replace p2_1 := p2.cell (i := 1) rfl; replace p2_2 := p2.cell (i := 2) rfl; replace p2_3 := p2.cell (i := 3) rfl
        replace hk_hu := Kept.trans hk_hu (Ext.kept hE1)
        replace hk_hd := Kept.trans hk_hd (Ext.kept hE1)
        have hs2 := hE1.size
        clear hE1
        refine hKc.out _ _ ⟨p0_0, p0_1, p0_2, p1_0, p1_1, p1_2, p2_0, p2_1, p2_2, p2_3⟩ (fun hHeld => ?_)
        clear hKc Kc
        try simp only [Act.put, List.setIfInBounds_toArray, List.set_cons_zero, List.set_cons_succ]
        have ltqD : v1.heap.size < (v1.alloc (Obj.cells #[.bool false, .slice none 0 0] 25)).heap.size := qd.lt
        generalize (v1.alloc (Obj.cells #[.bool false, .slice none 0 0] 25)) = v2 at *
        obtain ⟨qD, hqD⟩ : ∃ q, v1.heap.size = q := ⟨_, rfl⟩
        have geqD : v1.heap.size ≤ qD := Nat.le_of_eq hqD
        have leqD : qD ≤ v1.heap.size := Nat.le_of_eq hqD.symm
        rw [hqD] at qd ⊢
        clear hqD
        skip
        replace qd_0 := qd.cell (i := 0) rfl
        replace qd_1 := qd.cell (i := 1) rfl
        replace qd_f0 := qd.free 0
        replace qd_f1 := qd.free 1
        replace qd_lt := qd.lt
        skip
        skip
        skip
        refine stepD 10 rfl (by kernel_rfl) (fun Kc hKc => ?_)
        refine Eq.mpr (if_pos (by kernel_rfl)) ?_
        go_simp
        have hE1 : Ext v2 (v2.alloc (Obj.cells #[.bool false, .slice none 0 0] 25)) := (Below.refl _ _).alloc (Nat.le_refl _) _
        have qu : Blk (v2.alloc (Obj.cells #[.bool false, .slice none 0 0] 25)) v2.heap.size 25 #[.bool false, .slice none 0 0] := Blk.new v2 25 #[.bool false, .slice none 0 0]
        replace hE0 := Ext.trans hE0 hE1
        skip
        replace p0 := p0.ext hE1; replace p0_0 := p0.cell (i := 0) rfl; replace p0_1 := p0.cell (i := 1) rfl; replace p0_2 := p0.cell (i := 2) rfl; replace p1 := p1.ext hE1; replace p1_0 := p1.cell (i := 0) rfl; replace p1_1 := p1.cell (i := 1) rfl; replace p1_2 := p1.cell (i := 2) rfl; replace p2 := p2.ext hE1; replace p2_0 := p2.cell (i := 0) rfl; replace p2_1 := p2.cell (i := 1) rfl; replace p2_2 := p2.cell (i := 2) rfl; replace p2_3 := p2.cell (i := 3) rfl; replace qd := qd.ext hE1; replace qd_0 := qd.cell (i := 0) rfl; replace qd_1 := qd.cell (i := 1) rfl; replace qd_f0 := qd.free 0; replace qd_f1 := qd.free 1; replace qd_lt := qd.lt
        replace hk_hu := Kept.trans hk_hu (Ext.kept hE1)
        replace hk_hd := Kept.trans hk_hd (Ext.kept hE1)
        have hs3 := hE1.size
        clear hE1
        refine hKc.out _ _ ⟨p0_0, p0_1, p0_2, p1_0, p1_1, p1_2, p2_0, p2_1, p2_2, p2_3⟩ (fun hHeld => ?_)
        clear hKc Kc
        try simp only [Act.put, List.setIfInBounds_toArray, List.set_cons_zero, List.set_cons_succ]
        have ltqU : v2.heap.size < (v2.alloc (Obj.cells #[.bool false, .slice none 0 0] 25)).heap.size := qu.lt
        generalize (v2.alloc (Obj.cells #[.bool false, .slice none 0 0] 25)) = v3 at *
        obtain ⟨qU, hqU⟩ : ∃ q, v2.heap.size = q := ⟨_, rfl⟩
        have geqU : v2.heap.size ≤ qU := Nat.le_of_eq hqU
        have leqU : qU ≤ v2.heap.size := Nat.le_of_eq hqU.symm
        rw [hqU] at qu ⊢
        clear hqU
        skip
        replace qu_0 := qu.cell (i := 0) rfl
        replace qu_1 := qu.cell (i := 1) rfl
        replace qu_f0 := qu.free 0
        replace qu_f1 := qu.free 1
        replace qu_lt := qu.lt
        obtain ⟨wL, rfl⟩ : ∃ x : World, x = v3 := ⟨_, rfl⟩
       rotate_right 1
       focus
        refine Eq.mpr (if_pos (by kernel_rfl)) ?_
        go_simp
        have hE1 : Ext v1 (v1.alloc (Obj.cells #[.bool false, .slice none 0 0] 25)) := (Below.refl _ _).alloc (Nat.le_refl _) _
        have qu : Blk (v1.alloc (Obj.cells #[.bool false, .slice none 0 0] 25)) v1.heap.size 25 #[.bool false, .slice none 0 0] := Blk.new v1 25 #[.bool false, .slice none 0 0]
        replace hE0 := Ext.trans hE0 hE1
        replace p0 := p0.ext hE1; replace p0_0 := p0.cell (i := 0) rfl; replace p0_1 := p0.cell (i := 1) rfl; replace p0_2 := p0.cell (i := 2) rfl; replace p1 := p1.ext hE1; replace p1_0 := p1.cell (i := 0) rfl; replace p1_1 := p1.cell (i := 1) rfl; replace p1_2 := p1.cell (i := 2) rfl; replace p2 := p2.ext hE1; replace p2_0 := p2.cell (i := 0) rfl; replace p2_1 := p2.cell (i := 1) rfl; replace p2_2 := p2.cell (i := 2) rfl; replace p2_3 := p2.cell (i := 3) rfl
        replace hk_hu := Kept.trans hk_hu (Ext.kept hE1)
        replace hk_hd := Kept.trans hk_hd (Ext.kept hE1)
        have hs2 := hE1.size
        clear hE1
        refine hKc.out _ _ ⟨p0_0, p0_1, p0_2, p1_0, p1_1, p1_2, p2_0, p2_1, p2_2, p2_3⟩ (fun hHeld => ?_)
        clear hKc Kc
        try simp only [Act.put, List.setIfInBounds_toArray, List.set_cons_zero, List.set_cons_succ]
        have ltqU : v1.heap.size < (v1.alloc (Obj.cells #[.bool false, .slice none 0 0] 25)).heap.size := qu.lt
        generalize (v1.alloc (Obj.cells #[.bool false, .slice none 0 0] 25)) = v2 at *
        obtain ⟨qU, hqU⟩ : ∃ q, v1.heap.size = q := ⟨_, rfl⟩
        have geqU : v1.heap.size ≤ qU := Nat.le_of_eq hqU
        have leqU : qU ≤ v1.heap.size := Nat.le_of_eq hqU.symm
        rw [hqU] at qu ⊢
        clear hqU
        skip
        replace qu_0 := qu.cell (i := 0) rfl
        replace qu_1 := qu.cell (i := 1) rfl
        replace qu_f0 := qu.free 0
        replace qu_f1 := qu.free 1
        replace qu_lt := qu.lt
        skip
        skip
        skip
        refine stepD 11 rfl (by kernel_rfl) (fun Kc hKc => ?_)
        refine Eq.mpr (if_pos (by kernel_rfl)) ?_
        go_simp
        have hE1 : Ext v2 (v2.alloc (Obj.cells #[.bool false, .slice none 0 0] 25)) := (Below.refl _ _).alloc (Nat.le_refl _) _
        have qd : Blk (v2.alloc (Obj.cells #[.bool false, .slice none 0 0] 25)) v2.heap.size 25 #[.bool false, .slice none 0 0] := Blk.new v2 25 #[.bool false, .slice none 0 0]
        replace hE0 := Ext.trans hE0 hE1
        skip
        replace p0 := p0.ext hE1; replace p0_0 := p0.cell (i := 0) rfl; replace p0_1 := p0.cell (i := 1) rfl; replace p0_2 := p0.cell (i := 2) rfl; replace p1 := p1.ext hE1; replace p1_0 := p1.cell (i := 0) rfl; replace p1_1 := p1.cell (i := 1) rfl; replace p1_2 := p1.cell (i := 2) rfl; replace p2 := p2.ext hE1; replace p2_0 := p2.cell (i := 0) rfl; replace p2_1 := p2.cell (i := 1) rfl; replace p2_2 := p2.cell (i := 2) rfl; replace p2_3 := p2.cell (i := 3) rfl; replace qu := qu.ext hE1; replace qu_0 := qu.cell (i := 0) rfl; replace qu_1 := qu.cell (i := 1) rfl; replace qu_f0 := qu.free 0; replace qu_f1 := qu.free 1; replace qu_lt := qu.lt
        replace hk_hu := Kept.trans hk_hu (Ext.kept hE1)
        replace hk_hd := Kept.trans hk_hd (Ext.kept hE1)
        have hs3 := hE1.size
        clear hE1
        refine hKc.out _ _ ⟨p0_0, p0_1, p0_2, p1_0, p1_1, p1_2, p2_0, p2_1, p2_2, p2_3⟩ (fun hHeld => ?_)
        clear hKc Kc
        try simp only [Act.put, List.setIfInBounds_toArray, List.set_cons_zero, List.set_cons_succ]
        have ltqD : v2.heap.size < (v2.alloc (Obj.cells #[.bool false, .slice none 0 0] 25)).heap.size := qd.lt
        generalize (v2.alloc (Obj.cells #[.bool false, .slice none 0 0] 25)) = v3 at *
        obtain ⟨qD, hqD⟩ : ∃ q, v2.heap.size = q := ⟨_, rfl⟩
        have geqD : v2.heap.size ≤ qD := Nat.le_of_eq hqD
        have leqD : qD ≤ v2.heap.size := Nat.le_of_eq hqD.symm
        rw [hqD] at qd ⊢
        clear hqD
        skip
        replace qd_0 := qd.cell (i := 0) rfl
        replace qd_1 := qd.cell (i := 1) rfl
        replace qd_f0 := qd.free 0
        replace qd_f1 := qd.free 1
        replace qd_lt := qd.lt
        obtain ⟨wL, rfl⟩ : ∃ x : World, x = v3 := ⟨_, rfl⟩
     all_goals
      have ne_p0_qU : w.heap.size ≠ qU := by omega
      have ne_p0_qD : w.heap.size ≠ qD := by omega
      have ne_p1_qU : w.heap.size + 1 ≠ qU := by omega
      have ne_p1_qD : w.heap.size + 1 ≠ qD := by omega
      have ne_p2_qU : w.heap.size + 1 + 1 ≠ qU := by omega
      have ne_p2_qD : w.heap.size + 1 + 1 ≠ qD := by omega
      have ne5 : qU ≠ qD := by omega
      have ne6 : qD ≠ qU := by omega
      skip
      skip
      refine stepD 12 rfl (by kernel_rfl) (fun Kc hKc => ?_)
      refine Eq.mpr (if_pos (by kernel_rfl)) ?_
      go_simp
      replace qu := qu.set 0 (.bool su)
      replace p0 := p0.set_ne 0 (.bool su) (show w.heap.size ≠ qU by omega)
      replace p1 := p1.set_ne 0 (.bool su) (show w.heap.size + 1 ≠ qU by omega)
      replace p2 := p2.set_ne 0 (.bool su) (show w.heap.size + 1 + 1 ≠ qU by omega)
      replace qd := qd.set_ne 0 (.bool su) (show qD ≠ qU by omega)
      replace qu := qu.set 1 (.slice au nu cu)
      replace p0 := p0.set_ne 1 (.slice au nu cu) (show w.heap.size ≠ qU by omega)
      replace p1 := p1.set_ne 1 (.slice au nu cu) (show w.heap.size + 1 ≠ qU by omega)
      replace p2 := p2.set_ne 1 (.slice au nu cu) (show w.heap.size + 1 + 1 ≠ qU by omega)
      replace qd := qd.set_ne 1 (.slice au nu cu) (show qD ≠ qU by omega)
      have hKwS0 : ∀ bB_ : Nat, qU < bB_ → Kept bB_ wL (((wL).setCell ⟨qU, 0, none⟩ (.bool su)).setCell ⟨qU, 1, none⟩ (.slice au nu cu)) := fun bB_ h0 => (Kept.trans (kept_set _ _ _ h0) (kept_set _ _ _ h0))
      have hzwS0 : wL.heap.size ≤ (((wL).setCell ⟨qU, 0, none⟩ (.bool su)).setCell ⟨qU, 1, none⟩ (.slice au nu cu)).heap.size := by simp only [World.setCell, Array.size_modify]; exact Nat.le_refl _
      have hSwS0 : ∀ (nB_ : Nat) (uB_ : World), nB_ ≤ qU → Below nB_ uB_ wL → Below nB_ uB_ (((wL).setCell ⟨qU, 0, none⟩ (.bool su)).setCell ⟨qU, 1, none⟩ (.slice au nu cu)) := fun nB_ uB_ h0 hb => (Below.setCell (Below.setCell hb (p := ⟨qU, 0, none⟩) h0 (.bool su)) (p := ⟨qU, 1, none⟩) h0 (.slice au nu cu))
      have hTwS0 : ∀ (bB_ : Nat) (uB_ : World), (qU < bB_ ∨ uB_.heap.size ≤ qU) → Kept bB_ uB_ wL → Kept bB_ uB_ (((wL).setCell ⟨qU, 0, none⟩ (.bool su)).setCell ⟨qU, 1, none⟩ (.slice au nu cu)) := fun bB_ uB_ h0 hb => (kept_step (kept_step hb h0) h0)
      replace qu : Blk (((wL).setCell ⟨qU, 0, none⟩ (.bool su)).setCell ⟨qU, 1, none⟩ (.slice au nu cu)) (qU) 25 #[.bool su, .slice au nu cu] := qu
      generalize hgwS0 : ((wL).setCell ⟨qU, 0, none⟩ (.bool su)).setCell ⟨qU, 1, none⟩ (.slice au nu cu) = wS0 at *
      clear hgwS0
      replace qu_0 := qu.cell (i := 0) rfl
      replace qu_1 := qu.cell (i := 1) rfl
      replace qu_f0 := qu.free 0
      replace qu_f1 := qu.free 1
      replace qu_lt := qu.lt
      replace p0_0 := p0.cell (i := 0) rfl
      replace p0_1 := p0.cell (i := 1) rfl
      replace p0_2 := p0.cell (i := 2) rfl
      replace p1_0 := p1.cell (i := 0) rfl
      replace p1_1 := p1.cell (i := 1) rfl
      replace p1_2 := p1.cell (i := 2) rfl
      replace p2_0 := p2.cell (i := 0) rfl
      replace p2_1 := p2.cell (i := 1) rfl
      replace p2_2 := p2.cell (i := 2) rfl
      replace p2_3 := p2.cell (i := 3) rfl
      replace qd_0 := qd.cell (i := 0) rfl
      replace qd_1 := qd.cell (i := 1) rfl
      replace qd_f0 := qd.free 0
      replace qd_f1 := qd.free 1
      replace qd_lt := qd.lt
      refine hKc.out _ _ ⟨p0_0, p0_1, p0_2, p1_0, p1_1, p1_2, p2_0, p2_1, p2_2, p2_3⟩ (fun hHeld => ?_)
      clear hKc Kc
      try simp only [Act.put, List.setIfInBounds_toArray, List.set_cons_zero, List.set_cons_succ]
      refine stepD 13 rfl (by kernel_rfl) (fun Kc hKc => ?_)
      refine Eq.mpr (if_pos (by kernel_rfl)) ?_
      go_simp
      replace qd := qd.set 0 (.bool sd)
      replace p0 := p0.set_ne 0 (.bool sd) (show w.heap.size ≠ qD by omega)
      replace p1 := p1.set_ne 0 (.bool sd) (show w.heap.size + 1 ≠ qD by omega)
      replace p2 := p2.set_ne 0 (.bool sd) (show w.heap.size + 1 + 1 ≠ qD by omega)
      replace qu := qu.set_ne 0 (.bool sd) (show qU ≠ qD by omega)
      replace qd := qd.set 1 (.slice ad nd cd)
      replace p0 := p0.set_ne 1 (.slice ad nd cd) (show w.heap.size ≠ qD by omega)
      replace p1 := p1.set_ne 1 (.slice ad nd cd) (show w.heap.size + 1 ≠ qD by omega)
      replace p2 := p2.set_ne 1 (.slice ad nd cd) (show w.heap.size + 1 + 1 ≠ qD by omega)
      replace qu := qu.set_ne 1 (.slice ad nd cd) (show qU ≠ qD by omega)
      have hKwS1 : ∀ bB_ : Nat, qD < bB_ → Kept bB_ wS0 (((wS0).setCell ⟨qD, 0, none⟩ (.bool sd)).setCell ⟨qD, 1, none⟩ (.slice ad nd cd)) := fun bB_ h0 => (Kept.trans (kept_set _ _ _ h0) (kept_set _ _ _ h0))
      have hzwS1 : wS0.heap.size ≤ (((wS0).setCell ⟨qD, 0, none⟩ (.bool sd)).setCell ⟨qD, 1, none⟩ (.slice ad nd cd)).heap.size := by simp only [World.setCell, Array.size_modify]; exact Nat.le_refl _
      have hSwS1 : ∀ (nB_ : Nat) (uB_ : World), nB_ ≤ qD → Below nB_ uB_ wS0 → Below nB_ uB_ (((wS0).setCell ⟨qD, 0, none⟩ (.bool sd)).setCell ⟨qD, 1, none⟩ (.slice ad nd cd)) := fun nB_ uB_ h0 hb => (Below.setCell (Below.setCell hb (p := ⟨qD, 0, none⟩) h0 (.bool sd)) (p := ⟨qD, 1, none⟩) h0 (.slice ad nd cd))
      have hTwS1 : ∀ (bB_ : Nat) (uB_ : World), (qD < bB_ ∨ uB_.heap.size ≤ qD) → Kept bB_ uB_ wS0 → Kept bB_ uB_ (((wS0).setCell ⟨qD, 0, none⟩ (.bool sd)).setCell ⟨qD, 1, none⟩ (.slice ad nd cd)) := fun bB_ uB_ h0 hb => (kept_step (kept_step hb h0) h0)
      replace qd : Blk (((wS0).setCell ⟨qD, 0, none⟩ (.bool sd)).setCell ⟨qD, 1, none⟩ (.slice ad nd cd)) (qD) 25 #[.bool sd, .slice ad nd cd] := qd
      generalize hgwS1 : ((wS0).setCell ⟨qD, 0, none⟩ (.bool sd)).setCell ⟨qD, 1, none⟩ (.slice ad nd cd) = wS1 at *
      clear hgwS1
      replace qd_0 := qd.cell (i := 0) rfl
      replace qd_1 := qd.cell (i := 1) rfl
      replace qd_f0 := qd.free 0
      replace qd_f1 := qd.free 1
      replace qd_lt := qd.lt
      replace p0_0 := p0.cell (i := 0) rfl
      replace p0_1 := p0.cell (i := 1) rfl
      replace p0_2 := p0.cell (i := 2) rfl
      replace p1_0 := p1.cell (i := 0) rfl
      replace p1_1 := p1.cell (i := 1) rfl
      replace p1_2 := p1.cell (i := 2) rfl
      replace p2_0 := p2.cell (i := 0) rfl
      replace p2_1 := p2.cell (i := 1) rfl
      replace p2_2 := p2.cell (i := 2) rfl
      replace p2_3 := p2.cell (i := 3) rfl
      replace qu_0 := qu.cell (i := 0) rfl
      replace qu_1 := qu.cell (i := 1) rfl
      replace qu_f0 := qu.free 0
      replace qu_f1 := qu.free 1
      replace qu_lt := qu.lt
      refine hKc.out _ _ ⟨p0_0, p0_1, p0_2, p1_0, p1_1, p1_2, p2_0, p2_1, p2_2, p2_3⟩ (fun hHeld => ?_)
      clear hKc Kc
      try simp only [Act.put, List.setIfInBounds_toArray, List.set_cons_zero, List.set_cons_succ]
      refine wpAnyH_done (by kernel_rfl) ?_ _
      refine NoPanic.normal ?_
      replace hu := hu.mono (Nat.le_refl _) (hTwS1 _ _ (by first | exact Or.inl (by omega) | exact Or.inr (by omega)) (hTwS0 _ _ (by first | exact Or.inl (by omega) | exact Or.inr (by omega)) hk_hu))
      replace hd := hd.mono (Nat.le_refl _) (hTwS1 _ _ (by first | exact Or.inl (by omega) | exact Or.inr (by omega)) (hTwS0 _ _ (by first | exact Or.inl (by omega) | exact Or.inr (by omega)) hk_hd))
      replace hE0 := (hSwS1 _ _ (by omega) (hSwS0 _ _ (by omega) hE0))
      go_wp2_with fail
      go_meet
      exact ⟨qU, qD, su, au, nu, cu, sd, ad, nd, cd, rfl, rfl, Lib.hid qu, Lib.hid qd, Lib.hid (Sl.zero hu), HVu, hnu, Lib.hid (Sl.zero hd), HVd, hnd, Lib.hid hE0⟩
    case rest =>
     obtain ⟨qU, qD, su, au, nu, cu, sd, ad, nd, cd, rfl, rfl, HQU, HQD, HU, HVu, hnu, HD, HVd, hnd, HEc⟩ := hcut
     have HEC := Lib.hid (Ext.trans HE3.out HEc.out)
     have p0 := HP0.out.ext HEc.out
     have p1 := HP1.out.ext HEc.out
     skip
     skip
     replace p0_0 := p0.cell (i := 0) rfl
     replace p0_1 := p0.cell (i := 1) rfl
     replace p0_2 := p0.cell (i := 2) rfl
     replace p1_0 := p1.cell (i := 0) rfl
     replace p1_1 := p1.cell (i := 1) rfl
     replace p1_2 := p1.cell (i := 2) rfl
     have hszc := HEc.out.size
     have hquc := HQU.out.lt
     have hqdc := HQD.out.lt
     go_wp2_with fail
     go_loopg [12, 53] n2 (fun q vo vi wr => ∃ i : Nat, i ≤ n2 ∧ q = n2 - i ∧ vi = .int .i64 (i : Int) ∧ Hid (∃ css, Grp (rIntK (K + (K + K) + 1)) wc.heap.size 25 wr vo i ((List.range i).map (vaddZ x.2 y.2 UP DN)) css) ∧ Hid (Ext wc wr))
     case atStart => exact ⟨0, Nat.zero_le _, by omega, rfl, Lib.hid ⟨[], Grp.nil _ _ _ _⟩, Lib.hid (Ext.refl _)⟩
     case round =>
      clear p0 p1 p0_0 p0_1 p0_2 p1_0 p1_1 p1_2
      obtain ⟨i, hi, hq5, rfl, HG, HE⟩ := hrel
      have p1 := HP1.out.ext (Ext.trans HEc.out HE.out)
      have qu := HQU.out.ext HE.out
      have qd := HQD.out.ext HE.out
      by_cases hin : i < n2
      ·obtain ⟨b7, o7, s7, a7', n7', c7', l7, z7, rfl, hb7, hz7, hc7, hc8, h7', hi7, hn7'⟩ := GX4.out.getInt (i := i) hin
       obtain ⟨b8, o8, s8, a8, n8, c8, l8, z8, rfl, hb8, hz8, hd8, hd9, h8, hi8, hn8⟩ := GY4.out.getInt (i := i) hin
       skip
       skip
       skip
       replace p1_0 := p1.cell (i := 0) rfl
       replace p1_1 := p1.cell (i := 1) rfl
       replace p1_2 := p1.cell (i := 2) rfl
       replace qu_0 := qu.cell (i := 0) rfl
       replace qu_1 := qu.cell (i := 1) rfl
       replace qd_0 := qd.cell (i := 0) rfl
       replace qd_1 := qd.cell (i := 1) rfl
       have HI7 := Lib.hid hi7
       have HI8 := Lib.hid hi8
       obtain ⟨z1, hz1⟩ : ∃ z, z7 * UP = z := ⟨_, rfl⟩
       obtain ⟨z2, hz2⟩ : ∃ z, z8 * DN = z := ⟨_, rfl⟩
       obtain ⟨z3, hz3⟩ : ∃ z, z1 + z2 = z := ⟨_, rfl⟩
       have HZ1 := Lib.hid hz1
       have HZ2 := Lib.hid hz2
       have HZ3 := Lib.hid hz3
       have HFI : Hid (vaddZ x.2 y.2 UP DN i = z3) := Lib.hid (by unfold vaddZ; rw [hz7, hz8]; show z7 * UP + z8 * DN = z3; rw [hz1, hz2, hz3])
       have hEww := Ext.trans HEc.out HE.out
       replace hc7 := cellE hEww hc7
       replace hc8 := cellE hEww hc8
       replace hd8 := cellE hEww hd8
       replace hd9 := cellE hEww hd9
       have hp2 : (i : Int) < (n2 : Int) := by omega
       obtain ⟨css, hG⟩ := HG.out
       have hlt := hG.own.lt
       have HG0 := Lib.hid hG
       have hwr := HE.out.size
       clear hz7 hz8 hi7 hi8 hz1 hz2 hz3 hG
       go_upto_region 14 with (fail)
       have x0 := Blk.new wr 25 #[.bool s7, .slice a7' n7' c7']
       have hEW4 : Ext wr (wr.alloc (Obj.cells #[.bool s7, .slice a7' n7' c7'] 25)) := ((Below.refl _ wr).alloc (by simp) _)
       generalize hgW4 : wr.alloc (Obj.cells #[.bool s7, .slice a7' n7' c7'] 25) = W4 at *
       clear hgW4
       replace x0_0 := x0.cell (i := 0) rfl
       replace x0_1 := x0.cell (i := 1) rfl
       have hd : Ext W4 W4.drew := (Below.refl _ _).drew
       have hE0 := Ext.trans hEW4 hd
       have hx0l : wr.heap.size < W4.heap.size := x0.lt
       replace hd8 := cellE hE0 hd8
       replace hd9 := cellE hE0 hd9
       replace p1 := p1.ext hE0; replace p1_0 := p1.cell (i := 0) rfl; replace p1_1 := p1.cell (i := 1) rfl; replace p1_2 := p1.cell (i := 2) rfl; replace qu := qu.ext hE0; replace qu_0 := qu.cell (i := 0) rfl; replace qu_1 := qu.cell (i := 1) rfl; replace qd := qd.ext hE0; replace qd_0 := qd.cell (i := 0) rfl; replace qd_1 := qd.cell (i := 1) rfl
       replace x0 := x0.ext hd; replace x0_0 := x0.cell (i := 0) rfl; replace x0_1 := x0.cell (i := 1) rfl
       have hb8c : b8 < wc.heap.size := by omega
       have hsz := hE0.size
       clear hc7 hc8 hd hEW4
       refine wp_region_noPanic ?_
       refine wp_region_held_drew (S := (fun w' => w'.cell? ⟨b8, o8 + i * 2, none⟩ = some (.bool s8) ∧ w'.cell? ⟨b8, o8 + i * 2 + 1, none⟩ = some (.slice a8 n8 c8) ∧ w'.cell? ⟨wr.heap.size, 0, none⟩ = some (.bool s7) ∧ w'.cell? ⟨wr.heap.size, 1, none⟩ = some (.slice a7' n7' c7') ∧ w'.cell? ⟨w.heap.size + 1, 0, none⟩ = some (.bool b') ∧ w'.cell? ⟨w.heap.size + 1, 1, none⟩ = some (.slice a' n' c') ∧ w'.cell? ⟨w.heap.size + 1, 2, none⟩ = some (.slice (some ⟨b8, o8, none⟩) n2 c2') ∧ w'.cell? ⟨qU, 0, none⟩ = some (.bool su) ∧ w'.cell? ⟨qU, 1, none⟩ = some (.slice au nu cu) ∧ w'.cell? ⟨qD, 0, none⟩ = some (.bool sd) ∧ w'.cell? ⟨qD, 1, none⟩ = some (.slice ad nd cd))) (by kernel_rfl) ⟨hd8, hd9, x0_0, x0_1, p1_0, p1_1, p1_2, qu_0, qu_1, qd_0, qd_1⟩ (fun hHeld => ?_)
       refine takeD 0 58 (v := ?_) rfl rfl (by kernel_rfl) (by kernel_rfl) (by kernel_rfl) (fun _ _ _ h => h) (Or.inl ⟨by kernel_rfl, ?hy⟩) hHeld ?_
       case hy => (intro w hSw; (try dsimp only at hSw); go_simp; try with_reducible rfl)
       try simp only [List.setIfInBounds_toArray, List.set_cons_zero, List.set_cons_succ]
       refine takeD 1 59 (v := ?_) rfl rfl (by kernel_rfl) (by kernel_rfl) (by kernel_rfl) (fun _ _ _ h => h) (Or.inl ⟨by kernel_rfl, ?hy⟩) hHeld ?_
       case hy => (intro w hSw; (try dsimp only at hSw); go_simp; try with_reducible rfl)
       try simp only [List.setIfInBounds_toArray, List.set_cons_zero, List.set_cons_succ]
       refine takeD 2 60 (v := ?_) rfl rfl (by kernel_rfl) (by kernel_rfl) (by kernel_rfl) (fun _ _ _ h => h) (Or.inl ⟨by kernel_rfl, ?hy⟩) hHeld ?_
       case hy => (intro w hSw; (try dsimp only at hSw); go_simp; try with_reducible rfl)
       try simp only [List.setIfInBounds_toArray, List.set_cons_zero, List.set_cons_succ]
       refine takeD 4 62 (v := ?_) rfl rfl (by kernel_rfl) (by kernel_rfl) (by kernel_rfl) (fun _ _ _ h => h) (Or.inl ⟨by kernel_rfl, ?hy⟩) hHeld ?_
       case hy => (intro w hSw; (try dsimp only at hSw); go_simp; try with_reducible rfl)
       try simp only [List.setIfInBounds_toArray, List.set_cons_zero, List.set_cons_succ]
       refine takeD 5 63 (v := ?_) rfl rfl (by kernel_rfl) (by kernel_rfl) (by kernel_rfl) (fun _ _ _ h => h) (Or.inl ⟨by kernel_rfl, ?hy⟩) hHeld ?_
       case hy => (intro w hSw; (try dsimp only at hSw); go_simp; try with_reducible rfl)
       try simp only [List.setIfInBounds_toArray, List.set_cons_zero, List.set_cons_succ]
       refine takeD 6 64 (v := ?_) rfl rfl (by kernel_rfl) (by kernel_rfl) (by kernel_rfl) (fun _ _ _ h => h) (Or.inl ⟨by kernel_rfl, ?hy⟩) hHeld ?_
       case hy => (intro w hSw; (try dsimp only at hSw); go_simp; try with_reducible rfl)
       try simp only [List.setIfInBounds_toArray, List.set_cons_zero, List.set_cons_succ]
       refine takeD 7 65 (v := ?_) rfl rfl (by kernel_rfl) (by kernel_rfl) (by kernel_rfl) (fun _ _ _ h => h) (Or.inl ⟨by kernel_rfl, ?hy⟩) hHeld ?_
       case hy => (intro w hSw; (try dsimp only at hSw); go_simp; try with_reducible rfl)
       try simp only [List.setIfInBounds_toArray, List.set_cons_zero, List.set_cons_succ]
       refine takeD 8 66 (v := ?_) rfl rfl (by kernel_rfl) (by kernel_rfl) (by kernel_rfl) (fun _ _ _ h => h) (Or.inl ⟨by kernel_rfl, ?hy⟩) hHeld ?_
       case hy => (intro w hSw; (try dsimp only at hSw); go_simp; try with_reducible rfl)
       try simp only [List.setIfInBounds_toArray, List.set_cons_zero, List.set_cons_succ]
       refine takeD 9 67 (v := ?_) rfl rfl (by kernel_rfl) (by kernel_rfl) (by kernel_rfl) (fun _ _ _ h => h) (Or.inl ⟨by kernel_rfl, ?hy⟩) hHeld ?_
       case hy => (intro w hSw; (try dsimp only at hSw); go_simp; try with_reducible rfl)
       try simp only [List.setIfInBounds_toArray, List.set_cons_zero, List.set_cons_succ]
       refine stepD 3 rfl (by kernel_rfl) (fun Kc hKc => ?_)
       refine Eq.mpr (if_pos (by kernel_rfl)) ?_
       go_simp
       (with_reducible refine (zmul_b s7 su _ a7' au n7' c7' nu cu l7 _ z7 UP (h7'.ext (Nat.le_refl _) (Ext.trans hEww hE0)) (HU.out.ext (Nat.le_refl _) (Ext.trans HE.out hE0)) hn7' hnu (by omega) HI7 HVu z1 HZ1).mono ?_)
       rintro e v1 ⟨s9, a9, n9, c9, rfl, h9, HV9, hn9, hE1⟩
       replace hd8 := cellE hE1 hd8
       replace hd9 := cellE hE1 hd9
       replace x0 := x0.ext hE1; replace x0_0 := x0.cell (i := 0) rfl; replace x0_1 := x0.cell (i := 1) rfl; replace p1 := p1.ext hE1; replace p1_0 := p1.cell (i := 0) rfl; replace p1_1 := p1.cell (i := 1) rfl; replace p1_2 := p1.cell (i := 2) rfl; replace qu := qu.ext hE1; replace qu_0 := qu.cell (i := 0) rfl; replace qu_1 := qu.cell (i := 1) rfl; replace qd := qd.ext hE1; replace qd_0 := qd.cell (i := 0) rfl; replace qd_1 := qd.cell (i := 1) rfl
       replace h9 := h9.mono hsz (Kept.refl _ _)
       replace hsz := Nat.le_trans hsz hE1.size
       replace hE0 := Ext.trans hE0 hE1
       clear hE1
       go_wp2_with fail
       refine hKc.out _ _ ⟨hd8, hd9, x0_0, x0_1, p1_0, p1_1, p1_2, qu_0, qu_1, qd_0, qd_1⟩ (fun hHeld => ?_)
       clear hKc Kc
       try simp only [Act.put, List.setIfInBounds_toArray, List.set_cons_zero, List.set_cons_succ]
       refine stepD 10 rfl (by kernel_rfl) (fun Kc hKc => ?_)
       refine Eq.mpr (if_pos (by kernel_rfl)) ?_
       go_simp
       (with_reducible refine (zmul_b s8 sd _ a8 ad n8 c8 nd cd l8 _ z8 DN (h8.ext (Nat.le_refl _) (Ext.trans hEww hE0)) (HD.out.ext (Nat.le_refl _) (Ext.trans HE.out hE0)) hn8 hnd (by omega) HI8 HVd z2 HZ2).mono ?_)
       rintro e v2 ⟨s10, a10, n10, c10, rfl, h10, HV10, hn10, hE1⟩
       replace hd8 := cellE hE1 hd8
       replace hd9 := cellE hE1 hd9
       replace x0 := x0.ext hE1; replace x0_0 := x0.cell (i := 0) rfl; replace x0_1 := x0.cell (i := 1) rfl; replace p1 := p1.ext hE1; replace p1_0 := p1.cell (i := 0) rfl; replace p1_1 := p1.cell (i := 1) rfl; replace p1_2 := p1.cell (i := 2) rfl; replace qu := qu.ext hE1; replace qu_0 := qu.cell (i := 0) rfl; replace qu_1 := qu.cell (i := 1) rfl; replace qd := qd.ext hE1; replace qd_0 := qd.cell (i := 0) rfl; replace qd_1 := qd.cell (i := 1) rfl
       replace h9 := h9.ext (Nat.le_refl _) hE1
       replace h10 := h10.mono hsz (Kept.refl _ _)
       replace hsz := Nat.le_trans hsz hE1.size
       replace hE0 := Ext.trans hE0 hE1
       clear hE1
       go_wp2_with fail
       refine hKc.out _ _ ⟨hd8, hd9, x0_0, x0_1, p1_0, p1_1, p1_2, qu_0, qu_1, qd_0, qd_1⟩ (fun hHeld => ?_)
       clear hKc Kc
       try simp only [Act.put, List.setIfInBounds_toArray, List.set_cons_zero, List.set_cons_succ]
       refine stepD 11 rfl (by kernel_rfl) (fun Kc hKc => ?_)
       refine Eq.mpr (if_pos (by kernel_rfl)) ?_
       go_simp
       (with_reducible refine (zadd_b (K := K + (K + K)) s9 s10 _ a9 a10 n9 c9 n10 c10 _ _ z1 z2 (h9.mono (Nat.zero_le _) (Kept.refl _ _)) (h10.mono (Nat.zero_le _) (Kept.refl _ _)) hn9 hn10 (by omega) HV9 HV10 z3 HZ3).mono ?_)
       rintro e v3 ⟨s11, a11, n11, c11, rfl, h11, HV11, hn11, hE1⟩
       replace hd8 := cellE hE1 hd8
       replace hd9 := cellE hE1 hd9
       replace x0 := x0.ext hE1; replace x0_0 := x0.cell (i := 0) rfl; replace x0_1 := x0.cell (i := 1) rfl; replace p1 := p1.ext hE1; replace p1_0 := p1.cell (i := 0) rfl; replace p1_1 := p1.cell (i := 1) rfl; replace p1_2 := p1.cell (i := 2) rfl; replace qu := qu.ext hE1; replace qu_0 := qu.cell (i := 0) rfl; replace qu_1 := qu.cell (i := 1) rfl; replace qd := qd.ext hE1; replace qd_0 := qd.cell (i := 0) rfl; replace qd_1 := qd.cell (i := 1) rfl
       replace h11 := h11.mono hsz (Kept.refl _ _)
       replace hsz := Nat.le_trans hsz hE1.size
       clear h9 h10
       replace hE0 := Ext.trans hE0 hE1
       clear hE1
       go_wp2_with fail
       refine hKc.out _ _ ⟨hd8, hd9, x0_0, x0_1, p1_0, p1_1, p1_2, qu_0, qu_1, qd_0, qd_1⟩ (fun hHeld => ?_)
       clear hKc Kc
       try simp only [Act.put, List.setIfInBounds_toArray, List.set_cons_zero, List.set_cons_succ]
       have hEA : Ext v3 (v3.alloc (Obj.cells #[.bool s11, .slice a11 n11 c11] 25)) := (Below.refl _ _).alloc (Nat.le_refl _) _
       refine stepD 12 rfl (by kernel_rfl) (fun Kc hKc => ?_)
       refine Eq.mpr (if_pos (by kernel_rfl)) ?_
       go_simp
       replace hd8 := cellE hEA hd8
       replace hd9 := cellE hEA hd9
       replace x0 := x0.ext hEA; replace x0_0 := x0.cell (i := 0) rfl; replace x0_1 := x0.cell (i := 1) rfl; replace p1 := p1.ext hEA; replace p1_0 := p1.cell (i := 0) rfl; replace p1_1 := p1.cell (i := 1) rfl; replace p1_2 := p1.cell (i := 2) rfl; replace qu := qu.ext hEA; replace qu_0 := qu.cell (i := 0) rfl; replace qu_1 := qu.cell (i := 1) rfl; replace qd := qd.ext hEA; replace qd_0 := qd.cell (i := 0) rfl; replace qd_1 := qd.cell (i := 1) rfl
       refine hKc.out _ _ ⟨hd8, hd9, x0_0, x0_1, p1_0, p1_1, p1_2, qu_0, qu_1, qd_0, qd_1⟩ (fun hHeld => ?_)
       clear hKc Kc
       try simp only [Act.put, List.setIfInBounds_toArray, List.set_cons_zero, List.set_cons_succ]
       obtain ⟨i0, hi0, hz0, hz1, hz2⟩ := info_parts info_int
       have hEB := Ext.trans hE0 hEA
       have hG10 := HG0.out.keep hEB.size (fun b _ h2 => hEB.block b h2)
       have hbl := Blk.new v3 25 #[.bool s11, .slice a11 n11 c11]
       have hnews : ∀ ad, some (⟨v3.heap.size, 0, none⟩ : Addr) = some ad → ∀ (j' : Nat) (u : Value), [Value.bool s11, .slice a11 n11 c11][j']? = some u → (v3.alloc (Obj.cells #[.bool s11, .slice a11 n11 c11] 25)).cell? (ad.add j') = some u := (by intro ad e j' u hu; cases e; match j', hu with | 0, hu => (cases hu; exact hbl.cell (i := 0) rfl) | 1, hu => (cases hu; exact hbl.cell (i := 1) rfl) | k + 2, hu => simp at hu)
       refine stepD 13 rfl (by kernel_rfl) (fun Kc hKc => ?_)
       refine step_append_src rfl (.tmp 58) (.tmp 70) 30 rfl wc.heap.size 25 i0 _ 2 32 under_ints hi0 hz0 hz1 hz2 rfl (by decide) _ i _ rfl hG10.own (some ⟨v3.heap.size, 0, none⟩) 1 1 [.bool s11, .slice a11 n11 c11] rfl (by simp) rfl hnews (by simp [Value.oneCell']) (by unfold maxLen; omega) (by omega) (by have := hEB.size; omega) ?_
       intro v' w7 hown' hgrow hat
       obtain ⟨g', cap', rfl⟩ := ownsRow_succ hown'
       have hx9 : wr.heap.size < (v3.alloc (Obj.cells #[.bool s11, .slice a11 n11 c11] 25)).heap.size := x0.lt
       have hnx : ∀ k, _ → k < wr.heap.size ∧ wc.heap.size ≤ k := fun k e => ⟨(hlt k e).2, (hlt k e).1⟩
       replace x0 := Blk.grown x0 hgrow (fun e => by have := hnx _ e.symm; omega)
       replace p1 := Blk.grown p1 hgrow (fun e => by have := hnx _ e.symm; omega)
       replace qu := Blk.grown qu hgrow (fun e => by have := hnx _ e.symm; omega)
       replace qd := Blk.grown qd hgrow (fun e => by have := hnx _ e.symm; omega)
       replace hd8 := (World.cell?_of_block (a := ⟨b8, o8 + i * 2, none⟩) (hgrow.block b8 (by omega) (fun e => by have := hnx _ e.symm; omega))).trans hd8
       replace hd9 := (World.cell?_of_block (a := ⟨b8, o8 + i * 2 + 1, none⟩) (hgrow.block b8 (by omega) (fun e => by have := hnx _ e.symm; omega))).trans hd9
       replace x0_0 := x0.cell (i := 0) rfl
       replace x0_1 := x0.cell (i := 1) rfl
       replace p1_0 := p1.cell (i := 0) rfl
       replace p1_1 := p1.cell (i := 1) rfl
       replace p1_2 := p1.cell (i := 2) rfl
       replace qu_0 := qu.cell (i := 0) rfl
       replace qu_1 := qu.cell (i := 1) rfl
       replace qd_0 := qd.cell (i := 0) rfl
       replace qd_1 := qd.cell (i := 1) rfl
       refine hKc.out _ _ ⟨hd8, hd9, x0_0, x0_1, p1_0, p1_1, p1_2, qu_0, qu_1, qd_0, qd_1⟩ (fun hHeld => ?_)
       clear hKc Kc
       try simp only [Act.put, List.setIfInBounds_toArray, List.set_cons_zero, List.set_cons_succ]
       refine takeD 14 12 (v := ?_) rfl rfl (by kernel_rfl) (by kernel_rfl) (by kernel_rfl) (fun _ _ _ h => h) (Or.inl ⟨by kernel_rfl, ?hy⟩) hHeld ?_
       case hy => (intro w hSw; (try dsimp only at hSw); go_simp; try with_reducible rfl)
       try simp only [List.setIfInBounds_toArray, List.set_cons_zero, List.set_cons_succ]
       refine wpAnyH_done (by kernel_rfl) ?_ _
       refine NoPanic.normal ?_
       have HN9 : Hid ((rIntK (K + (K + K) + 1)).ok wr.heap.size (v3.alloc (Obj.cells #[.bool s11, .slice a11 n11 c11] 25)) [.bool s11, .slice a11 n11 c11] z3) := Lib.hid ⟨s11, a11, n11, c11, _, rfl, h11.ext (Nat.le_refl _) hEA, HV11.out, hn11⟩
       have HGa := Lib.hid (hG10.add hown' hgrow hat (x := z3) HN9.out hwr (fun k e => (hlt k e).2))
       have HEz := Lib.hid ((Ext.trans HE.out hEB).grown hgrow (Ext.trans HE.out hEB).size (fun k e => (hlt k e).1))
       clear hG10 hown' hgrow hat hEB hEA hE0 h11 h7' h8 hnews hbl x0 p1 qu qd x0_0 x0_1 p1_0 p1_1 p1_2 qu_0 qu_1 qd_0 qd_1 hd8 hd9 hnx hx9 hEww
       go_wp2_with fail
       go_roundg (n2 - (i + 1))
       case measure => omega
       case rel => exact ⟨i + 1, by omega, rfl, by go_num, Lib.hid ⟨_, by rw [List.range_succ, List.map_append]; show Grp _ _ _ _ _ _ (_ ++ [vaddZ x.2 y.2 UP DN i]) _; rw [HFI.out]; exact HGa.out⟩, HEz⟩
      ·obtain rfl : i = n2 := by omega
       obtain ⟨css, hG⟩ := HG.out
       obtain ⟨av, cv, rfl, hsl⟩ := hG.sl
       have HSL := Lib.hid (Sl.zero hsl)
       have p0 := HP0.out.ext (Ext.trans HEc.out HE.out)
       have r0 := HR0.out.ext (Ext.trans HEc.out HE.out)
       skip
       skip
       skip
       replace p0_0 := p0.cell (i := 0) rfl
       replace p0_1 := p0.cell (i := 1) rfl
       replace p0_2 := p0.cell (i := 2) rfl
       replace qu_0 := qu.cell (i := 0) rfl
       replace qu_1 := qu.cell (i := 1) rfl
       replace r0_0 := r0.cell (i := 0) rfl
       replace r0_1 := r0.cell (i := 1) rfl
       replace r0_2 := r0.cell (i := 2) rfl
       replace r0_f0 := r0.free 0
       replace r0_f1 := r0.free 1
       replace r0_f2 := r0.free 2
       replace r0_lt := r0.lt
       have HEr := Lib.hid (Ext.trans HEC.out HE.out)
       clear hG hsl p1 qd
       go_wp2_with fail
       (with_reducible refine (zmul_b b su wr a au n c nu cu lx _ x.1 UP (GX1.out.ext (Nat.le_refl _) (Ext.trans HEc.out HE.out)) (HU.out.ext (Nat.le_refl _) HE.out) gx3 hnu (by omega) GX2 HVu DD HDD).mono ?_)
       rintro e w8 ⟨s12, a12, n12, c12, rfl, h12, HV12, hn12, hE8⟩
       replace r0 := r0.ext hE8; replace r0_0 := r0.cell (i := 0) rfl; replace r0_1 := r0.cell (i := 1) rfl; replace r0_2 := r0.cell (i := 2) rfl; replace r0_f0 := r0.free 0; replace r0_f1 := r0.free 1; replace r0_f2 := r0.free 2; replace r0_lt := r0.lt
       have hr8 := r0_lt
       have HSL8 := Lib.hid (HSL.out.ext (Nat.le_refl _) hE8)
       have HE8 := Lib.hid (Ext.trans HEr.out hE8)
       clear hE8 p0 p0_0 p0_1 p0_2 qu qu_0 qu_1
       go_wp2_with fail
       (with_reducible refine (vec_nrm (K + (K + K) + 1) (by omega) w8 s12 a12 n12 c12 _ (h12.mono (Nat.zero_le _) (Kept.refl _ _)) (by omega) DD HV12 hdd0 av i cv _ HSL8.out hn2 qs HQE2).mono ?_)
       rintro e w9 ⟨a13, n13, c13, a14, n14, c14, rfl, h13, h14, hE9⟩
       replace r0 := r0.ext hE9; replace r0_0 := r0.cell (i := 0) rfl; replace r0_1 := r0.cell (i := 1) rfl; replace r0_2 := r0.cell (i := 2) rfl; replace r0_f0 := r0.free 0; replace r0_f1 := r0.free 1; replace r0_f2 := r0.free 2; replace r0_lt := r0.lt
       have hsz8 := HE8.out.size
       have HF : Hid (RVAns w 0 qs (.returned (.tuple #[.agg #[.bool false, .slice a13 n13 c13, .slice a14 n14 c14], .int .i64 0])) (((w9.setCell ⟨w.heap.size + 1 + 1 + 1, 0, none⟩ (.bool false)).setCell ⟨w.heap.size + 1 + 1 + 1, 1, none⟩ (.slice a13 n13 c13)).setCell ⟨w.heap.size + 1 + 1 + 1, 2, none⟩ (.slice a14 n14 c14))) := Lib.hid ⟨false, a13, n13, c13, a14, n14, c14, rfl, ext_set3 (Ext.trans HE8.out hE9) _ _ _ (by omega), fun h => absurd rfl h, fun _ => ⟨rfl, (h13.mono (Nat.le_refl _) (kept_set3 _ _ _ _ (by omega))).mono (by omega) (Kept.refl _ _), (h14.mono (Nat.le_refl _) (kept_set3 _ _ _ _ (by omega))).mono (by omega) (Kept.refl _ _)⟩⟩
       clear h12 h13 h14 hE9
       have r02 : Blk ((((w9).setCell ⟨w.heap.size + 1 + 1 + 1, 0, none⟩ (.bool false)).setCell ⟨w.heap.size + 1 + 1 + 1, 1, none⟩ (.slice a13 n13 c13)).setCell ⟨w.heap.size + 1 + 1 + 1, 2, none⟩ (.slice a14 n14 c14)) _ _ #[.bool false, .slice a13 n13 c13, .slice a14 n14 c14] := (((r0).set 0 (.bool false)).set 1 (.slice a13 n13 c13)).set 2 (.slice a14 n14 c14)
       have hr00 := r02.cell (i := 0) rfl
       have hr01 := r02.cell (i := 1) rfl
       have hr02 := r02.cell (i := 2) rfl
       go_wp2_with fail
       exact bodyPost_ret (v := .tuple #[.agg #[.bool false, .slice a13 n13 c13, .slice a14 n14 c14], .int .i64 0]) (by simp [results, Tryz.results53, go_sem, hr00, hr01, hr02]) rfl HF.out
   ·obtain rfl : s = 2 := by rw [HSS.out, if_neg (by decide), if_neg hq0, if_pos hnn]
    have hne : ((n2 : Int) != (n2' : Int)) = true := by simp; omega
    clear hq0 hnn h6 h7
    have HF : Hid (RVAns w 2 qs (.returned (.tuple #[.agg #[.bool false, .slice none 0 0, .slice none 0 0], .int .i64 2])) (((W3.setCell ⟨w.heap.size + 1 + 1 + 1, 0, none⟩ (.bool false)).setCell ⟨w.heap.size + 1 + 1 + 1, 1, none⟩ (.slice none 0 0)).setCell ⟨w.heap.size + 1 + 1 + 1, 2, none⟩ (.slice none 0 0))) := Lib.hid ⟨false, none, 0, 0, none, 0, 0, rfl, ext_set3 hE0 _ _ _ (by omega), fun _ => ⟨rfl, rfl, rfl, rfl, rfl, rfl, rfl⟩, fun h => absurd h (by decide)⟩
    clear hE0 h h' hq
    have r02 : Blk ((((W3).setCell ⟨w.heap.size + 1 + 1 + 1, 0, none⟩ (.bool false)).setCell ⟨w.heap.size + 1 + 1 + 1, 1, none⟩ (.slice none 0 0)).setCell ⟨w.heap.size + 1 + 1 + 1, 2, none⟩ (.slice none 0 0)) _ _ #[.bool false, .slice none 0 0, .slice none 0 0] := (((r0).set 0 (.bool false)).set 1 (.slice none 0 0)).set 2 (.slice none 0 0)
    have hr00 := r02.cell (i := 0) rfl
    have hr01 := r02.cell (i := 1) rfl
    have hr02 := r02.cell (i := 2) rfl
    go_wp2_with fail
    exact bodyPost_ret (v := .tuple #[.agg #[.bool false, .slice none 0 0, .slice none 0 0], .int .i64 2]) (by simp [results, Tryz.results53, go_sem, hr00, hr01, hr02]) rfl HF.out
 ·have hne : (s0 != 0) = true := by simpa using h0
  obtain rfl : s = s0 := by rw [HSS.out, if_pos h0]
  have HN0 := Lib.hid h0
  clear h0
  have HF : Hid (RVAns w s qs (.returned (.tuple #[.agg #[.bool false, .slice none 0 0, .slice none 0 0], .int .i64 s])) (((w1.setCell ⟨w.heap.size + 1 + 1 + 1, 0, none⟩ (.bool false)).setCell ⟨w.heap.size + 1 + 1 + 1, 1, none⟩ (.slice none 0 0)).setCell ⟨w.heap.size + 1 + 1 + 1, 2, none⟩ (.slice none 0 0))) := Lib.hid ⟨false, none, 0, 0, none, 0, 0, rfl, ext_set3 hE0 _ _ _ (by omega), fun _ => ⟨rfl, rfl, rfl, rfl, rfl, rfl, rfl⟩, fun h => absurd h HN0.out⟩
  clear hE0 h h' hq
  have r02 : Blk ((((w1).setCell ⟨w.heap.size + 1 + 1 + 1, 0, none⟩ (.bool false)).setCell ⟨w.heap.size + 1 + 1 + 1, 1, none⟩ (.slice none 0 0)).setCell ⟨w.heap.size + 1 + 1 + 1, 2, none⟩ (.slice none 0 0)) _ _ #[.bool false, .slice none 0 0, .slice none 0 0] := (((r0).set 0 (.bool false)).set 1 (.slice none 0 0)).set 2 (.slice none 0 0)
  have hr00 := r02.cell (i := 0) rfl
  have hr01 := r02.cell (i := 1) rfl
  have hr02 := r02.cell (i := 2) rfl
  go_wp2_with fail
  exact bodyPost_ret (v := .tuple #[.agg #[.bool false, .slice none 0 0, .slice none 0 0], .int .i64 s]) (by simp [results, Tryz.results53, go_sem, hr00, hr01, hr02]) rfl HF.out
end Go.Proofs.YtbhenelehhiakaaGreat
