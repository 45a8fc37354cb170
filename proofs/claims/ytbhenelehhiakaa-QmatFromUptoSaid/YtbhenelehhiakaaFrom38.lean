/-
  References and small functions of the law QmatFrom: SameVec, Same of fractions, Vec.
-/
import Derived.Test.YtbhenelehhiakaaFrom36
import Derived.Test.YtbhenelehhiakaaFrom37
set_option linter.unusedVariables false
set_option linter.unusedSimpArgs false
namespace Go.Proofs.Ytbhenelehhiakaa
open Go.RowKit

set_option maxHeartbeats 2000000 in
theorem sameVec_any (w : World) (b b2 : Bool) (a a2 a3 a4 : Option Addr) (n c n2 c2 n3 c3 n4 c4 : Nat) (l l2 : Nt) (xs ys : List It) (h : NatS 0 w a n c l) (h2 : NatS 0 w a2 n2 c2 l2) (h3 : Sl rInt 0 w a3 n3 c3 xs) (h4 : Sl rInt 0 w a4 n4 c4 ys) (sb : Bool) (hsb : Hid (decide ((b, l) = (b2, l2) ∧ xs = ys) = sb)) :
    Calls Try.prog 33 #[.agg #[.bool b, .slice a n c, .slice a3 n3 c3], .agg #[.bool b2, .slice a2 n2 c2, .slice a4 n4 c4]] w fun e w' => e = .returned (.bool sb) ∧ Ext w w' := by
  by_cases hden : (b, l) = (b2, l2)
  · have HS : Hid (decide ((b, l) = (b2, l2)) = true) := Lib.hid (decide_eq_true hden)
    have HSB : Hid (decide (xs = ys) = sb) := Lib.hid (by rw [← hsb.out]; simp [hden])
    clear hden hsb
    go_enter Try.func33, Try.ntmps33
    go_wp2_with fail
    have p0 := Blk.new w 69 #[.bool b, .slice a n c, .slice a3 n3 c3]
    have p1 := Blk.new (w.alloc (Obj.cells #[.bool b, .slice a n c, .slice a3 n3 c3] 69)) 69 #[.bool b2, .slice a2 n2 c2, .slice a4 n4 c4]
    replace p0 := p0.ext ((Below.refl _ _).alloc (Nat.le_refl _) (Obj.cells #[.bool b2, .slice a2 n2 c2, .slice a4 n4 c4] 69))
    have hEW : Ext w ((w.alloc (Obj.cells #[.bool b, .slice a n c, .slice a3 n3 c3] 69)).alloc (Obj.cells #[.bool b2, .slice a2 n2 c2, .slice a4 n4 c4] 69)) := (((Below.refl _ w).alloc (by simp) _).alloc (by simp) _)
    generalize hgW : (w.alloc (Obj.cells #[.bool b, .slice a n c, .slice a3 n3 c3] 69)).alloc (Obj.cells #[.bool b2, .slice a2 n2 c2, .slice a4 n4 c4] 69) = W at *
    clear hgW
    simp only [World.size_alloc] at p1
    have p0_ne_p1 : ¬ w.heap.size = w.heap.size + 1 := by omega
    have p1_ne_p0 : ¬ w.heap.size + 1 = w.heap.size := by omega
    replace p0_0 := p0.cell (i := 0) rfl
    replace p0_1 := p0.cell (i := 1) rfl
    replace p0_2 := p0.cell (i := 2) rfl
    replace p1_0 := p1.cell (i := 0) rfl
    replace p1_1 := p1.cell (i := 1) rfl
    replace p1_2 := p1.cell (i := 2) rfl
    (with_reducible refine (r3Same_b b b2 0 W a a2 n c n2 c2 l l2 (h.ext (Nat.le_refl _) hEW) (h2.ext (Nat.le_refl _) hEW) true HS).mono ?_)
    rintro e w1 ⟨rfl, hE1⟩
    replace p0 := p0.ext hE1; replace p0_0 := p0.cell (i := 0) rfl; replace p0_1 := p0.cell (i := 1) rfl; replace p0_2 := p0.cell (i := 2) rfl; replace p1 := p1.ext hE1; replace p1_0 := p1.cell (i := 0) rfl; replace p1_1 := p1.cell (i := 1) rfl; replace p1_2 := p1.cell (i := 2) rfl
    have hE0 := Ext.trans hEW hE1
    have h3 := h3.ext (Nat.le_refl _) hE0
    have h4 := h4.ext (Nat.le_refl _) hE0
    clear h h2 hEW hE1
    go_wp2_with fail
    (with_reducible refine (r3SameAll_b w1 a3 a4 n3 c3 n4 c4 xs ys h3 h4 sb HSB).mono ?_)
    rintro e w2 ⟨rfl, hE2⟩
    have HE := Lib.hid (Ext.trans hE0 hE2)
    clear h3 h4 hE0 hE2
    go_wp2_with fail
    go_ret
    exact ⟨rfl, HE.out⟩
  · have HS : Hid (decide ((b, l) = (b2, l2)) = false) := Lib.hid (decide_eq_false hden)
    have HSB : Hid (sb = false) := Lib.hid (by rw [← hsb.out]; exact decide_eq_false fun h => hden h.1)
    clear hden hsb
    go_enter Try.func33, Try.ntmps33
    go_wp2_with fail
    have p0 := Blk.new w 69 #[.bool b, .slice a n c, .slice a3 n3 c3]
    have p1 := Blk.new (w.alloc (Obj.cells #[.bool b, .slice a n c, .slice a3 n3 c3] 69)) 69 #[.bool b2, .slice a2 n2 c2, .slice a4 n4 c4]
    replace p0 := p0.ext ((Below.refl _ _).alloc (Nat.le_refl _) (Obj.cells #[.bool b2, .slice a2 n2 c2, .slice a4 n4 c4] 69))
    have hEW : Ext w ((w.alloc (Obj.cells #[.bool b, .slice a n c, .slice a3 n3 c3] 69)).alloc (Obj.cells #[.bool b2, .slice a2 n2 c2, .slice a4 n4 c4] 69)) := (((Below.refl _ w).alloc (by simp) _).alloc (by simp) _)
    generalize hgW : (w.alloc (Obj.cells #[.bool b, .slice a n c, .slice a3 n3 c3] 69)).alloc (Obj.cells #[.bool b2, .slice a2 n2 c2, .slice a4 n4 c4] 69) = W at *
    clear hgW
    simp only [World.size_alloc] at p1
    have p0_ne_p1 : ¬ w.heap.size = w.heap.size + 1 := by omega
    have p1_ne_p0 : ¬ w.heap.size + 1 = w.heap.size := by omega
    replace p0_0 := p0.cell (i := 0) rfl
    replace p0_1 := p0.cell (i := 1) rfl
    replace p0_2 := p0.cell (i := 2) rfl
    replace p1_0 := p1.cell (i := 0) rfl
    replace p1_1 := p1.cell (i := 1) rfl
    replace p1_2 := p1.cell (i := 2) rfl
    (with_reducible refine (r3Same_b b b2 0 W a a2 n c n2 c2 l l2 (h.ext (Nat.le_refl _) hEW) (h2.ext (Nat.le_refl _) hEW) false HS).mono ?_)
    rintro e w1 ⟨rfl, hE1⟩
    have HE := Lib.hid (Ext.trans hEW hE1)
    clear h h2 h3 h4 hEW hE1
    go_wp2_with fail
    go_ret
    exact ⟨by rw [HSB.out]; rfl, HE.out⟩

set_option maxHeartbeats 2000000 in
theorem r5Same_any (w : World) (b b2 b3 b4 : Bool) (a a2 a3 a4 : Option Addr) (n c n2 c2 n3 c3 n4 c4 : Nat) (l l2 l3 l4 : Nt) (h : NatS 0 w a n c l) (h2 : NatS 0 w a2 n2 c2 l2) (h3 : NatS 0 w a3 n3 c3 l3) (h4 : NatS 0 w a4 n4 c4 l4) (sb : Bool) (hsb : Hid (decide ((b, l) = (b3, l3) ∧ (b2, l2) = (b4, l4)) = sb)) :
    Calls Try.prog 30 #[.agg #[.bool b, .slice a n c, .bool b2, .slice a2 n2 c2], .agg #[.bool b3, .slice a3 n3 c3, .bool b4, .slice a4 n4 c4]] w fun e w' => e = .returned (.bool sb) ∧ Ext w w' := by
  by_cases hden : (b, l) = (b3, l3)
  · have HS : Hid (decide ((b, l) = (b3, l3)) = true) := Lib.hid (decide_eq_true hden)
    have HSB : Hid (decide ((b2, l2) = (b4, l4)) = sb) := Lib.hid (by rw [← hsb.out]; simp [hden])
    clear hden hsb
    go_enter Try.func30, Try.ntmps30
    go_wp2_with fail
    have p0 := Blk.new w 62 #[.bool b, .slice a n c, .bool b2, .slice a2 n2 c2]
    have p1 := Blk.new (w.alloc (Obj.cells #[.bool b, .slice a n c, .bool b2, .slice a2 n2 c2] 62)) 62 #[.bool b3, .slice a3 n3 c3, .bool b4, .slice a4 n4 c4]
    replace p0 := p0.ext ((Below.refl _ _).alloc (Nat.le_refl _) (Obj.cells #[.bool b3, .slice a3 n3 c3, .bool b4, .slice a4 n4 c4] 62))
    have hEW : Ext w ((w.alloc (Obj.cells #[.bool b, .slice a n c, .bool b2, .slice a2 n2 c2] 62)).alloc (Obj.cells #[.bool b3, .slice a3 n3 c3, .bool b4, .slice a4 n4 c4] 62)) := (((Below.refl _ w).alloc (by simp) _).alloc (by simp) _)
    generalize hgW : (w.alloc (Obj.cells #[.bool b, .slice a n c, .bool b2, .slice a2 n2 c2] 62)).alloc (Obj.cells #[.bool b3, .slice a3 n3 c3, .bool b4, .slice a4 n4 c4] 62) = W at *
    clear hgW
    simp only [World.size_alloc] at p1
    have p0_ne_p1 : ¬ w.heap.size = w.heap.size + 1 := by omega
    have p1_ne_p0 : ¬ w.heap.size + 1 = w.heap.size := by omega
    replace p0_0 := p0.cell (i := 0) rfl
    replace p0_1 := p0.cell (i := 1) rfl
    replace p0_2 := p0.cell (i := 2) rfl
    replace p0_3 := p0.cell (i := 3) rfl
    replace p1_0 := p1.cell (i := 0) rfl
    replace p1_1 := p1.cell (i := 1) rfl
    replace p1_2 := p1.cell (i := 2) rfl
    replace p1_3 := p1.cell (i := 3) rfl
    (with_reducible refine (r3Same_b b b3 0 W a a3 n c n3 c3 l l3 (h.ext (Nat.le_refl _) hEW) (h3.ext (Nat.le_refl _) hEW) true HS).mono ?_)
    rintro e w1 ⟨rfl, hE1⟩
    replace p0 := p0.ext hE1; replace p0_0 := p0.cell (i := 0) rfl; replace p0_1 := p0.cell (i := 1) rfl; replace p0_2 := p0.cell (i := 2) rfl; replace p0_3 := p0.cell (i := 3) rfl; replace p1 := p1.ext hE1; replace p1_0 := p1.cell (i := 0) rfl; replace p1_1 := p1.cell (i := 1) rfl; replace p1_2 := p1.cell (i := 2) rfl; replace p1_3 := p1.cell (i := 3) rfl
    have hE0 := Ext.trans hEW hE1
    have h2 := h2.ext (Nat.le_refl _) hE0
    have h4 := h4.ext (Nat.le_refl _) hE0
    clear h h3 hEW hE1
    go_wp2_with fail
    (with_reducible refine (r3Same_b b2 b4 0 w1 a2 a4 n2 c2 n4 c4 l2 l4 h2 h4 sb HSB).mono ?_)
    rintro e w2 ⟨rfl, hE2⟩
    have HE := Lib.hid (Ext.trans hE0 hE2)
    clear h2 h4 hE0 hE2
    go_wp2_with fail
    go_ret
    exact ⟨rfl, HE.out⟩
  · have HS : Hid (decide ((b, l) = (b3, l3)) = false) := Lib.hid (decide_eq_false hden)
    have HSB : Hid (sb = false) := Lib.hid (by rw [← hsb.out]; exact decide_eq_false fun h => hden h.1)
    clear hden hsb
    go_enter Try.func30, Try.ntmps30
    go_wp2_with fail
    have p0 := Blk.new w 62 #[.bool b, .slice a n c, .bool b2, .slice a2 n2 c2]
    have p1 := Blk.new (w.alloc (Obj.cells #[.bool b, .slice a n c, .bool b2, .slice a2 n2 c2] 62)) 62 #[.bool b3, .slice a3 n3 c3, .bool b4, .slice a4 n4 c4]
    replace p0 := p0.ext ((Below.refl _ _).alloc (Nat.le_refl _) (Obj.cells #[.bool b3, .slice a3 n3 c3, .bool b4, .slice a4 n4 c4] 62))
    have hEW : Ext w ((w.alloc (Obj.cells #[.bool b, .slice a n c, .bool b2, .slice a2 n2 c2] 62)).alloc (Obj.cells #[.bool b3, .slice a3 n3 c3, .bool b4, .slice a4 n4 c4] 62)) := (((Below.refl _ w).alloc (by simp) _).alloc (by simp) _)
    generalize hgW : (w.alloc (Obj.cells #[.bool b, .slice a n c, .bool b2, .slice a2 n2 c2] 62)).alloc (Obj.cells #[.bool b3, .slice a3 n3 c3, .bool b4, .slice a4 n4 c4] 62) = W at *
    clear hgW
    simp only [World.size_alloc] at p1
    have p0_ne_p1 : ¬ w.heap.size = w.heap.size + 1 := by omega
    have p1_ne_p0 : ¬ w.heap.size + 1 = w.heap.size := by omega
    replace p0_0 := p0.cell (i := 0) rfl
    replace p0_1 := p0.cell (i := 1) rfl
    replace p0_2 := p0.cell (i := 2) rfl
    replace p0_3 := p0.cell (i := 3) rfl
    replace p1_0 := p1.cell (i := 0) rfl
    replace p1_1 := p1.cell (i := 1) rfl
    replace p1_2 := p1.cell (i := 2) rfl
    replace p1_3 := p1.cell (i := 3) rfl
    (with_reducible refine (r3Same_b b b3 0 W a a3 n c n3 c3 l l3 (h.ext (Nat.le_refl _) hEW) (h3.ext (Nat.le_refl _) hEW) false HS).mono ?_)
    rintro e w1 ⟨rfl, hE1⟩
    have HE := Lib.hid (Ext.trans hEW hE1)
    clear h h2 h3 h4 hEW hE1
    go_wp2_with fail
    go_ret
    exact ⟨by rw [HSB.out]; rfl, HE.out⟩

/-- a vector of the references, as raw data -/
def RVRef (w : World) (qs : List Rat) (e : Ending) (w' : World) : Prop := ∃ a n c a2 n2 c2, e = .returned (.agg #[.bool false, .slice a n c, .slice a2 n2 c2]) ∧ NatS 0 w' a n c (limbs (comDen qs)) ∧ Sl rInt 0 w' a2 n2 c2 ((qs.map (comNum (comDen qs))).map rawI) ∧ Ext w w'
set_option maxHeartbeats 2000000 in
theorem r11Vec_any (K KL : Nat) (hK : 2 * K + KL + 2 ≤ 549755813888) (w : World) (a : Option Addr) (n c : Nat) (qs : List Rat) (h : Sl (rRatK K) 0 w a n c qs) (hL : nl (comDen qs) ≤ KL) (hn40 : n ≤ 1099511627776) :
    Calls Try.prog 34 #[.slice a n c] w (RVRef w qs) := by
  obtain ⟨D, hD⟩ : ∃ D, comDen qs = D := ⟨_, rfl⟩
  have HD := Lib.hid hD
  unfold RVRef
  rw [hD]
  clear hD
  go_enter Try.func34, Try.ntmps34
  go_wp2_with fail
  have r := Blk.new w 69 #[.bool false, .slice none 0 0, .slice none 0 0]
  have hEW : Ext w (w.alloc (Obj.cells #[.bool false, .slice none 0 0, .slice none 0 0] 69)) := ((Below.refl _ w).alloc (by simp) _)
  generalize hgW : w.alloc (Obj.cells #[.bool false, .slice none 0 0, .slice none 0 0] 69) = W at *
  clear hgW
  replace r_0 := r.cell (i := 0) rfl
  replace r_1 := r.cell (i := 1) rfl
  replace r_2 := r.cell (i := 2) rfl
  replace r_f0 := r.free 0
  replace r_f1 := r.free 1
  replace r_f2 := r.free 2
  replace r_lt := r.lt
  have hW : w.heap.size < W.heap.size := r_lt
  (with_reducible refine (r5Common_any K KL hK W a n c qs (h.ext (Nat.le_refl _) hEW) hL D HD hn40).mono ?_)
  rintro e w1 ⟨a5, n5, c5, a6, n6, c6, rfl, h5, h6, hE1, _⟩
  replace r := r.ext hE1; replace r_0 := r.cell (i := 0) rfl; replace r_1 := r.cell (i := 1) rfl; replace r_2 := r.cell (i := 2) rfl; replace r_f0 := r.free 0; replace r_f1 := r.free 1; replace r_f2 := r.free 2; replace r_lt := r.lt
  go_upto_region 2 with (fail)
  have d := Blk.new w1 27 #[.bool false, .slice a5 n5 c5]
  have hEW3 : Ext w1 (w1.alloc (Obj.cells #[.bool false, .slice a5 n5 c5] 27)) := ((Below.refl _ w1).alloc (by simp) _)
  generalize hgW3 : w1.alloc (Obj.cells #[.bool false, .slice a5 n5 c5] 27) = W3 at *
  clear hgW3
  replace d_0 := d.cell (i := 0) rfl
  replace d_1 := d.cell (i := 1) rfl
  replace r := r.ext hEW3; replace r_0 := r.cell (i := 0) rfl; replace r_1 := r.cell (i := 1) rfl; replace r_2 := r.cell (i := 2) rfl; replace r_f0 := r.free 0; replace r_f1 := r.free 1; replace r_f2 := r.free 2; replace r_lt := r.lt
  have hE3 := Ext.trans hEW (Ext.trans hE1 hEW3)
  have h5 := (h5.ext (Nat.le_refl _) hEW3).mono (Nat.le_refl _) (kept_set3 W3 (.bool false) (.slice a5 n5 c5) (.slice a6 n6 c6) hW)
  have h6 := (h6.ext (Nat.le_refl _) hEW3).mono (Nat.le_refl _) (kept_set3 W3 (.bool false) (.slice a5 n5 c5) (.slice a6 n6 c6) hW)
  have HF : Hid (∃ a n c a2 n2 c2, Ending.returned (.agg #[.bool false, .slice a5 n5 c5, .slice a6 n6 c6]) = .returned (.agg #[.bool false, .slice a n c, .slice a2 n2 c2]) ∧ NatS 0 (((W3.setCell ⟨w.heap.size, 0, none⟩ (.bool false)).setCell ⟨w.heap.size, 1, none⟩ (.slice a5 n5 c5)).setCell ⟨w.heap.size, 2, none⟩ (.slice a6 n6 c6)) a n c (limbs D) ∧ Sl rInt 0 (((W3.setCell ⟨w.heap.size, 0, none⟩ (.bool false)).setCell ⟨w.heap.size, 1, none⟩ (.slice a5 n5 c5)).setCell ⟨w.heap.size, 2, none⟩ (.slice a6 n6 c6)) a2 n2 c2 ((qs.map (comNum D)).map rawI) ∧ Ext w (((W3.setCell ⟨w.heap.size, 0, none⟩ (.bool false)).setCell ⟨w.heap.size, 1, none⟩ (.slice a5 n5 c5)).setCell ⟨w.heap.size, 2, none⟩ (.slice a6 n6 c6))) :=
    Lib.hid ⟨a5, n5, c5, a6, n6, c6, rfl, Sl.zero h5, rawInts h6, ext_set3 hE3 _ _ _ (Nat.le_refl _)⟩
  clear h h5 h6 hE3 hE1 hEW3 hEW
  have r2 : Blk ((((W3).setCell ⟨w.heap.size, 0, none⟩ (.bool false)).setCell ⟨w.heap.size, 1, none⟩ (.slice a5 n5 c5)).setCell ⟨w.heap.size, 2, none⟩ (.slice a6 n6 c6)) _ _ #[.bool false, .slice a5 n5 c5, .slice a6 n6 c6] := (((r).set 0 (.bool false)).set 1 (.slice a5 n5 c5)).set 2 (.slice a6 n6 c6)
  have hr0 := r2.cell (i := 0) rfl
  have hr1 := r2.cell (i := 1) rfl
  have hr2 := r2.cell (i := 2) rfl
  go_wp2_with fail
  exact bodyPost_ret (v := .agg #[.bool false, .slice a5 n5 c5, .slice a6 n6 c6]) (by simp [results, Try.results34, go_sem, hr0, hr1, hr2]) rfl HF.out

end Go.Proofs.Ytbhenelehhiakaa
/-
  The law QmatFrom: plain laws of its codes; rows of fractions.
-/
namespace Go.Proofs.Ytbhenelehhiakaa
open Go.RowKit

abbrev Frs := List (Int × Int)
/-- the codes of the two loops -/
def codeA (l : List Frs) : Int := if l.all (fun x => allMay x) then 0 else 6
theorem codeA_snoc (l : List Frs) (x : Frs) : codeA (l ++ [x]) = if allMay x then codeA l else 6 := by
  unfold codeA
  rw [List.all_append]
  cases h : allMay x <;> simp [h]
theorem codeA_flat (l : List Frs) : codeA l = if allMay l.flatten then 0 else 6 := by
  unfold codeA allMay
  rw [List.all_flatten]
def codeB (c : Int) (m : Nat) (l : List Frs) : Int := if c = 0 ∧ (l.all fun x => decide (x.length = m)) = false then 2 else c
theorem codeB_snoc (c : Int) (m : Nat) (l : List Frs) (x : Frs) : codeB c m (l ++ [x]) = if codeB c m l = 0 then (if x.length = m then 0 else 2) else codeB c m l := by
  unfold codeB
  rw [List.all_append]
  by_cases hc : c = 0
  · subst hc
    cases h : l.all (fun x => decide (x.length = m)) <;> by_cases hx : x.length = m <;> simp [hx]
  · simp [hc]
theorem Sl.fracRows {K B : Nat} {w : World} {a : Option Addr} {n c : Nat} {qss : List Frs} (h : Sl (rFr K).slice B w a n c qss) (hm : allMay qss.flatten = true) : Sl (rRatK K).slice B w a n c (qss.map fun qs => qs.map frR) :=
  ⟨by rw [List.length_map]; exact h.len, h.cap, h.most, h.nil, fun i hi => by
    have hi' : i < qss.length := by simpa using hi
    obtain ⟨b, o, cs, ha, ⟨a1, n1, c1, rfl, h1⟩, hc⟩ := h.at_ i hi'
    refine ⟨b, o, _, ha, ⟨a1, n1, c1, rfl, ?_⟩, hc⟩
    rw [List.getElem_map]
    exact h1.fracs fun q hq => allMay_ne hm q (List.mem_flatten.2 ⟨_, List.getElem_mem _, hq⟩)⟩
theorem Sl.cellOne {α : Type} {r : Rd α} {B : Nat} {w : World} {a : Option Addr} {n c : Nat} {xs : List (List α)} (h : Sl r.slice B w a n c xs) {i : Nat} (hi : i < n) : ∃ b o a1 n1 c1 x, a = some ⟨b, o, none⟩ ∧ b < w.heap.size ∧ xs[i]? = some x ∧ w.cell? ⟨b, o + i, none⟩ = some (.slice a1 n1 c1) ∧ Sl r B w a1 n1 c1 x := by
  have hl : i < xs.length := by rw [h.len]; exact hi
  obtain ⟨b, o, cs, ha, ⟨a1, n1, c1, rfl, h1⟩, hc⟩ := h.at_ i hl
  refine ⟨b, o, a1, n1, c1, _, ha, cel_lt (hc 0 (by simp)), List.getElem?_eq_getElem hl, ?_, h1⟩
  simpa [Rd.slice] using (hc 0 (by simp)).cell
theorem evenB_map {α β : Type} (f : List α → List β) (hf : ∀ xs, (f xs).length = xs.length) (xss : List (List α)) : evenB (xss.map f) = evenB xss := by
  unfold evenB
  rw [List.all_map, colsOf_map f hf]
  congr 1
  funext xs
  simp only [Function.comp, hf]
/-- At of a normal matrix -/
def AtPost (w : World) (out : Prop) (z d : Int) (e : Ending) (w' : World) : Prop := ∃ b1 a1 n1 c1 b2 a2 n2 c2 f, e = .returned (.tuple #[.agg #[.bool b1, .slice a1 n1 c1, .bool b2, .slice a2 n2 c2], .int .i64 f]) ∧ Ext w w' ∧
  ((out ∧ f = 1 ∧ b1 = false ∧ a1 = none ∧ n1 = 0 ∧ c1 = 0 ∧ b2 = false ∧ a2 = none ∧ n2 = 0 ∧ c2 = 0) ∨
   (¬ out ∧ f = 0 ∧ b1 = decide ((ratv z d).num < 0) ∧ b2 = false ∧ NatS 0 w' a1 n1 c1 (limbs (ratv z d).num.natAbs) ∧ NatS 0 w' a2 n2 c2 (limbs (ratv z d).den)))
theorem at_post (K : Nat) (hK : K ≤ 8796093022208) (w : World) (b : Bool) (a a2 : Option Addr) (n c n2 c2 : Nat) (d : Int) (zss : List (List Int)) (h : MatS K w b a n c a2 n2 c2 d zss) (hs : Hid (checkE d zss = 0)) (hd : 0 < d) (hn2 : n2 ≤ 1099511627776) (hrow : Hid (∀ zs ∈ zss, zs.length ≤ 1099511627776)) (m : Nat) (hm : Hid (colsOf zss = m)) (i k : Int) (z : Int) (hz : Hid (∀ (_ : 0 ≤ i) (_ : i < n2) (_ : 0 ≤ k) (_ : k < m), ((zss[i.toNat]?).getD [])[k.toNat]? = some z)) :
    Calls Try.prog 29 #[.agg #[.bool b, .slice a n c, .slice a2 n2 c2], .int .i64 i, .int .i64 k] w (AtPost w (i < 0 ∨ (n2 : Int) ≤ i ∨ k < 0 ∨ (m : Int) ≤ k) z d) := by
  by_cases ho : i < 0 ∨ (n2 : Int) ≤ i ∨ k < 0 ∨ (m : Int) ≤ k
  · refine (at_err K hK w b a a2 n c n2 c2 d zss h hs hn2 hrow m hm i k ho).mono ?_
    rintro e w' ⟨rfl, hE⟩
    exact ⟨_, _, _, _, _, _, _, _, _, rfl, hE, .inl ⟨ho, rfl, rfl, rfl, rfl, rfl, rfl, rfl, rfl, rfl⟩⟩
  · obtain ⟨i', rfl⟩ := Int.eq_ofNat_of_zero_le (show 0 ≤ i by omega)
    obtain ⟨k', rfl⟩ := Int.eq_ofNat_of_zero_le (show 0 ≤ k by omega)
    have hl : i' < zss.length := by obtain ⟨_, _, _, _, h4⟩ := h; rw [h4.len]; omega
    have hz2 := hz.out (by omega) (by omega) (by omega) (by omega)
    simp only [Int.toNat_natCast, List.getElem?_eq_getElem hl, Option.getD_some] at hz2
    refine (at_any K hK w b a a2 n c n2 c2 d zss h hs hd hn2 hrow m hm i' k' (by omega) (by omega) zss[i'] (Lib.hid (List.getElem?_eq_getElem hl)) z (Lib.hid hz2) _ (Lib.hid rfl)).mono ?_
    rintro e w' ⟨a3, n3, c3, a4, n4, c4, rfl, h3, h4, hE⟩
    exact ⟨_, _, _, _, _, _, _, _, _, rfl, hE, .inr ⟨ho, rfl, rfl, rfl, Sl.zero h3, Sl.zero h4⟩⟩
theorem comDen_sub {qs ys : List Rat} (h : ∀ q ∈ qs, q ∈ ys) : comDen qs ∣ comDen ys := comDen_dvd qs _ fun q hq => den_dvd_comDen ys q (h q hq)
end Go.Proofs.Ytbhenelehhiakaa
/-
  The law QmatFrom: the walk.
-/
namespace Go.Proofs.Ytbhenelehhiakaa
open Go.RowKit

set_option maxRecDepth 100000 in
set_option maxHeartbeats 40000000 in
theorem qfrom_walk (K KL : Nat) (hK : 4 * K + 2 * KL + 4 ≤ 549755813888) (w : World) (a : Option Addr) (n c : Nat) (qss : List Frs) (h : Sl (rFr K).slice 0 w a n c qss) (hn : n ≤ 1048576) (hrow : Hid (∀ qs ∈ qss, qs.length ≤ 1048576)) (hN : qss.flatten.length ≤ 1048576) (hL : Hid (nl (comDen (qss.flatten.map frR)) ≤ KL)) (i k : Int) :
    Calls Try.prog 5 #[.slice a n c, .int .i64 i, .int .i64 k] w (Yes w) := by
  have HS := Lib.hid h
  have hmost := h.most
  have hcap := h.cap
  have hlen := Lib.hid h.len
  have HN := Lib.hid hN
  obtain ⟨D, hD⟩ : ∃ D, comDen (qss.flatten.map frR) = D := ⟨_, rfl⟩
  obtain ⟨Z, hZ⟩ : ∃ Z, qss.map (fun qs => (qs.map frR).map (comNum D)) = Z := ⟨_, rfl⟩
  obtain ⟨s, hs⟩ : ∃ s, allMay qss.flatten = s := ⟨_, rfl⟩
  obtain ⟨ev, hev⟩ : ∃ s, evenB qss = s := ⟨_, rfl⟩
  have HD := Lib.hid hD
  have HZ := Lib.hid hZ
  have HSS := Lib.hid hs
  have HEV := Lib.hid hev
  clear h hD hZ hs hev hN
  go_enter Try.func5, Try.ntmps5
  go_wp2_with fail
  go_loopg [7, 22] n (fun q vc vi wr => ∃ (j : Nat) (z : Int), j ≤ n ∧ q = n - j ∧ vi = .int .i64 (j : Int) ∧ vc = .int .i64 z ∧ Hid (codeA (qss.take j) = z) ∧ Hid (Ext w wr))
  case atStart => exact ⟨0, 0, Nat.zero_le _, by omega, rfl, rfl, Lib.hid rfl, Lib.hid (Ext.refl _)⟩
  case round =>
    obtain ⟨j, z, hj, hq, rfl, rfl, HZ1, HE⟩ := hrel
    by_cases hin : j < n
    · obtain ⟨b5, o5, a5, n5, c5, x, rfl, hb5, hx, hc5, hX⟩ := (HS.out.ext (Nat.le_refl _) HE.out).cellOne hin
      obtain ⟨hil, hxe⟩ := List.getElem?_eq_some_iff.1 hx
      have HTK : Hid (codeA (qss.take (j + 1)) = if allMay x then z else 6) := Lib.hid (by rw [List.take_succ_eq_append_getElem hil, hxe, codeA_snoc, HZ1.out])
      have HX := Lib.hid hX
      obtain ⟨sx, hsx⟩ : ∃ s, allMay x = s := ⟨_, rfl⟩
      rw [hsx] at HTK
      have HSX := Lib.hid hsx
      clear hil hxe hx hX hsx
      go_wp2_with fail
      (with_reducible refine (r5AllMay_any K wr a5 n5 c5 x HX.out sx HSX).mono ?_)
      rintro e w4 ⟨rfl, hE4⟩
      have HE4 := Lib.hid (Ext.trans HE.out hE4)
      clear hE4 hc5
      cases sx with
      | true =>
        go_wp2_with fail
        go_roundg (n - (j + 1))
        case measure => omega
        case rel => exact ⟨j + 1, z, by omega, rfl, by go_num, rfl, HTK, HE4⟩
      | false =>
        go_wp2_with fail
        go_roundg (n - (j + 1))
        case measure => omega
        case rel => exact ⟨j + 1, 6, by omega, rfl, by go_num, rfl, HTK, HE4⟩
    · obtain rfl : j = n := by omega
      obtain ⟨wz, rfl⟩ : ∃ wz : World, wz = wr := ⟨_, rfl⟩
      have HA : Hid (z = if s then 0 else 6) := Lib.hid (by rw [← HZ1.out, List.take_of_length_le (by rw [hlen.out]; exact Nat.le_refl _), codeA_flat, HSS.out])
      clear HZ1
      go_wp2_with fail
      go_loopg [7, 32] j (fun q vc vi wr => ∃ (i2 : Nat) (z2 : Int), i2 ≤ j ∧ q = j - i2 ∧ vi = .int .i64 (i2 : Int) ∧ vc = .int .i64 z2 ∧ Hid (codeB z (colsOf qss) (qss.take i2) = z2) ∧ wz = wr)
      case atStart => exact ⟨0, z, Nat.zero_le _, by omega, rfl, rfl, Lib.hid (by unfold codeB; simp), rfl⟩
      case round =>
        obtain ⟨i2, z2, hi2, hq2, rfl, rfl, HZ2, rfl⟩ := hrel
        by_cases hin2 : i2 < j
        · obtain ⟨b5, o5, a5, n5, c5, x, rfl, hb5, hx, hc5, hX⟩ := (HS.out.ext (Nat.le_refl _) HE.out).cellOne hin2
          obtain ⟨b6, o6, a6, n6, c6, y, hba, hb6, hy, hc6, hY⟩ := (HS.out.ext (Nat.le_refl _) HE.out).cellOne (show 0 < j by omega)
          cases hba
          rw [Nat.add_zero] at hc6
          have hcol : colsOf qss = n6 := by
            rw [← hY.len]
            cases qss with
            | nil => simp at hy
            | cons z zs => simp at hy; subst hy; rfl
          obtain ⟨hil, hxe⟩ := List.getElem?_eq_some_iff.1 hx
          have HTK : Hid (codeB z (colsOf qss) (qss.take (i2 + 1)) = if z2 = 0 then (if n5 = n6 then 0 else 2) else z2) := Lib.hid (by rw [List.take_succ_eq_append_getElem hil, hxe, codeB_snoc, HZ2.out, hcol, hX.len])
          have h0j : 0 < j := by omega
          have h0j2 : (0 : Int) < (j : Int) := by omega
          clear hil hxe hx hX hy hY hcol
          by_cases hz2 : z2 = 0
          · subst hz2
            by_cases hnn : n5 = n6
            · subst hnn
              go_wp2_with fail
              go_roundg (j - (i2 + 1))
              case measure => omega
              case rel => exact ⟨i2 + 1, 0, by omega, rfl, by go_num, rfl, Lib.hid (by rw [HTK.out]; simp), rfl⟩
            · have hne : ((n5 : Int) != (n6 : Int)) = true := by simp; omega
              have HNN := Lib.hid hnn
              clear hnn
              go_wp2_with fail
              go_roundg (j - (i2 + 1))
              case measure => omega
              case rel => exact ⟨i2 + 1, 2, by omega, rfl, by go_num, rfl, Lib.hid (by rw [HTK.out]; simp [HNN.out]), rfl⟩
          · have hzb : (z2 == 0) = false := by simpa using hz2
            have HNN := Lib.hid hz2
            clear hz2
            go_wp2_with fail
            go_roundg (j - (i2 + 1))
            case measure => omega
            case rel => exact ⟨i2 + 1, z2, by omega, rfl, by go_num, rfl, Lib.hid (by rw [HTK.out, if_neg HNN.out]), rfl⟩
        · obtain rfl : i2 = j := by omega
          have HC : Hid (z2 = if s then (if ev then 0 else 2) else 6) := Lib.hid (by
            rw [← HZ2.out, List.take_of_length_le (by rw [hlen.out]; exact Nat.le_refl _), HA.out]
            unfold codeB
            have e1 : (qss.all fun x => decide (x.length = colsOf qss)) = ev := HEV.out
            rw [e1]
            cases s <;> cases ev <;> simp)
          clear HZ2 HA
          obtain ⟨wy, rfl⟩ : ∃ wy : World, wy = wz := ⟨_, rfl⟩
          go_wp2_with fail
          (with_reducible refine (qfrom_any K KL (by omega) wy a i2 c qss (HS.out.ext (Nat.le_refl _) HE.out) hn hrow HN.out hL.out D HD Z HZ s HSS ev HEV).mono ?_)
          rintro e w4 (⟨rfl, rfl, hE4⟩ | ⟨rfl, rfl, rfl, hE4⟩ | ⟨rfl, rfl, am, nm, cm, am2, nm2, cm2, rfl, hm1, hm2, hE4⟩)
          · obtain rfl : z2 = 6 := HC.out
            go_upto_if 54 with (fail)
            have mb := Blk.new w4 30 #[.bool false, .slice none 0 0, .slice none 0 0]
            have hEW5 : Ext w4 (w4.alloc (Obj.cells #[.bool false, .slice none 0 0, .slice none 0 0] 30)) := ((Below.refl _ w4).alloc (by simp) _)
            generalize hgW5 : w4.alloc (Obj.cells #[.bool false, .slice none 0 0, .slice none 0 0] 30) = W5 at *
            clear hgW5
            replace mb_0 := mb.cell (i := 0) rfl
            replace mb_1 := mb.cell (i := 1) rfl
            replace mb_2 := mb.cell (i := 2) rfl
            have HE5 := Lib.hid (Ext.trans HE.out (Ext.trans hE4 hEW5))
            clear hE4 hEW5
            go_wp2_with fail
            (with_reducible refine (none_yes W5).mono ?_)
            rintro e w6 ⟨rfl, hE6⟩
            have HE6 := Lib.hid (Ext.trans HE5.out hE6)
            clear hE6 mb mb_0 mb_1 mb_2
            go_wp2_with fail
            (with_reducible refine (lives_yes w6).mono ?_)
            rintro e w7 ⟨rfl, hE7⟩
            have HE7 := Lib.hid (Ext.trans HE6.out hE7)
            clear hE7
            go_wp2_with fail
            go_ret
            exact ⟨rfl, HE7.out⟩
          · obtain rfl : z2 = 2 := HC.out
            go_upto_if 54 with (fail)
            have mb := Blk.new w4 30 #[.bool false, .slice none 0 0, .slice none 0 0]
            have hEW5 : Ext w4 (w4.alloc (Obj.cells #[.bool false, .slice none 0 0, .slice none 0 0] 30)) := ((Below.refl _ w4).alloc (by simp) _)
            generalize hgW5 : w4.alloc (Obj.cells #[.bool false, .slice none 0 0, .slice none 0 0] 30) = W5 at *
            clear hgW5
            replace mb_0 := mb.cell (i := 0) rfl
            replace mb_1 := mb.cell (i := 1) rfl
            replace mb_2 := mb.cell (i := 2) rfl
            have HE5 := Lib.hid (Ext.trans HE.out (Ext.trans hE4 hEW5))
            clear hE4 hEW5
            go_wp2_with fail
            (with_reducible refine (none_yes W5).mono ?_)
            rintro e w6 ⟨rfl, hE6⟩
            have HE6 := Lib.hid (Ext.trans HE5.out hE6)
            clear hE6 mb mb_0 mb_1 mb_2
            go_wp2_with fail
            (with_reducible refine (lives_yes w6).mono ?_)
            rintro e w7 ⟨rfl, hE7⟩
            have HE7 := Lib.hid (Ext.trans HE6.out hE7)
            clear hE7
            go_wp2_with fail
            go_ret
            exact ⟨rfl, HE7.out⟩
          · obtain rfl : z2 = 0 := HC.out
            have hmay : allMay qss.flatten = true := HSS.out
            rw [Int.natAbs_natCast] at hm1
            obtain rfl : i2 = nm2 := by rw [← hm2.len, ← HZ.out, List.length_map]; exact hlen.out.symm
            have hDp : 0 < D := by rw [← HD.out]; exact comDen_pos _
            have hFR := (HS.out.ext (Nat.le_refl _) HE.out).fracRows hmay
            have hff : (qss.map fun qs => qs.map frR).flatten = qss.flatten.map frR := (List.map_flatten ..).symm
            have hnq := nl_numR (K := K) (qs := qss.flatten) (fun q hq => by
              obtain ⟨xs, hx, hq⟩ := List.mem_flatten.1 hq
              obtain ⟨j2, hj2, rfl⟩ := List.getElem_of_mem hx
              obtain ⟨_, _, _, _, _, x, _, _, hx2, _, hX⟩ := HS.out.cellOne (i := j2) (by rw [← hlen.out]; exact hj2)
              rw [List.getElem?_eq_getElem hj2] at hx2
              cases hx2
              exact hX.frNl q hq) hmay
            have hZ3 : ((qss.map fun qs => qs.map frR).map fun qs => qs.map (comNum D)) = Z := by rw [List.map_map]; exact HZ.out
            have hmK : Sl (rIntK (K + KL)).slice 0 w4 am2 i2 cm2 Z := hm2.rowsK fun zs hz z hzz => by
              rw [← hZ3] at hz
              obtain ⟨qs, hq, rfl⟩ := List.mem_map.1 hz
              obtain ⟨q, hq2, rfl⟩ := List.mem_map.1 hzz
              exact nl_comNum (hnq q (by rw [← hff]; exact List.mem_flatten.2 ⟨qs, hq, hq2⟩)) (by rw [← HD.out]; exact hL.out)
            have hm3 := rawRows hm2
            have HMK := Lib.hid hmK
            have HM1 := Lib.hid (Sl.zero hm1)
            have HM3 := Lib.hid hm3
            have HFR := Lib.hid (hFR.ext (Nat.le_refl _) hE4)
            have HFF := Lib.hid hff
            have HZ3 := Lib.hid hZ3
            have HNQ := Lib.hid hnq
            rw [show decide (((D : Nat) : Int) < 0) = false by simp]
            clear hmay hFR hff hnq hZ3 hmK hm3 hm1 hm2
            go_upto_if 54 with (fail)
            have mb := Blk.new w4 30 #[.bool false, .slice am nm cm, .slice am2 i2 cm2]
            have hEW5 : Ext w4 (w4.alloc (Obj.cells #[.bool false, .slice am nm cm, .slice am2 i2 cm2] 30)) := ((Below.refl _ w4).alloc (by simp) _)
            generalize hgW5 : w4.alloc (Obj.cells #[.bool false, .slice am nm cm, .slice am2 i2 cm2] 30) = W5 at *
            clear hgW5
            replace mb_0 := mb.cell (i := 0) rfl
            replace mb_1 := mb.cell (i := 1) rfl
            replace mb_2 := mb.cell (i := 2) rfl
            have HE4 := Lib.hid (Ext.trans HE.out hE4)
            have HEW5 := Lib.hid hEW5
            clear hE4 hEW5
            go_upto_region 17 with (fail)
            have hEd : Ext W5 W5.drew := (Below.refl _ _).drew
            replace mb := mb.ext hEd; replace mb_0 := mb.cell (i := 0) rfl; replace mb_1 := mb.cell (i := 1) rfl; replace mb_2 := mb.cell (i := 2) rfl
            have hE0 := Ext.trans HEW5.out hEd
            have hF := HFR.out.ext (Nat.le_refl _) hE0
            have h1 := HM1.out.ext (Nat.le_refl _) hE0
            have h3 := HM3.out.ext (Nat.le_refl _) hE0
            go_region_held3 (fun w' => w'.cell? ⟨w4.heap.size, 0, none⟩ = some (.bool false) ∧ w'.cell? ⟨w4.heap.size, 1, none⟩ = some (.slice am nm cm) ∧ w'.cell? ⟨w4.heap.size, 2, none⟩ = some (.slice am2 i2 cm2)) (first | exact ⟨mb_0, mb_1, mb_2⟩ | go_keep)
              (first
              | (go_at_call 28; (with_reducible refine (from_any K KL (by omega) W5.drew a i2 c _ hF (by omega) (by rw [HFF.out, List.length_map]; exact Nat.le_trans HN.out (by decide)) (by rw [HFF.out]; exact hL.out) D (Lib.hid (by rw [HFF.out]; exact HD.out)) (Lib.hid (fun qs hq => by obtain ⟨x, hx, rfl⟩ := List.mem_map.1 hq; rw [List.length_map]; exact Nat.le_trans (hrow.out x hx) (by decide)))).mono ?_); rw [HZ3.out]; rintro e w6 ⟨af, nf, cf, af2, nf2, cf2, rfl, hf1, hf2, hE6⟩; replace mb := mb.ext hE6; replace mb_0 := mb.cell (i := 0) rfl; replace mb_1 := mb.cell (i := 1) rfl; replace mb_2 := mb.cell (i := 2) rfl; replace h1 := h1.ext (Nat.le_refl _) hE6; replace h3 := h3.ext (Nat.le_refl _) hE6; replace hE0 := Ext.trans hE0 hE6; have hf3 := Sl.zero hf1; have hf4 := rawRows hf2)
              | (go_at_call 27; (with_reducible refine (same_yes w6 false am af am2 af2 nm cm nf cf i2 cm2 nf2 cf2 _ _ h1 hf3 h3 hf4).mono ?_); rintro e w7 ⟨rfl, hE7⟩; replace mb := mb.ext hE7; replace mb_0 := mb.cell (i := 0) rfl; replace mb_1 := mb.cell (i := 1) rfl; replace mb_2 := mb.cell (i := 2) rfl; replace h1 := h1.ext (Nat.le_refl _) hE7; replace hE0 := Ext.trans hE0 hE7))
            have HE8 := Lib.hid (Ext.trans HE4.out hE0)
            have HMAT : Hid (MatS (K + KL) w7 false am nm cm am2 i2 cm2 (D : Int) Z) := Lib.hid ⟨limbs D, h1, by rw [ival_limbs]; simp, by have := len_norm h1; rw [this, ← HD.out]; exact Nat.le_trans hL.out (by omega), HMK.out.ext (Nat.le_refl _) hE0⟩
            have hevZ : evenB Z = true := by rw [← HZ.out, evenB_map _ (fun xs => by rw [List.length_map, List.length_map])]; exact HEV.out
            have HCH : Hid (checkE (D : Int) Z = 0) := Lib.hid (by unfold checkE; rw [if_neg (by omega), if_pos hevZ])
            have HCO : Hid (colsOf Z = colsOf qss) := Lib.hid (by rw [← HZ.out, colsOf_map _ (fun xs => by rw [List.length_map, List.length_map])])
            have HZL : Hid (∀ zs ∈ Z, zs.length ≤ 1099511627776) := Lib.hid (fun zs hz => by
              rw [← HZ.out] at hz
              obtain ⟨x, hx, rfl⟩ := List.mem_map.1 hz
              rw [List.length_map, List.length_map]
              exact Nat.le_trans (hrow.out x hx) (by decide))
            obtain ⟨m, hm⟩ : ∃ m, colsOf qss = m := ⟨_, rfl⟩
            rw [hm] at HCO
            have HM := Lib.hid hm
            obtain ⟨q0, hq0⟩ : ∃ q : Int × Int, q = ((((qss[i.toNat]?).getD [])[k.toNat]?).getD (0, 1)) := ⟨_, rfl⟩
            have HQ0 : Hid (∀ (_ : 0 ≤ i) (_ : i < (i2 : Int)) (_ : 0 ≤ k) (_ : k < (m : Int)), ∃ xs, qss[i.toNat]? = some xs ∧ xs[k.toNat]? = some q0) := Lib.hid (fun g1 g2 g3 g4 => by
              have hl : i.toNat < qss.length := by rw [hlen.out]; omega
              have hl2 : k.toNat < qss[i.toNat].length := by rw [evenB_all HEV.out _ (List.getElem_mem hl), HM.out]; omega
              refine ⟨_, List.getElem?_eq_getElem hl, ?_⟩
              rw [hq0, List.getElem?_eq_getElem hl]
              simp [List.getElem?_eq_getElem hl2])
            have HQZ : Hid (∀ (_ : 0 ≤ i) (_ : i < (i2 : Int)) (_ : 0 ≤ k) (_ : k < (m : Int)), ((Z[i.toNat]?).getD [])[k.toNat]? = some (comNum D (frR q0))) := Lib.hid (fun g1 g2 g3 g4 => by
              obtain ⟨xs, e1, e2⟩ := HQ0.out g1 g2 g3 g4
              rw [← HZ.out, List.getElem?_map, e1]
              simp [List.getElem?_map, e2])
            have HDP : Hid ((0 : Int) < (D : Int)) := Lib.hid (by omega)
            clear hm hq0 hevZ hE6 hE7 hf1 hf2 hf3 hf4 h1 h3 hF HFR HM1 HM3 HMK HC
            have HE0 := Lib.hid hE0
            clear hE0
            go_upto_region 20 with (fail)
            (with_reducible refine (at_post (K + KL) (by omega) w7 false am am2 nm cm i2 cm2 (D : Int) Z HMAT.out HCH HDP.out (by omega) HZL m HCO i k _ HQZ).mono ?_)
            rintro e w8 ⟨b1, a1, n1, c1, b2, a2, n2, c2, f, rfl, hE8, hA⟩
            have HA := Lib.hid hA
            clear hA mb mb_0 mb_1 mb_2
            go_upto_region 20 with (fail)
            have x := Blk.new w8 62 #[.bool b1, .slice a1 n1 c1, .bool b2, .slice a2 n2 c2]
            have hEW9 : Ext w8 (w8.alloc (Obj.cells #[.bool b1, .slice a1 n1 c1, .bool b2, .slice a2 n2 c2] 62)) := ((Below.refl _ w8).alloc (by simp) _)
            generalize hgW9 : w8.alloc (Obj.cells #[.bool b1, .slice a1 n1 c1, .bool b2, .slice a2 n2 c2] 62) = W9 at *
            clear hgW9
            replace x_0 := x.cell (i := 0) rfl
            replace x_1 := x.cell (i := 1) rfl
            replace x_2 := x.cell (i := 2) rfl
            replace x_3 := x.cell (i := 3) rfl
            have HE9 := Lib.hid (Ext.trans HE8.out (Ext.trans hE8 hEW9))
            have HEW9 := Lib.hid hEW9
            clear hE8 hEW9
            go_cut [100] (fun s100 wx => ∃ ob : Bool, s100 = .bool ob ∧ Hid (ob = decide (i < 0 ∨ (i2 : Int) ≤ i ∨ k < 0 ∨ (m : Int) ≤ k)) ∧ wx = W9)
            case first =>
              clear x x_0 x_1 x_2 x_3
              by_cases g1 : i < 0
              · go_wp2_with fail
                go_meet
                exact ⟨true, rfl, Lib.hid (decide_eq_true (.inl g1)).symm, rfl⟩
              by_cases g2 : (i2 : Int) ≤ i
              · go_wp2_with fail
                go_meet
                exact ⟨true, rfl, Lib.hid (decide_eq_true (.inr (.inl g2))).symm, rfl⟩
              by_cases g3 : k < 0
              · go_wp2_with fail
                go_meet
                exact ⟨true, rfl, Lib.hid (decide_eq_true (.inr (.inr (.inl g3)))).symm, rfl⟩
              obtain ⟨b6, o6, a6, n6, c6, y, hba, hb6, hy, hc6, hY⟩ := (HS.out.ext (Nat.le_refl _) HE9.out).cellOne (show 0 < i2 by omega)
              subst hba
              rw [Nat.add_zero] at hc6
              have hcol : n6 = m := by
                rw [← HM.out, ← hY.len]
                cases qss with
                | nil => simp at hy
                | cons z zs => simp at hy; subst hy; rfl
              subst hcol
              have h0j : 0 < i2 := by omega
              clear hY hy
              by_cases g4 : (n6 : Int) ≤ k
              · go_wp2_with fail
                go_meet
                exact ⟨true, rfl, Lib.hid (decide_eq_true (.inr (.inr (.inr g4)))).symm, rfl⟩
              · go_wp2_with fail
                go_meet
                exact ⟨false, rfl, Lib.hid (decide_eq_false (by omega)).symm, rfl⟩
            case rest =>
              obtain ⟨ob, rfl, HOB, hwc⟩ := hcut
              obtain rfl : W9 = wc := hwc.symm
              go_upto_if 100 with (fail)
              go_cut [] (fun wx => Hid (Ext w wx))
              case first =>
                cases ob with
                | true =>
                  have hout : i < 0 ∨ (i2 : Int) ≤ i ∨ k < 0 ∨ (m : Int) ≤ k := of_decide_eq_true HOB.out.symm
                  rcases HA.out with ⟨_, rfl, rfl, rfl, rfl, rfl, rfl, rfl, rfl, rfl⟩ | ⟨hno, _⟩
                  · clear hout HOB HA
                    go_wp2_with fail
                    (with_reducible refine (r5Same_any W9 false false false false none none none none 0 0 0 0 0 0 0 0 [] [] [] [] (natS_nil _ _) (natS_nil _ _) (natS_nil _ _) (natS_nil _ _) true (Lib.hid (by simp))).mono ?_)
                    rintro e w10 ⟨rfl, hE10⟩
                    have HE10 := Lib.hid (Ext.trans HE9.out hE10)
                    clear hE10 x x_0 x_1 x_2 x_3
                    go_wp2_with fail
                    go_meet
                    exact HE10
                  · exact absurd hout hno
                | false =>
                  have hin : ¬ (i < 0 ∨ (i2 : Int) ≤ i ∨ k < 0 ∨ (m : Int) ≤ k) := of_decide_eq_false HOB.out.symm
                  rcases HA.out with ⟨hno, _⟩ | ⟨_, rfl, rfl, rfl, hA1, hA2⟩
                  · exact absurd hno hin
                  · obtain ⟨xs, hxs, hxk⟩ := HQ0.out (by omega) (by omega) (by omega) (by omega)
                    obtain ⟨i', rfl⟩ := Int.eq_ofNat_of_zero_le (show 0 ≤ i by omega)
                    obtain ⟨k', rfl⟩ := Int.eq_ofNat_of_zero_le (show 0 ≤ k by omega)
                    simp only [Int.toNat_natCast] at hxs hxk
                    have hq2 : q0.2 ≠ 0 := allMay_ne HSS.out q0 (List.mem_flatten.2 ⟨xs, List.mem_of_getElem? hxs, List.mem_of_getElem? hxk⟩)
                    have hdvd : (frR q0).den ∣ D := by rw [← HD.out]; exact den_dvd_comDen _ _ (List.mem_map.2 ⟨q0, List.mem_flatten.2 ⟨xs, List.mem_of_getElem? hxs, List.mem_of_getElem? hxk⟩, rfl⟩)
                    rw [ratv_comNum D (by omega) _ hdvd] at hA1 hA2 x
                    obtain ⟨b5, o5, a5, n5, c5, y, hba, hb5, hy, hc5, hY⟩ := (HS.out.ext (Nat.le_refl _) HE9.out).cellOne (show i' < i2 by omega)
                    subst hba
                    rw [hxs] at hy
                    cases hy
                    have hn5 : n5 = m := by rw [← hY.len, ← HM.out]; exact evenB_all HEV.out _ (List.mem_of_getElem? hxs)
                    subst hn5
                    obtain ⟨b7, o7, s7, a7, n7, c7, s8, a8, n8, c8, y, l7, l8, hba, hb7, hy7, hd0, hd1, hd2, hd3, h7, h8, hv7, hv8, hn7, hn8⟩ := hY.getFr (show k' < n5 by omega)
                    subst hba
                    rw [hxk] at hy7
                    cases hy7
                    have HRS : Hid (RatS K W9 s7 a7 n7 c7 s8 a8 n8 c8 (frR q0)) := Lib.hid ⟨l7, l8, h7, h8, by rw [hv8]; exact hq2, by rw [hv7, hv8]; rfl, hn7, hn8⟩
                    have hi2 : (i' : Int) < i2 := by omega
                    have hk2 : (k' : Int) < n5 := by omega
                    obtain ⟨qq, hqq⟩ : ∃ q, frR q0 = q := ⟨_, rfl⟩
                    rw [hqq] at hA1 hA2 x HRS
                    have hA1 := hA1.ext (Nat.le_refl _) HEW9.out
                    have hA2 := hA2.ext (Nat.le_refl _) HEW9.out
                    clear hqq h7 h8 hv7 hv8 hxs hxk hq2 hdvd hY HA HOB hin x_0 x_1 x_2 x_3
                    skip
                    go_upto_region 23 with (fail)
                    have hEd : Ext W9 W9.drew := (Below.refl _ _).drew
                    replace x := x.ext hEd; replace x_0 := x.cell (i := 0) rfl; replace x_1 := x.cell (i := 1) rfl; replace x_2 := x.cell (i := 2) rfl; replace x_3 := x.cell (i := 3) rfl
                    replace hc5 := cellE hEd hc5
                    replace hd0 := cellE hEd hd0
                    replace hd1 := cellE hEd hd1
                    replace hd2 := cellE hEd hd2
                    replace hd3 := cellE hEd hd3
                    replace hA1 := hA1.ext (Nat.le_refl _) hEd
                    replace hA2 := hA2.ext (Nat.le_refl _) hEd
                    have hE0 := Ext.trans HE9.out hEd
                    have hRS := RatS.ext HRS.out hEd
                    go_region_held3 (fun w' => w'.cell? ⟨b5, o5 + i', none⟩ = some (.slice (some ⟨b7, o7, none⟩) n5 c5) ∧ w'.cell? ⟨b7, o7 + k' * 4, none⟩ = some (.bool s7) ∧ w'.cell? ⟨b7, o7 + k' * 4 + 1, none⟩ = some (.slice a7 n7 c7) ∧ w'.cell? ⟨b7, o7 + k' * 4 + 2, none⟩ = some (.bool s8) ∧ w'.cell? ⟨b7, o7 + k' * 4 + 3, none⟩ = some (.slice a8 n8 c8) ∧ w'.cell? ⟨w8.heap.size, 0, none⟩ = some (.bool (decide (qq.num < 0))) ∧ w'.cell? ⟨w8.heap.size, 1, none⟩ = some (.slice a1 n1 c1) ∧ w'.cell? ⟨w8.heap.size, 2, none⟩ = some (.bool false) ∧ w'.cell? ⟨w8.heap.size, 3, none⟩ = some (.slice a2 n2 c2)) (first | exact ⟨hc5, hd0, hd1, hd2, hd3, x_0, x_1, x_2, x_3⟩ | go_keep)
                      (first
                      | (go_at_call 31; (with_reducible refine (r5Norm_s K (by omega) W9.drew s7 s8 a7 a8 n7 c7 n8 c8 qq hRS).mono ?_); rintro e w10 ⟨a9, n9, c9, a10, n10, c10, rfl, h9, h10, hE10⟩; replace x := x.ext hE10; replace x_0 := x.cell (i := 0) rfl; replace x_1 := x.cell (i := 1) rfl; replace x_2 := x.cell (i := 2) rfl; replace x_3 := x.cell (i := 3) rfl; replace hc5 := cellE hE10 hc5; replace hd0 := cellE hE10 hd0; replace hd1 := cellE hE10 hd1; replace hd2 := cellE hE10 hd2; replace hd3 := cellE hE10 hd3; replace hA1 := hA1.ext (Nat.le_refl _) hE10; replace hA2 := hA2.ext (Nat.le_refl _) hE10; replace hE0 := Ext.trans hE0 hE10; replace h9 := Sl.zero h9; replace h10 := Sl.zero h10)
                      | (go_at_call 30; (with_reducible refine (r5Same_any w10 _ _ _ _ a1 a2 a9 a10 n1 c1 n2 c2 n9 c9 n10 c10 _ _ _ _ hA1 hA2 h9 h10 true (Lib.hid (by simp))).mono ?_); rintro e w11 ⟨rfl, hE11⟩; replace x := x.ext hE11; replace x_0 := x.cell (i := 0) rfl; replace x_1 := x.cell (i := 1) rfl; replace x_2 := x.cell (i := 2) rfl; replace x_3 := x.cell (i := 3) rfl; replace hc5 := cellE hE11 hc5; replace hd0 := cellE hE11 hd0; replace hd1 := cellE hE11 hd1; replace hd2 := cellE hE11 hd2; replace hd3 := cellE hE11 hd3; replace hE0 := Ext.trans hE0 hE11))
                    have HEf := Lib.hid hE0
                    clear hE0 hA1 hA2 h9 h10 hc5 hd0 hd1 hd2 hd3 x x_0 x_1 x_2 x_3 hRS HRS
                    go_wp2_with fail
                    go_meet
                    exact HEf
              case rest =>
                have HEr := hcut
                clear hcut HA HOB x x_0 x_1 x_2 x_3 HMAT HCH HCO HZL HQ0 HQZ
                obtain ⟨wv, rfl⟩ : ∃ x : World, x = wc := ⟨_, rfl⟩
                go_wp2_with fail
                go_loopg [126] i2 (fun q vi wr => ∃ (j : Nat), j ≤ i2 ∧ q = i2 - j ∧ vi = .int .i64 (j : Int) ∧ Hid (Ext w wr))
                case atStart => exact ⟨0, Nat.zero_le _, by omega, rfl, HEr⟩
                case round =>
                  obtain ⟨j, hj, hq, rfl, HE⟩ := hrel
                  by_cases hin : j < i2
                  · obtain ⟨b5, o5, a5, n5, c5, y, hba, hb5, hy, hc5, hY⟩ := (HS.out.ext (Nat.le_refl _) HE.out).cellOne hin
                    subst hba
                    have hym := List.mem_of_getElem? hy
                    have hmy : allMay y = true := by
                      unfold allMay
                      rw [List.all_eq_true]
                      intro q hq
                      have := allMay_ne HSS.out q (List.mem_flatten.2 ⟨y, hym, hq⟩)
                      simpa using this
                    have hLy : nl (comDen (y.map frR)) ≤ KL := Nat.le_trans (nl_mono (Nat.le_of_dvd (comDen_pos _) (comDen_sub (fun q hq => by
                      obtain ⟨z, hz, rfl⟩ := List.mem_map.1 hq
                      exact List.mem_map.2 ⟨z, List.mem_flatten.2 ⟨y, hym, hz⟩, rfl⟩)))) hL.out
                    have hn5 : n5 ≤ 1048576 := by rw [← hY.len]; exact hrow.out y hym
                    have hfy := hY.fracs (allMay_ne hmy)
                    have HY := Lib.hid hY
                    have HFY := Lib.hid hfy
                    have HLY := Lib.hid hLy
                    have HMY := Lib.hid hmy
                    clear hY hfy hLy hmy hym hy
                    go_wp2_with fail
                    (with_reducible refine (vecFrom_any K KL (by omega) wr a5 n5 c5 y HY.out HLY.out _ (Lib.hid rfl) (by omega) true HMY).mono ?_)
                    rintro e w6 (⟨_, a6, n6, c6, a7, n7, c7, rfl, h6, h7, hE6⟩ | ⟨h0, _⟩)
                    · rw [show decide ((((comDen (y.map frR)) : Nat) : Int) < 0) = false by simp]
                      rw [Int.natAbs_natCast] at h6
                      have h8 := rawInts h7
                      have h6z := Sl.zero h6
                      clear h7 h6
                      go_upto_region 29 with (fail)
                      have vb := Blk.new w6 69 #[.bool false, .slice a6 n6 c6, .slice a7 n7 c7]
                      have hEW7 : Ext w6 (w6.alloc (Obj.cells #[.bool false, .slice a6 n6 c6, .slice a7 n7 c7] 69)) := ((Below.refl _ w6).alloc (by simp) _)
                      generalize hgW7 : w6.alloc (Obj.cells #[.bool false, .slice a6 n6 c6, .slice a7 n7 c7] 69) = W7 at *
                      clear hgW7
                      replace vb_0 := vb.cell (i := 0) rfl
                      replace vb_1 := vb.cell (i := 1) rfl
                      replace vb_2 := vb.cell (i := 2) rfl
                      have hEd : Ext W7 W7.drew := (Below.refl _ _).drew
                      replace vb := vb.ext hEd; replace vb_0 := vb.cell (i := 0) rfl; replace vb_1 := vb.cell (i := 1) rfl; replace vb_2 := vb.cell (i := 2) rfl
                      have hE67 := Ext.trans hEW7 hEd
                      have hE0 := Ext.trans hE6 hE67
                      replace h6z := h6z.ext (Nat.le_refl _) hE67
                      replace h8 := h8.ext (Nat.le_refl _) hE67
                      have hfy := HFY.out.ext (Nat.le_refl _) hE0
                      clear hE6 hE67 hEW7 hEd
                      go_region_held3 (fun w' => w'.cell? ⟨w6.heap.size, 0, none⟩ = some (.bool false) ∧ w'.cell? ⟨w6.heap.size, 1, none⟩ = some (.slice a6 n6 c6) ∧ w'.cell? ⟨w6.heap.size, 2, none⟩ = some (.slice a7 n7 c7)) (first | exact ⟨vb_0, vb_1, vb_2⟩ | go_keep)
                        (first
                        | (go_at_call 34; (with_reducible refine (r11Vec_any K KL (by omega) W7.drew a5 n5 c5 _ hfy HLY.out (by omega)).mono ?_); rintro e w8 ⟨a9, n9, c9, a10, n10, c10, rfl, h9, h10, hE8⟩; replace vb := vb.ext hE8; replace vb_0 := vb.cell (i := 0) rfl; replace vb_1 := vb.cell (i := 1) rfl; replace vb_2 := vb.cell (i := 2) rfl; replace h6z := h6z.ext (Nat.le_refl _) hE8; replace h8 := h8.ext (Nat.le_refl _) hE8; replace hE0 := Ext.trans hE0 hE8)
                        | (go_at_call 33; (with_reducible refine (sameVec_any w8 false false a6 a9 a7 a10 n6 c6 n9 c9 n7 c7 n10 c10 _ _ _ _ h6z h9 h8 h10 true (Lib.hid (by simp))).mono ?_); rintro e w9 ⟨rfl, hE9⟩; replace vb := vb.ext hE9; replace vb_0 := vb.cell (i := 0) rfl; replace vb_1 := vb.cell (i := 1) rfl; replace vb_2 := vb.cell (i := 2) rfl; replace hE0 := Ext.trans hE0 hE9))
                      have HEf := Lib.hid (Ext.trans HE.out hE0)
                      clear hE0 h6z h8 h9 h10 vb vb_0 vb_1 vb_2 hfy
                      go_wp2_with fail
                      go_roundg (i2 - (j + 1))
                      case measure => omega
                      case rel => exact ⟨j + 1, by omega, rfl, by go_num, HEf⟩
                    · cases h0
                  · obtain rfl : j = i2 := by omega
                    obtain ⟨wu, rfl⟩ : ∃ x : World, x = wr := ⟨_, rfl⟩
                    go_wp2_with fail
                    (with_reducible refine (lives_yes wu).mono ?_)
                    rintro e w7 ⟨rfl, hE7⟩
                    have HE7 := Lib.hid (Ext.trans HE.out hE7)
                    clear hE7
                    go_wp2_with fail
                    go_ret
                    exact ⟨rfl, HE7.out⟩
end Go.Proofs.Ytbhenelehhiakaa
