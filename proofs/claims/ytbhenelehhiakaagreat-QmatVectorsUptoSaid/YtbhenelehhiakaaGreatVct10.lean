/-
  References and small functions of the law QmatFrom: SameVec, Same of fractions, Vec.
-/
import Derived.Test.YtbhenelehhiakaaGreatVct9
import Derived.Deep.RegionHeld
set_option linter.unusedVariables false
set_option linter.unusedSimpArgs false
namespace Go.Proofs.YtbhenelehhiakaaGreat
open Go.RowKit
set_option maxHeartbeats 2000000 in
theorem sameVec_any (w : World) (b b2 : Bool) (a a2 a3 a4 : Option Addr) (n c n2 c2 n3 c3 n4 c4 : Nat) (l l2 : Nt) (xs ys : List It) (h : NatS 0 w a n c l) (h2 : NatS 0 w a2 n2 c2 l2) (h3 : Sl rInt 0 w a3 n3 c3 xs) (h4 : Sl rInt 0 w a4 n4 c4 ys) (sb : Bool) (hsb : Hid (decide ((b, l) = (b2, l2) ∧ xs = ys) = sb)) :
  Calls Tryz.prog 13 #[.agg #[.bool b, .slice a n c, .slice a3 n3 c3], .agg #[.bool b2, .slice a2 n2 c2, .slice a4 n4 c4]] w fun e w' => e = .returned (.bool sb) ∧ Ext w w' := by
 by_cases hden : (b, l) = (b2, l2)
 ·have HS : Hid (decide ((b, l) = (b2, l2)) = true) := Lib.hid (decide_eq_true hden)
  have HSB : Hid (decide (xs = ys) = sb) := Lib.hid (by rw [← hsb.out]; simp [hden])
  clear hden hsb
  go_enter Tryz.func13, Tryz.ntmps13
  go_wp2_with fail
  have p0 := Blk.new w 32 #[.bool b, .slice a n c, .slice a3 n3 c3]
  have p1 := Blk.new (w.alloc (Obj.cells #[.bool b, .slice a n c, .slice a3 n3 c3] 32)) 32 #[.bool b2, .slice a2 n2 c2, .slice a4 n4 c4]
  replace p0 := p0.ext ((Below.refl _ _).alloc (Nat.le_refl _) (Obj.cells #[.bool b2, .slice a2 n2 c2, .slice a4 n4 c4] 32))
  have hEW : Ext w ((w.alloc (Obj.cells #[.bool b, .slice a n c, .slice a3 n3 c3] 32)).alloc (Obj.cells #[.bool b2, .slice a2 n2 c2, .slice a4 n4 c4] 32)) := (((Below.refl _ w).alloc (by simp) _).alloc (by simp) _)
  generalize hgW : (w.alloc (Obj.cells #[.bool b, .slice a n c, .slice a3 n3 c3] 32)).alloc (Obj.cells #[.bool b2, .slice a2 n2 c2, .slice a4 n4 c4] 32) = W at *
  clear hgW
  simp only [World.size_alloc] at p1
  have p0_ne_p1 : ¬ w.heap.size = w.heap.size + 1 := by omega
  have p1_ne_p0 : ¬ w.heap.size + 1 = w.heap.size := by omega
  replace p0_0 := p0.cell (i := 0) rfl
  replace p0_1 := p0.cell (i := 1) rfl
  replace p0_2 := p0.cell (i := 2) rfl
  replace p1_0 := p1.cell (i := 0) rfl
  replace p1_1 := p1.cell (i := 1) rfl
  replace p1_2 := p1.cell (i := 2) rfl
  (with_reducible refine (r3Same_b b b2 0 W a a2 n c n2 c2 l l2 (h.ext (Nat.le_refl _) hEW) (h2.ext (Nat.le_refl _) hEW) true HS).mono ?_)
  rintro e w1 ⟨rfl, hE1⟩
  replace p0 := p0.ext hE1; replace p0_0 := p0.cell (i := 0) rfl; replace p0_1 := p0.cell (i := 1) rfl; replace p0_2 := p0.cell (i := 2) rfl; replace p1 := p1.ext hE1; replace p1_0 := p1.cell (i := 0) rfl; replace p1_1 := p1.cell (i := 1) rfl; replace p1_2 := p1.cell (i := 2) rfl
  have hE0 := Ext.trans hEW hE1
  have h3 := h3.ext (Nat.le_refl _) hE0
  have h4 := h4.ext (Nat.le_refl _) hE0
  clear h h2 hEW hE1
  go_wp2_with fail
  (with_reducible refine (r3SameAll_b w1 a3 a4 n3 c3 n4 c4 xs ys h3 h4 sb HSB).mono ?_)
  rintro e w2 ⟨rfl, hE2⟩
  have HE := Lib.hid (Ext.trans hE0 hE2)
  clear h3 h4 hE0 hE2
  go_wp2_with fail
  go_ret
  exact ⟨rfl, HE.out⟩
 ·have HS : Hid (decide ((b, l) = (b2, l2)) = false) := Lib.hid (decide_eq_false hden)
  have HSB : Hid (sb = false) := Lib.hid (by rw [← hsb.out]; exact decide_eq_false fun h => hden h.1)
  clear hden hsb
  go_enter Tryz.func13, Tryz.ntmps13
  go_wp2_with fail
  have p0 := Blk.new w 32 #[.bool b, .slice a n c, .slice a3 n3 c3]
  have p1 := Blk.new (w.alloc (Obj.cells #[.bool b, .slice a n c, .slice a3 n3 c3] 32)) 32 #[.bool b2, .slice a2 n2 c2, .slice a4 n4 c4]
  replace p0 := p0.ext ((Below.refl _ _).alloc (Nat.le_refl _) (Obj.cells #[.bool b2, .slice a2 n2 c2, .slice a4 n4 c4] 32))
  have hEW : Ext w ((w.alloc (Obj.cells #[.bool b, .slice a n c, .slice a3 n3 c3] 32)).alloc (Obj.cells #[.bool b2, .slice a2 n2 c2, .slice a4 n4 c4] 32)) := (((Below.refl _ w).alloc (by simp) _).alloc (by simp) _)
  generalize hgW : (w.alloc (Obj.cells #[.bool b, .slice a n c, .slice a3 n3 c3] 32)).alloc (Obj.cells #[.bool b2, .slice a2 n2 c2, .slice a4 n4 c4] 32) = W at *
  clear hgW
  simp only [World.size_alloc] at p1
  have p0_ne_p1 : ¬ w.heap.size = w.heap.size + 1 := by omega
  have p1_ne_p0 : ¬ w.heap.size + 1 = w.heap.size := by omega
  replace p0_0 := p0.cell (i := 0) rfl
  replace p0_1 := p0.cell (i := 1) rfl
  replace p0_2 := p0.cell (i := 2) rfl
  replace p1_0 := p1.cell (i := 0) rfl
  replace p1_1 := p1.cell (i := 1) rfl
  replace p1_2 := p1.cell (i := 2) rfl
  (with_reducible refine (r3Same_b b b2 0 W a a2 n c n2 c2 l l2 (h.ext (Nat.le_refl _) hEW) (h2.ext (Nat.le_refl _) hEW) false HS).mono ?_)
  rintro e w1 ⟨rfl, hE1⟩
  have HE := Lib.hid (Ext.trans hEW hE1)
  clear h h2 h3 h4 hEW hE1
  go_wp2_with fail
  go_ret
  exact ⟨by rw [HSB.out]; rfl, HE.out⟩
def RVRef (w : World) (qs : List Rat) (e : Ending) (w' : World) : Prop := ∃ a n c a2 n2 c2, e = .returned (.agg #[.bool false, .slice a n c, .slice a2 n2 c2]) ∧ NatS 0 w' a n c (limbs (comDen qs)) ∧ Sl rInt 0 w' a2 n2 c2 ((qs.map (comNum (comDen qs))).map rawI) ∧ Ext w w'
def RVRefN (w : World) (qs : List Rat) (e : Ending) (w' : World) : Prop := ∃ a n c a2 n2 c2, e = .returned (.agg #[.bool false, .slice a n c, .slice a2 n2 c2]) ∧ NatS w.heap.size w' a n c (limbs (comDen qs)) ∧ Sl rIntN w.heap.size w' a2 n2 c2 (qs.map (comNum (comDen qs))) ∧ Ext w w'
theorem RVRefN.ref {w w' : World} {qs : List Rat} {e : Ending} (h : RVRefN w qs e w') : RVRef w qs e w' := by
 obtain ⟨a, n, c, a2, n2, c2, he, h1, h2, hE⟩ := h
 exact ⟨a, n, c, a2, n2, c2, he, Sl.zero h1, rawInts h2, hE⟩
set_option maxHeartbeats 2000000 in
theorem r11Vec_n (K KL : Nat) (hK : 2 * K + KL + 2 ≤ 549755813888) (w : World) (a : Option Addr) (n c : Nat) (qs : List Rat) (h : Sl (rRatK K) 0 w a n c qs) (hL : nl (comDen qs) ≤ KL) (hn40 : n ≤ 1099511627776) :
  Calls Tryz.prog 61 #[.slice a n c] w (RVRefN w qs) := by
 obtain ⟨D, hD⟩ : ∃ D, comDen qs = D := ⟨_, rfl⟩
 have HD := Lib.hid hD
 unfold RVRefN
 rw [hD]
 clear hD
 go_enter Tryz.func61, Tryz.ntmps61
 go_wp2_with fail
 have r := Blk.new w 32 #[.bool false, .slice none 0 0, .slice none 0 0]
 have hEW : Ext w (w.alloc (Obj.cells #[.bool false, .slice none 0 0, .slice none 0 0] 32)) := ((Below.refl _ w).alloc (by simp) _)
 generalize hgW : w.alloc (Obj.cells #[.bool false, .slice none 0 0, .slice none 0 0] 32) = W at *
 clear hgW
 replace r_0 := r.cell (i := 0) rfl
 replace r_1 := r.cell (i := 1) rfl
 replace r_2 := r.cell (i := 2) rfl
 replace r_f0 := r.free 0
 replace r_f1 := r.free 1
 replace r_f2 := r.free 2
 replace r_lt := r.lt
 have hW : w.heap.size < W.heap.size := r_lt
 (with_reducible refine (r5Common_any K KL hK W a n c qs (h.ext (Nat.le_refl _) hEW) hL D HD hn40).mono ?_)
 rintro e w1 ⟨a5, n5, c5, a6, n6, c6, rfl, h5, h6, hE1, _⟩
 replace r := r.ext hE1; replace r_0 := r.cell (i := 0) rfl; replace r_1 := r.cell (i := 1) rfl; replace r_2 := r.cell (i := 2) rfl; replace r_f0 := r.free 0; replace r_f1 := r.free 1; replace r_f2 := r.free 2; replace r_lt := r.lt
 go_upto_region 2 with (fail)
 have d := Blk.new w1 25 #[.bool false, .slice a5 n5 c5]
 have hEW3 : Ext w1 (w1.alloc (Obj.cells #[.bool false, .slice a5 n5 c5] 25)) := ((Below.refl _ w1).alloc (by simp) _)
 generalize hgW3 : w1.alloc (Obj.cells #[.bool false, .slice a5 n5 c5] 25) = W3 at *
 clear hgW3
 replace d_0 := d.cell (i := 0) rfl
 replace d_1 := d.cell (i := 1) rfl
 replace r := r.ext hEW3; replace r_0 := r.cell (i := 0) rfl; replace r_1 := r.cell (i := 1) rfl; replace r_2 := r.cell (i := 2) rfl; replace r_f0 := r.free 0; replace r_f1 := r.free 1; replace r_f2 := r.free 2; replace r_lt := r.lt
 have hE3 := Ext.trans hEW (Ext.trans hE1 hEW3)
 have h5 := (h5.ext (Nat.le_refl _) hEW3).mono (Nat.le_refl _) (kept_set3 W3 (.bool false) (.slice a5 n5 c5) (.slice a6 n6 c6) hW)
 have h6 := (h6.ext (Nat.le_refl _) hEW3).mono (Nat.le_refl _) (kept_set3 W3 (.bool false) (.slice a5 n5 c5) (.slice a6 n6 c6) hW)
 have HF : Hid (∃ a n c a2 n2 c2, Ending.returned (.agg #[.bool false, .slice a5 n5 c5, .slice a6 n6 c6]) = .returned (.agg #[.bool false, .slice a n c, .slice a2 n2 c2]) ∧ NatS w.heap.size (((W3.setCell ⟨w.heap.size, 0, none⟩ (.bool false)).setCell ⟨w.heap.size, 1, none⟩ (.slice a5 n5 c5)).setCell ⟨w.heap.size, 2, none⟩ (.slice a6 n6 c6)) a n c (limbs D) ∧ Sl rIntN w.heap.size (((W3.setCell ⟨w.heap.size, 0, none⟩ (.bool false)).setCell ⟨w.heap.size, 1, none⟩ (.slice a5 n5 c5)).setCell ⟨w.heap.size, 2, none⟩ (.slice a6 n6 c6)) a2 n2 c2 (qs.map (comNum D)) ∧ Ext w (((W3.setCell ⟨w.heap.size, 0, none⟩ (.bool false)).setCell ⟨w.heap.size, 1, none⟩ (.slice a5 n5 c5)).setCell ⟨w.heap.size, 2, none⟩ (.slice a6 n6 c6))) :=
  Lib.hid ⟨a5, n5, c5, a6, n6, c6, rfl, h5.mono (by omega) (Kept.refl _ _), h6.mono (by omega) (Kept.refl _ _), ext_set3 hE3 _ _ _ (Nat.le_refl _)⟩
 clear h h5 h6 hE3 hE1 hEW3 hEW
 have r2 : Blk ((((W3).setCell ⟨w.heap.size, 0, none⟩ (.bool false)).setCell ⟨w.heap.size, 1, none⟩ (.slice a5 n5 c5)).setCell ⟨w.heap.size, 2, none⟩ (.slice a6 n6 c6)) _ _ #[.bool false, .slice a5 n5 c5, .slice a6 n6 c6] := (((r).set 0 (.bool false)).set 1 (.slice a5 n5 c5)).set 2 (.slice a6 n6 c6)
 have hr0 := r2.cell (i := 0) rfl
 have hr1 := r2.cell (i := 1) rfl
 have hr2 := r2.cell (i := 2) rfl
 go_wp2_with fail
 exact bodyPost_ret (v := .agg #[.bool false, .slice a5 n5 c5, .slice a6 n6 c6]) (by simp [results, Tryz.results61, go_sem, hr0, hr1, hr2]) rfl HF.out
end Go.Proofs.YtbhenelehhiakaaGreat
namespace Go.Proofs.YtbhenelehhiakaaGreat
open Go.RowKit
theorem ratK_stores {K B g : Nat} (vs : List Value) {w : World} {off : Nat} {cs : List Value} {q : Rat} (h : (rRatK K).ok B w cs q) (hv : ∀ j, j < vs.length → NoWord w g (off + j)) : (rRatK K).ok B (stores w g off vs) cs q := by
 obtain ⟨b, a, n, c, b2, a2, n2, c2, e, l, l2, h1, h2, h3⟩ := h
 exact ⟨b, a, n, c, b2, a2, n2, c2, e, l, l2, NatS.stores vs h1 hv, NatS.stores vs h2 hv, h3⟩
theorem Sl.setRat {K B : Nat} {w : World} {g n c : Nat} {xs : List Rat} (h : Sl (rRatK K) B w (some ⟨g, 0, none⟩) n c xs) {k : Nat} (hk : k < n) {cs : List Value} {q : Rat} (hz : (rRatK K).ok B w cs q) : Sl (rRatK K) B (stores w g (k * 4) cs) (some ⟨g, 0, none⟩) n c (xs.set k q) := by
 have hlen2 : cs.length = 4 := (rRatK K).len hz
 obtain ⟨bk, ok, csk, hgk, hqk, hck⟩ := h.at_ k (by rw [h.len]; exact hk)
 cases hgk
 have hl2 : csk.length = 4 := (rRatK K).len hqk
 have hcel : ∀ j, j < 4 → ∃ v, Cel B w g (k * 4 + j) v ∧ ∀ x : Int, v ≠ .int .u32 x := fun j hj => by
  have := hck j (by omega)
  rw [Nat.zero_add] at this
  refine ⟨_, this, ?_⟩
  obtain ⟨b, a, n, c, b2, a2, n2, c2, e, _⟩ := hqk
  subst e
  intro x
  match j, hj with
  | 0, _ => simp
  | 1, _ => simp
  | 2, _ => simp
  | 3, _ => simp
 have hnw : ∀ j, j < cs.length → NoWord w g (k * 4 + j) := fun j hj => by
  obtain ⟨v, h1, h2⟩ := hcel j (by omega)
  exact ⟨v, h1.cell, h2⟩
 refine ⟨by rw [List.length_set]; exact h.len, h.cap, h.most, h.nil, fun t ht => ?_⟩
 have ht2 : t < xs.length := by simpa using ht
 by_cases hte : t = k
 ·subst hte
  refine ⟨g, 0, cs, rfl, ?_, fun j hj => ?_⟩
  ·rw [List.getElem_set_self]; exact ratK_stores cs hz hnw
  ·have := cel_stores_at cs (fun j hj => by obtain ⟨v, h1, _⟩ := hcel j (by omega); exact ⟨v, h1⟩) j hj
   rw [Nat.zero_add]; exact this
 ·obtain ⟨b2, o2, cs2, hg2, hq2, hc2⟩ := h.at_ t ht2
  cases hg2
  have hl3 : cs2.length = 4 := (rRatK K).len hq2
  refine ⟨g, 0, cs2, rfl, ?_, fun j hj => cel_stores cs (hc2 j hj) (.inr ?_)⟩
  ·rw [List.getElem_set_ne (by omega)]; exact ratK_stores cs hq2 hnw
  ·show 0 + t * 4 + j < k * 4 ∨ k * 4 + cs.length ≤ 0 + t * 4 + j
   omega
def RRow (K : Nat) (w : World) (qs : List Rat) (e : Ending) (w' : World) : Prop := ∃ g n, e = .returned (.slice (some ⟨g, 0, none⟩) n n) ∧ Sl (rRatK K) w.heap.size w' (some ⟨g, 0, none⟩) n n qs ∧ w.heap.size ≤ g ∧ g < w'.heap.size ∧ Ext w w'
set_option maxRecDepth 100000 in
set_option maxHeartbeats 8000000 in
theorem r11Entries_any (K : Nat) (hK : K ≤ 549755813888) (w : World) (b : Bool) (a a2 : Option Addr) (n c n2 c2 : Nat) (d : Int) (zs : List Int) (h : VecS K w b a n c a2 n2 c2 d zs) (hd0 : d ≠ 0) (hn2 : n2 ≤ 1099511627776) :
  Calls Tryz.prog 73 #[.agg #[.bool b, .slice a n c, .slice a2 n2 c2]] w (RRow K w (frV d zs)) := by
 obtain ⟨cur, hcur, hmk⟩ := make_any under_rats info_rat n2 n2 (Nat.le_refl _) (by omega) (by omega)
 have hmk : ∀ w, (Instr.makeSlice 68 (.int .i64 (n2 : Int)) (.int .i64 (n2 : Int))).run Tryz.prog w = .ok (.slice (some ⟨w.heap.size, 0, none⟩) n2 n2) (w.alloc (.cells cur 75)) := hmk
 have HCur := Lib.hid hcur
 clear hcur
 obtain ⟨l, h1, h2, h3, h4⟩ := h
 have HD := Lib.hid h2
 have HDL := Lib.hid h1
 have HZ := Lib.hid h4
 have hmost1 := h4.most
 have hcap1 := h4.cap
 have hlen := Lib.hid h4.len
 have hKd : nl d.natAbs ≤ K := Nat.le_trans (nl_of h1 HD) h3
 clear h1 h2 h4
 go_enter Tryz.func73, Tryz.ntmps73
 go_upto_region 1 with (fail)
 have p0 := Blk.new w 32 #[.bool b, .slice a n c, .slice a2 n2 c2]
 have hEW : Ext w (w.alloc (Obj.cells #[.bool b, .slice a n c, .slice a2 n2 c2] 32)) := ((Below.refl _ w).alloc (by simp) _)
 generalize hgW : w.alloc (Obj.cells #[.bool b, .slice a n c, .slice a2 n2 c2] 32) = W at *
 clear hgW
 replace p0_0 := p0.cell (i := 0) rfl
 replace p0_1 := p0.cell (i := 1) rfl
 replace p0_2 := p0.cell (i := 2) rfl
 have HP0 := Lib.hid p0
 have HEW := Lib.hid hEW
 have hW : w.heap.size + 1 ≤ W.heap.size := p0.lt
 have hEA : Ext W (W.alloc (Obj.cells cur 75)) := (Below.refl _ _).alloc (Nat.le_refl _) _
 have HG0 : Hid (Grp (rRatK K) W.heap.size 75 (W.alloc (Obj.cells cur 75)) (.slice (some ⟨W.heap.size, 0, none⟩) 0 n2) 0 [] []) := Lib.hid ⟨rfl, rfl, World.ownsRow_made W cur n2 (Nat.le_refl _) (by unfold maxLen; omega) HCur.out, fun k hk => absurd hk (by simp)⟩
 have p0_a0 := cell_alloc p0_0 (Obj.cells cur 75)
 have p0_a1 := cell_alloc p0_1 (Obj.cells cur 75)
 have p0_a2 := cell_alloc p0_2 (Obj.cells cur 75)
 clear hEW
 go_wp2_with fail
 go_loopg [13] n2 (fun k vi w2 => ∃ (j : Nat), j ≤ n2 ∧ k = n2 - j ∧ vi = .int .i64 (j : Int) ∧ Hid (∃ css, Grp (rRatK K) W.heap.size 75 w2 (.slice (some ⟨W.heap.size, 0, none⟩) j n2) j ((zs.take j).map fun z => ratv z d) css) ∧ Hid (Ext W w2))
 case atStart => exact ⟨0, Nat.zero_le _, by omega, rfl, Lib.hid ⟨[], HG0.out⟩, Lib.hid hEA⟩
 case round =>
  clear hEA p0 p0_0 p0_1 p0_2 p0_a0 p0_a1 p0_a2
  obtain ⟨j, hj, hk2, rfl, HGj, HEj⟩ := hrel
  by_cases hjc : j < n2
  ·obtain ⟨css, hGj⟩ := HGj.out
   have hgl := hGj.cell.1
   have hjc' : (j : Int) < (n2 : Int) := by omega
   obtain ⟨b7, o7, s7, a7, n7, c7, l7, z, rfl, hb7, hz7, hc9, hc10, h7, hi7, hn7⟩ := (HZ.out.ext (Nat.le_refl _) (Ext.trans HEW.out HEj.out)).getInt hjc
   obtain ⟨hkl, hze⟩ := List.getElem?_eq_some_iff.1 hz7
   have HTK : Hid ((zs.take (j + 1)).map (fun z => ratv z d) = (zs.take j).map (fun z => ratv z d) ++ [ratv z d]) := Lib.hid (by rw [List.take_succ_eq_append_getElem hkl, hze, List.map_append]; rfl)
   have HI7 := Lib.hid hi7
   have H7 := Lib.hid h7
   have p0 := HP0.out.ext HEj.out
   have hKz : nl z.natAbs ≤ K := Nat.le_trans (nl_of h7 HI7) hn7
   obtain ⟨hq1, hq2⟩ := ratv_le z d hd0
   have hq1 := Nat.le_trans (nl_mono hq1) hKz
   have hq2 := Nat.le_trans (nl_mono hq2) hKd
   have HDL2 := Lib.hid (HDL.out.ext (Nat.le_refl _) (Ext.trans HEW.out HEj.out))
   obtain ⟨q, hq⟩ : ∃ q, ratv z d = q := ⟨_, rfl⟩
   have HQ := Lib.hid hq
   rw [hq] at hq1 hq2 HTK
   have hszr := HEj.out.size
   clear hz7 hze hi7 h7 hq hGj
   skip
   replace p0_0 := p0.cell (i := 0) rfl
   replace p0_1 := p0.cell (i := 1) rfl
   replace p0_2 := p0.cell (i := 2) rfl
   replace p0_f0 := p0.free 0
   replace p0_f1 := p0.free 1
   replace p0_f2 := p0.free 2
   replace p0_lt := p0.lt
   go_wp2_with fail
   have u := Blk.new wr 25 #[.bool s7, .slice a7 n7 c7]
   have hEW9 : Ext wr (wr.alloc (Obj.cells #[.bool s7, .slice a7 n7 c7] 25)) := ((Below.refl _ wr).alloc (by simp) _)
   generalize hgW9 : wr.alloc (Obj.cells #[.bool s7, .slice a7 n7 c7] 25) = W9 at *
   clear hgW9
   replace u_0 := u.cell (i := 0) rfl
   replace u_1 := u.cell (i := 1) rfl
   refine (r5Make_z s7 b 0 W9 _ _ _ _ _ _ l7 l z d q (H7.out.ext (Nat.le_refl _) hEW9) (HDL2.out.ext (Nat.le_refl _) hEW9) (by omega) (by omega) HI7 HD hd0 HQ).mono ?_
   rintro e w5 ⟨a8, n8, c8, a9, n9, c9, rfl, h8, h9, hE9⟩
   obtain ⟨bb, hbb⟩ : ∃ bb, decide (q.num < 0) = bb := ⟨_, rfl⟩
   rw [hbb]
   have hE5 := Ext.trans hEW9 hE9
   have hsz5 := hE5.size
   have hG5 := HGj.out.choose_spec.keep hE5.size (fun b _ h2 => hE5.block b h2)
   generalize HGj.out.choose = css at *
   obtain ⟨hg1, hg2, hg3⟩ := hG5.cell
   have q0 := hg3 (j * 4) (show j * 4 < n2 * 4 by omega)
   have q1 := hg3 (j * 4 + 1) (show j * 4 + 1 < n2 * 4 by omega)
   have q2 := hg3 (j * 4 + 2) (show j * 4 + 2 < n2 * 4 by omega)
   have q3 := hg3 (j * 4 + 3) (show j * 4 + 3 < n2 * 4 by omega)
   obtain ⟨⟨u0, s0⟩, f0⟩ := q0
   obtain ⟨⟨u1, s1⟩, f1⟩ := q1
   obtain ⟨⟨u2, s2⟩, f2⟩ := q2
   obtain ⟨⟨u4, s3⟩, f3⟩ := q3
   have HP := Lib.hid (hG5.put hjc (x := q) (cs := [.bool bb, .slice a8 n8 c8, .bool false, .slice a9 n9 c9]) (Bx := wr.heap.size) (ratK_of (q := q) (K := K) (h8.mono hEW9.size (Kept.refl _ _)) (h9.mono hEW9.size (Kept.refl _ _)) hq1 hq2 bb hbb) hszr hgl)
   have HEP := Lib.hid (Ext.trans HEj.out hE5)
   clear hG5 hg3 h8 h9 hE5 hE9 hEW9 hbb u u_0 u_1 p0 p0_0 p0_1 p0_2 p0_f0 p0_f1 p0_f2 p0_lt hc9 hc10
   go_wp2_with fail
   go_roundg (n2 - (j + 1))
   case measure => omega
   case rel => exact ⟨j + 1, by omega, rfl, by go_num, Lib.hid ⟨css ++ [[.bool bb, .slice a8 n8 c8, .bool false, .slice a9 n9 c9]], by rw [HTK.out]; exact HP.out⟩, Lib.hid (ext_set4' HEP.out (j * 4) _ _ _ _)⟩
  ·obtain rfl : j = n2 := by omega
   obtain ⟨css, hGj⟩ := HGj.out
   obtain ⟨ar, cr, hv, hsr⟩ := hGj.sl
   cases hv
   have hgl := hGj.cell.1
   have hfull : zs.take j = zs := List.take_of_length_le (by rw [hlen.out]; exact Nat.le_refl _)
   rw [hfull] at hsr
   have HF : Hid (RRow K w (frV d zs) (.returned (.slice (some ⟨W.heap.size, 0, none⟩) j j)) wr) := Lib.hid ⟨_, _, rfl, hsr.mono HEW.out.size (Kept.refl _ _), HEW.out.size, hgl, Ext.trans HEW.out HEj.out⟩
   clear hGj hsr hfull
   go_wp2_with fail
   go_ret
   exact HF.out
set_option maxHeartbeats 1000000 in
theorem r11VecMay_any (K : Nat) (hK : K ≤ 549755813888) (w : World) (b : Bool) (a a2 : Option Addr) (n c n2 c2 : Nat) (d : Int) (zs : List Int) (h : VecS K w b a n c a2 n2 c2 d zs) (s : Bool) (hs : Hid (decide (d ≠ 0) = s)) :
  Calls Tryz.prog 16 #[.agg #[.bool b, .slice a n c, .slice a2 n2 c2]] w fun e w' => e = .returned (.bool s) ∧ Ext w w' := by
 obtain ⟨l, h1, h2, h3, h4⟩ := h
 have HD := Lib.hid h2
 clear h2 h4
 go_enter Tryz.func16, Tryz.ntmps16
 go_wp2_with fail
 have p0 := Blk.new w 32 #[.bool b, .slice a n c, .slice a2 n2 c2]
 have hEW : Ext w (w.alloc (Obj.cells #[.bool b, .slice a n c, .slice a2 n2 c2] 32)) := ((Below.refl _ w).alloc (by simp) _)
 generalize hgW : w.alloc (Obj.cells #[.bool b, .slice a n c, .slice a2 n2 c2] 32) = W at *
 clear hgW
 replace p0_0 := p0.cell (i := 0) rfl
 replace p0_1 := p0.cell (i := 1) rfl
 replace p0_2 := p0.cell (i := 2) rfl
 refine (r3Sign_z b 0 W a n c l d (h1.ext (Nat.le_refl _) hEW) HD).mono ?_
 rintro e w1 ⟨rfl, hE1⟩
 have HE := Lib.hid (Ext.trans hEW hE1)
 clear hEW hE1 h1 p0 p0_0 p0_1 p0_2
 by_cases hd : d = 0
 ·have HF : Hid (s = false) := Lib.hid (by rw [← hs.out]; simpa using hd)
  subst hd
  rw [Int.sign_zero]
  go_wp2_with fail
  go_ret
  exact ⟨by rw [HF.out]; rfl, HE.out⟩
 ·have HF : Hid (s = true) := Lib.hid (by rw [← hs.out]; simpa using hd)
  have hne : (d.sign != 0) = true := by simpa using hd
  generalize d.sign = sg at *
  clear hd
  go_wp2_with fail
  go_ret
  exact ⟨by rw [HF.out]; rfl, HE.out⟩
end Go.Proofs.YtbhenelehhiakaaGreat
namespace Go.Proofs.YtbhenelehhiakaaGreat
open Go.RowKit
def cmpZ (z z2 : Int) : Int := if z < z2 then -1 else if z2 < z then 1 else 0
theorem cmpZ_zero {z z2 : Int} : cmpZ z z2 = 0 ↔ z = z2 := by
 unfold cmpZ
 by_cases h1 : z < z2
 ·rw [if_pos h1]; constructor <;> intro h <;> omega
 ·rw [if_neg h1]
  by_cases h2 : z2 < z
  ·rw [if_pos h2]; constructor <;> intro h <;> omega
  ·rw [if_neg h2]; constructor <;> intro h <;> omega
theorem cmpZ_signs (z z2 : Int) : (z.sign ≠ z2.sign → z.sign < z2.sign → cmpZ z z2 = -1) ∧ (z.sign ≠ z2.sign → ¬ z.sign < z2.sign → cmpZ z z2 = 1) ∧ (z.sign = z2.sign → z.sign < 0 → cmpZ z z2 = cmpI z2.natAbs z.natAbs) ∧ (z.sign = z2.sign → ¬ z.sign < 0 → cmpZ z z2 = cmpI z.natAbs z2.natAbs) := by
 have key : ∀ z : Int, (z < 0 ∧ z.sign = -1) ∨ (z = 0 ∧ z.sign = 0) ∨ (0 < z ∧ z.sign = 1) := fun z => by
  rcases Int.lt_trichotomy z 0 with h | h | h
  ·exact .inl ⟨h, Int.sign_eq_neg_one_of_neg h⟩
  ·exact .inr (.inl ⟨h, by rw [h]; rfl⟩)
  ·exact .inr (.inr ⟨h, Int.sign_eq_one_of_pos h⟩)
 unfold cmpZ cmpI
 rcases key z with ⟨h1, h2⟩ | ⟨h1, h2⟩ | ⟨h1, h2⟩ <;> rcases key z2 with ⟨h3, h4⟩ | ⟨h3, h4⟩ | ⟨h3, h4⟩ <;> rw [h2, h4] <;> refine ⟨fun g1 g2 => ?_, fun g1 g2 => ?_, fun g1 g2 => ?_, fun g1 g2 => ?_⟩ <;> first | omega | (split <;> split <;> first | omega | (split <;> omega) | (repeat' (split <;> try omega)))
theorem zintSign_y (b : Bool) (w : World) (a : Option Addr) (n c : Nat) (l : Nt) (z s : Int) (h : NatS 0 w a n c l) (hn : n ≤ 17592186044416) (hz : Hid (ival b l = z)) (hs : Hid (z.sign = s)) :
  Calls Tryz.prog 86 #[.agg #[.bool b, .slice a n c]] w fun e w' => e = .returned (.int .i64 s) ∧ Ext w w' := by
 have := zintSign_z b 0 w a n c l z h hn hz
 rwa [hs.out] at this
set_option maxHeartbeats 8000000 in
theorem zintCmp_z (b b2 : Bool) (w : World) (a a2 : Option Addr) (n c n2 c2 : Nat) (l l2 : Nt) (z z2 : Int) (h : NatS 0 w a n c l) (h2 : NatS 0 w a2 n2 c2 l2) (hn : n ≤ 17592186044416) (hn2 : n2 ≤ 17592186044416) (hz : Hid (ival b l = z)) (hz2 : Hid (ival b2 l2 = z2)) (r : Int) (hr : Hid (cmpZ z z2 = r)) :
  Calls Tryz.prog 117 #[.agg #[.bool b, .slice a n c], .agg #[.bool b2, .slice a2 n2 c2]] w fun e w' => e = .returned (.int .i64 r) ∧ Ext w w' := by
 obtain ⟨sx, hsx⟩ : ∃ s, z.sign = s := ⟨_, rfl⟩
 obtain ⟨sy, hsy⟩ : ∃ s, z2.sign = s := ⟨_, rfl⟩
 have HX := Lib.hid hsx
 have HY := Lib.hid hsy
 obtain ⟨q1, q2, q3, q4⟩ := cmpZ_signs z z2
 rw [hsx, hsy, hr.out] at q1 q2
 rw [hsx, hsy, hr.out, ival_neg hz.out, ival_neg hz2.out] at q3 q4
 have Q1 := Lib.hid q1
 have Q2 := Lib.hid q2
 have Q3 := Lib.hid q3
 have Q4 := Lib.hid q4
 clear hsx hsy q1 q2 q3 q4
 go_enter Tryz.func117, Tryz.ntmps117
 go_wp2_with fail
 have p0 := Blk.new w 25 #[.bool b, .slice a n c]
 have p1 := Blk.new (w.alloc (Obj.cells #[.bool b, .slice a n c] 25)) 25 #[.bool b2, .slice a2 n2 c2]
 replace p0 := p0.ext ((Below.refl _ _).alloc (Nat.le_refl _) (Obj.cells #[.bool b2, .slice a2 n2 c2] 25))
 have hEW : Ext w ((w.alloc (Obj.cells #[.bool b, .slice a n c] 25)).alloc (Obj.cells #[.bool b2, .slice a2 n2 c2] 25)) := (((Below.refl _ w).alloc (by simp) _).alloc (by simp) _)
 generalize hgW : (w.alloc (Obj.cells #[.bool b, .slice a n c] 25)).alloc (Obj.cells #[.bool b2, .slice a2 n2 c2] 25) = W at *
 clear hgW
 simp only [World.size_alloc] at p1
 have p0_ne_p1 : ¬ w.heap.size = w.heap.size + 1 := by omega
 have p1_ne_p0 : ¬ w.heap.size + 1 = w.heap.size := by omega
 replace p0_0 := p0.cell (i := 0) rfl
 replace p0_1 := p0.cell (i := 1) rfl
 replace p1_0 := p1.cell (i := 0) rfl
 replace p1_1 := p1.cell (i := 1) rfl
 have hd : Ext W W.drew := (Below.refl _ _).drew
 replace p0 := p0.ext hd; replace p0_0 := p0.cell (i := 0) rfl; replace p0_1 := p0.cell (i := 1) rfl; replace p1 := p1.ext hd; replace p1_0 := p1.cell (i := 0) rfl; replace p1_1 := p1.cell (i := 1) rfl
 have h1 := (h.ext (Nat.le_refl _) hEW).ext (Nat.le_refl _) hd
 have h5 := (h2.ext (Nat.le_refl _) hEW).ext (Nat.le_refl _) hd
 have hE0 := Ext.trans hEW hd
 have hsz := hd.size
 clear h h2 hEW hd
 go_region_held3 (fun w' => w'.cell? ⟨w.heap.size, 0, none⟩ = some (.bool b) ∧ w'.cell? ⟨w.heap.size, 1, none⟩ = some (.slice a n c) ∧ w'.cell? ⟨w.heap.size + 1, 0, none⟩ = some (.bool b2) ∧ w'.cell? ⟨w.heap.size + 1, 1, none⟩ = some (.slice a2 n2 c2)) (first | exact ⟨p0_0, p0_1, p1_0, p1_1⟩ | go_keep)
  (first | (go_at_call 86; (with_reducible refine (zintSign_y b _ a n c l z sx h1 hn hz HX).mono ?_); rintro e w1 ⟨rfl, hE1⟩; replace p0 := p0.ext hE1; replace p0_0 := p0.cell (i := 0) rfl; replace p0_1 := p0.cell (i := 1) rfl; replace p1 := p1.ext hE1; replace p1_0 := p1.cell (i := 0) rfl; replace p1_1 := p1.cell (i := 1) rfl; replace h1 := h1.ext (Nat.le_refl _) hE1; replace h5 := h5.ext (Nat.le_refl _) hE1; replace hsz := Nat.le_trans hsz hE1.size; replace hE0 := Ext.trans hE0 hE1)
         | (go_at_call 86; (with_reducible refine (zintSign_y b2 _ a2 n2 c2 l2 z2 sy h5 hn2 hz2 HY).mono ?_); rintro e w1 ⟨rfl, hE1⟩; replace p0 := p0.ext hE1; replace p0_0 := p0.cell (i := 0) rfl; replace p0_1 := p0.cell (i := 1) rfl; replace p1 := p1.ext hE1; replace p1_0 := p1.cell (i := 0) rfl; replace p1_1 := p1.cell (i := 1) rfl; replace h1 := h1.ext (Nat.le_refl _) hE1; replace h5 := h5.ext (Nat.le_refl _) hE1; replace hsz := Nat.le_trans hsz hE1.size; replace hE0 := Ext.trans hE0 hE1))
 all_goals
  have HE := Lib.hid hE0
  clear hE0 hsz hE1
  by_cases g1 : sx = sy
  ·subst g1
   by_cases g2 : sx < 0
   ·have HR : Hid (r = cmpI (val l2) (val l)) := Lib.hid (Q3.out rfl g2)
    have hd2 := decide_eq_true g2
    clear g2
    go_wp2_with fail
    refine (cmp_any 0 _ a2 a n2 c2 n c l2 l h5 h1).mono ?_
    rintro e w9 ⟨rfl, hE9⟩
    have HE9 := Lib.hid (Ext.trans HE.out hE9)
    clear h1 h5 hE9
    rw [← HR.out]
    go_wp2_with fail
    go_ret
    exact ⟨rfl, HE9.out⟩
   ·have HR : Hid (r = cmpI (val l) (val l2)) := Lib.hid (Q4.out rfl (by omega))
    have hd2 := decide_eq_false g2
    clear g2
    go_wp2_with fail
    refine (cmp_any 0 _ a a2 n c n2 c2 l l2 h1 h5).mono ?_
    rintro e w9 ⟨rfl, hE9⟩
    have HE9 := Lib.hid (Ext.trans HE.out hE9)
    clear h1 h5 hE9
    rw [← HR.out]
    go_wp2_with fail
    go_ret
    exact ⟨rfl, HE9.out⟩
  ·have hne : (sx != sy) = true := by simpa using g1
   by_cases g2 : sx < sy
   ·have HR : Hid (r = -1) := Lib.hid (Q1.out g1 g2)
    have hd2 := decide_eq_true g2
    clear g1 g2 h1 h5
    go_wp2_with fail
    go_ret
    exact ⟨by rw [HR.out]; rfl, HE.out⟩
   ·have HR : Hid (r = 1) := Lib.hid (Q2.out g1 (by omega))
    have hd2 := decide_eq_false g2
    clear g1 g2 h1 h5
    go_wp2_with fail
    go_ret
    exact ⟨by rw [HR.out]; rfl, HE.out⟩
end Go.Proofs.YtbhenelehhiakaaGreat
namespace Go.Proofs.YtbhenelehhiakaaGreat
open Go.RowKit
def rowAt (zss : List (List Int)) (i : Nat) : List Int := (zss[i]?).getD []
def RowP (d : Int) (zss : List (List Int)) (d' : Int) (zss' : List (List Int)) (i : Nat) : Prop := (rowAt zss i).length = (rowAt zss' i).length ∧ ∀ k, k < (rowAt zss i).length → entry zss i k * d' = entry zss' i k * d
def SameP (d : Int) (zss : List (List Int)) (d' : Int) (zss' : List (List Int)) : Prop := zss.length = zss'.length ∧ ∀ i, i < zss.length → RowP d zss d' zss' i
theorem sb_false {sb : Bool} {P : Prop} (h : Hid (sb = true ↔ P)) (hn : ¬ P) : sb = false := by
 cases sb with
 | false => rfl
 | true => exact absurd (h.out.1 rfl) hn
set_option maxRecDepth 100000 in
set_option maxHeartbeats 8000000 in
theorem qsame_any (K : Nat) (hK : K + K ≤ 8796093022208) (w : World) (b : Bool) (a a2 : Option Addr) (n c n2 c2 : Nat) (d : Int) (zss : List (List Int)) (h : MatS K w b a n c a2 n2 c2 d zss) (b' : Bool) (a' a2' : Option Addr) (n' c' n2' c2' : Nat) (d' : Int) (zss' : List (List Int)) (h' : MatS K w b' a' n' c' a2' n2' c2' d' zss') (sb : Bool) (hsb : Hid (sb = true ↔ SameP d zss d' zss')) :
  Calls Tryz.prog 83 #[.agg #[.bool b, .slice a n c, .slice a2 n2 c2], .agg #[.bool b', .slice a' n' c', .slice a2' n2' c2']] w fun e w' => e = .returned (.bool sb) ∧ Ext w w' := by
 obtain ⟨l0, g1, g2, g3, g4⟩ := h
 obtain ⟨l0', g1', g2', g3', g4'⟩ := h'
 have G2 := Lib.hid g2
 have G2' := Lib.hid g2'
 have G1 := Lib.hid g1
 have G1' := Lib.hid g1'
 have G4 := Lib.hid g4
 have G4' := Lib.hid g4'
 have HL := Lib.hid g4.len
 have HL' := Lib.hid g4'.len
 have hm1 := g4.most
 have hm2 := g4.cap
 have hm3 := g4'.most
 have hm4 := g4'.cap
 clear g2 g2' g1 g1' g4 g4'
 go_enter Tryz.func83, Tryz.ntmps83
 go_upto_region 1 with (fail)
 have p0 := Blk.new w 28 #[.bool b, .slice a n c, .slice a2 n2 c2]
 have p1 := Blk.new (w.alloc (Obj.cells #[.bool b, .slice a n c, .slice a2 n2 c2] 28)) 28 #[.bool b', .slice a' n' c', .slice a2' n2' c2']
 replace p0 := p0.ext ((Below.refl _ _).alloc (Nat.le_refl _) (Obj.cells #[.bool b', .slice a' n' c', .slice a2' n2' c2'] 28))
 have hEW : Ext w ((w.alloc (Obj.cells #[.bool b, .slice a n c, .slice a2 n2 c2] 28)).alloc (Obj.cells #[.bool b', .slice a' n' c', .slice a2' n2' c2'] 28)) := (((Below.refl _ w).alloc (by simp) _).alloc (by simp) _)
 generalize hgW : (w.alloc (Obj.cells #[.bool b, .slice a n c, .slice a2 n2 c2] 28)).alloc (Obj.cells #[.bool b', .slice a' n' c', .slice a2' n2' c2'] 28) = W at *
 clear hgW
 simp only [World.size_alloc] at p1
 have p0_ne_p1 : ¬ w.heap.size = w.heap.size + 1 := by omega
 have p1_ne_p0 : ¬ w.heap.size + 1 = w.heap.size := by omega
 replace p0_0 := p0.cell (i := 0) rfl
 replace p0_1 := p0.cell (i := 1) rfl
 replace p0_2 := p0.cell (i := 2) rfl
 replace p1_0 := p1.cell (i := 0) rfl
 replace p1_1 := p1.cell (i := 1) rfl
 replace p1_2 := p1.cell (i := 2) rfl
 by_cases hnn : n2 = n2'
 ·subst hnn
  skip
  have HP0 := Lib.hid p0
  have HP1 := Lib.hid p1
  have HEW := Lib.hid hEW
  have hWs := hEW.size
  clear hEW
  go_wp2_with fail
  go_loopg [19] n2 (fun q vi wr => ∃ i : Nat, i ≤ n2 ∧ q = n2 - i ∧ vi = .int .i64 (i : Int) ∧ Hid (∀ j, j < i → RowP d zss d' zss' j) ∧ Hid (Ext W wr))
  case atStart => exact ⟨0, Nat.zero_le _, by omega, rfl, Lib.hid (fun j hj => by omega), Lib.hid (Ext.refl _)⟩
  case round =>
   clear p0 p1 p0_0 p0_1 p0_2 p1_0 p1_1 p1_2
   obtain ⟨i, hi, hq, rfl, HI, HE⟩ := hrel
   have p0 := HP0.out.ext HE.out
   have p1 := HP1.out.ext HE.out
   replace p0_0 := p0.cell (i := 0) rfl
   replace p0_1 := p0.cell (i := 1) rfl
   replace p0_2 := p0.cell (i := 2) rfl
   replace p1_0 := p1.cell (i := 0) rfl
   replace p1_1 := p1.cell (i := 1) rfl
   replace p1_2 := p1.cell (i := 2) rfl
   by_cases hin : i < n2
   ·obtain ⟨b5, o5, a5, n5, c5, x, rfl, hb5, hx, hc5, hX⟩ := Sl.getRow G4.out hin
    obtain ⟨b6, o6, a6, n6, c6, y, rfl, hb6, hy, hc6, hY⟩ := Sl.getRow G4'.out hin
    have HRX : Hid (rowAt zss i = x) := Lib.hid (by unfold rowAt; rw [hx]; rfl)
    have HRY : Hid (rowAt zss' i = y) := Lib.hid (by unfold rowAt; rw [hy]; rfl)
    have HXL := Lib.hid hX.len
    have HYL := Lib.hid hY.len
    have HX := Lib.hid hX
    have HY := Lib.hid hY
    have hm5 := hX.most
    have hm6 := hX.cap
    have hm7 := hY.most
    have hm8 := hY.cap
    have hEwr := Ext.trans HEW.out HE.out
    replace hc5 := cellE hEwr hc5
    replace hc6 := cellE hEwr hc6
    have HC6 := Lib.hid hc6
    have hp1 : (i : Int) < (n2 : Int) := by omega
    clear hx hy hX hY hEwr
    skip
    skip
    by_cases h56 : n5 = n6
    ·subst h56
     go_wp2_with fail
     obtain ⟨wo, rfl⟩ : ∃ wo : World, wo = wr := ⟨_, rfl⟩
     go_loopg [35] n5 (fun q vi wr => ∃ k : Nat, k ≤ n5 ∧ q = n5 - k ∧ vi = .int .i64 (k : Int) ∧ Hid (∀ j, j < k → entry zss i j * d' = entry zss' i j * d) ∧ Hid (Ext wo wr))
     case atStart => exact ⟨0, Nat.zero_le _, by omega, rfl, Lib.hid (fun j hj => by omega), Lib.hid (Ext.refl _)⟩
     case round =>
      clear p0 p1 p0_0 p0_1 p0_2 p1_0 p1_1 p1_2 hc5 hc6
      obtain ⟨k, hk, hq2, rfl, HK, HE2⟩ := hrel
      have HE3 := Lib.hid (Ext.trans HE.out HE2.out)
      by_cases hkn : k < n5
      ·obtain ⟨b7, o7, s7, a7, n7, c7, l7, z7, rfl, hb7, hz7, hc7, hc8, h7, hi7, hn7⟩ := HX.out.getInt (i := k) hkn
       obtain ⟨b8, o8, s8, a8, n8, c8, l8, z8, rfl, hb8, hz8, hd8, hd9, h8, hi8, hn8⟩ := HY.out.getInt (i := k) hkn
       have HZX : Hid (entry zss i k = z7) := Lib.hid (by unfold entry; rw [show (zss[i]?).getD [] = x from HRX.out, hz7]; rfl)
       have HZY : Hid (entry zss' i k = z8) := Lib.hid (by unfold entry; rw [show (zss'[i]?).getD [] = y from HRY.out, hz8]; rfl)
       have HI7 := Lib.hid hi7
       have HI8 := Lib.hid hi8
       obtain ⟨z1, hz1⟩ : ∃ z, z7 * d' = z := ⟨_, rfl⟩
       obtain ⟨z2, hz2⟩ : ∃ z, z8 * d = z := ⟨_, rfl⟩
       obtain ⟨t, ht⟩ : ∃ t, cmpZ z1 z2 = t := ⟨_, rfl⟩
       have HZ1 := Lib.hid hz1
       have HZ2 := Lib.hid hz2
       have HT := Lib.hid ht
       have hEww := Ext.trans HEW.out HE3.out
       replace hc7 := cellE hEww hc7
       replace hc8 := cellE hEww hc8
       replace hd8 := cellE hEww hd8
       replace hd9 := cellE hEww hd9
       have hc6 := cellE HE2.out HC6.out
       have p0 := HP0.out.ext HE3.out
       have p1 := HP1.out.ext HE3.out
       replace p0_0 := p0.cell (i := 0) rfl
       replace p0_1 := p0.cell (i := 1) rfl
       replace p0_2 := p0.cell (i := 2) rfl
       replace p1_0 := p1.cell (i := 0) rfl
       replace p1_1 := p1.cell (i := 1) rfl
       replace p1_2 := p1.cell (i := 2) rfl
       have hp2 : (k : Int) < (n5 : Int) := by omega
       clear hz7 hz8 hi7 hi8 hz1 hz2 ht
       go_upto_region 11 with (fail)
       have x0 := Blk.new wr 25 #[.bool s7, .slice a7 n7 c7]
       have hEW4 : Ext wr (wr.alloc (Obj.cells #[.bool s7, .slice a7 n7 c7] 25)) := ((Below.refl _ wr).alloc (by simp) _)
       generalize hgW4 : wr.alloc (Obj.cells #[.bool s7, .slice a7 n7 c7] 25) = W4 at *
       clear hgW4
       replace x0_0 := x0.cell (i := 0) rfl
       replace x0_1 := x0.cell (i := 1) rfl
       have hd : Ext W4 W4.drew := (Below.refl _ _).drew
       have hE0 := Ext.trans hEW4 hd
       replace hc6 := cellE hE0 hc6
       replace hd8 := cellE hE0 hd8
       replace hd9 := cellE hE0 hd9
       replace p0 := p0.ext hE0; replace p0_0 := p0.cell (i := 0) rfl; replace p0_1 := p0.cell (i := 1) rfl; replace p0_2 := p0.cell (i := 2) rfl; replace p1 := p1.ext hE0; replace p1_0 := p1.cell (i := 0) rfl; replace p1_1 := p1.cell (i := 1) rfl; replace p1_2 := p1.cell (i := 2) rfl
       replace x0 := x0.ext hd; replace x0_0 := x0.cell (i := 0) rfl; replace x0_1 := x0.cell (i := 1) rfl
       replace h7 := h7.ext (Nat.le_refl _) (Ext.trans hEww hE0)
       replace h8 := h8.ext (Nat.le_refl _) (Ext.trans hEww hE0)
       have g1 := G1.out.ext (Nat.le_refl _) (Ext.trans hEww hE0)
       have g1' := G1'.out.ext (Nat.le_refl _) (Ext.trans hEww hE0)
       have hsz := hE0.size
       clear hc7 hc8 hd hEW4 hEww
       go_region_held3 (fun w' => w'.cell? ⟨b6, o6 + i, none⟩ = some (.slice (some ⟨b8, o8, none⟩) n5 c6) ∧ w'.cell? ⟨b8, o8 + k * 2, none⟩ = some (.bool s8) ∧ w'.cell? ⟨b8, o8 + k * 2 + 1, none⟩ = some (.slice a8 n8 c8) ∧ w'.cell? ⟨wr.heap.size, 0, none⟩ = some (.bool s7) ∧ w'.cell? ⟨wr.heap.size, 1, none⟩ = some (.slice a7 n7 c7) ∧ w'.cell? ⟨w.heap.size, 0, none⟩ = some (.bool b) ∧ w'.cell? ⟨w.heap.size, 1, none⟩ = some (.slice a n c) ∧ w'.cell? ⟨w.heap.size, 2, none⟩ = some (.slice (some ⟨b5, o5, none⟩) n2 c2) ∧ w'.cell? ⟨w.heap.size + 1, 0, none⟩ = some (.bool b') ∧ w'.cell? ⟨w.heap.size + 1, 1, none⟩ = some (.slice a' n' c') ∧ w'.cell? ⟨w.heap.size + 1, 2, none⟩ = some (.slice (some ⟨b6, o6, none⟩) n2 c2')) (first | exact ⟨hc6, hd8, hd9, x0_0, x0_1, p0_0, p0_1, p0_2, p1_0, p1_1, p1_2⟩ | go_keep)
        (first
        | (go_at_call 71; (with_reducible refine (zmul_b s7 b' _ a7 a' n7 c7 n' c' l7 l0' _ d' h7 g1' hn7 g3' hK HI7 G2' z1 HZ1).mono ?_); rintro e w1 ⟨s9, a9, n9, c9, rfl, h9, HV9, hn9, hE1⟩; replace x0 := x0.ext hE1; replace x0_0 := x0.cell (i := 0) rfl; replace x0_1 := x0.cell (i := 1) rfl; replace p0 := p0.ext hE1; replace p0_0 := p0.cell (i := 0) rfl; replace p0_1 := p0.cell (i := 1) rfl; replace p0_2 := p0.cell (i := 2) rfl; replace p1 := p1.ext hE1; replace p1_0 := p1.cell (i := 0) rfl; replace p1_1 := p1.cell (i := 1) rfl; replace p1_2 := p1.cell (i := 2) rfl; replace hc6 := cellE hE1 hc6; replace hd8 := cellE hE1 hd8; replace hd9 := cellE hE1 hd9; (try replace h10 := h10.ext (Nat.le_refl _) hE1); replace h7 := h7.ext (Nat.le_refl _) hE1; replace h8 := h8.ext (Nat.le_refl _) hE1; replace g1 := g1.ext (Nat.le_refl _) hE1; replace g1' := g1'.ext (Nat.le_refl _) hE1; replace h9 := h9.mono hsz (Kept.refl _ _); replace hsz := Nat.le_trans hsz hE1.size; replace hE0 := Ext.trans hE0 hE1)
        | (go_at_call 71; (with_reducible refine (zmul_b s8 b _ a8 a n8 c8 n c l8 l0 _ d h8 g1 hn8 g3 hK HI8 G2 z2 HZ2).mono ?_); rintro e w1 ⟨s10, a10, n10, c10, rfl, h10, HV10, hn10, hE1⟩; replace x0 := x0.ext hE1; replace x0_0 := x0.cell (i := 0) rfl; replace x0_1 := x0.cell (i := 1) rfl; replace p0 := p0.ext hE1; replace p0_0 := p0.cell (i := 0) rfl; replace p0_1 := p0.cell (i := 1) rfl; replace p0_2 := p0.cell (i := 2) rfl; replace p1 := p1.ext hE1; replace p1_0 := p1.cell (i := 0) rfl; replace p1_1 := p1.cell (i := 1) rfl; replace p1_2 := p1.cell (i := 2) rfl; replace hc6 := cellE hE1 hc6; replace hd8 := cellE hE1 hd8; replace hd9 := cellE hE1 hd9; (try replace h9 := h9.ext (Nat.le_refl _) hE1); replace h7 := h7.ext (Nat.le_refl _) hE1; replace h8 := h8.ext (Nat.le_refl _) hE1; replace g1 := g1.ext (Nat.le_refl _) hE1; replace g1' := g1'.ext (Nat.le_refl _) hE1; replace h10 := h10.mono hsz (Kept.refl _ _); replace hsz := Nat.le_trans hsz hE1.size; replace hE0 := Ext.trans hE0 hE1)
        | (go_at_call 117; (with_reducible refine (zintCmp_z s9 s10 _ a9 a10 n9 c9 n10 c10 _ _ z1 z2 (h9.mono (Nat.zero_le _) (Kept.refl _ _)) (h10.mono (Nat.zero_le _) (Kept.refl _ _)) (by omega) (by omega) HV9 HV10 t HT).mono ?_); rintro e w1 ⟨rfl, hE1⟩; replace x0 := x0.ext hE1; replace x0_0 := x0.cell (i := 0) rfl; replace x0_1 := x0.cell (i := 1) rfl; replace p0 := p0.ext hE1; replace p0_0 := p0.cell (i := 0) rfl; replace p0_1 := p0.cell (i := 1) rfl; replace p0_2 := p0.cell (i := 2) rfl; replace p1 := p1.ext hE1; replace p1_0 := p1.cell (i := 0) rfl; replace p1_1 := p1.cell (i := 1) rfl; replace p1_2 := p1.cell (i := 2) rfl; replace hc6 := cellE hE1 hc6; replace hd8 := cellE hE1 hd8; replace hd9 := cellE hE1 hd9; replace hsz := Nat.le_trans hsz hE1.size; replace hE0 := Ext.trans hE0 hE1))
       all_goals
        have HE4 := Lib.hid (Ext.trans HE2.out hE0)
        have HE5 := Lib.hid (Ext.trans HEW.out (Ext.trans HE.out HE4.out))
        clear hE0 hE1 hsz h7 h8 g1 g1' h9 h10 HV9 HV10 p0 p1 p0_0 p0_1 p0_2 p1_0 p1_1 p1_2 x0 x0_0 x0_1 hc6 hd8 hd9
        by_cases ht0 : t = 0
        ·subst ht0
         have HQ : Hid (entry zss i k * d' = entry zss' i k * d) := Lib.hid (by rw [HZX.out, HZY.out, HZ1.out, HZ2.out]; exact cmpZ_zero.1 HT.out)
         go_wp2_with fail
         go_roundg (n5 - (k + 1))
         case measure => omega
         case rel => exact ⟨k + 1, by omega, rfl, by go_num, Lib.hid (fun j hj => by
          by_cases hjk : j < k
          ·exact HK.out j hjk
          ·obtain rfl : j = k := by omega
           exact HQ.out), HE4⟩
        ·have hne : (t != 0) = true := by simpa using ht0
         have HF : Hid (sb = false) := Lib.hid (sb_false hsb (fun hP => ht0 (by
          rw [← HT.out]
          refine cmpZ_zero.2 ?_
          have := (hP.2 i (by rw [HL.out]; exact hin)).2 k (by rw [HRX.out, HXL.out]; exact hkn)
          rw [HZX.out, HZY.out, HZ1.out, HZ2.out] at this
          exact this)))
         clear ht0
         go_wp2_with fail
         go_ret
         exact ⟨by rw [HF.out]; rfl, HE5.out⟩
      ·obtain rfl : k = n5 := by omega
       go_wp2_with fail
       go_roundg (n2 - (i + 1))
       case measure => omega
       case rel => exact ⟨i + 1, by omega, rfl, by go_num, Lib.hid (fun j hj => by
        by_cases hji : j < i
        ·exact HI.out j hji
        ·obtain rfl : j = i := by omega
         exact ⟨by rw [HRX.out, HRY.out, HXL.out, HYL.out], fun k hk => HK.out k (by rw [HRX.out, HXL.out] at hk; exact hk)⟩), HE3⟩
    ·have hne : ((n5 : Int) != (n6 : Int)) = true := by simp; omega
     have HF : Hid (sb = false) := Lib.hid (sb_false hsb (fun hP => h56 (by
      have := (hP.2 i (by rw [HL.out]; exact hin)).1
      rw [HRX.out, HRY.out, HXL.out, HYL.out] at this
      exact this)))
     have HE5 := Lib.hid (Ext.trans HEW.out HE.out)
     clear h56
     go_wp2_with fail
     go_ret
     exact ⟨by rw [HF.out]; rfl, HE5.out⟩
   ·obtain rfl : i = n2 := by omega
    have HF : Hid (sb = true) := Lib.hid (hsb.out.2 ⟨by rw [HL.out, HL'.out], fun j hj => HI.out j (by rw [HL.out] at hj; exact hj)⟩)
    have HE5 := Lib.hid (Ext.trans HEW.out HE.out)
    go_wp2_with fail
    go_ret
    exact ⟨by rw [HF.out]; rfl, HE5.out⟩
 ·have hne : ((n2 : Int) != (n2' : Int)) = true := by simp; omega
  have HF : Hid (sb = false) := Lib.hid (sb_false hsb (fun hP => hnn (by
   have := hP.1
   rw [HL.out, HL'.out] at this
   exact this)))
  have HE := Lib.hid hEW
  clear hnn hEW
  go_wp2_with fail
  go_ret
  exact ⟨by rw [HF.out]; rfl, HE.out⟩
end Go.Proofs.YtbhenelehhiakaaGreat
namespace Go.Proofs.YtbhenelehhiakaaGreat
open Go.RowKit
theorem ratv_eq {z d z' d' : Int} (hd : d ≠ 0) (hd' : d' ≠ 0) : ratv z d = ratv z' d' ↔ z * d' = z' * d := Rat.divInt_eq_divInt_iff hd hd'
theorem sameP_iff {d d' : Int} (hd : d ≠ 0) (hd' : d' ≠ 0) (zss zss' : List (List Int)) : SameP d zss d' zss' ↔ fracs d zss = fracs d' zss' := by
 constructor
 ·rintro ⟨h1, h2⟩
  refine List.ext_getElem (by simp [fracs, h1]) fun i g1 g2 => ?_
  have hi : i < zss.length := by simpa [fracs] using g1
  have hi' : i < zss'.length := by omega
  obtain ⟨h3, h4⟩ := h2 i hi
  have e1 : rowAt zss i = zss[i] := by unfold rowAt; rw [List.getElem?_eq_getElem hi]; rfl
  have e2 : rowAt zss' i = zss'[i] := by unfold rowAt; rw [List.getElem?_eq_getElem hi']; rfl
  rw [e1, e2] at h3
  rw [e1] at h4
  simp only [fracs, List.getElem_map]
  refine List.ext_getElem (by simp [h3]) fun k g3 g4 => ?_
  have hk : k < zss[i].length := by simpa using g3
  have hk' : k < zss'[i].length := by omega
  rw [List.getElem_map, List.getElem_map]
  refine (ratv_eq hd hd').2 ?_
  have := h4 k hk
  unfold entry at this
  rw [List.getElem?_eq_getElem hi, List.getElem?_eq_getElem hi'] at this
  simpa [List.getElem?_eq_getElem hk, List.getElem?_eq_getElem hk'] using this
 ·intro h
  have hl : zss.length = zss'.length := by simpa [fracs] using congrArg List.length h
  refine ⟨hl, fun i hi => ?_⟩
  have hi' : i < zss'.length := by omega
  have hr : (fracs d zss)[i]? = (fracs d' zss')[i]? := by rw [h]
  have e1 : rowAt zss i = zss[i] := by unfold rowAt; rw [List.getElem?_eq_getElem hi]; rfl
  have e2 : rowAt zss' i = zss'[i] := by unfold rowAt; rw [List.getElem?_eq_getElem hi']; rfl
  simp only [fracs, List.getElem?_map, List.getElem?_eq_getElem hi, List.getElem?_eq_getElem hi', Option.map_some, Option.some.injEq] at hr
  have hl2 : zss[i].length = zss'[i].length := by simpa using congrArg List.length hr
  refine ⟨by rw [e1, e2, hl2], fun k hk => ?_⟩
  rw [e1] at hk
  have hk' : k < zss'[i].length := by omega
  have hq : (zss[i].map fun z => ratv z d)[k]? = (zss'[i].map fun z => ratv z d')[k]? := by rw [hr]
  simp only [List.getElem?_map, List.getElem?_eq_getElem hk, List.getElem?_eq_getElem hk', Option.map_some, Option.some.injEq] at hq
  unfold entry
  rw [List.getElem?_eq_getElem hi, List.getElem?_eq_getElem hi']
  simpa [List.getElem?_eq_getElem hk, List.getElem?_eq_getElem hk'] using (ratv_eq hd hd').1 hq
theorem frV_fracs (d d' : Int) (zs zs' : List Int) : fracs d [zs] = fracs d' [zs'] ↔ frV d zs = frV d' zs' := by
 show [frV d zs] = [frV d' zs'] ↔ _
 simp
theorem VecS.row {K : Nat} {w : World} {b : Bool} {a a2 : Option Addr} {n c n2 c2 g : Nat} {d : Int} {zs : List Int} {t : TypeId} (h : VecS K w b a n c a2 n2 c2 d zs) (hg : Blk w g t #[.slice a2 n2 c2]) : MatS K w b a n c (some ⟨g, 0, none⟩) 1 1 d [zs] := by
 obtain ⟨l, h1, h2, h3, h4⟩ := h
 exact ⟨l, h1, h2, h3, one_row hg h4⟩
set_option maxRecDepth 100000 in
set_option maxHeartbeats 4000000 in
theorem vecEqual_any (K : Nat) (hK : K + K ≤ 8796093022208) (w : World) (b : Bool) (a a2 : Option Addr) (n c n2 c2 : Nat) (x : Int × List Int) (h : VecS K w b a n c a2 n2 c2 x.1 x.2) (b' : Bool) (a' a2' : Option Addr) (n' c' n2' c2' : Nat) (y : Int × List Int) (h' : VecS K w b' a' n' c' a2' n2' c2' y.1 y.2) (s : Int) (hs : Hid (vecsE [x, y] = s)) (sb : Bool) (hsb : Hid (sb = true ↔ s = 0 ∧ frV x.1 x.2 = frV y.1 y.2)) :
  Calls Tryz.prog 52 #[.agg #[.bool b, .slice a n c, .slice a2 n2 c2], .agg #[.bool b', .slice a' n' c', .slice a2' n2' c2']] w fun e w' => e = .returned (.tuple #[.bool sb, .int .i64 s]) ∧ Ext w w' := by
 go_enter Tryz.func52, Tryz.ntmps52
 go_wp2_with fail
 have p0 := Blk.new w 32 #[.bool b, .slice a n c, .slice a2 n2 c2]
 have p1 := Blk.new (w.alloc (Obj.cells #[.bool b, .slice a n c, .slice a2 n2 c2] 32)) 32 #[.bool b', .slice a' n' c', .slice a2' n2' c2']
 replace p0 := p0.ext ((Below.refl _ _).alloc (Nat.le_refl _) (Obj.cells #[.bool b', .slice a' n' c', .slice a2' n2' c2'] 32))
 have y0 := Blk.new ((w.alloc (Obj.cells #[.bool b, .slice a n c, .slice a2 n2 c2] 32)).alloc (Obj.cells #[.bool b', .slice a' n' c', .slice a2' n2' c2'] 32)) 32 #[.bool b, .slice a n c, .slice a2 n2 c2, .bool b', .slice a' n' c', .slice a2' n2' c2']
 replace p0 := p0.ext ((Below.refl _ _).alloc (Nat.le_refl _) (Obj.cells #[.bool b, .slice a n c, .slice a2 n2 c2, .bool b', .slice a' n' c', .slice a2' n2' c2'] 32))
 replace p1 := p1.ext ((Below.refl _ _).alloc (Nat.le_refl _) (Obj.cells #[.bool b, .slice a n c, .slice a2 n2 c2, .bool b', .slice a' n' c', .slice a2' n2' c2'] 32))
 have hEW : Ext w (((w.alloc (Obj.cells #[.bool b, .slice a n c, .slice a2 n2 c2] 32)).alloc (Obj.cells #[.bool b', .slice a' n' c', .slice a2' n2' c2'] 32)).alloc (Obj.cells #[.bool b, .slice a n c, .slice a2 n2 c2, .bool b', .slice a' n' c', .slice a2' n2' c2'] 32)) := ((((Below.refl _ w).alloc (by simp) _).alloc (by simp) _).alloc (by simp; omega) _)
 generalize hgW : ((w.alloc (Obj.cells #[.bool b, .slice a n c, .slice a2 n2 c2] 32)).alloc (Obj.cells #[.bool b', .slice a' n' c', .slice a2' n2' c2'] 32)).alloc (Obj.cells #[.bool b, .slice a n c, .slice a2 n2 c2, .bool b', .slice a' n' c', .slice a2' n2' c2'] 32) = W at *
 clear hgW
 simp only [World.size_alloc] at p1 y0
 have p0_ne_p1 : ¬ w.heap.size = w.heap.size + 1 := by omega
 have p0_ne_y0 : ¬ w.heap.size = w.heap.size + 1 + 1 := by omega
 have p1_ne_p0 : ¬ w.heap.size + 1 = w.heap.size := by omega
 have p1_ne_y0 : ¬ w.heap.size + 1 = w.heap.size + 1 + 1 := by omega
 have y0_ne_p0 : ¬ w.heap.size + 1 + 1 = w.heap.size := by omega
 have y0_ne_p1 : ¬ w.heap.size + 1 + 1 = w.heap.size + 1 := by omega
 replace p0_0 := p0.cell (i := 0) rfl
 replace p0_1 := p0.cell (i := 1) rfl
 replace p0_2 := p0.cell (i := 2) rfl
 replace p1_0 := p1.cell (i := 0) rfl
 replace p1_1 := p1.cell (i := 1) rfl
 replace p1_2 := p1.cell (i := 2) rfl
 replace y0_0 := y0.cell (i := 0) rfl
 replace y0_1 := y0.cell (i := 1) rfl
 replace y0_2 := y0.cell (i := 2) rfl
 replace y0_3 := y0.cell (i := 3) rfl
 replace y0_4 := y0.cell (i := 4) rfl
 replace y0_5 := y0.cell (i := 5) rfl
 (with_reducible refine (vecCheck_any K (by omega) W (some ⟨w.heap.size + 1 + 1, 0, none⟩) 2 2 [x, y] (two_vec y0 (h.ext hEW) (h'.ext hEW)) s hs).mono ?_)
 rintro e w1 ⟨rfl, hE1⟩
 replace p0 := p0.ext hE1; replace p0_0 := p0.cell (i := 0) rfl; replace p0_1 := p0.cell (i := 1) rfl; replace p0_2 := p0.cell (i := 2) rfl; replace p1 := p1.ext hE1; replace p1_0 := p1.cell (i := 0) rfl; replace p1_1 := p1.cell (i := 1) rfl; replace p1_2 := p1.cell (i := 2) rfl
 have hE0 := Ext.trans hEW hE1
 have HE := Lib.hid hE0
 clear y0 y0_0 y0_1 y0_2 y0_3 y0_4 y0_5 hEW hE1 hE0
 by_cases h0 : s = 0
 ·subst h0
  have hx := vecsE_zero hs.out x (by simp)
  have hy := vecsE_zero hs.out y (by simp)
  have HSB : Hid (sb = true ↔ SameP x.1 [x.2] y.1 [y.2]) := Lib.hid (by rw [hsb.out, sameP_iff hx hy, frV_fracs]; simp)
  clear hx hy
  have p1_a0 := cell_alloc p1_0 (Obj.cells #[.slice a2 n2 c2] 30)
  have p1_a1 := cell_alloc p1_1 (Obj.cells #[.slice a2 n2 c2] 30)
  have p1_a2 := cell_alloc p1_2 (Obj.cells #[.slice a2 n2 c2] 30)
  go_wp2_with fail
  have y1 := Blk.new w1 30 #[.slice a2 n2 c2]
  have y2 := Blk.new (w1.alloc (Obj.cells #[.slice a2 n2 c2] 30)) 30 #[.slice a2' n2' c2']
  replace y1 := y1.ext ((Below.refl _ _).alloc (Nat.le_refl _) (Obj.cells #[.slice a2' n2' c2'] 30))
  have hEW2 : Ext w1 ((w1.alloc (Obj.cells #[.slice a2 n2 c2] 30)).alloc (Obj.cells #[.slice a2' n2' c2'] 30)) := (((Below.refl _ w1).alloc (by simp) _).alloc (by simp) _)
  generalize hgW2 : (w1.alloc (Obj.cells #[.slice a2 n2 c2] 30)).alloc (Obj.cells #[.slice a2' n2' c2'] 30) = W2 at *
  clear hgW2
  simp only [World.size_alloc] at y2
  have y1_ne_y2 : ¬ w1.heap.size = w1.heap.size + 1 := by omega
  have y2_ne_y1 : ¬ w1.heap.size + 1 = w1.heap.size := by omega
  replace y1_0 := y1.cell (i := 0) rfl
  replace y2_0 := y2.cell (i := 0) rfl
  have hE2 := Ext.trans HE.out hEW2
  (with_reducible refine (qsame_any K hK W2 b a _ n c 1 1 x.1 [x.2] ((h.ext hE2).row y1) b' a' _ n' c' 1 1 y.1 [y.2] ((h'.ext hE2).row y2) sb HSB).mono ?_)
  rintro e w3 ⟨rfl, hE3⟩
  have HE2 := Lib.hid (Ext.trans hE2 hE3)
  clear hE2 hE3 hEW2 h h' p1_a0 p1_a1 p1_a2 p0 p1 p0_0 p0_1 p0_2 p1_0 p1_1 p1_2 y1 y2 y1_0 y2_0
  go_wp2_with fail
  go_ret2
  exact ⟨rfl, HE2.out⟩
 ·have hne : (s != 0) = true := by simpa using h0
  have HF : Hid (sb = false) := Lib.hid (sb_false hsb (fun hP => h0 hP.1))
  clear h0 h h'
  go_wp2_with fail
  go_ret2
  exact ⟨by rw [HF.out]; rfl, HE.out⟩
end Go.Proofs.YtbhenelehhiakaaGreat
namespace Go.Proofs.YtbhenelehhiakaaGreat
open Go.RowKit
theorem rFr_ext {K : Nat} {w w' : World} {cs : List Value} {q : Int × Int} (h : (rFr K).ok 0 w cs q) (hE : Ext w w') : (rFr K).ok 0 w' cs q := (rFr K).mono h (Nat.le_refl _) (Ext.kept hE)
end Go.Proofs.YtbhenelehhiakaaGreat
namespace Go.Proofs.YtbhenelehhiakaaGreat
open Go.RowKit
theorem kept_step {B q i : Nat} {w w' : World} {v : Value} (h : Kept B w w') (hq : q < B ∨ w.heap.size ≤ q) : Kept B w (w'.setCell ⟨q, i, none⟩ v) := fun b o u hc => by
 have hb := hc.ge
 have hl : b < w.heap.size := cel_lt hc
 have hc2 := h b o u hc
 have hne : b ≠ q := by omega
 exact ⟨hc2.ge, (World.cell?_setCell_far _ _ _ _ (fun e => hne e.symm)).trans hc2.cell, by rw [World.frozen?_setCell]; exact hc2.free⟩
end Go.Proofs.YtbhenelehhiakaaGreat
