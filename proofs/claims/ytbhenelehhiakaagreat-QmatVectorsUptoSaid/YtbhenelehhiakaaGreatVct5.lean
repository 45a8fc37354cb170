/-
  The references' integers, part 2: Add, Sub, Trunc, Exact.
-/
import Derived.Test.YtbhenelehhiakaaGreatVct4
import Derived.Deep.RegionWith
set_option linter.unusedVariables false
set_option linter.unusedSimpArgs false
namespace Go.Proofs.YtbhenelehhiakaaGreat
open Go.RowKit
theorem ival_limbs (b : Bool) (m : Nat) : ival b (limbs m) = if b then -(m : Int) else (m : Int) := by unfold ival; rw [val_limbs]
set_option maxHeartbeats 8000000 in
theorem r3Add_z (b b2 : Bool) (B : Nat) (w : World) (a a2 : Option Addr) (n c n2 c2 : Nat) (l l2 : Nt) (z z2 : Int) (h : NatS B w a n c l) (h2 : NatS B w a2 n2 c2 l2) (hn : n ≤ 4398046511104) (hn2 : n2 ≤ 4398046511104) (hz : Hid (ival b l = z)) (hz2 : Hid (ival b2 l2 = z2)) :
  Calls Tryz.prog 129 #[.agg #[.bool b, .slice a n c], .agg #[.bool b2, .slice a2 n2 c2]] w (RInt w (z + z2)) := by
 have hnz : nl z.natAbs ≤ 4398046511104 := Nat.le_trans (nl_of h hz) hn
 have hnz2 : nl z2.natAbs ≤ 4398046511104 := Nat.le_trans (nl_of h2 hz2) hn2
 go_enter Tryz.func129, Tryz.ntmps129
 go_wp2_with fail
 have p0 := Blk.new w 25 #[.bool b, .slice a n c]
 have p1 := Blk.new (w.alloc (Obj.cells #[.bool b, .slice a n c] 25)) 25 #[.bool b2, .slice a2 n2 c2]
 replace p0 := p0.ext ((Below.refl _ _).alloc (Nat.le_refl _) (Obj.cells #[.bool b2, .slice a2 n2 c2] 25))
 have r := Blk.new ((w.alloc (Obj.cells #[.bool b, .slice a n c] 25)).alloc (Obj.cells #[.bool b2, .slice a2 n2 c2] 25)) 25 #[.bool false, .slice none 0 0]
 replace p0 := p0.ext ((Below.refl _ _).alloc (Nat.le_refl _) (Obj.cells #[.bool false, .slice none 0 0] 25))
 replace p1 := p1.ext ((Below.refl _ _).alloc (Nat.le_refl _) (Obj.cells #[.bool false, .slice none 0 0] 25))
 have hEW : Ext w (((w.alloc (Obj.cells #[.bool b, .slice a n c] 25)).alloc (Obj.cells #[.bool b2, .slice a2 n2 c2] 25)).alloc (Obj.cells #[.bool false, .slice none 0 0] 25)) := ((((Below.refl _ w).alloc (by simp) _).alloc (by simp) _).alloc (by simp; omega) _)
 generalize hgW : ((w.alloc (Obj.cells #[.bool b, .slice a n c] 25)).alloc (Obj.cells #[.bool b2, .slice a2 n2 c2] 25)).alloc (Obj.cells #[.bool false, .slice none 0 0] 25) = W at *
 clear hgW
 simp only [World.size_alloc] at p1 r
 have p0_ne_p1 : ¬ w.heap.size = w.heap.size + 1 := by omega
 have p0_ne_r : ¬ w.heap.size = w.heap.size + 1 + 1 := by omega
 have p1_ne_p0 : ¬ w.heap.size + 1 = w.heap.size := by omega
 have p1_ne_r : ¬ w.heap.size + 1 = w.heap.size + 1 + 1 := by omega
 have r_ne_p0 : ¬ w.heap.size + 1 + 1 = w.heap.size := by omega
 have r_ne_p1 : ¬ w.heap.size + 1 + 1 = w.heap.size + 1 := by omega
 replace p0_0 := p0.cell (i := 0) rfl
 replace p0_1 := p0.cell (i := 1) rfl
 replace p0_f0 := p0.free 0
 replace p0_f1 := p0.free 1
 replace p0_lt := p0.lt
 replace p1_0 := p1.cell (i := 0) rfl
 replace p1_1 := p1.cell (i := 1) rfl
 replace p1_f0 := p1.free 0
 replace p1_f1 := p1.free 1
 replace p1_lt := p1.lt
 replace r_0 := r.cell (i := 0) rfl
 replace r_1 := r.cell (i := 1) rfl
 replace r_f0 := r.free 0
 replace r_f1 := r.free 1
 replace r_lt := r.lt
 have hW : w.heap.size + 1 + 1 + 1 ≤ W.heap.size := r_lt
 have hd : Ext W W.drew := (Below.refl _ _).drew
 replace p0 := p0.ext hd; replace p0_0 := p0.cell (i := 0) rfl; replace p0_1 := p0.cell (i := 1) rfl; replace p0_f0 := p0.free 0; replace p0_f1 := p0.free 1; replace p0_lt := p0.lt; replace p1 := p1.ext hd; replace p1_0 := p1.cell (i := 0) rfl; replace p1_1 := p1.cell (i := 1) rfl; replace p1_f0 := p1.free 0; replace p1_f1 := p1.free 1; replace p1_lt := p1.lt; replace r := r.ext hd; replace r_0 := r.cell (i := 0) rfl; replace r_1 := r.cell (i := 1) rfl; replace r_f0 := r.free 0; replace r_f1 := r.free 1; replace r_lt := r.lt
 have h1 := (h.ext (Nat.le_refl _) hEW).ext (Nat.le_refl _) hd
 have h5 := (h2.ext (Nat.le_refl _) hEW).ext (Nat.le_refl _) hd
 have hE0 := Ext.trans hEW hd
 have hsz := hd.size
 clear h h2
 go_region_with
  (first | (go_at_call 142; (with_reducible refine (r3Norm_z b _ _ _ _ _ _ z h1 (by omega) hz).mono ?_); rintro e w1 ⟨a3, n3, c3, rfl, h3, hE1⟩; replace p0 := p0.ext hE1; replace p0_0 := p0.cell (i := 0) rfl; replace p0_1 := p0.cell (i := 1) rfl; replace p0_f0 := p0.free 0; replace p0_f1 := p0.free 1; replace p0_lt := p0.lt; replace p1 := p1.ext hE1; replace p1_0 := p1.cell (i := 0) rfl; replace p1_1 := p1.cell (i := 1) rfl; replace p1_f0 := p1.free 0; replace p1_f1 := p1.free 1; replace p1_lt := p1.lt; replace r := r.ext hE1; replace r_0 := r.cell (i := 0) rfl; replace r_1 := r.cell (i := 1) rfl; replace r_f0 := r.free 0; replace r_f1 := r.free 1; replace r_lt := r.lt; replace h1 := h1.ext (Nat.le_refl _) hE1; replace h5 := h5.ext (Nat.le_refl _) hE1; (try replace h4 := h4.ext (Nat.le_refl _) hE1); replace h3 := h3.mono hsz (Kept.refl _ _); replace hsz := Nat.le_trans hsz hE1.size; replace hE0 := Ext.trans hE0 hE1)
         | (go_at_call 142; (with_reducible refine (r3Norm_z b2 _ _ _ _ _ _ z2 h5 (by omega) hz2).mono ?_); rintro e w1 ⟨a4, n4, c4, rfl, h4, hE1⟩; replace p0 := p0.ext hE1; replace p0_0 := p0.cell (i := 0) rfl; replace p0_1 := p0.cell (i := 1) rfl; replace p0_f0 := p0.free 0; replace p0_f1 := p0.free 1; replace p0_lt := p0.lt; replace p1 := p1.ext hE1; replace p1_0 := p1.cell (i := 0) rfl; replace p1_1 := p1.cell (i := 1) rfl; replace p1_f0 := p1.free 0; replace p1_f1 := p1.free 1; replace p1_lt := p1.lt; replace r := r.ext hE1; replace r_0 := r.cell (i := 0) rfl; replace r_1 := r.cell (i := 1) rfl; replace r_f0 := r.free 0; replace r_f1 := r.free 1; replace r_lt := r.lt; replace h1 := h1.ext (Nat.le_refl _) hE1; replace h5 := h5.ext (Nat.le_refl _) hE1; (try replace h3 := h3.ext (Nat.le_refl _) hE1); replace h4 := h4.mono hsz (Kept.refl _ _); replace hsz := Nat.le_trans hsz hE1.size; replace hE0 := Ext.trans hE0 hE1))
 all_goals
  have hn3 : nl z.natAbs = n3 := h3.len
  have hn4 : nl z2.natAbs = n4 := h4.len
  have hrB := r_lt
  replace p0 := p0.set 0 (.bool (decide (z < 0)))
  replace p1 := p1.set_ne 0 (.bool (decide (z < 0))) (show w.heap.size + 1 ≠ w.heap.size by omega)
  replace r := r.set_ne 0 (.bool (decide (z < 0))) (show w.heap.size + 1 + 1 ≠ w.heap.size by omega)
  replace p0 := p0.set 1 (.slice a3 n3 c3)
  replace p1 := p1.set_ne 1 (.slice a3 n3 c3) (show w.heap.size + 1 ≠ w.heap.size by omega)
  replace r := r.set_ne 1 (.slice a3 n3 c3) (show w.heap.size + 1 + 1 ≠ w.heap.size by omega)
  replace p0 := p0.set_ne 0 (.bool (decide (z2 < 0))) (show w.heap.size ≠ w.heap.size + 1 by omega)
  replace p1 := p1.set 0 (.bool (decide (z2 < 0)))
  replace r := r.set_ne 0 (.bool (decide (z2 < 0))) (show w.heap.size + 1 + 1 ≠ w.heap.size + 1 by omega)
  replace p0 := p0.set_ne 1 (.slice a4 n4 c4) (show w.heap.size ≠ w.heap.size + 1 by omega)
  replace p1 := p1.set 1 (.slice a4 n4 c4)
  replace r := r.set_ne 1 (.slice a4 n4 c4) (show w.heap.size + 1 + 1 ≠ w.heap.size + 1 by omega)
  have hKW3 : ∀ bB_ : Nat, w.heap.size < bB_ → w.heap.size + 1 < bB_ → Kept bB_ w1 (((((w1).setCell ⟨w.heap.size, 0, none⟩ (.bool (decide (z < 0)))).setCell ⟨w.heap.size, 1, none⟩ (.slice a3 n3 c3)).setCell ⟨w.heap.size + 1, 0, none⟩ (.bool (decide (z2 < 0)))).setCell ⟨w.heap.size + 1, 1, none⟩ (.slice a4 n4 c4)) := fun bB_ h0 h1 => (Kept.trans (kept_set _ _ _ h0) (Kept.trans (kept_set _ _ _ h0) (Kept.trans (kept_set _ _ _ h1) (kept_set _ _ _ h1))))
  have hzW3 : w1.heap.size ≤ (((((w1).setCell ⟨w.heap.size, 0, none⟩ (.bool (decide (z < 0)))).setCell ⟨w.heap.size, 1, none⟩ (.slice a3 n3 c3)).setCell ⟨w.heap.size + 1, 0, none⟩ (.bool (decide (z2 < 0)))).setCell ⟨w.heap.size + 1, 1, none⟩ (.slice a4 n4 c4)).heap.size := by simp only [World.setCell, Array.size_modify]; exact Nat.le_refl _
  have hSW3 : ∀ (nB_ : Nat) (uB_ : World), nB_ ≤ w.heap.size → nB_ ≤ w.heap.size + 1 → Below nB_ uB_ w1 → Below nB_ uB_ (((((w1).setCell ⟨w.heap.size, 0, none⟩ (.bool (decide (z < 0)))).setCell ⟨w.heap.size, 1, none⟩ (.slice a3 n3 c3)).setCell ⟨w.heap.size + 1, 0, none⟩ (.bool (decide (z2 < 0)))).setCell ⟨w.heap.size + 1, 1, none⟩ (.slice a4 n4 c4)) := fun nB_ uB_ h0 h1 hb => (Below.setCell (Below.setCell (Below.setCell (Below.setCell hb (p := ⟨w.heap.size, 0, none⟩) h0 (.bool (decide (z < 0)))) (p := ⟨w.heap.size, 1, none⟩) h0 (.slice a3 n3 c3)) (p := ⟨w.heap.size + 1, 0, none⟩) h1 (.bool (decide (z2 < 0)))) (p := ⟨w.heap.size + 1, 1, none⟩) h1 (.slice a4 n4 c4))
  replace p0 : Blk (((((w1).setCell ⟨w.heap.size, 0, none⟩ (.bool (decide (z < 0)))).setCell ⟨w.heap.size, 1, none⟩ (.slice a3 n3 c3)).setCell ⟨w.heap.size + 1, 0, none⟩ (.bool (decide (z2 < 0)))).setCell ⟨w.heap.size + 1, 1, none⟩ (.slice a4 n4 c4)) (w.heap.size) 25 #[.bool (decide (z < 0)), .slice a3 n3 c3] := p0
  replace p1 : Blk (((((w1).setCell ⟨w.heap.size, 0, none⟩ (.bool (decide (z < 0)))).setCell ⟨w.heap.size, 1, none⟩ (.slice a3 n3 c3)).setCell ⟨w.heap.size + 1, 0, none⟩ (.bool (decide (z2 < 0)))).setCell ⟨w.heap.size + 1, 1, none⟩ (.slice a4 n4 c4)) (w.heap.size + 1) 25 #[.bool (decide (z2 < 0)), .slice a4 n4 c4] := p1
  generalize hgW3 : ((((w1).setCell ⟨w.heap.size, 0, none⟩ (.bool (decide (z < 0)))).setCell ⟨w.heap.size, 1, none⟩ (.slice a3 n3 c3)).setCell ⟨w.heap.size + 1, 0, none⟩ (.bool (decide (z2 < 0)))).setCell ⟨w.heap.size + 1, 1, none⟩ (.slice a4 n4 c4) = W3 at *
  clear hgW3
  replace p0_0 := p0.cell (i := 0) rfl
  replace p0_1 := p0.cell (i := 1) rfl
  replace p0_f0 := p0.free 0
  replace p0_f1 := p0.free 1
  replace p0_lt := p0.lt
  replace p1_0 := p1.cell (i := 0) rfl
  replace p1_1 := p1.cell (i := 1) rfl
  replace p1_f0 := p1.free 0
  replace p1_f1 := p1.free 1
  replace p1_lt := p1.lt
  replace r_0 := r.cell (i := 0) rfl
  replace r_1 := r.cell (i := 1) rfl
  replace r_f0 := r.free 0
  replace r_f1 := r.free 1
  replace r_lt := r.lt
  replace h3 := h3.mono (Nat.le_refl _) (hKW3 _ (by omega) (by omega))
  replace h4 := h4.mono (Nat.le_refl _) (hKW3 _ (by omega) (by omega))
  replace hE0 := hSW3 _ _ (by omega) (by omega) hE0
  replace hsz : W.heap.size ≤ W3.heap.size := Nat.le_trans hsz hzW3
  have H3 := Lib.hid hn3
  have H4 := Lib.hid hn4
  rw [hn3] at hnz
  rw [hn4] at hnz2
  clear h1 h5 hd hEW hz hz2 hn3 hn4 hKW3 hSW3 hE1
  by_cases hs : decide (z < 0) = decide (z2 < 0)
  ·have HP : Hid (ival (decide (z < 0)) (limbs (z.natAbs + z2.natAbs)) = z + z2) := Lib.hid (by
    rw [ival_limbs]
    by_cases hz0 : z < 0
    ·rw [decide_eq_true hz0] at hs ⊢
     have := of_decide_eq_true hs.symm
     rw [if_pos rfl]; omega
    ·rw [decide_eq_false hz0] at hs ⊢
     have := of_decide_eq_false hs.symm
     rw [if_neg (by decide)]; omega)
   have hss : (decide (z < 0) == decide (z2 < 0)) = true := by rw [hs]; simp
   have HV : Hid (val (limbs z.natAbs) + val (limbs z2.natAbs) = z.natAbs + z2.natAbs) := Lib.hid (by rw [val_limbs, val_limbs])
   have hnl : nl (z.natAbs + z2.natAbs) ≤ 4398046511105 := by have := nl_add z.natAbs z2.natAbs; rw [H3.out, H4.out] at this; omega
   generalize z.natAbs + z2.natAbs = zs at *
   generalize decide (z < 0) = b3 at *
   generalize decide (z2 < 0) = b4 at *
   clear hs
   go_wp2_with fail
   skip
   skip
   have hd : Ext W3 W3.drew := (Below.refl _ _).drew
   replace p0 := p0.ext hd; replace p0_0 := p0.cell (i := 0) rfl; replace p0_1 := p0.cell (i := 1) rfl; replace p1 := p1.ext hd; replace p1_0 := p1.cell (i := 0) rfl; replace p1_1 := p1.cell (i := 1) rfl; replace r := r.ext hd; replace r_0 := r.cell (i := 0) rfl; replace r_1 := r.cell (i := 1) rfl; replace r_f0 := r.free 0; replace r_f1 := r.free 1; replace r_lt := r.lt
   replace hE0 := Ext.trans hE0 hd
   replace hsz := Nat.le_trans hsz hd.size
   replace h3 := h3.ext (Nat.le_refl _) hd
   replace h4 := h4.ext (Nat.le_refl _) hd
   go_region_held3 (fun w' => w'.cell? ⟨w.heap.size, 0, none⟩ = some (.bool b3) ∧ w'.cell? ⟨w.heap.size, 1, none⟩ = some (.slice a3 n3 c3) ∧ w'.cell? ⟨w.heap.size + 1, 0, none⟩ = some (.bool b4) ∧ w'.cell? ⟨w.heap.size + 1, 1, none⟩ = some (.slice a4 n4 c4)) (first | exact ⟨p0_0, p0_1, p1_0, p1_1⟩ | go_keep)
    (first | (go_at_call 149; (with_reducible refine (r1Add_any _ _ _ _ _ _ _ _ _ _ h3 h4 (by omega) (by omega) zs HV).mono ?_); rintro e w1 ⟨a5, n5, c5, rfl, h5, hE1⟩; replace p0 := p0.ext hE1; replace p0_0 := p0.cell (i := 0) rfl; replace p0_1 := p0.cell (i := 1) rfl; replace p1 := p1.ext hE1; replace p1_0 := p1.cell (i := 0) rfl; replace p1_1 := p1.cell (i := 1) rfl; replace r := r.ext hE1; replace r_0 := r.cell (i := 0) rfl; replace r_1 := r.cell (i := 1) rfl; replace r_f0 := r.free 0; replace r_f1 := r.free 1; replace r_lt := r.lt; replace h3 := h3.ext (Nat.le_refl _) hE1; replace h4 := h4.ext (Nat.le_refl _) hE1; replace h5 := h5.mono hsz (Kept.refl _ _); replace hsz := Nat.le_trans hsz hE1.size; replace hE0 := Ext.trans hE0 hE1)
           | (go_at_call 142; (with_reducible refine (r3Norm_z b3 _ _ _ _ _ _ (z + z2) h5 (by have := h5.len; rw [length_limbs] at this; omega) HP).mono ?_); rintro e w1 ⟨a6, n6, c6, rfl, h6, hE1⟩; replace p0 := p0.ext hE1; replace p0_0 := p0.cell (i := 0) rfl; replace p0_1 := p0.cell (i := 1) rfl; replace p1 := p1.ext hE1; replace p1_0 := p1.cell (i := 0) rfl; replace p1_1 := p1.cell (i := 1) rfl; replace r := r.ext hE1; replace r_0 := r.cell (i := 0) rfl; replace r_1 := r.cell (i := 1) rfl; replace r_f0 := r.free 0; replace r_f1 := r.free 1; replace r_lt := r.lt; replace h3 := h3.ext (Nat.le_refl _) hE1; replace h4 := h4.ext (Nat.le_refl _) hE1; replace h5 := h5.ext (Nat.le_refl _) hE1; replace h6 := h6.mono hsz (Kept.refl _ _); replace hsz := Nat.le_trans hsz hE1.size; replace hE0 := Ext.trans hE0 hE1))
   have HF := Lib.hid (RInt.boxN (w := w) (r := w.heap.size + 1 + 1) (u1 := .bool (decide (z + z2 < 0))) (u2 := .slice a6 n6 c6) (by omega) (by omega) hE0 ⟨a6, n6, c6, rfl, h6⟩)
   clear h5 h6 h3 h4 hE0 hsz hE1
   generalize z + z2 = zz at *
   have r2 : Blk (((w1).setCell ⟨w.heap.size + 1 + 1, 0, none⟩ (.bool (decide (zz < 0)))).setCell ⟨w.heap.size + 1 + 1, 1, none⟩ (.slice a6 n6 c6)) _ _ #[.bool (decide (zz < 0)), .slice a6 n6 c6] := ((r).set 0 (.bool (decide (zz < 0)))).set 1 (.slice a6 n6 c6)
   have hr0 := r2.cell (i := 0) rfl
   have hr1 := r2.cell (i := 1) rfl
   go_wp2_with fail
   exact bodyPost_ret (v := .agg #[.bool (decide (zz < 0)), .slice a6 n6 c6]) (by simp [results, Tryz.results129, go_sem, hr0, hr1]) rfl HF.out
  ·have hss : (decide (z < 0) == decide (z2 < 0)) = false := by simpa using hs
   have hs2 : (z < 0 ∧ ¬ z2 < 0) ∨ (¬ z < 0 ∧ z2 < 0) := by
    by_cases h1 : z < 0 <;> by_cases h2 : z2 < 0 <;> simp [h1, h2] at hs ⊢
   clear hs
   by_cases hlt : z.natAbs < z2.natAbs
   ·have HP : Hid (ival (decide (z2 < 0)) (limbs (z2.natAbs - z.natAbs)) = z + z2) := Lib.hid (by
     rw [ival_limbs]
     rcases hs2 with ⟨h1, h2⟩ | ⟨h1, h2⟩
     ·rw [decide_eq_false h2, if_neg (by decide)]; omega
     ·rw [decide_eq_true h2, if_pos rfl]; omega)
    have HV : Hid (val (limbs z2.natAbs) - val (limbs z.natAbs) = z2.natAbs - z.natAbs) := Lib.hid (by rw [val_limbs, val_limbs])
    have hnl : nl (z2.natAbs - z.natAbs) ≤ 4398046511104 := by have := nl_mono (Nat.sub_le z2.natAbs z.natAbs); rw [H4.out] at this; omega
    have hnn : n3 ≤ n4 := by have := nl_mono (Nat.le_of_lt hlt); rw [H3.out, H4.out] at this; exact this
    have hle := Nat.le_of_lt hlt
    generalize decide (z < 0) = b3 at *
    generalize decide (z2 < 0) = b4 at *
    clear hs2
    go_wp2_with fail
    refine (r1Cmp_any _ _ _ _ _ _ _ _ _ _ h3 h4 z.natAbs z2.natAbs (Lib.hid (val_limbs _)) (Lib.hid (val_limbs _))).mono ?_
    rintro e w1 ⟨rfl, rfl⟩
    rw [cmpI_lt hlt]
    go_wp2_with fail
    skip
    skip
    replace p0 := p0.set 0 (.bool b4)
    replace p1 := p1.set_ne 0 (.bool b4) (show w.heap.size + 1 ≠ w.heap.size by omega)
    replace r := r.set_ne 0 (.bool b4) (show w.heap.size + 1 + 1 ≠ w.heap.size by omega)
    replace p0 := p0.set 1 (.slice a4 n4 c4)
    replace p1 := p1.set_ne 1 (.slice a4 n4 c4) (show w.heap.size + 1 ≠ w.heap.size by omega)
    replace r := r.set_ne 1 (.slice a4 n4 c4) (show w.heap.size + 1 + 1 ≠ w.heap.size by omega)
    replace p0 := p0.set_ne 0 (.bool b3) (show w.heap.size ≠ w.heap.size + 1 by omega)
    replace p1 := p1.set 0 (.bool b3)
    replace r := r.set_ne 0 (.bool b3) (show w.heap.size + 1 + 1 ≠ w.heap.size + 1 by omega)
    replace p0 := p0.set_ne 1 (.slice a3 n3 c3) (show w.heap.size ≠ w.heap.size + 1 by omega)
    replace p1 := p1.set 1 (.slice a3 n3 c3)
    replace r := r.set_ne 1 (.slice a3 n3 c3) (show w.heap.size + 1 + 1 ≠ w.heap.size + 1 by omega)
    have hKW4 : ∀ bB_ : Nat, w.heap.size < bB_ → w.heap.size + 1 < bB_ → Kept bB_ W3 (((((W3).setCell ⟨w.heap.size, 0, none⟩ (.bool b4)).setCell ⟨w.heap.size, 1, none⟩ (.slice a4 n4 c4)).setCell ⟨w.heap.size + 1, 0, none⟩ (.bool b3)).setCell ⟨w.heap.size + 1, 1, none⟩ (.slice a3 n3 c3)) := fun bB_ h0 h1 => (Kept.trans (kept_set _ _ _ h0) (Kept.trans (kept_set _ _ _ h0) (Kept.trans (kept_set _ _ _ h1) (kept_set _ _ _ h1))))
    have hzW4 : W3.heap.size ≤ (((((W3).setCell ⟨w.heap.size, 0, none⟩ (.bool b4)).setCell ⟨w.heap.size, 1, none⟩ (.slice a4 n4 c4)).setCell ⟨w.heap.size + 1, 0, none⟩ (.bool b3)).setCell ⟨w.heap.size + 1, 1, none⟩ (.slice a3 n3 c3)).heap.size := by simp only [World.setCell, Array.size_modify]; exact Nat.le_refl _
    have hSW4 : ∀ (nB_ : Nat) (uB_ : World), nB_ ≤ w.heap.size → nB_ ≤ w.heap.size + 1 → Below nB_ uB_ W3 → Below nB_ uB_ (((((W3).setCell ⟨w.heap.size, 0, none⟩ (.bool b4)).setCell ⟨w.heap.size, 1, none⟩ (.slice a4 n4 c4)).setCell ⟨w.heap.size + 1, 0, none⟩ (.bool b3)).setCell ⟨w.heap.size + 1, 1, none⟩ (.slice a3 n3 c3)) := fun nB_ uB_ h0 h1 hb => (Below.setCell (Below.setCell (Below.setCell (Below.setCell hb (p := ⟨w.heap.size, 0, none⟩) h0 (.bool b4)) (p := ⟨w.heap.size, 1, none⟩) h0 (.slice a4 n4 c4)) (p := ⟨w.heap.size + 1, 0, none⟩) h1 (.bool b3)) (p := ⟨w.heap.size + 1, 1, none⟩) h1 (.slice a3 n3 c3))
    replace p0 : Blk (((((W3).setCell ⟨w.heap.size, 0, none⟩ (.bool b4)).setCell ⟨w.heap.size, 1, none⟩ (.slice a4 n4 c4)).setCell ⟨w.heap.size + 1, 0, none⟩ (.bool b3)).setCell ⟨w.heap.size + 1, 1, none⟩ (.slice a3 n3 c3)) (w.heap.size) 25 #[.bool b4, .slice a4 n4 c4] := p0
    replace p1 : Blk (((((W3).setCell ⟨w.heap.size, 0, none⟩ (.bool b4)).setCell ⟨w.heap.size, 1, none⟩ (.slice a4 n4 c4)).setCell ⟨w.heap.size + 1, 0, none⟩ (.bool b3)).setCell ⟨w.heap.size + 1, 1, none⟩ (.slice a3 n3 c3)) (w.heap.size + 1) 25 #[.bool b3, .slice a3 n3 c3] := p1
    generalize hgW4 : ((((W3).setCell ⟨w.heap.size, 0, none⟩ (.bool b4)).setCell ⟨w.heap.size, 1, none⟩ (.slice a4 n4 c4)).setCell ⟨w.heap.size + 1, 0, none⟩ (.bool b3)).setCell ⟨w.heap.size + 1, 1, none⟩ (.slice a3 n3 c3) = W4 at *
    clear hgW4
    replace p0_0 := p0.cell (i := 0) rfl
    replace p0_1 := p0.cell (i := 1) rfl
    replace p0_f0 := p0.free 0
    replace p0_f1 := p0.free 1
    replace p0_lt := p0.lt
    replace p1_0 := p1.cell (i := 0) rfl
    replace p1_1 := p1.cell (i := 1) rfl
    replace p1_f0 := p1.free 0
    replace p1_f1 := p1.free 1
    replace p1_lt := p1.lt
    replace r_0 := r.cell (i := 0) rfl
    replace r_1 := r.cell (i := 1) rfl
    replace r_f0 := r.free 0
    replace r_f1 := r.free 1
    replace r_lt := r.lt
    replace h3 := h3.mono (Nat.le_refl _) (hKW4 _ (by omega) (by omega))
    replace h4 := h4.mono (Nat.le_refl _) (hKW4 _ (by omega) (by omega))
    replace hE0 := hSW4 _ _ (by omega) (by omega) hE0
    replace hsz : W.heap.size ≤ W4.heap.size := Nat.le_trans hsz hzW4
    generalize z2.natAbs - z.natAbs = zs at *
    clear hlt hKW4 hSW4
    go_wp2_with fail
    have hd : Ext W4 W4.drew := (Below.refl _ _).drew
    replace p0 := p0.ext hd; replace p0_0 := p0.cell (i := 0) rfl; replace p0_1 := p0.cell (i := 1) rfl; replace p1 := p1.ext hd; replace p1_0 := p1.cell (i := 0) rfl; replace p1_1 := p1.cell (i := 1) rfl; replace r := r.ext hd; replace r_0 := r.cell (i := 0) rfl; replace r_1 := r.cell (i := 1) rfl; replace r_f0 := r.free 0; replace r_f1 := r.free 1; replace r_lt := r.lt
    replace hE0 := Ext.trans hE0 hd
    replace hsz := Nat.le_trans hsz hd.size
    replace h3 := h3.ext (Nat.le_refl _) hd
    replace h4 := h4.ext (Nat.le_refl _) hd
    go_region_held3 (fun w' => w'.cell? ⟨w.heap.size, 0, none⟩ = some (.bool b4) ∧ w'.cell? ⟨w.heap.size, 1, none⟩ = some (.slice a4 n4 c4) ∧ w'.cell? ⟨w.heap.size + 1, 0, none⟩ = some (.bool b3) ∧ w'.cell? ⟨w.heap.size + 1, 1, none⟩ = some (.slice a3 n3 c3)) (first | exact ⟨p0_0, p0_1, p1_0, p1_1⟩ | go_keep)
     (first | (go_at_call 151; (with_reducible refine (r1Sub_any _ _ _ _ _ _ _ _ _ _ h4 h3 (by omega) hnn zs (by rw [val_limbs, val_limbs]; exact hle) HV).mono ?_); rintro e w1 ⟨a5, n5, c5, rfl, h5, hE1⟩; replace p0 := p0.ext hE1; replace p0_0 := p0.cell (i := 0) rfl; replace p0_1 := p0.cell (i := 1) rfl; replace p1 := p1.ext hE1; replace p1_0 := p1.cell (i := 0) rfl; replace p1_1 := p1.cell (i := 1) rfl; replace r := r.ext hE1; replace r_0 := r.cell (i := 0) rfl; replace r_1 := r.cell (i := 1) rfl; replace r_f0 := r.free 0; replace r_f1 := r.free 1; replace r_lt := r.lt; replace h3 := h3.ext (Nat.le_refl _) hE1; replace h4 := h4.ext (Nat.le_refl _) hE1; replace h5 := h5.mono hsz (Kept.refl _ _); replace hsz := Nat.le_trans hsz hE1.size; replace hE0 := Ext.trans hE0 hE1)
            | (go_at_call 142; (with_reducible refine (r3Norm_z b4 _ _ _ _ _ _ (z + z2) h5 (by have := h5.len; rw [length_limbs] at this; omega) HP).mono ?_); rintro e w1 ⟨a6, n6, c6, rfl, h6, hE1⟩; replace p0 := p0.ext hE1; replace p0_0 := p0.cell (i := 0) rfl; replace p0_1 := p0.cell (i := 1) rfl; replace p1 := p1.ext hE1; replace p1_0 := p1.cell (i := 0) rfl; replace p1_1 := p1.cell (i := 1) rfl; replace r := r.ext hE1; replace r_0 := r.cell (i := 0) rfl; replace r_1 := r.cell (i := 1) rfl; replace r_f0 := r.free 0; replace r_f1 := r.free 1; replace r_lt := r.lt; replace h3 := h3.ext (Nat.le_refl _) hE1; replace h4 := h4.ext (Nat.le_refl _) hE1; replace h5 := h5.ext (Nat.le_refl _) hE1; replace h6 := h6.mono hsz (Kept.refl _ _); replace hsz := Nat.le_trans hsz hE1.size; replace hE0 := Ext.trans hE0 hE1))
    have HF := Lib.hid (RInt.boxN (w := w) (r := w.heap.size + 1 + 1) (u1 := .bool (decide (z + z2 < 0))) (u2 := .slice a6 n6 c6) (by omega) (by omega) hE0 ⟨a6, n6, c6, rfl, h6⟩)
    clear h5 h6 h3 h4 hE0 hsz hE1
    generalize z + z2 = zz at *
    have r2 : Blk (((w1).setCell ⟨w.heap.size + 1 + 1, 0, none⟩ (.bool (decide (zz < 0)))).setCell ⟨w.heap.size + 1 + 1, 1, none⟩ (.slice a6 n6 c6)) _ _ #[.bool (decide (zz < 0)), .slice a6 n6 c6] := ((r).set 0 (.bool (decide (zz < 0)))).set 1 (.slice a6 n6 c6)
    have hr0 := r2.cell (i := 0) rfl
    have hr1 := r2.cell (i := 1) rfl
    go_wp2_with fail
    exact bodyPost_ret (v := .agg #[.bool (decide (zz < 0)), .slice a6 n6 c6]) (by simp [results, Tryz.results129, go_sem, hr0, hr1]) rfl HF.out
   ·have hle := Nat.le_of_not_lt hlt
    have HP : Hid (ival (decide (z < 0)) (limbs (z.natAbs - z2.natAbs)) = z + z2) := Lib.hid (by
     rw [ival_limbs]
     rcases hs2 with ⟨h1, h2⟩ | ⟨h1, h2⟩
     ·rw [decide_eq_true h1, if_pos rfl]; omega
     ·rw [decide_eq_false h1, if_neg (by decide)]; omega)
    have hc : decide (cmpI z.natAbs z2.natAbs < 0) = false := by
     rw [decide_eq_false_iff_not]; unfold cmpI; rw [if_neg hlt]; split <;> omega
    have HV : Hid (val (limbs z.natAbs) - val (limbs z2.natAbs) = z.natAbs - z2.natAbs) := Lib.hid (by rw [val_limbs, val_limbs])
    have hnl : nl (z.natAbs - z2.natAbs) ≤ 4398046511104 := by have := nl_mono (Nat.sub_le z.natAbs z2.natAbs); rw [H3.out] at this; omega
    have hnn : n4 ≤ n3 := by have := nl_mono hle; rw [H3.out, H4.out] at this; exact this
    generalize decide (z < 0) = b3 at *
    generalize decide (z2 < 0) = b4 at *
    clear hs2 hlt
    go_wp2_with fail
    refine (r1Cmp_any _ _ _ _ _ _ _ _ _ _ h3 h4 z.natAbs z2.natAbs (Lib.hid (val_limbs _)) (Lib.hid (val_limbs _))).mono ?_
    rintro e w1 ⟨rfl, rfl⟩
    generalize cmpI z.natAbs z2.natAbs = cv at *
    go_wp2_with fail
    generalize z.natAbs - z2.natAbs = zs at *
    have hd : Ext W3 W3.drew := (Below.refl _ _).drew
    skip
    skip
    replace p0 := p0.ext hd; replace p0_0 := p0.cell (i := 0) rfl; replace p0_1 := p0.cell (i := 1) rfl; replace p1 := p1.ext hd; replace p1_0 := p1.cell (i := 0) rfl; replace p1_1 := p1.cell (i := 1) rfl; replace r := r.ext hd; replace r_0 := r.cell (i := 0) rfl; replace r_1 := r.cell (i := 1) rfl; replace r_f0 := r.free 0; replace r_f1 := r.free 1; replace r_lt := r.lt
    replace hE0 := Ext.trans hE0 hd
    replace hsz := Nat.le_trans hsz hd.size
    replace h3 := h3.ext (Nat.le_refl _) hd
    replace h4 := h4.ext (Nat.le_refl _) hd
    go_region_held3 (fun w' => w'.cell? ⟨w.heap.size, 0, none⟩ = some (.bool b3) ∧ w'.cell? ⟨w.heap.size, 1, none⟩ = some (.slice a3 n3 c3) ∧ w'.cell? ⟨w.heap.size + 1, 0, none⟩ = some (.bool b4) ∧ w'.cell? ⟨w.heap.size + 1, 1, none⟩ = some (.slice a4 n4 c4)) (first | exact ⟨p0_0, p0_1, p1_0, p1_1⟩ | go_keep)
     (first | (go_at_call 151; (with_reducible refine (r1Sub_any _ _ _ _ _ _ _ _ _ _ h3 h4 (by omega) hnn zs (by rw [val_limbs, val_limbs]; exact hle) HV).mono ?_); rintro e w1 ⟨a5, n5, c5, rfl, h5, hE1⟩; replace p0 := p0.ext hE1; replace p0_0 := p0.cell (i := 0) rfl; replace p0_1 := p0.cell (i := 1) rfl; replace p1 := p1.ext hE1; replace p1_0 := p1.cell (i := 0) rfl; replace p1_1 := p1.cell (i := 1) rfl; replace r := r.ext hE1; replace r_0 := r.cell (i := 0) rfl; replace r_1 := r.cell (i := 1) rfl; replace r_f0 := r.free 0; replace r_f1 := r.free 1; replace r_lt := r.lt; replace h3 := h3.ext (Nat.le_refl _) hE1; replace h4 := h4.ext (Nat.le_refl _) hE1; replace h5 := h5.mono hsz (Kept.refl _ _); replace hsz := Nat.le_trans hsz hE1.size; replace hE0 := Ext.trans hE0 hE1)
            | (go_at_call 142; (with_reducible refine (r3Norm_z b3 _ _ _ _ _ _ (z + z2) h5 (by have := h5.len; rw [length_limbs] at this; omega) HP).mono ?_); rintro e w1 ⟨a6, n6, c6, rfl, h6, hE1⟩; replace p0 := p0.ext hE1; replace p0_0 := p0.cell (i := 0) rfl; replace p0_1 := p0.cell (i := 1) rfl; replace p1 := p1.ext hE1; replace p1_0 := p1.cell (i := 0) rfl; replace p1_1 := p1.cell (i := 1) rfl; replace r := r.ext hE1; replace r_0 := r.cell (i := 0) rfl; replace r_1 := r.cell (i := 1) rfl; replace r_f0 := r.free 0; replace r_f1 := r.free 1; replace r_lt := r.lt; replace h3 := h3.ext (Nat.le_refl _) hE1; replace h4 := h4.ext (Nat.le_refl _) hE1; replace h5 := h5.ext (Nat.le_refl _) hE1; replace h6 := h6.mono hsz (Kept.refl _ _); replace hsz := Nat.le_trans hsz hE1.size; replace hE0 := Ext.trans hE0 hE1))
    have HF := Lib.hid (RInt.boxN (w := w) (r := w.heap.size + 1 + 1) (u1 := .bool (decide (z + z2 < 0))) (u2 := .slice a6 n6 c6) (by omega) (by omega) hE0 ⟨a6, n6, c6, rfl, h6⟩)
    clear h5 h6 h3 h4 hE0 hsz hE1
    generalize z + z2 = zz at *
    have r2 : Blk (((w1).setCell ⟨w.heap.size + 1 + 1, 0, none⟩ (.bool (decide (zz < 0)))).setCell ⟨w.heap.size + 1 + 1, 1, none⟩ (.slice a6 n6 c6)) _ _ #[.bool (decide (zz < 0)), .slice a6 n6 c6] := ((r).set 0 (.bool (decide (zz < 0)))).set 1 (.slice a6 n6 c6)
    have hr0 := r2.cell (i := 0) rfl
    have hr1 := r2.cell (i := 1) rfl
    go_wp2_with fail
    exact bodyPost_ret (v := .agg #[.bool (decide (zz < 0)), .slice a6 n6 c6]) (by simp [results, Tryz.results129, go_sem, hr0, hr1]) rfl HF.out
end Go.Proofs.YtbhenelehhiakaaGreat
namespace Go.Proofs.YtbhenelehhiakaaGreat
open Go.RowKit
theorem Sl.zero {α : Type} {r : Rd α} {B : Nat} {w : World} {a : Option Addr} {n c : Nat} {xs : List α} (h : Sl r B w a n c xs) : Sl r 0 w a n c xs := h.mono (Nat.zero_le _) (Kept.refl _ _)
theorem r3Neg_y (b : Bool) (B : Nat) (w : World) (a : Option Addr) (n c : Nat) (l : Nt) (z y : Int) (h : NatS B w a n c l) (hn : n ≤ 17592186044416) (hz : Hid (ival b l = z)) (hy : Hid (-z = y)) :
  Calls Tryz.prog 124 #[.agg #[.bool b, .slice a n c]] w (RInt w y) := by
 have := r3Neg_z b B w a n c l z h hn hz
 rwa [hy.out] at this
set_option maxHeartbeats 2000000 in
theorem r3Sub_z (b b2 : Bool) (B : Nat) (w : World) (a a2 : Option Addr) (n c n2 c2 : Nat) (l l2 : Nt) (z z2 : Int) (h : NatS B w a n c l) (h2 : NatS B w a2 n2 c2 l2) (hn : n ≤ 4398046511104) (hn2 : n2 ≤ 4398046511104) (hz : Hid (ival b l = z)) (hz2 : Hid (ival b2 l2 = z2)) :
  Calls Tryz.prog 160 #[.agg #[.bool b, .slice a n c], .agg #[.bool b2, .slice a2 n2 c2]] w (RInt w (z - z2)) := by
 have hnz2 : nl z2.natAbs ≤ 4398046511104 := Nat.le_trans (nl_of h2 hz2) hn2
 rw [← Int.natAbs_neg] at hnz2
 obtain ⟨y, hy⟩ : ∃ y, -z2 = y := ⟨_, rfl⟩
 have HY := Lib.hid hy
 rw [hy] at hnz2
 clear hy
 go_enter Tryz.func160, Tryz.ntmps160
 go_wp2_with fail
 have p0 := Blk.new w 25 #[.bool b, .slice a n c]
 have p1 := Blk.new (w.alloc (Obj.cells #[.bool b, .slice a n c] 25)) 25 #[.bool b2, .slice a2 n2 c2]
 replace p0 := p0.ext ((Below.refl _ _).alloc (Nat.le_refl _) (Obj.cells #[.bool b2, .slice a2 n2 c2] 25))
 have r := Blk.new ((w.alloc (Obj.cells #[.bool b, .slice a n c] 25)).alloc (Obj.cells #[.bool b2, .slice a2 n2 c2] 25)) 25 #[.bool false, .slice none 0 0]
 replace p0 := p0.ext ((Below.refl _ _).alloc (Nat.le_refl _) (Obj.cells #[.bool false, .slice none 0 0] 25))
 replace p1 := p1.ext ((Below.refl _ _).alloc (Nat.le_refl _) (Obj.cells #[.bool false, .slice none 0 0] 25))
 have hEW : Ext w (((w.alloc (Obj.cells #[.bool b, .slice a n c] 25)).alloc (Obj.cells #[.bool b2, .slice a2 n2 c2] 25)).alloc (Obj.cells #[.bool false, .slice none 0 0] 25)) := ((((Below.refl _ w).alloc (by simp) _).alloc (by simp) _).alloc (by simp; omega) _)
 generalize hgW : ((w.alloc (Obj.cells #[.bool b, .slice a n c] 25)).alloc (Obj.cells #[.bool b2, .slice a2 n2 c2] 25)).alloc (Obj.cells #[.bool false, .slice none 0 0] 25) = W at *
 clear hgW
 simp only [World.size_alloc] at p1 r
 have p0_ne_p1 : ¬ w.heap.size = w.heap.size + 1 := by omega
 have p0_ne_r : ¬ w.heap.size = w.heap.size + 1 + 1 := by omega
 have p1_ne_p0 : ¬ w.heap.size + 1 = w.heap.size := by omega
 have p1_ne_r : ¬ w.heap.size + 1 = w.heap.size + 1 + 1 := by omega
 have r_ne_p0 : ¬ w.heap.size + 1 + 1 = w.heap.size := by omega
 have r_ne_p1 : ¬ w.heap.size + 1 + 1 = w.heap.size + 1 := by omega
 replace p0_0 := p0.cell (i := 0) rfl
 replace p0_1 := p0.cell (i := 1) rfl
 replace p1_0 := p1.cell (i := 0) rfl
 replace p1_1 := p1.cell (i := 1) rfl
 replace r_0 := r.cell (i := 0) rfl
 replace r_1 := r.cell (i := 1) rfl
 replace r_f0 := r.free 0
 replace r_f1 := r.free 1
 replace r_lt := r.lt
 have hW : w.heap.size + 1 + 1 + 1 ≤ W.heap.size := r_lt
 have hd : Ext W W.drew := (Below.refl _ _).drew
 replace p0 := p0.ext hd; replace p0_0 := p0.cell (i := 0) rfl; replace p0_1 := p0.cell (i := 1) rfl; replace p1 := p1.ext hd; replace p1_0 := p1.cell (i := 0) rfl; replace p1_1 := p1.cell (i := 1) rfl; replace r := r.ext hd; replace r_0 := r.cell (i := 0) rfl; replace r_1 := r.cell (i := 1) rfl; replace r_f0 := r.free 0; replace r_f1 := r.free 1; replace r_lt := r.lt
 have h1 := Sl.zero ((h.ext (Nat.le_refl _) hEW).ext (Nat.le_refl _) hd)
 have h5 := Sl.zero ((h2.ext (Nat.le_refl _) hEW).ext (Nat.le_refl _) hd)
 have hE0 := Ext.trans hEW hd
 have hsz := hd.size
 clear h h2
 go_region_held3 (fun w' => w'.cell? ⟨w.heap.size, 0, none⟩ = some (.bool b) ∧ w'.cell? ⟨w.heap.size, 1, none⟩ = some (.slice a n c) ∧ w'.cell? ⟨w.heap.size + 1, 0, none⟩ = some (.bool b2) ∧ w'.cell? ⟨w.heap.size + 1, 1, none⟩ = some (.slice a2 n2 c2)) (first | exact ⟨p0_0, p0_1, p1_0, p1_1⟩ | go_keep)
  (first | (go_at_call 124; (with_reducible refine (r3Neg_y b2 _ _ _ _ _ _ z2 y h5 (by omega) hz2 HY).mono ?_); rintro e w1 ⟨a3, n3, c3, rfl, h3, hE1⟩; replace p0 := p0.ext hE1; replace p0_0 := p0.cell (i := 0) rfl; replace p0_1 := p0.cell (i := 1) rfl; replace p1 := p1.ext hE1; replace p1_0 := p1.cell (i := 0) rfl; replace p1_1 := p1.cell (i := 1) rfl; replace r := r.ext hE1; replace r_0 := r.cell (i := 0) rfl; replace r_1 := r.cell (i := 1) rfl; replace r_f0 := r.free 0; replace r_f1 := r.free 1; replace r_lt := r.lt; replace h1 := h1.ext (Nat.le_refl _) hE1; replace h5 := h5.ext (Nat.le_refl _) hE1; replace h3 := h3.mono hsz (Kept.refl _ _); replace hsz := Nat.le_trans hsz hE1.size; replace hE0 := Ext.trans hE0 hE1)
         | (go_at_call 129; (with_reducible refine (r3Add_z b _ 0 _ _ _ _ _ _ _ _ _ z y h1 (Sl.zero h3) hn (by have := h3.len; rw [length_limbs] at this; omega) hz (hnorm _)).mono ?_); rintro e w1 ⟨a4, n4, c4, rfl, h4, hE1⟩; replace p0 := p0.ext hE1; replace p0_0 := p0.cell (i := 0) rfl; replace p0_1 := p0.cell (i := 1) rfl; replace p1 := p1.ext hE1; replace p1_0 := p1.cell (i := 0) rfl; replace p1_1 := p1.cell (i := 1) rfl; replace r := r.ext hE1; replace r_0 := r.cell (i := 0) rfl; replace r_1 := r.cell (i := 1) rfl; replace r_f0 := r.free 0; replace r_f1 := r.free 1; replace r_lt := r.lt; replace h1 := h1.ext (Nat.le_refl _) hE1; replace h5 := h5.ext (Nat.le_refl _) hE1; replace h3 := h3.ext (Nat.le_refl _) hE1; replace h4 := h4.mono hsz (Kept.refl _ _); replace hsz := Nat.le_trans hsz hE1.size; replace hE0 := Ext.trans hE0 hE1))
 have HF := Lib.hid (RInt.boxN (w := w) (r := w.heap.size + 1 + 1) (u1 := .bool (decide (z + y < 0))) (u2 := .slice a4 n4 c4) (by omega) (by omega) hE0 ⟨a4, n4, c4, rfl, h4⟩)
 rw [show z + y = z - z2 by rw [Int.sub_eq_add_neg, HY.out]] at HF ⊢
 clear h1 h5 h3 h4 hE0 hsz hE1 hEW hd
 generalize z - z2 = zz at *
 have r2 : Blk (((w1).setCell ⟨w.heap.size + 1 + 1, 0, none⟩ (.bool (decide (zz < 0)))).setCell ⟨w.heap.size + 1 + 1, 1, none⟩ (.slice a4 n4 c4)) _ _ #[.bool (decide (zz < 0)), .slice a4 n4 c4] := ((r).set 0 (.bool (decide (zz < 0)))).set 1 (.slice a4 n4 c4)
 have hr0 := r2.cell (i := 0) rfl
 have hr1 := r2.cell (i := 1) rfl
 go_wp2_with fail
 exact bodyPost_ret (v := .agg #[.bool (decide (zz < 0)), .slice a4 n4 c4]) (by simp [results, Tryz.results160, go_sem, hr0, hr1]) rfl HF.out
theorem r3Mul_y (b b2 : Bool) (B : Nat) (w : World) (a a2 : Option Addr) (n c n2 c2 : Nat) (l l2 : Nt) (z z2 y : Int) (h : NatS B w a n c l) (h2 : NatS B w a2 n2 c2 l2) (hn : n ≤ 4398046511104) (hn2 : n2 ≤ 4398046511104) (hz : Hid (ival b l = z)) (hz2 : Hid (ival b2 l2 = z2)) (hy : Hid (z * z2 = y)) :
  Calls Tryz.prog 130 #[.agg #[.bool b, .slice a n c], .agg #[.bool b2, .slice a2 n2 c2]] w (RInt w y) := by
 have := r3Mul_z b b2 B w a a2 n c n2 c2 l l2 z z2 h h2 hn hn2 hz hz2
 rwa [hy.out] at this
def RTrunc (w : World) (x y : Int) (e : Ending) (w' : World) : Prop := ∃ v1 v2, e = .returned (.tuple #[v1, v2]) ∧ IntN w.heap.size w' v1 x ∧ IntN w.heap.size w' v2 y ∧ Ext w w'
set_option maxHeartbeats 4000000 in
theorem r3Trunc_z (b b2 : Bool) (B : Nat) (w : World) (a a2 : Option Addr) (n c n2 c2 : Nat) (l l2 : Nt) (z z2 : Int) (h : NatS B w a n c l) (h2 : NatS B w a2 n2 c2 l2) (hn : n ≤ 4398046511104) (hn2 : n2 ≤ 4398046511104) (hz : Hid (ival b l = z)) (hz2 : Hid (ival b2 l2 = z2)) (h0 : 0 < val l2) :
  Calls Tryz.prog 144 #[.agg #[.bool b, .slice a n c], .agg #[.bool b2, .slice a2 n2 c2]] w (RTrunc w (z.tdiv z2) (z.tmod z2)) := by
 have hnz : nl z.natAbs ≤ n := nl_of h hz
 have HQ : Hid (ival (!b == b2) (limbs (val l / val l2)) = z.tdiv z2) := Lib.hid (by rw [← hz.out, ← hz2.out, tdiv_sgn, ival_limbs])
 have hnq : nl (val l / val l2) ≤ n := by have := nl_mono (Nat.div_le_self (val l) (val l2)); have := nl_val h.small; have := h.len; omega
 have hmd : z - z.tdiv z2 * z2 = z.tmod z2 := by rw [Int.tmod_def, Int.mul_comm]
 have hpn : nl (z.tdiv z2 * z2).natAbs ≤ n := by
  refine Nat.le_trans (nl_mono ?_) hnz
  rw [Int.natAbs_mul, Int.natAbs_tdiv]
  exact Nat.div_mul_le_self _ _
 have HM := Lib.hid hmd
 clear hmd
 go_enter Tryz.func144, Tryz.ntmps144
 go_wp2_with fail
 have p0 := Blk.new w 25 #[.bool b, .slice a n c]
 have p1 := Blk.new (w.alloc (Obj.cells #[.bool b, .slice a n c] 25)) 25 #[.bool b2, .slice a2 n2 c2]
 replace p0 := p0.ext ((Below.refl _ _).alloc (Nat.le_refl _) (Obj.cells #[.bool b2, .slice a2 n2 c2] 25))
 have r := Blk.new ((w.alloc (Obj.cells #[.bool b, .slice a n c] 25)).alloc (Obj.cells #[.bool b2, .slice a2 n2 c2] 25)) 25 #[.bool false, .slice none 0 0]
 replace p0 := p0.ext ((Below.refl _ _).alloc (Nat.le_refl _) (Obj.cells #[.bool false, .slice none 0 0] 25))
 replace p1 := p1.ext ((Below.refl _ _).alloc (Nat.le_refl _) (Obj.cells #[.bool false, .slice none 0 0] 25))
 have s := Blk.new (((w.alloc (Obj.cells #[.bool b, .slice a n c] 25)).alloc (Obj.cells #[.bool b2, .slice a2 n2 c2] 25)).alloc (Obj.cells #[.bool false, .slice none 0 0] 25)) 25 #[.bool false, .slice none 0 0]
 replace p0 := p0.ext ((Below.refl _ _).alloc (Nat.le_refl _) (Obj.cells #[.bool false, .slice none 0 0] 25))
 replace p1 := p1.ext ((Below.refl _ _).alloc (Nat.le_refl _) (Obj.cells #[.bool false, .slice none 0 0] 25))
 replace r := r.ext ((Below.refl _ _).alloc (Nat.le_refl _) (Obj.cells #[.bool false, .slice none 0 0] 25))
 have hEW : Ext w ((((w.alloc (Obj.cells #[.bool b, .slice a n c] 25)).alloc (Obj.cells #[.bool b2, .slice a2 n2 c2] 25)).alloc (Obj.cells #[.bool false, .slice none 0 0] 25)).alloc (Obj.cells #[.bool false, .slice none 0 0] 25)) := (((((Below.refl _ w).alloc (by simp) _).alloc (by simp) _).alloc (by simp; omega) _).alloc (by simp; omega) _)
 generalize hgW : (((w.alloc (Obj.cells #[.bool b, .slice a n c] 25)).alloc (Obj.cells #[.bool b2, .slice a2 n2 c2] 25)).alloc (Obj.cells #[.bool false, .slice none 0 0] 25)).alloc (Obj.cells #[.bool false, .slice none 0 0] 25) = W at *
 clear hgW
 simp only [World.size_alloc] at p1 r s
 have p0_ne_p1 : ¬ w.heap.size = w.heap.size + 1 := by omega
 have p0_ne_r : ¬ w.heap.size = w.heap.size + 1 + 1 := by omega
 have p0_ne_s : ¬ w.heap.size = w.heap.size + 1 + 1 + 1 := by omega
 have p1_ne_p0 : ¬ w.heap.size + 1 = w.heap.size := by omega
 have p1_ne_r : ¬ w.heap.size + 1 = w.heap.size + 1 + 1 := by omega
 have p1_ne_s : ¬ w.heap.size + 1 = w.heap.size + 1 + 1 + 1 := by omega
 have r_ne_p0 : ¬ w.heap.size + 1 + 1 = w.heap.size := by omega
 have r_ne_p1 : ¬ w.heap.size + 1 + 1 = w.heap.size + 1 := by omega
 have r_ne_s : ¬ w.heap.size + 1 + 1 = w.heap.size + 1 + 1 + 1 := by omega
 have s_ne_p0 : ¬ w.heap.size + 1 + 1 + 1 = w.heap.size := by omega
 have s_ne_p1 : ¬ w.heap.size + 1 + 1 + 1 = w.heap.size + 1 := by omega
 have s_ne_r : ¬ w.heap.size + 1 + 1 + 1 = w.heap.size + 1 + 1 := by omega
 replace p0_0 := p0.cell (i := 0) rfl
 replace p0_1 := p0.cell (i := 1) rfl
 replace p1_0 := p1.cell (i := 0) rfl
 replace p1_1 := p1.cell (i := 1) rfl
 replace r_0 := r.cell (i := 0) rfl
 replace r_1 := r.cell (i := 1) rfl
 replace r_f0 := r.free 0
 replace r_f1 := r.free 1
 replace r_lt := r.lt
 replace s_0 := s.cell (i := 0) rfl
 replace s_1 := s.cell (i := 1) rfl
 replace s_f0 := s.free 0
 replace s_f1 := s.free 1
 replace s_lt := s.lt
 have hW : w.heap.size + 1 + 1 + 1 + 1 ≤ W.heap.size := s_lt
 refine (r1Div_any B W a a2 n c n2 c2 l l2 (h.ext (Nat.le_refl _) hEW) (h2.ext (Nat.le_refl _) hEW) hn hn2 _ _ (Lib.hid rfl) (Lib.hid rfl) h0).mono ?_
 rintro e w1 ⟨a3, n3, c3, a4, n4, c4, rfl, h3, h4, hE1⟩
 replace p0 := p0.ext hE1; replace p0_0 := p0.cell (i := 0) rfl; replace p0_1 := p0.cell (i := 1) rfl; replace p1 := p1.ext hE1; replace p1_0 := p1.cell (i := 0) rfl; replace p1_1 := p1.cell (i := 1) rfl; replace r := r.ext hE1; replace r_0 := r.cell (i := 0) rfl; replace r_1 := r.cell (i := 1) rfl; replace r_f0 := r.free 0; replace r_f1 := r.free 1; replace r_lt := r.lt; replace s := s.ext hE1; replace s_0 := s.cell (i := 0) rfl; replace s_1 := s.cell (i := 1) rfl; replace s_f0 := s.free 0; replace s_f1 := s.free 1; replace s_lt := s.lt
 have hE0 := Ext.trans hEW hE1
 have hsz := hE1.size
 have hln3 : nl (val l / val l2) = n3 := h3.len
 rw [hln3] at hnq
 have h1 := Sl.zero ((h.ext (Nat.le_refl _) hEW).ext (Nat.le_refl _) hE1)
 have h5 := Sl.zero ((h2.ext (Nat.le_refl _) hEW).ext (Nat.le_refl _) hE1)
 clear h4 hE1 hln3 h h2 hEW
 go_wp2_with fail
 refine (r3Norm_z _ _ _ _ _ _ _ _ h3 (by omega) HQ).mono ?_
 rintro e w2 ⟨a6, n6, c6, rfl, h6, hE1⟩
 replace p0 := p0.ext hE1; replace p0_0 := p0.cell (i := 0) rfl; replace p0_1 := p0.cell (i := 1) rfl; replace p1 := p1.ext hE1; replace p1_0 := p1.cell (i := 0) rfl; replace p1_1 := p1.cell (i := 1) rfl; replace r := r.ext hE1; replace r_0 := r.cell (i := 0) rfl; replace r_1 := r.cell (i := 1) rfl; replace r_f0 := r.free 0; replace r_f1 := r.free 1; replace r_lt := r.lt; replace s := s.ext hE1; replace s_0 := s.cell (i := 0) rfl; replace s_1 := s.cell (i := 1) rfl; replace s_f0 := s.free 0; replace s_f1 := s.free 1; replace s_lt := s.lt
 replace h1 := h1.ext (Nat.le_refl _) hE1
 replace h5 := h5.ext (Nat.le_refl _) hE1
 replace h6 := h6.mono hsz (Kept.refl _ _)
 replace hE0 := Ext.trans hE0 hE1
 replace hsz := Nat.le_trans hsz hE1.size
 have hl6 : nl (z.tdiv z2).natAbs = n6 := h6.len
 have hn6 : n6 ≤ n := by
  rw [← hl6, ← HQ.out, ival_limbs, ival_of]
  exact Nat.le_trans (nl_mono (Nat.div_le_self _ _)) (by have := nl_val (NatS.small h1); have := h1.len; omega)
 have hw2 := hsz
 clear h3 hE1 hl6 hnq HQ
 generalize z.tdiv z2 = q at *
 go_wp2_with fail
 have x := Blk.new w2 25 #[.bool (decide (q < 0)), .slice a6 n6 c6]
 have hEW2 : Ext w2 (w2.alloc (Obj.cells #[.bool (decide (q < 0)), .slice a6 n6 c6] 25)) := ((Below.refl _ w2).alloc (by simp) _)
 generalize hgW2 : w2.alloc (Obj.cells #[.bool (decide (q < 0)), .slice a6 n6 c6] 25) = W2 at *
 clear hgW2
 replace x_0 := x.cell (i := 0) rfl
 replace x_1 := x.cell (i := 1) rfl
 replace p0 := p0.ext hEW2; replace p0_0 := p0.cell (i := 0) rfl; replace p0_1 := p0.cell (i := 1) rfl; replace p1 := p1.ext hEW2; replace p1_0 := p1.cell (i := 0) rfl; replace p1_1 := p1.cell (i := 1) rfl; replace r := r.ext hEW2; replace r_0 := r.cell (i := 0) rfl; replace r_1 := r.cell (i := 1) rfl; replace r_f0 := r.free 0; replace r_f1 := r.free 1; replace r_lt := r.lt; replace s := s.ext hEW2; replace s_0 := s.cell (i := 0) rfl; replace s_1 := s.cell (i := 1) rfl; replace s_f0 := s.free 0; replace s_f1 := s.free 1; replace s_lt := s.lt
 have hd : Ext W2 W2.drew := (Below.refl _ _).drew
 replace h1 := h1.ext (Nat.le_refl _) (Ext.trans hEW2 hd)
 replace h5 := h5.ext (Nat.le_refl _) (Ext.trans hEW2 hd)
 replace h6 := h6.ext (Nat.le_refl _) (Ext.trans hEW2 hd)
 replace hE0 := Ext.trans hE0 (Ext.trans hEW2 hd)
 replace hsz := Nat.le_trans hsz (Ext.trans hEW2 hd).size
 replace p0 := p0.ext hd; replace p0_0 := p0.cell (i := 0) rfl; replace p0_1 := p0.cell (i := 1) rfl; replace p1 := p1.ext hd; replace p1_0 := p1.cell (i := 0) rfl; replace p1_1 := p1.cell (i := 1) rfl; replace r := r.ext hd; replace r_0 := r.cell (i := 0) rfl; replace r_1 := r.cell (i := 1) rfl; replace r_f0 := r.free 0; replace r_f1 := r.free 1; replace r_lt := r.lt; replace s := s.ext hd; replace s_0 := s.cell (i := 0) rfl; replace s_1 := s.cell (i := 1) rfl; replace s_f0 := s.free 0; replace s_f1 := s.free 1; replace s_lt := s.lt; replace x := x.ext hd; replace x_0 := x.cell (i := 0) rfl; replace x_1 := x.cell (i := 1) rfl
 clear hEW2 hd
 have q1 : ¬ w2.heap.size = w.heap.size + 1 + 1 := by omega
 have q2 : ¬ w.heap.size + 1 + 1 = w2.heap.size := by omega
 have q3 : ¬ w2.heap.size = w.heap.size + 1 + 1 + 1 := by omega
 have q4 : ¬ w.heap.size + 1 + 1 + 1 = w2.heap.size := by omega
 go_region_held3 (fun w' => w'.cell? ⟨w.heap.size, 0, none⟩ = some (.bool b) ∧ w'.cell? ⟨w.heap.size, 1, none⟩ = some (.slice a n c) ∧ w'.cell? ⟨w.heap.size + 1, 0, none⟩ = some (.bool b2) ∧ w'.cell? ⟨w.heap.size + 1, 1, none⟩ = some (.slice a2 n2 c2) ∧ w'.cell? ⟨w2.heap.size, 0, none⟩ = some (.bool (decide (q < 0))) ∧ w'.cell? ⟨w2.heap.size, 1, none⟩ = some (.slice a6 n6 c6)) (first | exact ⟨p0_0, p0_1, p1_0, p1_1, x_0, x_1⟩ | go_keep)
  (first | (go_at_call 130; (with_reducible refine (r3Mul_z _ _ 0 _ _ _ _ _ _ _ _ _ q z2 (Sl.zero h6) h5 (by omega) hn2 (hnorm _) hz2).mono ?_); rintro e w1 ⟨a7, n7, c7, rfl, h7, hE1⟩; replace p0 := p0.ext hE1; replace p0_0 := p0.cell (i := 0) rfl; replace p0_1 := p0.cell (i := 1) rfl; replace p1 := p1.ext hE1; replace p1_0 := p1.cell (i := 0) rfl; replace p1_1 := p1.cell (i := 1) rfl; replace r := r.ext hE1; replace r_0 := r.cell (i := 0) rfl; replace r_1 := r.cell (i := 1) rfl; replace r_f0 := r.free 0; replace r_f1 := r.free 1; replace r_lt := r.lt; replace s := s.ext hE1; replace s_0 := s.cell (i := 0) rfl; replace s_1 := s.cell (i := 1) rfl; replace s_f0 := s.free 0; replace s_f1 := s.free 1; replace s_lt := s.lt; replace x := x.ext hE1; replace x_0 := x.cell (i := 0) rfl; replace x_1 := x.cell (i := 1) rfl; replace h1 := h1.ext (Nat.le_refl _) hE1; replace h5 := h5.ext (Nat.le_refl _) hE1; replace h6 := h6.ext (Nat.le_refl _) hE1; replace h7 := h7.mono hsz (Kept.refl _ _); replace hsz := Nat.le_trans hsz hE1.size; replace hE0 := Ext.trans hE0 hE1)
         | (go_at_call 160; (with_reducible refine (r3Sub_z _ _ 0 _ _ _ _ _ _ _ _ _ z (q * z2) h1 (Sl.zero h7) hn (by have := h7.len; rw [length_limbs] at this; omega) hz (hnorm _)).mono ?_); rintro e w1 ⟨a8, n8, c8, rfl, h8, hE1⟩; replace p0 := p0.ext hE1; replace p0_0 := p0.cell (i := 0) rfl; replace p0_1 := p0.cell (i := 1) rfl; replace p1 := p1.ext hE1; replace p1_0 := p1.cell (i := 0) rfl; replace p1_1 := p1.cell (i := 1) rfl; replace r := r.ext hE1; replace r_0 := r.cell (i := 0) rfl; replace r_1 := r.cell (i := 1) rfl; replace r_f0 := r.free 0; replace r_f1 := r.free 1; replace r_lt := r.lt; replace s := s.ext hE1; replace s_0 := s.cell (i := 0) rfl; replace s_1 := s.cell (i := 1) rfl; replace s_f0 := s.free 0; replace s_f1 := s.free 1; replace s_lt := s.lt; replace x := x.ext hE1; replace x_0 := x.cell (i := 0) rfl; replace x_1 := x.cell (i := 1) rfl; replace h1 := h1.ext (Nat.le_refl _) hE1; replace h5 := h5.ext (Nat.le_refl _) hE1; replace h6 := h6.ext (Nat.le_refl _) hE1; replace h7 := h7.ext (Nat.le_refl _) hE1; replace h8 := h8.mono hsz (Kept.refl _ _); replace hsz := Nat.le_trans hsz hE1.size; replace hE0 := Ext.trans hE0 hE1))
 rw [HM.out] at h8 ⊢
 generalize z.tmod z2 = y at *
 replace r := r.set 0 (.bool (decide (q < 0)))
 replace s := s.set_ne 0 (.bool (decide (q < 0))) (show w.heap.size + 1 + 1 + 1 ≠ w.heap.size + 1 + 1 by omega)
 replace r := r.set 1 (.slice a6 n6 c6)
 replace s := s.set_ne 1 (.slice a6 n6 c6) (show w.heap.size + 1 + 1 + 1 ≠ w.heap.size + 1 + 1 by omega)
 replace r := r.set_ne 0 (.bool (decide (y < 0))) (show w.heap.size + 1 + 1 ≠ w.heap.size + 1 + 1 + 1 by omega)
 replace s := s.set 0 (.bool (decide (y < 0)))
 replace r := r.set_ne 1 (.slice a8 n8 c8) (show w.heap.size + 1 + 1 ≠ w.heap.size + 1 + 1 + 1 by omega)
 replace s := s.set 1 (.slice a8 n8 c8)
 have hKW3 : ∀ bB_ : Nat, w.heap.size + 1 + 1 < bB_ → w.heap.size + 1 + 1 + 1 < bB_ → Kept bB_ w1 (((((w1).setCell ⟨w.heap.size + 1 + 1, 0, none⟩ (.bool (decide (q < 0)))).setCell ⟨w.heap.size + 1 + 1, 1, none⟩ (.slice a6 n6 c6)).setCell ⟨w.heap.size + 1 + 1 + 1, 0, none⟩ (.bool (decide (y < 0)))).setCell ⟨w.heap.size + 1 + 1 + 1, 1, none⟩ (.slice a8 n8 c8)) := fun bB_ h0 h1 => (Kept.trans (kept_set _ _ _ h0) (Kept.trans (kept_set _ _ _ h0) (Kept.trans (kept_set _ _ _ h1) (kept_set _ _ _ h1))))
 have hzW3 : w1.heap.size ≤ (((((w1).setCell ⟨w.heap.size + 1 + 1, 0, none⟩ (.bool (decide (q < 0)))).setCell ⟨w.heap.size + 1 + 1, 1, none⟩ (.slice a6 n6 c6)).setCell ⟨w.heap.size + 1 + 1 + 1, 0, none⟩ (.bool (decide (y < 0)))).setCell ⟨w.heap.size + 1 + 1 + 1, 1, none⟩ (.slice a8 n8 c8)).heap.size := by simp only [World.setCell, Array.size_modify]; exact Nat.le_refl _
 have hSW3 : ∀ (nB_ : Nat) (uB_ : World), nB_ ≤ w.heap.size + 1 + 1 → nB_ ≤ w.heap.size + 1 + 1 + 1 → Below nB_ uB_ w1 → Below nB_ uB_ (((((w1).setCell ⟨w.heap.size + 1 + 1, 0, none⟩ (.bool (decide (q < 0)))).setCell ⟨w.heap.size + 1 + 1, 1, none⟩ (.slice a6 n6 c6)).setCell ⟨w.heap.size + 1 + 1 + 1, 0, none⟩ (.bool (decide (y < 0)))).setCell ⟨w.heap.size + 1 + 1 + 1, 1, none⟩ (.slice a8 n8 c8)) := fun nB_ uB_ h0 h1 hb => (Below.setCell (Below.setCell (Below.setCell (Below.setCell hb (p := ⟨w.heap.size + 1 + 1, 0, none⟩) h0 (.bool (decide (q < 0)))) (p := ⟨w.heap.size + 1 + 1, 1, none⟩) h0 (.slice a6 n6 c6)) (p := ⟨w.heap.size + 1 + 1 + 1, 0, none⟩) h1 (.bool (decide (y < 0)))) (p := ⟨w.heap.size + 1 + 1 + 1, 1, none⟩) h1 (.slice a8 n8 c8))
 replace r : Blk (((((w1).setCell ⟨w.heap.size + 1 + 1, 0, none⟩ (.bool (decide (q < 0)))).setCell ⟨w.heap.size + 1 + 1, 1, none⟩ (.slice a6 n6 c6)).setCell ⟨w.heap.size + 1 + 1 + 1, 0, none⟩ (.bool (decide (y < 0)))).setCell ⟨w.heap.size + 1 + 1 + 1, 1, none⟩ (.slice a8 n8 c8)) (w.heap.size + 1 + 1) 25 #[.bool (decide (q < 0)), .slice a6 n6 c6] := r
 replace s : Blk (((((w1).setCell ⟨w.heap.size + 1 + 1, 0, none⟩ (.bool (decide (q < 0)))).setCell ⟨w.heap.size + 1 + 1, 1, none⟩ (.slice a6 n6 c6)).setCell ⟨w.heap.size + 1 + 1 + 1, 0, none⟩ (.bool (decide (y < 0)))).setCell ⟨w.heap.size + 1 + 1 + 1, 1, none⟩ (.slice a8 n8 c8)) (w.heap.size + 1 + 1 + 1) 25 #[.bool (decide (y < 0)), .slice a8 n8 c8] := s
 generalize hgW3 : ((((w1).setCell ⟨w.heap.size + 1 + 1, 0, none⟩ (.bool (decide (q < 0)))).setCell ⟨w.heap.size + 1 + 1, 1, none⟩ (.slice a6 n6 c6)).setCell ⟨w.heap.size + 1 + 1 + 1, 0, none⟩ (.bool (decide (y < 0)))).setCell ⟨w.heap.size + 1 + 1 + 1, 1, none⟩ (.slice a8 n8 c8) = W3 at *
 clear hgW3
 replace r_0 := r.cell (i := 0) rfl
 replace r_1 := r.cell (i := 1) rfl
 replace r_f0 := r.free 0
 replace r_f1 := r.free 1
 replace r_lt := r.lt
 replace s_0 := s.cell (i := 0) rfl
 replace s_1 := s.cell (i := 1) rfl
 replace s_f0 := s.free 0
 replace s_f1 := s.free 1
 replace s_lt := s.lt
 replace h6 := h6.mono (Nat.le_refl _) (hKW3 _ (by omega) (by omega))
 replace h8 := h8.mono (Nat.le_refl _) (hKW3 _ (by omega) (by omega))
 replace hE0 := hSW3 _ _ (by omega) (by omega) hE0
 have HF : Hid (RTrunc w q y (.returned (.tuple #[.agg #[.bool (decide (q < 0)), .slice a6 n6 c6], .agg #[.bool (decide (y < 0)), .slice a8 n8 c8]])) W3) :=
  Lib.hid ⟨_, _, rfl, ⟨a6, n6, c6, rfl, h6.mono (by omega) (Kept.refl _ _)⟩, ⟨a8, n8, c8, rfl, h8.mono (by omega) (Kept.refl _ _)⟩, hE0⟩
 clear h1 h5 h6 h7 h8 hE0 hKW3 hSW3 hzW3 hE1 hpn hnz
 go_wp2_with fail
 exact bodyPost_ret (v := .tuple #[.agg #[.bool (decide (q < 0)), .slice a6 n6 c6], .agg #[.bool (decide (y < 0)), .slice a8 n8 c8]]) (by simp [results, Tryz.results144, go_sem, r_0, r_1, s_0, s_1]) rfl HF.out
set_option maxHeartbeats 2000000 in
theorem r3Exact_z (b b2 : Bool) (B : Nat) (w : World) (a a2 : Option Addr) (n c n2 c2 : Nat) (l l2 : Nt) (z z2 : Int) (h : NatS B w a n c l) (h2 : NatS B w a2 n2 c2 l2) (hn : n ≤ 4398046511104) (hn2 : n2 ≤ 4398046511104) (hz : Hid (ival b l = z)) (hz2 : Hid (ival b2 l2 = z2)) (h0 : z2 ≠ 0) (hdv : z2 ∣ z) :
  Calls Tryz.prog 126 #[.agg #[.bool b, .slice a n c], .agg #[.bool b2, .slice a2 n2 c2]] w fun e w' => ∃ v, e = .returned (.tuple #[v, .bool true]) ∧ IntN w.heap.size w' v (z / z2) ∧ Ext w w' := by
 have hp : 0 < val l2 := by
  have := hz2.out
  have := ival_neg this
  omega
 have HQ : Hid (z.tdiv z2 = z / z2) := Lib.hid (Int.tdiv_eq_ediv_of_dvd hdv)
 have hr : z.tmod z2 = 0 := Int.tmod_eq_zero_of_dvd hdv
 go_enter Tryz.func126, Tryz.ntmps126
 go_wp2_with fail
 have p0 := Blk.new w 25 #[.bool b, .slice a n c]
 have p1 := Blk.new (w.alloc (Obj.cells #[.bool b, .slice a n c] 25)) 25 #[.bool b2, .slice a2 n2 c2]
 replace p0 := p0.ext ((Below.refl _ _).alloc (Nat.le_refl _) (Obj.cells #[.bool b2, .slice a2 n2 c2] 25))
 have r := Blk.new ((w.alloc (Obj.cells #[.bool b, .slice a n c] 25)).alloc (Obj.cells #[.bool b2, .slice a2 n2 c2] 25)) 25 #[.bool false, .slice none 0 0]
 replace p0 := p0.ext ((Below.refl _ _).alloc (Nat.le_refl _) (Obj.cells #[.bool false, .slice none 0 0] 25))
 replace p1 := p1.ext ((Below.refl _ _).alloc (Nat.le_refl _) (Obj.cells #[.bool false, .slice none 0 0] 25))
 have hEW : Ext w (((w.alloc (Obj.cells #[.bool b, .slice a n c] 25)).alloc (Obj.cells #[.bool b2, .slice a2 n2 c2] 25)).alloc (Obj.cells #[.bool false, .slice none 0 0] 25)) := ((((Below.refl _ w).alloc (by simp) _).alloc (by simp) _).alloc (by simp; omega) _)
 generalize hgW : ((w.alloc (Obj.cells #[.bool b, .slice a n c] 25)).alloc (Obj.cells #[.bool b2, .slice a2 n2 c2] 25)).alloc (Obj.cells #[.bool false, .slice none 0 0] 25) = W at *
 clear hgW
 simp only [World.size_alloc] at p1 r
 have p0_ne_p1 : ¬ w.heap.size = w.heap.size + 1 := by omega
 have p0_ne_r : ¬ w.heap.size = w.heap.size + 1 + 1 := by omega
 have p1_ne_p0 : ¬ w.heap.size + 1 = w.heap.size := by omega
 have p1_ne_r : ¬ w.heap.size + 1 = w.heap.size + 1 + 1 := by omega
 have r_ne_p0 : ¬ w.heap.size + 1 + 1 = w.heap.size := by omega
 have r_ne_p1 : ¬ w.heap.size + 1 + 1 = w.heap.size + 1 := by omega
 replace p0_0 := p0.cell (i := 0) rfl
 replace p0_1 := p0.cell (i := 1) rfl
 replace p1_0 := p1.cell (i := 0) rfl
 replace p1_1 := p1.cell (i := 1) rfl
 replace r_0 := r.cell (i := 0) rfl
 replace r_1 := r.cell (i := 1) rfl
 replace r_f0 := r.free 0
 replace r_f1 := r.free 1
 replace r_lt := r.lt
 have hW : w.heap.size + 1 + 1 + 1 ≤ W.heap.size := r_lt
 refine (r3Trunc_z b b2 B W a a2 n c n2 c2 l l2 z z2 (h.ext (Nat.le_refl _) hEW) (h2.ext (Nat.le_refl _) hEW) hn hn2 hz hz2 hp).mono ?_
 rintro e w1 ⟨v1, v2, rfl, ⟨a3, n3, c3, rfl, h3⟩, ⟨a4, n4, c4, rfl, h4⟩, hE1⟩
 rw [HQ.out] at h3 ⊢
 rw [hr] at h4 ⊢
 rw [show decide ((0 : Int) < 0) = false from rfl]
 replace p0 := p0.ext hE1; replace p0_0 := p0.cell (i := 0) rfl; replace p0_1 := p0.cell (i := 1) rfl; replace p1 := p1.ext hE1; replace p1_0 := p1.cell (i := 0) rfl; replace p1_1 := p1.cell (i := 1) rfl; replace r := r.ext hE1; replace r_0 := r.cell (i := 0) rfl; replace r_1 := r.cell (i := 1) rfl; replace r_f0 := r.free 0; replace r_f1 := r.free 1; replace r_lt := r.lt
 have hE0 := Ext.trans hEW hE1
 generalize hq : z / z2 = q at *
 have HQ2 := Lib.hid hq
 clear hq
 clear hr h h2 hEW hp h0 hdv
 go_wp2_with fail
 have x := Blk.new w1 25 #[.bool (decide (q < 0)), .slice a3 n3 c3]
 have y := Blk.new (w1.alloc (Obj.cells #[.bool (decide (q < 0)), .slice a3 n3 c3] 25)) 25 #[.bool false, .slice a4 n4 c4]
 replace x := x.ext ((Below.refl _ _).alloc (Nat.le_refl _) (Obj.cells #[.bool false, .slice a4 n4 c4] 25))
 have hEW2 : Ext w1 ((w1.alloc (Obj.cells #[.bool (decide (q < 0)), .slice a3 n3 c3] 25)).alloc (Obj.cells #[.bool false, .slice a4 n4 c4] 25)) := (((Below.refl _ w1).alloc (by simp) _).alloc (by simp) _)
 generalize hgW2 : (w1.alloc (Obj.cells #[.bool (decide (q < 0)), .slice a3 n3 c3] 25)).alloc (Obj.cells #[.bool false, .slice a4 n4 c4] 25) = W2 at *
 clear hgW2
 simp only [World.size_alloc] at y
 have x_ne_y : ¬ w1.heap.size = w1.heap.size + 1 := by omega
 have y_ne_x : ¬ w1.heap.size + 1 = w1.heap.size := by omega
 replace x_0 := x.cell (i := 0) rfl
 replace x_1 := x.cell (i := 1) rfl
 replace y_0 := y.cell (i := 0) rfl
 replace y_1 := y.cell (i := 1) rfl
 replace r := r.ext hEW2; replace r_0 := r.cell (i := 0) rfl; replace r_1 := r.cell (i := 1) rfl; replace r_f0 := r.free 0; replace r_f1 := r.free 1; replace r_lt := r.lt
 replace h3 := h3.ext (Nat.le_refl _) hEW2
 replace h4 := h4.ext (Nat.le_refl _) hEW2
 replace hE0 := Ext.trans hE0 hEW2
 refine (r3Sign_z false _ W2 _ _ _ _ 0 h4 (Lib.hid rfl)).mono ?_
 rintro e w3 ⟨rfl, hE3⟩
 rw [Int.sign_zero]
 replace r := r.ext hE3; replace r_0 := r.cell (i := 0) rfl; replace r_1 := r.cell (i := 1) rfl; replace r_f0 := r.free 0; replace r_f1 := r.free 1; replace r_lt := r.lt; replace x := x.ext hE3; replace x_0 := x.cell (i := 0) rfl; replace x_1 := x.cell (i := 1) rfl
 replace h3 := h3.ext (Nat.le_refl _) hE3
 replace hE0 := Ext.trans hE0 hE3
 have HF : Hid (∃ v, Ending.returned (.tuple #[.agg #[.bool (decide (q < 0)), .slice a3 n3 c3], .bool true]) = .returned (.tuple #[v, .bool true]) ∧ IntN w.heap.size ((w3.setCell ⟨w.heap.size + 1 + 1, 0, none⟩ (.bool (decide (q < 0)))).setCell ⟨w.heap.size + 1 + 1, 1, none⟩ (.slice a3 n3 c3)) v q ∧ Ext w ((w3.setCell ⟨w.heap.size + 1 + 1, 0, none⟩ (.bool (decide (q < 0)))).setCell ⟨w.heap.size + 1 + 1, 1, none⟩ (.slice a3 n3 c3))) :=
  Lib.hid ⟨_, rfl, ⟨a3, n3, c3, rfl, h3.mono (by omega) (Kept.trans (kept_set _ _ _ (show w.heap.size + 1 + 1 < W.heap.size by omega)) (kept_set _ _ _ (by omega)))⟩, Below.setCell (Below.setCell hE0 (p := ⟨w.heap.size + 1 + 1, 0, none⟩) (by simp; omega) _) (p := ⟨w.heap.size + 1 + 1, 1, none⟩) (by simp; omega) _⟩
 clear h3 h4 hE0 hE1 hEW2 hE3
 have r2 := (r.set 0 (.bool (decide (q < 0)))).set 1 (.slice a3 n3 c3)
 have hr0 := r2.cell (i := 0) rfl
 have hr1 := r2.cell (i := 1) rfl
 go_wp2_with fail
 exact bodyPost_ret (v := .tuple #[.agg #[.bool (decide (q < 0)), .slice a3 n3 c3], .bool true]) (by simp [results, Tryz.results126, go_sem, hr0, hr1]) rfl (by rw [HQ2.out]; exact HF.out)
end Go.Proofs.YtbhenelehhiakaaGreat
namespace Go.Proofs.YtbhenelehhiakaaGreat
def ratv (z d : Int) : Rat := Rat.divInt z d
theorem ratv_neg (z d : Int) : ratv (-z) (-d) = ratv z d := Rat.neg_divInt_neg z d
theorem ratv_num {z d : Int} (hd : 0 < d) : (ratv z d).num = z / (Int.gcd z d : Nat) := by
 unfold ratv
 rw [Rat.num_divInt, Int.sign_eq_one_of_pos hd, Int.one_mul, Int.gcd_comm]
theorem ratv_den {z d : Int} (hd : 0 < d) : ((ratv z d).den : Int) = d / (Int.gcd z d : Nat) := by
 unfold ratv
 rw [Rat.den_divInt, if_neg (by omega), Int.natCast_ediv, Int.gcd_comm, Int.natAbs_of_nonneg (Int.le_of_lt hd)]
theorem ratv_self (q : Rat) : ratv q.num q.den = q := Rat.num_divInt_den q
theorem ratv_mul (a b c d : Int) : ratv a b * ratv c d = ratv (a * c) (b * d) := Rat.divInt_mul_divInt ..
theorem ratv_add {b d : Int} (a c : Int) (hb : b ≠ 0) (hd : d ≠ 0) : ratv a b + ratv c d = ratv (a * d + c * b) (b * d) := Rat.divInt_add_divInt _ _ hb hd
def comDen (qs : List Rat) : Nat := qs.foldl (fun (m : Nat) q => Nat.lcm m q.den) 1
theorem comDen_snoc (qs : List Rat) (q : Rat) : comDen (qs ++ [q]) = Nat.lcm (comDen qs) q.den := by simp [comDen]
theorem comDen_pos (qs : List Rat) : 0 < comDen qs := by
 have key : ∀ (qs : List Rat) (m : Nat), 0 < m → 0 < qs.foldl (fun (m : Nat) q => Nat.lcm m q.den) m := by
  intro qs
  induction qs with
  | nil => intro m hm; exact hm
  | cons q qs ih => intro m hm; exact ih _ (Nat.lcm_pos hm q.den_pos)
 exact key qs 1 (by decide)
theorem comDen_append_dvd (qs ys : List Rat) : comDen qs ∣ comDen (qs ++ ys) := by
 have key : ∀ (ys : List Rat) (m : Nat), m ∣ ys.foldl (fun (m : Nat) q => Nat.lcm m q.den) m := by
  intro ys
  induction ys with
  | nil => intro m; exact Nat.dvd_refl _
  | cons z zs ih => intro m; exact Nat.dvd_trans (Nat.dvd_lcm_left _ _) (ih _)
 unfold comDen
 rw [List.foldl_append]
 exact key ys _
theorem den_dvd_comDen (qs : List Rat) (q : Rat) (hq : q ∈ qs) : q.den ∣ comDen qs := by
 obtain ⟨l, r, rfl⟩ := List.append_of_mem hq
 have : l ++ q :: r = (l ++ [q]) ++ r := by simp
 rw [this]
 refine Nat.dvd_trans ?_ (comDen_append_dvd _ _)
 rw [comDen_snoc]
 exact Nat.dvd_lcm_right _ _
theorem comDen_dvd (qs : List Rat) (D : Nat) (h : ∀ q ∈ qs, q.den ∣ D) : comDen qs ∣ D := by
 have key : ∀ (qs : List Rat) (m : Nat), m ∣ D → (∀ q ∈ qs, q.den ∣ D) → qs.foldl (fun (m : Nat) q => Nat.lcm m q.den) m ∣ D := by
  intro qs
  induction qs with
  | nil => intro m hm _; exact hm
  | cons q qs ih =>
   intro m hm hq
   exact ih _ (Nat.lcm_dvd hm (hq q (List.mem_cons_self ..))) (fun y hy => hq y (List.mem_cons_of_mem _ hy))
 exact key qs 1 (Nat.one_dvd _) h
def comNum (D : Nat) (q : Rat) : Int := q.num * ((D / q.den : Nat) : Int)
theorem comNum_eq (D : Nat) (q : Rat) (h : q.den ∣ D) : q * ((D : Int) : Rat) = ((comNum D q : Int) : Rat) := by
 obtain ⟨k, rfl⟩ := h
 have hk : q.den * k / q.den = k := Nat.mul_div_cancel_left k q.den_pos
 unfold comNum
 rw [hk]
 have hq : q = ((q.num : Int) : Rat) * ((q.den : Int) : Rat)⁻¹ := by
  conv => lhs; rw [← ratv_self q]
  unfold ratv
  rw [Rat.divInt_eq_div, Rat.div_def]
 have hd : ((q.den : Int) : Rat) ≠ 0 := by
  have := q.den_pos
  exact fun e => by have := Rat.intCast_inj.1 (show ((q.den : Int) : Rat) = ((0 : Int) : Rat) from e); omega
 rw [Int.natCast_mul, Rat.intCast_mul, Rat.intCast_mul]
 generalize ((q.den : Int) : Rat) = d at *
 generalize ((q.num : Int) : Rat) = m at *
 generalize ((k : Int) : Rat) = t
 rw [hq]
 have : d⁻¹ * d = 1 := Rat.inv_mul_cancel _ hd
 rw [Rat.mul_assoc, ← Rat.mul_assoc d⁻¹, this, Rat.one_mul]
end Go.Proofs.YtbhenelehhiakaaGreat
namespace Go.Proofs.YtbhenelehhiakaaGreat
open Go.RowKit
def RRat (w : World) (q : Rat) (e : Ending) (w' : World) : Prop := ∃ a n c a2 n2 c2, e = .returned (.agg #[.bool (decide (q.num < 0)), .slice a n c, .bool false, .slice a2 n2 c2]) ∧ NatS w.heap.size w' a n c (limbs q.num.natAbs) ∧ NatS w.heap.size w' a2 n2 c2 (limbs q.den) ∧ Ext w w'
theorem kept_set4 {B b : Nat} (w : World) (v0 v1 v2 v3 : Value) (hb : b < B) : Kept B w ((((w.setCell ⟨b, 0, none⟩ v0).setCell ⟨b, 1, none⟩ v1).setCell ⟨b, 2, none⟩ v2).setCell ⟨b, 3, none⟩ v3) :=
 Kept.trans (kept_set _ _ _ hb) (Kept.trans (kept_set _ _ _ hb) (Kept.trans (kept_set _ _ _ hb) (kept_set _ _ _ hb)))
theorem ext_set4 {w w' : World} {b : Nat} (h : Ext w w') (v0 v1 v2 v3 : Value) (hb : w.heap.size ≤ b) : Ext w ((((w'.setCell ⟨b, 0, none⟩ v0).setCell ⟨b, 1, none⟩ v1).setCell ⟨b, 2, none⟩ v2).setCell ⟨b, 3, none⟩ v3) :=
 Below.setCell (Below.setCell (Below.setCell (Below.setCell h (p := ⟨b, 0, none⟩) hb _) (p := ⟨b, 1, none⟩) hb _) (p := ⟨b, 2, none⟩) hb _) (p := ⟨b, 3, none⟩) hb _
theorem RRat.box {w w2 : World} {B r : Nat} {q : Rat} {v0 v1 v2 v3 : Value} {a a2 : Option Addr} {n c n2 c2 : Nat} {b b2 : Bool} (hr : w.heap.size ≤ r) (hrB : r < B) (hE : Ext w w2) (h : NatS B w2 a n c (limbs q.num.natAbs)) (h2 : NatS B w2 a2 n2 c2 (limbs q.den)) (hb : b = decide (q.num < 0)) (hb2 : b2 = false) :
  RRat w q (.returned (.agg #[.bool b, .slice a n c, .bool b2, .slice a2 n2 c2])) ((((w2.setCell ⟨r, 0, none⟩ v0).setCell ⟨r, 1, none⟩ v1).setCell ⟨r, 2, none⟩ v2).setCell ⟨r, 3, none⟩ v3) := by
 subst hb; subst hb2
 exact ⟨a, n, c, a2, n2, c2, rfl, h.mono (by omega) (kept_set4 _ _ _ _ _ hrB), h2.mono (by omega) (kept_set4 _ _ _ _ _ hrB), ext_set4 hE _ _ _ _ hr⟩
theorem RRat.ext {w w' w2 : World} {q : Rat} {e : Ending} (h : RRat w q e w') (hE : Ext w' w2) : RRat w q e w2 := by
 obtain ⟨a, n, c, a2, n2, c2, rfl, h1, h2, h3⟩ := h
 exact ⟨a, n, c, a2, n2, c2, rfl, h1.ext (Nat.le_refl _) hE, h2.ext (Nat.le_refl _) hE, Ext.trans h3 hE⟩
set_option maxRecDepth 100000 in
set_option maxHeartbeats 8000000 in
theorem r5Make_z (b b2 : Bool) (B : Nat) (w : World) (a a2 : Option Addr) (n c n2 c2 : Nat) (l l2 : Nt) (z d : Int) (q : Rat) (h : NatS B w a n c l) (h2 : NatS B w a2 n2 c2 l2) (hn : n ≤ 549755813888) (hn2 : n2 ≤ 549755813888) (hz : Hid (ival b l = z)) (hz2 : Hid (ival b2 l2 = d)) (hd0 : d ≠ 0) (hq : Hid (ratv z d = q)) :
  Calls Tryz.prog 90 #[.agg #[.bool b, .slice a n c], .agg #[.bool b2, .slice a2 n2 c2]] w (RRat w q) := by
 have hnz : nl z.natAbs ≤ 549755813888 := Nat.le_trans (nl_of h hz) hn
 have hnd : nl d.natAbs ≤ 549755813888 := Nat.le_trans (nl_of h2 hz2) hn2
 go_enter Tryz.func90, Tryz.ntmps90
 go_wp2_with fail
 have p0 := Blk.new w 25 #[.bool b, .slice a n c]
 have p1 := Blk.new (w.alloc (Obj.cells #[.bool b, .slice a n c] 25)) 25 #[.bool b2, .slice a2 n2 c2]
 replace p0 := p0.ext ((Below.refl _ _).alloc (Nat.le_refl _) (Obj.cells #[.bool b2, .slice a2 n2 c2] 25))
 have r := Blk.new ((w.alloc (Obj.cells #[.bool b, .slice a n c] 25)).alloc (Obj.cells #[.bool b2, .slice a2 n2 c2] 25)) 75 #[.bool false, .slice none 0 0, .bool false, .slice none 0 0]
 replace p0 := p0.ext ((Below.refl _ _).alloc (Nat.le_refl _) (Obj.cells #[.bool false, .slice none 0 0, .bool false, .slice none 0 0] 75))
 replace p1 := p1.ext ((Below.refl _ _).alloc (Nat.le_refl _) (Obj.cells #[.bool false, .slice none 0 0, .bool false, .slice none 0 0] 75))
 have hEW : Ext w (((w.alloc (Obj.cells #[.bool b, .slice a n c] 25)).alloc (Obj.cells #[.bool b2, .slice a2 n2 c2] 25)).alloc (Obj.cells #[.bool false, .slice none 0 0, .bool false, .slice none 0 0] 75)) := ((((Below.refl _ w).alloc (by simp) _).alloc (by simp) _).alloc (by simp; omega) _)
 generalize hgW : ((w.alloc (Obj.cells #[.bool b, .slice a n c] 25)).alloc (Obj.cells #[.bool b2, .slice a2 n2 c2] 25)).alloc (Obj.cells #[.bool false, .slice none 0 0, .bool false, .slice none 0 0] 75) = W at *
 clear hgW
 simp only [World.size_alloc] at p1 r
 have p0_ne_p1 : ¬ w.heap.size = w.heap.size + 1 := by omega
 have p0_ne_r : ¬ w.heap.size = w.heap.size + 1 + 1 := by omega
 have p1_ne_p0 : ¬ w.heap.size + 1 = w.heap.size := by omega
 have p1_ne_r : ¬ w.heap.size + 1 = w.heap.size + 1 + 1 := by omega
 have r_ne_p0 : ¬ w.heap.size + 1 + 1 = w.heap.size := by omega
 have r_ne_p1 : ¬ w.heap.size + 1 + 1 = w.heap.size + 1 := by omega
 replace p0_0 := p0.cell (i := 0) rfl
 replace p0_1 := p0.cell (i := 1) rfl
 replace p0_f0 := p0.free 0
 replace p0_f1 := p0.free 1
 replace p0_lt := p0.lt
 replace p1_0 := p1.cell (i := 0) rfl
 replace p1_1 := p1.cell (i := 1) rfl
 replace p1_f0 := p1.free 0
 replace p1_f1 := p1.free 1
 replace p1_lt := p1.lt
 replace r_0 := r.cell (i := 0) rfl
 replace r_1 := r.cell (i := 1) rfl
 replace r_2 := r.cell (i := 2) rfl
 replace r_3 := r.cell (i := 3) rfl
 replace r_f0 := r.free 0
 replace r_f1 := r.free 1
 replace r_f2 := r.free 2
 replace r_f3 := r.free 3
 replace r_lt := r.lt
 have hW : w.heap.size + 1 + 1 + 1 ≤ W.heap.size := r_lt
 have h1 := Sl.zero (h.ext (Nat.le_refl _) hEW)
 have h5 := Sl.zero (h2.ext (Nat.le_refl _) hEW)
 refine (r3Sign_z b2 0 W a2 n2 c2 l2 d h5 hz2).mono ?_
 rintro e w1 ⟨rfl, hE1⟩
 replace p0 := p0.ext hE1; replace p0_0 := p0.cell (i := 0) rfl; replace p0_1 := p0.cell (i := 1) rfl; replace p0_f0 := p0.free 0; replace p0_f1 := p0.free 1; replace p0_lt := p0.lt; replace p1 := p1.ext hE1; replace p1_0 := p1.cell (i := 0) rfl; replace p1_1 := p1.cell (i := 1) rfl; replace p1_f0 := p1.free 0; replace p1_f1 := p1.free 1; replace p1_lt := p1.lt; replace r := r.ext hE1; replace r_0 := r.cell (i := 0) rfl; replace r_1 := r.cell (i := 1) rfl; replace r_2 := r.cell (i := 2) rfl; replace r_3 := r.cell (i := 3) rfl; replace r_f0 := r.free 0; replace r_f1 := r.free 1; replace r_f2 := r.free 2; replace r_f3 := r.free 3; replace r_lt := r.lt
 replace h1 := h1.ext (Nat.le_refl _) hE1
 replace h5 := h5.ext (Nat.le_refl _) hE1
 have hE0 := Ext.trans hEW hE1
 have hsz := hE1.size
 clear h h2 hEW hE1
 by_cases hneg : d < 0
 ·rw [Int.sign_eq_neg_one_of_neg hneg]
  obtain ⟨y, hy⟩ : ∃ y, -z = y := ⟨_, rfl⟩
  obtain ⟨t, ht⟩ : ∃ t, -d = t := ⟨_, rfl⟩
  have HY := Lib.hid hy
  have HT := Lib.hid ht
  have htp : 0 < t := by omega
  have HQ : Hid (ratv y t = q) := Lib.hid (by rw [← hy, ← ht, ratv_neg]; exact hq.out)
  have hny : nl y.natAbs ≤ 549755813888 := by rw [← hy, Int.natAbs_neg]; exact hnz
  have hnt : nl t.natAbs ≤ 549755813888 := by rw [← ht, Int.natAbs_neg]; exact hnd
  clear hneg hy ht hd0 hnz hnd
  go_wp2_with fail
  have hd : Ext w1 w1.drew := (Below.refl _ _).drew
  replace p0 := p0.ext hd; replace p0_0 := p0.cell (i := 0) rfl; replace p0_1 := p0.cell (i := 1) rfl; replace p0_f0 := p0.free 0; replace p0_f1 := p0.free 1; replace p0_lt := p0.lt; replace p1 := p1.ext hd; replace p1_0 := p1.cell (i := 0) rfl; replace p1_1 := p1.cell (i := 1) rfl; replace p1_f0 := p1.free 0; replace p1_f1 := p1.free 1; replace p1_lt := p1.lt; replace r := r.ext hd; replace r_0 := r.cell (i := 0) rfl; replace r_1 := r.cell (i := 1) rfl; replace r_2 := r.cell (i := 2) rfl; replace r_3 := r.cell (i := 3) rfl; replace r_f0 := r.free 0; replace r_f1 := r.free 1; replace r_f2 := r.free 2; replace r_f3 := r.free 3; replace r_lt := r.lt
  replace h1 := h1.ext (Nat.le_refl _) hd
  replace h5 := h5.ext (Nat.le_refl _) hd
  replace hE0 := Ext.trans hE0 hd
  replace hsz := Nat.le_trans hsz hd.size
  clear hd
  go_region_with
   (first | (go_at_call 124; (with_reducible refine (r3Neg_y b _ _ _ _ _ _ z y h1 (by omega) hz HY).mono ?_); rintro e w1 ⟨a3, n3, c3, rfl, h3, hE1⟩; replace p0 := p0.ext hE1; replace p0_0 := p0.cell (i := 0) rfl; replace p0_1 := p0.cell (i := 1) rfl; replace p0_f0 := p0.free 0; replace p0_f1 := p0.free 1; replace p0_lt := p0.lt; replace p1 := p1.ext hE1; replace p1_0 := p1.cell (i := 0) rfl; replace p1_1 := p1.cell (i := 1) rfl; replace p1_f0 := p1.free 0; replace p1_f1 := p1.free 1; replace p1_lt := p1.lt; replace r := r.ext hE1; replace r_0 := r.cell (i := 0) rfl; replace r_1 := r.cell (i := 1) rfl; replace r_2 := r.cell (i := 2) rfl; replace r_3 := r.cell (i := 3) rfl; replace r_f0 := r.free 0; replace r_f1 := r.free 1; replace r_f2 := r.free 2; replace r_f3 := r.free 3; replace r_lt := r.lt; replace h1 := h1.ext (Nat.le_refl _) hE1; replace h5 := h5.ext (Nat.le_refl _) hE1; (try replace h4 := h4.ext (Nat.le_refl _) hE1); replace h3 := h3.mono hsz (Kept.refl _ _); replace hsz := Nat.le_trans hsz hE1.size; replace hE0 := Ext.trans hE0 hE1)
          | (go_at_call 124; (with_reducible refine (r3Neg_y b2 _ _ _ _ _ _ d t h5 (by omega) hz2 HT).mono ?_); rintro e w1 ⟨a4, n4, c4, rfl, h4, hE1⟩; replace p0 := p0.ext hE1; replace p0_0 := p0.cell (i := 0) rfl; replace p0_1 := p0.cell (i := 1) rfl; replace p0_f0 := p0.free 0; replace p0_f1 := p0.free 1; replace p0_lt := p0.lt; replace p1 := p1.ext hE1; replace p1_0 := p1.cell (i := 0) rfl; replace p1_1 := p1.cell (i := 1) rfl; replace p1_f0 := p1.free 0; replace p1_f1 := p1.free 1; replace p1_lt := p1.lt; replace r := r.ext hE1; replace r_0 := r.cell (i := 0) rfl; replace r_1 := r.cell (i := 1) rfl; replace r_2 := r.cell (i := 2) rfl; replace r_3 := r.cell (i := 3) rfl; replace r_f0 := r.free 0; replace r_f1 := r.free 1; replace r_f2 := r.free 2; replace r_f3 := r.free 3; replace r_lt := r.lt; replace h1 := h1.ext (Nat.le_refl _) hE1; replace h5 := h5.ext (Nat.le_refl _) hE1; (try replace h3 := h3.ext (Nat.le_refl _) hE1); replace h4 := h4.mono hsz (Kept.refl _ _); replace hsz := Nat.le_trans hsz hE1.size; replace hE0 := Ext.trans hE0 hE1))
  all_goals
   have hn3 : n3 ≤ 549755813888 := by have := h3.len; rw [length_limbs] at this; omega
   have hn4 : n4 ≤ 549755813888 := by have := h4.len; rw [length_limbs] at this; omega
   replace p0 := p0.set 0 (.bool (decide (y < 0)))
   replace p1 := p1.set_ne 0 (.bool (decide (y < 0))) (show w.heap.size + 1 ≠ w.heap.size by omega)
   replace r := r.set_ne 0 (.bool (decide (y < 0))) (show w.heap.size + 1 + 1 ≠ w.heap.size by omega)
   replace p0 := p0.set 1 (.slice a3 n3 c3)
   replace p1 := p1.set_ne 1 (.slice a3 n3 c3) (show w.heap.size + 1 ≠ w.heap.size by omega)
   replace r := r.set_ne 1 (.slice a3 n3 c3) (show w.heap.size + 1 + 1 ≠ w.heap.size by omega)
   replace p0 := p0.set_ne 0 (.bool (decide (t < 0))) (show w.heap.size ≠ w.heap.size + 1 by omega)
   replace p1 := p1.set 0 (.bool (decide (t < 0)))
   replace r := r.set_ne 0 (.bool (decide (t < 0))) (show w.heap.size + 1 + 1 ≠ w.heap.size + 1 by omega)
   replace p0 := p0.set_ne 1 (.slice a4 n4 c4) (show w.heap.size ≠ w.heap.size + 1 by omega)
   replace p1 := p1.set 1 (.slice a4 n4 c4)
   replace r := r.set_ne 1 (.slice a4 n4 c4) (show w.heap.size + 1 + 1 ≠ w.heap.size + 1 by omega)
   have hKW3 : ∀ bB_ : Nat, w.heap.size < bB_ → w.heap.size + 1 < bB_ → Kept bB_ w1 (((((w1).setCell ⟨w.heap.size, 0, none⟩ (.bool (decide (y < 0)))).setCell ⟨w.heap.size, 1, none⟩ (.slice a3 n3 c3)).setCell ⟨w.heap.size + 1, 0, none⟩ (.bool (decide (t < 0)))).setCell ⟨w.heap.size + 1, 1, none⟩ (.slice a4 n4 c4)) := fun bB_ h0 h1 => (Kept.trans (kept_set _ _ _ h0) (Kept.trans (kept_set _ _ _ h0) (Kept.trans (kept_set _ _ _ h1) (kept_set _ _ _ h1))))
   have hzW3 : w1.heap.size ≤ (((((w1).setCell ⟨w.heap.size, 0, none⟩ (.bool (decide (y < 0)))).setCell ⟨w.heap.size, 1, none⟩ (.slice a3 n3 c3)).setCell ⟨w.heap.size + 1, 0, none⟩ (.bool (decide (t < 0)))).setCell ⟨w.heap.size + 1, 1, none⟩ (.slice a4 n4 c4)).heap.size := by simp only [World.setCell, Array.size_modify]; exact Nat.le_refl _
   have hSW3 : ∀ (nB_ : Nat) (uB_ : World), nB_ ≤ w.heap.size → nB_ ≤ w.heap.size + 1 → Below nB_ uB_ w1 → Below nB_ uB_ (((((w1).setCell ⟨w.heap.size, 0, none⟩ (.bool (decide (y < 0)))).setCell ⟨w.heap.size, 1, none⟩ (.slice a3 n3 c3)).setCell ⟨w.heap.size + 1, 0, none⟩ (.bool (decide (t < 0)))).setCell ⟨w.heap.size + 1, 1, none⟩ (.slice a4 n4 c4)) := fun nB_ uB_ h0 h1 hb => (Below.setCell (Below.setCell (Below.setCell (Below.setCell hb (p := ⟨w.heap.size, 0, none⟩) h0 (.bool (decide (y < 0)))) (p := ⟨w.heap.size, 1, none⟩) h0 (.slice a3 n3 c3)) (p := ⟨w.heap.size + 1, 0, none⟩) h1 (.bool (decide (t < 0)))) (p := ⟨w.heap.size + 1, 1, none⟩) h1 (.slice a4 n4 c4))
   replace p0 : Blk (((((w1).setCell ⟨w.heap.size, 0, none⟩ (.bool (decide (y < 0)))).setCell ⟨w.heap.size, 1, none⟩ (.slice a3 n3 c3)).setCell ⟨w.heap.size + 1, 0, none⟩ (.bool (decide (t < 0)))).setCell ⟨w.heap.size + 1, 1, none⟩ (.slice a4 n4 c4)) (w.heap.size) 25 #[.bool (decide (y < 0)), .slice a3 n3 c3] := p0
   replace p1 : Blk (((((w1).setCell ⟨w.heap.size, 0, none⟩ (.bool (decide (y < 0)))).setCell ⟨w.heap.size, 1, none⟩ (.slice a3 n3 c3)).setCell ⟨w.heap.size + 1, 0, none⟩ (.bool (decide (t < 0)))).setCell ⟨w.heap.size + 1, 1, none⟩ (.slice a4 n4 c4)) (w.heap.size + 1) 25 #[.bool (decide (t < 0)), .slice a4 n4 c4] := p1
   generalize hgW3 : ((((w1).setCell ⟨w.heap.size, 0, none⟩ (.bool (decide (y < 0)))).setCell ⟨w.heap.size, 1, none⟩ (.slice a3 n3 c3)).setCell ⟨w.heap.size + 1, 0, none⟩ (.bool (decide (t < 0)))).setCell ⟨w.heap.size + 1, 1, none⟩ (.slice a4 n4 c4) = W3 at *
   clear hgW3
   replace p0_0 := p0.cell (i := 0) rfl
   replace p0_1 := p0.cell (i := 1) rfl
   replace p0_f0 := p0.free 0
   replace p0_f1 := p0.free 1
   replace p0_lt := p0.lt
   replace p1_0 := p1.cell (i := 0) rfl
   replace p1_1 := p1.cell (i := 1) rfl
   replace p1_f0 := p1.free 0
   replace p1_f1 := p1.free 1
   replace p1_lt := p1.lt
   replace r_0 := r.cell (i := 0) rfl
   replace r_1 := r.cell (i := 1) rfl
   replace r_2 := r.cell (i := 2) rfl
   replace r_3 := r.cell (i := 3) rfl
   replace r_f0 := r.free 0
   replace r_f1 := r.free 1
   replace r_f2 := r.free 2
   replace r_f3 := r.free 3
   replace r_lt := r.lt
   replace h3 := h3.mono (Nat.zero_le _) (hKW3 W.heap.size (by omega) (by omega))
   replace h4 := h4.mono (Nat.zero_le _) (hKW3 W.heap.size (by omega) (by omega))
   replace hE0 := hSW3 _ _ (by omega) (by omega) hE0
   replace hsz : W.heap.size ≤ W3.heap.size := Nat.le_trans hsz hzW3
   clear h1 h5 hz hz2 hKW3 hSW3 hzW3 hE1 hny hnt HY HT
   go_wp2_with fail
   refine (r3Gcd_z (decide (y < 0)) (decide (t < 0)) 0 _ a3 a4 n3 c3 n4 c4 _ _ y t h3 h4 hn3 hn4 (hnorm _) (hnorm _)).mono ?_
   rintro e w4 ⟨a5, n5, c5, rfl, h7, hE4⟩
   replace p0 := p0.ext hE4; replace p0_0 := p0.cell (i := 0) rfl; replace p0_1 := p0.cell (i := 1) rfl; replace p1 := p1.ext hE4; replace p1_0 := p1.cell (i := 0) rfl; replace p1_1 := p1.cell (i := 1) rfl; replace r := r.ext hE4; replace r_0 := r.cell (i := 0) rfl; replace r_1 := r.cell (i := 1) rfl; replace r_2 := r.cell (i := 2) rfl; replace r_3 := r.cell (i := 3) rfl; replace r_f0 := r.free 0; replace r_f1 := r.free 1; replace r_f2 := r.free 2; replace r_f3 := r.free 3; replace r_lt := r.lt
   replace h3 := h3.ext (Nat.le_refl _) hE4
   replace h4 := h4.ext (Nat.le_refl _) hE4
   replace h7 := Sl.zero h7
   replace hE0 := Ext.trans hE0 hE4
   replace hsz := Nat.le_trans hsz hE4.size
   have hg0 : ((Int.gcd y t : Nat) : Int) ≠ 0 := by
    have := Int.gcd_pos_of_ne_zero_right y (show t ≠ 0 by omega)
    omega
   have hgz : ((Int.gcd y t : Nat) : Int) ∣ y := Int.gcd_dvd_left ..
   have hgd : ((Int.gcd y t : Nat) : Int) ∣ t := Int.gcd_dvd_right ..
   have HN : Hid (y / ((Int.gcd y t : Nat) : Int) = q.num) := Lib.hid (by rw [← HQ.out, ratv_num (by omega)])
   have HD : Hid (t / ((Int.gcd y t : Nat) : Int) = (q.den : Int)) := Lib.hid (by rw [← HQ.out, ratv_den (by omega)])
   have hn5 : n5 ≤ 549755813888 := by
    have h9 := h7.len
    rw [length_limbs, Int.natAbs_natCast] at h9
    have h10 := nl_mono (Int.gcd_le_natAbs_right y (show t ≠ 0 by omega))
    have h11 := nl_of h4 (hnorm _)
    have h12 := hn4
    omega
   generalize ((Int.gcd y t : Nat) : Int) = g at *
   clear hE4
   have p0_a0 := cell_alloc p0_0 (Obj.cells #[.bool (decide (g < 0)), .slice a5 n5 c5] 25)
   have p0_a1 := cell_alloc p0_1 (Obj.cells #[.bool (decide (g < 0)), .slice a5 n5 c5] 25)
   go_wp2_with fail
   clear p0_a0 p0_a1
   have x := Blk.new w4 25 #[.bool (decide (g < 0)), .slice a5 n5 c5]
   have hEW5 : Ext w4 (w4.alloc (Obj.cells #[.bool (decide (g < 0)), .slice a5 n5 c5] 25)) := ((Below.refl _ w4).alloc (by simp) _)
   generalize hgW5 : w4.alloc (Obj.cells #[.bool (decide (g < 0)), .slice a5 n5 c5] 25) = W5 at *
   clear hgW5
   replace x_0 := x.cell (i := 0) rfl
   replace x_1 := x.cell (i := 1) rfl
   replace p0 := p0.ext hEW5; replace p0_0 := p0.cell (i := 0) rfl; replace p0_1 := p0.cell (i := 1) rfl; replace p1 := p1.ext hEW5; replace p1_0 := p1.cell (i := 0) rfl; replace p1_1 := p1.cell (i := 1) rfl; replace r := r.ext hEW5; replace r_0 := r.cell (i := 0) rfl; replace r_1 := r.cell (i := 1) rfl; replace r_2 := r.cell (i := 2) rfl; replace r_3 := r.cell (i := 3) rfl; replace r_f0 := r.free 0; replace r_f1 := r.free 1; replace r_f2 := r.free 2; replace r_f3 := r.free 3; replace r_lt := r.lt
   replace h3 := h3.ext (Nat.le_refl _) hEW5
   replace h4 := h4.ext (Nat.le_refl _) hEW5
   replace h7 := h7.ext (Nat.le_refl _) hEW5
   replace hE0 := Ext.trans hE0 hEW5
   replace hsz := Nat.le_trans hsz hEW5.size
   clear hEW5
   refine (r3Exact_z (decide (y < 0)) _ 0 W5 _ _ _ _ _ _ _ _ y g h3 h7 (by omega) (by omega) (hnorm _) (hnorm _) hg0 hgz).mono ?_
   rintro e w6 ⟨v6, rfl, ⟨a6, n6, c6, rfl, h8⟩, hE6⟩
   rw [HN.out] at h8 ⊢
   replace p1 := p1.ext hE6; replace p1_0 := p1.cell (i := 0) rfl; replace p1_1 := p1.cell (i := 1) rfl; replace r := r.ext hE6; replace r_0 := r.cell (i := 0) rfl; replace r_1 := r.cell (i := 1) rfl; replace r_2 := r.cell (i := 2) rfl; replace r_3 := r.cell (i := 3) rfl; replace r_f0 := r.free 0; replace r_f1 := r.free 1; replace r_f2 := r.free 2; replace r_f3 := r.free 3; replace r_lt := r.lt; replace x := x.ext hE6; replace x_0 := x.cell (i := 0) rfl; replace x_1 := x.cell (i := 1) rfl
   replace h4 := h4.ext (Nat.le_refl _) hE6
   replace h7 := h7.ext (Nat.le_refl _) hE6
   replace h8 := h8.mono hsz (Kept.refl _ _)
   replace hE0 := Ext.trans hE0 hE6
   replace hsz := Nat.le_trans hsz hE6.size
   clear hE6 h3 p0 p0_0 p0_1
   have p1_a0 := cell_alloc p1_0 (Obj.cells #[.bool (decide (q.num < 0)), .slice a6 n6 c6] 25)
   have p1_a1 := cell_alloc p1_1 (Obj.cells #[.bool (decide (q.num < 0)), .slice a6 n6 c6] 25)
   have x_a0 := cell_alloc x_0 (Obj.cells #[.bool (decide (q.num < 0)), .slice a6 n6 c6] 25)
   have x_a1 := cell_alloc x_1 (Obj.cells #[.bool (decide (q.num < 0)), .slice a6 n6 c6] 25)
   go_wp2_with fail
   clear p1_a0 p1_a1 x_a0 x_a1
   have u := Blk.new w6 25 #[.bool (decide (q.num < 0)), .slice a6 n6 c6]
   have hEW7 : Ext w6 (w6.alloc (Obj.cells #[.bool (decide (q.num < 0)), .slice a6 n6 c6] 25)) := ((Below.refl _ w6).alloc (by simp) _)
   generalize hgW7 : w6.alloc (Obj.cells #[.bool (decide (q.num < 0)), .slice a6 n6 c6] 25) = W7 at *
   clear hgW7
   replace u_0 := u.cell (i := 0) rfl
   replace u_1 := u.cell (i := 1) rfl
   replace p1 := p1.ext hEW7; replace p1_0 := p1.cell (i := 0) rfl; replace p1_1 := p1.cell (i := 1) rfl; replace r := r.ext hEW7; replace r_0 := r.cell (i := 0) rfl; replace r_1 := r.cell (i := 1) rfl; replace r_2 := r.cell (i := 2) rfl; replace r_3 := r.cell (i := 3) rfl; replace r_f0 := r.free 0; replace r_f1 := r.free 1; replace r_f2 := r.free 2; replace r_f3 := r.free 3; replace r_lt := r.lt; replace x := x.ext hEW7; replace x_0 := x.cell (i := 0) rfl; replace x_1 := x.cell (i := 1) rfl
   replace h4 := h4.ext (Nat.le_refl _) hEW7
   replace h7 := h7.ext (Nat.le_refl _) hEW7
   replace h8 := h8.ext (Nat.le_refl _) hEW7
   replace hE0 := Ext.trans hE0 hEW7
   replace hsz := Nat.le_trans hsz hEW7.size
   clear hEW7
   refine (r3Exact_z (decide (t < 0)) _ 0 W7 _ _ _ _ _ _ _ _ t g h4 h7 (by omega) (by omega) (hnorm _) (hnorm _) hg0 hgd).mono ?_
   rintro e w8 ⟨v8, rfl, ⟨a8, n8, c8, rfl, h9⟩, hE8⟩
   rw [HD.out] at h9 ⊢
   replace r := r.ext hE8; replace r_0 := r.cell (i := 0) rfl; replace r_1 := r.cell (i := 1) rfl; replace r_2 := r.cell (i := 2) rfl; replace r_3 := r.cell (i := 3) rfl; replace r_f0 := r.free 0; replace r_f1 := r.free 1; replace r_f2 := r.free 2; replace r_f3 := r.free 3; replace r_lt := r.lt; replace u := u.ext hE8; replace u_0 := u.cell (i := 0) rfl; replace u_1 := u.cell (i := 1) rfl
   replace h8 := h8.ext (Nat.le_refl _) hE8
   replace h9 := h9.mono hsz (Kept.refl _ _)
   replace hE0 := Ext.trans hE0 hE8
   replace hsz := Nat.le_trans hsz hE8.size
   rw [show decide (((q.den : Nat) : Int) < 0) = false from decide_eq_false (by omega)]
   rw [Int.natAbs_natCast] at h9
   clear hE8 h7 h4 hg0 hgz hgd HN HD
   have u_a0 := cell_alloc u_0 (Obj.cells #[.bool false, .slice a8 n8 c8] 25)
   have u_a1 := cell_alloc u_1 (Obj.cells #[.bool false, .slice a8 n8 c8] 25)
   have HF := Lib.hid ((RRat.box (q := q) (r := w.heap.size + 1 + 1) (v0 := .bool (decide (q.num < 0))) (v1 := .slice a6 n6 c6) (v2 := .bool false) (v3 := .slice a8 n8 c8) (by omega) (by omega) hE0 h8 h9 rfl rfl).ext ((Below.refl _ _).alloc (Nat.le_refl _) (Obj.cells #[.bool false, .slice a8 n8 c8] 25)))
   clear h8 h9 hE0
   generalize decide (q.num < 0) = sg at *
   have r2 := Blk.ext ((((r.set 0 (.bool sg)).set 1 (.slice a6 n6 c6)).set 2 (.bool false)).set 3 (.slice a8 n8 c8)) ((Below.refl _ _).alloc (Nat.le_refl _) (Obj.cells #[.bool false, .slice a8 n8 c8] 25))
   have hr0 := r2.cell (i := 0) rfl
   have hr1 := r2.cell (i := 1) rfl
   have hr2 := r2.cell (i := 2) rfl
   have hr3 := r2.cell (i := 3) rfl
   go_wp2_with fail
   exact bodyPost_ret (v := .agg #[.bool sg, .slice a6 n6 c6, .bool false, .slice a8 n8 c8]) (by simp [results, Tryz.results90, go_sem, hr0, hr1, hr2, hr3]) rfl HF.out
 ·have hdp : 0 < d := by omega
  rw [Int.sign_eq_one_of_pos hdp]
  clear hneg hd0
  have HQ := hq
  skip
  skip
  go_wp2_with fail
  refine (r3Gcd_z b b2 0 _ a a2 n c n2 c2 l l2 z d h1 h5 hn hn2 hz hz2).mono ?_
  rintro e w4 ⟨a5, n5, c5, rfl, h7, hE4⟩
  replace p0 := p0.ext hE4; replace p0_0 := p0.cell (i := 0) rfl; replace p0_1 := p0.cell (i := 1) rfl; replace p1 := p1.ext hE4; replace p1_0 := p1.cell (i := 0) rfl; replace p1_1 := p1.cell (i := 1) rfl; replace r := r.ext hE4; replace r_0 := r.cell (i := 0) rfl; replace r_1 := r.cell (i := 1) rfl; replace r_2 := r.cell (i := 2) rfl; replace r_3 := r.cell (i := 3) rfl; replace r_f0 := r.free 0; replace r_f1 := r.free 1; replace r_f2 := r.free 2; replace r_f3 := r.free 3; replace r_lt := r.lt
  replace h1 := h1.ext (Nat.le_refl _) hE4
  replace h5 := h5.ext (Nat.le_refl _) hE4
  replace h7 := Sl.zero h7
  replace hE0 := Ext.trans hE0 hE4
  replace hsz := Nat.le_trans hsz hE4.size
  have hg0 : ((Int.gcd z d : Nat) : Int) ≠ 0 := by
   have := Int.gcd_pos_of_ne_zero_right z (show d ≠ 0 by omega)
   omega
  have hgz : ((Int.gcd z d : Nat) : Int) ∣ z := Int.gcd_dvd_left ..
  have hgd : ((Int.gcd z d : Nat) : Int) ∣ d := Int.gcd_dvd_right ..
  have HN : Hid (z / ((Int.gcd z d : Nat) : Int) = q.num) := Lib.hid (by rw [← HQ.out, ratv_num (by omega)])
  have HD : Hid (d / ((Int.gcd z d : Nat) : Int) = (q.den : Int)) := Lib.hid (by rw [← HQ.out, ratv_den (by omega)])
  have hn5 : n5 ≤ 549755813888 := by
   have h9 := h7.len
   rw [length_limbs, Int.natAbs_natCast] at h9
   have h10 := nl_mono (Int.gcd_le_natAbs_right z (show d ≠ 0 by omega))
   have h11 := nl_of h5 hz2
   have h12 := hn2
   omega
  generalize ((Int.gcd z d : Nat) : Int) = g at *
  clear hE4
  have p0_a0 := cell_alloc p0_0 (Obj.cells #[.bool (decide (g < 0)), .slice a5 n5 c5] 25)
  have p0_a1 := cell_alloc p0_1 (Obj.cells #[.bool (decide (g < 0)), .slice a5 n5 c5] 25)
  go_wp2_with fail
  clear p0_a0 p0_a1
  have x := Blk.new w4 25 #[.bool (decide (g < 0)), .slice a5 n5 c5]
  have hEW5 : Ext w4 (w4.alloc (Obj.cells #[.bool (decide (g < 0)), .slice a5 n5 c5] 25)) := ((Below.refl _ w4).alloc (by simp) _)
  generalize hgW5 : w4.alloc (Obj.cells #[.bool (decide (g < 0)), .slice a5 n5 c5] 25) = W5 at *
  clear hgW5
  replace x_0 := x.cell (i := 0) rfl
  replace x_1 := x.cell (i := 1) rfl
  replace p0 := p0.ext hEW5; replace p0_0 := p0.cell (i := 0) rfl; replace p0_1 := p0.cell (i := 1) rfl; replace p1 := p1.ext hEW5; replace p1_0 := p1.cell (i := 0) rfl; replace p1_1 := p1.cell (i := 1) rfl; replace r := r.ext hEW5; replace r_0 := r.cell (i := 0) rfl; replace r_1 := r.cell (i := 1) rfl; replace r_2 := r.cell (i := 2) rfl; replace r_3 := r.cell (i := 3) rfl; replace r_f0 := r.free 0; replace r_f1 := r.free 1; replace r_f2 := r.free 2; replace r_f3 := r.free 3; replace r_lt := r.lt
  replace h1 := h1.ext (Nat.le_refl _) hEW5
  replace h5 := h5.ext (Nat.le_refl _) hEW5
  replace h7 := h7.ext (Nat.le_refl _) hEW5
  replace hE0 := Ext.trans hE0 hEW5
  replace hsz := Nat.le_trans hsz hEW5.size
  clear hEW5
  refine (r3Exact_z b _ 0 W5 _ _ _ _ _ _ _ _ z g h1 h7 (by omega) (by omega) hz (hnorm _) hg0 hgz).mono ?_
  rintro e w6 ⟨v6, rfl, ⟨a6, n6, c6, rfl, h8⟩, hE6⟩
  rw [HN.out] at h8 ⊢
  replace p1 := p1.ext hE6; replace p1_0 := p1.cell (i := 0) rfl; replace p1_1 := p1.cell (i := 1) rfl; replace r := r.ext hE6; replace r_0 := r.cell (i := 0) rfl; replace r_1 := r.cell (i := 1) rfl; replace r_2 := r.cell (i := 2) rfl; replace r_3 := r.cell (i := 3) rfl; replace r_f0 := r.free 0; replace r_f1 := r.free 1; replace r_f2 := r.free 2; replace r_f3 := r.free 3; replace r_lt := r.lt; replace x := x.ext hE6; replace x_0 := x.cell (i := 0) rfl; replace x_1 := x.cell (i := 1) rfl
  replace h5 := h5.ext (Nat.le_refl _) hE6
  replace h7 := h7.ext (Nat.le_refl _) hE6
  replace h8 := h8.mono hsz (Kept.refl _ _)
  replace hE0 := Ext.trans hE0 hE6
  replace hsz := Nat.le_trans hsz hE6.size
  clear hE6 h1 p0 p0_0 p0_1
  have p1_a0 := cell_alloc p1_0 (Obj.cells #[.bool (decide (q.num < 0)), .slice a6 n6 c6] 25)
  have p1_a1 := cell_alloc p1_1 (Obj.cells #[.bool (decide (q.num < 0)), .slice a6 n6 c6] 25)
  have x_a0 := cell_alloc x_0 (Obj.cells #[.bool (decide (q.num < 0)), .slice a6 n6 c6] 25)
  have x_a1 := cell_alloc x_1 (Obj.cells #[.bool (decide (q.num < 0)), .slice a6 n6 c6] 25)
  go_wp2_with fail
  clear p1_a0 p1_a1 x_a0 x_a1
  have u := Blk.new w6 25 #[.bool (decide (q.num < 0)), .slice a6 n6 c6]
  have hEW7 : Ext w6 (w6.alloc (Obj.cells #[.bool (decide (q.num < 0)), .slice a6 n6 c6] 25)) := ((Below.refl _ w6).alloc (by simp) _)
  generalize hgW7 : w6.alloc (Obj.cells #[.bool (decide (q.num < 0)), .slice a6 n6 c6] 25) = W7 at *
  clear hgW7
  replace u_0 := u.cell (i := 0) rfl
  replace u_1 := u.cell (i := 1) rfl
  replace p1 := p1.ext hEW7; replace p1_0 := p1.cell (i := 0) rfl; replace p1_1 := p1.cell (i := 1) rfl; replace r := r.ext hEW7; replace r_0 := r.cell (i := 0) rfl; replace r_1 := r.cell (i := 1) rfl; replace r_2 := r.cell (i := 2) rfl; replace r_3 := r.cell (i := 3) rfl; replace r_f0 := r.free 0; replace r_f1 := r.free 1; replace r_f2 := r.free 2; replace r_f3 := r.free 3; replace r_lt := r.lt; replace x := x.ext hEW7; replace x_0 := x.cell (i := 0) rfl; replace x_1 := x.cell (i := 1) rfl
  replace h5 := h5.ext (Nat.le_refl _) hEW7
  replace h7 := h7.ext (Nat.le_refl _) hEW7
  replace h8 := h8.ext (Nat.le_refl _) hEW7
  replace hE0 := Ext.trans hE0 hEW7
  replace hsz := Nat.le_trans hsz hEW7.size
  clear hEW7
  refine (r3Exact_z b2 _ 0 W7 _ _ _ _ _ _ _ _ d g h5 h7 (by omega) (by omega) hz2 (hnorm _) hg0 hgd).mono ?_
  rintro e w8 ⟨v8, rfl, ⟨a8, n8, c8, rfl, h9⟩, hE8⟩
  rw [HD.out] at h9 ⊢
  replace r := r.ext hE8; replace r_0 := r.cell (i := 0) rfl; replace r_1 := r.cell (i := 1) rfl; replace r_2 := r.cell (i := 2) rfl; replace r_3 := r.cell (i := 3) rfl; replace r_f0 := r.free 0; replace r_f1 := r.free 1; replace r_f2 := r.free 2; replace r_f3 := r.free 3; replace r_lt := r.lt; replace u := u.ext hE8; replace u_0 := u.cell (i := 0) rfl; replace u_1 := u.cell (i := 1) rfl
  replace h8 := h8.ext (Nat.le_refl _) hE8
  replace h9 := h9.mono hsz (Kept.refl _ _)
  replace hE0 := Ext.trans hE0 hE8
  replace hsz := Nat.le_trans hsz hE8.size
  rw [show decide (((q.den : Nat) : Int) < 0) = false from decide_eq_false (by omega)]
  rw [Int.natAbs_natCast] at h9
  clear hE8 h7 h5 hg0 hgz hgd HN HD
  have u_a0 := cell_alloc u_0 (Obj.cells #[.bool false, .slice a8 n8 c8] 25)
  have u_a1 := cell_alloc u_1 (Obj.cells #[.bool false, .slice a8 n8 c8] 25)
  have HF := Lib.hid ((RRat.box (q := q) (r := w.heap.size + 1 + 1) (v0 := .bool (decide (q.num < 0))) (v1 := .slice a6 n6 c6) (v2 := .bool false) (v3 := .slice a8 n8 c8) (by omega) (by omega) hE0 h8 h9 rfl rfl).ext ((Below.refl _ _).alloc (Nat.le_refl _) (Obj.cells #[.bool false, .slice a8 n8 c8] 25)))
  clear h8 h9 hE0
  generalize decide (q.num < 0) = sg at *
  have r2 := Blk.ext ((((r.set 0 (.bool sg)).set 1 (.slice a6 n6 c6)).set 2 (.bool false)).set 3 (.slice a8 n8 c8)) ((Below.refl _ _).alloc (Nat.le_refl _) (Obj.cells #[.bool false, .slice a8 n8 c8] 25))
  have hr0 := r2.cell (i := 0) rfl
  have hr1 := r2.cell (i := 1) rfl
  have hr2 := r2.cell (i := 2) rfl
  have hr3 := r2.cell (i := 3) rfl
  go_wp2_with fail
  exact bodyPost_ret (v := .agg #[.bool sg, .slice a6 n6 c6, .bool false, .slice a8 n8 c8]) (by simp [results, Tryz.results90, go_sem, hr0, hr1, hr2, hr3]) rfl HF.out
end Go.Proofs.YtbhenelehhiakaaGreat
namespace Go.Proofs.YtbhenelehhiakaaGreat
open Go.RowKit
def RatS (K : Nat) (w : World) (b : Bool) (a : Option Addr) (n c : Nat) (b2 : Bool) (a2 : Option Addr) (n2 c2 : Nat) (q : Rat) : Prop := ∃ l l2, NatS 0 w a n c l ∧ NatS 0 w a2 n2 c2 l2 ∧ ival b2 l2 ≠ 0 ∧ ratv (ival b l) (ival b2 l2) = q ∧ n ≤ K ∧ n2 ≤ K
theorem RatS.ext {K : Nat} {w w' : World} {b b2 : Bool} {a a2 : Option Addr} {n c n2 c2 : Nat} {q : Rat} (h : RatS K w b a n c b2 a2 n2 c2 q) (hE : Ext w w') : RatS K w' b a n c b2 a2 n2 c2 q := by
 obtain ⟨l, l2, h1, h2, h3⟩ := h
 exact ⟨l, l2, h1.ext (Nat.le_refl _) hE, h2.ext (Nat.le_refl _) hE, h3⟩
theorem RatS.of {K B : Nat} {w : World} {a a2 : Option Addr} {n c n2 c2 : Nat} {q : Rat} (h : NatS B w a n c (limbs q.num.natAbs)) (h2 : NatS B w a2 n2 c2 (limbs q.den)) (hK : nl q.num.natAbs ≤ K) (hK2 : nl q.den ≤ K) : RatS K w (decide (q.num < 0)) a n c false a2 n2 c2 q := by
 refine ⟨_, _, Sl.zero h, Sl.zero h2, ?_, ?_, ?_, ?_⟩
 ·rw [ival_limbs]; simp; have := q.den_pos; omega
 ·rw [ival_norm, ival_limbs]; exact ratv_self q
 ·have := h.len; rw [length_limbs] at this; omega
 ·have := h2.len; rw [length_limbs] at this; omega
set_option maxHeartbeats 2000000 in
theorem r5Norm_s (K : Nat) (hK : K ≤ 549755813888) (w : World) (b b2 : Bool) (a a2 : Option Addr) (n c n2 c2 : Nat) (q : Rat) (h : RatS K w b a n c b2 a2 n2 c2 q) :
  Calls Tryz.prog 122 #[.agg #[.bool b, .slice a n c, .bool b2, .slice a2 n2 c2]] w (RRat w q) := by
 obtain ⟨l, l2, h1, h2, h3, h4, h5, h6⟩ := h
 have H4 := Lib.hid h4
 clear h4
 go_enter Tryz.func122, Tryz.ntmps122
 go_wp2_with fail
 have p0 := Blk.new w 75 #[.bool b, .slice a n c, .bool b2, .slice a2 n2 c2]
 have r := Blk.new (w.alloc (Obj.cells #[.bool b, .slice a n c, .bool b2, .slice a2 n2 c2] 75)) 75 #[.bool false, .slice none 0 0, .bool false, .slice none 0 0]
 replace p0 := p0.ext ((Below.refl _ _).alloc (Nat.le_refl _) (Obj.cells #[.bool false, .slice none 0 0, .bool false, .slice none 0 0] 75))
 have hEW : Ext w ((w.alloc (Obj.cells #[.bool b, .slice a n c, .bool b2, .slice a2 n2 c2] 75)).alloc (Obj.cells #[.bool false, .slice none 0 0, .bool false, .slice none 0 0] 75)) := (((Below.refl _ w).alloc (by simp) _).alloc (by simp) _)
 generalize hgW : (w.alloc (Obj.cells #[.bool b, .slice a n c, .bool b2, .slice a2 n2 c2] 75)).alloc (Obj.cells #[.bool false, .slice none 0 0, .bool false, .slice none 0 0] 75) = W at *
 clear hgW
 simp only [World.size_alloc] at r
 have p0_ne_r : ¬ w.heap.size = w.heap.size + 1 := by omega
 have r_ne_p0 : ¬ w.heap.size + 1 = w.heap.size := by omega
 replace p0_0 := p0.cell (i := 0) rfl
 replace p0_1 := p0.cell (i := 1) rfl
 replace p0_2 := p0.cell (i := 2) rfl
 replace p0_3 := p0.cell (i := 3) rfl
 replace r_0 := r.cell (i := 0) rfl
 replace r_1 := r.cell (i := 1) rfl
 replace r_2 := r.cell (i := 2) rfl
 replace r_3 := r.cell (i := 3) rfl
 replace r_f0 := r.free 0
 replace r_f1 := r.free 1
 replace r_f2 := r.free 2
 replace r_f3 := r.free 3
 replace r_lt := r.lt
 have hrB := r_lt
 refine (r5Make_z b b2 0 W _ _ _ _ _ _ l l2 _ _ q (h1.ext (Nat.le_refl _) hEW) (h2.ext (Nat.le_refl _) hEW) (by omega) (by omega) (Lib.hid rfl) (Lib.hid rfl) h3 H4).mono ?_
 rintro e w1 ⟨a3, n3, c3, a4, n4, c4, rfl, h7, h8, hE1⟩
 replace r := r.ext hE1; replace r_0 := r.cell (i := 0) rfl; replace r_1 := r.cell (i := 1) rfl; replace r_2 := r.cell (i := 2) rfl; replace r_3 := r.cell (i := 3) rfl; replace r_f0 := r.free 0; replace r_f1 := r.free 1; replace r_f2 := r.free 2; replace r_f3 := r.free 3; replace r_lt := r.lt
 have HF := Lib.hid (RRat.box (q := q) (r := w.heap.size + 1) (v0 := .bool (decide (q.num < 0))) (v1 := .slice a3 n3 c3) (v2 := .bool false) (v3 := .slice a4 n4 c4) (by omega) hrB (Ext.trans hEW hE1) h7 h8 rfl rfl)
 clear h1 h2 h3 h7 h8 hE1 hEW
 generalize decide (q.num < 0) = sg at *
 have r2 : Blk (((((w1).setCell ⟨w.heap.size + 1, 0, none⟩ (.bool sg)).setCell ⟨w.heap.size + 1, 1, none⟩ (.slice a3 n3 c3)).setCell ⟨w.heap.size + 1, 2, none⟩ (.bool false)).setCell ⟨w.heap.size + 1, 3, none⟩ (.slice a4 n4 c4)) _ _ #[.bool sg, .slice a3 n3 c3, .bool false, .slice a4 n4 c4] := ((((r).set 0 (.bool sg)).set 1 (.slice a3 n3 c3)).set 2 (.bool false)).set 3 (.slice a4 n4 c4)
 have hr0 := r2.cell (i := 0) rfl
 have hr1 := r2.cell (i := 1) rfl
 have hr2 := r2.cell (i := 2) rfl
 have hr3 := r2.cell (i := 3) rfl
 go_wp2_with fail
 exact bodyPost_ret (v := .agg #[.bool sg, .slice a3 n3 c3, .bool false, .slice a4 n4 c4]) (by simp [results, Tryz.results122, go_sem, hr0, hr1, hr2, hr3]) rfl HF.out
set_option maxHeartbeats 2000000 in
theorem r5Of_any (m : Int) (w : World) (h1 : -9223372036854775808 ≤ m) (h2 : m ≤ 9223372036854775807) :
  Calls Tryz.prog 101 #[.int .i64 m] w (RRat w (m : Rat)) := by
 obtain ⟨q, hq⟩ : ∃ q : Rat, q = (m : Rat) := ⟨_, rfl⟩
 have hqn : q.num = m := by rw [hq, Rat.num_intCast]
 have hqd : q.den = 1 := by rw [hq, Rat.den_intCast]
 rw [← hq]
 have HN := Lib.hid hqn
 have HD := Lib.hid hqd
 clear hq hqn hqd
 go_enter Tryz.func101, Tryz.ntmps101
 go_wp2_with fail
 have r := Blk.new w 75 #[.bool false, .slice none 0 0, .bool false, .slice none 0 0]
 have hEW : Ext w (w.alloc (Obj.cells #[.bool false, .slice none 0 0, .bool false, .slice none 0 0] 75)) := ((Below.refl _ w).alloc (by simp) _)
 generalize hgW : w.alloc (Obj.cells #[.bool false, .slice none 0 0, .bool false, .slice none 0 0] 75) = W at *
 clear hgW
 replace r_0 := r.cell (i := 0) rfl
 replace r_1 := r.cell (i := 1) rfl
 replace r_2 := r.cell (i := 2) rfl
 replace r_3 := r.cell (i := 3) rfl
 replace r_f0 := r.free 0
 replace r_f1 := r.free 1
 replace r_f2 := r.free 2
 replace r_f3 := r.free 3
 replace r_lt := r.lt
 have hrB := r_lt
 refine (r3Of_any m W h1 h2).mono ?_
 rintro e w1 ⟨a3, n3, c3, rfl, h7, hE1⟩
 replace r := r.ext hE1; replace r_0 := r.cell (i := 0) rfl; replace r_1 := r.cell (i := 1) rfl; replace r_2 := r.cell (i := 2) rfl; replace r_3 := r.cell (i := 3) rfl; replace r_f0 := r.free 0; replace r_f1 := r.free 1; replace r_f2 := r.free 2; replace r_f3 := r.free 3; replace r_lt := r.lt
 go_wp2_with fail
 refine (r3Of_any 1 w1 (by omega) (by omega)).mono ?_
 rintro e w2 ⟨a4, n4, c4, rfl, h8, hE2⟩
 replace r := r.ext hE2; replace r_0 := r.cell (i := 0) rfl; replace r_1 := r.cell (i := 1) rfl; replace r_2 := r.cell (i := 2) rfl; replace r_3 := r.cell (i := 3) rfl; replace r_f0 := r.free 0; replace r_f1 := r.free 1; replace r_f2 := r.free 2; replace r_f3 := r.free 3; replace r_lt := r.lt
 rw [show decide ((1 : Int) < 0) = false from rfl]
 have HF := Lib.hid (RRat.box (q := q) (r := w.heap.size) (v0 := .bool (decide (m < 0))) (v1 := .slice a3 n3 c3) (v2 := .bool false) (v3 := .slice a4 n4 c4) (by omega) hrB (Ext.trans hEW (Ext.trans hE1 hE2)) (by rw [HN.out]; exact h7.ext (Nat.le_refl _) hE2) (by rw [HD.out]; exact h8.mono hE1.size (Kept.refl _ _)) (b := decide (m < 0)) (by rw [HN.out]) (b2 := false) rfl)
 clear h7 h8 hE1 hE2 hEW
 generalize decide (m < 0) = sg at *
 have r2 : Blk (((((w2).setCell ⟨w.heap.size, 0, none⟩ (.bool sg)).setCell ⟨w.heap.size, 1, none⟩ (.slice a3 n3 c3)).setCell ⟨w.heap.size, 2, none⟩ (.bool false)).setCell ⟨w.heap.size, 3, none⟩ (.slice a4 n4 c4)) _ _ #[.bool sg, .slice a3 n3 c3, .bool false, .slice a4 n4 c4] := ((((r).set 0 (.bool sg)).set 1 (.slice a3 n3 c3)).set 2 (.bool false)).set 3 (.slice a4 n4 c4)
 have hr0 := r2.cell (i := 0) rfl
 have hr1 := r2.cell (i := 1) rfl
 have hr2 := r2.cell (i := 2) rfl
 have hr3 := r2.cell (i := 3) rfl
 go_wp2_with fail
 exact bodyPost_ret (v := .agg #[.bool sg, .slice a3 n3 c3, .bool false, .slice a4 n4 c4]) (by simp [results, Tryz.results101, go_sem, hr0, hr1, hr2, hr3]) rfl HF.out
set_option maxHeartbeats 2000000 in
theorem r5Int_z (b : Bool) (B : Nat) (w : World) (a : Option Addr) (n c : Nat) (l : Nt) (z : Int) (h : NatS B w a n c l) (hn : n ≤ 549755813888) (hz : Hid (ival b l = z)) :
  Calls Tryz.prog 133 #[.agg #[.bool b, .slice a n c]] w (RRat w (z : Rat)) := by
 obtain ⟨q, hq⟩ : ∃ q : Rat, q = (z : Rat) := ⟨_, rfl⟩
 have hqn : q.num = z := by rw [hq, Rat.num_intCast]
 have hqd : q.den = 1 := by rw [hq, Rat.den_intCast]
 rw [← hq]
 have HN := Lib.hid hqn
 have HD := Lib.hid hqd
 clear hq hqn hqd
 go_enter Tryz.func133, Tryz.ntmps133
 go_wp2_with fail
 have p0 := Blk.new w 25 #[.bool b, .slice a n c]
 have r := Blk.new (w.alloc (Obj.cells #[.bool b, .slice a n c] 25)) 75 #[.bool false, .slice none 0 0, .bool false, .slice none 0 0]
 replace p0 := p0.ext ((Below.refl _ _).alloc (Nat.le_refl _) (Obj.cells #[.bool false, .slice none 0 0, .bool false, .slice none 0 0] 75))
 have hEW : Ext w ((w.alloc (Obj.cells #[.bool b, .slice a n c] 25)).alloc (Obj.cells #[.bool false, .slice none 0 0, .bool false, .slice none 0 0] 75)) := (((Below.refl _ w).alloc (by simp) _).alloc (by simp) _)
 generalize hgW : (w.alloc (Obj.cells #[.bool b, .slice a n c] 25)).alloc (Obj.cells #[.bool false, .slice none 0 0, .bool false, .slice none 0 0] 75) = W at *
 clear hgW
 simp only [World.size_alloc] at r
 have p0_ne_r : ¬ w.heap.size = w.heap.size + 1 := by omega
 have r_ne_p0 : ¬ w.heap.size + 1 = w.heap.size := by omega
 replace p0_0 := p0.cell (i := 0) rfl
 replace p0_1 := p0.cell (i := 1) rfl
 replace r_0 := r.cell (i := 0) rfl
 replace r_1 := r.cell (i := 1) rfl
 replace r_2 := r.cell (i := 2) rfl
 replace r_3 := r.cell (i := 3) rfl
 replace r_f0 := r.free 0
 replace r_f1 := r.free 1
 replace r_f2 := r.free 2
 replace r_f3 := r.free 3
 replace r_lt := r.lt
 have hrB := r_lt
 refine (r3Norm_z b B W a n c l z (h.ext (Nat.le_refl _) hEW) (by omega) hz).mono ?_
 rintro e w1 ⟨a3, n3, c3, rfl, h7, hE1⟩
 replace r := r.ext hE1; replace r_0 := r.cell (i := 0) rfl; replace r_1 := r.cell (i := 1) rfl; replace r_2 := r.cell (i := 2) rfl; replace r_3 := r.cell (i := 3) rfl; replace r_f0 := r.free 0; replace r_f1 := r.free 1; replace r_f2 := r.free 2; replace r_f3 := r.free 3; replace r_lt := r.lt
 go_wp2_with fail
 refine (r3Of_any 1 w1 (by omega) (by omega)).mono ?_
 rintro e w2 ⟨a4, n4, c4, rfl, h8, hE2⟩
 replace r := r.ext hE2; replace r_0 := r.cell (i := 0) rfl; replace r_1 := r.cell (i := 1) rfl; replace r_2 := r.cell (i := 2) rfl; replace r_3 := r.cell (i := 3) rfl; replace r_f0 := r.free 0; replace r_f1 := r.free 1; replace r_f2 := r.free 2; replace r_f3 := r.free 3; replace r_lt := r.lt
 rw [show decide ((1 : Int) < 0) = false from rfl]
 have HF := Lib.hid (RRat.box (q := q) (r := w.heap.size + 1) (v0 := .bool (decide (z < 0))) (v1 := .slice a3 n3 c3) (v2 := .bool false) (v3 := .slice a4 n4 c4) (by omega) hrB (Ext.trans hEW (Ext.trans hE1 hE2)) (by rw [HN.out]; exact h7.ext (Nat.le_refl _) hE2) (by rw [HD.out]; exact h8.mono hE1.size (Kept.refl _ _)) (b := decide (z < 0)) (by rw [HN.out]) (b2 := false) rfl)
 clear h7 h8 hE1 hE2 hEW h
 generalize decide (z < 0) = sg at *
 have r2 : Blk (((((w2).setCell ⟨w.heap.size + 1, 0, none⟩ (.bool sg)).setCell ⟨w.heap.size + 1, 1, none⟩ (.slice a3 n3 c3)).setCell ⟨w.heap.size + 1, 2, none⟩ (.bool false)).setCell ⟨w.heap.size + 1, 3, none⟩ (.slice a4 n4 c4)) _ _ #[.bool sg, .slice a3 n3 c3, .bool false, .slice a4 n4 c4] := ((((r).set 0 (.bool sg)).set 1 (.slice a3 n3 c3)).set 2 (.bool false)).set 3 (.slice a4 n4 c4)
 have hr0 := r2.cell (i := 0) rfl
 have hr1 := r2.cell (i := 1) rfl
 have hr2 := r2.cell (i := 2) rfl
 have hr3 := r2.cell (i := 3) rfl
 go_wp2_with fail
 exact bodyPost_ret (v := .agg #[.bool sg, .slice a3 n3 c3, .bool false, .slice a4 n4 c4]) (by simp [results, Tryz.results133, go_sem, hr0, hr1, hr2, hr3]) rfl HF.out
set_option maxRecDepth 100000 in
set_option maxHeartbeats 8000000 in
theorem r5Mul_s (K K2 : Nat) (hK : K + K2 ≤ 549755813888) (w : World) (b b2 b3 b4 : Bool) (a a2 a3 a4 : Option Addr) (n c n2 c2 n3 c3 n4 c4 : Nat) (q s : Rat) (h : RatS K w b a n c b2 a2 n2 c2 q) (h' : RatS K2 w b3 a3 n3 c3 b4 a4 n4 c4 s) (t : Rat) (ht : Hid (q * s = t)) :
  Calls Tryz.prog 96 #[.agg #[.bool b, .slice a n c, .bool b2, .slice a2 n2 c2], .agg #[.bool b3, .slice a3 n3 c3, .bool b4, .slice a4 n4 c4]] w (RRat w t) := by
 obtain ⟨l, l2, h1, h2, hd1, hq1, hn1, hn2⟩ := h
 obtain ⟨l3, l4, h3, h4, hd2, hq2, hn3, hn4⟩ := h'
 obtain ⟨x1, hx1⟩ : ∃ x, ival b l = x := ⟨_, rfl⟩
 obtain ⟨x2, hx2⟩ : ∃ x, ival b2 l2 = x := ⟨_, rfl⟩
 obtain ⟨x3, hx3⟩ : ∃ x, ival b3 l3 = x := ⟨_, rfl⟩
 obtain ⟨x4, hx4⟩ : ∃ x, ival b4 l4 = x := ⟨_, rfl⟩
 rw [hx1, hx2] at hq1
 rw [hx3, hx4] at hq2
 rw [hx2] at hd1
 rw [hx4] at hd2
 have X1 := Lib.hid hx1
 have X2 := Lib.hid hx2
 have X3 := Lib.hid hx3
 have X4 := Lib.hid hx4
 have HT : Hid (ratv (x1 * x3) (x2 * x4) = t) := Lib.hid (by rw [← ht.out, ← hq1, ← hq2, ratv_mul])
 have hdd : x2 * x4 ≠ 0 := Int.mul_ne_zero hd1 hd2
 have hb1 : nl (x1 * x3).natAbs ≤ K + K2 := by
  rw [Int.natAbs_mul]
  have := nl_mul x1.natAbs x3.natAbs; have := nl_of h1 X1; have := nl_of h3 X3; omega
 have hb2 : nl (x2 * x4).natAbs ≤ K + K2 := by
  rw [Int.natAbs_mul]
  have := nl_mul x2.natAbs x4.natAbs; have := nl_of h2 X2; have := nl_of h4 X4; omega
 clear hx1 hx2 hx3 hx4 hq1 hq2 hd1 hd2
 obtain ⟨y1, hy1⟩ : ∃ x, x1 * x3 = x := ⟨_, rfl⟩
 obtain ⟨y2, hy2⟩ : ∃ x, x2 * x4 = x := ⟨_, rfl⟩
 have Y1 := Lib.hid hy1
 have Y2 := Lib.hid hy2
 rw [hy1] at hb1
 rw [hy2] at hb2 hdd
 have HT2 : Hid (ratv y1 y2 = t) := Lib.hid (by rw [← hy1, ← hy2]; exact HT.out)
 clear hy1 hy2 HT
 go_enter Tryz.func96, Tryz.ntmps96
 go_wp2_with fail
 have p0 := Blk.new w 75 #[.bool b, .slice a n c, .bool b2, .slice a2 n2 c2]
 have p1 := Blk.new (w.alloc (Obj.cells #[.bool b, .slice a n c, .bool b2, .slice a2 n2 c2] 75)) 75 #[.bool b3, .slice a3 n3 c3, .bool b4, .slice a4 n4 c4]
 replace p0 := p0.ext ((Below.refl _ _).alloc (Nat.le_refl _) (Obj.cells #[.bool b3, .slice a3 n3 c3, .bool b4, .slice a4 n4 c4] 75))
 have r := Blk.new ((w.alloc (Obj.cells #[.bool b, .slice a n c, .bool b2, .slice a2 n2 c2] 75)).alloc (Obj.cells #[.bool b3, .slice a3 n3 c3, .bool b4, .slice a4 n4 c4] 75)) 75 #[.bool false, .slice none 0 0, .bool false, .slice none 0 0]
 replace p0 := p0.ext ((Below.refl _ _).alloc (Nat.le_refl _) (Obj.cells #[.bool false, .slice none 0 0, .bool false, .slice none 0 0] 75))
 replace p1 := p1.ext ((Below.refl _ _).alloc (Nat.le_refl _) (Obj.cells #[.bool false, .slice none 0 0, .bool false, .slice none 0 0] 75))
 have hEW : Ext w (((w.alloc (Obj.cells #[.bool b, .slice a n c, .bool b2, .slice a2 n2 c2] 75)).alloc (Obj.cells #[.bool b3, .slice a3 n3 c3, .bool b4, .slice a4 n4 c4] 75)).alloc (Obj.cells #[.bool false, .slice none 0 0, .bool false, .slice none 0 0] 75)) := ((((Below.refl _ w).alloc (by simp) _).alloc (by simp) _).alloc (by simp; omega) _)
 generalize hgW : ((w.alloc (Obj.cells #[.bool b, .slice a n c, .bool b2, .slice a2 n2 c2] 75)).alloc (Obj.cells #[.bool b3, .slice a3 n3 c3, .bool b4, .slice a4 n4 c4] 75)).alloc (Obj.cells #[.bool false, .slice none 0 0, .bool false, .slice none 0 0] 75) = W at *
 clear hgW
 simp only [World.size_alloc] at p1 r
 have p0_ne_p1 : ¬ w.heap.size = w.heap.size + 1 := by omega
 have p0_ne_r : ¬ w.heap.size = w.heap.size + 1 + 1 := by omega
 have p1_ne_p0 : ¬ w.heap.size + 1 = w.heap.size := by omega
 have p1_ne_r : ¬ w.heap.size + 1 = w.heap.size + 1 + 1 := by omega
 have r_ne_p0 : ¬ w.heap.size + 1 + 1 = w.heap.size := by omega
 have r_ne_p1 : ¬ w.heap.size + 1 + 1 = w.heap.size + 1 := by omega
 replace p0_0 := p0.cell (i := 0) rfl
 replace p0_1 := p0.cell (i := 1) rfl
 replace p0_2 := p0.cell (i := 2) rfl
 replace p0_3 := p0.cell (i := 3) rfl
 replace p1_0 := p1.cell (i := 0) rfl
 replace p1_1 := p1.cell (i := 1) rfl
 replace p1_2 := p1.cell (i := 2) rfl
 replace p1_3 := p1.cell (i := 3) rfl
 replace r_0 := r.cell (i := 0) rfl
 replace r_1 := r.cell (i := 1) rfl
 replace r_2 := r.cell (i := 2) rfl
 replace r_3 := r.cell (i := 3) rfl
 replace r_f0 := r.free 0
 replace r_f1 := r.free 1
 replace r_f2 := r.free 2
 replace r_f3 := r.free 3
 replace r_lt := r.lt
 have hW : w.heap.size + 1 + 1 + 1 ≤ W.heap.size := r_lt
 have hd : Ext W W.drew := (Below.refl _ _).drew
 replace p0 := p0.ext hd; replace p0_0 := p0.cell (i := 0) rfl; replace p0_1 := p0.cell (i := 1) rfl; replace p0_2 := p0.cell (i := 2) rfl; replace p0_3 := p0.cell (i := 3) rfl; replace p1 := p1.ext hd; replace p1_0 := p1.cell (i := 0) rfl; replace p1_1 := p1.cell (i := 1) rfl; replace p1_2 := p1.cell (i := 2) rfl; replace p1_3 := p1.cell (i := 3) rfl; replace r := r.ext hd; replace r_0 := r.cell (i := 0) rfl; replace r_1 := r.cell (i := 1) rfl; replace r_2 := r.cell (i := 2) rfl; replace r_3 := r.cell (i := 3) rfl; replace r_f0 := r.free 0; replace r_f1 := r.free 1; replace r_f2 := r.free 2; replace r_f3 := r.free 3; replace r_lt := r.lt
 have hE0 := Ext.trans hEW hd
 replace h1 := h1.ext (Nat.le_refl _) hE0
 replace h2 := h2.ext (Nat.le_refl _) hE0
 replace h3 := h3.ext (Nat.le_refl _) hE0
 replace h4 := h4.ext (Nat.le_refl _) hE0
 have hsz := hd.size
 clear hd hEW
 go_region_held3 (fun w' => w'.cell? ⟨w.heap.size, 0, none⟩ = some (.bool b) ∧ w'.cell? ⟨w.heap.size, 1, none⟩ = some (.slice a n c) ∧ w'.cell? ⟨w.heap.size, 2, none⟩ = some (.bool b2) ∧ w'.cell? ⟨w.heap.size, 3, none⟩ = some (.slice a2 n2 c2) ∧ w'.cell? ⟨w.heap.size + 1, 0, none⟩ = some (.bool b3) ∧ w'.cell? ⟨w.heap.size + 1, 1, none⟩ = some (.slice a3 n3 c3) ∧ w'.cell? ⟨w.heap.size + 1, 2, none⟩ = some (.bool b4) ∧ w'.cell? ⟨w.heap.size + 1, 3, none⟩ = some (.slice a4 n4 c4)) (first | exact ⟨p0_0, p0_1, p0_2, p0_3, p1_0, p1_1, p1_2, p1_3⟩ | go_keep)
  (first | (go_at_call 130; (with_reducible refine (r3Mul_y b b3 0 _ a a3 n c n3 c3 _ _ x1 x3 y1 h1 h3 (by omega) (by omega) X1 X3 Y1).mono ?_); rintro e w1 ⟨a5, n5, c5, rfl, h5, hE1⟩; replace p0 := p0.ext hE1; replace p0_0 := p0.cell (i := 0) rfl; replace p0_1 := p0.cell (i := 1) rfl; replace p0_2 := p0.cell (i := 2) rfl; replace p0_3 := p0.cell (i := 3) rfl; replace p1 := p1.ext hE1; replace p1_0 := p1.cell (i := 0) rfl; replace p1_1 := p1.cell (i := 1) rfl; replace p1_2 := p1.cell (i := 2) rfl; replace p1_3 := p1.cell (i := 3) rfl; replace r := r.ext hE1; replace r_0 := r.cell (i := 0) rfl; replace r_1 := r.cell (i := 1) rfl; replace r_2 := r.cell (i := 2) rfl; replace r_3 := r.cell (i := 3) rfl; replace r_f0 := r.free 0; replace r_f1 := r.free 1; replace r_f2 := r.free 2; replace r_f3 := r.free 3; replace r_lt := r.lt; replace h1 := h1.ext (Nat.le_refl _) hE1; replace h2 := h2.ext (Nat.le_refl _) hE1; replace h3 := h3.ext (Nat.le_refl _) hE1; replace h4 := h4.ext (Nat.le_refl _) hE1; (try replace h6 := h6.ext (Nat.le_refl _) hE1); replace h5 := h5.mono hsz (Kept.refl _ _); replace hsz := Nat.le_trans hsz hE1.size; replace hE0 := Ext.trans hE0 hE1)
         | (go_at_call 130; (with_reducible refine (r3Mul_y b2 b4 0 _ a2 a4 n2 c2 n4 c4 _ _ x2 x4 y2 h2 h4 (by omega) (by omega) X2 X4 Y2).mono ?_); rintro e w1 ⟨a6, n6, c6, rfl, h6, hE1⟩; replace p0 := p0.ext hE1; replace p0_0 := p0.cell (i := 0) rfl; replace p0_1 := p0.cell (i := 1) rfl; replace p0_2 := p0.cell (i := 2) rfl; replace p0_3 := p0.cell (i := 3) rfl; replace p1 := p1.ext hE1; replace p1_0 := p1.cell (i := 0) rfl; replace p1_1 := p1.cell (i := 1) rfl; replace p1_2 := p1.cell (i := 2) rfl; replace p1_3 := p1.cell (i := 3) rfl; replace r := r.ext hE1; replace r_0 := r.cell (i := 0) rfl; replace r_1 := r.cell (i := 1) rfl; replace r_2 := r.cell (i := 2) rfl; replace r_3 := r.cell (i := 3) rfl; replace r_f0 := r.free 0; replace r_f1 := r.free 1; replace r_f2 := r.free 2; replace r_f3 := r.free 3; replace r_lt := r.lt; replace h1 := h1.ext (Nat.le_refl _) hE1; replace h2 := h2.ext (Nat.le_refl _) hE1; replace h3 := h3.ext (Nat.le_refl _) hE1; replace h4 := h4.ext (Nat.le_refl _) hE1; (try replace h5 := h5.ext (Nat.le_refl _) hE1); replace h6 := h6.mono hsz (Kept.refl _ _); replace hsz := Nat.le_trans hsz hE1.size; replace hE0 := Ext.trans hE0 hE1)
         | (go_at_call 90; (with_reducible refine (r5Make_z _ _ 0 _ _ _ _ _ _ _ _ _ y1 y2 t (Sl.zero h5) (Sl.zero h6) (by have := h5.len; rw [length_limbs] at this; omega) (by have := h6.len; rw [length_limbs] at this; omega) (hnorm _) (hnorm _) hdd HT2).mono ?_); rintro e w1 ⟨a7, n7, c7, a8, n8, c8, rfl, h7, h8, hE1⟩; replace p0 := p0.ext hE1; replace p0_0 := p0.cell (i := 0) rfl; replace p0_1 := p0.cell (i := 1) rfl; replace p0_2 := p0.cell (i := 2) rfl; replace p0_3 := p0.cell (i := 3) rfl; replace p1 := p1.ext hE1; replace p1_0 := p1.cell (i := 0) rfl; replace p1_1 := p1.cell (i := 1) rfl; replace p1_2 := p1.cell (i := 2) rfl; replace p1_3 := p1.cell (i := 3) rfl; replace r := r.ext hE1; replace r_0 := r.cell (i := 0) rfl; replace r_1 := r.cell (i := 1) rfl; replace r_2 := r.cell (i := 2) rfl; replace r_3 := r.cell (i := 3) rfl; replace r_f0 := r.free 0; replace r_f1 := r.free 1; replace r_f2 := r.free 2; replace r_f3 := r.free 3; replace r_lt := r.lt; replace h1 := h1.ext (Nat.le_refl _) hE1; replace h2 := h2.ext (Nat.le_refl _) hE1; replace h3 := h3.ext (Nat.le_refl _) hE1; replace h4 := h4.ext (Nat.le_refl _) hE1; replace h5 := h5.ext (Nat.le_refl _) hE1; replace h6 := h6.ext (Nat.le_refl _) hE1; replace h7 := h7.mono hsz (Kept.refl _ _); replace h8 := h8.mono hsz (Kept.refl _ _); replace hsz := Nat.le_trans hsz hE1.size; replace hE0 := Ext.trans hE0 hE1))
 all_goals
  have HF := Lib.hid (RRat.box (q := t) (r := w.heap.size + 1 + 1) (v0 := .bool (decide (t.num < 0))) (v1 := .slice a7 n7 c7) (v2 := .bool false) (v3 := .slice a8 n8 c8) (by omega) (by omega) hE0 h7 h8 rfl rfl)
  clear h1 h2 h3 h4 h5 h6 h7 h8 hE0 hE1 hsz hdd hb1 hb2
  generalize decide (t.num < 0) = sg at *
  have r2 : Blk (((((w1).setCell ⟨w.heap.size + 1 + 1, 0, none⟩ (.bool sg)).setCell ⟨w.heap.size + 1 + 1, 1, none⟩ (.slice a7 n7 c7)).setCell ⟨w.heap.size + 1 + 1, 2, none⟩ (.bool false)).setCell ⟨w.heap.size + 1 + 1, 3, none⟩ (.slice a8 n8 c8)) _ _ #[.bool sg, .slice a7 n7 c7, .bool false, .slice a8 n8 c8] := ((((r).set 0 (.bool sg)).set 1 (.slice a7 n7 c7)).set 2 (.bool false)).set 3 (.slice a8 n8 c8)
  have hr0 := r2.cell (i := 0) rfl
  have hr1 := r2.cell (i := 1) rfl
  have hr2 := r2.cell (i := 2) rfl
  have hr3 := r2.cell (i := 3) rfl
  go_wp2_with fail
  exact bodyPost_ret (v := .agg #[.bool sg, .slice a7 n7 c7, .bool false, .slice a8 n8 c8]) (by simp [results, Tryz.results96, go_sem, hr0, hr1, hr2, hr3]) rfl HF.out
end Go.Proofs.YtbhenelehhiakaaGreat
