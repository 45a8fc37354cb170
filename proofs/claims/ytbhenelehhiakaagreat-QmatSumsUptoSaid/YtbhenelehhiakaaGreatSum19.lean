/-
  The references' integers, part 2: Add, Sub, Trunc, Exact.
-/
import Derived.Deep.RegionWith
import Derived.Test.YtbhenelehhiakaaGreatSum18
set_option linter.unusedVariables false
set_option linter.unusedSimpArgs false
namespace Go.Proofs.YtbhenelehhiakaaGreat
open Go.RowKit

theorem ival_limbs (b : Bool) (m : Nat) : ival b (limbs m) = if b then -(m : Int) else (m : Int) := by unfold ival; rw [val_limbs]

set_option maxHeartbeats 8000000 in
theorem r3Add_z (b b2 : Bool) (B : Nat) (w : World) (a a2 : Option Addr) (n c n2 c2 : Nat) (l l2 : Nt) (z z2 : Int) (h : NatS B w a n c l) (h2 : NatS B w a2 n2 c2 l2) (hn : n ≤ 4398046511104) (hn2 : n2 ≤ 4398046511104) (hz : Hid (ival b l = z)) (hz2 : Hid (ival b2 l2 = z2)) :
    Calls Tryz.prog 129 #[.agg #[.bool b, .slice a n c], .agg #[.bool b2, .slice a2 n2 c2]] w (RInt w (z + z2)) := by
  have hnz : nl z.natAbs ≤ 4398046511104 := Nat.le_trans (nl_of h hz) hn
  have hnz2 : nl z2.natAbs ≤ 4398046511104 := Nat.le_trans (nl_of h2 hz2) hn2
  go_enter Tryz.func129, Tryz.ntmps129
  go_wp2_with fail
  have p0 := Blk.new w 25 #[.bool b, .slice a n c]
  have p1 := Blk.new (w.alloc (Obj.cells #[.bool b, .slice a n c] 25)) 25 #[.bool b2, .slice a2 n2 c2]
  replace p0 := p0.ext ((Below.refl _ _).alloc (Nat.le_refl _) (Obj.cells #[.bool b2, .slice a2 n2 c2] 25))
  have r := Blk.new ((w.alloc (Obj.cells #[.bool b, .slice a n c] 25)).alloc (Obj.cells #[.bool b2, .slice a2 n2 c2] 25)) 25 #[.bool false, .slice none 0 0]
  replace p0 := p0.ext ((Below.refl _ _).alloc (Nat.le_refl _) (Obj.cells #[.bool false, .slice none 0 0] 25))
  replace p1 := p1.ext ((Below.refl _ _).alloc (Nat.le_refl _) (Obj.cells #[.bool false, .slice none 0 0] 25))
  have hEW : Ext w (((w.alloc (Obj.cells #[.bool b, .slice a n c] 25)).alloc (Obj.cells #[.bool b2, .slice a2 n2 c2] 25)).alloc (Obj.cells #[.bool false, .slice none 0 0] 25)) := ((((Below.refl _ w).alloc (by simp) _).alloc (by simp) _).alloc (by simp; omega) _)
  generalize hgW : ((w.alloc (Obj.cells #[.bool b, .slice a n c] 25)).alloc (Obj.cells #[.bool b2, .slice a2 n2 c2] 25)).alloc (Obj.cells #[.bool false, .slice none 0 0] 25) = W at *
  clear hgW
  simp only [World.size_alloc] at p1 r
  have p0_ne_p1 : ¬ w.heap.size = w.heap.size + 1 := by omega
  have p0_ne_r : ¬ w.heap.size = w.heap.size + 1 + 1 := by omega
  have p1_ne_p0 : ¬ w.heap.size + 1 = w.heap.size := by omega
  have p1_ne_r : ¬ w.heap.size + 1 = w.heap.size + 1 + 1 := by omega
  have r_ne_p0 : ¬ w.heap.size + 1 + 1 = w.heap.size := by omega
  have r_ne_p1 : ¬ w.heap.size + 1 + 1 = w.heap.size + 1 := by omega
  replace p0_0 := p0.cell (i := 0) rfl
  replace p0_1 := p0.cell (i := 1) rfl
  replace p0_f0 := p0.free 0
  replace p0_f1 := p0.free 1
  replace p0_lt := p0.lt
  replace p1_0 := p1.cell (i := 0) rfl
  replace p1_1 := p1.cell (i := 1) rfl
  replace p1_f0 := p1.free 0
  replace p1_f1 := p1.free 1
  replace p1_lt := p1.lt
  replace r_0 := r.cell (i := 0) rfl
  replace r_1 := r.cell (i := 1) rfl
  replace r_f0 := r.free 0
  replace r_f1 := r.free 1
  replace r_lt := r.lt
  have hW : w.heap.size + 1 + 1 + 1 ≤ W.heap.size := r_lt
  have hd : Ext W W.drew := (Below.refl _ _).drew
  replace p0 := p0.ext hd; replace p0_0 := p0.cell (i := 0) rfl; replace p0_1 := p0.cell (i := 1) rfl; replace p0_f0 := p0.free 0; replace p0_f1 := p0.free 1; replace p0_lt := p0.lt; replace p1 := p1.ext hd; replace p1_0 := p1.cell (i := 0) rfl; replace p1_1 := p1.cell (i := 1) rfl; replace p1_f0 := p1.free 0; replace p1_f1 := p1.free 1; replace p1_lt := p1.lt; replace r := r.ext hd; replace r_0 := r.cell (i := 0) rfl; replace r_1 := r.cell (i := 1) rfl; replace r_f0 := r.free 0; replace r_f1 := r.free 1; replace r_lt := r.lt
  have h1 := (h.ext (Nat.le_refl _) hEW).ext (Nat.le_refl _) hd
  have h5 := (h2.ext (Nat.le_refl _) hEW).ext (Nat.le_refl _) hd
  have hE0 := Ext.trans hEW hd
  have hsz := hd.size
  clear h h2
  go_region_with
    (first | (go_at_call 142; (with_reducible refine (r3Norm_z b _ _ _ _ _ _ z h1 (by omega) hz).mono ?_); rintro e w1 ⟨a3, n3, c3, rfl, h3, hE1⟩; replace p0 := p0.ext hE1; replace p0_0 := p0.cell (i := 0) rfl; replace p0_1 := p0.cell (i := 1) rfl; replace p0_f0 := p0.free 0; replace p0_f1 := p0.free 1; replace p0_lt := p0.lt; replace p1 := p1.ext hE1; replace p1_0 := p1.cell (i := 0) rfl; replace p1_1 := p1.cell (i := 1) rfl; replace p1_f0 := p1.free 0; replace p1_f1 := p1.free 1; replace p1_lt := p1.lt; replace r := r.ext hE1; replace r_0 := r.cell (i := 0) rfl; replace r_1 := r.cell (i := 1) rfl; replace r_f0 := r.free 0; replace r_f1 := r.free 1; replace r_lt := r.lt; replace h1 := h1.ext (Nat.le_refl _) hE1; replace h5 := h5.ext (Nat.le_refl _) hE1; (try replace h4 := h4.ext (Nat.le_refl _) hE1); replace h3 := h3.mono hsz (Kept.refl _ _); replace hsz := Nat.le_trans hsz hE1.size; replace hE0 := Ext.trans hE0 hE1)
           | (go_at_call 142; (with_reducible refine (r3Norm_z b2 _ _ _ _ _ _ z2 h5 (by omega) hz2).mono ?_); rintro e w1 ⟨a4, n4, c4, rfl, h4, hE1⟩; replace p0 := p0.ext hE1; replace p0_0 := p0.cell (i := 0) rfl; replace p0_1 := p0.cell (i := 1) rfl; replace p0_f0 := p0.free 0; replace p0_f1 := p0.free 1; replace p0_lt := p0.lt; replace p1 := p1.ext hE1; replace p1_0 := p1.cell (i := 0) rfl; replace p1_1 := p1.cell (i := 1) rfl; replace p1_f0 := p1.free 0; replace p1_f1 := p1.free 1; replace p1_lt := p1.lt; replace r := r.ext hE1; replace r_0 := r.cell (i := 0) rfl; replace r_1 := r.cell (i := 1) rfl; replace r_f0 := r.free 0; replace r_f1 := r.free 1; replace r_lt := r.lt; replace h1 := h1.ext (Nat.le_refl _) hE1; replace h5 := h5.ext (Nat.le_refl _) hE1; (try replace h3 := h3.ext (Nat.le_refl _) hE1); replace h4 := h4.mono hsz (Kept.refl _ _); replace hsz := Nat.le_trans hsz hE1.size; replace hE0 := Ext.trans hE0 hE1))
  all_goals
    have hn3 : nl z.natAbs = n3 := h3.len
    have hn4 : nl z2.natAbs = n4 := h4.len
    have hrB := r_lt
    replace p0 := p0.set 0 (.bool (decide (z < 0)))
    replace p1 := p1.set_ne 0 (.bool (decide (z < 0))) (show w.heap.size + 1 ≠ w.heap.size by omega)
    replace r := r.set_ne 0 (.bool (decide (z < 0))) (show w.heap.size + 1 + 1 ≠ w.heap.size by omega)
    replace p0 := p0.set 1 (.slice a3 n3 c3)
    replace p1 := p1.set_ne 1 (.slice a3 n3 c3) (show w.heap.size + 1 ≠ w.heap.size by omega)
    replace r := r.set_ne 1 (.slice a3 n3 c3) (show w.heap.size + 1 + 1 ≠ w.heap.size by omega)
    replace p0 := p0.set_ne 0 (.bool (decide (z2 < 0))) (show w.heap.size ≠ w.heap.size + 1 by omega)
    replace p1 := p1.set 0 (.bool (decide (z2 < 0)))
    replace r := r.set_ne 0 (.bool (decide (z2 < 0))) (show w.heap.size + 1 + 1 ≠ w.heap.size + 1 by omega)
    replace p0 := p0.set_ne 1 (.slice a4 n4 c4) (show w.heap.size ≠ w.heap.size + 1 by omega)
    replace p1 := p1.set 1 (.slice a4 n4 c4)
    replace r := r.set_ne 1 (.slice a4 n4 c4) (show w.heap.size + 1 + 1 ≠ w.heap.size + 1 by omega)
    have hKW3 : ∀ bB_ : Nat, w.heap.size < bB_ → w.heap.size + 1 < bB_ → Kept bB_ w1 (((((w1).setCell ⟨w.heap.size, 0, none⟩ (.bool (decide (z < 0)))).setCell ⟨w.heap.size, 1, none⟩ (.slice a3 n3 c3)).setCell ⟨w.heap.size + 1, 0, none⟩ (.bool (decide (z2 < 0)))).setCell ⟨w.heap.size + 1, 1, none⟩ (.slice a4 n4 c4)) := fun bB_ h0 h1 => (Kept.trans (kept_set _ _ _ h0) (Kept.trans (kept_set _ _ _ h0) (Kept.trans (kept_set _ _ _ h1) (kept_set _ _ _ h1))))
    have hzW3 : w1.heap.size ≤ (((((w1).setCell ⟨w.heap.size, 0, none⟩ (.bool (decide (z < 0)))).setCell ⟨w.heap.size, 1, none⟩ (.slice a3 n3 c3)).setCell ⟨w.heap.size + 1, 0, none⟩ (.bool (decide (z2 < 0)))).setCell ⟨w.heap.size + 1, 1, none⟩ (.slice a4 n4 c4)).heap.size := by simp only [World.setCell, Array.size_modify]; exact Nat.le_refl _
    have hSW3 : ∀ (nB_ : Nat) (uB_ : World), nB_ ≤ w.heap.size → nB_ ≤ w.heap.size + 1 → Below nB_ uB_ w1 → Below nB_ uB_ (((((w1).setCell ⟨w.heap.size, 0, none⟩ (.bool (decide (z < 0)))).setCell ⟨w.heap.size, 1, none⟩ (.slice a3 n3 c3)).setCell ⟨w.heap.size + 1, 0, none⟩ (.bool (decide (z2 < 0)))).setCell ⟨w.heap.size + 1, 1, none⟩ (.slice a4 n4 c4)) := fun nB_ uB_ h0 h1 hb => (Below.setCell (Below.setCell (Below.setCell (Below.setCell hb (p := ⟨w.heap.size, 0, none⟩) h0 (.bool (decide (z < 0)))) (p := ⟨w.heap.size, 1, none⟩) h0 (.slice a3 n3 c3)) (p := ⟨w.heap.size + 1, 0, none⟩) h1 (.bool (decide (z2 < 0)))) (p := ⟨w.heap.size + 1, 1, none⟩) h1 (.slice a4 n4 c4))
    replace p0 : Blk (((((w1).setCell ⟨w.heap.size, 0, none⟩ (.bool (decide (z < 0)))).setCell ⟨w.heap.size, 1, none⟩ (.slice a3 n3 c3)).setCell ⟨w.heap.size + 1, 0, none⟩ (.bool (decide (z2 < 0)))).setCell ⟨w.heap.size + 1, 1, none⟩ (.slice a4 n4 c4)) (w.heap.size) 25 #[.bool (decide (z < 0)), .slice a3 n3 c3] := p0
    replace p1 : Blk (((((w1).setCell ⟨w.heap.size, 0, none⟩ (.bool (decide (z < 0)))).setCell ⟨w.heap.size, 1, none⟩ (.slice a3 n3 c3)).setCell ⟨w.heap.size + 1, 0, none⟩ (.bool (decide (z2 < 0)))).setCell ⟨w.heap.size + 1, 1, none⟩ (.slice a4 n4 c4)) (w.heap.size + 1) 25 #[.bool (decide (z2 < 0)), .slice a4 n4 c4] := p1
    generalize hgW3 : ((((w1).setCell ⟨w.heap.size, 0, none⟩ (.bool (decide (z < 0)))).setCell ⟨w.heap.size, 1, none⟩ (.slice a3 n3 c3)).setCell ⟨w.heap.size + 1, 0, none⟩ (.bool (decide (z2 < 0)))).setCell ⟨w.heap.size + 1, 1, none⟩ (.slice a4 n4 c4) = W3 at *
    clear hgW3
    replace p0_0 := p0.cell (i := 0) rfl
    replace p0_1 := p0.cell (i := 1) rfl
    replace p0_f0 := p0.free 0
    replace p0_f1 := p0.free 1
    replace p0_lt := p0.lt
    replace p1_0 := p1.cell (i := 0) rfl
    replace p1_1 := p1.cell (i := 1) rfl
    replace p1_f0 := p1.free 0
    replace p1_f1 := p1.free 1
    replace p1_lt := p1.lt
    replace r_0 := r.cell (i := 0) rfl
    replace r_1 := r.cell (i := 1) rfl
    replace r_f0 := r.free 0
    replace r_f1 := r.free 1
    replace r_lt := r.lt
    replace h3 := h3.mono (Nat.le_refl _) (hKW3 _ (by omega) (by omega))
    replace h4 := h4.mono (Nat.le_refl _) (hKW3 _ (by omega) (by omega))
    replace hE0 := hSW3 _ _ (by omega) (by omega) hE0
    replace hsz : W.heap.size ≤ W3.heap.size := Nat.le_trans hsz hzW3
    have H3 := Lib.hid hn3
    have H4 := Lib.hid hn4
    rw [hn3] at hnz
    rw [hn4] at hnz2
    clear h1 h5 hd hEW hz hz2 hn3 hn4 hKW3 hSW3 hE1
    by_cases hs : decide (z < 0) = decide (z2 < 0)
    · have HP : Hid (ival (decide (z < 0)) (limbs (z.natAbs + z2.natAbs)) = z + z2) := Lib.hid (by
        rw [ival_limbs]
        by_cases hz0 : z < 0
        · rw [decide_eq_true hz0] at hs ⊢
          have := of_decide_eq_true hs.symm
          rw [if_pos rfl]; omega
        · rw [decide_eq_false hz0] at hs ⊢
          have := of_decide_eq_false hs.symm
          rw [if_neg (by decide)]; omega)
      have hss : (decide (z < 0) == decide (z2 < 0)) = true := by rw [hs]; simp
      have HV : Hid (val (limbs z.natAbs) + val (limbs z2.natAbs) = z.natAbs + z2.natAbs) := Lib.hid (by rw [val_limbs, val_limbs])
      have hnl : nl (z.natAbs + z2.natAbs) ≤ 4398046511105 := by have := nl_add z.natAbs z2.natAbs; rw [H3.out, H4.out] at this; omega
      generalize z.natAbs + z2.natAbs = zs at *
      generalize decide (z < 0) = b3 at *
      generalize decide (z2 < 0) = b4 at *
      clear hs
      go_wp2_with fail
      skip
      skip
      have hd : Ext W3 W3.drew := (Below.refl _ _).drew
      replace p0 := p0.ext hd; replace p0_0 := p0.cell (i := 0) rfl; replace p0_1 := p0.cell (i := 1) rfl; replace p1 := p1.ext hd; replace p1_0 := p1.cell (i := 0) rfl; replace p1_1 := p1.cell (i := 1) rfl; replace r := r.ext hd; replace r_0 := r.cell (i := 0) rfl; replace r_1 := r.cell (i := 1) rfl; replace r_f0 := r.free 0; replace r_f1 := r.free 1; replace r_lt := r.lt
      replace hE0 := Ext.trans hE0 hd
      replace hsz := Nat.le_trans hsz hd.size
      replace h3 := h3.ext (Nat.le_refl _) hd
      replace h4 := h4.ext (Nat.le_refl _) hd
      go_region_held3 (fun w' => w'.cell? ⟨w.heap.size, 0, none⟩ = some (.bool b3) ∧ w'.cell? ⟨w.heap.size, 1, none⟩ = some (.slice a3 n3 c3) ∧ w'.cell? ⟨w.heap.size + 1, 0, none⟩ = some (.bool b4) ∧ w'.cell? ⟨w.heap.size + 1, 1, none⟩ = some (.slice a4 n4 c4)) (first | exact ⟨p0_0, p0_1, p1_0, p1_1⟩ | go_keep)
        (first | (go_at_call 149; (with_reducible refine (r1Add_any _ _ _ _ _ _ _ _ _ _ h3 h4 (by omega) (by omega) zs HV).mono ?_); rintro e w1 ⟨a5, n5, c5, rfl, h5, hE1⟩; replace p0 := p0.ext hE1; replace p0_0 := p0.cell (i := 0) rfl; replace p0_1 := p0.cell (i := 1) rfl; replace p1 := p1.ext hE1; replace p1_0 := p1.cell (i := 0) rfl; replace p1_1 := p1.cell (i := 1) rfl; replace r := r.ext hE1; replace r_0 := r.cell (i := 0) rfl; replace r_1 := r.cell (i := 1) rfl; replace r_f0 := r.free 0; replace r_f1 := r.free 1; replace r_lt := r.lt; replace h3 := h3.ext (Nat.le_refl _) hE1; replace h4 := h4.ext (Nat.le_refl _) hE1; replace h5 := h5.mono hsz (Kept.refl _ _); replace hsz := Nat.le_trans hsz hE1.size; replace hE0 := Ext.trans hE0 hE1)
               | (go_at_call 142; (with_reducible refine (r3Norm_z b3 _ _ _ _ _ _ (z + z2) h5 (by have := h5.len; rw [length_limbs] at this; omega) HP).mono ?_); rintro e w1 ⟨a6, n6, c6, rfl, h6, hE1⟩; replace p0 := p0.ext hE1; replace p0_0 := p0.cell (i := 0) rfl; replace p0_1 := p0.cell (i := 1) rfl; replace p1 := p1.ext hE1; replace p1_0 := p1.cell (i := 0) rfl; replace p1_1 := p1.cell (i := 1) rfl; replace r := r.ext hE1; replace r_0 := r.cell (i := 0) rfl; replace r_1 := r.cell (i := 1) rfl; replace r_f0 := r.free 0; replace r_f1 := r.free 1; replace r_lt := r.lt; replace h3 := h3.ext (Nat.le_refl _) hE1; replace h4 := h4.ext (Nat.le_refl _) hE1; replace h5 := h5.ext (Nat.le_refl _) hE1; replace h6 := h6.mono hsz (Kept.refl _ _); replace hsz := Nat.le_trans hsz hE1.size; replace hE0 := Ext.trans hE0 hE1))
      have HF := Lib.hid (RInt.boxN (w := w) (r := w.heap.size + 1 + 1) (u1 := .bool (decide (z + z2 < 0))) (u2 := .slice a6 n6 c6) (by omega) (by omega) hE0 ⟨a6, n6, c6, rfl, h6⟩)
      clear h5 h6 h3 h4 hE0 hsz hE1
      generalize z + z2 = zz at *
      have r2 : Blk (((w1).setCell ⟨w.heap.size + 1 + 1, 0, none⟩ (.bool (decide (zz < 0)))).setCell ⟨w.heap.size + 1 + 1, 1, none⟩ (.slice a6 n6 c6)) _ _ #[.bool (decide (zz < 0)), .slice a6 n6 c6] := ((r).set 0 (.bool (decide (zz < 0)))).set 1 (.slice a6 n6 c6)
      have hr0 := r2.cell (i := 0) rfl
      have hr1 := r2.cell (i := 1) rfl
      go_wp2_with fail
      exact bodyPost_ret (v := .agg #[.bool (decide (zz < 0)), .slice a6 n6 c6]) (by simp [results, Tryz.results129, go_sem, hr0, hr1]) rfl HF.out
    · have hss : (decide (z < 0) == decide (z2 < 0)) = false := by simpa using hs
      have hs2 : (z < 0 ∧ ¬ z2 < 0) ∨ (¬ z < 0 ∧ z2 < 0) := by
        by_cases h1 : z < 0 <;> by_cases h2 : z2 < 0 <;> simp [h1, h2] at hs ⊢
      clear hs
      by_cases hlt : z.natAbs < z2.natAbs
      · have HP : Hid (ival (decide (z2 < 0)) (limbs (z2.natAbs - z.natAbs)) = z + z2) := Lib.hid (by
          rw [ival_limbs]
          rcases hs2 with ⟨h1, h2⟩ | ⟨h1, h2⟩
          · rw [decide_eq_false h2, if_neg (by decide)]; omega
          · rw [decide_eq_true h2, if_pos rfl]; omega)
        have HV : Hid (val (limbs z2.natAbs) - val (limbs z.natAbs) = z2.natAbs - z.natAbs) := Lib.hid (by rw [val_limbs, val_limbs])
        have hnl : nl (z2.natAbs - z.natAbs) ≤ 4398046511104 := by have := nl_mono (Nat.sub_le z2.natAbs z.natAbs); rw [H4.out] at this; omega
        have hnn : n3 ≤ n4 := by have := nl_mono (Nat.le_of_lt hlt); rw [H3.out, H4.out] at this; exact this
        have hle := Nat.le_of_lt hlt
        generalize decide (z < 0) = b3 at *
        generalize decide (z2 < 0) = b4 at *
        clear hs2
        go_wp2_with fail
        refine (r1Cmp_any _ _ _ _ _ _ _ _ _ _ h3 h4 z.natAbs z2.natAbs (Lib.hid (val_limbs _)) (Lib.hid (val_limbs _))).mono ?_
        rintro e w1 ⟨rfl, rfl⟩
        rw [cmpI_lt hlt]
        go_wp2_with fail
        skip
        skip
        replace p0 := p0.set 0 (.bool b4)
        replace p1 := p1.set_ne 0 (.bool b4) (show w.heap.size + 1 ≠ w.heap.size by omega)
        replace r := r.set_ne 0 (.bool b4) (show w.heap.size + 1 + 1 ≠ w.heap.size by omega)
        replace p0 := p0.set 1 (.slice a4 n4 c4)
        replace p1 := p1.set_ne 1 (.slice a4 n4 c4) (show w.heap.size + 1 ≠ w.heap.size by omega)
        replace r := r.set_ne 1 (.slice a4 n4 c4) (show w.heap.size + 1 + 1 ≠ w.heap.size by omega)
        replace p0 := p0.set_ne 0 (.bool b3) (show w.heap.size ≠ w.heap.size + 1 by omega)
        replace p1 := p1.set 0 (.bool b3)
        replace r := r.set_ne 0 (.bool b3) (show w.heap.size + 1 + 1 ≠ w.heap.size + 1 by omega)
        replace p0 := p0.set_ne 1 (.slice a3 n3 c3) (show w.heap.size ≠ w.heap.size + 1 by omega)
        replace p1 := p1.set 1 (.slice a3 n3 c3)
        replace r := r.set_ne 1 (.slice a3 n3 c3) (show w.heap.size + 1 + 1 ≠ w.heap.size + 1 by omega)
        have hKW4 : ∀ bB_ : Nat, w.heap.size < bB_ → w.heap.size + 1 < bB_ → Kept bB_ W3 (((((W3).setCell ⟨w.heap.size, 0, none⟩ (.bool b4)).setCell ⟨w.heap.size, 1, none⟩ (.slice a4 n4 c4)).setCell ⟨w.heap.size + 1, 0, none⟩ (.bool b3)).setCell ⟨w.heap.size + 1, 1, none⟩ (.slice a3 n3 c3)) := fun bB_ h0 h1 => (Kept.trans (kept_set _ _ _ h0) (Kept.trans (kept_set _ _ _ h0) (Kept.trans (kept_set _ _ _ h1) (kept_set _ _ _ h1))))
        have hzW4 : W3.heap.size ≤ (((((W3).setCell ⟨w.heap.size, 0, none⟩ (.bool b4)).setCell ⟨w.heap.size, 1, none⟩ (.slice a4 n4 c4)).setCell ⟨w.heap.size + 1, 0, none⟩ (.bool b3)).setCell ⟨w.heap.size + 1, 1, none⟩ (.slice a3 n3 c3)).heap.size := by simp only [World.setCell, Array.size_modify]; exact Nat.le_refl _
        have hSW4 : ∀ (nB_ : Nat) (uB_ : World), nB_ ≤ w.heap.size → nB_ ≤ w.heap.size + 1 → Below nB_ uB_ W3 → Below nB_ uB_ (((((W3).setCell ⟨w.heap.size, 0, none⟩ (.bool b4)).setCell ⟨w.heap.size, 1, none⟩ (.slice a4 n4 c4)).setCell ⟨w.heap.size + 1, 0, none⟩ (.bool b3)).setCell ⟨w.heap.size + 1, 1, none⟩ (.slice a3 n3 c3)) := fun nB_ uB_ h0 h1 hb => (Below.setCell (Below.setCell (Below.setCell (Below.setCell hb (p := ⟨w.heap.size, 0, none⟩) h0 (.bool b4)) (p := ⟨w.heap.size, 1, none⟩) h0 (.slice a4 n4 c4)) (p := ⟨w.heap.size + 1, 0, none⟩) h1 (.bool b3)) (p := ⟨w.heap.size + 1, 1, none⟩) h1 (.slice a3 n3 c3))
        replace p0 : Blk (((((W3).setCell ⟨w.heap.size, 0, none⟩ (.bool b4)).setCell ⟨w.heap.size, 1, none⟩ (.slice a4 n4 c4)).setCell ⟨w.heap.size + 1, 0, none⟩ (.bool b3)).setCell ⟨w.heap.size + 1, 1, none⟩ (.slice a3 n3 c3)) (w.heap.size) 25 #[.bool b4, .slice a4 n4 c4] := p0
        replace p1 : Blk (((((W3).setCell ⟨w.heap.size, 0, none⟩ (.bool b4)).setCell ⟨w.heap.size, 1, none⟩ (.slice a4 n4 c4)).setCell ⟨w.heap.size + 1, 0, none⟩ (.bool b3)).setCell ⟨w.heap.size + 1, 1, none⟩ (.slice a3 n3 c3)) (w.heap.size + 1) 25 #[.bool b3, .slice a3 n3 c3] := p1
        generalize hgW4 : ((((W3).setCell ⟨w.heap.size, 0, none⟩ (.bool b4)).setCell ⟨w.heap.size, 1, none⟩ (.slice a4 n4 c4)).setCell ⟨w.heap.size + 1, 0, none⟩ (.bool b3)).setCell ⟨w.heap.size + 1, 1, none⟩ (.slice a3 n3 c3) = W4 at *
        clear hgW4
        replace p0_0 := p0.cell (i := 0) rfl
        replace p0_1 := p0.cell (i := 1) rfl
        replace p0_f0 := p0.free 0
        replace p0_f1 := p0.free 1
        replace p0_lt := p0.lt
        replace p1_0 := p1.cell (i := 0) rfl
        replace p1_1 := p1.cell (i := 1) rfl
        replace p1_f0 := p1.free 0
        replace p1_f1 := p1.free 1
        replace p1_lt := p1.lt
        replace r_0 := r.cell (i := 0) rfl
        replace r_1 := r.cell (i := 1) rfl
        replace r_f0 := r.free 0
        replace r_f1 := r.free 1
        replace r_lt := r.lt
        replace h3 := h3.mono (Nat.le_refl _) (hKW4 _ (by omega) (by omega))
        replace h4 := h4.mono (Nat.le_refl _) (hKW4 _ (by omega) (by omega))
        replace hE0 := hSW4 _ _ (by omega) (by omega) hE0
        replace hsz : W.heap.size ≤ W4.heap.size := Nat.le_trans hsz hzW4
        generalize z2.natAbs - z.natAbs = zs at *
        clear hlt hKW4 hSW4
        go_wp2_with fail
        have hd : Ext W4 W4.drew := (Below.refl _ _).drew
        replace p0 := p0.ext hd; replace p0_0 := p0.cell (i := 0) rfl; replace p0_1 := p0.cell (i := 1) rfl; replace p1 := p1.ext hd; replace p1_0 := p1.cell (i := 0) rfl; replace p1_1 := p1.cell (i := 1) rfl; replace r := r.ext hd; replace r_0 := r.cell (i := 0) rfl; replace r_1 := r.cell (i := 1) rfl; replace r_f0 := r.free 0; replace r_f1 := r.free 1; replace r_lt := r.lt
        replace hE0 := Ext.trans hE0 hd
        replace hsz := Nat.le_trans hsz hd.size
        replace h3 := h3.ext (Nat.le_refl _) hd
        replace h4 := h4.ext (Nat.le_refl _) hd
        go_region_held3 (fun w' => w'.cell? ⟨w.heap.size, 0, none⟩ = some (.bool b4) ∧ w'.cell? ⟨w.heap.size, 1, none⟩ = some (.slice a4 n4 c4) ∧ w'.cell? ⟨w.heap.size + 1, 0, none⟩ = some (.bool b3) ∧ w'.cell? ⟨w.heap.size + 1, 1, none⟩ = some (.slice a3 n3 c3)) (first | exact ⟨p0_0, p0_1, p1_0, p1_1⟩ | go_keep)
          (first | (go_at_call 151; (with_reducible refine (r1Sub_any _ _ _ _ _ _ _ _ _ _ h4 h3 (by omega) hnn zs (by rw [val_limbs, val_limbs]; exact hle) HV).mono ?_); rintro e w1 ⟨a5, n5, c5, rfl, h5, hE1⟩; replace p0 := p0.ext hE1; replace p0_0 := p0.cell (i := 0) rfl; replace p0_1 := p0.cell (i := 1) rfl; replace p1 := p1.ext hE1; replace p1_0 := p1.cell (i := 0) rfl; replace p1_1 := p1.cell (i := 1) rfl; replace r := r.ext hE1; replace r_0 := r.cell (i := 0) rfl; replace r_1 := r.cell (i := 1) rfl; replace r_f0 := r.free 0; replace r_f1 := r.free 1; replace r_lt := r.lt; replace h3 := h3.ext (Nat.le_refl _) hE1; replace h4 := h4.ext (Nat.le_refl _) hE1; replace h5 := h5.mono hsz (Kept.refl _ _); replace hsz := Nat.le_trans hsz hE1.size; replace hE0 := Ext.trans hE0 hE1)
                 | (go_at_call 142; (with_reducible refine (r3Norm_z b4 _ _ _ _ _ _ (z + z2) h5 (by have := h5.len; rw [length_limbs] at this; omega) HP).mono ?_); rintro e w1 ⟨a6, n6, c6, rfl, h6, hE1⟩; replace p0 := p0.ext hE1; replace p0_0 := p0.cell (i := 0) rfl; replace p0_1 := p0.cell (i := 1) rfl; replace p1 := p1.ext hE1; replace p1_0 := p1.cell (i := 0) rfl; replace p1_1 := p1.cell (i := 1) rfl; replace r := r.ext hE1; replace r_0 := r.cell (i := 0) rfl; replace r_1 := r.cell (i := 1) rfl; replace r_f0 := r.free 0; replace r_f1 := r.free 1; replace r_lt := r.lt; replace h3 := h3.ext (Nat.le_refl _) hE1; replace h4 := h4.ext (Nat.le_refl _) hE1; replace h5 := h5.ext (Nat.le_refl _) hE1; replace h6 := h6.mono hsz (Kept.refl _ _); replace hsz := Nat.le_trans hsz hE1.size; replace hE0 := Ext.trans hE0 hE1))
        have HF := Lib.hid (RInt.boxN (w := w) (r := w.heap.size + 1 + 1) (u1 := .bool (decide (z + z2 < 0))) (u2 := .slice a6 n6 c6) (by omega) (by omega) hE0 ⟨a6, n6, c6, rfl, h6⟩)
        clear h5 h6 h3 h4 hE0 hsz hE1
        generalize z + z2 = zz at *
        have r2 : Blk (((w1).setCell ⟨w.heap.size + 1 + 1, 0, none⟩ (.bool (decide (zz < 0)))).setCell ⟨w.heap.size + 1 + 1, 1, none⟩ (.slice a6 n6 c6)) _ _ #[.bool (decide (zz < 0)), .slice a6 n6 c6] := ((r).set 0 (.bool (decide (zz < 0)))).set 1 (.slice a6 n6 c6)
        have hr0 := r2.cell (i := 0) rfl
        have hr1 := r2.cell (i := 1) rfl
        go_wp2_with fail
        exact bodyPost_ret (v := .agg #[.bool (decide (zz < 0)), .slice a6 n6 c6]) (by simp [results, Tryz.results129, go_sem, hr0, hr1]) rfl HF.out
      · have hle := Nat.le_of_not_lt hlt
        have HP : Hid (ival (decide (z < 0)) (limbs (z.natAbs - z2.natAbs)) = z + z2) := Lib.hid (by
          rw [ival_limbs]
          rcases hs2 with ⟨h1, h2⟩ | ⟨h1, h2⟩
          · rw [decide_eq_true h1, if_pos rfl]; omega
          · rw [decide_eq_false h1, if_neg (by decide)]; omega)
        have hc : decide (cmpI z.natAbs z2.natAbs < 0) = false := by
          rw [decide_eq_false_iff_not]; unfold cmpI; rw [if_neg hlt]; split <;> omega
        have HV : Hid (val (limbs z.natAbs) - val (limbs z2.natAbs) = z.natAbs - z2.natAbs) := Lib.hid (by rw [val_limbs, val_limbs])
        have hnl : nl (z.natAbs - z2.natAbs) ≤ 4398046511104 := by have := nl_mono (Nat.sub_le z.natAbs z2.natAbs); rw [H3.out] at this; omega
        have hnn : n4 ≤ n3 := by have := nl_mono hle; rw [H3.out, H4.out] at this; exact this
        generalize decide (z < 0) = b3 at *
        generalize decide (z2 < 0) = b4 at *
        clear hs2 hlt
        go_wp2_with fail
        refine (r1Cmp_any _ _ _ _ _ _ _ _ _ _ h3 h4 z.natAbs z2.natAbs (Lib.hid (val_limbs _)) (Lib.hid (val_limbs _))).mono ?_
        rintro e w1 ⟨rfl, rfl⟩
        generalize cmpI z.natAbs z2.natAbs = cv at *
        go_wp2_with fail
        generalize z.natAbs - z2.natAbs = zs at *
        have hd : Ext W3 W3.drew := (Below.refl _ _).drew
        skip
        skip
        replace p0 := p0.ext hd; replace p0_0 := p0.cell (i := 0) rfl; replace p0_1 := p0.cell (i := 1) rfl; replace p1 := p1.ext hd; replace p1_0 := p1.cell (i := 0) rfl; replace p1_1 := p1.cell (i := 1) rfl; replace r := r.ext hd; replace r_0 := r.cell (i := 0) rfl; replace r_1 := r.cell (i := 1) rfl; replace r_f0 := r.free 0; replace r_f1 := r.free 1; replace r_lt := r.lt
        replace hE0 := Ext.trans hE0 hd
        replace hsz := Nat.le_trans hsz hd.size
        replace h3 := h3.ext (Nat.le_refl _) hd
        replace h4 := h4.ext (Nat.le_refl _) hd
        go_region_held3 (fun w' => w'.cell? ⟨w.heap.size, 0, none⟩ = some (.bool b3) ∧ w'.cell? ⟨w.heap.size, 1, none⟩ = some (.slice a3 n3 c3) ∧ w'.cell? ⟨w.heap.size + 1, 0, none⟩ = some (.bool b4) ∧ w'.cell? ⟨w.heap.size + 1, 1, none⟩ = some (.slice a4 n4 c4)) (first | exact ⟨p0_0, p0_1, p1_0, p1_1⟩ | go_keep)
          (first | (go_at_call 151; (with_reducible refine (r1Sub_any _ _ _ _ _ _ _ _ _ _ h3 h4 (by omega) hnn zs (by rw [val_limbs, val_limbs]; exact hle) HV).mono ?_); rintro e w1 ⟨a5, n5, c5, rfl, h5, hE1⟩; replace p0 := p0.ext hE1; replace p0_0 := p0.cell (i := 0) rfl; replace p0_1 := p0.cell (i := 1) rfl; replace p1 := p1.ext hE1; replace p1_0 := p1.cell (i := 0) rfl; replace p1_1 := p1.cell (i := 1) rfl; replace r := r.ext hE1; replace r_0 := r.cell (i := 0) rfl; replace r_1 := r.cell (i := 1) rfl; replace r_f0 := r.free 0; replace r_f1 := r.free 1; replace r_lt := r.lt; replace h3 := h3.ext (Nat.le_refl _) hE1; replace h4 := h4.ext (Nat.le_refl _) hE1; replace h5 := h5.mono hsz (Kept.refl _ _); replace hsz := Nat.le_trans hsz hE1.size; replace hE0 := Ext.trans hE0 hE1)
                 | (go_at_call 142; (with_reducible refine (r3Norm_z b3 _ _ _ _ _ _ (z + z2) h5 (by have := h5.len; rw [length_limbs] at this; omega) HP).mono ?_); rintro e w1 ⟨a6, n6, c6, rfl, h6, hE1⟩; replace p0 := p0.ext hE1; replace p0_0 := p0.cell (i := 0) rfl; replace p0_1 := p0.cell (i := 1) rfl; replace p1 := p1.ext hE1; replace p1_0 := p1.cell (i := 0) rfl; replace p1_1 := p1.cell (i := 1) rfl; replace r := r.ext hE1; replace r_0 := r.cell (i := 0) rfl; replace r_1 := r.cell (i := 1) rfl; replace r_f0 := r.free 0; replace r_f1 := r.free 1; replace r_lt := r.lt; replace h3 := h3.ext (Nat.le_refl _) hE1; replace h4 := h4.ext (Nat.le_refl _) hE1; replace h5 := h5.ext (Nat.le_refl _) hE1; replace h6 := h6.mono hsz (Kept.refl _ _); replace hsz := Nat.le_trans hsz hE1.size; replace hE0 := Ext.trans hE0 hE1))
        have HF := Lib.hid (RInt.boxN (w := w) (r := w.heap.size + 1 + 1) (u1 := .bool (decide (z + z2 < 0))) (u2 := .slice a6 n6 c6) (by omega) (by omega) hE0 ⟨a6, n6, c6, rfl, h6⟩)
        clear h5 h6 h3 h4 hE0 hsz hE1
        generalize z + z2 = zz at *
        have r2 : Blk (((w1).setCell ⟨w.heap.size + 1 + 1, 0, none⟩ (.bool (decide (zz < 0)))).setCell ⟨w.heap.size + 1 + 1, 1, none⟩ (.slice a6 n6 c6)) _ _ #[.bool (decide (zz < 0)), .slice a6 n6 c6] := ((r).set 0 (.bool (decide (zz < 0)))).set 1 (.slice a6 n6 c6)
        have hr0 := r2.cell (i := 0) rfl
        have hr1 := r2.cell (i := 1) rfl
        go_wp2_with fail
        exact bodyPost_ret (v := .agg #[.bool (decide (zz < 0)), .slice a6 n6 c6]) (by simp [results, Tryz.results129, go_sem, hr0, hr1]) rfl HF.out
end Go.Proofs.YtbhenelehhiakaaGreat
/-
  The references' integers, part 3: Sub, Trunc, Exact.
-/
namespace Go.Proofs.YtbhenelehhiakaaGreat
open Go.RowKit

theorem Sl.zero {α : Type} {r : Rd α} {B : Nat} {w : World} {a : Option Addr} {n c : Nat} {xs : List α} (h : Sl r B w a n c xs) : Sl r 0 w a n c xs := h.mono (Nat.zero_le _) (Kept.refl _ _)

theorem r3Neg_y (b : Bool) (B : Nat) (w : World) (a : Option Addr) (n c : Nat) (l : Nt) (z y : Int) (h : NatS B w a n c l) (hn : n ≤ 17592186044416) (hz : Hid (ival b l = z)) (hy : Hid (-z = y)) :
    Calls Tryz.prog 124 #[.agg #[.bool b, .slice a n c]] w (RInt w y) := by
  have := r3Neg_z b B w a n c l z h hn hz
  rwa [hy.out] at this

set_option maxHeartbeats 2000000 in
theorem r3Sub_z (b b2 : Bool) (B : Nat) (w : World) (a a2 : Option Addr) (n c n2 c2 : Nat) (l l2 : Nt) (z z2 : Int) (h : NatS B w a n c l) (h2 : NatS B w a2 n2 c2 l2) (hn : n ≤ 4398046511104) (hn2 : n2 ≤ 4398046511104) (hz : Hid (ival b l = z)) (hz2 : Hid (ival b2 l2 = z2)) :
    Calls Tryz.prog 160 #[.agg #[.bool b, .slice a n c], .agg #[.bool b2, .slice a2 n2 c2]] w (RInt w (z - z2)) := by
  have hnz2 : nl z2.natAbs ≤ 4398046511104 := Nat.le_trans (nl_of h2 hz2) hn2
  rw [← Int.natAbs_neg] at hnz2
  obtain ⟨y, hy⟩ : ∃ y, -z2 = y := ⟨_, rfl⟩
  have HY := Lib.hid hy
  rw [hy] at hnz2
  clear hy
  go_enter Tryz.func160, Tryz.ntmps160
  go_wp2_with fail
  have p0 := Blk.new w 25 #[.bool b, .slice a n c]
  have p1 := Blk.new (w.alloc (Obj.cells #[.bool b, .slice a n c] 25)) 25 #[.bool b2, .slice a2 n2 c2]
  replace p0 := p0.ext ((Below.refl _ _).alloc (Nat.le_refl _) (Obj.cells #[.bool b2, .slice a2 n2 c2] 25))
  have r := Blk.new ((w.alloc (Obj.cells #[.bool b, .slice a n c] 25)).alloc (Obj.cells #[.bool b2, .slice a2 n2 c2] 25)) 25 #[.bool false, .slice none 0 0]
  replace p0 := p0.ext ((Below.refl _ _).alloc (Nat.le_refl _) (Obj.cells #[.bool false, .slice none 0 0] 25))
  replace p1 := p1.ext ((Below.refl _ _).alloc (Nat.le_refl _) (Obj.cells #[.bool false, .slice none 0 0] 25))
  have hEW : Ext w (((w.alloc (Obj.cells #[.bool b, .slice a n c] 25)).alloc (Obj.cells #[.bool b2, .slice a2 n2 c2] 25)).alloc (Obj.cells #[.bool false, .slice none 0 0] 25)) := ((((Below.refl _ w).alloc (by simp) _).alloc (by simp) _).alloc (by simp; omega) _)
  generalize hgW : ((w.alloc (Obj.cells #[.bool b, .slice a n c] 25)).alloc (Obj.cells #[.bool b2, .slice a2 n2 c2] 25)).alloc (Obj.cells #[.bool false, .slice none 0 0] 25) = W at *
  clear hgW
  simp only [World.size_alloc] at p1 r
  have p0_ne_p1 : ¬ w.heap.size = w.heap.size + 1 := by omega
  have p0_ne_r : ¬ w.heap.size = w.heap.size + 1 + 1 := by omega
  have p1_ne_p0 : ¬ w.heap.size + 1 = w.heap.size := by omega
  have p1_ne_r : ¬ w.heap.size + 1 = w.heap.size + 1 + 1 := by omega
  have r_ne_p0 : ¬ w.heap.size + 1 + 1 = w.heap.size := by omega
  have r_ne_p1 : ¬ w.heap.size + 1 + 1 = w.heap.size + 1 := by omega
  replace p0_0 := p0.cell (i := 0) rfl
  replace p0_1 := p0.cell (i := 1) rfl
  replace p1_0 := p1.cell (i := 0) rfl
  replace p1_1 := p1.cell (i := 1) rfl
  replace r_0 := r.cell (i := 0) rfl
  replace r_1 := r.cell (i := 1) rfl
  replace r_f0 := r.free 0
  replace r_f1 := r.free 1
  replace r_lt := r.lt
  have hW : w.heap.size + 1 + 1 + 1 ≤ W.heap.size := r_lt
  have hd : Ext W W.drew := (Below.refl _ _).drew
  replace p0 := p0.ext hd; replace p0_0 := p0.cell (i := 0) rfl; replace p0_1 := p0.cell (i := 1) rfl; replace p1 := p1.ext hd; replace p1_0 := p1.cell (i := 0) rfl; replace p1_1 := p1.cell (i := 1) rfl; replace r := r.ext hd; replace r_0 := r.cell (i := 0) rfl; replace r_1 := r.cell (i := 1) rfl; replace r_f0 := r.free 0; replace r_f1 := r.free 1; replace r_lt := r.lt
  have h1 := Sl.zero ((h.ext (Nat.le_refl _) hEW).ext (Nat.le_refl _) hd)
  have h5 := Sl.zero ((h2.ext (Nat.le_refl _) hEW).ext (Nat.le_refl _) hd)
  have hE0 := Ext.trans hEW hd
  have hsz := hd.size
  clear h h2
  go_region_held3 (fun w' => w'.cell? ⟨w.heap.size, 0, none⟩ = some (.bool b) ∧ w'.cell? ⟨w.heap.size, 1, none⟩ = some (.slice a n c) ∧ w'.cell? ⟨w.heap.size + 1, 0, none⟩ = some (.bool b2) ∧ w'.cell? ⟨w.heap.size + 1, 1, none⟩ = some (.slice a2 n2 c2)) (first | exact ⟨p0_0, p0_1, p1_0, p1_1⟩ | go_keep)
    (first | (go_at_call 124; (with_reducible refine (r3Neg_y b2 _ _ _ _ _ _ z2 y h5 (by omega) hz2 HY).mono ?_); rintro e w1 ⟨a3, n3, c3, rfl, h3, hE1⟩; replace p0 := p0.ext hE1; replace p0_0 := p0.cell (i := 0) rfl; replace p0_1 := p0.cell (i := 1) rfl; replace p1 := p1.ext hE1; replace p1_0 := p1.cell (i := 0) rfl; replace p1_1 := p1.cell (i := 1) rfl; replace r := r.ext hE1; replace r_0 := r.cell (i := 0) rfl; replace r_1 := r.cell (i := 1) rfl; replace r_f0 := r.free 0; replace r_f1 := r.free 1; replace r_lt := r.lt; replace h1 := h1.ext (Nat.le_refl _) hE1; replace h5 := h5.ext (Nat.le_refl _) hE1; replace h3 := h3.mono hsz (Kept.refl _ _); replace hsz := Nat.le_trans hsz hE1.size; replace hE0 := Ext.trans hE0 hE1)
           | (go_at_call 129; (with_reducible refine (r3Add_z b _ 0 _ _ _ _ _ _ _ _ _ z y h1 (Sl.zero h3) hn (by have := h3.len; rw [length_limbs] at this; omega) hz (hnorm _)).mono ?_); rintro e w1 ⟨a4, n4, c4, rfl, h4, hE1⟩; replace p0 := p0.ext hE1; replace p0_0 := p0.cell (i := 0) rfl; replace p0_1 := p0.cell (i := 1) rfl; replace p1 := p1.ext hE1; replace p1_0 := p1.cell (i := 0) rfl; replace p1_1 := p1.cell (i := 1) rfl; replace r := r.ext hE1; replace r_0 := r.cell (i := 0) rfl; replace r_1 := r.cell (i := 1) rfl; replace r_f0 := r.free 0; replace r_f1 := r.free 1; replace r_lt := r.lt; replace h1 := h1.ext (Nat.le_refl _) hE1; replace h5 := h5.ext (Nat.le_refl _) hE1; replace h3 := h3.ext (Nat.le_refl _) hE1; replace h4 := h4.mono hsz (Kept.refl _ _); replace hsz := Nat.le_trans hsz hE1.size; replace hE0 := Ext.trans hE0 hE1))
  have HF := Lib.hid (RInt.boxN (w := w) (r := w.heap.size + 1 + 1) (u1 := .bool (decide (z + y < 0))) (u2 := .slice a4 n4 c4) (by omega) (by omega) hE0 ⟨a4, n4, c4, rfl, h4⟩)
  rw [show z + y = z - z2 by rw [Int.sub_eq_add_neg, HY.out]] at HF ⊢
  clear h1 h5 h3 h4 hE0 hsz hE1 hEW hd
  generalize z - z2 = zz at *
  have r2 : Blk (((w1).setCell ⟨w.heap.size + 1 + 1, 0, none⟩ (.bool (decide (zz < 0)))).setCell ⟨w.heap.size + 1 + 1, 1, none⟩ (.slice a4 n4 c4)) _ _ #[.bool (decide (zz < 0)), .slice a4 n4 c4] := ((r).set 0 (.bool (decide (zz < 0)))).set 1 (.slice a4 n4 c4)
  have hr0 := r2.cell (i := 0) rfl
  have hr1 := r2.cell (i := 1) rfl
  go_wp2_with fail
  exact bodyPost_ret (v := .agg #[.bool (decide (zz < 0)), .slice a4 n4 c4]) (by simp [results, Tryz.results160, go_sem, hr0, hr1]) rfl HF.out

theorem r3Mul_y (b b2 : Bool) (B : Nat) (w : World) (a a2 : Option Addr) (n c n2 c2 : Nat) (l l2 : Nt) (z z2 y : Int) (h : NatS B w a n c l) (h2 : NatS B w a2 n2 c2 l2) (hn : n ≤ 4398046511104) (hn2 : n2 ≤ 4398046511104) (hz : Hid (ival b l = z)) (hz2 : Hid (ival b2 l2 = z2)) (hy : Hid (z * z2 = y)) :
    Calls Tryz.prog 130 #[.agg #[.bool b, .slice a n c], .agg #[.bool b2, .slice a2 n2 c2]] w (RInt w y) := by
  have := r3Mul_z b b2 B w a a2 n c n2 c2 l l2 z z2 h h2 hn hn2 hz hz2
  rwa [hy.out] at this

/-- two integers in new memory -/
def RTrunc (w : World) (x y : Int) (e : Ending) (w' : World) : Prop := ∃ v1 v2, e = .returned (.tuple #[v1, v2]) ∧ IntN w.heap.size w' v1 x ∧ IntN w.heap.size w' v2 y ∧ Ext w w'

set_option maxHeartbeats 4000000 in
theorem r3Trunc_z (b b2 : Bool) (B : Nat) (w : World) (a a2 : Option Addr) (n c n2 c2 : Nat) (l l2 : Nt) (z z2 : Int) (h : NatS B w a n c l) (h2 : NatS B w a2 n2 c2 l2) (hn : n ≤ 4398046511104) (hn2 : n2 ≤ 4398046511104) (hz : Hid (ival b l = z)) (hz2 : Hid (ival b2 l2 = z2)) (h0 : 0 < val l2) :
    Calls Tryz.prog 144 #[.agg #[.bool b, .slice a n c], .agg #[.bool b2, .slice a2 n2 c2]] w (RTrunc w (z.tdiv z2) (z.tmod z2)) := by
  have hnz : nl z.natAbs ≤ n := nl_of h hz
  have HQ : Hid (ival (!b == b2) (limbs (val l / val l2)) = z.tdiv z2) := Lib.hid (by rw [← hz.out, ← hz2.out, tdiv_sgn, ival_limbs])
  have hnq : nl (val l / val l2) ≤ n := by have := nl_mono (Nat.div_le_self (val l) (val l2)); have := nl_val h.small; have := h.len; omega
  have hmd : z - z.tdiv z2 * z2 = z.tmod z2 := by rw [Int.tmod_def, Int.mul_comm]
  have hpn : nl (z.tdiv z2 * z2).natAbs ≤ n := by
    refine Nat.le_trans (nl_mono ?_) hnz
    rw [Int.natAbs_mul, Int.natAbs_tdiv]
    exact Nat.div_mul_le_self _ _
  have HM := Lib.hid hmd
  clear hmd
  go_enter Tryz.func144, Tryz.ntmps144
  go_wp2_with fail
  have p0 := Blk.new w 25 #[.bool b, .slice a n c]
  have p1 := Blk.new (w.alloc (Obj.cells #[.bool b, .slice a n c] 25)) 25 #[.bool b2, .slice a2 n2 c2]
  replace p0 := p0.ext ((Below.refl _ _).alloc (Nat.le_refl _) (Obj.cells #[.bool b2, .slice a2 n2 c2] 25))
  have r := Blk.new ((w.alloc (Obj.cells #[.bool b, .slice a n c] 25)).alloc (Obj.cells #[.bool b2, .slice a2 n2 c2] 25)) 25 #[.bool false, .slice none 0 0]
  replace p0 := p0.ext ((Below.refl _ _).alloc (Nat.le_refl _) (Obj.cells #[.bool false, .slice none 0 0] 25))
  replace p1 := p1.ext ((Below.refl _ _).alloc (Nat.le_refl _) (Obj.cells #[.bool false, .slice none 0 0] 25))
  have s := Blk.new (((w.alloc (Obj.cells #[.bool b, .slice a n c] 25)).alloc (Obj.cells #[.bool b2, .slice a2 n2 c2] 25)).alloc (Obj.cells #[.bool false, .slice none 0 0] 25)) 25 #[.bool false, .slice none 0 0]
  replace p0 := p0.ext ((Below.refl _ _).alloc (Nat.le_refl _) (Obj.cells #[.bool false, .slice none 0 0] 25))
  replace p1 := p1.ext ((Below.refl _ _).alloc (Nat.le_refl _) (Obj.cells #[.bool false, .slice none 0 0] 25))
  replace r := r.ext ((Below.refl _ _).alloc (Nat.le_refl _) (Obj.cells #[.bool false, .slice none 0 0] 25))
  have hEW : Ext w ((((w.alloc (Obj.cells #[.bool b, .slice a n c] 25)).alloc (Obj.cells #[.bool b2, .slice a2 n2 c2] 25)).alloc (Obj.cells #[.bool false, .slice none 0 0] 25)).alloc (Obj.cells #[.bool false, .slice none 0 0] 25)) := (((((Below.refl _ w).alloc (by simp) _).alloc (by simp) _).alloc (by simp; omega) _).alloc (by simp; omega) _)
  generalize hgW : (((w.alloc (Obj.cells #[.bool b, .slice a n c] 25)).alloc (Obj.cells #[.bool b2, .slice a2 n2 c2] 25)).alloc (Obj.cells #[.bool false, .slice none 0 0] 25)).alloc (Obj.cells #[.bool false, .slice none 0 0] 25) = W at *
  clear hgW
  simp only [World.size_alloc] at p1 r s
  have p0_ne_p1 : ¬ w.heap.size = w.heap.size + 1 := by omega
  have p0_ne_r : ¬ w.heap.size = w.heap.size + 1 + 1 := by omega
  have p0_ne_s : ¬ w.heap.size = w.heap.size + 1 + 1 + 1 := by omega
  have p1_ne_p0 : ¬ w.heap.size + 1 = w.heap.size := by omega
  have p1_ne_r : ¬ w.heap.size + 1 = w.heap.size + 1 + 1 := by omega
  have p1_ne_s : ¬ w.heap.size + 1 = w.heap.size + 1 + 1 + 1 := by omega
  have r_ne_p0 : ¬ w.heap.size + 1 + 1 = w.heap.size := by omega
  have r_ne_p1 : ¬ w.heap.size + 1 + 1 = w.heap.size + 1 := by omega
  have r_ne_s : ¬ w.heap.size + 1 + 1 = w.heap.size + 1 + 1 + 1 := by omega
  have s_ne_p0 : ¬ w.heap.size + 1 + 1 + 1 = w.heap.size := by omega
  have s_ne_p1 : ¬ w.heap.size + 1 + 1 + 1 = w.heap.size + 1 := by omega
  have s_ne_r : ¬ w.heap.size + 1 + 1 + 1 = w.heap.size + 1 + 1 := by omega
  replace p0_0 := p0.cell (i := 0) rfl
  replace p0_1 := p0.cell (i := 1) rfl
  replace p1_0 := p1.cell (i := 0) rfl
  replace p1_1 := p1.cell (i := 1) rfl
  replace r_0 := r.cell (i := 0) rfl
  replace r_1 := r.cell (i := 1) rfl
  replace r_f0 := r.free 0
  replace r_f1 := r.free 1
  replace r_lt := r.lt
  replace s_0 := s.cell (i := 0) rfl
  replace s_1 := s.cell (i := 1) rfl
  replace s_f0 := s.free 0
  replace s_f1 := s.free 1
  replace s_lt := s.lt
  have hW : w.heap.size + 1 + 1 + 1 + 1 ≤ W.heap.size := s_lt
  refine (r1Div_any B W a a2 n c n2 c2 l l2 (h.ext (Nat.le_refl _) hEW) (h2.ext (Nat.le_refl _) hEW) hn hn2 _ _ (Lib.hid rfl) (Lib.hid rfl) h0).mono ?_
  rintro e w1 ⟨a3, n3, c3, a4, n4, c4, rfl, h3, h4, hE1⟩
  replace p0 := p0.ext hE1; replace p0_0 := p0.cell (i := 0) rfl; replace p0_1 := p0.cell (i := 1) rfl; replace p1 := p1.ext hE1; replace p1_0 := p1.cell (i := 0) rfl; replace p1_1 := p1.cell (i := 1) rfl; replace r := r.ext hE1; replace r_0 := r.cell (i := 0) rfl; replace r_1 := r.cell (i := 1) rfl; replace r_f0 := r.free 0; replace r_f1 := r.free 1; replace r_lt := r.lt; replace s := s.ext hE1; replace s_0 := s.cell (i := 0) rfl; replace s_1 := s.cell (i := 1) rfl; replace s_f0 := s.free 0; replace s_f1 := s.free 1; replace s_lt := s.lt
  have hE0 := Ext.trans hEW hE1
  have hsz := hE1.size
  have hln3 : nl (val l / val l2) = n3 := h3.len
  rw [hln3] at hnq
  have h1 := Sl.zero ((h.ext (Nat.le_refl _) hEW).ext (Nat.le_refl _) hE1)
  have h5 := Sl.zero ((h2.ext (Nat.le_refl _) hEW).ext (Nat.le_refl _) hE1)
  clear h4 hE1 hln3 h h2 hEW
  go_wp2_with fail
  refine (r3Norm_z _ _ _ _ _ _ _ _ h3 (by omega) HQ).mono ?_
  rintro e w2 ⟨a6, n6, c6, rfl, h6, hE1⟩
  replace p0 := p0.ext hE1; replace p0_0 := p0.cell (i := 0) rfl; replace p0_1 := p0.cell (i := 1) rfl; replace p1 := p1.ext hE1; replace p1_0 := p1.cell (i := 0) rfl; replace p1_1 := p1.cell (i := 1) rfl; replace r := r.ext hE1; replace r_0 := r.cell (i := 0) rfl; replace r_1 := r.cell (i := 1) rfl; replace r_f0 := r.free 0; replace r_f1 := r.free 1; replace r_lt := r.lt; replace s := s.ext hE1; replace s_0 := s.cell (i := 0) rfl; replace s_1 := s.cell (i := 1) rfl; replace s_f0 := s.free 0; replace s_f1 := s.free 1; replace s_lt := s.lt
  replace h1 := h1.ext (Nat.le_refl _) hE1
  replace h5 := h5.ext (Nat.le_refl _) hE1
  replace h6 := h6.mono hsz (Kept.refl _ _)
  replace hE0 := Ext.trans hE0 hE1
  replace hsz := Nat.le_trans hsz hE1.size
  have hl6 : nl (z.tdiv z2).natAbs = n6 := h6.len
  have hn6 : n6 ≤ n := by
    rw [← hl6, ← HQ.out, ival_limbs, ival_of]
    exact Nat.le_trans (nl_mono (Nat.div_le_self _ _)) (by have := nl_val (NatS.small h1); have := h1.len; omega)
  have hw2 := hsz
  clear h3 hE1 hl6 hnq HQ
  generalize z.tdiv z2 = q at *
  go_wp2_with fail
  have x := Blk.new w2 25 #[.bool (decide (q < 0)), .slice a6 n6 c6]
  have hEW2 : Ext w2 (w2.alloc (Obj.cells #[.bool (decide (q < 0)), .slice a6 n6 c6] 25)) := ((Below.refl _ w2).alloc (by simp) _)
  generalize hgW2 : w2.alloc (Obj.cells #[.bool (decide (q < 0)), .slice a6 n6 c6] 25) = W2 at *
  clear hgW2
  replace x_0 := x.cell (i := 0) rfl
  replace x_1 := x.cell (i := 1) rfl
  replace p0 := p0.ext hEW2; replace p0_0 := p0.cell (i := 0) rfl; replace p0_1 := p0.cell (i := 1) rfl; replace p1 := p1.ext hEW2; replace p1_0 := p1.cell (i := 0) rfl; replace p1_1 := p1.cell (i := 1) rfl; replace r := r.ext hEW2; replace r_0 := r.cell (i := 0) rfl; replace r_1 := r.cell (i := 1) rfl; replace r_f0 := r.free 0; replace r_f1 := r.free 1; replace r_lt := r.lt; replace s := s.ext hEW2; replace s_0 := s.cell (i := 0) rfl; replace s_1 := s.cell (i := 1) rfl; replace s_f0 := s.free 0; replace s_f1 := s.free 1; replace s_lt := s.lt
  have hd : Ext W2 W2.drew := (Below.refl _ _).drew
  replace h1 := h1.ext (Nat.le_refl _) (Ext.trans hEW2 hd)
  replace h5 := h5.ext (Nat.le_refl _) (Ext.trans hEW2 hd)
  replace h6 := h6.ext (Nat.le_refl _) (Ext.trans hEW2 hd)
  replace hE0 := Ext.trans hE0 (Ext.trans hEW2 hd)
  replace hsz := Nat.le_trans hsz (Ext.trans hEW2 hd).size
  replace p0 := p0.ext hd; replace p0_0 := p0.cell (i := 0) rfl; replace p0_1 := p0.cell (i := 1) rfl; replace p1 := p1.ext hd; replace p1_0 := p1.cell (i := 0) rfl; replace p1_1 := p1.cell (i := 1) rfl; replace r := r.ext hd; replace r_0 := r.cell (i := 0) rfl; replace r_1 := r.cell (i := 1) rfl; replace r_f0 := r.free 0; replace r_f1 := r.free 1; replace r_lt := r.lt; replace s := s.ext hd; replace s_0 := s.cell (i := 0) rfl; replace s_1 := s.cell (i := 1) rfl; replace s_f0 := s.free 0; replace s_f1 := s.free 1; replace s_lt := s.lt; replace x := x.ext hd; replace x_0 := x.cell (i := 0) rfl; replace x_1 := x.cell (i := 1) rfl
  clear hEW2 hd
  have q1 : ¬ w2.heap.size = w.heap.size + 1 + 1 := by omega
  have q2 : ¬ w.heap.size + 1 + 1 = w2.heap.size := by omega
  have q3 : ¬ w2.heap.size = w.heap.size + 1 + 1 + 1 := by omega
  have q4 : ¬ w.heap.size + 1 + 1 + 1 = w2.heap.size := by omega
  go_region_held3 (fun w' => w'.cell? ⟨w.heap.size, 0, none⟩ = some (.bool b) ∧ w'.cell? ⟨w.heap.size, 1, none⟩ = some (.slice a n c) ∧ w'.cell? ⟨w.heap.size + 1, 0, none⟩ = some (.bool b2) ∧ w'.cell? ⟨w.heap.size + 1, 1, none⟩ = some (.slice a2 n2 c2) ∧ w'.cell? ⟨w2.heap.size, 0, none⟩ = some (.bool (decide (q < 0))) ∧ w'.cell? ⟨w2.heap.size, 1, none⟩ = some (.slice a6 n6 c6)) (first | exact ⟨p0_0, p0_1, p1_0, p1_1, x_0, x_1⟩ | go_keep)
    (first | (go_at_call 130; (with_reducible refine (r3Mul_z _ _ 0 _ _ _ _ _ _ _ _ _ q z2 (Sl.zero h6) h5 (by omega) hn2 (hnorm _) hz2).mono ?_); rintro e w1 ⟨a7, n7, c7, rfl, h7, hE1⟩; replace p0 := p0.ext hE1; replace p0_0 := p0.cell (i := 0) rfl; replace p0_1 := p0.cell (i := 1) rfl; replace p1 := p1.ext hE1; replace p1_0 := p1.cell (i := 0) rfl; replace p1_1 := p1.cell (i := 1) rfl; replace r := r.ext hE1; replace r_0 := r.cell (i := 0) rfl; replace r_1 := r.cell (i := 1) rfl; replace r_f0 := r.free 0; replace r_f1 := r.free 1; replace r_lt := r.lt; replace s := s.ext hE1; replace s_0 := s.cell (i := 0) rfl; replace s_1 := s.cell (i := 1) rfl; replace s_f0 := s.free 0; replace s_f1 := s.free 1; replace s_lt := s.lt; replace x := x.ext hE1; replace x_0 := x.cell (i := 0) rfl; replace x_1 := x.cell (i := 1) rfl; replace h1 := h1.ext (Nat.le_refl _) hE1; replace h5 := h5.ext (Nat.le_refl _) hE1; replace h6 := h6.ext (Nat.le_refl _) hE1; replace h7 := h7.mono hsz (Kept.refl _ _); replace hsz := Nat.le_trans hsz hE1.size; replace hE0 := Ext.trans hE0 hE1)
           | (go_at_call 160; (with_reducible refine (r3Sub_z _ _ 0 _ _ _ _ _ _ _ _ _ z (q * z2) h1 (Sl.zero h7) hn (by have := h7.len; rw [length_limbs] at this; omega) hz (hnorm _)).mono ?_); rintro e w1 ⟨a8, n8, c8, rfl, h8, hE1⟩; replace p0 := p0.ext hE1; replace p0_0 := p0.cell (i := 0) rfl; replace p0_1 := p0.cell (i := 1) rfl; replace p1 := p1.ext hE1; replace p1_0 := p1.cell (i := 0) rfl; replace p1_1 := p1.cell (i := 1) rfl; replace r := r.ext hE1; replace r_0 := r.cell (i := 0) rfl; replace r_1 := r.cell (i := 1) rfl; replace r_f0 := r.free 0; replace r_f1 := r.free 1; replace r_lt := r.lt; replace s := s.ext hE1; replace s_0 := s.cell (i := 0) rfl; replace s_1 := s.cell (i := 1) rfl; replace s_f0 := s.free 0; replace s_f1 := s.free 1; replace s_lt := s.lt; replace x := x.ext hE1; replace x_0 := x.cell (i := 0) rfl; replace x_1 := x.cell (i := 1) rfl; replace h1 := h1.ext (Nat.le_refl _) hE1; replace h5 := h5.ext (Nat.le_refl _) hE1; replace h6 := h6.ext (Nat.le_refl _) hE1; replace h7 := h7.ext (Nat.le_refl _) hE1; replace h8 := h8.mono hsz (Kept.refl _ _); replace hsz := Nat.le_trans hsz hE1.size; replace hE0 := Ext.trans hE0 hE1))
  rw [HM.out] at h8 ⊢
  generalize z.tmod z2 = y at *
  replace r := r.set 0 (.bool (decide (q < 0)))
  replace s := s.set_ne 0 (.bool (decide (q < 0))) (show w.heap.size + 1 + 1 + 1 ≠ w.heap.size + 1 + 1 by omega)
  replace r := r.set 1 (.slice a6 n6 c6)
  replace s := s.set_ne 1 (.slice a6 n6 c6) (show w.heap.size + 1 + 1 + 1 ≠ w.heap.size + 1 + 1 by omega)
  replace r := r.set_ne 0 (.bool (decide (y < 0))) (show w.heap.size + 1 + 1 ≠ w.heap.size + 1 + 1 + 1 by omega)
  replace s := s.set 0 (.bool (decide (y < 0)))
  replace r := r.set_ne 1 (.slice a8 n8 c8) (show w.heap.size + 1 + 1 ≠ w.heap.size + 1 + 1 + 1 by omega)
  replace s := s.set 1 (.slice a8 n8 c8)
  have hKW3 : ∀ bB_ : Nat, w.heap.size + 1 + 1 < bB_ → w.heap.size + 1 + 1 + 1 < bB_ → Kept bB_ w1 (((((w1).setCell ⟨w.heap.size + 1 + 1, 0, none⟩ (.bool (decide (q < 0)))).setCell ⟨w.heap.size + 1 + 1, 1, none⟩ (.slice a6 n6 c6)).setCell ⟨w.heap.size + 1 + 1 + 1, 0, none⟩ (.bool (decide (y < 0)))).setCell ⟨w.heap.size + 1 + 1 + 1, 1, none⟩ (.slice a8 n8 c8)) := fun bB_ h0 h1 => (Kept.trans (kept_set _ _ _ h0) (Kept.trans (kept_set _ _ _ h0) (Kept.trans (kept_set _ _ _ h1) (kept_set _ _ _ h1))))
  have hzW3 : w1.heap.size ≤ (((((w1).setCell ⟨w.heap.size + 1 + 1, 0, none⟩ (.bool (decide (q < 0)))).setCell ⟨w.heap.size + 1 + 1, 1, none⟩ (.slice a6 n6 c6)).setCell ⟨w.heap.size + 1 + 1 + 1, 0, none⟩ (.bool (decide (y < 0)))).setCell ⟨w.heap.size + 1 + 1 + 1, 1, none⟩ (.slice a8 n8 c8)).heap.size := by simp only [World.setCell, Array.size_modify]; exact Nat.le_refl _
  have hSW3 : ∀ (nB_ : Nat) (uB_ : World), nB_ ≤ w.heap.size + 1 + 1 → nB_ ≤ w.heap.size + 1 + 1 + 1 → Below nB_ uB_ w1 → Below nB_ uB_ (((((w1).setCell ⟨w.heap.size + 1 + 1, 0, none⟩ (.bool (decide (q < 0)))).setCell ⟨w.heap.size + 1 + 1, 1, none⟩ (.slice a6 n6 c6)).setCell ⟨w.heap.size + 1 + 1 + 1, 0, none⟩ (.bool (decide (y < 0)))).setCell ⟨w.heap.size + 1 + 1 + 1, 1, none⟩ (.slice a8 n8 c8)) := fun nB_ uB_ h0 h1 hb => (Below.setCell (Below.setCell (Below.setCell (Below.setCell hb (p := ⟨w.heap.size + 1 + 1, 0, none⟩) h0 (.bool (decide (q < 0)))) (p := ⟨w.heap.size + 1 + 1, 1, none⟩) h0 (.slice a6 n6 c6)) (p := ⟨w.heap.size + 1 + 1 + 1, 0, none⟩) h1 (.bool (decide (y < 0)))) (p := ⟨w.heap.size + 1 + 1 + 1, 1, none⟩) h1 (.slice a8 n8 c8))
  replace r : Blk (((((w1).setCell ⟨w.heap.size + 1 + 1, 0, none⟩ (.bool (decide (q < 0)))).setCell ⟨w.heap.size + 1 + 1, 1, none⟩ (.slice a6 n6 c6)).setCell ⟨w.heap.size + 1 + 1 + 1, 0, none⟩ (.bool (decide (y < 0)))).setCell ⟨w.heap.size + 1 + 1 + 1, 1, none⟩ (.slice a8 n8 c8)) (w.heap.size + 1 + 1) 25 #[.bool (decide (q < 0)), .slice a6 n6 c6] := r
  replace s : Blk (((((w1).setCell ⟨w.heap.size + 1 + 1, 0, none⟩ (.bool (decide (q < 0)))).setCell ⟨w.heap.size + 1 + 1, 1, none⟩ (.slice a6 n6 c6)).setCell ⟨w.heap.size + 1 + 1 + 1, 0, none⟩ (.bool (decide (y < 0)))).setCell ⟨w.heap.size + 1 + 1 + 1, 1, none⟩ (.slice a8 n8 c8)) (w.heap.size + 1 + 1 + 1) 25 #[.bool (decide (y < 0)), .slice a8 n8 c8] := s
  generalize hgW3 : ((((w1).setCell ⟨w.heap.size + 1 + 1, 0, none⟩ (.bool (decide (q < 0)))).setCell ⟨w.heap.size + 1 + 1, 1, none⟩ (.slice a6 n6 c6)).setCell ⟨w.heap.size + 1 + 1 + 1, 0, none⟩ (.bool (decide (y < 0)))).setCell ⟨w.heap.size + 1 + 1 + 1, 1, none⟩ (.slice a8 n8 c8) = W3 at *
  clear hgW3
  replace r_0 := r.cell (i := 0) rfl
  replace r_1 := r.cell (i := 1) rfl
  replace r_f0 := r.free 0
  replace r_f1 := r.free 1
  replace r_lt := r.lt
  replace s_0 := s.cell (i := 0) rfl
  replace s_1 := s.cell (i := 1) rfl
  replace s_f0 := s.free 0
  replace s_f1 := s.free 1
  replace s_lt := s.lt
  replace h6 := h6.mono (Nat.le_refl _) (hKW3 _ (by omega) (by omega))
  replace h8 := h8.mono (Nat.le_refl _) (hKW3 _ (by omega) (by omega))
  replace hE0 := hSW3 _ _ (by omega) (by omega) hE0
  have HF : Hid (RTrunc w q y (.returned (.tuple #[.agg #[.bool (decide (q < 0)), .slice a6 n6 c6], .agg #[.bool (decide (y < 0)), .slice a8 n8 c8]])) W3) :=
    Lib.hid ⟨_, _, rfl, ⟨a6, n6, c6, rfl, h6.mono (by omega) (Kept.refl _ _)⟩, ⟨a8, n8, c8, rfl, h8.mono (by omega) (Kept.refl _ _)⟩, hE0⟩
  clear h1 h5 h6 h7 h8 hE0 hKW3 hSW3 hzW3 hE1 hpn hnz
  go_wp2_with fail
  exact bodyPost_ret (v := .tuple #[.agg #[.bool (decide (q < 0)), .slice a6 n6 c6], .agg #[.bool (decide (y < 0)), .slice a8 n8 c8]]) (by simp [results, Tryz.results144, go_sem, r_0, r_1, s_0, s_1]) rfl HF.out

set_option maxHeartbeats 2000000 in
theorem r3Exact_z (b b2 : Bool) (B : Nat) (w : World) (a a2 : Option Addr) (n c n2 c2 : Nat) (l l2 : Nt) (z z2 : Int) (h : NatS B w a n c l) (h2 : NatS B w a2 n2 c2 l2) (hn : n ≤ 4398046511104) (hn2 : n2 ≤ 4398046511104) (hz : Hid (ival b l = z)) (hz2 : Hid (ival b2 l2 = z2)) (h0 : z2 ≠ 0) (hdv : z2 ∣ z) :
    Calls Tryz.prog 126 #[.agg #[.bool b, .slice a n c], .agg #[.bool b2, .slice a2 n2 c2]] w fun e w' => ∃ v, e = .returned (.tuple #[v, .bool true]) ∧ IntN w.heap.size w' v (z / z2) ∧ Ext w w' := by
  have hp : 0 < val l2 := by
    have := hz2.out
    have := ival_neg this
    omega
  have HQ : Hid (z.tdiv z2 = z / z2) := Lib.hid (Int.tdiv_eq_ediv_of_dvd hdv)
  have hr : z.tmod z2 = 0 := Int.tmod_eq_zero_of_dvd hdv
  go_enter Tryz.func126, Tryz.ntmps126
  go_wp2_with fail
  have p0 := Blk.new w 25 #[.bool b, .slice a n c]
  have p1 := Blk.new (w.alloc (Obj.cells #[.bool b, .slice a n c] 25)) 25 #[.bool b2, .slice a2 n2 c2]
  replace p0 := p0.ext ((Below.refl _ _).alloc (Nat.le_refl _) (Obj.cells #[.bool b2, .slice a2 n2 c2] 25))
  have r := Blk.new ((w.alloc (Obj.cells #[.bool b, .slice a n c] 25)).alloc (Obj.cells #[.bool b2, .slice a2 n2 c2] 25)) 25 #[.bool false, .slice none 0 0]
  replace p0 := p0.ext ((Below.refl _ _).alloc (Nat.le_refl _) (Obj.cells #[.bool false, .slice none 0 0] 25))
  replace p1 := p1.ext ((Below.refl _ _).alloc (Nat.le_refl _) (Obj.cells #[.bool false, .slice none 0 0] 25))
  have hEW : Ext w (((w.alloc (Obj.cells #[.bool b, .slice a n c] 25)).alloc (Obj.cells #[.bool b2, .slice a2 n2 c2] 25)).alloc (Obj.cells #[.bool false, .slice none 0 0] 25)) := ((((Below.refl _ w).alloc (by simp) _).alloc (by simp) _).alloc (by simp; omega) _)
  generalize hgW : ((w.alloc (Obj.cells #[.bool b, .slice a n c] 25)).alloc (Obj.cells #[.bool b2, .slice a2 n2 c2] 25)).alloc (Obj.cells #[.bool false, .slice none 0 0] 25) = W at *
  clear hgW
  simp only [World.size_alloc] at p1 r
  have p0_ne_p1 : ¬ w.heap.size = w.heap.size + 1 := by omega
  have p0_ne_r : ¬ w.heap.size = w.heap.size + 1 + 1 := by omega
  have p1_ne_p0 : ¬ w.heap.size + 1 = w.heap.size := by omega
  have p1_ne_r : ¬ w.heap.size + 1 = w.heap.size + 1 + 1 := by omega
  have r_ne_p0 : ¬ w.heap.size + 1 + 1 = w.heap.size := by omega
  have r_ne_p1 : ¬ w.heap.size + 1 + 1 = w.heap.size + 1 := by omega
  replace p0_0 := p0.cell (i := 0) rfl
  replace p0_1 := p0.cell (i := 1) rfl
  replace p1_0 := p1.cell (i := 0) rfl
  replace p1_1 := p1.cell (i := 1) rfl
  replace r_0 := r.cell (i := 0) rfl
  replace r_1 := r.cell (i := 1) rfl
  replace r_f0 := r.free 0
  replace r_f1 := r.free 1
  replace r_lt := r.lt
  have hW : w.heap.size + 1 + 1 + 1 ≤ W.heap.size := r_lt
  refine (r3Trunc_z b b2 B W a a2 n c n2 c2 l l2 z z2 (h.ext (Nat.le_refl _) hEW) (h2.ext (Nat.le_refl _) hEW) hn hn2 hz hz2 hp).mono ?_
  rintro e w1 ⟨v1, v2, rfl, ⟨a3, n3, c3, rfl, h3⟩, ⟨a4, n4, c4, rfl, h4⟩, hE1⟩
  rw [HQ.out] at h3 ⊢
  rw [hr] at h4 ⊢
  rw [show decide ((0 : Int) < 0) = false from rfl]
  replace p0 := p0.ext hE1; replace p0_0 := p0.cell (i := 0) rfl; replace p0_1 := p0.cell (i := 1) rfl; replace p1 := p1.ext hE1; replace p1_0 := p1.cell (i := 0) rfl; replace p1_1 := p1.cell (i := 1) rfl; replace r := r.ext hE1; replace r_0 := r.cell (i := 0) rfl; replace r_1 := r.cell (i := 1) rfl; replace r_f0 := r.free 0; replace r_f1 := r.free 1; replace r_lt := r.lt
  have hE0 := Ext.trans hEW hE1
  generalize hq : z / z2 = q at *
  have HQ2 := Lib.hid hq
  clear hq
  clear hr h h2 hEW hp h0 hdv
  go_wp2_with fail
  have x := Blk.new w1 25 #[.bool (decide (q < 0)), .slice a3 n3 c3]
  have y := Blk.new (w1.alloc (Obj.cells #[.bool (decide (q < 0)), .slice a3 n3 c3] 25)) 25 #[.bool false, .slice a4 n4 c4]
  replace x := x.ext ((Below.refl _ _).alloc (Nat.le_refl _) (Obj.cells #[.bool false, .slice a4 n4 c4] 25))
  have hEW2 : Ext w1 ((w1.alloc (Obj.cells #[.bool (decide (q < 0)), .slice a3 n3 c3] 25)).alloc (Obj.cells #[.bool false, .slice a4 n4 c4] 25)) := (((Below.refl _ w1).alloc (by simp) _).alloc (by simp) _)
  generalize hgW2 : (w1.alloc (Obj.cells #[.bool (decide (q < 0)), .slice a3 n3 c3] 25)).alloc (Obj.cells #[.bool false, .slice a4 n4 c4] 25) = W2 at *
  clear hgW2
  simp only [World.size_alloc] at y
  have x_ne_y : ¬ w1.heap.size = w1.heap.size + 1 := by omega
  have y_ne_x : ¬ w1.heap.size + 1 = w1.heap.size := by omega
  replace x_0 := x.cell (i := 0) rfl
  replace x_1 := x.cell (i := 1) rfl
  replace y_0 := y.cell (i := 0) rfl
  replace y_1 := y.cell (i := 1) rfl
  replace r := r.ext hEW2; replace r_0 := r.cell (i := 0) rfl; replace r_1 := r.cell (i := 1) rfl; replace r_f0 := r.free 0; replace r_f1 := r.free 1; replace r_lt := r.lt
  replace h3 := h3.ext (Nat.le_refl _) hEW2
  replace h4 := h4.ext (Nat.le_refl _) hEW2
  replace hE0 := Ext.trans hE0 hEW2
  refine (r3Sign_z false _ W2 _ _ _ _ 0 h4 (Lib.hid rfl)).mono ?_
  rintro e w3 ⟨rfl, hE3⟩
  rw [Int.sign_zero]
  replace r := r.ext hE3; replace r_0 := r.cell (i := 0) rfl; replace r_1 := r.cell (i := 1) rfl; replace r_f0 := r.free 0; replace r_f1 := r.free 1; replace r_lt := r.lt; replace x := x.ext hE3; replace x_0 := x.cell (i := 0) rfl; replace x_1 := x.cell (i := 1) rfl
  replace h3 := h3.ext (Nat.le_refl _) hE3
  replace hE0 := Ext.trans hE0 hE3
  have HF : Hid (∃ v, Ending.returned (.tuple #[.agg #[.bool (decide (q < 0)), .slice a3 n3 c3], .bool true]) = .returned (.tuple #[v, .bool true]) ∧ IntN w.heap.size ((w3.setCell ⟨w.heap.size + 1 + 1, 0, none⟩ (.bool (decide (q < 0)))).setCell ⟨w.heap.size + 1 + 1, 1, none⟩ (.slice a3 n3 c3)) v q ∧ Ext w ((w3.setCell ⟨w.heap.size + 1 + 1, 0, none⟩ (.bool (decide (q < 0)))).setCell ⟨w.heap.size + 1 + 1, 1, none⟩ (.slice a3 n3 c3))) :=
    Lib.hid ⟨_, rfl, ⟨a3, n3, c3, rfl, h3.mono (by omega) (Kept.trans (kept_set _ _ _ (show w.heap.size + 1 + 1 < W.heap.size by omega)) (kept_set _ _ _ (by omega)))⟩, Below.setCell (Below.setCell hE0 (p := ⟨w.heap.size + 1 + 1, 0, none⟩) (by simp; omega) _) (p := ⟨w.heap.size + 1 + 1, 1, none⟩) (by simp; omega) _⟩
  clear h3 h4 hE0 hE1 hEW2 hE3
  have r2 := (r.set 0 (.bool (decide (q < 0)))).set 1 (.slice a3 n3 c3)
  have hr0 := r2.cell (i := 0) rfl
  have hr1 := r2.cell (i := 1) rfl
  go_wp2_with fail
  exact bodyPost_ret (v := .tuple #[.agg #[.bool (decide (q < 0)), .slice a3 n3 c3], .bool true]) (by simp [results, Tryz.results126, go_sem, hr0, hr1]) rfl (by rw [HQ2.out]; exact HF.out)
end Go.Proofs.YtbhenelehhiakaaGreat
