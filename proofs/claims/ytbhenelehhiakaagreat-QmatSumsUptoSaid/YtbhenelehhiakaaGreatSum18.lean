/-
  The references' integers, part 1: Norm, Of, Sign, Neg, Abs, Mul, Gcd, Same.
-/
import Derived.Test.YtbhenelehhiakaaGreatSum16
import Derived.Test.YtbhenelehhiakaaGreatSum17
set_option linter.unusedVariables false
set_option linter.unusedSimpArgs false
namespace Go.Proofs.YtbhenelehhiakaaGreat
open Go.RowKit

set_option maxHeartbeats 1000000 in
theorem r3Norm_z (b : Bool) (B : Nat) (w : World) (a : Option Addr) (n c : Nat) (l : Nt) (z : Int) (h : NatS B w a n c l) (hn : n ≤ 17592186044416) (hz : Hid (ival b l = z)) :
    Calls Tryz.prog 142 #[.agg #[.bool b, .slice a n c]] w (RInt w z) := by
  have HS : Hid (z = if b then -((val l : Nat) : Int) else ((val l : Nat) : Int)) := Lib.hid hz.out.symm
  cases b
  all_goals
    go_enter Tryz.func142, Tryz.ntmps142
    go_wp2_with fail
  · skip
    have p0 := Blk.new w 25 #[.bool false, .slice a n c]
    have r := Blk.new (w.alloc (Obj.cells #[.bool false, .slice a n c] 25)) 25 #[.bool false, .slice none 0 0]
    replace p0 := p0.ext ((Below.refl _ _).alloc (Nat.le_refl _) (Obj.cells #[.bool false, .slice none 0 0] 25))
    have hEW : Ext w ((w.alloc (Obj.cells #[.bool false, .slice a n c] 25)).alloc (Obj.cells #[.bool false, .slice none 0 0] 25)) := (((Below.refl _ w).alloc (by simp) _).alloc (by simp) _)
    generalize hgW : (w.alloc (Obj.cells #[.bool false, .slice a n c] 25)).alloc (Obj.cells #[.bool false, .slice none 0 0] 25) = W at *
    clear hgW
    simp only [World.size_alloc] at r
    have p0_ne_r : ¬ w.heap.size = w.heap.size + 1 := by omega
    have r_ne_p0 : ¬ w.heap.size + 1 = w.heap.size := by omega
    replace p0_0 := p0.cell (i := 0) rfl
    replace p0_1 := p0.cell (i := 1) rfl
    replace r_0 := r.cell (i := 0) rfl
    replace r_1 := r.cell (i := 1) rfl
    replace r_f0 := r.free 0
    replace r_f1 := r.free 1
    replace r_lt := r.lt
    have hrB := r_lt
    refine (r1Norm_any B W a n c l (h.ext (Nat.le_refl _) hEW) hn).mono ?_
    rintro e w1 ⟨a3, n3, c3, rfl, h3, hE1⟩
    replace p0 := p0.ext hE1; replace p0_0 := p0.cell (i := 0) rfl; replace p0_1 := p0.cell (i := 1) rfl; replace r := r.ext hE1; replace r_0 := r.cell (i := 0) rfl; replace r_1 := r.cell (i := 1) rfl; replace r_f0 := r.free 0; replace r_f1 := r.free 1; replace r_lt := r.lt
    have HF := Lib.hid (RInt.box (w := w) (w2 := w1) (r := w.heap.size + 1) (u := .bool false) (v := .slice a3 n3 c3) (b := false) (by omega) hrB (Ext.trans hEW hE1) h3 HS.out rfl)
    clear h h3 hE1 hEW
    go_wp2_with fail
    have r2 : Blk (((w1).setCell ⟨w.heap.size + 1, 0, none⟩ (.bool false)).setCell ⟨w.heap.size + 1, 1, none⟩ (.slice a3 n3 c3)) _ _ #[.bool false, .slice a3 n3 c3] := ((r).set 0 (.bool false)).set 1 (.slice a3 n3 c3)
    have hr0 := r2.cell (i := 0) rfl
    have hr1 := r2.cell (i := 1) rfl
    go_wp2_with fail
    exact bodyPost_ret (v := .agg #[.bool false, .slice a3 n3 c3]) (by simp [results, Tryz.results142, go_sem, hr0, hr1]) rfl HF.out
  · skip
    have p0 := Blk.new w 25 #[.bool true, .slice a n c]
    have r := Blk.new (w.alloc (Obj.cells #[.bool true, .slice a n c] 25)) 25 #[.bool false, .slice none 0 0]
    replace p0 := p0.ext ((Below.refl _ _).alloc (Nat.le_refl _) (Obj.cells #[.bool false, .slice none 0 0] 25))
    have hEW : Ext w ((w.alloc (Obj.cells #[.bool true, .slice a n c] 25)).alloc (Obj.cells #[.bool false, .slice none 0 0] 25)) := (((Below.refl _ w).alloc (by simp) _).alloc (by simp) _)
    generalize hgW : (w.alloc (Obj.cells #[.bool true, .slice a n c] 25)).alloc (Obj.cells #[.bool false, .slice none 0 0] 25) = W at *
    clear hgW
    simp only [World.size_alloc] at r
    have p0_ne_r : ¬ w.heap.size = w.heap.size + 1 := by omega
    have r_ne_p0 : ¬ w.heap.size + 1 = w.heap.size := by omega
    replace p0_0 := p0.cell (i := 0) rfl
    replace p0_1 := p0.cell (i := 1) rfl
    replace r_0 := r.cell (i := 0) rfl
    replace r_1 := r.cell (i := 1) rfl
    replace r_f0 := r.free 0
    replace r_f1 := r.free 1
    replace r_lt := r.lt
    have hrB := r_lt
    refine (r1Norm_any B W a n c l (h.ext (Nat.le_refl _) hEW) hn).mono ?_
    rintro e w1 ⟨a3, n3, c3, rfl, h3, hE1⟩
    replace p0 := p0.ext hE1; replace p0_0 := p0.cell (i := 0) rfl; replace p0_1 := p0.cell (i := 1) rfl; replace r := r.ext hE1; replace r_0 := r.cell (i := 0) rfl; replace r_1 := r.cell (i := 1) rfl; replace r_f0 := r.free 0; replace r_f1 := r.free 1; replace r_lt := r.lt
    have HF := Lib.hid (RInt.box (w := w) (w2 := w1) (r := w.heap.size + 1) (u := .bool (decide (0 < n3))) (v := .slice a3 n3 c3) (b := decide (0 < n3)) (s := true) (by omega) hrB (Ext.trans hEW hE1) h3 HS.out rfl)
    clear h h3 hE1 hEW
    go_wp2_with fail
    have r2 : Blk (((w1).setCell ⟨w.heap.size + 1, 0, none⟩ (.bool (decide (0 < n3)))).setCell ⟨w.heap.size + 1, 1, none⟩ (.slice a3 n3 c3)) _ _ #[.bool (decide (0 < n3)), .slice a3 n3 c3] := ((r).set 0 (.bool (decide (0 < n3)))).set 1 (.slice a3 n3 c3)
    have hr0 := r2.cell (i := 0) rfl
    have hr1 := r2.cell (i := 1) rfl
    go_wp2_with fail
    exact bodyPost_ret (v := .agg #[.bool (decide (0 < n3)), .slice a3 n3 c3]) (by simp [results, Tryz.results142, go_sem, hr0, hr1]) rfl HF.out

set_option maxHeartbeats 1000000 in
theorem r3Of_any (n : Int) (w : World) (h1 : -9223372036854775808 ≤ n) (h2 : n ≤ 9223372036854775807) :
    Calls Tryz.prog 75 #[.int .i64 n] w (RInt w n) := by
  by_cases hn : n < 0
  · obtain ⟨m, rfl⟩ : ∃ m : Nat, n = -(m : Int) := ⟨n.natAbs, by omega⟩
    have hm : 0 < m := by omega
    have e1 : IntKind.i64.wrap (-(m : Int) + 1) = -(m : Int) + 1 := (by first | (rw [IntKind.wrap_i64]; omega) | (rw [wrap_u64_eq]; omega))
    have e2 : IntKind.i64.wrap (-(-(m : Int) + 1)) = (m : Int) - 1 := (by first | (rw [IntKind.wrap_i64]; omega) | (rw [wrap_u64_eq]; omega))
    have e3 : IntKind.u64.wrap ((m : Int) - 1) = (m : Int) - 1 := (by first | (rw [IntKind.wrap_i64]; omega) | (rw [wrap_u64_eq]; omega))
    have e4 : IntKind.u64.wrap ((m : Int) - 1 + 1) = (m : Int) := (by first | (rw [IntKind.wrap_i64]; omega) | (rw [wrap_u64_eq]; omega))
    go_enter Tryz.func75, Tryz.ntmps75
    go_wp2_with fail
    have r := Blk.new w 25 #[.bool false, .slice none 0 0]
    have hEW : Ext w (w.alloc (Obj.cells #[.bool false, .slice none 0 0] 25)) := ((Below.refl _ w).alloc (by simp) _)
    generalize hgW : w.alloc (Obj.cells #[.bool false, .slice none 0 0] 25) = W at *
    clear hgW
    replace r_0 := r.cell (i := 0) rfl
    replace r_1 := r.cell (i := 1) rfl
    replace r_f0 := r.free 0
    replace r_f1 := r.free 1
    replace r_lt := r.lt
    have hrB := r_lt
    refine (r1Of_any m W (by omega)).mono ?_
    rintro e w1 ⟨a3, n3, c3, rfl, h3, hE1⟩
    replace r := r.ext hE1; replace r_0 := r.cell (i := 0) rfl; replace r_1 := r.cell (i := 1) rfl; replace r_f0 := r.free 0; replace r_f1 := r.free 1; replace r_lt := r.lt
    have hp : decide (0 < n3) = true := by
      have := h3.len
      rw [length_limbs] at this
      have := nl_pos hm
      exact decide_eq_true (by omega)
    have HF := Lib.hid (RInt.box (w := w) (w2 := w1) (r := w.heap.size) (u := .bool true) (v := .slice a3 n3 c3) (b := true) (s := true) (z := -(m : Int)) (by omega) hrB (Ext.trans hEW hE1) h3 rfl (by rw [hp]; rfl))
    clear h3 hE1 hEW hp
    have r2 : Blk (((w1).setCell ⟨w.heap.size, 0, none⟩ (.bool true)).setCell ⟨w.heap.size, 1, none⟩ (.slice a3 n3 c3)) _ _ #[.bool true, .slice a3 n3 c3] := ((r).set 0 (.bool true)).set 1 (.slice a3 n3 c3)
    have hr0 := r2.cell (i := 0) rfl
    have hr1 := r2.cell (i := 1) rfl
    go_wp2_with fail
    exact bodyPost_ret (v := .agg #[.bool true, .slice a3 n3 c3]) (by simp [results, Tryz.results75, go_sem, hr0, hr1]) rfl HF.out
  · obtain ⟨m, rfl⟩ : ∃ m : Nat, n = (m : Int) := ⟨n.natAbs, by omega⟩
    have e3 : IntKind.u64.wrap (m : Int) = (m : Int) := by rw [wrap_u64_eq]; omega
    go_enter Tryz.func75, Tryz.ntmps75
    go_wp2_with fail
    have r := Blk.new w 25 #[.bool false, .slice none 0 0]
    have hEW : Ext w (w.alloc (Obj.cells #[.bool false, .slice none 0 0] 25)) := ((Below.refl _ w).alloc (by simp) _)
    generalize hgW : w.alloc (Obj.cells #[.bool false, .slice none 0 0] 25) = W at *
    clear hgW
    replace r_0 := r.cell (i := 0) rfl
    replace r_1 := r.cell (i := 1) rfl
    replace r_f0 := r.free 0
    replace r_f1 := r.free 1
    replace r_lt := r.lt
    have hrB := r_lt
    refine (r1Of_any m W (by omega)).mono ?_
    rintro e w1 ⟨a3, n3, c3, rfl, h3, hE1⟩
    replace r := r.ext hE1; replace r_0 := r.cell (i := 0) rfl; replace r_1 := r.cell (i := 1) rfl; replace r_f0 := r.free 0; replace r_f1 := r.free 1; replace r_lt := r.lt
    have HF := Lib.hid (RInt.box (w := w) (w2 := w1) (r := w.heap.size) (u := .bool false) (v := .slice a3 n3 c3) (b := false) (s := false) (z := (m : Int)) (by omega) hrB (Ext.trans hEW hE1) h3 rfl rfl)
    clear h3 hE1 hEW
    have r2 : Blk (((w1).setCell ⟨w.heap.size, 0, none⟩ (.bool false)).setCell ⟨w.heap.size, 1, none⟩ (.slice a3 n3 c3)) _ _ #[.bool false, .slice a3 n3 c3] := ((r).set 0 (.bool false)).set 1 (.slice a3 n3 c3)
    have hr0 := r2.cell (i := 0) rfl
    have hr1 := r2.cell (i := 1) rfl
    go_wp2_with fail
    exact bodyPost_ret (v := .agg #[.bool false, .slice a3 n3 c3]) (by simp [results, Tryz.results75, go_sem, hr0, hr1]) rfl HF.out

set_option maxHeartbeats 1000000 in
theorem r3Sign_z (b : Bool) (B : Nat) (w : World) (a : Option Addr) (n c : Nat) (l : Nt) (z : Int) (h : NatS B w a n c l) (hz : Hid (ival b l = z)) :
    Calls Tryz.prog 60 #[.agg #[.bool b, .slice a n c]] w fun e w' => e = .returned (.int .i64 z.sign) ∧ Ext w w' := by
  have HS : Hid (z.sign = if val l = 0 then 0 else if b then -1 else 1) := Lib.hid (by rw [← hz.out]; exact sign_of b l)
  generalize z.sign = sg at *
  go_enter Tryz.func60, Tryz.ntmps60
  go_wp2_with fail
  have p0 := Blk.new w 25 #[.bool b, .slice a n c]
  have hEW : Ext w (w.alloc (Obj.cells #[.bool b, .slice a n c] 25)) := ((Below.refl _ w).alloc (by simp) _)
  generalize hgW : w.alloc (Obj.cells #[.bool b, .slice a n c] 25) = W at *
  clear hgW
  replace p0_0 := p0.cell (i := 0) rfl
  replace p0_1 := p0.cell (i := 1) rfl
  refine (r1Zero_any B W a n c l (h.ext (Nat.le_refl _) hEW)).mono ?_
  rintro e w1 ⟨rfl, rfl⟩
  have HE := Lib.hid hEW
  clear hEW h
  by_cases h0 : val l = 0
  · have hz := HS.out
    rw [if_pos h0] at hz
    subst hz
    rw [decide_eq_true h0]
    clear HS h0
    go_wp2_with fail
    go_ret
    exact ⟨rfl, HE.out⟩
  · have hz := HS.out
    rw [if_neg h0] at hz
    rw [decide_eq_false h0]
    clear HS h0
    cases b
    all_goals
      simp at hz
      subst hz
      go_wp2_with fail
      go_ret
      exact ⟨rfl, HE.out⟩

set_option maxHeartbeats 1000000 in
theorem r3Neg_z (b : Bool) (B : Nat) (w : World) (a : Option Addr) (n c : Nat) (l : Nt) (z : Int) (h : NatS B w a n c l) (hn : n ≤ 17592186044416) (hz : Hid (ival b l = z)) :
    Calls Tryz.prog 124 #[.agg #[.bool b, .slice a n c]] w (RInt w (-z)) := by
  have HN : Hid (ival (!b) l = -z) := Lib.hid (by rw [← hz.out]; unfold ival; cases b <;> simp)
  go_enter Tryz.func124, Tryz.ntmps124
  go_wp2_with fail
  have p0 := Blk.new w 25 #[.bool b, .slice a n c]
  have r := Blk.new (w.alloc (Obj.cells #[.bool b, .slice a n c] 25)) 25 #[.bool false, .slice none 0 0]
  replace p0 := p0.ext ((Below.refl _ _).alloc (Nat.le_refl _) (Obj.cells #[.bool false, .slice none 0 0] 25))
  have hEW : Ext w ((w.alloc (Obj.cells #[.bool b, .slice a n c] 25)).alloc (Obj.cells #[.bool false, .slice none 0 0] 25)) := (((Below.refl _ w).alloc (by simp) _).alloc (by simp) _)
  generalize hgW : (w.alloc (Obj.cells #[.bool b, .slice a n c] 25)).alloc (Obj.cells #[.bool false, .slice none 0 0] 25) = W at *
  clear hgW
  simp only [World.size_alloc] at r
  have p0_ne_r : ¬ w.heap.size = w.heap.size + 1 := by omega
  have r_ne_p0 : ¬ w.heap.size + 1 = w.heap.size := by omega
  replace p0_0 := p0.cell (i := 0) rfl
  replace p0_1 := p0.cell (i := 1) rfl
  replace r_0 := r.cell (i := 0) rfl
  replace r_1 := r.cell (i := 1) rfl
  replace r_f0 := r.free 0
  replace r_f1 := r.free 1
  replace r_lt := r.lt
  have hrB := r_lt
  refine (r3Norm_z (!b) B W a n c l (-z) (h.ext (Nat.le_refl _) hEW) hn HN).mono ?_
  rintro e w1 ⟨a3, n3, c3, rfl, h3, hE1⟩
  replace p0 := p0.ext hE1; replace p0_0 := p0.cell (i := 0) rfl; replace p0_1 := p0.cell (i := 1) rfl; replace r := r.ext hE1; replace r_0 := r.cell (i := 0) rfl; replace r_1 := r.cell (i := 1) rfl; replace r_f0 := r.free 0; replace r_f1 := r.free 1; replace r_lt := r.lt
  have HF := Lib.hid (RInt.boxN (w := w) (r := w.heap.size + 1) (u1 := .bool (decide (-z < 0))) (u2 := .slice a3 n3 c3) (by omega) hrB (Ext.trans hEW hE1) ⟨a3, n3, c3, rfl, h3⟩)
  clear h h3 hE1 hEW
  generalize -z = zz at *
  have r2 : Blk (((w1).setCell ⟨w.heap.size + 1, 0, none⟩ (.bool (decide (zz < 0)))).setCell ⟨w.heap.size + 1, 1, none⟩ (.slice a3 n3 c3)) _ _ #[.bool (decide (zz < 0)), .slice a3 n3 c3] := ((r).set 0 (.bool (decide (zz < 0)))).set 1 (.slice a3 n3 c3)
  have hr0 := r2.cell (i := 0) rfl
  have hr1 := r2.cell (i := 1) rfl
  go_wp2_with fail
  exact bodyPost_ret (v := .agg #[.bool (decide (zz < 0)), .slice a3 n3 c3]) (by simp [results, Tryz.results124, go_sem, hr0, hr1]) rfl HF.out

set_option maxHeartbeats 1000000 in
theorem r3Abs_z (b : Bool) (B : Nat) (w : World) (a : Option Addr) (n c : Nat) (l : Nt) (z : Int) (h : NatS B w a n c l) (hn : n ≤ 17592186044416) (hz : Hid (ival b l = z)) :
    Calls Tryz.prog 153 #[.agg #[.bool b, .slice a n c]] w (RInt w z.natAbs) := by
  have hv : Hid (((z.natAbs : Nat) : Int) = ((val l : Nat) : Int)) := Lib.hid (by rw [ival_neg hz.out])
  go_enter Tryz.func153, Tryz.ntmps153
  go_wp2_with fail
  have p0 := Blk.new w 25 #[.bool b, .slice a n c]
  have r := Blk.new (w.alloc (Obj.cells #[.bool b, .slice a n c] 25)) 25 #[.bool false, .slice none 0 0]
  replace p0 := p0.ext ((Below.refl _ _).alloc (Nat.le_refl _) (Obj.cells #[.bool false, .slice none 0 0] 25))
  have hEW : Ext w ((w.alloc (Obj.cells #[.bool b, .slice a n c] 25)).alloc (Obj.cells #[.bool false, .slice none 0 0] 25)) := (((Below.refl _ w).alloc (by simp) _).alloc (by simp) _)
  generalize hgW : (w.alloc (Obj.cells #[.bool b, .slice a n c] 25)).alloc (Obj.cells #[.bool false, .slice none 0 0] 25) = W at *
  clear hgW
  simp only [World.size_alloc] at r
  have p0_ne_r : ¬ w.heap.size = w.heap.size + 1 := by omega
  have r_ne_p0 : ¬ w.heap.size + 1 = w.heap.size := by omega
  replace p0_0 := p0.cell (i := 0) rfl
  replace p0_1 := p0.cell (i := 1) rfl
  replace r_0 := r.cell (i := 0) rfl
  replace r_1 := r.cell (i := 1) rfl
  replace r_f0 := r.free 0
  replace r_f1 := r.free 1
  replace r_lt := r.lt
  have hrB := r_lt
  refine (r1Norm_any B W a n c l (h.ext (Nat.le_refl _) hEW) hn).mono ?_
  rintro e w1 ⟨a3, n3, c3, rfl, h3, hE1⟩
  replace p0 := p0.ext hE1; replace p0_0 := p0.cell (i := 0) rfl; replace p0_1 := p0.cell (i := 1) rfl; replace r := r.ext hE1; replace r_0 := r.cell (i := 0) rfl; replace r_1 := r.cell (i := 1) rfl; replace r_f0 := r.free 0; replace r_f1 := r.free 1; replace r_lt := r.lt
  have HF := Lib.hid (RInt.box (w := w) (w2 := w1) (r := w.heap.size + 1) (u := .bool false) (v := .slice a3 n3 c3) (b := false) (s := false) (by omega) hrB (Ext.trans hEW hE1) h3 hv.out rfl)
  clear h h3 hE1 hEW
  have r2 : Blk (((w1).setCell ⟨w.heap.size + 1, 0, none⟩ (.bool false)).setCell ⟨w.heap.size + 1, 1, none⟩ (.slice a3 n3 c3)) _ _ #[.bool false, .slice a3 n3 c3] := ((r).set 0 (.bool false)).set 1 (.slice a3 n3 c3)
  have hr0 := r2.cell (i := 0) rfl
  have hr1 := r2.cell (i := 1) rfl
  go_wp2_with fail
  exact bodyPost_ret (v := .agg #[.bool false, .slice a3 n3 c3]) (by simp [results, Tryz.results153, go_sem, hr0, hr1]) rfl HF.out

set_option maxHeartbeats 1000000 in
theorem r3Mul_z (b b2 : Bool) (B : Nat) (w : World) (a a2 : Option Addr) (n c n2 c2 : Nat) (l l2 : Nt) (z z2 : Int) (h : NatS B w a n c l) (h2 : NatS B w a2 n2 c2 l2) (hn : n ≤ 4398046511104) (hn2 : n2 ≤ 4398046511104) (hz : Hid (ival b l = z)) (hz2 : Hid (ival b2 l2 = z2)) :
    Calls Tryz.prog 130 #[.agg #[.bool b, .slice a n c], .agg #[.bool b2, .slice a2 n2 c2]] w (RInt w (z * z2)) := by
  have HP : Hid (ival (!b == b2) (limbs (val l * val l2)) = z * z2) := Lib.hid (by rw [← hz.out, ← hz2.out, mul_sgn]; unfold ival; rw [val_limbs])
  go_enter Tryz.func130, Tryz.ntmps130
  go_wp2_with fail
  have p0 := Blk.new w 25 #[.bool b, .slice a n c]
  have p1 := Blk.new (w.alloc (Obj.cells #[.bool b, .slice a n c] 25)) 25 #[.bool b2, .slice a2 n2 c2]
  replace p0 := p0.ext ((Below.refl _ _).alloc (Nat.le_refl _) (Obj.cells #[.bool b2, .slice a2 n2 c2] 25))
  have r := Blk.new ((w.alloc (Obj.cells #[.bool b, .slice a n c] 25)).alloc (Obj.cells #[.bool b2, .slice a2 n2 c2] 25)) 25 #[.bool false, .slice none 0 0]
  replace p0 := p0.ext ((Below.refl _ _).alloc (Nat.le_refl _) (Obj.cells #[.bool false, .slice none 0 0] 25))
  replace p1 := p1.ext ((Below.refl _ _).alloc (Nat.le_refl _) (Obj.cells #[.bool false, .slice none 0 0] 25))
  have hEW : Ext w (((w.alloc (Obj.cells #[.bool b, .slice a n c] 25)).alloc (Obj.cells #[.bool b2, .slice a2 n2 c2] 25)).alloc (Obj.cells #[.bool false, .slice none 0 0] 25)) := ((((Below.refl _ w).alloc (by simp) _).alloc (by simp) _).alloc (by simp; omega) _)
  generalize hgW : ((w.alloc (Obj.cells #[.bool b, .slice a n c] 25)).alloc (Obj.cells #[.bool b2, .slice a2 n2 c2] 25)).alloc (Obj.cells #[.bool false, .slice none 0 0] 25) = W at *
  clear hgW
  simp only [World.size_alloc] at p1 r
  have p0_ne_p1 : ¬ w.heap.size = w.heap.size + 1 := by omega
  have p0_ne_r : ¬ w.heap.size = w.heap.size + 1 + 1 := by omega
  have p1_ne_p0 : ¬ w.heap.size + 1 = w.heap.size := by omega
  have p1_ne_r : ¬ w.heap.size + 1 = w.heap.size + 1 + 1 := by omega
  have r_ne_p0 : ¬ w.heap.size + 1 + 1 = w.heap.size := by omega
  have r_ne_p1 : ¬ w.heap.size + 1 + 1 = w.heap.size + 1 := by omega
  replace p0_0 := p0.cell (i := 0) rfl
  replace p0_1 := p0.cell (i := 1) rfl
  replace p1_0 := p1.cell (i := 0) rfl
  replace p1_1 := p1.cell (i := 1) rfl
  replace r_0 := r.cell (i := 0) rfl
  replace r_1 := r.cell (i := 1) rfl
  replace r_f0 := r.free 0
  replace r_f1 := r.free 1
  replace r_lt := r.lt
  have hd : Ext W W.drew := (Below.refl _ _).drew
  have hrB := Nat.lt_of_lt_of_le r_lt hd.size
  have h1 := (h.ext (Nat.le_refl _) hEW).ext (Nat.le_refl _) hd
  have h2 := (h2.ext (Nat.le_refl _) hEW).ext (Nat.le_refl _) hd
  go_region_held3 (fun w' => w'.cell? ⟨w.heap.size, 0, none⟩ = some (.bool b) ∧ w'.cell? ⟨w.heap.size, 1, none⟩ = some (.slice a n c) ∧ w'.cell? ⟨w.heap.size + 1, 0, none⟩ = some (.bool b2) ∧ w'.cell? ⟨w.heap.size + 1, 1, none⟩ = some (.slice a2 n2 c2)) (first | exact ⟨p0_0, p0_1, p1_0, p1_1⟩ | go_keep)
    (first | (go_at_call 152; refine (r1Mul_any B _ _ _ _ _ _ _ l l2 h1 h2 hn hn2 _ _ (Lib.hid rfl) (Lib.hid rfl)).mono ?_; rintro e w1 ⟨a3, n3, c3, rfl, h3, hE1⟩; replace hE1 : Ext W w1 := Ext.trans hd hE1; have hn3 : n3 ≤ n + n2 := (by have q1 := h3.len; rw [length_limbs] at q1; have q2 := nl_mul (val l) (val l2); have q3 := nl_val (NatS.small h1); have q4 := nl_val (NatS.small h2); have q5 := h1.len; have q6 := h2.len; omega); replace p0 := p0.ext hE1; replace p0_0 := p0.cell (i := 0) rfl; replace p0_1 := p0.cell (i := 1) rfl; replace p1 := p1.ext hE1; replace p1_0 := p1.cell (i := 0) rfl; replace p1_1 := p1.cell (i := 1) rfl; replace r := r.ext hE1; replace r_0 := r.cell (i := 0) rfl; replace r_1 := r.cell (i := 1) rfl; replace r_f0 := r.free 0; replace r_f1 := r.free 1; replace r_lt := r.lt)
           | (go_at_call 142; refine (r3Norm_z _ _ _ _ _ _ _ _ h3 (by omega) HP).mono ?_; rintro e w2 ⟨a4, n4, c4, rfl, h4, hE2⟩; replace p0 := p0.ext hE2; replace p0_0 := p0.cell (i := 0) rfl; replace p0_1 := p0.cell (i := 1) rfl; replace p1 := p1.ext hE2; replace p1_0 := p1.cell (i := 0) rfl; replace p1_1 := p1.cell (i := 1) rfl; replace r := r.ext hE2; replace r_0 := r.cell (i := 0) rfl; replace r_1 := r.cell (i := 1) rfl; replace r_f0 := r.free 0; replace r_f1 := r.free 1; replace r_lt := r.lt))
  have HF := Lib.hid (RInt.boxN (w := w) (r := w.heap.size + 1 + 1) (u1 := .bool (decide (z * z2 < 0))) (u2 := .slice a4 n4 c4) (by omega) hrB (Ext.trans hEW (Ext.trans hE1 hE2)) ⟨a4, n4, c4, rfl, h4.mono hE1.size (Kept.refl _ _)⟩)
  clear h1 h2 hE1 hE2 h3 hEW h4 hd
  generalize z * z2 = zz at *
  have r2 : Blk (((w2).setCell ⟨w.heap.size + 1 + 1, 0, none⟩ (.bool (decide (zz < 0)))).setCell ⟨w.heap.size + 1 + 1, 1, none⟩ (.slice a4 n4 c4)) _ _ #[.bool (decide (zz < 0)), .slice a4 n4 c4] := ((r).set 0 (.bool (decide (zz < 0)))).set 1 (.slice a4 n4 c4)
  have hr0 := r2.cell (i := 0) rfl
  have hr1 := r2.cell (i := 1) rfl
  go_wp2_with fail
  exact bodyPost_ret (v := .agg #[.bool (decide (zz < 0)), .slice a4 n4 c4]) (by simp [results, Tryz.results130, go_sem, hr0, hr1]) rfl HF.out

set_option maxHeartbeats 1000000 in
theorem r3Gcd_z (b b2 : Bool) (B : Nat) (w : World) (a a2 : Option Addr) (n c n2 c2 : Nat) (l l2 : Nt) (z z2 : Int) (h : NatS B w a n c l) (h2 : NatS B w a2 n2 c2 l2) (hn : n ≤ 549755813888) (hn2 : n2 ≤ 549755813888) (hz : Hid (ival b l = z)) (hz2 : Hid (ival b2 l2 = z2)) :
    Calls Tryz.prog 125 #[.agg #[.bool b, .slice a n c], .agg #[.bool b2, .slice a2 n2 c2]] w (RInt w (Int.gcd z z2)) := by
  have HP : Hid (((Int.gcd z z2 : Nat) : Int) = ((Nat.gcd (val l) (val l2) : Nat) : Int)) := Lib.hid (by rw [Int.gcd, ival_neg hz.out, ival_neg hz2.out])
  go_enter Tryz.func125, Tryz.ntmps125
  go_wp2_with fail
  have p0 := Blk.new w 25 #[.bool b, .slice a n c]
  have p1 := Blk.new (w.alloc (Obj.cells #[.bool b, .slice a n c] 25)) 25 #[.bool b2, .slice a2 n2 c2]
  replace p0 := p0.ext ((Below.refl _ _).alloc (Nat.le_refl _) (Obj.cells #[.bool b2, .slice a2 n2 c2] 25))
  have r := Blk.new ((w.alloc (Obj.cells #[.bool b, .slice a n c] 25)).alloc (Obj.cells #[.bool b2, .slice a2 n2 c2] 25)) 25 #[.bool false, .slice none 0 0]
  replace p0 := p0.ext ((Below.refl _ _).alloc (Nat.le_refl _) (Obj.cells #[.bool false, .slice none 0 0] 25))
  replace p1 := p1.ext ((Below.refl _ _).alloc (Nat.le_refl _) (Obj.cells #[.bool false, .slice none 0 0] 25))
  have hEW : Ext w (((w.alloc (Obj.cells #[.bool b, .slice a n c] 25)).alloc (Obj.cells #[.bool b2, .slice a2 n2 c2] 25)).alloc (Obj.cells #[.bool false, .slice none 0 0] 25)) := ((((Below.refl _ w).alloc (by simp) _).alloc (by simp) _).alloc (by simp; omega) _)
  generalize hgW : ((w.alloc (Obj.cells #[.bool b, .slice a n c] 25)).alloc (Obj.cells #[.bool b2, .slice a2 n2 c2] 25)).alloc (Obj.cells #[.bool false, .slice none 0 0] 25) = W at *
  clear hgW
  simp only [World.size_alloc] at p1 r
  have p0_ne_p1 : ¬ w.heap.size = w.heap.size + 1 := by omega
  have p0_ne_r : ¬ w.heap.size = w.heap.size + 1 + 1 := by omega
  have p1_ne_p0 : ¬ w.heap.size + 1 = w.heap.size := by omega
  have p1_ne_r : ¬ w.heap.size + 1 = w.heap.size + 1 + 1 := by omega
  have r_ne_p0 : ¬ w.heap.size + 1 + 1 = w.heap.size := by omega
  have r_ne_p1 : ¬ w.heap.size + 1 + 1 = w.heap.size + 1 := by omega
  replace p0_0 := p0.cell (i := 0) rfl
  replace p0_1 := p0.cell (i := 1) rfl
  replace p1_0 := p1.cell (i := 0) rfl
  replace p1_1 := p1.cell (i := 1) rfl
  replace r_0 := r.cell (i := 0) rfl
  replace r_1 := r.cell (i := 1) rfl
  replace r_f0 := r.free 0
  replace r_f1 := r.free 1
  replace r_lt := r.lt
  have hrB := r_lt
  refine (r1Gcd_any B W _ _ _ _ _ _ l l2 (h.ext (Nat.le_refl _) hEW) (h2.ext (Nat.le_refl _) hEW) hn hn2 _ _ (Lib.hid rfl) (Lib.hid rfl)).mono ?_
  rintro e w1 ⟨a3, n3, c3, rfl, h3, hE1⟩
  replace p0 := p0.ext hE1; replace p0_0 := p0.cell (i := 0) rfl; replace p0_1 := p0.cell (i := 1) rfl; replace p1 := p1.ext hE1; replace p1_0 := p1.cell (i := 0) rfl; replace p1_1 := p1.cell (i := 1) rfl; replace r := r.ext hE1; replace r_0 := r.cell (i := 0) rfl; replace r_1 := r.cell (i := 1) rfl; replace r_f0 := r.free 0; replace r_f1 := r.free 1; replace r_lt := r.lt
  have HF := Lib.hid (RInt.box (w := w) (w2 := w1) (r := w.heap.size + 1 + 1) (u := .bool false) (v := .slice a3 n3 c3) (b := false) (s := false) (by omega) hrB (Ext.trans hEW hE1) h3 HP.out rfl)
  clear h h2 h3 hE1 hEW
  have r2 : Blk (((w1).setCell ⟨w.heap.size + 1 + 1, 0, none⟩ (.bool false)).setCell ⟨w.heap.size + 1 + 1, 1, none⟩ (.slice a3 n3 c3)) _ _ #[.bool false, .slice a3 n3 c3] := ((r).set 0 (.bool false)).set 1 (.slice a3 n3 c3)
  have hr0 := r2.cell (i := 0) rfl
  have hr1 := r2.cell (i := 1) rfl
  go_wp2_with fail
  exact bodyPost_ret (v := .agg #[.bool false, .slice a3 n3 c3]) (by simp [results, Tryz.results125, go_sem, hr0, hr1]) rfl HF.out

set_option maxHeartbeats 1000000 in
theorem r3Same_any (b b2 : Bool) (B : Nat) (w : World) (a a2 : Option Addr) (n c n2 c2 : Nat) (l l2 : Nt) (h : NatS B w a n c l) (h2 : NatS B w a2 n2 c2 l2) :
    Calls Tryz.prog 62 #[.agg #[.bool b, .slice a n c], .agg #[.bool b2, .slice a2 n2 c2]] w fun e w' => e = .returned (.bool (decide ((b, l) = (b2, l2)))) ∧ Ext w w' := by
  obtain ⟨r, hr⟩ : ∃ r, r = decide ((b, l) = (b2, l2)) := ⟨_, rfl⟩
  rw [← hr]
  have HR := Lib.hid hr
  clear hr
  by_cases hb : b = b2
  · subst hb
    go_enter Tryz.func62, Tryz.ntmps62
    go_wp2_with fail
    have p0 := Blk.new w 25 #[.bool b, .slice a n c]
    have p1 := Blk.new (w.alloc (Obj.cells #[.bool b, .slice a n c] 25)) 25 #[.bool b, .slice a2 n2 c2]
    replace p0 := p0.ext ((Below.refl _ _).alloc (Nat.le_refl _) (Obj.cells #[.bool b, .slice a2 n2 c2] 25))
    have hEW : Ext w ((w.alloc (Obj.cells #[.bool b, .slice a n c] 25)).alloc (Obj.cells #[.bool b, .slice a2 n2 c2] 25)) := (((Below.refl _ w).alloc (by simp) _).alloc (by simp) _)
    generalize hgW : (w.alloc (Obj.cells #[.bool b, .slice a n c] 25)).alloc (Obj.cells #[.bool b, .slice a2 n2 c2] 25) = W at *
    clear hgW
    simp only [World.size_alloc] at p1
    have p0_ne_p1 : ¬ w.heap.size = w.heap.size + 1 := by omega
    have p1_ne_p0 : ¬ w.heap.size + 1 = w.heap.size := by omega
    replace p0_0 := p0.cell (i := 0) rfl
    replace p0_1 := p0.cell (i := 1) rfl
    replace p1_0 := p1.cell (i := 0) rfl
    replace p1_1 := p1.cell (i := 1) rfl
    refine (r1Same_any B W a a2 n c n2 c2 l l2 (h.ext (Nat.le_refl _) hEW) (h2.ext (Nat.le_refl _) hEW)).mono ?_
    rintro e w1 ⟨rfl, hE1⟩
    replace p0 := p0.ext hE1; replace p0_0 := p0.cell (i := 0) rfl; replace p0_1 := p0.cell (i := 1) rfl; replace p1 := p1.ext hE1; replace p1_0 := p1.cell (i := 0) rfl; replace p1_1 := p1.cell (i := 1) rfl
    have hrl : decide (l = l2) = r := by rw [HR.out]; simp
    rw [hrl]
    have HE := Lib.hid (Ext.trans hEW hE1)
    clear hE1 hEW h h2 hrl
    go_wp2_with fail
    go_ret
    exact ⟨rfl, HE.out⟩
  · have hrf : r = false := by rw [HR.out]; simp [hb]
    subst hrf
    have hbb : (b == b2) = false := by simpa using hb
    clear hb HR
    go_enter Tryz.func62, Tryz.ntmps62
    go_wp2_with fail
    have p0 := Blk.new w 25 #[.bool b, .slice a n c]
    have p1 := Blk.new (w.alloc (Obj.cells #[.bool b, .slice a n c] 25)) 25 #[.bool b2, .slice a2 n2 c2]
    replace p0 := p0.ext ((Below.refl _ _).alloc (Nat.le_refl _) (Obj.cells #[.bool b2, .slice a2 n2 c2] 25))
    have hEW : Ext w ((w.alloc (Obj.cells #[.bool b, .slice a n c] 25)).alloc (Obj.cells #[.bool b2, .slice a2 n2 c2] 25)) := (((Below.refl _ w).alloc (by simp) _).alloc (by simp) _)
    generalize hgW : (w.alloc (Obj.cells #[.bool b, .slice a n c] 25)).alloc (Obj.cells #[.bool b2, .slice a2 n2 c2] 25) = W at *
    clear hgW
    simp only [World.size_alloc] at p1
    have p0_ne_p1 : ¬ w.heap.size = w.heap.size + 1 := by omega
    have p1_ne_p0 : ¬ w.heap.size + 1 = w.heap.size := by omega
    replace p0_0 := p0.cell (i := 0) rfl
    replace p0_1 := p0.cell (i := 1) rfl
    replace p1_0 := p1.cell (i := 0) rfl
    replace p1_1 := p1.cell (i := 1) rfl
    have HE := Lib.hid hEW
    clear hEW h h2
    go_wp2_with fail
    go_ret
    exact ⟨rfl, HE.out⟩
end Go.Proofs.YtbhenelehhiakaaGreat
