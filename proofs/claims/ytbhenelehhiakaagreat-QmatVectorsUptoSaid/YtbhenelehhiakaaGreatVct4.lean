/-
  A part.
-/
import Derived.Test.YtbhenelehhiakaaGreatVct3
import Derived.Deep.DeepCutAuto
import Derived.Deep.CutRange
set_option linter.unusedVariables false
set_option linter.unusedSimpArgs false
namespace Go.Proofs.YtbhenelehhiakaaGreat
open Go.RowKit
theorem Blk.set_ne {w : World} {b b' : Nat} {t : TypeId} {c : Array Value} (h : Blk w b t c) (i : Nat) (v : Value) (hb : b ≠ b') : Blk (w.setCell ⟨b', i, none⟩ v) b t c := (Below.heap_setCell w ⟨b', i, none⟩ v b hb).trans h
def IntN (B : Nat) (w : World) (v : Value) (z : Int) : Prop := ∃ a n c, v = .agg #[.bool (decide (z < 0)), .slice a n c] ∧ NatS B w a n c (limbs z.natAbs)
theorem IntN.mono {B B' : Nat} {w w' : World} {v : Value} {z : Int} (h : IntN B w v z) (hB : B' ≤ B) (hk : Kept B w w') : IntN B' w' v z := by
 obtain ⟨a, n, c, h1, h2⟩ := h
 exact ⟨a, n, c, h1, h2.mono hB hk⟩
theorem IntN.mk {w : World} {B m n c : Nat} {a : Option Addr} {b s : Bool} {z : Int} (h : NatS B w a n c (limbs m)) (hz : z = if s then -(m : Int) else (m : Int)) (hb : b = (s && decide (0 < n))) : IntN B w (.agg #[.bool b, .slice a n c]) z := by
 subst hz; subst hb
 exact ⟨a, n, c, by rw [ival_sgn s m n h.len], by rw [ival_of]; exact h⟩
set_option maxHeartbeats 1000000 in
theorem zintOf_any (n : Int) (w : World) (h1 : -9223372036854775808 ≤ n) (h2 : n ≤ 9223372036854775807) :
  Calls Tryz.prog 65 #[.int .i64 n] w (RInt w n) := by
 by_cases hn : n < 0
 ·obtain ⟨m, rfl⟩ : ∃ m : Nat, n = -(m : Int) := ⟨n.natAbs, by omega⟩
  have hm : 0 < m := by omega
  have e1 : IntKind.i64.wrap (-(m : Int) + 1) = -(m : Int) + 1 := (by first | (rw [IntKind.wrap_i64]; omega) | (rw [wrap_u64_eq]; omega))
  have e2 : IntKind.i64.wrap (-(-(m : Int) + 1)) = (m : Int) - 1 := (by first | (rw [IntKind.wrap_i64]; omega) | (rw [wrap_u64_eq]; omega))
  have e3 : IntKind.u64.wrap ((m : Int) - 1) = (m : Int) - 1 := (by first | (rw [IntKind.wrap_i64]; omega) | (rw [wrap_u64_eq]; omega))
  have e4 : IntKind.u64.wrap ((m : Int) - 1 + 1) = (m : Int) := (by first | (rw [IntKind.wrap_i64]; omega) | (rw [wrap_u64_eq]; omega))
  go_enter Tryz.func65, Tryz.ntmps65
  go_wp2_with fail
  have r := Blk.new w 25 #[.bool false, .slice none 0 0]
  have hEW : Ext w (w.alloc (Obj.cells #[.bool false, .slice none 0 0] 25)) := ((Below.refl _ w).alloc (by simp) _)
  generalize hgW : w.alloc (Obj.cells #[.bool false, .slice none 0 0] 25) = W at *
  clear hgW
  replace r_0 := r.cell (i := 0) rfl
  replace r_1 := r.cell (i := 1) rfl
  replace r_f0 := r.free 0
  replace r_f1 := r.free 1
  replace r_lt := r.lt
  have hrB := r_lt
  refine (natOf_any m W (by omega)).mono ?_
  rintro e w1 ⟨a3, n3, c3, rfl, h3, hE1⟩
  replace r := r.ext hE1; replace r_0 := r.cell (i := 0) rfl; replace r_1 := r.cell (i := 1) rfl; replace r_f0 := r.free 0; replace r_f1 := r.free 1; replace r_lt := r.lt
  go_wp2_with fail
  refine (make1_any _ _ _ _ _).mono ?_
  rintro e w2 ⟨rfl, hE2⟩
  replace r := r.ext hE2; replace r_0 := r.cell (i := 0) rfl; replace r_1 := r.cell (i := 1) rfl; replace r_f0 := r.free 0; replace r_f1 := r.free 1; replace r_lt := r.lt
  have HF := Lib.hid (RInt.box (w := w) (w2 := w2) (r := w.heap.size) (u := .bool (true && decide (0 < n3))) (v := .slice a3 n3 c3) (by omega) hrB (Ext.trans hEW (Ext.trans hE1 hE2)) (h3.ext (Nat.le_refl _) hE2) (s := true) (z := -(m : Int)) rfl rfl)
  clear h3 hE1 hE2 hEW
  simp only [Bool.true_and] at *
  have r2 : Blk (((w2).setCell ⟨w.heap.size, 0, none⟩ (.bool (decide (0 < n3)))).setCell ⟨w.heap.size, 1, none⟩ (.slice a3 n3 c3)) _ _ #[.bool (decide (0 < n3)), .slice a3 n3 c3] := ((r).set 0 (.bool (decide (0 < n3)))).set 1 (.slice a3 n3 c3)
  have hr0 := r2.cell (i := 0) rfl
  have hr1 := r2.cell (i := 1) rfl
  go_wp2_with fail
  exact bodyPost_ret (v := .agg #[.bool (decide (0 < n3)), .slice a3 n3 c3]) (by simp [results, Tryz.results65, go_sem, hr0, hr1]) rfl HF.out
 ·obtain ⟨m, rfl⟩ : ∃ m : Nat, n = (m : Int) := ⟨n.natAbs, by omega⟩
  have e3 : IntKind.u64.wrap (m : Int) = (m : Int) := by rw [wrap_u64_eq]; omega
  go_enter Tryz.func65, Tryz.ntmps65
  go_wp2_with fail
  have r := Blk.new w 25 #[.bool false, .slice none 0 0]
  have hEW : Ext w (w.alloc (Obj.cells #[.bool false, .slice none 0 0] 25)) := ((Below.refl _ w).alloc (by simp) _)
  generalize hgW : w.alloc (Obj.cells #[.bool false, .slice none 0 0] 25) = W at *
  clear hgW
  replace r_0 := r.cell (i := 0) rfl
  replace r_1 := r.cell (i := 1) rfl
  replace r_f0 := r.free 0
  replace r_f1 := r.free 1
  replace r_lt := r.lt
  have hrB := r_lt
  refine (natOf_any m W (by omega)).mono ?_
  rintro e w1 ⟨a3, n3, c3, rfl, h3, hE1⟩
  replace r := r.ext hE1; replace r_0 := r.cell (i := 0) rfl; replace r_1 := r.cell (i := 1) rfl; replace r_f0 := r.free 0; replace r_f1 := r.free 1; replace r_lt := r.lt
  go_wp2_with fail
  refine (make1_any _ _ _ _ _).mono ?_
  rintro e w2 ⟨rfl, hE2⟩
  replace r := r.ext hE2; replace r_0 := r.cell (i := 0) rfl; replace r_1 := r.cell (i := 1) rfl; replace r_f0 := r.free 0; replace r_f1 := r.free 1; replace r_lt := r.lt
  have HF := Lib.hid (RInt.box (w := w) (w2 := w2) (r := w.heap.size) (u := .bool (false && decide (0 < n3))) (v := .slice a3 n3 c3) (by omega) hrB (Ext.trans hEW (Ext.trans hE1 hE2)) (h3.ext (Nat.le_refl _) hE2) (s := false) (z := (m : Int)) rfl rfl)
  clear h3 hE1 hE2 hEW
  simp only [Bool.false_and] at *
  have r2 : Blk (((w2).setCell ⟨w.heap.size, 0, none⟩ (.bool false)).setCell ⟨w.heap.size, 1, none⟩ (.slice a3 n3 c3)) _ _ #[.bool false, .slice a3 n3 c3] := ((r).set 0 (.bool false)).set 1 (.slice a3 n3 c3)
  have hr0 := r2.cell (i := 0) rfl
  have hr1 := r2.cell (i := 1) rfl
  go_wp2_with fail
  exact bodyPost_ret (v := .agg #[.bool false, .slice a3 n3 c3]) (by simp [results, Tryz.results65, go_sem, hr0, hr1]) rfl HF.out
theorem tdiv_sgn (b b2 : Bool) (l l2 : Nt) : (ival b l).tdiv (ival b2 l2) = if (!b == b2) then -((val l / val l2 : Nat) : Int) else ((val l / val l2 : Nat) : Int) := by
 cases b <;> cases b2 <;> simp [ival, Int.neg_tdiv, Int.tdiv_neg]
theorem tmod_sgn (b b2 : Bool) (l l2 : Nt) : (ival b l).tmod (ival b2 l2) = if b then -((val l % val l2 : Nat) : Int) else ((val l % val l2 : Nat) : Int) := by
 cases b <;> cases b2 <;> simp [ival, Int.neg_tmod, Int.tmod_neg, ← Int.ofNat_tmod]
set_option maxHeartbeats 1000000 in
theorem zintTrunc_any (b b2 : Bool) (B : Nat) (w : World) (a a2 : Option Addr) (n c n2 c2 : Nat) (l l2 : Nt) (h : NatS B w a n c l) (h2 : NatS B w a2 n2 c2 l2) (hn : n ≤ 8796093022208) (h0 : 0 < val l2) :
  Calls Tryz.prog 114 #[.agg #[.bool b, .slice a n c], .agg #[.bool b2, .slice a2 n2 c2]] w fun e w' => ∃ v1 v2, e = .returned (.tuple #[v1, v2, .int .i64 0]) ∧ IntN w.heap.size w' v1 ((ival b l).tdiv (ival b2 l2)) ∧ IntN w.heap.size w' v2 ((ival b l).tmod (ival b2 l2)) ∧ Ext w w' := by
 go_enter Tryz.func114, Tryz.ntmps114
 go_wp2_with fail
 have p0 := Blk.new w 25 #[.bool b, .slice a n c]
 have p1 := Blk.new (w.alloc (Obj.cells #[.bool b, .slice a n c] 25)) 25 #[.bool b2, .slice a2 n2 c2]
 replace p0 := p0.ext ((Below.refl _ _).alloc (Nat.le_refl _) (Obj.cells #[.bool b2, .slice a2 n2 c2] 25))
 have r := Blk.new ((w.alloc (Obj.cells #[.bool b, .slice a n c] 25)).alloc (Obj.cells #[.bool b2, .slice a2 n2 c2] 25)) 25 #[.bool false, .slice none 0 0]
 replace p0 := p0.ext ((Below.refl _ _).alloc (Nat.le_refl _) (Obj.cells #[.bool false, .slice none 0 0] 25))
 replace p1 := p1.ext ((Below.refl _ _).alloc (Nat.le_refl _) (Obj.cells #[.bool false, .slice none 0 0] 25))
 have s := Blk.new (((w.alloc (Obj.cells #[.bool b, .slice a n c] 25)).alloc (Obj.cells #[.bool b2, .slice a2 n2 c2] 25)).alloc (Obj.cells #[.bool false, .slice none 0 0] 25)) 25 #[.bool false, .slice none 0 0]
 replace p0 := p0.ext ((Below.refl _ _).alloc (Nat.le_refl _) (Obj.cells #[.bool false, .slice none 0 0] 25))
 replace p1 := p1.ext ((Below.refl _ _).alloc (Nat.le_refl _) (Obj.cells #[.bool false, .slice none 0 0] 25))
 replace r := r.ext ((Below.refl _ _).alloc (Nat.le_refl _) (Obj.cells #[.bool false, .slice none 0 0] 25))
 have hEW : Ext w ((((w.alloc (Obj.cells #[.bool b, .slice a n c] 25)).alloc (Obj.cells #[.bool b2, .slice a2 n2 c2] 25)).alloc (Obj.cells #[.bool false, .slice none 0 0] 25)).alloc (Obj.cells #[.bool false, .slice none 0 0] 25)) := (((((Below.refl _ w).alloc (by simp) _).alloc (by simp) _).alloc (by simp; omega) _).alloc (by simp; omega) _)
 generalize hgW : (((w.alloc (Obj.cells #[.bool b, .slice a n c] 25)).alloc (Obj.cells #[.bool b2, .slice a2 n2 c2] 25)).alloc (Obj.cells #[.bool false, .slice none 0 0] 25)).alloc (Obj.cells #[.bool false, .slice none 0 0] 25) = W at *
 clear hgW
 simp only [World.size_alloc] at p1 r s
 have p0_ne_p1 : ¬ w.heap.size = w.heap.size + 1 := by omega
 have p0_ne_r : ¬ w.heap.size = w.heap.size + 1 + 1 := by omega
 have p0_ne_s : ¬ w.heap.size = w.heap.size + 1 + 1 + 1 := by omega
 have p1_ne_p0 : ¬ w.heap.size + 1 = w.heap.size := by omega
 have p1_ne_r : ¬ w.heap.size + 1 = w.heap.size + 1 + 1 := by omega
 have p1_ne_s : ¬ w.heap.size + 1 = w.heap.size + 1 + 1 + 1 := by omega
 have r_ne_p0 : ¬ w.heap.size + 1 + 1 = w.heap.size := by omega
 have r_ne_p1 : ¬ w.heap.size + 1 + 1 = w.heap.size + 1 := by omega
 have r_ne_s : ¬ w.heap.size + 1 + 1 = w.heap.size + 1 + 1 + 1 := by omega
 have s_ne_p0 : ¬ w.heap.size + 1 + 1 + 1 = w.heap.size := by omega
 have s_ne_p1 : ¬ w.heap.size + 1 + 1 + 1 = w.heap.size + 1 := by omega
 have s_ne_r : ¬ w.heap.size + 1 + 1 + 1 = w.heap.size + 1 + 1 := by omega
 replace p0_0 := p0.cell (i := 0) rfl
 replace p0_1 := p0.cell (i := 1) rfl
 replace p1_0 := p1.cell (i := 0) rfl
 replace p1_1 := p1.cell (i := 1) rfl
 replace r_0 := r.cell (i := 0) rfl
 replace r_1 := r.cell (i := 1) rfl
 replace r_f0 := r.free 0
 replace r_f1 := r.free 1
 replace r_lt := r.lt
 replace s_0 := s.cell (i := 0) rfl
 replace s_1 := s.cell (i := 1) rfl
 replace s_f0 := s.free 0
 replace s_f1 := s.free 1
 replace s_lt := s.lt
 have hrB := r_lt
 have hsB := s_lt
 refine (natDiv_aux B W a a2 n c n2 c2 l l2 (h.ext (Nat.le_refl _) hEW) (h2.ext (Nat.le_refl _) hEW) hn _ _ (Lib.hid rfl) (Lib.hid rfl) h0).mono ?_
 rintro e w1 ⟨a3, n3, c3, a4, n4, c4, rfl, h3, h4, hE1⟩
 replace p0 := p0.ext hE1; replace p0_0 := p0.cell (i := 0) rfl; replace p0_1 := p0.cell (i := 1) rfl; replace p1 := p1.ext hE1; replace p1_0 := p1.cell (i := 0) rfl; replace p1_1 := p1.cell (i := 1) rfl; replace r := r.ext hE1; replace r_0 := r.cell (i := 0) rfl; replace r_1 := r.cell (i := 1) rfl; replace r_f0 := r.free 0; replace r_f1 := r.free 1; replace r_lt := r.lt; replace s := s.ext hE1; replace s_0 := s.cell (i := 0) rfl; replace s_1 := s.cell (i := 1) rfl; replace s_f0 := s.free 0; replace s_f1 := s.free 1; replace s_lt := s.lt
 have hE0 := Ext.trans hEW hE1
 clear hEW hE1 h0 h h2 hn
 go_wp2_with fail
 have hd : Ext w1 w1.drew := (Below.refl _ _).drew
 replace p0 := p0.ext hd; replace p0_0 := p0.cell (i := 0) rfl; replace p0_1 := p0.cell (i := 1) rfl; replace p1 := p1.ext hd; replace p1_0 := p1.cell (i := 0) rfl; replace p1_1 := p1.cell (i := 1) rfl; replace r := r.ext hd; replace r_0 := r.cell (i := 0) rfl; replace r_1 := r.cell (i := 1) rfl; replace r_f0 := r.free 0; replace r_f1 := r.free 1; replace r_lt := r.lt; replace s := s.ext hd; replace s_0 := s.cell (i := 0) rfl; replace s_1 := s.cell (i := 1) rfl; replace s_f0 := s.free 0; replace s_f1 := s.free 1; replace s_lt := s.lt
 have hE0 := Ext.trans hE0 hd
 have h3 := h3.ext (Nat.le_refl _) hd
 have h4 := h4.ext (Nat.le_refl _) hd
 go_region_held3 (fun w' => w'.cell? ⟨w.heap.size, 0, none⟩ = some (.bool b) ∧ w'.cell? ⟨w.heap.size, 1, none⟩ = some (.slice a n c) ∧ w'.cell? ⟨w.heap.size + 1, 0, none⟩ = some (.bool b2) ∧ w'.cell? ⟨w.heap.size + 1, 1, none⟩ = some (.slice a2 n2 c2)) (first | exact ⟨p0_0, p0_1, p1_0, p1_1⟩ | go_keep)
  (first | (go_at_call 106; refine (make1_any _ _ _ _ _).mono ?_; rintro e w2 ⟨rfl, hE2⟩; replace p0 := p0.ext hE2; replace p0_0 := p0.cell (i := 0) rfl; replace p0_1 := p0.cell (i := 1) rfl; replace p1 := p1.ext hE2; replace p1_0 := p1.cell (i := 0) rfl; replace p1_1 := p1.cell (i := 1) rfl; replace r := r.ext hE2; replace r_0 := r.cell (i := 0) rfl; replace r_1 := r.cell (i := 1) rfl; replace r_f0 := r.free 0; replace r_f1 := r.free 1; replace r_lt := r.lt; replace s := s.ext hE2; replace s_0 := s.cell (i := 0) rfl; replace s_1 := s.cell (i := 1) rfl; replace s_f0 := s.free 0; replace s_f1 := s.free 1; replace s_lt := s.lt; have hE0 := Ext.trans hE0 hE2; have h3 := h3.ext (Nat.le_refl _) hE2; have h4 := h4.ext (Nat.le_refl _) hE2))
 replace r := r.set 0 (.bool (!b == b2 && decide (0 < n3)))
 replace s := s.set_ne 0 (.bool (!b == b2 && decide (0 < n3))) (show w.heap.size + 1 + 1 + 1 ≠ w.heap.size + 1 + 1 by omega)
 replace r := r.set 1 (.slice a3 n3 c3)
 replace s := s.set_ne 1 (.slice a3 n3 c3) (show w.heap.size + 1 + 1 + 1 ≠ w.heap.size + 1 + 1 by omega)
 replace r := r.set_ne 0 (.bool (b && decide (0 < n4))) (show w.heap.size + 1 + 1 ≠ w.heap.size + 1 + 1 + 1 by omega)
 replace s := s.set 0 (.bool (b && decide (0 < n4)))
 replace r := r.set_ne 1 (.slice a4 n4 c4) (show w.heap.size + 1 + 1 ≠ w.heap.size + 1 + 1 + 1 by omega)
 replace s := s.set 1 (.slice a4 n4 c4)
 have hKW3 : ∀ bB_ : Nat, w.heap.size + 1 + 1 < bB_ → w.heap.size + 1 + 1 + 1 < bB_ → Kept bB_ w2 (((((w2).setCell ⟨w.heap.size + 1 + 1, 0, none⟩ (.bool (!b == b2 && decide (0 < n3)))).setCell ⟨w.heap.size + 1 + 1, 1, none⟩ (.slice a3 n3 c3)).setCell ⟨w.heap.size + 1 + 1 + 1, 0, none⟩ (.bool (b && decide (0 < n4)))).setCell ⟨w.heap.size + 1 + 1 + 1, 1, none⟩ (.slice a4 n4 c4)) := fun bB_ h0 h1 => (Kept.trans (kept_set _ _ _ h0) (Kept.trans (kept_set _ _ _ h0) (Kept.trans (kept_set _ _ _ h1) (kept_set _ _ _ h1))))
 have hzW3 : w2.heap.size ≤ (((((w2).setCell ⟨w.heap.size + 1 + 1, 0, none⟩ (.bool (!b == b2 && decide (0 < n3)))).setCell ⟨w.heap.size + 1 + 1, 1, none⟩ (.slice a3 n3 c3)).setCell ⟨w.heap.size + 1 + 1 + 1, 0, none⟩ (.bool (b && decide (0 < n4)))).setCell ⟨w.heap.size + 1 + 1 + 1, 1, none⟩ (.slice a4 n4 c4)).heap.size := by simp only [World.setCell, Array.size_modify]; exact Nat.le_refl _
 have hSW3 : ∀ (nB_ : Nat) (uB_ : World), nB_ ≤ w.heap.size + 1 + 1 → nB_ ≤ w.heap.size + 1 + 1 + 1 → Below nB_ uB_ w2 → Below nB_ uB_ (((((w2).setCell ⟨w.heap.size + 1 + 1, 0, none⟩ (.bool (!b == b2 && decide (0 < n3)))).setCell ⟨w.heap.size + 1 + 1, 1, none⟩ (.slice a3 n3 c3)).setCell ⟨w.heap.size + 1 + 1 + 1, 0, none⟩ (.bool (b && decide (0 < n4)))).setCell ⟨w.heap.size + 1 + 1 + 1, 1, none⟩ (.slice a4 n4 c4)) := fun nB_ uB_ h0 h1 hb => (Below.setCell (Below.setCell (Below.setCell (Below.setCell hb (p := ⟨w.heap.size + 1 + 1, 0, none⟩) h0 (.bool (!b == b2 && decide (0 < n3)))) (p := ⟨w.heap.size + 1 + 1, 1, none⟩) h0 (.slice a3 n3 c3)) (p := ⟨w.heap.size + 1 + 1 + 1, 0, none⟩) h1 (.bool (b && decide (0 < n4)))) (p := ⟨w.heap.size + 1 + 1 + 1, 1, none⟩) h1 (.slice a4 n4 c4))
 replace r : Blk (((((w2).setCell ⟨w.heap.size + 1 + 1, 0, none⟩ (.bool (!b == b2 && decide (0 < n3)))).setCell ⟨w.heap.size + 1 + 1, 1, none⟩ (.slice a3 n3 c3)).setCell ⟨w.heap.size + 1 + 1 + 1, 0, none⟩ (.bool (b && decide (0 < n4)))).setCell ⟨w.heap.size + 1 + 1 + 1, 1, none⟩ (.slice a4 n4 c4)) (w.heap.size + 1 + 1) 25 #[.bool (!b == b2 && decide (0 < n3)), .slice a3 n3 c3] := r
 replace s : Blk (((((w2).setCell ⟨w.heap.size + 1 + 1, 0, none⟩ (.bool (!b == b2 && decide (0 < n3)))).setCell ⟨w.heap.size + 1 + 1, 1, none⟩ (.slice a3 n3 c3)).setCell ⟨w.heap.size + 1 + 1 + 1, 0, none⟩ (.bool (b && decide (0 < n4)))).setCell ⟨w.heap.size + 1 + 1 + 1, 1, none⟩ (.slice a4 n4 c4)) (w.heap.size + 1 + 1 + 1) 25 #[.bool (b && decide (0 < n4)), .slice a4 n4 c4] := s
 generalize hgW3 : ((((w2).setCell ⟨w.heap.size + 1 + 1, 0, none⟩ (.bool (!b == b2 && decide (0 < n3)))).setCell ⟨w.heap.size + 1 + 1, 1, none⟩ (.slice a3 n3 c3)).setCell ⟨w.heap.size + 1 + 1 + 1, 0, none⟩ (.bool (b && decide (0 < n4)))).setCell ⟨w.heap.size + 1 + 1 + 1, 1, none⟩ (.slice a4 n4 c4) = W3 at *
 clear hgW3
 replace r_0 := r.cell (i := 0) rfl
 replace r_1 := r.cell (i := 1) rfl
 replace r_f0 := r.free 0
 replace r_f1 := r.free 1
 replace r_lt := r.lt
 replace s_0 := s.cell (i := 0) rfl
 replace s_1 := s.cell (i := 1) rfl
 replace s_f0 := s.free 0
 replace s_f1 := s.free 1
 replace s_lt := s.lt
 have h3 := h3.mono (Nat.le_refl _) (hKW3 _ hrB hsB)
 have h4 := h4.mono (Nat.le_refl _) (hKW3 _ hrB hsB)
 have hE0 := hSW3 _ _ (by omega) (by omega) hE0
 have HF : Hid (∃ v1 v2, Ending.returned (.tuple #[.agg #[.bool (!b == b2 && decide (0 < n3)), .slice a3 n3 c3], .agg #[.bool (b && decide (0 < n4)), .slice a4 n4 c4], .int .i64 0]) = .returned (.tuple #[v1, v2, .int .i64 0]) ∧ IntN w.heap.size W3 v1 ((ival b l).tdiv (ival b2 l2)) ∧ IntN w.heap.size W3 v2 ((ival b l).tmod (ival b2 l2)) ∧ Ext w W3) :=
  Lib.hid ⟨_, _, rfl, (IntN.mk h3 (tdiv_sgn b b2 l l2) rfl).mono (by omega) (Kept.refl _ _), (IntN.mk h4 (tmod_sgn b b2 l l2) rfl).mono (by omega) (Kept.refl _ _), hE0⟩
 clear h3 h4 hE0 hKW3 hSW3
 go_wp2_with fail
 exact bodyPost_ret (v := .tuple #[.agg #[.bool (!b == b2 && decide (0 < n3)), .slice a3 n3 c3], .agg #[.bool (b && decide (0 < n4)), .slice a4 n4 c4], .int .i64 0]) (by simp [results, Tryz.results114, go_sem, r_0, r_1, s_0, s_1]) rfl HF.out
end Go.Proofs.YtbhenelehhiakaaGreat
namespace Go.Proofs.YtbhenelehhiakaaGreat
open Go.RowKit
theorem ival_norm (z : Int) : ival (decide (z < 0)) (limbs z.natAbs) = z := by
 unfold ival
 rw [val_limbs]
 by_cases h : z < 0
 ·rw [decide_eq_true h, if_pos rfl]; omega
 ·rw [decide_eq_false h, if_neg (by decide)]; omega
theorem RInt.of {w w' : World} {v : Value} {z : Int} (h : IntN w.heap.size w' v z) (hE : Ext w w') : RInt w z (.returned v) w' := by
 obtain ⟨a, n, c, rfl, h⟩ := h
 exact ⟨a, n, c, rfl, h, hE⟩
set_option maxHeartbeats 1000000 in
theorem zintExact_any (b b2 : Bool) (B : Nat) (w : World) (a a2 : Option Addr) (n c n2 c2 : Nat) (l l2 : Nt) (h : NatS B w a n c l) (h2 : NatS B w a2 n2 c2 l2) (hn : n ≤ 8796093022208) (h0 : 0 < val l2) (hdv : ival b2 l2 ∣ ival b l) :
  Calls Tryz.prog 70 #[.agg #[.bool b, .slice a n c], .agg #[.bool b2, .slice a2 n2 c2]] w fun e w' => ∃ v, e = .returned (.tuple #[v, .int .i64 0]) ∧ IntN w.heap.size w' v ((ival b l).tdiv (ival b2 l2)) ∧ Ext w w' := by
 go_enter Tryz.func70, Tryz.ntmps70
 go_wp2_with fail
 have p0 := Blk.new w 25 #[.bool b, .slice a n c]
 have p1 := Blk.new (w.alloc (Obj.cells #[.bool b, .slice a n c] 25)) 25 #[.bool b2, .slice a2 n2 c2]
 replace p0 := p0.ext ((Below.refl _ _).alloc (Nat.le_refl _) (Obj.cells #[.bool b2, .slice a2 n2 c2] 25))
 have r := Blk.new ((w.alloc (Obj.cells #[.bool b, .slice a n c] 25)).alloc (Obj.cells #[.bool b2, .slice a2 n2 c2] 25)) 25 #[.bool false, .slice none 0 0]
 replace p0 := p0.ext ((Below.refl _ _).alloc (Nat.le_refl _) (Obj.cells #[.bool false, .slice none 0 0] 25))
 replace p1 := p1.ext ((Below.refl _ _).alloc (Nat.le_refl _) (Obj.cells #[.bool false, .slice none 0 0] 25))
 have hEW : Ext w (((w.alloc (Obj.cells #[.bool b, .slice a n c] 25)).alloc (Obj.cells #[.bool b2, .slice a2 n2 c2] 25)).alloc (Obj.cells #[.bool false, .slice none 0 0] 25)) := ((((Below.refl _ w).alloc (by simp) _).alloc (by simp) _).alloc (by simp; omega) _)
 generalize hgW : ((w.alloc (Obj.cells #[.bool b, .slice a n c] 25)).alloc (Obj.cells #[.bool b2, .slice a2 n2 c2] 25)).alloc (Obj.cells #[.bool false, .slice none 0 0] 25) = W at *
 clear hgW
 simp only [World.size_alloc] at p1 r
 have p0_ne_p1 : ¬ w.heap.size = w.heap.size + 1 := by omega
 have p0_ne_r : ¬ w.heap.size = w.heap.size + 1 + 1 := by omega
 have p1_ne_p0 : ¬ w.heap.size + 1 = w.heap.size := by omega
 have p1_ne_r : ¬ w.heap.size + 1 = w.heap.size + 1 + 1 := by omega
 have r_ne_p0 : ¬ w.heap.size + 1 + 1 = w.heap.size := by omega
 have r_ne_p1 : ¬ w.heap.size + 1 + 1 = w.heap.size + 1 := by omega
 replace p0_0 := p0.cell (i := 0) rfl
 replace p0_1 := p0.cell (i := 1) rfl
 replace p1_0 := p1.cell (i := 0) rfl
 replace p1_1 := p1.cell (i := 1) rfl
 replace r_0 := r.cell (i := 0) rfl
 replace r_1 := r.cell (i := 1) rfl
 replace r_f0 := r.free 0
 replace r_f1 := r.free 1
 replace r_lt := r.lt
 have hrB := r_lt
 refine (zintTrunc_any b b2 B W a a2 n c n2 c2 l l2 (h.ext (Nat.le_refl _) hEW) (h2.ext (Nat.le_refl _) hEW) hn h0).mono ?_
 rintro e w1 ⟨v1, v2, rfl, ⟨a3, n3, c3, rfl, h3⟩, ⟨a4, n4, c4, rfl, h4⟩, hE1⟩
 have hz : (ival b l).tmod (ival b2 l2) = 0 := Int.tmod_eq_zero_of_dvd hdv
 rw [hz] at h4 ⊢
 obtain rfl : n4 = 0 := by have := h4.len; rw [length_limbs] at this; simpa [nl_zero] using this.symm
 replace p0 := p0.ext hE1; replace p0_0 := p0.cell (i := 0) rfl; replace p0_1 := p0.cell (i := 1) rfl; replace p1 := p1.ext hE1; replace p1_0 := p1.cell (i := 0) rfl; replace p1_1 := p1.cell (i := 1) rfl; replace r := r.ext hE1; replace r_0 := r.cell (i := 0) rfl; replace r_1 := r.cell (i := 1) rfl; replace r_f0 := r.free 0; replace r_f1 := r.free 1; replace r_lt := r.lt
 have hE0 := Ext.trans hEW hE1
 generalize hq : (ival b l).tdiv (ival b2 l2) = zq at *
 have HQ := Lib.hid hq
 clear hEW hE1 h0 h h2 hn hdv hq hz
 go_wp2_with fail
 have q := Blk.new w1 25 #[.bool (decide (zq < 0)), .slice a3 n3 c3]
 have s := Blk.new (w1.alloc (Obj.cells #[.bool (decide (zq < 0)), .slice a3 n3 c3] 25)) 25 #[.bool false, .slice a4 0 c4]
 replace q := q.ext ((Below.refl _ _).alloc (Nat.le_refl _) (Obj.cells #[.bool false, .slice a4 0 c4] 25))
 have hEW2 : Ext w1 ((w1.alloc (Obj.cells #[.bool (decide (zq < 0)), .slice a3 n3 c3] 25)).alloc (Obj.cells #[.bool false, .slice a4 0 c4] 25)) := (((Below.refl _ w1).alloc (by simp) _).alloc (by simp) _)
 generalize hgW2 : (w1.alloc (Obj.cells #[.bool (decide (zq < 0)), .slice a3 n3 c3] 25)).alloc (Obj.cells #[.bool false, .slice a4 0 c4] 25) = W2 at *
 clear hgW2
 simp only [World.size_alloc] at s
 have q_ne_s : ¬ w1.heap.size = w1.heap.size + 1 := by omega
 have s_ne_q : ¬ w1.heap.size + 1 = w1.heap.size := by omega
 replace q_0 := q.cell (i := 0) rfl
 replace q_1 := q.cell (i := 1) rfl
 replace q_f0 := q.free 0
 replace q_f1 := q.free 1
 replace q_lt := q.lt
 replace s_0 := s.cell (i := 0) rfl
 replace s_1 := s.cell (i := 1) rfl
 replace s_f0 := s.free 0
 replace s_f1 := s.free 1
 replace s_lt := s.lt
 replace r := r.ext hEW2; replace r_0 := r.cell (i := 0) rfl; replace r_1 := r.cell (i := 1) rfl; replace r_f0 := r.free 0; replace r_f1 := r.free 1; replace r_lt := r.lt
 refine (zintSign_any false _ W2 a4 0 c4 _ (h4.ext (Nat.le_refl _) hEW2) (by omega)).mono ?_
 rintro e w3 ⟨rfl, hE3⟩
 rw [show (ival false (limbs (0 : Int).natAbs)).sign = 0 from rfl]
 replace r := r.ext hE3; replace r_0 := r.cell (i := 0) rfl; replace r_1 := r.cell (i := 1) rfl; replace r_f0 := r.free 0; replace r_f1 := r.free 1; replace r_lt := r.lt; replace q := q.ext hE3; replace q_0 := q.cell (i := 0) rfl; replace q_1 := q.cell (i := 1) rfl; replace q_f0 := q.free 0; replace q_f1 := q.free 1; replace q_lt := q.lt
 have hE4 := Ext.trans hEW2 hE3
 have h3 := h3.ext (Nat.le_refl _) hE4
 have hE0 := Ext.trans hE0 hE4
 have HF : Hid (∃ v, Ending.returned (.tuple #[.agg #[.bool (decide (zq < 0)), .slice a3 n3 c3], .int .i64 0]) = .returned (.tuple #[v, .int .i64 0]) ∧ IntN w.heap.size ((w3.setCell ⟨w.heap.size + 1 + 1, 0, none⟩ (.bool (decide (zq < 0)))).setCell ⟨w.heap.size + 1 + 1, 1, none⟩ (.slice a3 n3 c3)) v zq ∧ Ext w ((w3.setCell ⟨w.heap.size + 1 + 1, 0, none⟩ (.bool (decide (zq < 0)))).setCell ⟨w.heap.size + 1 + 1, 1, none⟩ (.slice a3 n3 c3))) :=
  Lib.hid ⟨_, rfl, ⟨a3, n3, c3, rfl, h3.mono (by omega) (Kept.trans (kept_set _ _ _ hrB) (kept_set _ _ _ hrB))⟩, Below.setCell (Below.setCell hE0 (p := ⟨w.heap.size + 1 + 1, 0, none⟩) (by simp; omega) _) (p := ⟨w.heap.size + 1 + 1, 1, none⟩) (by simp; omega) _⟩
 clear h3 h4 hE0 hE4 hE3 hEW2
 have r2 := (r.set 0 (.bool (decide (zq < 0)))).set 1 (.slice a3 n3 c3)
 have hr0 := r2.cell (i := 0) rfl
 have hr1 := r2.cell (i := 1) rfl
 go_wp2_with fail
 exact bodyPost_ret (v := .tuple #[.agg #[.bool (decide (zq < 0)), .slice a3 n3 c3], .int .i64 0]) (by simp [results, Tryz.results70, go_sem, hr0, hr1]) rfl (by rw [HQ.out]; exact HF.out)
theorem neg_sgn (b : Bool) (l : Nt) (x : Nat) (hx : val l = x) : -(ival b l) = if decide (0 < ival b l) then -(x : Int) else (x : Int) := by
 subst hx
 unfold ival
 cases b
 ·by_cases h : val l = 0
  ·rw [h]; simp
  ·rw [decide_eq_true (by simp; omega)]; simp
 ·rw [decide_eq_false (by simp)]; simp
set_option maxHeartbeats 1000000 in
theorem zintNeg_any (b : Bool) (B : Nat) (w : World) (a : Option Addr) (n c : Nat) (l : Nt) (h : NatS B w a n c l) (hn : n ≤ 17592186044416) :
  Calls Tryz.prog 112 #[.agg #[.bool b, .slice a n c]] w (RInt w (-(ival b l))) := by
 have HS := Lib.hid (neg_sgn b l _ rfl)
 go_enter Tryz.func112, Tryz.ntmps112
 go_wp2_with fail
 have p0 := Blk.new w 25 #[.bool b, .slice a n c]
 have r := Blk.new (w.alloc (Obj.cells #[.bool b, .slice a n c] 25)) 25 #[.bool false, .slice none 0 0]
 replace p0 := p0.ext ((Below.refl _ _).alloc (Nat.le_refl _) (Obj.cells #[.bool false, .slice none 0 0] 25))
 have hEW : Ext w ((w.alloc (Obj.cells #[.bool b, .slice a n c] 25)).alloc (Obj.cells #[.bool false, .slice none 0 0] 25)) := (((Below.refl _ w).alloc (by simp) _).alloc (by simp) _)
 generalize hgW : (w.alloc (Obj.cells #[.bool b, .slice a n c] 25)).alloc (Obj.cells #[.bool false, .slice none 0 0] 25) = W at *
 clear hgW
 simp only [World.size_alloc] at r
 have p0_ne_r : ¬ w.heap.size = w.heap.size + 1 := by omega
 have r_ne_p0 : ¬ w.heap.size + 1 = w.heap.size := by omega
 replace p0_0 := p0.cell (i := 0) rfl
 replace p0_1 := p0.cell (i := 1) rfl
 replace r_0 := r.cell (i := 0) rfl
 replace r_1 := r.cell (i := 1) rfl
 replace r_f0 := r.free 0
 replace r_f1 := r.free 1
 replace r_lt := r.lt
 have hrB := r_lt
 have hd : Ext W W.drew := (Below.refl _ _).drew
 have hE0 := hd
 have h := h.ext (Nat.le_refl _) (Ext.trans hEW hd)
 replace p0 := p0.ext hd; replace p0_0 := p0.cell (i := 0) rfl; replace p0_1 := p0.cell (i := 1) rfl; replace r := r.ext hd; replace r_0 := r.cell (i := 0) rfl; replace r_1 := r.cell (i := 1) rfl; replace r_f0 := r.free 0; replace r_f1 := r.free 1; replace r_lt := r.lt
 go_region_held3 (fun w' => w'.cell? ⟨w.heap.size, 0, none⟩ = some (.bool b) ∧ w'.cell? ⟨w.heap.size, 1, none⟩ = some (.slice a n c)) (first | exact ⟨p0_0, p0_1⟩ | go_keep)
  (first | (go_at_call 86; refine (zintSign_any b B _ a n c l h hn).mono ?_; rintro e w1 ⟨rfl, hE1⟩; replace p0 := p0.ext hE1; replace p0_0 := p0.cell (i := 0) rfl; replace p0_1 := p0.cell (i := 1) rfl; replace r := r.ext hE1; replace r_0 := r.cell (i := 0) rfl; replace r_1 := r.cell (i := 1) rfl; replace r_f0 := r.free 0; replace r_f1 := r.free 1; replace r_lt := r.lt; have h := h.ext (Nat.le_refl _) hE1; have hE0 := Ext.trans hE0 hE1)
         | (go_at_call 136; refine (natNorm_any B _ a n c l h hn).mono ?_; rintro e w2 ⟨a3, n3, c3, rfl, h3, hE2⟩; have h3 := h3.mono hE0.size (Kept.refl _ _); replace p0 := p0.ext hE2; replace p0_0 := p0.cell (i := 0) rfl; replace p0_1 := p0.cell (i := 1) rfl; replace r := r.ext hE2; replace r_0 := r.cell (i := 0) rfl; replace r_1 := r.cell (i := 1) rfl; replace r_f0 := r.free 0; replace r_f1 := r.free 1; replace r_lt := r.lt; have h := h.ext (Nat.le_refl _) hE2; have hE0 := Ext.trans hE0 hE2)
         | (go_at_call 106; refine (make1_any _ _ _ _ _).mono ?_; rintro e w3 ⟨rfl, hE3⟩; replace p0 := p0.ext hE3; replace p0_0 := p0.cell (i := 0) rfl; replace p0_1 := p0.cell (i := 1) rfl; replace r := r.ext hE3; replace r_0 := r.cell (i := 0) rfl; replace r_1 := r.cell (i := 1) rfl; replace r_f0 := r.free 0; replace r_f1 := r.free 1; replace r_lt := r.lt; have h3 := h3.ext (Nat.le_refl _) hE3; have hE0 := Ext.trans hE0 hE3))
 all_goals
  have HF := Lib.hid (RInt.box (w := w) (w2 := w3) (r := w.heap.size + 1) (u := .bool (decide (0 < ival b l) && decide (0 < n3))) (v := .slice a3 n3 c3) (by omega) hrB (Ext.trans hEW hE0) h3 HS.out rfl)
  clear h h3 hE0 hEW
  generalize hg : (decide (0 < ival b l) && decide (0 < n3)) = b3 at *
  clear hg
  have r2 : Blk (((w3).setCell ⟨w.heap.size + 1, 0, none⟩ (.bool b3)).setCell ⟨w.heap.size + 1, 1, none⟩ (.slice a3 n3 c3)) _ _ #[.bool b3, .slice a3 n3 c3] := ((r).set 0 (.bool b3)).set 1 (.slice a3 n3 c3)
  generalize ((w3).setCell ⟨w.heap.size + 1, 0, none⟩ (.bool b3)).setCell ⟨w.heap.size + 1, 1, none⟩ (.slice a3 n3 c3) = W3 at *
  have hr0 := r2.cell (i := 0) rfl
  have hr1 := r2.cell (i := 1) rfl
  go_wp2_with fail
  exact bodyPost_ret (v := .agg #[.bool b3, .slice a3 n3 c3]) (by simp [results, Tryz.results112, go_sem, hr0, hr1]) rfl HF.out
end Go.Proofs.YtbhenelehhiakaaGreat
namespace Go.Proofs.YtbhenelehhiakaaGreat
open Go.RowKit
theorem RInt.boxN {w w2 : World} {B r : Nat} {z : Int} {v u1 u2 : Value} (hr : w.heap.size ≤ r) (hrB : r < B) (hE : Ext w w2) (h : IntN B w2 v z) :
  RInt w z (.returned v) ((w2.setCell ⟨r, 0, none⟩ u1).setCell ⟨r, 1, none⟩ u2) :=
 RInt.of (h.mono (by omega) (Kept.trans (kept_set _ _ _ hrB) (kept_set _ _ _ hrB))) (Below.setCell (Below.setCell hE (p := ⟨r, 0, none⟩) hr u1) (p := ⟨r, 1, none⟩) hr u2)
theorem join_sgn (b : Bool) (l l2 : Nt) (h : val l2 ≤ val l) : ival b l + ival (!b) l2 = if b then -((val l - val l2 : Nat) : Int) else ((val l - val l2 : Nat) : Int) := by
 cases b <;> simp [ival] <;> omega
set_option maxHeartbeats 1000000 in
theorem zjoined_any (b : Bool) (B : Nat) (w : World) (a a2 : Option Addr) (n c n2 c2 : Nat) (l l2 : Nt) (h : NatS B w a n c l) (h2 : NatS B w a2 n2 c2 l2) (hn : n ≤ 8796093022208) (hn2 : n2 ≤ 8796093022208) :
  Calls Tryz.prog 128 #[.agg #[.bool b, .slice a n c], .agg #[.bool (!b), .slice a2 n2 c2]] w (RInt w (ival b l + ival (!b) l2)) := by
 by_cases hlt : val l < val l2
 ·have hz := join_sgn (!b) l2 l (Nat.le_of_lt hlt)
  rw [Bool.not_not, Int.add_comm] at hz
  have HZ := Lib.hid hz
  clear hz
  go_enter Tryz.func128, Tryz.ntmps128
  go_wp2_with fail
  have p0 := Blk.new w 25 #[.bool b, .slice a n c]
  have p1 := Blk.new (w.alloc (Obj.cells #[.bool b, .slice a n c] 25)) 25 #[.bool (!b), .slice a2 n2 c2]
  replace p0 := p0.ext ((Below.refl _ _).alloc (Nat.le_refl _) (Obj.cells #[.bool (!b), .slice a2 n2 c2] 25))
  have r := Blk.new ((w.alloc (Obj.cells #[.bool b, .slice a n c] 25)).alloc (Obj.cells #[.bool (!b), .slice a2 n2 c2] 25)) 25 #[.bool false, .slice none 0 0]
  replace p0 := p0.ext ((Below.refl _ _).alloc (Nat.le_refl _) (Obj.cells #[.bool false, .slice none 0 0] 25))
  replace p1 := p1.ext ((Below.refl _ _).alloc (Nat.le_refl _) (Obj.cells #[.bool false, .slice none 0 0] 25))
  have hEW : Ext w (((w.alloc (Obj.cells #[.bool b, .slice a n c] 25)).alloc (Obj.cells #[.bool (!b), .slice a2 n2 c2] 25)).alloc (Obj.cells #[.bool false, .slice none 0 0] 25)) := ((((Below.refl _ w).alloc (by simp) _).alloc (by simp) _).alloc (by simp; omega) _)
  generalize hgW : ((w.alloc (Obj.cells #[.bool b, .slice a n c] 25)).alloc (Obj.cells #[.bool (!b), .slice a2 n2 c2] 25)).alloc (Obj.cells #[.bool false, .slice none 0 0] 25) = W at *
  clear hgW
  simp only [World.size_alloc] at p1 r
  have p0_ne_p1 : ¬ w.heap.size = w.heap.size + 1 := by omega
  have p0_ne_r : ¬ w.heap.size = w.heap.size + 1 + 1 := by omega
  have p1_ne_p0 : ¬ w.heap.size + 1 = w.heap.size := by omega
  have p1_ne_r : ¬ w.heap.size + 1 = w.heap.size + 1 + 1 := by omega
  have r_ne_p0 : ¬ w.heap.size + 1 + 1 = w.heap.size := by omega
  have r_ne_p1 : ¬ w.heap.size + 1 + 1 = w.heap.size + 1 := by omega
  replace p0_0 := p0.cell (i := 0) rfl
  replace p0_1 := p0.cell (i := 1) rfl
  replace p0_f0 := p0.free 0
  replace p0_f1 := p0.free 1
  replace p0_lt := p0.lt
  replace p1_0 := p1.cell (i := 0) rfl
  replace p1_1 := p1.cell (i := 1) rfl
  replace p1_f0 := p1.free 0
  replace p1_f1 := p1.free 1
  replace p1_lt := p1.lt
  replace r_0 := r.cell (i := 0) rfl
  replace r_1 := r.cell (i := 1) rfl
  replace r_f0 := r.free 0
  replace r_f1 := r.free 1
  replace r_lt := r.lt
  have hrB := r_lt
  refine (cmp_any B W a a2 n c n2 c2 l l2 (h.ext (Nat.le_refl _) hEW) (h2.ext (Nat.le_refl _) hEW)).mono ?_
  rintro e w1 ⟨rfl, hE1⟩
  have hrB := Nat.lt_of_lt_of_le r_lt hE1.size
  have hE0 := Ext.trans hEW hE1
  rw [cmpI_lt hlt]
  have hle := Nat.le_of_lt hlt
  clear hlt hEW
  replace p0 := p0.ext hE1; replace p0_0 := p0.cell (i := 0) rfl; replace p0_1 := p0.cell (i := 1) rfl; replace p0_f0 := p0.free 0; replace p0_f1 := p0.free 1; replace p0_lt := p0.lt; replace p1 := p1.ext hE1; replace p1_0 := p1.cell (i := 0) rfl; replace p1_1 := p1.cell (i := 1) rfl; replace p1_f0 := p1.free 0; replace p1_f1 := p1.free 1; replace p1_lt := p1.lt; replace r := r.ext hE1; replace r_0 := r.cell (i := 0) rfl; replace r_1 := r.cell (i := 1) rfl; replace r_f0 := r.free 0; replace r_f1 := r.free 1; replace r_lt := r.lt
  clear hE1
  have HH := Lib.hid h
  have HH2 := Lib.hid h2
  clear h h2
  go_wp2_with fail
  replace p0 := p0.set 0 (.bool (!b))
  replace p1 := p1.set_ne 0 (.bool (!b)) (show w.heap.size + 1 ≠ w.heap.size by omega)
  replace r := r.set_ne 0 (.bool (!b)) (show w.heap.size + 1 + 1 ≠ w.heap.size by omega)
  replace p0 := p0.set 1 (.slice a2 n2 c2)
  replace p1 := p1.set_ne 1 (.slice a2 n2 c2) (show w.heap.size + 1 ≠ w.heap.size by omega)
  replace r := r.set_ne 1 (.slice a2 n2 c2) (show w.heap.size + 1 + 1 ≠ w.heap.size by omega)
  replace p0 := p0.set_ne 0 (.bool b) (show w.heap.size ≠ w.heap.size + 1 by omega)
  replace p1 := p1.set 0 (.bool b)
  replace r := r.set_ne 0 (.bool b) (show w.heap.size + 1 + 1 ≠ w.heap.size + 1 by omega)
  replace p0 := p0.set_ne 1 (.slice a n c) (show w.heap.size ≠ w.heap.size + 1 by omega)
  replace p1 := p1.set 1 (.slice a n c)
  replace r := r.set_ne 1 (.slice a n c) (show w.heap.size + 1 + 1 ≠ w.heap.size + 1 by omega)
  have hKW2 : ∀ bB_ : Nat, w.heap.size < bB_ → w.heap.size + 1 < bB_ → Kept bB_ w1 (((((w1).setCell ⟨w.heap.size, 0, none⟩ (.bool (!b))).setCell ⟨w.heap.size, 1, none⟩ (.slice a2 n2 c2)).setCell ⟨w.heap.size + 1, 0, none⟩ (.bool b)).setCell ⟨w.heap.size + 1, 1, none⟩ (.slice a n c)) := fun bB_ h0 h1 => (Kept.trans (kept_set _ _ _ h0) (Kept.trans (kept_set _ _ _ h0) (Kept.trans (kept_set _ _ _ h1) (kept_set _ _ _ h1))))
  have hzW2 : w1.heap.size ≤ (((((w1).setCell ⟨w.heap.size, 0, none⟩ (.bool (!b))).setCell ⟨w.heap.size, 1, none⟩ (.slice a2 n2 c2)).setCell ⟨w.heap.size + 1, 0, none⟩ (.bool b)).setCell ⟨w.heap.size + 1, 1, none⟩ (.slice a n c)).heap.size := by simp only [World.setCell, Array.size_modify]; exact Nat.le_refl _
  have hSW2 : ∀ (nB_ : Nat) (uB_ : World), nB_ ≤ w.heap.size → nB_ ≤ w.heap.size + 1 → Below nB_ uB_ w1 → Below nB_ uB_ (((((w1).setCell ⟨w.heap.size, 0, none⟩ (.bool (!b))).setCell ⟨w.heap.size, 1, none⟩ (.slice a2 n2 c2)).setCell ⟨w.heap.size + 1, 0, none⟩ (.bool b)).setCell ⟨w.heap.size + 1, 1, none⟩ (.slice a n c)) := fun nB_ uB_ h0 h1 hb => (Below.setCell (Below.setCell (Below.setCell (Below.setCell hb (p := ⟨w.heap.size, 0, none⟩) h0 (.bool (!b))) (p := ⟨w.heap.size, 1, none⟩) h0 (.slice a2 n2 c2)) (p := ⟨w.heap.size + 1, 0, none⟩) h1 (.bool b)) (p := ⟨w.heap.size + 1, 1, none⟩) h1 (.slice a n c))
  replace p0 : Blk (((((w1).setCell ⟨w.heap.size, 0, none⟩ (.bool (!b))).setCell ⟨w.heap.size, 1, none⟩ (.slice a2 n2 c2)).setCell ⟨w.heap.size + 1, 0, none⟩ (.bool b)).setCell ⟨w.heap.size + 1, 1, none⟩ (.slice a n c)) (w.heap.size) 25 #[.bool (!b), .slice a2 n2 c2] := p0
  replace p1 : Blk (((((w1).setCell ⟨w.heap.size, 0, none⟩ (.bool (!b))).setCell ⟨w.heap.size, 1, none⟩ (.slice a2 n2 c2)).setCell ⟨w.heap.size + 1, 0, none⟩ (.bool b)).setCell ⟨w.heap.size + 1, 1, none⟩ (.slice a n c)) (w.heap.size + 1) 25 #[.bool b, .slice a n c] := p1
  generalize hgW2 : ((((w1).setCell ⟨w.heap.size, 0, none⟩ (.bool (!b))).setCell ⟨w.heap.size, 1, none⟩ (.slice a2 n2 c2)).setCell ⟨w.heap.size + 1, 0, none⟩ (.bool b)).setCell ⟨w.heap.size + 1, 1, none⟩ (.slice a n c) = W2 at *
  clear hgW2
  replace p0_0 := p0.cell (i := 0) rfl
  replace p0_1 := p0.cell (i := 1) rfl
  replace p0_f0 := p0.free 0
  replace p0_f1 := p0.free 1
  replace p0_lt := p0.lt
  replace p1_0 := p1.cell (i := 0) rfl
  replace p1_1 := p1.cell (i := 1) rfl
  replace p1_f0 := p1.free 0
  replace p1_f1 := p1.free 1
  replace p1_lt := p1.lt
  replace r_0 := r.cell (i := 0) rfl
  replace r_1 := r.cell (i := 1) rfl
  replace r_f0 := r.free 0
  replace r_f1 := r.free 1
  replace r_lt := r.lt
  have hE0 := hSW2 w.heap.size w (by omega) (by omega) hE0
  have hrB := r_lt
  refine (natSub_aux B W2 a2 a n2 c2 n c l2 l (HH2.out.ext (Nat.le_refl _) hE0) (HH.out.ext (Nat.le_refl _) hE0) hn2 hn _ _ (Lib.hid rfl) (Lib.hid rfl) hle).mono ?_
  rintro e w3 ⟨a3, n3, c3, rfl, h3, hE3⟩
  replace p0 := p0.ext hE3; replace p0_0 := p0.cell (i := 0) rfl; replace p0_1 := p0.cell (i := 1) rfl; replace p1 := p1.ext hE3; replace p1_0 := p1.cell (i := 0) rfl; replace p1_1 := p1.cell (i := 1) rfl; replace r := r.ext hE3; replace r_0 := r.cell (i := 0) rfl; replace r_1 := r.cell (i := 1) rfl; replace r_f0 := r.free 0; replace r_f1 := r.free 1; replace r_lt := r.lt
  have hE0 := Ext.trans hE0 hE3
  clear hKW2 hSW2 hE3 hle
  go_wp2_with fail
  refine (make1_any _ _ _ _ _).mono ?_
  rintro e w4 ⟨rfl, hE4⟩
  replace p0 := p0.ext hE4; replace p0_0 := p0.cell (i := 0) rfl; replace p0_1 := p0.cell (i := 1) rfl; replace p1 := p1.ext hE4; replace p1_0 := p1.cell (i := 0) rfl; replace p1_1 := p1.cell (i := 1) rfl; replace r := r.ext hE4; replace r_0 := r.cell (i := 0) rfl; replace r_1 := r.cell (i := 1) rfl; replace r_f0 := r.free 0; replace r_f1 := r.free 1; replace r_lt := r.lt
  have HF := Lib.hid (RInt.box (w := w) (w2 := w4) (r := w.heap.size + 1 + 1) (u := .bool ((!b) && decide (0 < n3))) (v := .slice a3 n3 c3) (by omega) hrB (Ext.trans hE0 hE4) (h3.ext (Nat.le_refl _) hE4) HZ.out rfl)
  clear hE0 hE4 h3
  have r2 : Blk (((w4).setCell ⟨w.heap.size + 1 + 1, 0, none⟩ (.bool ((!b) && decide (0 < n3)))).setCell ⟨w.heap.size + 1 + 1, 1, none⟩ (.slice a3 n3 c3)) _ _ #[.bool ((!b) && decide (0 < n3)), .slice a3 n3 c3] := ((r).set 0 (.bool ((!b) && decide (0 < n3)))).set 1 (.slice a3 n3 c3)
  have hr0 := r2.cell (i := 0) rfl
  have hr1 := r2.cell (i := 1) rfl
  go_wp2_with fail
  exact bodyPost_ret (v := .agg #[.bool ((!b) && decide (0 < n3)), .slice a3 n3 c3]) (by simp [results, Tryz.results128, go_sem, hr0, hr1]) rfl HF.out
 ·have hle : val l2 ≤ val l := Nat.le_of_not_lt hlt
  have HZ := Lib.hid (join_sgn b l l2 hle)
  have hc : decide (cmpI (val l) (val l2) < 0) = false := by
   rw [decide_eq_false_iff_not]; unfold cmpI; rw [if_neg hlt]; split <;> omega
  go_enter Tryz.func128, Tryz.ntmps128
  go_wp2_with fail
  have p0 := Blk.new w 25 #[.bool b, .slice a n c]
  have p1 := Blk.new (w.alloc (Obj.cells #[.bool b, .slice a n c] 25)) 25 #[.bool (!b), .slice a2 n2 c2]
  replace p0 := p0.ext ((Below.refl _ _).alloc (Nat.le_refl _) (Obj.cells #[.bool (!b), .slice a2 n2 c2] 25))
  have r := Blk.new ((w.alloc (Obj.cells #[.bool b, .slice a n c] 25)).alloc (Obj.cells #[.bool (!b), .slice a2 n2 c2] 25)) 25 #[.bool false, .slice none 0 0]
  replace p0 := p0.ext ((Below.refl _ _).alloc (Nat.le_refl _) (Obj.cells #[.bool false, .slice none 0 0] 25))
  replace p1 := p1.ext ((Below.refl _ _).alloc (Nat.le_refl _) (Obj.cells #[.bool false, .slice none 0 0] 25))
  have hEW : Ext w (((w.alloc (Obj.cells #[.bool b, .slice a n c] 25)).alloc (Obj.cells #[.bool (!b), .slice a2 n2 c2] 25)).alloc (Obj.cells #[.bool false, .slice none 0 0] 25)) := ((((Below.refl _ w).alloc (by simp) _).alloc (by simp) _).alloc (by simp; omega) _)
  generalize hgW : ((w.alloc (Obj.cells #[.bool b, .slice a n c] 25)).alloc (Obj.cells #[.bool (!b), .slice a2 n2 c2] 25)).alloc (Obj.cells #[.bool false, .slice none 0 0] 25) = W at *
  clear hgW
  simp only [World.size_alloc] at p1 r
  have p0_ne_p1 : ¬ w.heap.size = w.heap.size + 1 := by omega
  have p0_ne_r : ¬ w.heap.size = w.heap.size + 1 + 1 := by omega
  have p1_ne_p0 : ¬ w.heap.size + 1 = w.heap.size := by omega
  have p1_ne_r : ¬ w.heap.size + 1 = w.heap.size + 1 + 1 := by omega
  have r_ne_p0 : ¬ w.heap.size + 1 + 1 = w.heap.size := by omega
  have r_ne_p1 : ¬ w.heap.size + 1 + 1 = w.heap.size + 1 := by omega
  replace p0_0 := p0.cell (i := 0) rfl
  replace p0_1 := p0.cell (i := 1) rfl
  replace p0_f0 := p0.free 0
  replace p0_f1 := p0.free 1
  replace p0_lt := p0.lt
  replace p1_0 := p1.cell (i := 0) rfl
  replace p1_1 := p1.cell (i := 1) rfl
  replace p1_f0 := p1.free 0
  replace p1_f1 := p1.free 1
  replace p1_lt := p1.lt
  replace r_0 := r.cell (i := 0) rfl
  replace r_1 := r.cell (i := 1) rfl
  replace r_f0 := r.free 0
  replace r_f1 := r.free 1
  replace r_lt := r.lt
  refine (cmp_any B W a a2 n c n2 c2 l l2 (h.ext (Nat.le_refl _) hEW) (h2.ext (Nat.le_refl _) hEW)).mono ?_
  rintro e w1 ⟨rfl, hE1⟩
  have hE0 := Ext.trans hEW hE1
  generalize cmpI (val l) (val l2) = z at *
  clear hlt hEW
  replace p0 := p0.ext hE1; replace p0_0 := p0.cell (i := 0) rfl; replace p0_1 := p0.cell (i := 1) rfl; replace p0_f0 := p0.free 0; replace p0_f1 := p0.free 1; replace p0_lt := p0.lt; replace p1 := p1.ext hE1; replace p1_0 := p1.cell (i := 0) rfl; replace p1_1 := p1.cell (i := 1) rfl; replace p1_f0 := p1.free 0; replace p1_f1 := p1.free 1; replace p1_lt := p1.lt; replace r := r.ext hE1; replace r_0 := r.cell (i := 0) rfl; replace r_1 := r.cell (i := 1) rfl; replace r_f0 := r.free 0; replace r_f1 := r.free 1; replace r_lt := r.lt
  clear hE1
  have hrB := r_lt
  have HH := Lib.hid h
  have HH2 := Lib.hid h2
  have HL := Lib.hid hle
  clear h h2 hle
  go_wp2_with fail
  refine (natSub_aux B w1 a a2 n c n2 c2 l l2 (HH.out.ext (Nat.le_refl _) hE0) (HH2.out.ext (Nat.le_refl _) hE0) hn hn2 _ _ (Lib.hid rfl) (Lib.hid rfl) HL.out).mono ?_
  rintro e w3 ⟨a3, n3, c3, rfl, h3, hE3⟩
  replace p0 := p0.ext hE3; replace p0_0 := p0.cell (i := 0) rfl; replace p0_1 := p0.cell (i := 1) rfl; replace p1 := p1.ext hE3; replace p1_0 := p1.cell (i := 0) rfl; replace p1_1 := p1.cell (i := 1) rfl; replace r := r.ext hE3; replace r_0 := r.cell (i := 0) rfl; replace r_1 := r.cell (i := 1) rfl; replace r_f0 := r.free 0; replace r_f1 := r.free 1; replace r_lt := r.lt
  have hE0 := Ext.trans hE0 hE3
  clear hE3
  go_wp2_with fail
  refine (make1_any _ _ _ _ _).mono ?_
  rintro e w4 ⟨rfl, hE4⟩
  replace p0 := p0.ext hE4; replace p0_0 := p0.cell (i := 0) rfl; replace p0_1 := p0.cell (i := 1) rfl; replace p1 := p1.ext hE4; replace p1_0 := p1.cell (i := 0) rfl; replace p1_1 := p1.cell (i := 1) rfl; replace r := r.ext hE4; replace r_0 := r.cell (i := 0) rfl; replace r_1 := r.cell (i := 1) rfl; replace r_f0 := r.free 0; replace r_f1 := r.free 1; replace r_lt := r.lt
  have HF := Lib.hid (RInt.box (w := w) (w2 := w4) (r := w.heap.size + 1 + 1) (u := .bool (b && decide (0 < n3))) (v := .slice a3 n3 c3) (by omega) hrB (Ext.trans hE0 hE4) (h3.ext (Nat.le_refl _) hE4) HZ.out rfl)
  clear hE0 hE4 h3
  have r2 : Blk (((w4).setCell ⟨w.heap.size + 1 + 1, 0, none⟩ (.bool (b && decide (0 < n3)))).setCell ⟨w.heap.size + 1 + 1, 1, none⟩ (.slice a3 n3 c3)) _ _ #[.bool (b && decide (0 < n3)), .slice a3 n3 c3] := ((r).set 0 (.bool (b && decide (0 < n3)))).set 1 (.slice a3 n3 c3)
  have hr0 := r2.cell (i := 0) rfl
  have hr1 := r2.cell (i := 1) rfl
  go_wp2_with fail
  exact bodyPost_ret (v := .agg #[.bool (b && decide (0 < n3)), .slice a3 n3 c3]) (by simp [results, Tryz.results128, go_sem, hr0, hr1]) rfl HF.out
theorem add_sgn (b : Bool) (l l2 : Nt) : ival b l + ival b l2 = if b then -((val l + val l2 : Nat) : Int) else ((val l + val l2 : Nat) : Int) := by
 cases b <;> simp [ival] <;> omega
set_option maxHeartbeats 1000000 in
theorem zintAdd_any (b b2 : Bool) (B : Nat) (w : World) (a a2 : Option Addr) (n c n2 c2 : Nat) (l l2 : Nt) (h : NatS B w a n c l) (h2 : NatS B w a2 n2 c2 l2) (hn : n ≤ 8796093022208) (hn2 : n2 ≤ 8796093022208) :
  Calls Tryz.prog 93 #[.agg #[.bool b, .slice a n c], .agg #[.bool b2, .slice a2 n2 c2]] w (RInt w (ival b l + ival b2 l2)) := by
 by_cases hb : b = b2
 ·subst hb
  have HZ := Lib.hid (add_sgn b l l2)
  go_enter Tryz.func93, Tryz.ntmps93
  go_wp2_with fail
  have p0 := Blk.new w 25 #[.bool b, .slice a n c]
  have p1 := Blk.new (w.alloc (Obj.cells #[.bool b, .slice a n c] 25)) 25 #[.bool b, .slice a2 n2 c2]
  replace p0 := p0.ext ((Below.refl _ _).alloc (Nat.le_refl _) (Obj.cells #[.bool b, .slice a2 n2 c2] 25))
  have r := Blk.new ((w.alloc (Obj.cells #[.bool b, .slice a n c] 25)).alloc (Obj.cells #[.bool b, .slice a2 n2 c2] 25)) 25 #[.bool false, .slice none 0 0]
  replace p0 := p0.ext ((Below.refl _ _).alloc (Nat.le_refl _) (Obj.cells #[.bool false, .slice none 0 0] 25))
  replace p1 := p1.ext ((Below.refl _ _).alloc (Nat.le_refl _) (Obj.cells #[.bool false, .slice none 0 0] 25))
  have hEW : Ext w (((w.alloc (Obj.cells #[.bool b, .slice a n c] 25)).alloc (Obj.cells #[.bool b, .slice a2 n2 c2] 25)).alloc (Obj.cells #[.bool false, .slice none 0 0] 25)) := ((((Below.refl _ w).alloc (by simp) _).alloc (by simp) _).alloc (by simp; omega) _)
  generalize hgW : ((w.alloc (Obj.cells #[.bool b, .slice a n c] 25)).alloc (Obj.cells #[.bool b, .slice a2 n2 c2] 25)).alloc (Obj.cells #[.bool false, .slice none 0 0] 25) = W at *
  clear hgW
  simp only [World.size_alloc] at p1 r
  have p0_ne_p1 : ¬ w.heap.size = w.heap.size + 1 := by omega
  have p0_ne_r : ¬ w.heap.size = w.heap.size + 1 + 1 := by omega
  have p1_ne_p0 : ¬ w.heap.size + 1 = w.heap.size := by omega
  have p1_ne_r : ¬ w.heap.size + 1 = w.heap.size + 1 + 1 := by omega
  have r_ne_p0 : ¬ w.heap.size + 1 + 1 = w.heap.size := by omega
  have r_ne_p1 : ¬ w.heap.size + 1 + 1 = w.heap.size + 1 := by omega
  replace p0_0 := p0.cell (i := 0) rfl
  replace p0_1 := p0.cell (i := 1) rfl
  replace p1_0 := p1.cell (i := 0) rfl
  replace p1_1 := p1.cell (i := 1) rfl
  replace r_0 := r.cell (i := 0) rfl
  replace r_1 := r.cell (i := 1) rfl
  replace r_f0 := r.free 0
  replace r_f1 := r.free 1
  replace r_lt := r.lt
  have hrB := r_lt
  have hd : Ext W W.drew := (Below.refl _ _).drew
  have hE0 := hd
  have h := h.ext (Nat.le_refl _) (Ext.trans hEW hd)
  have h2 := h2.ext (Nat.le_refl _) (Ext.trans hEW hd)
  replace p0 := p0.ext hd; replace p0_0 := p0.cell (i := 0) rfl; replace p0_1 := p0.cell (i := 1) rfl; replace p1 := p1.ext hd; replace p1_0 := p1.cell (i := 0) rfl; replace p1_1 := p1.cell (i := 1) rfl; replace r := r.ext hd; replace r_0 := r.cell (i := 0) rfl; replace r_1 := r.cell (i := 1) rfl; replace r_f0 := r.free 0; replace r_f1 := r.free 1; replace r_lt := r.lt
  go_region_held3 (fun w' => w'.cell? ⟨w.heap.size, 0, none⟩ = some (.bool b) ∧ w'.cell? ⟨w.heap.size, 1, none⟩ = some (.slice a n c) ∧ w'.cell? ⟨w.heap.size + 1, 0, none⟩ = some (.bool b) ∧ w'.cell? ⟨w.heap.size + 1, 1, none⟩ = some (.slice a2 n2 c2)) (first | exact ⟨p0_0, p0_1, p1_0, p1_1⟩ | go_keep)
   (first | (go_at_call 127; refine (natAdd_any B _ _ _ _ _ _ _ l l2 h h2 hn hn2).mono ?_; rintro e w1 ⟨a3, n3, c3, rfl, h3, hE1⟩; replace p0 := p0.ext hE1; replace p0_0 := p0.cell (i := 0) rfl; replace p0_1 := p0.cell (i := 1) rfl; replace p1 := p1.ext hE1; replace p1_0 := p1.cell (i := 0) rfl; replace p1_1 := p1.cell (i := 1) rfl; replace r := r.ext hE1; replace r_0 := r.cell (i := 0) rfl; replace r_1 := r.cell (i := 1) rfl; replace r_f0 := r.free 0; replace r_f1 := r.free 1; replace r_lt := r.lt; have h3 := h3.mono hE0.size (Kept.refl _ _); have hE0 := Ext.trans hE0 hE1)
          | (go_at_call 106; refine (make1_any _ _ _ _ _).mono ?_; rintro e w3 ⟨rfl, hE3⟩; replace p0 := p0.ext hE3; replace p0_0 := p0.cell (i := 0) rfl; replace p0_1 := p0.cell (i := 1) rfl; replace p1 := p1.ext hE3; replace p1_0 := p1.cell (i := 0) rfl; replace p1_1 := p1.cell (i := 1) rfl; replace r := r.ext hE3; replace r_0 := r.cell (i := 0) rfl; replace r_1 := r.cell (i := 1) rfl; replace r_f0 := r.free 0; replace r_f1 := r.free 1; replace r_lt := r.lt; have h3 := h3.ext (Nat.le_refl _) hE3; have hE0 := Ext.trans hE0 hE3))
  all_goals
   have HF := Lib.hid (RInt.box (w := w) (w2 := w3) (r := w.heap.size + 1 + 1) (u := .bool (b && decide (0 < n3))) (v := .slice a3 n3 c3) (by omega) hrB (Ext.trans hEW hE0) h3 HZ.out rfl)
   clear h h2 h3 hE0 hEW
   have r2 : Blk (((w3).setCell ⟨w.heap.size + 1 + 1, 0, none⟩ (.bool (b && decide (0 < n3)))).setCell ⟨w.heap.size + 1 + 1, 1, none⟩ (.slice a3 n3 c3)) _ _ #[.bool (b && decide (0 < n3)), .slice a3 n3 c3] := ((r).set 0 (.bool (b && decide (0 < n3)))).set 1 (.slice a3 n3 c3)
   generalize ((w3).setCell ⟨w.heap.size + 1 + 1, 0, none⟩ (.bool (b && decide (0 < n3)))).setCell ⟨w.heap.size + 1 + 1, 1, none⟩ (.slice a3 n3 c3) = W3 at *
   have hr0 := r2.cell (i := 0) rfl
   have hr1 := r2.cell (i := 1) rfl
   go_wp2_with fail
   exact bodyPost_ret (v := .agg #[.bool (b && decide (0 < n3)), .slice a3 n3 c3]) (by simp [results, Tryz.results93, go_sem, hr0, hr1]) rfl HF.out
 ·obtain rfl : b2 = !b := by cases b <;> cases b2 <;> simp at *
  have hbb : (b == !b) = false := by cases b <;> rfl
  go_enter Tryz.func93, Tryz.ntmps93
  go_wp2_with fail
  have p0 := Blk.new w 25 #[.bool b, .slice a n c]
  have p1 := Blk.new (w.alloc (Obj.cells #[.bool b, .slice a n c] 25)) 25 #[.bool (!b), .slice a2 n2 c2]
  replace p0 := p0.ext ((Below.refl _ _).alloc (Nat.le_refl _) (Obj.cells #[.bool (!b), .slice a2 n2 c2] 25))
  have r := Blk.new ((w.alloc (Obj.cells #[.bool b, .slice a n c] 25)).alloc (Obj.cells #[.bool (!b), .slice a2 n2 c2] 25)) 25 #[.bool false, .slice none 0 0]
  replace p0 := p0.ext ((Below.refl _ _).alloc (Nat.le_refl _) (Obj.cells #[.bool false, .slice none 0 0] 25))
  replace p1 := p1.ext ((Below.refl _ _).alloc (Nat.le_refl _) (Obj.cells #[.bool false, .slice none 0 0] 25))
  have hEW : Ext w (((w.alloc (Obj.cells #[.bool b, .slice a n c] 25)).alloc (Obj.cells #[.bool (!b), .slice a2 n2 c2] 25)).alloc (Obj.cells #[.bool false, .slice none 0 0] 25)) := ((((Below.refl _ w).alloc (by simp) _).alloc (by simp) _).alloc (by simp; omega) _)
  generalize hgW : ((w.alloc (Obj.cells #[.bool b, .slice a n c] 25)).alloc (Obj.cells #[.bool (!b), .slice a2 n2 c2] 25)).alloc (Obj.cells #[.bool false, .slice none 0 0] 25) = W at *
  clear hgW
  simp only [World.size_alloc] at p1 r
  have p0_ne_p1 : ¬ w.heap.size = w.heap.size + 1 := by omega
  have p0_ne_r : ¬ w.heap.size = w.heap.size + 1 + 1 := by omega
  have p1_ne_p0 : ¬ w.heap.size + 1 = w.heap.size := by omega
  have p1_ne_r : ¬ w.heap.size + 1 = w.heap.size + 1 + 1 := by omega
  have r_ne_p0 : ¬ w.heap.size + 1 + 1 = w.heap.size := by omega
  have r_ne_p1 : ¬ w.heap.size + 1 + 1 = w.heap.size + 1 := by omega
  replace p0_0 := p0.cell (i := 0) rfl
  replace p0_1 := p0.cell (i := 1) rfl
  replace p1_0 := p1.cell (i := 0) rfl
  replace p1_1 := p1.cell (i := 1) rfl
  replace r_0 := r.cell (i := 0) rfl
  replace r_1 := r.cell (i := 1) rfl
  replace r_f0 := r.free 0
  replace r_f1 := r.free 1
  replace r_lt := r.lt
  have hrB := r_lt
  refine (zjoined_any b B W a a2 n c n2 c2 l l2 (h.ext (Nat.le_refl _) hEW) (h2.ext (Nat.le_refl _) hEW) hn hn2).mono ?_
  rintro e w1 ⟨a3, n3, c3, rfl, h3, hE1⟩
  replace p0 := p0.ext hE1; replace p0_0 := p0.cell (i := 0) rfl; replace p0_1 := p0.cell (i := 1) rfl; replace p1 := p1.ext hE1; replace p1_0 := p1.cell (i := 0) rfl; replace p1_1 := p1.cell (i := 1) rfl; replace r := r.ext hE1; replace r_0 := r.cell (i := 0) rfl; replace r_1 := r.cell (i := 1) rfl; replace r_f0 := r.free 0; replace r_f1 := r.free 1; replace r_lt := r.lt
  have HF := Lib.hid (RInt.boxN (w := w) (w2 := w1) (r := w.heap.size + 1 + 1) (u1 := .bool (decide (ival b l + ival (!b) l2 < 0))) (u2 := .slice a3 n3 c3) (by omega) hrB (Ext.trans hEW hE1) ⟨a3, n3, c3, rfl, h3⟩)
  generalize ival b l + ival (!b) l2 = z at *
  clear hEW hE1 h h2 h3
  have r2 : Blk (((w1).setCell ⟨w.heap.size + 1 + 1, 0, none⟩ (.bool (decide (z < 0)))).setCell ⟨w.heap.size + 1 + 1, 1, none⟩ (.slice a3 n3 c3)) _ _ #[.bool (decide (z < 0)), .slice a3 n3 c3] := ((r).set 0 (.bool (decide (z < 0)))).set 1 (.slice a3 n3 c3)
  have hr0 := r2.cell (i := 0) rfl
  have hr1 := r2.cell (i := 1) rfl
  go_wp2_with fail
  exact bodyPost_ret (v := .agg #[.bool (decide (z < 0)), .slice a3 n3 c3]) (by simp [results, Tryz.results93, go_sem, hr0, hr1]) rfl HF.out
end Go.Proofs.YtbhenelehhiakaaGreat
namespace Go.Proofs.YtbhenelehhiakaaGreat
open Go.RowKit
theorem rInt_ok {B : Nat} {w : World} {cs : List Value} {x : It} (h : rInt.ok B w cs x) : ∃ a n c, cs = [.bool x.1, .slice a n c] ∧ NatS B w a n c x.2 := by
 obtain ⟨c1, c2, rfl, h1, a, n, c, rfl, h2⟩ := h
 cases h1
 exact ⟨a, n, c, rfl, h2⟩
theorem rInt_mk {B : Nat} {w : World} {b : Bool} {l : Nt} {a : Option Addr} {n c : Nat} (h : NatS B w a n c l) : rInt.ok B w [.bool b, .slice a n c] (b, l) := ⟨[.bool b], [.slice a n c], rfl, rfl, a, n, c, rfl, h⟩
theorem ints_pos {B : Nat} {w : World} {a : Option Addr} {n c : Nat} {xs : List It} (h : Sl rInt B w a n c xs) (hn : 0 < n) : ∃ b o, a = some ⟨b, o, none⟩ ∧ B ≤ b ∧ b < w.heap.size ∧
  (∀ i (hi : i < xs.length), ∃ a1 n1 c1, w.cell? ⟨b, o + i * 2, none⟩ = some (.bool xs[i].1) ∧ w.cell? ⟨b, o + i * 2 + 1, none⟩ = some (.slice a1 n1 c1) ∧ NatS B w a1 n1 c1 xs[i].2) := by
 obtain ⟨b, o, cs, ha, hr, hc⟩ := h.at_ 0 (by rw [h.len]; exact hn)
 obtain ⟨a1, n1, c1, rfl, h1⟩ := rInt_ok hr
 have h0 := hc 0 (by simp)
 refine ⟨b, o, ha, h0.ge, cel_lt h0, fun i hi => ?_⟩
 obtain ⟨b', o', cs', ha', hr', hc'⟩ := h.at_ i hi
 rw [ha] at ha'
 cases ha'
 obtain ⟨a2, n2, c2, rfl, h2⟩ := rInt_ok hr'
 have e : rInt.size = 2 := rfl
 rw [e] at hc'
 exact ⟨a2, n2, c2, (hc' 0 (by simp)).cell, (hc' 1 (by simp)).cell, h2⟩
def iv (x : It) : Int := ival x.1 x.2
def foldZ (g : Int → Int → Int) (z : Int) (xs : List It) : Int := xs.foldl (fun z x => g z (iv x)) z
theorem foldZ_take (g : Int → Int → Int) (z : Int) (xs : List It) (i : Nat) (hi : i < xs.length) : foldZ g z (xs.take (i + 1)) = g (foldZ g z (xs.take i)) (iv xs[i]) := by
 unfold foldZ
 rw [List.take_succ_eq_append_getElem hi, List.foldl_append]
 rfl
def OpOf (P : Program) (f : Nat) (g : Int → Int → Int) : Prop := ∀ (b b2 : Bool) (B : Nat) (w : World) (a a2 : Option Addr) (n c n2 c2 : Nat) (l l2 : Nt), NatS B w a n c l → NatS B w a2 n2 c2 l2 → n ≤ 8796093022208 → n2 ≤ 8796093022208 →
 Calls P f #[.agg #[.bool b, .slice a n c], .agg #[.bool b2, .slice a2 n2 c2]] w (RInt w (g (ival b l) (ival b2 l2)))
set_option maxHeartbeats 1000000 in
theorem folded_any (f : Nat) (g : Int → Int → Int) (hen : Enters Tryz.prog f) (hop : Hid (OpOf Tryz.prog f g)) (B : Nat) (w : World) (b : Bool) (a a2 : Option Addr) (n c n2 c2 : Nat) (l : Nt) (xs : List It) (h : NatS B w a n c l) (h2 : Sl rInt B w a2 n2 c2 xs)
  (hn2 : n2 ≤ 8796093022208) (hp : 0 < n2) (hx : ∀ x ∈ xs, x.2.length ≤ 8796093022208) (hn : n ≤ 8796093022208) (hz : ∀ j, j < n2 → nl (foldZ g (ival b l) (xs.take j)).natAbs ≤ 8796093022208) :
  Calls Tryz.prog 108 #[.agg #[.bool b, .slice a n c], .slice a2 n2 c2, .func (.func f) #[] #[]] w (RInt w (foldZ g (ival b l) xs)) := by
 obtain ⟨xb, xo, rfl, hxB, hxl, hxc⟩ := ints_pos h2 hp
 have hlen : xs.length = n2 := h2.len
 have hen' : ∀ args w, (callFunc f args).run Tryz.prog w = .ok (.enter f args) w := hen
 clear hen
 go_enter Tryz.func108, Tryz.ntmps108
 go_wp2_with fail
 have p0 := Blk.new w 25 #[.bool b, .slice a n c]
 have r := Blk.new (w.alloc (Obj.cells #[.bool b, .slice a n c] 25)) 25 #[.bool false, .slice none 0 0]
 replace p0 := p0.ext ((Below.refl _ _).alloc (Nat.le_refl _) (Obj.cells #[.bool false, .slice none 0 0] 25))
 have hEW : Ext w ((w.alloc (Obj.cells #[.bool b, .slice a n c] 25)).alloc (Obj.cells #[.bool false, .slice none 0 0] 25)) := (((Below.refl _ w).alloc (by simp) _).alloc (by simp) _)
 generalize hgW : (w.alloc (Obj.cells #[.bool b, .slice a n c] 25)).alloc (Obj.cells #[.bool false, .slice none 0 0] 25) = W at *
 clear hgW
 simp only [World.size_alloc] at r
 have p0_ne_r : ¬ w.heap.size = w.heap.size + 1 := by omega
 have r_ne_p0 : ¬ w.heap.size + 1 = w.heap.size := by omega
 replace p0_0 := p0.cell (i := 0) rfl
 replace p0_1 := p0.cell (i := 1) rfl
 replace p0_f0 := p0.free 0
 replace p0_f1 := p0.free 1
 replace p0_lt := p0.lt
 replace r_0 := r.cell (i := 0) rfl
 replace r_1 := r.cell (i := 1) rfl
 replace r_f0 := r.free 0
 replace r_f1 := r.free 1
 replace r_lt := r.lt
 have hrB := r_lt
 have HX := Lib.hid hxc
 have HL := Lib.hid hlen
 have HH := Lib.hid h
 have HZ := Lib.hid hz
 have HXS := Lib.hid hx
 clear hxc hlen h h2 hz hx
 go_loopg [11] n2 (fun k vi wr => ∃ (j : Nat) (b3 : Bool) (a3 : Option Addr) (n3 c3 : Nat) (l3 : Nt), j ≤ n2 ∧ k = n2 - j ∧ vi = .int .i64 (j : Int) ∧ (j < n2 → n3 ≤ 8796093022208) ∧ Hid (Blk wr w.heap.size 25 #[.bool b3, .slice a3 n3 c3]) ∧ Hid (Blk wr (w.heap.size + 1) 25 #[.bool false, .slice none 0 0]) ∧ Hid (NatS 0 wr a3 n3 c3 l3 ∧ ival b3 l3 = foldZ g (ival b l) (xs.take j) ∧ (0 < j → IntN (w.heap.size + 2) wr (.agg #[.bool b3, .slice a3 n3 c3]) (ival b3 l3))) ∧ Hid (Ext w wr))
 case atStart =>
  exact ⟨0, b, a, n, c, l, Nat.zero_le _, rfl, rfl, fun _ => hn, Lib.hid p0, Lib.hid r, Lib.hid ⟨HH.out.ext (Nat.zero_le _) hEW, rfl, fun h => absurd h (by omega)⟩, Lib.hid hEW⟩
 case round =>
  clear p0 r p0_0 p0_1 p0_f0 p0_f1 p0_lt r_0 r_1 r_f0 r_f1 r_lt hrB hEW
  obtain ⟨j, b3, a3, n3, c3, l3, hj, hk, rfl, hn3, hP, hR, hI, hE⟩ := hrel
  have p0 := hP.out
  have r := hR.out
  have hrB := r.lt
  replace p0_0 := p0.cell (i := 0) rfl
  replace p0_1 := p0.cell (i := 1) rfl
  replace p0_f0 := p0.free 0
  replace p0_f1 := p0.free 1
  replace p0_lt := p0.lt
  replace r_0 := r.cell (i := 0) rfl
  replace r_1 := r.cell (i := 1) rfl
  replace r_f0 := r.free 0
  replace r_f1 := r.free 1
  replace r_lt := r.lt
  by_cases hjn : j < n2
  ·obtain ⟨a4, n4, c4, he0, he1, hN4⟩ := HX.out j (by rw [HL.out]; exact hjn)
   have hxi : n4 ≤ 8796093022208 := by rw [← hN4.len]; exact HXS.out _ (List.getElem_mem _)
   have he0 := (hE.out.cell (p := ⟨xb, xo + j * 2, none⟩) hxl).trans he0
   have he1 := (hE.out.cell (p := ⟨xb, xo + j * 2 + 1, none⟩) hxl).trans he1
   generalize hxj : xs[j]'(by rw [HL.out]; exact hjn) = xj at *
   have HXJ := Lib.hid hxj
   have HN4 := Lib.hid hN4
   clear hxj hN4
   obtain ⟨b4, l4⟩ := xj
   simp only at he0 he1
   go_wp2_with fail
   have x := Blk.new wr 25 #[.bool b4, .slice a4 n4 c4]
   have hEW1 : Ext wr (wr.alloc (Obj.cells #[.bool b4, .slice a4 n4 c4] 25)) := ((Below.refl _ wr).alloc (by simp) _)
   generalize hgW1 : wr.alloc (Obj.cells #[.bool b4, .slice a4 n4 c4] 25) = W1 at *
   clear hgW1
   replace x_0 := x.cell (i := 0) rfl
   replace x_1 := x.cell (i := 1) rfl
   have hE1 := Ext.trans hE.out hEW1
   refine (hop.out b3 b4 0 W1 a3 a4 n3 c3 n4 c4 l3 l4 (hI.out.1.ext (Nat.le_refl _) hEW1) (HN4.out.ext (Nat.zero_le _) hE1) (hn3 hjn) hxi).mono ?_
   rintro e w2 ⟨a5, n5, c5, rfl, h5, hE5⟩
   have hE2 := Ext.trans hEW1 hE5
   replace p0 := p0.ext hE2; replace p0_0 := p0.cell (i := 0) rfl; replace p0_1 := p0.cell (i := 1) rfl; replace p0_f0 := p0.free 0; replace p0_f1 := p0.free 1; replace p0_lt := p0.lt; replace r := r.ext hE2; replace r_0 := r.cell (i := 0) rfl; replace r_1 := r.cell (i := 1) rfl; replace r_f0 := r.free 0; replace r_f1 := r.free 1; replace r_lt := r.lt
   have hgz : g (ival b3 l3) (ival b4 l4) = foldZ g (ival b l) (xs.take (j + 1)) := by
    rw [foldZ_take g _ xs j (by rw [HL.out]; exact hjn), hI.out.2.1, HXJ.out]; rfl
   have hWs : w.heap.size + 2 ≤ W1.heap.size := by have := hEW1.size; omega
   have hn5 : j + 1 < n2 → n5 ≤ 8796093022208 := fun h => by
    have := HZ.out (j + 1) h
    rw [← hgz] at this
    have := h5.len
    rw [length_limbs] at this; omega
   rw [hgz] at h5
   generalize hz1 : foldZ g (ival b l) (xs.take (j + 1)) = z1 at *
   have HZ1 := Lib.hid hz1
   have HGZ := Lib.hid hgz
   have HR := Lib.hid (Ext.trans hE1 hE5)
   have H5 := Lib.hid h5
   clear hz1 hgz hE1 hE2 hE5 h5 hEW1
   go_wp2_with fail
   replace p0 := p0.set 0 (.bool (decide (g (ival b3 l3) (ival b4 l4) < 0)))
   replace r := r.set_ne 0 (.bool (decide (g (ival b3 l3) (ival b4 l4) < 0))) (show w.heap.size + 1 ≠ w.heap.size by omega)
   replace p0 := p0.set 1 (.slice a5 n5 c5)
   replace r := r.set_ne 1 (.slice a5 n5 c5) (show w.heap.size + 1 ≠ w.heap.size by omega)
   have hKW3 : ∀ bB_ : Nat, w.heap.size < bB_ → Kept bB_ w2 (((w2).setCell ⟨w.heap.size, 0, none⟩ (.bool (decide (g (ival b3 l3) (ival b4 l4) < 0)))).setCell ⟨w.heap.size, 1, none⟩ (.slice a5 n5 c5)) := fun bB_ h0 => (Kept.trans (kept_set _ _ _ h0) (kept_set _ _ _ h0))
   have hzW3 : w2.heap.size ≤ (((w2).setCell ⟨w.heap.size, 0, none⟩ (.bool (decide (g (ival b3 l3) (ival b4 l4) < 0)))).setCell ⟨w.heap.size, 1, none⟩ (.slice a5 n5 c5)).heap.size := by simp only [World.setCell, Array.size_modify]; exact Nat.le_refl _
   have hSW3 : ∀ (nB_ : Nat) (uB_ : World), nB_ ≤ w.heap.size → Below nB_ uB_ w2 → Below nB_ uB_ (((w2).setCell ⟨w.heap.size, 0, none⟩ (.bool (decide (g (ival b3 l3) (ival b4 l4) < 0)))).setCell ⟨w.heap.size, 1, none⟩ (.slice a5 n5 c5)) := fun nB_ uB_ h0 hb => (Below.setCell (Below.setCell hb (p := ⟨w.heap.size, 0, none⟩) h0 (.bool (decide (g (ival b3 l3) (ival b4 l4) < 0)))) (p := ⟨w.heap.size, 1, none⟩) h0 (.slice a5 n5 c5))
   replace p0 : Blk (((w2).setCell ⟨w.heap.size, 0, none⟩ (.bool (decide (g (ival b3 l3) (ival b4 l4) < 0)))).setCell ⟨w.heap.size, 1, none⟩ (.slice a5 n5 c5)) (w.heap.size) 25 #[.bool (decide (g (ival b3 l3) (ival b4 l4) < 0)), .slice a5 n5 c5] := p0
   generalize hgW3 : ((w2).setCell ⟨w.heap.size, 0, none⟩ (.bool (decide (g (ival b3 l3) (ival b4 l4) < 0)))).setCell ⟨w.heap.size, 1, none⟩ (.slice a5 n5 c5) = W3 at *
   clear hgW3
   replace p0_0 := p0.cell (i := 0) rfl
   replace p0_1 := p0.cell (i := 1) rfl
   replace p0_f0 := p0.free 0
   replace p0_f1 := p0.free 1
   replace p0_lt := p0.lt
   replace r_0 := r.cell (i := 0) rfl
   replace r_1 := r.cell (i := 1) rfl
   replace r_f0 := r.free 0
   replace r_f1 := r.free 1
   replace r_lt := r.lt
   have H6 := H5.out.mono (Nat.le_refl _) (hKW3 _ (by omega))
   have hE3 := hSW3 w.heap.size w (Nat.le_refl _) HR.out
   go_roundg (n2 - (j + 1))
   case measure => omega
   case rel =>
    refine ⟨j + 1, _, a5, n5, c5, limbs z1.natAbs, by omega, rfl, by go_num, hn5, Lib.hid p0, Lib.hid r, Lib.hid ⟨H6.mono (Nat.zero_le _) (Kept.refl _ _), ?_, fun _ => ?_⟩, Lib.hid hE3⟩
    ·rw [HZ1.out, HGZ.out, ival_norm]
    ·rw [HGZ.out, ival_norm]
     exact ⟨a5, n5, c5, rfl, H6.mono hWs (Kept.refl _ _)⟩
  ·obtain rfl : j = n2 := by omega
   have hN := hI.out.2.2 hp
   have hzz := hI.out.2.1
   rw [List.take_of_length_le (by rw [HL.out]; omega)] at hzz
   rw [hzz] at hN
   have HF := Lib.hid (RInt.boxN (w := w) (r := w.heap.size + 1) (u1 := .bool b3) (u2 := .slice a3 n3 c3) (by omega) (by omega) hE.out hN)
   clear hN hzz
   have r2 : Blk (((wr).setCell ⟨w.heap.size + 1, 0, none⟩ (.bool b3)).setCell ⟨w.heap.size + 1, 1, none⟩ (.slice a3 n3 c3)) _ _ #[.bool b3, .slice a3 n3 c3] := ((r).set 0 (.bool b3)).set 1 (.slice a3 n3 c3)
   have hr0 := r2.cell (i := 0) rfl
   have hr1 := r2.cell (i := 1) rfl
   go_wp2_with fail
   exact bodyPost_ret (v := .agg #[.bool b3, .slice a3 n3 c3]) (by simp [results, Tryz.results108, go_sem, hr0, hr1]) rfl HF.out
end Go.Proofs.YtbhenelehhiakaaGreat
namespace Go.Proofs.YtbhenelehhiakaaGreat
open Go.RowKit
theorem hnorm (z : Int) : Hid (ival (decide (z < 0)) (limbs z.natAbs) = z) := Lib.hid (ival_norm z)
theorem zintMul_z (b b2 : Bool) (B : Nat) (w : World) (a a2 : Option Addr) (n c n2 c2 : Nat) (l l2 : Nt) (z z2 : Int) (h : NatS B w a n c l) (h2 : NatS B w a2 n2 c2 l2) (hn : n ≤ 8796093022208) (hn2 : n2 ≤ 8796093022208) (hz : Hid (ival b l = z)) (hz2 : Hid (ival b2 l2 = z2)) :
  Calls Tryz.prog 71 #[.agg #[.bool b, .slice a n c], .agg #[.bool b2, .slice a2 n2 c2]] w (RInt w (z * z2)) := by
 have := zintMul_any b b2 B w a a2 n c n2 c2 l l2 h h2 hn hn2
 rwa [hz.out, hz2.out] at this
theorem zintAdd_z (b b2 : Bool) (B : Nat) (w : World) (a a2 : Option Addr) (n c n2 c2 : Nat) (l l2 : Nt) (z z2 : Int) (h : NatS B w a n c l) (h2 : NatS B w a2 n2 c2 l2) (hn : n ≤ 8796093022208) (hn2 : n2 ≤ 8796093022208) (hz : Hid (ival b l = z)) (hz2 : Hid (ival b2 l2 = z2)) :
  Calls Tryz.prog 93 #[.agg #[.bool b, .slice a n c], .agg #[.bool b2, .slice a2 n2 c2]] w (RInt w (z + z2)) := by
 have := zintAdd_any b b2 B w a a2 n c n2 c2 l l2 h h2 hn hn2
 rwa [hz.out, hz2.out] at this
theorem zintAbs_z (b : Bool) (B : Nat) (w : World) (a : Option Addr) (n c : Nat) (l : Nt) (z : Int) (h : NatS B w a n c l) (hn : n ≤ 17592186044416) (hz : Hid (ival b l = z)) :
  Calls Tryz.prog 111 #[.agg #[.bool b, .slice a n c]] w (RInt w z.natAbs) := by
 have := zintAbs_any b B w a n c l h hn
 rwa [hz.out] at this
theorem zintNeg_z (b : Bool) (B : Nat) (w : World) (a : Option Addr) (n c : Nat) (l : Nt) (z : Int) (h : NatS B w a n c l) (hn : n ≤ 17592186044416) (hz : Hid (ival b l = z)) :
  Calls Tryz.prog 112 #[.agg #[.bool b, .slice a n c]] w (RInt w (-z)) := by
 have := zintNeg_any b B w a n c l h hn
 rwa [hz.out] at this
theorem zintSign_z (b : Bool) (B : Nat) (w : World) (a : Option Addr) (n c : Nat) (l : Nt) (z : Int) (h : NatS B w a n c l) (hn : n ≤ 17592186044416) (hz : Hid (ival b l = z)) :
  Calls Tryz.prog 86 #[.agg #[.bool b, .slice a n c]] w fun e w' => e = .returned (.int .i64 z.sign) ∧ Ext w w' := by
 have := zintSign_any b B w a n c l h hn
 rwa [hz.out] at this
theorem zintExact_z (b b2 : Bool) (B : Nat) (w : World) (a a2 : Option Addr) (n c n2 c2 : Nat) (l l2 : Nt) (z z2 : Int) (h : NatS B w a n c l) (h2 : NatS B w a2 n2 c2 l2) (hn : n ≤ 8796093022208) (hz : Hid (ival b l = z)) (hz2 : Hid (ival b2 l2 = z2)) (h0 : z2 ≠ 0) (hdv : z2 ∣ z) :
  Calls Tryz.prog 70 #[.agg #[.bool b, .slice a n c], .agg #[.bool b2, .slice a2 n2 c2]] w fun e w' => ∃ v, e = .returned (.tuple #[v, .int .i64 0]) ∧ IntN w.heap.size w' v (z / z2) ∧ Ext w w' := by
 have hp : 0 < val l2 := by
  have := hz2.out
  cases Nat.eq_zero_or_pos (val l2) with
  | inl h => exfalso; apply h0; rw [← this]; unfold ival; rw [h]; cases b2 <;> rfl
  | inr h => exact h
 have := zintExact_any b b2 B w a a2 n c n2 c2 l l2 h h2 hn hp (by rw [hz.out, hz2.out]; exact hdv)
 rwa [hz.out, hz2.out, Int.tdiv_eq_ediv_of_dvd hdv] at this
theorem zgcd_z (b b2 : Bool) (B : Nat) (w : World) (a a2 : Option Addr) (n c n2 c2 : Nat) (l l2 : Nt) (z z2 : Int) (h : NatS B w a n c l) (h2 : NatS B w a2 n2 c2 l2) (hn : n ≤ 8796093022208) (hn2 : n2 ≤ 8796093022208) (hz : Hid (ival b l = z)) (hz2 : Hid (ival b2 l2 = z2)) :
  Calls Tryz.prog 135 #[.agg #[.bool b, .slice a n c], .agg #[.bool b2, .slice a2 n2 c2]] w (RInt w (Int.gcd z z2)) := by
 have := zgcd_any b b2 B w a a2 n c n2 c2 l l2 h h2 hn hn2
 rwa [hz.out, hz2.out] at this
theorem nl_of {B : Nat} {w : World} {a : Option Addr} {n c : Nat} {l : Nt} {b : Bool} {z : Int} (h : NatS B w a n c l) (hz : Hid (ival b l = z)) : nl z.natAbs ≤ n := by
 rw [← hz.out, ival_neg rfl, ← h.len]
 exact nl_val h.small
theorem len_norm {B : Nat} {w : World} {a : Option Addr} {n c m : Nat} (h : NatS B w a n c (limbs m)) : n = nl m := by rw [← h.len, length_limbs]
theorem nl_gcd {z z2 : Int} {K : Nat} (h : nl z.natAbs ≤ K) (h2 : nl z2.natAbs ≤ K) : nl (Int.gcd z z2) ≤ K := by
 by_cases h0 : z = 0
 ·subst h0; rw [Int.gcd_zero_left]; exact h2
 ·exact Nat.le_trans (nl_mono (Nat.le_of_dvd (by omega) (Int.gcd_dvd_natAbs_left z z2))) h
end Go.Proofs.YtbhenelehhiakaaGreat
namespace Go.Proofs.YtbhenelehhiakaaGreat
open Go.RowKit
def gcdI (x y : Int) : Int := (Int.gcd x y : Nat)
theorem op_gcd : OpOf Tryz.prog 135 gcdI := fun b b2 B w a a2 n c n2 c2 l l2 h h2 hn hn2 => zgcd_z b b2 B w a a2 n c n2 c2 l l2 _ _ h h2 hn hn2 (Lib.hid rfl) (Lib.hid rfl)
theorem foldZ_two (g : Int → Int → Int) (z : Int) (x y : It) : foldZ g z [x, y] = g (g z (iv x)) (iv y) := rfl
set_option maxHeartbeats 1000000 in
theorem zintGcd_any (B : Nat) (w : World) (a2 : Option Addr) (n2 c2 : Nat) (x y : It) (h2 : Sl rInt B w a2 n2 c2 [x, y]) (hx : x.2.length ≤ 8796093022208) (hy : y.2.length ≤ 8796093022208) (z1 z2 : Int) (hz1 : Hid (iv x = z1)) (hz2 : Hid (iv y = z2)) :
  Calls Tryz.prog 110 #[.slice a2 n2 c2] w (RInt w (Int.gcd z1 z2)) := by
 obtain rfl : 2 = n2 := h2.len
 have hen : Enters Tryz.prog 135 := enters_mk Tryz.func135 (by kernel_rfl) rfl
 have hf : foldZ gcdI 0 [x, y] = (Int.gcd z1 z2 : Nat) := by
  rw [foldZ_two, hz1.out, hz2.out]; unfold gcdI; rw [Int.gcd_zero_left]; simp [Int.gcd]
 have hxn : nl (iv x).natAbs ≤ 8796093022208 := by
  have : nl (val x.2) ≤ x.2.length := nl_val (by
   obtain ⟨b, o, cs, ha, hr, hc⟩ := h2.at_ 0 (by simp)
   obtain ⟨a1, n1, c1, _, h⟩ := rInt_ok hr
   exact h.small)
  unfold iv; rw [ival_neg rfl]; omega
 go_enter Tryz.func110, Tryz.ntmps110
 go_wp2_with fail
 have r := Blk.new w 25 #[.bool false, .slice none 0 0]
 have hEW : Ext w (w.alloc (Obj.cells #[.bool false, .slice none 0 0] 25)) := ((Below.refl _ w).alloc (by simp) _)
 generalize hgW : w.alloc (Obj.cells #[.bool false, .slice none 0 0] 25) = W at *
 clear hgW
 replace r_0 := r.cell (i := 0) rfl
 replace r_1 := r.cell (i := 1) rfl
 replace r_f0 := r.free 0
 replace r_f1 := r.free 1
 replace r_lt := r.lt
 have hrB := r_lt
 have hm : ∀ u ∈ [x, y], u.2.length ≤ 8796093022208 := by intro u hu; simp only [List.mem_cons, List.not_mem_nil, or_false] at hu; obtain rfl | rfl := hu <;> assumption
 refine (folded_any 135 gcdI hen (Lib.hid op_gcd) B W false none a2 0 0 2 c2 [] [x, y] (natS_nil _ _) (h2.ext (Nat.le_refl _) hEW) (by omega) (by omega) (by intro u hu; simp at hu; obtain rfl | rfl := hu <;> assumption) (by omega) ?_).mono ?_
 ·intro j hj
  obtain rfl | rfl : j = 0 ∨ j = 1 := by omega
  ·show nl (ival false []).natAbs ≤ _
   rw [show (ival false []).natAbs = 0 from rfl, nl_zero]; omega
  ·show nl (gcdI (ival false []) (iv x)).natAbs ≤ _
   unfold gcdI
   rw [show ival false [] = 0 from rfl, Int.gcd_zero_left, Int.natAbs_natCast]; exact hxn
 rw [show ival false [] = 0 from rfl, hf]
 rintro e w1 ⟨a3, n3, c3, rfl, h3, hE1⟩
 replace r := r.ext hE1; replace r_0 := r.cell (i := 0) rfl; replace r_1 := r.cell (i := 1) rfl; replace r_f0 := r.free 0; replace r_f1 := r.free 1; replace r_lt := r.lt
 have HF := Lib.hid (RInt.boxN (w := w) (w2 := w1) (r := w.heap.size) (u1 := .bool (decide (((Int.gcd z1 z2 : Nat) : Int) < 0))) (u2 := .slice a3 n3 c3) (by omega) hrB (Ext.trans hEW hE1) ⟨a3, n3, c3, rfl, h3⟩)
 generalize ((Int.gcd z1 z2 : Nat) : Int) = z at *
 clear hEW hE1 h3 h2 hf
 have r2 : Blk (((w1).setCell ⟨w.heap.size, 0, none⟩ (.bool (decide (z < 0)))).setCell ⟨w.heap.size, 1, none⟩ (.slice a3 n3 c3)) _ _ #[.bool (decide (z < 0)), .slice a3 n3 c3] := ((r).set 0 (.bool (decide (z < 0)))).set 1 (.slice a3 n3 c3)
 have hr0 := r2.cell (i := 0) rfl
 have hr1 := r2.cell (i := 1) rfl
 go_wp2_with fail
 exact bodyPost_ret (v := .agg #[.bool (decide (z < 0)), .slice a3 n3 c3]) (by simp [results, Tryz.results110, go_sem, hr0, hr1]) rfl HF.out
end Go.Proofs.YtbhenelehhiakaaGreat
namespace Go.Proofs.YtbhenelehhiakaaGreat
open Go.RowKit
set_option maxHeartbeats 1000000 in
theorem r3Norm_z (b : Bool) (B : Nat) (w : World) (a : Option Addr) (n c : Nat) (l : Nt) (z : Int) (h : NatS B w a n c l) (hn : n ≤ 17592186044416) (hz : Hid (ival b l = z)) :
  Calls Tryz.prog 142 #[.agg #[.bool b, .slice a n c]] w (RInt w z) := by
 have HS : Hid (z = if b then -((val l : Nat) : Int) else ((val l : Nat) : Int)) := Lib.hid hz.out.symm
 cases b
 all_goals
  go_enter Tryz.func142, Tryz.ntmps142
  go_wp2_with fail
 ·skip
  have p0 := Blk.new w 25 #[.bool false, .slice a n c]
  have r := Blk.new (w.alloc (Obj.cells #[.bool false, .slice a n c] 25)) 25 #[.bool false, .slice none 0 0]
  replace p0 := p0.ext ((Below.refl _ _).alloc (Nat.le_refl _) (Obj.cells #[.bool false, .slice none 0 0] 25))
  have hEW : Ext w ((w.alloc (Obj.cells #[.bool false, .slice a n c] 25)).alloc (Obj.cells #[.bool false, .slice none 0 0] 25)) := (((Below.refl _ w).alloc (by simp) _).alloc (by simp) _)
  generalize hgW : (w.alloc (Obj.cells #[.bool false, .slice a n c] 25)).alloc (Obj.cells #[.bool false, .slice none 0 0] 25) = W at *
  clear hgW
  simp only [World.size_alloc] at r
  have p0_ne_r : ¬ w.heap.size = w.heap.size + 1 := by omega
  have r_ne_p0 : ¬ w.heap.size + 1 = w.heap.size := by omega
  replace p0_0 := p0.cell (i := 0) rfl
  replace p0_1 := p0.cell (i := 1) rfl
  replace r_0 := r.cell (i := 0) rfl
  replace r_1 := r.cell (i := 1) rfl
  replace r_f0 := r.free 0
  replace r_f1 := r.free 1
  replace r_lt := r.lt
  have hrB := r_lt
  refine (r1Norm_any B W a n c l (h.ext (Nat.le_refl _) hEW) hn).mono ?_
  rintro e w1 ⟨a3, n3, c3, rfl, h3, hE1⟩
  replace p0 := p0.ext hE1; replace p0_0 := p0.cell (i := 0) rfl; replace p0_1 := p0.cell (i := 1) rfl; replace r := r.ext hE1; replace r_0 := r.cell (i := 0) rfl; replace r_1 := r.cell (i := 1) rfl; replace r_f0 := r.free 0; replace r_f1 := r.free 1; replace r_lt := r.lt
  have HF := Lib.hid (RInt.box (w := w) (w2 := w1) (r := w.heap.size + 1) (u := .bool false) (v := .slice a3 n3 c3) (b := false) (by omega) hrB (Ext.trans hEW hE1) h3 HS.out rfl)
  clear h h3 hE1 hEW
  go_wp2_with fail
  have r2 : Blk (((w1).setCell ⟨w.heap.size + 1, 0, none⟩ (.bool false)).setCell ⟨w.heap.size + 1, 1, none⟩ (.slice a3 n3 c3)) _ _ #[.bool false, .slice a3 n3 c3] := ((r).set 0 (.bool false)).set 1 (.slice a3 n3 c3)
  have hr0 := r2.cell (i := 0) rfl
  have hr1 := r2.cell (i := 1) rfl
  go_wp2_with fail
  exact bodyPost_ret (v := .agg #[.bool false, .slice a3 n3 c3]) (by simp [results, Tryz.results142, go_sem, hr0, hr1]) rfl HF.out
 ·skip
  have p0 := Blk.new w 25 #[.bool true, .slice a n c]
  have r := Blk.new (w.alloc (Obj.cells #[.bool true, .slice a n c] 25)) 25 #[.bool false, .slice none 0 0]
  replace p0 := p0.ext ((Below.refl _ _).alloc (Nat.le_refl _) (Obj.cells #[.bool false, .slice none 0 0] 25))
  have hEW : Ext w ((w.alloc (Obj.cells #[.bool true, .slice a n c] 25)).alloc (Obj.cells #[.bool false, .slice none 0 0] 25)) := (((Below.refl _ w).alloc (by simp) _).alloc (by simp) _)
  generalize hgW : (w.alloc (Obj.cells #[.bool true, .slice a n c] 25)).alloc (Obj.cells #[.bool false, .slice none 0 0] 25) = W at *
  clear hgW
  simp only [World.size_alloc] at r
  have p0_ne_r : ¬ w.heap.size = w.heap.size + 1 := by omega
  have r_ne_p0 : ¬ w.heap.size + 1 = w.heap.size := by omega
  replace p0_0 := p0.cell (i := 0) rfl
  replace p0_1 := p0.cell (i := 1) rfl
  replace r_0 := r.cell (i := 0) rfl
  replace r_1 := r.cell (i := 1) rfl
  replace r_f0 := r.free 0
  replace r_f1 := r.free 1
  replace r_lt := r.lt
  have hrB := r_lt
  refine (r1Norm_any B W a n c l (h.ext (Nat.le_refl _) hEW) hn).mono ?_
  rintro e w1 ⟨a3, n3, c3, rfl, h3, hE1⟩
  replace p0 := p0.ext hE1; replace p0_0 := p0.cell (i := 0) rfl; replace p0_1 := p0.cell (i := 1) rfl; replace r := r.ext hE1; replace r_0 := r.cell (i := 0) rfl; replace r_1 := r.cell (i := 1) rfl; replace r_f0 := r.free 0; replace r_f1 := r.free 1; replace r_lt := r.lt
  have HF := Lib.hid (RInt.box (w := w) (w2 := w1) (r := w.heap.size + 1) (u := .bool (decide (0 < n3))) (v := .slice a3 n3 c3) (b := decide (0 < n3)) (s := true) (by omega) hrB (Ext.trans hEW hE1) h3 HS.out rfl)
  clear h h3 hE1 hEW
  go_wp2_with fail
  have r2 : Blk (((w1).setCell ⟨w.heap.size + 1, 0, none⟩ (.bool (decide (0 < n3)))).setCell ⟨w.heap.size + 1, 1, none⟩ (.slice a3 n3 c3)) _ _ #[.bool (decide (0 < n3)), .slice a3 n3 c3] := ((r).set 0 (.bool (decide (0 < n3)))).set 1 (.slice a3 n3 c3)
  have hr0 := r2.cell (i := 0) rfl
  have hr1 := r2.cell (i := 1) rfl
  go_wp2_with fail
  exact bodyPost_ret (v := .agg #[.bool (decide (0 < n3)), .slice a3 n3 c3]) (by simp [results, Tryz.results142, go_sem, hr0, hr1]) rfl HF.out
set_option maxHeartbeats 1000000 in
theorem r3Of_any (n : Int) (w : World) (h1 : -9223372036854775808 ≤ n) (h2 : n ≤ 9223372036854775807) :
  Calls Tryz.prog 75 #[.int .i64 n] w (RInt w n) := by
 by_cases hn : n < 0
 ·obtain ⟨m, rfl⟩ : ∃ m : Nat, n = -(m : Int) := ⟨n.natAbs, by omega⟩
  have hm : 0 < m := by omega
  have e1 : IntKind.i64.wrap (-(m : Int) + 1) = -(m : Int) + 1 := (by first | (rw [IntKind.wrap_i64]; omega) | (rw [wrap_u64_eq]; omega))
  have e2 : IntKind.i64.wrap (-(-(m : Int) + 1)) = (m : Int) - 1 := (by first | (rw [IntKind.wrap_i64]; omega) | (rw [wrap_u64_eq]; omega))
  have e3 : IntKind.u64.wrap ((m : Int) - 1) = (m : Int) - 1 := (by first | (rw [IntKind.wrap_i64]; omega) | (rw [wrap_u64_eq]; omega))
  have e4 : IntKind.u64.wrap ((m : Int) - 1 + 1) = (m : Int) := (by first | (rw [IntKind.wrap_i64]; omega) | (rw [wrap_u64_eq]; omega))
  go_enter Tryz.func75, Tryz.ntmps75
  go_wp2_with fail
  have r := Blk.new w 25 #[.bool false, .slice none 0 0]
  have hEW : Ext w (w.alloc (Obj.cells #[.bool false, .slice none 0 0] 25)) := ((Below.refl _ w).alloc (by simp) _)
  generalize hgW : w.alloc (Obj.cells #[.bool false, .slice none 0 0] 25) = W at *
  clear hgW
  replace r_0 := r.cell (i := 0) rfl
  replace r_1 := r.cell (i := 1) rfl
  replace r_f0 := r.free 0
  replace r_f1 := r.free 1
  replace r_lt := r.lt
  have hrB := r_lt
  refine (r1Of_any m W (by omega)).mono ?_
  rintro e w1 ⟨a3, n3, c3, rfl, h3, hE1⟩
  replace r := r.ext hE1; replace r_0 := r.cell (i := 0) rfl; replace r_1 := r.cell (i := 1) rfl; replace r_f0 := r.free 0; replace r_f1 := r.free 1; replace r_lt := r.lt
  have hp : decide (0 < n3) = true := by
   have := h3.len
   rw [length_limbs] at this
   have := nl_pos hm
   exact decide_eq_true (by omega)
  have HF := Lib.hid (RInt.box (w := w) (w2 := w1) (r := w.heap.size) (u := .bool true) (v := .slice a3 n3 c3) (b := true) (s := true) (z := -(m : Int)) (by omega) hrB (Ext.trans hEW hE1) h3 rfl (by rw [hp]; rfl))
  clear h3 hE1 hEW hp
  have r2 : Blk (((w1).setCell ⟨w.heap.size, 0, none⟩ (.bool true)).setCell ⟨w.heap.size, 1, none⟩ (.slice a3 n3 c3)) _ _ #[.bool true, .slice a3 n3 c3] := ((r).set 0 (.bool true)).set 1 (.slice a3 n3 c3)
  have hr0 := r2.cell (i := 0) rfl
  have hr1 := r2.cell (i := 1) rfl
  go_wp2_with fail
  exact bodyPost_ret (v := .agg #[.bool true, .slice a3 n3 c3]) (by simp [results, Tryz.results75, go_sem, hr0, hr1]) rfl HF.out
 ·obtain ⟨m, rfl⟩ : ∃ m : Nat, n = (m : Int) := ⟨n.natAbs, by omega⟩
  have e3 : IntKind.u64.wrap (m : Int) = (m : Int) := by rw [wrap_u64_eq]; omega
  go_enter Tryz.func75, Tryz.ntmps75
  go_wp2_with fail
  have r := Blk.new w 25 #[.bool false, .slice none 0 0]
  have hEW : Ext w (w.alloc (Obj.cells #[.bool false, .slice none 0 0] 25)) := ((Below.refl _ w).alloc (by simp) _)
  generalize hgW : w.alloc (Obj.cells #[.bool false, .slice none 0 0] 25) = W at *
  clear hgW
  replace r_0 := r.cell (i := 0) rfl
  replace r_1 := r.cell (i := 1) rfl
  replace r_f0 := r.free 0
  replace r_f1 := r.free 1
  replace r_lt := r.lt
  have hrB := r_lt
  refine (r1Of_any m W (by omega)).mono ?_
  rintro e w1 ⟨a3, n3, c3, rfl, h3, hE1⟩
  replace r := r.ext hE1; replace r_0 := r.cell (i := 0) rfl; replace r_1 := r.cell (i := 1) rfl; replace r_f0 := r.free 0; replace r_f1 := r.free 1; replace r_lt := r.lt
  have HF := Lib.hid (RInt.box (w := w) (w2 := w1) (r := w.heap.size) (u := .bool false) (v := .slice a3 n3 c3) (b := false) (s := false) (z := (m : Int)) (by omega) hrB (Ext.trans hEW hE1) h3 rfl rfl)
  clear h3 hE1 hEW
  have r2 : Blk (((w1).setCell ⟨w.heap.size, 0, none⟩ (.bool false)).setCell ⟨w.heap.size, 1, none⟩ (.slice a3 n3 c3)) _ _ #[.bool false, .slice a3 n3 c3] := ((r).set 0 (.bool false)).set 1 (.slice a3 n3 c3)
  have hr0 := r2.cell (i := 0) rfl
  have hr1 := r2.cell (i := 1) rfl
  go_wp2_with fail
  exact bodyPost_ret (v := .agg #[.bool false, .slice a3 n3 c3]) (by simp [results, Tryz.results75, go_sem, hr0, hr1]) rfl HF.out
set_option maxHeartbeats 1000000 in
theorem r3Sign_z (b : Bool) (B : Nat) (w : World) (a : Option Addr) (n c : Nat) (l : Nt) (z : Int) (h : NatS B w a n c l) (hz : Hid (ival b l = z)) :
  Calls Tryz.prog 60 #[.agg #[.bool b, .slice a n c]] w fun e w' => e = .returned (.int .i64 z.sign) ∧ Ext w w' := by
 have HS : Hid (z.sign = if val l = 0 then 0 else if b then -1 else 1) := Lib.hid (by rw [← hz.out]; exact sign_of b l)
 generalize z.sign = sg at *
 go_enter Tryz.func60, Tryz.ntmps60
 go_wp2_with fail
 have p0 := Blk.new w 25 #[.bool b, .slice a n c]
 have hEW : Ext w (w.alloc (Obj.cells #[.bool b, .slice a n c] 25)) := ((Below.refl _ w).alloc (by simp) _)
 generalize hgW : w.alloc (Obj.cells #[.bool b, .slice a n c] 25) = W at *
 clear hgW
 replace p0_0 := p0.cell (i := 0) rfl
 replace p0_1 := p0.cell (i := 1) rfl
 refine (r1Zero_any B W a n c l (h.ext (Nat.le_refl _) hEW)).mono ?_
 rintro e w1 ⟨rfl, rfl⟩
 have HE := Lib.hid hEW
 clear hEW h
 by_cases h0 : val l = 0
 ·have hz := HS.out
  rw [if_pos h0] at hz
  subst hz
  rw [decide_eq_true h0]
  clear HS h0
  go_wp2_with fail
  go_ret
  exact ⟨rfl, HE.out⟩
 ·have hz := HS.out
  rw [if_neg h0] at hz
  rw [decide_eq_false h0]
  clear HS h0
  cases b
  all_goals
   simp at hz
   subst hz
   go_wp2_with fail
   go_ret
   exact ⟨rfl, HE.out⟩
set_option maxHeartbeats 1000000 in
theorem r3Neg_z (b : Bool) (B : Nat) (w : World) (a : Option Addr) (n c : Nat) (l : Nt) (z : Int) (h : NatS B w a n c l) (hn : n ≤ 17592186044416) (hz : Hid (ival b l = z)) :
  Calls Tryz.prog 124 #[.agg #[.bool b, .slice a n c]] w (RInt w (-z)) := by
 have HN : Hid (ival (!b) l = -z) := Lib.hid (by rw [← hz.out]; unfold ival; cases b <;> simp)
 go_enter Tryz.func124, Tryz.ntmps124
 go_wp2_with fail
 have p0 := Blk.new w 25 #[.bool b, .slice a n c]
 have r := Blk.new (w.alloc (Obj.cells #[.bool b, .slice a n c] 25)) 25 #[.bool false, .slice none 0 0]
 replace p0 := p0.ext ((Below.refl _ _).alloc (Nat.le_refl _) (Obj.cells #[.bool false, .slice none 0 0] 25))
 have hEW : Ext w ((w.alloc (Obj.cells #[.bool b, .slice a n c] 25)).alloc (Obj.cells #[.bool false, .slice none 0 0] 25)) := (((Below.refl _ w).alloc (by simp) _).alloc (by simp) _)
 generalize hgW : (w.alloc (Obj.cells #[.bool b, .slice a n c] 25)).alloc (Obj.cells #[.bool false, .slice none 0 0] 25) = W at *
 clear hgW
 simp only [World.size_alloc] at r
 have p0_ne_r : ¬ w.heap.size = w.heap.size + 1 := by omega
 have r_ne_p0 : ¬ w.heap.size + 1 = w.heap.size := by omega
 replace p0_0 := p0.cell (i := 0) rfl
 replace p0_1 := p0.cell (i := 1) rfl
 replace r_0 := r.cell (i := 0) rfl
 replace r_1 := r.cell (i := 1) rfl
 replace r_f0 := r.free 0
 replace r_f1 := r.free 1
 replace r_lt := r.lt
 have hrB := r_lt
 refine (r3Norm_z (!b) B W a n c l (-z) (h.ext (Nat.le_refl _) hEW) hn HN).mono ?_
 rintro e w1 ⟨a3, n3, c3, rfl, h3, hE1⟩
 replace p0 := p0.ext hE1; replace p0_0 := p0.cell (i := 0) rfl; replace p0_1 := p0.cell (i := 1) rfl; replace r := r.ext hE1; replace r_0 := r.cell (i := 0) rfl; replace r_1 := r.cell (i := 1) rfl; replace r_f0 := r.free 0; replace r_f1 := r.free 1; replace r_lt := r.lt
 have HF := Lib.hid (RInt.boxN (w := w) (r := w.heap.size + 1) (u1 := .bool (decide (-z < 0))) (u2 := .slice a3 n3 c3) (by omega) hrB (Ext.trans hEW hE1) ⟨a3, n3, c3, rfl, h3⟩)
 clear h h3 hE1 hEW
 generalize -z = zz at *
 have r2 : Blk (((w1).setCell ⟨w.heap.size + 1, 0, none⟩ (.bool (decide (zz < 0)))).setCell ⟨w.heap.size + 1, 1, none⟩ (.slice a3 n3 c3)) _ _ #[.bool (decide (zz < 0)), .slice a3 n3 c3] := ((r).set 0 (.bool (decide (zz < 0)))).set 1 (.slice a3 n3 c3)
 have hr0 := r2.cell (i := 0) rfl
 have hr1 := r2.cell (i := 1) rfl
 go_wp2_with fail
 exact bodyPost_ret (v := .agg #[.bool (decide (zz < 0)), .slice a3 n3 c3]) (by simp [results, Tryz.results124, go_sem, hr0, hr1]) rfl HF.out
set_option maxHeartbeats 1000000 in
theorem r3Abs_z (b : Bool) (B : Nat) (w : World) (a : Option Addr) (n c : Nat) (l : Nt) (z : Int) (h : NatS B w a n c l) (hn : n ≤ 17592186044416) (hz : Hid (ival b l = z)) :
  Calls Tryz.prog 153 #[.agg #[.bool b, .slice a n c]] w (RInt w z.natAbs) := by
 have hv : Hid (((z.natAbs : Nat) : Int) = ((val l : Nat) : Int)) := Lib.hid (by rw [ival_neg hz.out])
 go_enter Tryz.func153, Tryz.ntmps153
 go_wp2_with fail
 have p0 := Blk.new w 25 #[.bool b, .slice a n c]
 have r := Blk.new (w.alloc (Obj.cells #[.bool b, .slice a n c] 25)) 25 #[.bool false, .slice none 0 0]
 replace p0 := p0.ext ((Below.refl _ _).alloc (Nat.le_refl _) (Obj.cells #[.bool false, .slice none 0 0] 25))
 have hEW : Ext w ((w.alloc (Obj.cells #[.bool b, .slice a n c] 25)).alloc (Obj.cells #[.bool false, .slice none 0 0] 25)) := (((Below.refl _ w).alloc (by simp) _).alloc (by simp) _)
 generalize hgW : (w.alloc (Obj.cells #[.bool b, .slice a n c] 25)).alloc (Obj.cells #[.bool false, .slice none 0 0] 25) = W at *
 clear hgW
 simp only [World.size_alloc] at r
 have p0_ne_r : ¬ w.heap.size = w.heap.size + 1 := by omega
 have r_ne_p0 : ¬ w.heap.size + 1 = w.heap.size := by omega
 replace p0_0 := p0.cell (i := 0) rfl
 replace p0_1 := p0.cell (i := 1) rfl
 replace r_0 := r.cell (i := 0) rfl
 replace r_1 := r.cell (i := 1) rfl
 replace r_f0 := r.free 0
 replace r_f1 := r.free 1
 replace r_lt := r.lt
 have hrB := r_lt
 refine (r1Norm_any B W a n c l (h.ext (Nat.le_refl _) hEW) hn).mono ?_
 rintro e w1 ⟨a3, n3, c3, rfl, h3, hE1⟩
 replace p0 := p0.ext hE1; replace p0_0 := p0.cell (i := 0) rfl; replace p0_1 := p0.cell (i := 1) rfl; replace r := r.ext hE1; replace r_0 := r.cell (i := 0) rfl; replace r_1 := r.cell (i := 1) rfl; replace r_f0 := r.free 0; replace r_f1 := r.free 1; replace r_lt := r.lt
 have HF := Lib.hid (RInt.box (w := w) (w2 := w1) (r := w.heap.size + 1) (u := .bool false) (v := .slice a3 n3 c3) (b := false) (s := false) (by omega) hrB (Ext.trans hEW hE1) h3 hv.out rfl)
 clear h h3 hE1 hEW
 have r2 : Blk (((w1).setCell ⟨w.heap.size + 1, 0, none⟩ (.bool false)).setCell ⟨w.heap.size + 1, 1, none⟩ (.slice a3 n3 c3)) _ _ #[.bool false, .slice a3 n3 c3] := ((r).set 0 (.bool false)).set 1 (.slice a3 n3 c3)
 have hr0 := r2.cell (i := 0) rfl
 have hr1 := r2.cell (i := 1) rfl
 go_wp2_with fail
 exact bodyPost_ret (v := .agg #[.bool false, .slice a3 n3 c3]) (by simp [results, Tryz.results153, go_sem, hr0, hr1]) rfl HF.out
set_option maxHeartbeats 1000000 in
theorem r3Mul_z (b b2 : Bool) (B : Nat) (w : World) (a a2 : Option Addr) (n c n2 c2 : Nat) (l l2 : Nt) (z z2 : Int) (h : NatS B w a n c l) (h2 : NatS B w a2 n2 c2 l2) (hn : n ≤ 4398046511104) (hn2 : n2 ≤ 4398046511104) (hz : Hid (ival b l = z)) (hz2 : Hid (ival b2 l2 = z2)) :
  Calls Tryz.prog 130 #[.agg #[.bool b, .slice a n c], .agg #[.bool b2, .slice a2 n2 c2]] w (RInt w (z * z2)) := by
 have HP : Hid (ival (!b == b2) (limbs (val l * val l2)) = z * z2) := Lib.hid (by rw [← hz.out, ← hz2.out, mul_sgn]; unfold ival; rw [val_limbs])
 go_enter Tryz.func130, Tryz.ntmps130
 go_wp2_with fail
 have p0 := Blk.new w 25 #[.bool b, .slice a n c]
 have p1 := Blk.new (w.alloc (Obj.cells #[.bool b, .slice a n c] 25)) 25 #[.bool b2, .slice a2 n2 c2]
 replace p0 := p0.ext ((Below.refl _ _).alloc (Nat.le_refl _) (Obj.cells #[.bool b2, .slice a2 n2 c2] 25))
 have r := Blk.new ((w.alloc (Obj.cells #[.bool b, .slice a n c] 25)).alloc (Obj.cells #[.bool b2, .slice a2 n2 c2] 25)) 25 #[.bool false, .slice none 0 0]
 replace p0 := p0.ext ((Below.refl _ _).alloc (Nat.le_refl _) (Obj.cells #[.bool false, .slice none 0 0] 25))
 replace p1 := p1.ext ((Below.refl _ _).alloc (Nat.le_refl _) (Obj.cells #[.bool false, .slice none 0 0] 25))
 have hEW : Ext w (((w.alloc (Obj.cells #[.bool b, .slice a n c] 25)).alloc (Obj.cells #[.bool b2, .slice a2 n2 c2] 25)).alloc (Obj.cells #[.bool false, .slice none 0 0] 25)) := ((((Below.refl _ w).alloc (by simp) _).alloc (by simp) _).alloc (by simp; omega) _)
 generalize hgW : ((w.alloc (Obj.cells #[.bool b, .slice a n c] 25)).alloc (Obj.cells #[.bool b2, .slice a2 n2 c2] 25)).alloc (Obj.cells #[.bool false, .slice none 0 0] 25) = W at *
 clear hgW
 simp only [World.size_alloc] at p1 r
 have p0_ne_p1 : ¬ w.heap.size = w.heap.size + 1 := by omega
 have p0_ne_r : ¬ w.heap.size = w.heap.size + 1 + 1 := by omega
 have p1_ne_p0 : ¬ w.heap.size + 1 = w.heap.size := by omega
 have p1_ne_r : ¬ w.heap.size + 1 = w.heap.size + 1 + 1 := by omega
 have r_ne_p0 : ¬ w.heap.size + 1 + 1 = w.heap.size := by omega
 have r_ne_p1 : ¬ w.heap.size + 1 + 1 = w.heap.size + 1 := by omega
 replace p0_0 := p0.cell (i := 0) rfl
 replace p0_1 := p0.cell (i := 1) rfl
 replace p1_0 := p1.cell (i := 0) rfl
 replace p1_1 := p1.cell (i := 1) rfl
 replace r_0 := r.cell (i := 0) rfl
 replace r_1 := r.cell (i := 1) rfl
 replace r_f0 := r.free 0
 replace r_f1 := r.free 1
 replace r_lt := r.lt
 have hd : Ext W W.drew := (Below.refl _ _).drew
 have hrB := Nat.lt_of_lt_of_le r_lt hd.size
 have h1 := (h.ext (Nat.le_refl _) hEW).ext (Nat.le_refl _) hd
 have h2 := (h2.ext (Nat.le_refl _) hEW).ext (Nat.le_refl _) hd
 go_region_held3 (fun w' => w'.cell? ⟨w.heap.size, 0, none⟩ = some (.bool b) ∧ w'.cell? ⟨w.heap.size, 1, none⟩ = some (.slice a n c) ∧ w'.cell? ⟨w.heap.size + 1, 0, none⟩ = some (.bool b2) ∧ w'.cell? ⟨w.heap.size + 1, 1, none⟩ = some (.slice a2 n2 c2)) (first | exact ⟨p0_0, p0_1, p1_0, p1_1⟩ | go_keep)
  (first | (go_at_call 152; refine (r1Mul_any B _ _ _ _ _ _ _ l l2 h1 h2 hn hn2 _ _ (Lib.hid rfl) (Lib.hid rfl)).mono ?_; rintro e w1 ⟨a3, n3, c3, rfl, h3, hE1⟩; replace hE1 : Ext W w1 := Ext.trans hd hE1; have hn3 : n3 ≤ n + n2 := (by have q1 := h3.len; rw [length_limbs] at q1; have q2 := nl_mul (val l) (val l2); have q3 := nl_val (NatS.small h1); have q4 := nl_val (NatS.small h2); have q5 := h1.len; have q6 := h2.len; omega); replace p0 := p0.ext hE1; replace p0_0 := p0.cell (i := 0) rfl; replace p0_1 := p0.cell (i := 1) rfl; replace p1 := p1.ext hE1; replace p1_0 := p1.cell (i := 0) rfl; replace p1_1 := p1.cell (i := 1) rfl; replace r := r.ext hE1; replace r_0 := r.cell (i := 0) rfl; replace r_1 := r.cell (i := 1) rfl; replace r_f0 := r.free 0; replace r_f1 := r.free 1; replace r_lt := r.lt)
         | (go_at_call 142; refine (r3Norm_z _ _ _ _ _ _ _ _ h3 (by omega) HP).mono ?_; rintro e w2 ⟨a4, n4, c4, rfl, h4, hE2⟩; replace p0 := p0.ext hE2; replace p0_0 := p0.cell (i := 0) rfl; replace p0_1 := p0.cell (i := 1) rfl; replace p1 := p1.ext hE2; replace p1_0 := p1.cell (i := 0) rfl; replace p1_1 := p1.cell (i := 1) rfl; replace r := r.ext hE2; replace r_0 := r.cell (i := 0) rfl; replace r_1 := r.cell (i := 1) rfl; replace r_f0 := r.free 0; replace r_f1 := r.free 1; replace r_lt := r.lt))
 have HF := Lib.hid (RInt.boxN (w := w) (r := w.heap.size + 1 + 1) (u1 := .bool (decide (z * z2 < 0))) (u2 := .slice a4 n4 c4) (by omega) hrB (Ext.trans hEW (Ext.trans hE1 hE2)) ⟨a4, n4, c4, rfl, h4.mono hE1.size (Kept.refl _ _)⟩)
 clear h1 h2 hE1 hE2 h3 hEW h4 hd
 generalize z * z2 = zz at *
 have r2 : Blk (((w2).setCell ⟨w.heap.size + 1 + 1, 0, none⟩ (.bool (decide (zz < 0)))).setCell ⟨w.heap.size + 1 + 1, 1, none⟩ (.slice a4 n4 c4)) _ _ #[.bool (decide (zz < 0)), .slice a4 n4 c4] := ((r).set 0 (.bool (decide (zz < 0)))).set 1 (.slice a4 n4 c4)
 have hr0 := r2.cell (i := 0) rfl
 have hr1 := r2.cell (i := 1) rfl
 go_wp2_with fail
 exact bodyPost_ret (v := .agg #[.bool (decide (zz < 0)), .slice a4 n4 c4]) (by simp [results, Tryz.results130, go_sem, hr0, hr1]) rfl HF.out
set_option maxHeartbeats 1000000 in
theorem r3Gcd_z (b b2 : Bool) (B : Nat) (w : World) (a a2 : Option Addr) (n c n2 c2 : Nat) (l l2 : Nt) (z z2 : Int) (h : NatS B w a n c l) (h2 : NatS B w a2 n2 c2 l2) (hn : n ≤ 549755813888) (hn2 : n2 ≤ 549755813888) (hz : Hid (ival b l = z)) (hz2 : Hid (ival b2 l2 = z2)) :
  Calls Tryz.prog 125 #[.agg #[.bool b, .slice a n c], .agg #[.bool b2, .slice a2 n2 c2]] w (RInt w (Int.gcd z z2)) := by
 have HP : Hid (((Int.gcd z z2 : Nat) : Int) = ((Nat.gcd (val l) (val l2) : Nat) : Int)) := Lib.hid (by rw [Int.gcd, ival_neg hz.out, ival_neg hz2.out])
 go_enter Tryz.func125, Tryz.ntmps125
 go_wp2_with fail
 have p0 := Blk.new w 25 #[.bool b, .slice a n c]
 have p1 := Blk.new (w.alloc (Obj.cells #[.bool b, .slice a n c] 25)) 25 #[.bool b2, .slice a2 n2 c2]
 replace p0 := p0.ext ((Below.refl _ _).alloc (Nat.le_refl _) (Obj.cells #[.bool b2, .slice a2 n2 c2] 25))
 have r := Blk.new ((w.alloc (Obj.cells #[.bool b, .slice a n c] 25)).alloc (Obj.cells #[.bool b2, .slice a2 n2 c2] 25)) 25 #[.bool false, .slice none 0 0]
 replace p0 := p0.ext ((Below.refl _ _).alloc (Nat.le_refl _) (Obj.cells #[.bool false, .slice none 0 0] 25))
 replace p1 := p1.ext ((Below.refl _ _).alloc (Nat.le_refl _) (Obj.cells #[.bool false, .slice none 0 0] 25))
 have hEW : Ext w (((w.alloc (Obj.cells #[.bool b, .slice a n c] 25)).alloc (Obj.cells #[.bool b2, .slice a2 n2 c2] 25)).alloc (Obj.cells #[.bool false, .slice none 0 0] 25)) := ((((Below.refl _ w).alloc (by simp) _).alloc (by simp) _).alloc (by simp; omega) _)
 generalize hgW : ((w.alloc (Obj.cells #[.bool b, .slice a n c] 25)).alloc (Obj.cells #[.bool b2, .slice a2 n2 c2] 25)).alloc (Obj.cells #[.bool false, .slice none 0 0] 25) = W at *
 clear hgW
 simp only [World.size_alloc] at p1 r
 have p0_ne_p1 : ¬ w.heap.size = w.heap.size + 1 := by omega
 have p0_ne_r : ¬ w.heap.size = w.heap.size + 1 + 1 := by omega
 have p1_ne_p0 : ¬ w.heap.size + 1 = w.heap.size := by omega
 have p1_ne_r : ¬ w.heap.size + 1 = w.heap.size + 1 + 1 := by omega
 have r_ne_p0 : ¬ w.heap.size + 1 + 1 = w.heap.size := by omega
 have r_ne_p1 : ¬ w.heap.size + 1 + 1 = w.heap.size + 1 := by omega
 replace p0_0 := p0.cell (i := 0) rfl
 replace p0_1 := p0.cell (i := 1) rfl
 replace p1_0 := p1.cell (i := 0) rfl
 replace p1_1 := p1.cell (i := 1) rfl
 replace r_0 := r.cell (i := 0) rfl
 replace r_1 := r.cell (i := 1) rfl
 replace r_f0 := r.free 0
 replace r_f1 := r.free 1
 replace r_lt := r.lt
 have hrB := r_lt
 refine (r1Gcd_any B W _ _ _ _ _ _ l l2 (h.ext (Nat.le_refl _) hEW) (h2.ext (Nat.le_refl _) hEW) hn hn2 _ _ (Lib.hid rfl) (Lib.hid rfl)).mono ?_
 rintro e w1 ⟨a3, n3, c3, rfl, h3, hE1⟩
 replace p0 := p0.ext hE1; replace p0_0 := p0.cell (i := 0) rfl; replace p0_1 := p0.cell (i := 1) rfl; replace p1 := p1.ext hE1; replace p1_0 := p1.cell (i := 0) rfl; replace p1_1 := p1.cell (i := 1) rfl; replace r := r.ext hE1; replace r_0 := r.cell (i := 0) rfl; replace r_1 := r.cell (i := 1) rfl; replace r_f0 := r.free 0; replace r_f1 := r.free 1; replace r_lt := r.lt
 have HF := Lib.hid (RInt.box (w := w) (w2 := w1) (r := w.heap.size + 1 + 1) (u := .bool false) (v := .slice a3 n3 c3) (b := false) (s := false) (by omega) hrB (Ext.trans hEW hE1) h3 HP.out rfl)
 clear h h2 h3 hE1 hEW
 have r2 : Blk (((w1).setCell ⟨w.heap.size + 1 + 1, 0, none⟩ (.bool false)).setCell ⟨w.heap.size + 1 + 1, 1, none⟩ (.slice a3 n3 c3)) _ _ #[.bool false, .slice a3 n3 c3] := ((r).set 0 (.bool false)).set 1 (.slice a3 n3 c3)
 have hr0 := r2.cell (i := 0) rfl
 have hr1 := r2.cell (i := 1) rfl
 go_wp2_with fail
 exact bodyPost_ret (v := .agg #[.bool false, .slice a3 n3 c3]) (by simp [results, Tryz.results125, go_sem, hr0, hr1]) rfl HF.out
set_option maxHeartbeats 1000000 in
theorem r3Same_any (b b2 : Bool) (B : Nat) (w : World) (a a2 : Option Addr) (n c n2 c2 : Nat) (l l2 : Nt) (h : NatS B w a n c l) (h2 : NatS B w a2 n2 c2 l2) :
  Calls Tryz.prog 62 #[.agg #[.bool b, .slice a n c], .agg #[.bool b2, .slice a2 n2 c2]] w fun e w' => e = .returned (.bool (decide ((b, l) = (b2, l2)))) ∧ Ext w w' := by
 obtain ⟨r, hr⟩ : ∃ r, r = decide ((b, l) = (b2, l2)) := ⟨_, rfl⟩
 rw [← hr]
 have HR := Lib.hid hr
 clear hr
 by_cases hb : b = b2
 ·subst hb
  go_enter Tryz.func62, Tryz.ntmps62
  go_wp2_with fail
  have p0 := Blk.new w 25 #[.bool b, .slice a n c]
  have p1 := Blk.new (w.alloc (Obj.cells #[.bool b, .slice a n c] 25)) 25 #[.bool b, .slice a2 n2 c2]
  replace p0 := p0.ext ((Below.refl _ _).alloc (Nat.le_refl _) (Obj.cells #[.bool b, .slice a2 n2 c2] 25))
  have hEW : Ext w ((w.alloc (Obj.cells #[.bool b, .slice a n c] 25)).alloc (Obj.cells #[.bool b, .slice a2 n2 c2] 25)) := (((Below.refl _ w).alloc (by simp) _).alloc (by simp) _)
  generalize hgW : (w.alloc (Obj.cells #[.bool b, .slice a n c] 25)).alloc (Obj.cells #[.bool b, .slice a2 n2 c2] 25) = W at *
  clear hgW
  simp only [World.size_alloc] at p1
  have p0_ne_p1 : ¬ w.heap.size = w.heap.size + 1 := by omega
  have p1_ne_p0 : ¬ w.heap.size + 1 = w.heap.size := by omega
  replace p0_0 := p0.cell (i := 0) rfl
  replace p0_1 := p0.cell (i := 1) rfl
  replace p1_0 := p1.cell (i := 0) rfl
  replace p1_1 := p1.cell (i := 1) rfl
  refine (r1Same_any B W a a2 n c n2 c2 l l2 (h.ext (Nat.le_refl _) hEW) (h2.ext (Nat.le_refl _) hEW)).mono ?_
  rintro e w1 ⟨rfl, hE1⟩
  replace p0 := p0.ext hE1; replace p0_0 := p0.cell (i := 0) rfl; replace p0_1 := p0.cell (i := 1) rfl; replace p1 := p1.ext hE1; replace p1_0 := p1.cell (i := 0) rfl; replace p1_1 := p1.cell (i := 1) rfl
  have hrl : decide (l = l2) = r := by rw [HR.out]; simp
  rw [hrl]
  have HE := Lib.hid (Ext.trans hEW hE1)
  clear hE1 hEW h h2 hrl
  go_wp2_with fail
  go_ret
  exact ⟨rfl, HE.out⟩
 ·have hrf : r = false := by rw [HR.out]; simp [hb]
  subst hrf
  have hbb : (b == b2) = false := by simpa using hb
  clear hb HR
  go_enter Tryz.func62, Tryz.ntmps62
  go_wp2_with fail
  have p0 := Blk.new w 25 #[.bool b, .slice a n c]
  have p1 := Blk.new (w.alloc (Obj.cells #[.bool b, .slice a n c] 25)) 25 #[.bool b2, .slice a2 n2 c2]
  replace p0 := p0.ext ((Below.refl _ _).alloc (Nat.le_refl _) (Obj.cells #[.bool b2, .slice a2 n2 c2] 25))
  have hEW : Ext w ((w.alloc (Obj.cells #[.bool b, .slice a n c] 25)).alloc (Obj.cells #[.bool b2, .slice a2 n2 c2] 25)) := (((Below.refl _ w).alloc (by simp) _).alloc (by simp) _)
  generalize hgW : (w.alloc (Obj.cells #[.bool b, .slice a n c] 25)).alloc (Obj.cells #[.bool b2, .slice a2 n2 c2] 25) = W at *
  clear hgW
  simp only [World.size_alloc] at p1
  have p0_ne_p1 : ¬ w.heap.size = w.heap.size + 1 := by omega
  have p1_ne_p0 : ¬ w.heap.size + 1 = w.heap.size := by omega
  replace p0_0 := p0.cell (i := 0) rfl
  replace p0_1 := p0.cell (i := 1) rfl
  replace p1_0 := p1.cell (i := 0) rfl
  replace p1_1 := p1.cell (i := 1) rfl
  have HE := Lib.hid hEW
  clear hEW h h2
  go_wp2_with fail
  go_ret
  exact ⟨rfl, HE.out⟩
end Go.Proofs.YtbhenelehhiakaaGreat
