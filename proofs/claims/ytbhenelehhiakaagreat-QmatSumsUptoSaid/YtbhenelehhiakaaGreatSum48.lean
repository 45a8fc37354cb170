/-
  qmat: Scale.
-/
import Derived.Test.YtbhenelehhiakaaGreatSum30
import Derived.Test.YtbhenelehhiakaaGreatSum35
import Derived.Test.YtbhenelehhiakaaGreatSum39
import Derived.Test.YtbhenelehhiakaaGreatSum38
set_option linter.unusedVariables false
set_option linter.unusedSimpArgs false
namespace Go.Proofs.YtbhenelehhiakaaGreat
open Go.RowKit

theorem rFr_ext {K : Nat} {w w' : World} {cs : List Value} {q : Int × Int} (h : (rFr K).ok 0 w cs q) (hE : Ext w w') : (rFr K).ok 0 w' cs q := (rFr K).mono h (Nat.le_refl _) (Ext.kept hE)
set_option maxRecDepth 100000 in
set_option maxHeartbeats 8000000 in
theorem qScale_err
    (K : Nat) (hK : K + K + 1099511627776 ≤ 8796093022208) (w : World) (b : Bool) (a a2 : Option Addr) (n c n2 c2 : Nat) (d : Int) (zss : List (List Int)) (h : MatS K w b a n c a2 n2 c2 d zss) (bx by1 : Bool) (ax ay : Option Addr) (nx cx ny cy : Nat) (q : Int × Int) (hq : (rFr K).ok 0 w [.bool bx, .slice ax nx cx, .bool by1, .slice ay ny cy] q)
    (s : Int) (hs : Hid (checkE d zss = s)) (h0 : s ≠ 0) : Calls Tryz.prog 45 #[.agg #[.bool b, .slice a n c, .slice a2 n2 c2], .agg #[.bool bx, .slice ax nx cx, .bool by1, .slice ay ny cy]] w (RMatErr w s) := by
  have hs0 : (s != 0) = true := by simpa using h0
  go_enter Tryz.func45, Tryz.ntmps45
  go_wp2_with fail
  have p0 := Blk.new w 28 #[.bool b, .slice a n c, .slice a2 n2 c2]
  have p1 := Blk.new (w.alloc (Obj.cells #[.bool b, .slice a n c, .slice a2 n2 c2] 28)) 75 #[.bool bx, .slice ax nx cx, .bool by1, .slice ay ny cy]
  replace p0 := p0.ext ((Below.refl _ _).alloc (Nat.le_refl _) (Obj.cells #[.bool bx, .slice ax nx cx, .bool by1, .slice ay ny cy] 75))
  have r0 := Blk.new ((w.alloc (Obj.cells #[.bool b, .slice a n c, .slice a2 n2 c2] 28)).alloc (Obj.cells #[.bool bx, .slice ax nx cx, .bool by1, .slice ay ny cy] 75)) 28 #[.bool false, .slice none 0 0, .slice none 0 0]
  replace p0 := p0.ext ((Below.refl _ _).alloc (Nat.le_refl _) (Obj.cells #[.bool false, .slice none 0 0, .slice none 0 0] 28))
  replace p1 := p1.ext ((Below.refl _ _).alloc (Nat.le_refl _) (Obj.cells #[.bool false, .slice none 0 0, .slice none 0 0] 28))
  have hEW : Ext w (((w.alloc (Obj.cells #[.bool b, .slice a n c, .slice a2 n2 c2] 28)).alloc (Obj.cells #[.bool bx, .slice ax nx cx, .bool by1, .slice ay ny cy] 75)).alloc (Obj.cells #[.bool false, .slice none 0 0, .slice none 0 0] 28)) := ((((Below.refl _ w).alloc (by simp) _).alloc (by simp) _).alloc (by simp; omega) _)
  generalize hgW : ((w.alloc (Obj.cells #[.bool b, .slice a n c, .slice a2 n2 c2] 28)).alloc (Obj.cells #[.bool bx, .slice ax nx cx, .bool by1, .slice ay ny cy] 75)).alloc (Obj.cells #[.bool false, .slice none 0 0, .slice none 0 0] 28) = W at *
  clear hgW
  simp only [World.size_alloc] at p1 r0
  have p0_ne_p1 : ¬ w.heap.size = w.heap.size + 1 := by omega
  have p0_ne_r0 : ¬ w.heap.size = w.heap.size + 1 + 1 := by omega
  have p1_ne_p0 : ¬ w.heap.size + 1 = w.heap.size := by omega
  have p1_ne_r0 : ¬ w.heap.size + 1 = w.heap.size + 1 + 1 := by omega
  have r0_ne_p0 : ¬ w.heap.size + 1 + 1 = w.heap.size := by omega
  have r0_ne_p1 : ¬ w.heap.size + 1 + 1 = w.heap.size + 1 := by omega
  replace p0_0 := p0.cell (i := 0) rfl
  replace p0_1 := p0.cell (i := 1) rfl
  replace p0_2 := p0.cell (i := 2) rfl
  replace p0_f0 := p0.free 0
  replace p0_f1 := p0.free 1
  replace p0_f2 := p0.free 2
  replace p0_lt := p0.lt
  replace p1_0 := p1.cell (i := 0) rfl
  replace p1_1 := p1.cell (i := 1) rfl
  replace p1_2 := p1.cell (i := 2) rfl
  replace p1_3 := p1.cell (i := 3) rfl
  replace p1_f0 := p1.free 0
  replace p1_f1 := p1.free 1
  replace p1_f2 := p1.free 2
  replace p1_f3 := p1.free 3
  replace p1_lt := p1.lt
  replace r0_0 := r0.cell (i := 0) rfl
  replace r0_1 := r0.cell (i := 1) rfl
  replace r0_2 := r0.cell (i := 2) rfl
  replace r0_f0 := r0.free 0
  replace r0_f1 := r0.free 1
  replace r0_f2 := r0.free 2
  replace r0_lt := r0.lt
  have hW : w.heap.size + 1 + 1 < W.heap.size := r0.lt
  (with_reducible refine (check_any K (by omega) W b a a2 n c n2 c2 d zss (h.ext hEW) s hs).mono ?_)
  rintro e w1 ⟨rfl, hE1⟩
  replace p0 := p0.ext hE1; replace p0_0 := p0.cell (i := 0) rfl; replace p0_1 := p0.cell (i := 1) rfl; replace p0_2 := p0.cell (i := 2) rfl; replace p0_f0 := p0.free 0; replace p0_f1 := p0.free 1; replace p0_f2 := p0.free 2; replace p0_lt := p0.lt; replace p1 := p1.ext hE1; replace p1_0 := p1.cell (i := 0) rfl; replace p1_1 := p1.cell (i := 1) rfl; replace p1_2 := p1.cell (i := 2) rfl; replace p1_3 := p1.cell (i := 3) rfl; replace p1_f0 := p1.free 0; replace p1_f1 := p1.free 1; replace p1_f2 := p1.free 2; replace p1_f3 := p1.free 3; replace p1_lt := p1.lt; replace r0 := r0.ext hE1; replace r0_0 := r0.cell (i := 0) rfl; replace r0_1 := r0.cell (i := 1) rfl; replace r0_2 := r0.cell (i := 2) rfl; replace r0_f0 := r0.free 0; replace r0_f1 := r0.free 1; replace r0_f2 := r0.free 2; replace r0_lt := r0.lt
  have hE0 := Ext.trans hEW hE1
  have hsz1 := hE1.size
  clear hEW hE1
  have h' := h
  have HF : Hid (RMatErr w s (.returned (.tuple #[.agg #[.bool false, .slice none 0 0, .slice none 0 0], .int .i64 s])) (((w1.setCell ⟨w.heap.size + 1 + 1, 0, none⟩ (.bool false)).setCell ⟨w.heap.size + 1 + 1, 1, none⟩ (.slice none 0 0)).setCell ⟨w.heap.size + 1 + 1, 2, none⟩ (.slice none 0 0))) := Lib.hid ⟨rfl, ext_set3 hE0 _ _ _ (by omega)⟩
  clear hE0 h h'
  have r02 : Blk ((((w1).setCell ⟨w.heap.size + 1 + 1, 0, none⟩ (.bool false)).setCell ⟨w.heap.size + 1 + 1, 1, none⟩ (.slice none 0 0)).setCell ⟨w.heap.size + 1 + 1, 2, none⟩ (.slice none 0 0)) _ _ #[.bool false, .slice none 0 0, .slice none 0 0] := (((r0).set 0 (.bool false)).set 1 (.slice none 0 0)).set 2 (.slice none 0 0)
  have hr00 := r02.cell (i := 0) rfl
  have hr01 := r02.cell (i := 1) rfl
  have hr02 := r02.cell (i := 2) rfl
  go_wp2_with fail
  exact bodyPost_ret (v := .tuple #[.agg #[.bool false, .slice none 0 0, .slice none 0 0], .int .i64 s]) (by simp [results, Tryz.results45, go_sem, hr00, hr01, hr02]) rfl HF.out

set_option maxRecDepth 100000 in
set_option maxHeartbeats 8000000 in
theorem qScale_den
    (K : Nat) (hK : K + K + 1099511627776 ≤ 8796093022208) (w : World) (b : Bool) (a a2 : Option Addr) (n c n2 c2 : Nat) (d : Int) (zss : List (List Int)) (h : MatS K w b a n c a2 n2 c2 d zss) (bx by1 : Bool) (ax ay : Option Addr) (nx cx ny cy : Nat) (q : Int × Int) (hq : (rFr K).ok 0 w [.bool bx, .slice ax nx cx, .bool by1, .slice ay ny cy] q)
    (s : Int) (hsz : s = 0) (hs : Hid (checkE d zss = s)) (h0 : q.2 = 0) : Calls Tryz.prog 45 #[.agg #[.bool b, .slice a n c, .slice a2 n2 c2], .agg #[.bool bx, .slice ax nx cx, .bool by1, .slice ay ny cy]] w (RMatErr w 6) := by
  subst hsz
  go_enter Tryz.func45, Tryz.ntmps45
  go_wp2_with fail
  have p0 := Blk.new w 28 #[.bool b, .slice a n c, .slice a2 n2 c2]
  have p1 := Blk.new (w.alloc (Obj.cells #[.bool b, .slice a n c, .slice a2 n2 c2] 28)) 75 #[.bool bx, .slice ax nx cx, .bool by1, .slice ay ny cy]
  replace p0 := p0.ext ((Below.refl _ _).alloc (Nat.le_refl _) (Obj.cells #[.bool bx, .slice ax nx cx, .bool by1, .slice ay ny cy] 75))
  have r0 := Blk.new ((w.alloc (Obj.cells #[.bool b, .slice a n c, .slice a2 n2 c2] 28)).alloc (Obj.cells #[.bool bx, .slice ax nx cx, .bool by1, .slice ay ny cy] 75)) 28 #[.bool false, .slice none 0 0, .slice none 0 0]
  replace p0 := p0.ext ((Below.refl _ _).alloc (Nat.le_refl _) (Obj.cells #[.bool false, .slice none 0 0, .slice none 0 0] 28))
  replace p1 := p1.ext ((Below.refl _ _).alloc (Nat.le_refl _) (Obj.cells #[.bool false, .slice none 0 0, .slice none 0 0] 28))
  have hEW : Ext w (((w.alloc (Obj.cells #[.bool b, .slice a n c, .slice a2 n2 c2] 28)).alloc (Obj.cells #[.bool bx, .slice ax nx cx, .bool by1, .slice ay ny cy] 75)).alloc (Obj.cells #[.bool false, .slice none 0 0, .slice none 0 0] 28)) := ((((Below.refl _ w).alloc (by simp) _).alloc (by simp) _).alloc (by simp; omega) _)
  generalize hgW : ((w.alloc (Obj.cells #[.bool b, .slice a n c, .slice a2 n2 c2] 28)).alloc (Obj.cells #[.bool bx, .slice ax nx cx, .bool by1, .slice ay ny cy] 75)).alloc (Obj.cells #[.bool false, .slice none 0 0, .slice none 0 0] 28) = W at *
  clear hgW
  simp only [World.size_alloc] at p1 r0
  have p0_ne_p1 : ¬ w.heap.size = w.heap.size + 1 := by omega
  have p0_ne_r0 : ¬ w.heap.size = w.heap.size + 1 + 1 := by omega
  have p1_ne_p0 : ¬ w.heap.size + 1 = w.heap.size := by omega
  have p1_ne_r0 : ¬ w.heap.size + 1 = w.heap.size + 1 + 1 := by omega
  have r0_ne_p0 : ¬ w.heap.size + 1 + 1 = w.heap.size := by omega
  have r0_ne_p1 : ¬ w.heap.size + 1 + 1 = w.heap.size + 1 := by omega
  replace p0_0 := p0.cell (i := 0) rfl
  replace p0_1 := p0.cell (i := 1) rfl
  replace p0_2 := p0.cell (i := 2) rfl
  replace p0_f0 := p0.free 0
  replace p0_f1 := p0.free 1
  replace p0_f2 := p0.free 2
  replace p0_lt := p0.lt
  replace p1_0 := p1.cell (i := 0) rfl
  replace p1_1 := p1.cell (i := 1) rfl
  replace p1_2 := p1.cell (i := 2) rfl
  replace p1_3 := p1.cell (i := 3) rfl
  replace p1_f0 := p1.free 0
  replace p1_f1 := p1.free 1
  replace p1_f2 := p1.free 2
  replace p1_f3 := p1.free 3
  replace p1_lt := p1.lt
  replace r0_0 := r0.cell (i := 0) rfl
  replace r0_1 := r0.cell (i := 1) rfl
  replace r0_2 := r0.cell (i := 2) rfl
  replace r0_f0 := r0.free 0
  replace r0_f1 := r0.free 1
  replace r0_f2 := r0.free 2
  replace r0_lt := r0.lt
  have hW : w.heap.size + 1 + 1 < W.heap.size := r0.lt
  (with_reducible refine (check_any K (by omega) W b a a2 n c n2 c2 d zss (h.ext hEW) 0 hs).mono ?_)
  rintro e w1 ⟨rfl, hE1⟩
  replace p0 := p0.ext hE1; replace p0_0 := p0.cell (i := 0) rfl; replace p0_1 := p0.cell (i := 1) rfl; replace p0_2 := p0.cell (i := 2) rfl; replace p0_f0 := p0.free 0; replace p0_f1 := p0.free 1; replace p0_f2 := p0.free 2; replace p0_lt := p0.lt; replace p1 := p1.ext hE1; replace p1_0 := p1.cell (i := 0) rfl; replace p1_1 := p1.cell (i := 1) rfl; replace p1_2 := p1.cell (i := 2) rfl; replace p1_3 := p1.cell (i := 3) rfl; replace p1_f0 := p1.free 0; replace p1_f1 := p1.free 1; replace p1_f2 := p1.free 2; replace p1_f3 := p1.free 3; replace p1_lt := p1.lt; replace r0 := r0.ext hE1; replace r0_0 := r0.cell (i := 0) rfl; replace r0_1 := r0.cell (i := 1) rfl; replace r0_2 := r0.cell (i := 2) rfl; replace r0_f0 := r0.free 0; replace r0_f1 := r0.free 1; replace r0_f2 := r0.free 2; replace r0_lt := r0.lt
  have hE0 := Ext.trans hEW hE1
  have hsz1 := hE1.size
  clear hEW hE1
  go_wp2_with fail
  (with_reducible refine (ratNorm_err K (by omega) w1 bx ax nx cx by1 ay ny cy q (rFr_ext hq hE0) h0).mono ?_)
  rintro e w2 ⟨rfl, hE2⟩
  replace p1 := p1.ext hE2; replace p1_0 := p1.cell (i := 0) rfl; replace p1_1 := p1.cell (i := 1) rfl; replace p1_2 := p1.cell (i := 2) rfl; replace p1_3 := p1.cell (i := 3) rfl; replace p1_f0 := p1.free 0; replace p1_f1 := p1.free 1; replace p1_f2 := p1.free 2; replace p1_f3 := p1.free 3; replace p1_lt := p1.lt; replace r0 := r0.ext hE2; replace r0_0 := r0.cell (i := 0) rfl; replace r0_1 := r0.cell (i := 1) rfl; replace r0_2 := r0.cell (i := 2) rfl; replace r0_f0 := r0.free 0; replace r0_f1 := r0.free 1; replace r0_f2 := r0.free 2; replace r0_lt := r0.lt
  have hsz2 := hE2.size
  replace hE0 := Ext.trans hE0 hE2
  clear hE2
  have u1 : w.heap.size + 1 ≠ w.heap.size + 1 + 1 := by omega
  go_upto_region 5 with (fail)
  replace p1 := p1.set 0 (.bool false)
  replace r0 := r0.set_ne 0 (.bool false) (show w.heap.size + 1 + 1 ≠ w.heap.size + 1 by omega)
  replace p1 := p1.set 1 (.slice none 0 0)
  replace r0 := r0.set_ne 1 (.slice none 0 0) (show w.heap.size + 1 + 1 ≠ w.heap.size + 1 by omega)
  replace p1 := p1.set 2 (.bool false)
  replace r0 := r0.set_ne 2 (.bool false) (show w.heap.size + 1 + 1 ≠ w.heap.size + 1 by omega)
  replace p1 := p1.set 3 (.slice none 0 0)
  replace r0 := r0.set_ne 3 (.slice none 0 0) (show w.heap.size + 1 + 1 ≠ w.heap.size + 1 by omega)
  have hKW3 : ∀ bB_ : Nat, w.heap.size + 1 < bB_ → Kept bB_ w2 (((((w2).setCell ⟨w.heap.size + 1, 0, none⟩ (.bool false)).setCell ⟨w.heap.size + 1, 1, none⟩ (.slice none 0 0)).setCell ⟨w.heap.size + 1, 2, none⟩ (.bool false)).setCell ⟨w.heap.size + 1, 3, none⟩ (.slice none 0 0)) := fun bB_ h0 => (Kept.trans (kept_set _ _ _ h0) (Kept.trans (kept_set _ _ _ h0) (Kept.trans (kept_set _ _ _ h0) (kept_set _ _ _ h0))))
  have hzW3 : w2.heap.size ≤ (((((w2).setCell ⟨w.heap.size + 1, 0, none⟩ (.bool false)).setCell ⟨w.heap.size + 1, 1, none⟩ (.slice none 0 0)).setCell ⟨w.heap.size + 1, 2, none⟩ (.bool false)).setCell ⟨w.heap.size + 1, 3, none⟩ (.slice none 0 0)).heap.size := by simp only [World.setCell, Array.size_modify]; exact Nat.le_refl _
  have hSW3 : ∀ (nB_ : Nat) (uB_ : World), nB_ ≤ w.heap.size + 1 → Below nB_ uB_ w2 → Below nB_ uB_ (((((w2).setCell ⟨w.heap.size + 1, 0, none⟩ (.bool false)).setCell ⟨w.heap.size + 1, 1, none⟩ (.slice none 0 0)).setCell ⟨w.heap.size + 1, 2, none⟩ (.bool false)).setCell ⟨w.heap.size + 1, 3, none⟩ (.slice none 0 0)) := fun nB_ uB_ h0 hb => (Below.setCell (Below.setCell (Below.setCell (Below.setCell hb (p := ⟨w.heap.size + 1, 0, none⟩) h0 (.bool false)) (p := ⟨w.heap.size + 1, 1, none⟩) h0 (.slice none 0 0)) (p := ⟨w.heap.size + 1, 2, none⟩) h0 (.bool false)) (p := ⟨w.heap.size + 1, 3, none⟩) h0 (.slice none 0 0))
  replace p1 : Blk (((((w2).setCell ⟨w.heap.size + 1, 0, none⟩ (.bool false)).setCell ⟨w.heap.size + 1, 1, none⟩ (.slice none 0 0)).setCell ⟨w.heap.size + 1, 2, none⟩ (.bool false)).setCell ⟨w.heap.size + 1, 3, none⟩ (.slice none 0 0)) (w.heap.size + 1) 75 #[.bool false, .slice none 0 0, .bool false, .slice none 0 0] := p1
  generalize hgW3 : ((((w2).setCell ⟨w.heap.size + 1, 0, none⟩ (.bool false)).setCell ⟨w.heap.size + 1, 1, none⟩ (.slice none 0 0)).setCell ⟨w.heap.size + 1, 2, none⟩ (.bool false)).setCell ⟨w.heap.size + 1, 3, none⟩ (.slice none 0 0) = W3 at *
  clear hgW3
  replace p1_0 := p1.cell (i := 0) rfl
  replace p1_1 := p1.cell (i := 1) rfl
  replace p1_2 := p1.cell (i := 2) rfl
  replace p1_3 := p1.cell (i := 3) rfl
  replace p1_f0 := p1.free 0
  replace p1_f1 := p1.free 1
  replace p1_f2 := p1.free 2
  replace p1_f3 := p1.free 3
  replace p1_lt := p1.lt
  replace r0_0 := r0.cell (i := 0) rfl
  replace r0_1 := r0.cell (i := 1) rfl
  replace r0_2 := r0.cell (i := 2) rfl
  replace r0_f0 := r0.free 0
  replace r0_f1 := r0.free 1
  replace r0_f2 := r0.free 2
  replace r0_lt := r0.lt
  replace hE0 := hSW3 _ _ (by omega) hE0
  have h' := h
  have HF : Hid (RMatErr w 6 (.returned (.tuple #[.agg #[.bool false, .slice none 0 0, .slice none 0 0], .int .i64 6])) (((W3.setCell ⟨w.heap.size + 1 + 1, 0, none⟩ (.bool false)).setCell ⟨w.heap.size + 1 + 1, 1, none⟩ (.slice none 0 0)).setCell ⟨w.heap.size + 1 + 1, 2, none⟩ (.slice none 0 0))) := Lib.hid ⟨rfl, ext_set3 hE0 _ _ _ (by omega)⟩
  clear hE0 h h'
  have r02 : Blk ((((W3).setCell ⟨w.heap.size + 1 + 1, 0, none⟩ (.bool false)).setCell ⟨w.heap.size + 1 + 1, 1, none⟩ (.slice none 0 0)).setCell ⟨w.heap.size + 1 + 1, 2, none⟩ (.slice none 0 0)) _ _ #[.bool false, .slice none 0 0, .slice none 0 0] := (((r0).set 0 (.bool false)).set 1 (.slice none 0 0)).set 2 (.slice none 0 0)
  have hr00 := r02.cell (i := 0) rfl
  have hr01 := r02.cell (i := 1) rfl
  have hr02 := r02.cell (i := 2) rfl
  go_wp2_with fail
  exact bodyPost_ret (v := .tuple #[.agg #[.bool false, .slice none 0 0, .slice none 0 0], .int .i64 6]) (by simp [results, Tryz.results45, go_sem, hr00, hr01, hr02]) rfl HF.out

set_option maxRecDepth 100000 in
set_option maxHeartbeats 8000000 in
theorem qScale_ok
    (K : Nat) (hK : K + K + 1099511627776 ≤ 8796093022208) (w : World) (b : Bool) (a a2 : Option Addr) (n c n2 c2 : Nat) (d : Int) (zss : List (List Int)) (h : MatS K w b a n c a2 n2 c2 d zss) (bx by1 : Bool) (ax ay : Option Addr) (nx cx ny cy : Nat) (q : Int × Int) (hq : (rFr K).ok 0 w [.bool bx, .slice ax nx cx, .bool by1, .slice ay ny cy] q)
    (s : Int) (hsz : s = 0) (hs : Hid (checkE d zss = s)) (h0 : q.2 ≠ 0) (x : Rat) (hxq : Hid (frR q = x)) (m : Nat) (hm : Hid (colsOf zss = m)) (hn2 : n2 ≤ 1099511627776) (hmm : m ≤ 1099511627776) (Z : List (List Int)) (hZ : Hid (tableZ (fun i k => entry zss i k * x.num) n2 m = Z)) : Calls Tryz.prog 45 #[.agg #[.bool b, .slice a n c, .slice a2 n2 c2], .agg #[.bool bx, .slice ax nx cx, .bool by1, .slice ay ny cy]] w (RMatOk w (madeDen (d * (x.den : Int)) Z) (madeRows (d * (x.den : Int)) Z)) := by
  have hen : Enters Tryz.prog 100 := enters_mk Tryz.func100 (by kernel_rfl) rfl
  subst hsz
  have hc0 := checkE_zero hs.out
  have hd0 : d ≠ 0 := hc0.1
  have hrowm : Hid (∀ zs ∈ zss, zs.length = m) := Lib.hid (fun zs hz => by rw [← hm.out]; exact evenB_all hc0.2 zs hz)
  have hrowb : Hid (∀ zs ∈ zss, zs.length ≤ 1099511627776) := Lib.hid (fun zs hz => by rw [hrowm.out zs hz]; omega)
  have hqK : nl q.1.natAbs ≤ K ∧ nl q.2.natAbs ≤ K := by
    obtain ⟨_, _, _, _, _, _, _, _, hcs, l, l2, h1, h2, hv1, hv2, hn, hn2⟩ := hq
    cases hcs
    exact ⟨Nat.le_trans (nl_of h1 (Lib.hid hv1)) hn, Nat.le_trans (nl_of h2 (Lib.hid hv2)) hn2⟩
  have hle : nl x.num.natAbs ≤ K ∧ nl x.den ≤ K := by
    rw [← hxq.out]
    have := ratv_le q.1 q.2 h0
    exact ⟨Nat.le_trans (nl_mono this.1) hqK.1, Nat.le_trans (nl_mono this.2) hqK.2⟩
  have hxd : ((x.den : Nat) : Int) ≠ 0 := by have := x.den_nz; omega
  clear hc0 hqK
  go_enter Tryz.func45, Tryz.ntmps45
  go_wp2_with fail
  have p0 := Blk.new w 28 #[.bool b, .slice a n c, .slice a2 n2 c2]
  have p1 := Blk.new (w.alloc (Obj.cells #[.bool b, .slice a n c, .slice a2 n2 c2] 28)) 75 #[.bool bx, .slice ax nx cx, .bool by1, .slice ay ny cy]
  replace p0 := p0.ext ((Below.refl _ _).alloc (Nat.le_refl _) (Obj.cells #[.bool bx, .slice ax nx cx, .bool by1, .slice ay ny cy] 75))
  have r0 := Blk.new ((w.alloc (Obj.cells #[.bool b, .slice a n c, .slice a2 n2 c2] 28)).alloc (Obj.cells #[.bool bx, .slice ax nx cx, .bool by1, .slice ay ny cy] 75)) 28 #[.bool false, .slice none 0 0, .slice none 0 0]
  replace p0 := p0.ext ((Below.refl _ _).alloc (Nat.le_refl _) (Obj.cells #[.bool false, .slice none 0 0, .slice none 0 0] 28))
  replace p1 := p1.ext ((Below.refl _ _).alloc (Nat.le_refl _) (Obj.cells #[.bool false, .slice none 0 0, .slice none 0 0] 28))
  have hEW : Ext w (((w.alloc (Obj.cells #[.bool b, .slice a n c, .slice a2 n2 c2] 28)).alloc (Obj.cells #[.bool bx, .slice ax nx cx, .bool by1, .slice ay ny cy] 75)).alloc (Obj.cells #[.bool false, .slice none 0 0, .slice none 0 0] 28)) := ((((Below.refl _ w).alloc (by simp) _).alloc (by simp) _).alloc (by simp; omega) _)
  generalize hgW : ((w.alloc (Obj.cells #[.bool b, .slice a n c, .slice a2 n2 c2] 28)).alloc (Obj.cells #[.bool bx, .slice ax nx cx, .bool by1, .slice ay ny cy] 75)).alloc (Obj.cells #[.bool false, .slice none 0 0, .slice none 0 0] 28) = W at *
  clear hgW
  simp only [World.size_alloc] at p1 r0
  have p0_ne_p1 : ¬ w.heap.size = w.heap.size + 1 := by omega
  have p0_ne_r0 : ¬ w.heap.size = w.heap.size + 1 + 1 := by omega
  have p1_ne_p0 : ¬ w.heap.size + 1 = w.heap.size := by omega
  have p1_ne_r0 : ¬ w.heap.size + 1 = w.heap.size + 1 + 1 := by omega
  have r0_ne_p0 : ¬ w.heap.size + 1 + 1 = w.heap.size := by omega
  have r0_ne_p1 : ¬ w.heap.size + 1 + 1 = w.heap.size + 1 := by omega
  replace p0_0 := p0.cell (i := 0) rfl
  replace p0_1 := p0.cell (i := 1) rfl
  replace p0_2 := p0.cell (i := 2) rfl
  replace p0_f0 := p0.free 0
  replace p0_f1 := p0.free 1
  replace p0_f2 := p0.free 2
  replace p0_lt := p0.lt
  replace p1_0 := p1.cell (i := 0) rfl
  replace p1_1 := p1.cell (i := 1) rfl
  replace p1_2 := p1.cell (i := 2) rfl
  replace p1_3 := p1.cell (i := 3) rfl
  replace p1_f0 := p1.free 0
  replace p1_f1 := p1.free 1
  replace p1_f2 := p1.free 2
  replace p1_f3 := p1.free 3
  replace p1_lt := p1.lt
  replace r0_0 := r0.cell (i := 0) rfl
  replace r0_1 := r0.cell (i := 1) rfl
  replace r0_2 := r0.cell (i := 2) rfl
  replace r0_f0 := r0.free 0
  replace r0_f1 := r0.free 1
  replace r0_f2 := r0.free 2
  replace r0_lt := r0.lt
  have hW : w.heap.size + 1 + 1 < W.heap.size := r0.lt
  (with_reducible refine (check_any K (by omega) W b a a2 n c n2 c2 d zss (h.ext hEW) 0 hs).mono ?_)
  rintro e w1 ⟨rfl, hE1⟩
  replace p0 := p0.ext hE1; replace p0_0 := p0.cell (i := 0) rfl; replace p0_1 := p0.cell (i := 1) rfl; replace p0_2 := p0.cell (i := 2) rfl; replace p0_f0 := p0.free 0; replace p0_f1 := p0.free 1; replace p0_f2 := p0.free 2; replace p0_lt := p0.lt; replace p1 := p1.ext hE1; replace p1_0 := p1.cell (i := 0) rfl; replace p1_1 := p1.cell (i := 1) rfl; replace p1_2 := p1.cell (i := 2) rfl; replace p1_3 := p1.cell (i := 3) rfl; replace p1_f0 := p1.free 0; replace p1_f1 := p1.free 1; replace p1_f2 := p1.free 2; replace p1_f3 := p1.free 3; replace p1_lt := p1.lt; replace r0 := r0.ext hE1; replace r0_0 := r0.cell (i := 0) rfl; replace r0_1 := r0.cell (i := 1) rfl; replace r0_2 := r0.cell (i := 2) rfl; replace r0_f0 := r0.free 0; replace r0_f1 := r0.free 1; replace r0_f2 := r0.free 2; replace r0_lt := r0.lt
  have hE0 := Ext.trans hEW hE1
  have hsz1 := hE1.size
  clear hEW hE1
  go_wp2_with fail
  (with_reducible refine (ratNorm_any K (by omega) w1 bx ax nx cx by1 ay ny cy q (rFr_ext hq hE0) h0 x hxq).mono ?_)
  rintro e w2 ⟨a6, n6, c6, a7, n7, c7, rfl, h6, h7, hE2⟩
  replace p0 := p0.ext hE2; replace p0_0 := p0.cell (i := 0) rfl; replace p0_1 := p0.cell (i := 1) rfl; replace p0_2 := p0.cell (i := 2) rfl; replace p0_f0 := p0.free 0; replace p0_f1 := p0.free 1; replace p0_f2 := p0.free 2; replace p0_lt := p0.lt; replace p1 := p1.ext hE2; replace p1_0 := p1.cell (i := 0) rfl; replace p1_1 := p1.cell (i := 1) rfl; replace p1_2 := p1.cell (i := 2) rfl; replace p1_3 := p1.cell (i := 3) rfl; replace p1_f0 := p1.free 0; replace p1_f1 := p1.free 1; replace p1_f2 := p1.free 2; replace p1_f3 := p1.free 3; replace p1_lt := p1.lt; replace r0 := r0.ext hE2; replace r0_0 := r0.cell (i := 0) rfl; replace r0_1 := r0.cell (i := 1) rfl; replace r0_2 := r0.cell (i := 2) rfl; replace r0_f0 := r0.free 0; replace r0_f1 := r0.free 1; replace r0_f2 := r0.free 2; replace r0_lt := r0.lt
  have hsz2 := hE2.size
  have hn6 : n6 ≤ K := by have := h6.len; rw [length_limbs] at this; omega
  have hn7 : n7 ≤ K := by have := h7.len; rw [length_limbs] at this; omega
  replace hE0 := Ext.trans hE0 hE2
  clear hE2
  have u1 : w.heap.size + 1 ≠ w.heap.size + 1 + 1 := by omega
  have u2 : w.heap.size ≠ w.heap.size + 1 := by omega
  have HXN : Hid (ival (decide (x.num < 0)) (limbs x.num.natAbs) = x.num) := hnorm _
  have HXD : Hid (ival false (limbs x.den) = (x.den : Int)) := Lib.hid (by rw [ival_limbs]; rfl)
  generalize decide (x.num < 0) = sx at *
  go_upto_region 5 with (fail)
  replace p1 := p1.set 0 (.bool sx)
  replace p0 := p0.set_ne 0 (.bool sx) (show w.heap.size ≠ w.heap.size + 1 by omega)
  replace r0 := r0.set_ne 0 (.bool sx) (show w.heap.size + 1 + 1 ≠ w.heap.size + 1 by omega)
  replace p1 := p1.set 1 (.slice a6 n6 c6)
  replace p0 := p0.set_ne 1 (.slice a6 n6 c6) (show w.heap.size ≠ w.heap.size + 1 by omega)
  replace r0 := r0.set_ne 1 (.slice a6 n6 c6) (show w.heap.size + 1 + 1 ≠ w.heap.size + 1 by omega)
  replace p1 := p1.set 2 (.bool false)
  replace p0 := p0.set_ne 2 (.bool false) (show w.heap.size ≠ w.heap.size + 1 by omega)
  replace r0 := r0.set_ne 2 (.bool false) (show w.heap.size + 1 + 1 ≠ w.heap.size + 1 by omega)
  replace p1 := p1.set 3 (.slice a7 n7 c7)
  replace p0 := p0.set_ne 3 (.slice a7 n7 c7) (show w.heap.size ≠ w.heap.size + 1 by omega)
  replace r0 := r0.set_ne 3 (.slice a7 n7 c7) (show w.heap.size + 1 + 1 ≠ w.heap.size + 1 by omega)
  have hKW3 : ∀ bB_ : Nat, w.heap.size + 1 < bB_ → Kept bB_ w2 (((((w2).setCell ⟨w.heap.size + 1, 0, none⟩ (.bool sx)).setCell ⟨w.heap.size + 1, 1, none⟩ (.slice a6 n6 c6)).setCell ⟨w.heap.size + 1, 2, none⟩ (.bool false)).setCell ⟨w.heap.size + 1, 3, none⟩ (.slice a7 n7 c7)) := fun bB_ h0 => (Kept.trans (kept_set _ _ _ h0) (Kept.trans (kept_set _ _ _ h0) (Kept.trans (kept_set _ _ _ h0) (kept_set _ _ _ h0))))
  have hzW3 : w2.heap.size ≤ (((((w2).setCell ⟨w.heap.size + 1, 0, none⟩ (.bool sx)).setCell ⟨w.heap.size + 1, 1, none⟩ (.slice a6 n6 c6)).setCell ⟨w.heap.size + 1, 2, none⟩ (.bool false)).setCell ⟨w.heap.size + 1, 3, none⟩ (.slice a7 n7 c7)).heap.size := by simp only [World.setCell, Array.size_modify]; exact Nat.le_refl _
  have hSW3 : ∀ (nB_ : Nat) (uB_ : World), nB_ ≤ w.heap.size + 1 → Below nB_ uB_ w2 → Below nB_ uB_ (((((w2).setCell ⟨w.heap.size + 1, 0, none⟩ (.bool sx)).setCell ⟨w.heap.size + 1, 1, none⟩ (.slice a6 n6 c6)).setCell ⟨w.heap.size + 1, 2, none⟩ (.bool false)).setCell ⟨w.heap.size + 1, 3, none⟩ (.slice a7 n7 c7)) := fun nB_ uB_ h0 hb => (Below.setCell (Below.setCell (Below.setCell (Below.setCell hb (p := ⟨w.heap.size + 1, 0, none⟩) h0 (.bool sx)) (p := ⟨w.heap.size + 1, 1, none⟩) h0 (.slice a6 n6 c6)) (p := ⟨w.heap.size + 1, 2, none⟩) h0 (.bool false)) (p := ⟨w.heap.size + 1, 3, none⟩) h0 (.slice a7 n7 c7))
  replace p1 : Blk (((((w2).setCell ⟨w.heap.size + 1, 0, none⟩ (.bool sx)).setCell ⟨w.heap.size + 1, 1, none⟩ (.slice a6 n6 c6)).setCell ⟨w.heap.size + 1, 2, none⟩ (.bool false)).setCell ⟨w.heap.size + 1, 3, none⟩ (.slice a7 n7 c7)) (w.heap.size + 1) 75 #[.bool sx, .slice a6 n6 c6, .bool false, .slice a7 n7 c7] := p1
  generalize hgW3 : ((((w2).setCell ⟨w.heap.size + 1, 0, none⟩ (.bool sx)).setCell ⟨w.heap.size + 1, 1, none⟩ (.slice a6 n6 c6)).setCell ⟨w.heap.size + 1, 2, none⟩ (.bool false)).setCell ⟨w.heap.size + 1, 3, none⟩ (.slice a7 n7 c7) = W3 at *
  clear hgW3
  replace p1_0 := p1.cell (i := 0) rfl
  replace p1_1 := p1.cell (i := 1) rfl
  replace p1_2 := p1.cell (i := 2) rfl
  replace p1_3 := p1.cell (i := 3) rfl
  replace p1_f0 := p1.free 0
  replace p1_f1 := p1.free 1
  replace p1_f2 := p1.free 2
  replace p1_f3 := p1.free 3
  replace p1_lt := p1.lt
  replace p0_0 := p0.cell (i := 0) rfl
  replace p0_1 := p0.cell (i := 1) rfl
  replace p0_2 := p0.cell (i := 2) rfl
  replace p0_f0 := p0.free 0
  replace p0_f1 := p0.free 1
  replace p0_f2 := p0.free 2
  replace p0_lt := p0.lt
  replace r0_0 := r0.cell (i := 0) rfl
  replace r0_1 := r0.cell (i := 1) rfl
  replace r0_2 := r0.cell (i := 2) rfl
  replace r0_f0 := r0.free 0
  replace r0_f1 := r0.free 1
  replace r0_f2 := r0.free 2
  replace r0_lt := r0.lt
  replace hE0 := hSW3 _ _ (by omega) hE0
  replace h6 := Sl.zero (h6.mono (Nat.le_refl _) (hKW3 _ (by omega)))
  replace h7 := Sl.zero (h7.mono (Nat.le_refl _) (hKW3 _ (by omega)))
  have hszW3 := hzW3
  clear hSW3 hKW3 hzW3
  go_wp2_with fail
  (with_reducible refine (qsize_any K (by omega) W3 b a a2 n c n2 c2 d zss (h.ext hE0) (by omega) hrowb m hm).mono ?_)
  rintro e w4 ⟨rfl, hE4⟩
  replace p0 := p0.ext hE4; replace p0_0 := p0.cell (i := 0) rfl; replace p0_1 := p0.cell (i := 1) rfl; replace p0_2 := p0.cell (i := 2) rfl; replace p0_f0 := p0.free 0; replace p0_f1 := p0.free 1; replace p0_f2 := p0.free 2; replace p0_lt := p0.lt; replace p1 := p1.ext hE4; replace p1_0 := p1.cell (i := 0) rfl; replace p1_1 := p1.cell (i := 1) rfl; replace p1_2 := p1.cell (i := 2) rfl; replace p1_3 := p1.cell (i := 3) rfl; replace p1_f0 := p1.free 0; replace p1_f1 := p1.free 1; replace p1_f2 := p1.free 2; replace p1_f3 := p1.free 3; replace p1_lt := p1.lt; replace r0 := r0.ext hE4; replace r0_0 := r0.cell (i := 0) rfl; replace r0_1 := r0.cell (i := 1) rfl; replace r0_2 := r0.cell (i := 2) rfl; replace r0_f0 := r0.free 0; replace r0_f1 := r0.free 1; replace r0_f2 := r0.free 2; replace r0_lt := r0.lt
  replace hE0 := Ext.trans hE0 hE4
  have hsz4 := hE4.size
  replace h6 := h6.ext (Nat.le_refl _) hE4
  replace h7 := h7.ext (Nat.le_refl _) hE4
  clear hE4
  have hdd : d * (x.den : Int) ≠ 0 := Int.mul_ne_zero hd0 hxd
  obtain ⟨DD, hDD⟩ : ∃ D, d * (x.den : Int) = D := ⟨_, rfl⟩
  have HDD := Lib.hid hDD
  rw [hDD] at hdd ⊢
  obtain ⟨l0, h1, h2, h3, -⟩ := h.ext hE0
  have H2 := Lib.hid h2
  clear hDD h2
  go_wp2_with fail
  (with_reducible refine (zmul_b b false w4 a a7 n c n7 c7 l0 (limbs x.den) d (x.den : Int) h1 h7 h3 hn7 (by omega) H2 HXD DD HDD).mono ?_)
  rintro e w5 ⟨sd, a5, n5, c5, rfl, h5, HV5, hn5, hE5⟩
  replace p0 := p0.ext hE5; replace p0_0 := p0.cell (i := 0) rfl; replace p0_1 := p0.cell (i := 1) rfl; replace p0_2 := p0.cell (i := 2) rfl; replace p0_f0 := p0.free 0; replace p0_f1 := p0.free 1; replace p0_f2 := p0.free 2; replace p0_lt := p0.lt; replace p1 := p1.ext hE5; replace p1_0 := p1.cell (i := 0) rfl; replace p1_1 := p1.cell (i := 1) rfl; replace p1_2 := p1.cell (i := 2) rfl; replace p1_3 := p1.cell (i := 3) rfl; replace p1_f0 := p1.free 0; replace p1_f1 := p1.free 1; replace p1_f2 := p1.free 2; replace p1_f3 := p1.free 3; replace p1_lt := p1.lt; replace r0 := r0.ext hE5; replace r0_0 := r0.cell (i := 0) rfl; replace r0_1 := r0.cell (i := 1) rfl; replace r0_2 := r0.cell (i := 2) rfl; replace r0_f0 := r0.free 0; replace r0_f1 := r0.free 1; replace r0_f2 := r0.free 2; replace r0_lt := r0.lt
  replace hE0 := Ext.trans hE0 hE5
  have hsz5 := hE5.size
  replace h6 := h6.ext (Nat.le_refl _) hE5
  have HCO := Lib.hid (scale1_any K K (by omega) w5 b a a2 n c n2 c2 d zss (h.ext hE0) m hrowm sx a6 n6 c6 _ _ _ x.num h6 hn6 HXN w.heap.size (w.heap.size + 1) _ _ p0 p1 n2 (Nat.le_refl _) (by omega) (by omega))
  clear h h1 h7 hE5 hq
  go_wp2_with fail
  (with_reducible refine (table_any 100 #[.pointer (some ⟨w.heap.size, 0, none⟩), .pointer (some ⟨w.heap.size + 1, 0, none⟩)] n2 m _ w5 hen HCO (by omega) (by omega)).mono ?_)
  rintro e w6 ⟨a4, c4, rfl, h4, hE6⟩
  replace r0 := r0.ext hE6; replace r0_0 := r0.cell (i := 0) rfl; replace r0_1 := r0.cell (i := 1) rfl; replace r0_2 := r0.cell (i := 2) rfl; replace r0_f0 := r0.free 0; replace r0_f1 := r0.free 1; replace r0_f2 := r0.free 2; replace r0_lt := r0.lt
  rw [hZ.out] at h4
  clear HCO p0 p1 p0_0 p0_1 p0_2 p0_f0 p0_f1 p0_f2 p0_lt p1_0 p1_1 p1_2 p1_3 p1_f0 p1_f1 p1_f2 p1_f3 p1_lt h6
  have hlenZ : ∀ row ∈ Z, row.length ≤ 1099511627776 := by
    intro row hrw
    rw [← hZ.out] at hrw
    rw [table_len _ _ _ row hrw]; omega
  obtain ⟨xss, hG, hxz⟩ := grid_of (rows_of_table h4 hE6) (by omega) hlenZ
  have HXZ := Lib.hid hxz
  have HG := Lib.hid hG
  replace h5 := h5.ext (Nat.zero_le _) hE6
  replace hE0 := Ext.trans hE0 hE6
  have hsz6 := hE6.size
  clear hxz hG h4 hE6 hlenZ hen
  go_wp2_with fail
  (with_reducible refine (made_any w6 sd a5 a4 n5 c5 n2 c4 _ xss h5 HG.out (by omega) DD HV5 hdd).mono ?_)
  rw [HXZ.out]
  rintro e w7 ⟨a7, n7, c7, a8, n8, c8, rfl, h7, h8, hE7⟩
  replace r0 := r0.ext hE7; replace r0_0 := r0.cell (i := 0) rfl; replace r0_1 := r0.cell (i := 1) rfl; replace r0_2 := r0.cell (i := 2) rfl; replace r0_f0 := r0.free 0; replace r0_f1 := r0.free 1; replace r0_f2 := r0.free 2; replace r0_lt := r0.lt
  have HF : Hid (RMatOk w (madeDen (d * (x.den:Int)) Z) (madeRows (d * (x.den:Int)) Z) (.returned (.tuple #[.agg #[.bool (decide (madeDen DD Z < 0)), .slice a7 n7 c7, .slice a8 n8 c8], .int .i64 0])) (((w7.setCell ⟨w.heap.size + 1 + 1, 0, none⟩ (.bool (decide (madeDen DD Z < 0)))).setCell ⟨w.heap.size + 1 + 1, 1, none⟩ (.slice a7 n7 c7)).setCell ⟨w.heap.size + 1 + 1, 2, none⟩ (.slice a8 n8 c8))) := Lib.hid (by rw [HDD.out]; exact RMatOk.box (w := w) (r := w.heap.size+1+1) (v0 := .bool (decide (madeDen DD Z < 0))) (v1 := .slice a7 n7 c7) (v2 := .slice a8 n8 c8) (by omega) (show w.heap.size+1+1 < w6.heap.size by omega) (Ext.trans hE0 hE7) h7 h8)
  clear h7 h8 hE0 hE7 h5
  generalize decide (madeDen DD Z < 0) = sg at *
  have r02 : Blk ((((w7).setCell ⟨w.heap.size + 1 + 1, 0, none⟩ (.bool sg)).setCell ⟨w.heap.size + 1 + 1, 1, none⟩ (.slice a7 n7 c7)).setCell ⟨w.heap.size + 1 + 1, 2, none⟩ (.slice a8 n8 c8)) _ _ #[.bool sg, .slice a7 n7 c7, .slice a8 n8 c8] := (((r0).set 0 (.bool sg)).set 1 (.slice a7 n7 c7)).set 2 (.slice a8 n8 c8)
  have hr00 := r02.cell (i := 0) rfl
  have hr01 := r02.cell (i := 1) rfl
  have hr02 := r02.cell (i := 2) rfl
  go_wp2_with fail
  exact bodyPost_ret (v := .tuple #[.agg #[.bool sg, .slice a7 n7 c7, .slice a8 n8 c8], .int .i64 0]) (by simp [results, Tryz.results45, go_sem, hr00, hr01, hr02]) rfl HF.out

def scaleE (x : Int × List (List Int)) (q : Int × Int) : Int := if checkE x.1 x.2 ≠ 0 then checkE x.1 x.2 else if q.2 = 0 then 6 else 0
set_option maxHeartbeats 2000000 in
theorem scale_ans (K : Nat) (hK : K + K + 1099511627776 ≤ 8796093022208) (w : World) (b : Bool) (a a2 : Option Addr) (n c n2 c2 : Nat) (x : Int × List (List Int)) (h : MatS K w b a n c a2 n2 c2 x.1 x.2) (bx by1 : Bool) (ax ay : Option Addr) (nx cx ny cy : Nat) (q : Int × Int) (hq : (rFr K).ok 0 w [.bool bx, .slice ax nx cx, .bool by1, .slice ay ny cy] q) (hn2 : n2 ≤ 1099511627776) (hm : colsOf x.2 ≤ 1099511627776) (s : Int) (hs : Hid (scaleE x q = s)) (qss : List (List Rat)) (hqs : Hid (scaleQ (fracs x.1 x.2) (frR q) n2 (colsOf x.2) = qss)) :
    Calls Tryz.prog 45 #[.agg #[.bool b, .slice a n c, .slice a2 n2 c2], .agg #[.bool bx, .slice ax nx cx, .bool by1, .slice ay ny cy]] w (RAns w s qss) := by
  by_cases h0 : checkE x.1 x.2 = 0
  · have hx := checkE_zero h0
    by_cases hc : q.2 = 0
    · have hs0 : s = 6 := by rw [← hs.out]; unfold scaleE; rw [if_neg (by simpa using h0), if_pos hc]
      subst hs0
      exact (qScale_den K hK w b a a2 n c n2 c2 x.1 x.2 h bx by1 ax ay nx cx ny cy q hq 0 rfl (Lib.hid h0) hc).mono fun e w' hr => RMatErr.ans hr (by decide) qss
    · have hs0 : s = 0 := by rw [← hs.out]; unfold scaleE; rw [if_neg (by simpa using h0), if_neg hc]
      subst hs0
      refine (qScale_ok K hK w b a a2 n c n2 c2 x.1 x.2 h bx by1 ax ay nx cx ny cy q hq 0 rfl (Lib.hid h0) hc _ (Lib.hid rfl) (colsOf x.2) (Lib.hid rfl) hn2 hm _ (Lib.hid rfl)).mono fun e w' hr => ?_
      refine RMatOk.ans hr (Int.mul_ne_zero hx.1 (by have := (frR q).den_nz; omega)) (colsOf_all _ _ (table_len _ _ _)) qss ?_
      rw [scaleZ_eq, ← hqs.out]
      congr 1
      exact Rat.num_divInt_den _
  · have hs0 : s = checkE x.1 x.2 := by rw [← hs.out]; unfold scaleE; rw [if_pos h0]
    subst hs0
    exact (qScale_err K hK w b a a2 n c n2 c2 x.1 x.2 h bx by1 ax ay nx cx ny cy q hq _ (Lib.hid rfl) h0).mono fun e w' hr => RMatErr.ans hr h0 qss
end Go.Proofs.YtbhenelehhiakaaGreat
