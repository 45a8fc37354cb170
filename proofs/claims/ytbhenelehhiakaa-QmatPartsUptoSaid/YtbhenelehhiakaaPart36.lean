/-
  qmat: Stack (printed by genN.py).
-/
import Derived.Test.YtbhenelehhiakaaPart34
import Derived.Test.YtbhenelehhiakaaPart35
set_option linter.unusedVariables false
set_option linter.unusedSimpArgs false
namespace Go.Proofs.Ytbhenelehhiakaa
open Go.RowKit

set_option maxRecDepth 100000 in
set_option maxHeartbeats 8000000 in
theorem qStack_err (K : Nat) (hK : 2 * K ≤ 8796093022208) (w : World) (b : Bool) (a a2 : Option Addr) (n c n2 c2 : Nat) (d : Int) (zss : List (List Int)) (h : MatS K w b a n c a2 n2 c2 d zss) (b' : Bool) (a' a2' : Option Addr) (n' c' n2' c2' : Nat) (d' : Int) (zss' : List (List Int)) (h' : MatS K w b' a' n' c' a2' n2' c2' d' zss') (s : Int) (hs : Hid (checksE [(d, zss), (d', zss')] = s)) (h0 : s ≠ 0) : Calls Try.prog 18 #[.agg #[.bool b, .slice a n c, .slice a2 n2 c2], .agg #[.bool b', .slice a' n' c', .slice a2' n2' c2']] w (RMatErr w s) := by
  have hs0 : (s != 0) = true := by simpa using h0
  go_enter Try.func18, Try.ntmps18
  go_wp2_with fail
  have p0 := Blk.new w 30 #[.bool b, .slice a n c, .slice a2 n2 c2]
  have p1 := Blk.new (w.alloc (Obj.cells #[.bool b, .slice a n c, .slice a2 n2 c2] 30)) 30 #[.bool b', .slice a' n' c', .slice a2' n2' c2']
  replace p0 := p0.ext ((Below.refl _ _).alloc (Nat.le_refl _) (Obj.cells #[.bool b', .slice a' n' c', .slice a2' n2' c2'] 30))
  have r0 := Blk.new ((w.alloc (Obj.cells #[.bool b, .slice a n c, .slice a2 n2 c2] 30)).alloc (Obj.cells #[.bool b', .slice a' n' c', .slice a2' n2' c2'] 30)) 30 #[.bool false, .slice none 0 0, .slice none 0 0]
  replace p0 := p0.ext ((Below.refl _ _).alloc (Nat.le_refl _) (Obj.cells #[.bool false, .slice none 0 0, .slice none 0 0] 30))
  replace p1 := p1.ext ((Below.refl _ _).alloc (Nat.le_refl _) (Obj.cells #[.bool false, .slice none 0 0, .slice none 0 0] 30))
  have y := Blk.new (((w.alloc (Obj.cells #[.bool b, .slice a n c, .slice a2 n2 c2] 30)).alloc (Obj.cells #[.bool b', .slice a' n' c', .slice a2' n2' c2'] 30)).alloc (Obj.cells #[.bool false, .slice none 0 0, .slice none 0 0] 30)) 30 #[.bool b, .slice a n c, .slice a2 n2 c2, .bool b', .slice a' n' c', .slice a2' n2' c2']
  replace p0 := p0.ext ((Below.refl _ _).alloc (Nat.le_refl _) (Obj.cells #[.bool b, .slice a n c, .slice a2 n2 c2, .bool b', .slice a' n' c', .slice a2' n2' c2'] 30))
  replace p1 := p1.ext ((Below.refl _ _).alloc (Nat.le_refl _) (Obj.cells #[.bool b, .slice a n c, .slice a2 n2 c2, .bool b', .slice a' n' c', .slice a2' n2' c2'] 30))
  replace r0 := r0.ext ((Below.refl _ _).alloc (Nat.le_refl _) (Obj.cells #[.bool b, .slice a n c, .slice a2 n2 c2, .bool b', .slice a' n' c', .slice a2' n2' c2'] 30))
  have hEW : Ext w ((((w.alloc (Obj.cells #[.bool b, .slice a n c, .slice a2 n2 c2] 30)).alloc (Obj.cells #[.bool b', .slice a' n' c', .slice a2' n2' c2'] 30)).alloc (Obj.cells #[.bool false, .slice none 0 0, .slice none 0 0] 30)).alloc (Obj.cells #[.bool b, .slice a n c, .slice a2 n2 c2, .bool b', .slice a' n' c', .slice a2' n2' c2'] 30)) := (((((Below.refl _ w).alloc (by simp) _).alloc (by simp) _).alloc (by simp; omega) _).alloc (by simp; omega) _)
  generalize hgW : (((w.alloc (Obj.cells #[.bool b, .slice a n c, .slice a2 n2 c2] 30)).alloc (Obj.cells #[.bool b', .slice a' n' c', .slice a2' n2' c2'] 30)).alloc (Obj.cells #[.bool false, .slice none 0 0, .slice none 0 0] 30)).alloc (Obj.cells #[.bool b, .slice a n c, .slice a2 n2 c2, .bool b', .slice a' n' c', .slice a2' n2' c2'] 30) = W at *
  clear hgW
  simp only [World.size_alloc] at p1 r0 y
  have p0_ne_p1 : ¬ w.heap.size = w.heap.size + 1 := by omega
  have p0_ne_r0 : ¬ w.heap.size = w.heap.size + 1 + 1 := by omega
  have p0_ne_y : ¬ w.heap.size = w.heap.size + 1 + 1 + 1 := by omega
  have p1_ne_p0 : ¬ w.heap.size + 1 = w.heap.size := by omega
  have p1_ne_r0 : ¬ w.heap.size + 1 = w.heap.size + 1 + 1 := by omega
  have p1_ne_y : ¬ w.heap.size + 1 = w.heap.size + 1 + 1 + 1 := by omega
  have r0_ne_p0 : ¬ w.heap.size + 1 + 1 = w.heap.size := by omega
  have r0_ne_p1 : ¬ w.heap.size + 1 + 1 = w.heap.size + 1 := by omega
  have r0_ne_y : ¬ w.heap.size + 1 + 1 = w.heap.size + 1 + 1 + 1 := by omega
  have y_ne_p0 : ¬ w.heap.size + 1 + 1 + 1 = w.heap.size := by omega
  have y_ne_p1 : ¬ w.heap.size + 1 + 1 + 1 = w.heap.size + 1 := by omega
  have y_ne_r0 : ¬ w.heap.size + 1 + 1 + 1 = w.heap.size + 1 + 1 := by omega
  replace p0_0 := p0.cell (i := 0) rfl
  replace p0_1 := p0.cell (i := 1) rfl
  replace p0_2 := p0.cell (i := 2) rfl
  replace p0_f0 := p0.free 0
  replace p0_f1 := p0.free 1
  replace p0_f2 := p0.free 2
  replace p0_lt := p0.lt
  replace p1_0 := p1.cell (i := 0) rfl
  replace p1_1 := p1.cell (i := 1) rfl
  replace p1_2 := p1.cell (i := 2) rfl
  replace p1_f0 := p1.free 0
  replace p1_f1 := p1.free 1
  replace p1_f2 := p1.free 2
  replace p1_lt := p1.lt
  replace r0_0 := r0.cell (i := 0) rfl
  replace r0_1 := r0.cell (i := 1) rfl
  replace r0_2 := r0.cell (i := 2) rfl
  replace r0_f0 := r0.free 0
  replace r0_f1 := r0.free 1
  replace r0_f2 := r0.free 2
  replace r0_lt := r0.lt
  replace y_0 := y.cell (i := 0) rfl
  replace y_1 := y.cell (i := 1) rfl
  replace y_2 := y.cell (i := 2) rfl
  replace y_3 := y.cell (i := 3) rfl
  replace y_4 := y.cell (i := 4) rfl
  replace y_5 := y.cell (i := 5) rfl
  refine (checks_any K (by omega) W (some ⟨w.heap.size + 1 + 1 + 1, 0, none⟩) 2 2 [(d, zss), (d', zss')] (sl_mat2 y (h.ext hEW) (h'.ext hEW)) s hs).mono ?_
  rintro e w1 ⟨rfl, hE1⟩
  replace p0 := p0.ext hE1; replace p0_0 := p0.cell (i := 0) rfl; replace p0_1 := p0.cell (i := 1) rfl; replace p0_2 := p0.cell (i := 2) rfl; replace p0_f0 := p0.free 0; replace p0_f1 := p0.free 1; replace p0_f2 := p0.free 2; replace p0_lt := p0.lt; replace p1 := p1.ext hE1; replace p1_0 := p1.cell (i := 0) rfl; replace p1_1 := p1.cell (i := 1) rfl; replace p1_2 := p1.cell (i := 2) rfl; replace p1_f0 := p1.free 0; replace p1_f1 := p1.free 1; replace p1_f2 := p1.free 2; replace p1_lt := p1.lt; replace r0 := r0.ext hE1; replace r0_0 := r0.cell (i := 0) rfl; replace r0_1 := r0.cell (i := 1) rfl; replace r0_2 := r0.cell (i := 2) rfl; replace r0_f0 := r0.free 0; replace r0_f1 := r0.free 1; replace r0_f2 := r0.free 2; replace r0_lt := r0.lt
  have hE0 := Ext.trans hEW hE1
  have hszW : w.heap.size + 1 + 1 + 1 < W.heap.size := y.lt
  have hsz1 := hE1.size
  clear y y_0 y_1 y_2 y_3 y_4 y_5 hEW hE1
  have HF : Hid (RMatErr w s (.returned (.tuple #[.agg #[.bool false, .slice none 0 0, .slice none 0 0], .int .i64 s])) (((w1.setCell ⟨w.heap.size + 1 + 1, 0, none⟩ (.bool false)).setCell ⟨w.heap.size + 1 + 1, 1, none⟩ (.slice none 0 0)).setCell ⟨w.heap.size + 1 + 1, 2, none⟩ (.slice none 0 0))) := Lib.hid ⟨rfl, ext_set3 hE0 _ _ _ (by omega)⟩
  have r2_ := ((r0.set 0 (.bool false)).set 1 (.slice none 0 0)).set 2 (.slice none 0 0)
  have hr0 := r2_.cell (i := 0) rfl
  have hr1 := r2_.cell (i := 1) rfl
  have hr2 := r2_.cell (i := 2) rfl
  clear hE0 h h'
  go_wp2_with fail
  exact bodyPost_ret (v := .tuple #[.agg #[.bool false, .slice none 0 0, .slice none 0 0], .int .i64 s]) (by simp [results, Try.results18, go_sem, hr0, hr1, hr2]) rfl HF.out

set_option maxRecDepth 100000 in
set_option maxHeartbeats 8000000 in
theorem qStack_shape (K : Nat) (hK : 2 * K ≤ 8796093022208) (w : World) (b : Bool) (a a2 : Option Addr) (n c n2 c2 : Nat) (d : Int) (zss : List (List Int)) (h : MatS K w b a n c a2 n2 c2 d zss) (b' : Bool) (a' a2' : Option Addr) (n' c' n2' c2' : Nat) (d' : Int) (zss' : List (List Int)) (h' : MatS K w b' a' n' c' a2' n2' c2' d' zss') (hs : Hid (checksE [(d, zss), (d', zss')] = 0)) (m m' : Nat) (hm : Hid (colsOf zss = m)) (hm' : Hid (colsOf zss' = m')) (hn2 : n2 ≤ 549755813888) (hn2' : n2' ≤ 549755813888) (hmm : m ≤ 1099511627776) (hmm' : m' ≤ 1099511627776) (hz : n2 ≠ 0) (hz' : n2' ≠ 0) (hne : m ≠ m') : Calls Try.prog 18 #[.agg #[.bool b, .slice a n c, .slice a2 n2 c2], .agg #[.bool b', .slice a' n' c', .slice a2' n2' c2']] w (RMatErr w 2) := by
  have hc0 := checksE_zero hs.out (d, zss) (by simp)
  have hc1 := checksE_zero hs.out (d', zss') (by simp)
  have hd0 : d ≠ 0 := hc0.1
  have hd1 : d' ≠ 0 := hc1.1
  have hrowm : Hid (∀ zs ∈ zss, zs.length = m) := Lib.hid (fun zs hz => by rw [← hm.out]; exact even_len hc0.2 zs hz)
  have hrowm' : Hid (∀ zs ∈ zss', zs.length = m') := Lib.hid (fun zs hz => by rw [← hm'.out]; exact even_len hc1.2 zs hz)
  have hrowb : Hid (∀ zs ∈ zss, zs.length ≤ 1099511627776) := Lib.hid (fun zs hz => by rw [hrowm.out zs hz]; exact hmm)
  have hrowb' : Hid (∀ zs ∈ zss', zs.length ≤ 1099511627776) := Lib.hid (fun zs hz => by rw [hrowm'.out zs hz]; exact hmm')
  clear hc0 hc1
  have t0 : ((n2 : Int) == 0) = false := by simpa using hz
  have t1 : ((n2' : Int) == 0) = false := by simpa using hz'
  have t2 : ((m : Int) != (m' : Int)) = true := by simp; omega
  clear hz hz' hne
  go_enter Try.func18, Try.ntmps18
  go_wp2_with fail
  have p0 := Blk.new w 30 #[.bool b, .slice a n c, .slice a2 n2 c2]
  have p1 := Blk.new (w.alloc (Obj.cells #[.bool b, .slice a n c, .slice a2 n2 c2] 30)) 30 #[.bool b', .slice a' n' c', .slice a2' n2' c2']
  replace p0 := p0.ext ((Below.refl _ _).alloc (Nat.le_refl _) (Obj.cells #[.bool b', .slice a' n' c', .slice a2' n2' c2'] 30))
  have r0 := Blk.new ((w.alloc (Obj.cells #[.bool b, .slice a n c, .slice a2 n2 c2] 30)).alloc (Obj.cells #[.bool b', .slice a' n' c', .slice a2' n2' c2'] 30)) 30 #[.bool false, .slice none 0 0, .slice none 0 0]
  replace p0 := p0.ext ((Below.refl _ _).alloc (Nat.le_refl _) (Obj.cells #[.bool false, .slice none 0 0, .slice none 0 0] 30))
  replace p1 := p1.ext ((Below.refl _ _).alloc (Nat.le_refl _) (Obj.cells #[.bool false, .slice none 0 0, .slice none 0 0] 30))
  have y := Blk.new (((w.alloc (Obj.cells #[.bool b, .slice a n c, .slice a2 n2 c2] 30)).alloc (Obj.cells #[.bool b', .slice a' n' c', .slice a2' n2' c2'] 30)).alloc (Obj.cells #[.bool false, .slice none 0 0, .slice none 0 0] 30)) 30 #[.bool b, .slice a n c, .slice a2 n2 c2, .bool b', .slice a' n' c', .slice a2' n2' c2']
  replace p0 := p0.ext ((Below.refl _ _).alloc (Nat.le_refl _) (Obj.cells #[.bool b, .slice a n c, .slice a2 n2 c2, .bool b', .slice a' n' c', .slice a2' n2' c2'] 30))
  replace p1 := p1.ext ((Below.refl _ _).alloc (Nat.le_refl _) (Obj.cells #[.bool b, .slice a n c, .slice a2 n2 c2, .bool b', .slice a' n' c', .slice a2' n2' c2'] 30))
  replace r0 := r0.ext ((Below.refl _ _).alloc (Nat.le_refl _) (Obj.cells #[.bool b, .slice a n c, .slice a2 n2 c2, .bool b', .slice a' n' c', .slice a2' n2' c2'] 30))
  have hEW : Ext w ((((w.alloc (Obj.cells #[.bool b, .slice a n c, .slice a2 n2 c2] 30)).alloc (Obj.cells #[.bool b', .slice a' n' c', .slice a2' n2' c2'] 30)).alloc (Obj.cells #[.bool false, .slice none 0 0, .slice none 0 0] 30)).alloc (Obj.cells #[.bool b, .slice a n c, .slice a2 n2 c2, .bool b', .slice a' n' c', .slice a2' n2' c2'] 30)) := (((((Below.refl _ w).alloc (by simp) _).alloc (by simp) _).alloc (by simp; omega) _).alloc (by simp; omega) _)
  generalize hgW : (((w.alloc (Obj.cells #[.bool b, .slice a n c, .slice a2 n2 c2] 30)).alloc (Obj.cells #[.bool b', .slice a' n' c', .slice a2' n2' c2'] 30)).alloc (Obj.cells #[.bool false, .slice none 0 0, .slice none 0 0] 30)).alloc (Obj.cells #[.bool b, .slice a n c, .slice a2 n2 c2, .bool b', .slice a' n' c', .slice a2' n2' c2'] 30) = W at *
  clear hgW
  simp only [World.size_alloc] at p1 r0 y
  have p0_ne_p1 : ¬ w.heap.size = w.heap.size + 1 := by omega
  have p0_ne_r0 : ¬ w.heap.size = w.heap.size + 1 + 1 := by omega
  have p0_ne_y : ¬ w.heap.size = w.heap.size + 1 + 1 + 1 := by omega
  have p1_ne_p0 : ¬ w.heap.size + 1 = w.heap.size := by omega
  have p1_ne_r0 : ¬ w.heap.size + 1 = w.heap.size + 1 + 1 := by omega
  have p1_ne_y : ¬ w.heap.size + 1 = w.heap.size + 1 + 1 + 1 := by omega
  have r0_ne_p0 : ¬ w.heap.size + 1 + 1 = w.heap.size := by omega
  have r0_ne_p1 : ¬ w.heap.size + 1 + 1 = w.heap.size + 1 := by omega
  have r0_ne_y : ¬ w.heap.size + 1 + 1 = w.heap.size + 1 + 1 + 1 := by omega
  have y_ne_p0 : ¬ w.heap.size + 1 + 1 + 1 = w.heap.size := by omega
  have y_ne_p1 : ¬ w.heap.size + 1 + 1 + 1 = w.heap.size + 1 := by omega
  have y_ne_r0 : ¬ w.heap.size + 1 + 1 + 1 = w.heap.size + 1 + 1 := by omega
  replace p0_0 := p0.cell (i := 0) rfl
  replace p0_1 := p0.cell (i := 1) rfl
  replace p0_2 := p0.cell (i := 2) rfl
  replace p0_f0 := p0.free 0
  replace p0_f1 := p0.free 1
  replace p0_f2 := p0.free 2
  replace p0_lt := p0.lt
  replace p1_0 := p1.cell (i := 0) rfl
  replace p1_1 := p1.cell (i := 1) rfl
  replace p1_2 := p1.cell (i := 2) rfl
  replace p1_f0 := p1.free 0
  replace p1_f1 := p1.free 1
  replace p1_f2 := p1.free 2
  replace p1_lt := p1.lt
  replace r0_0 := r0.cell (i := 0) rfl
  replace r0_1 := r0.cell (i := 1) rfl
  replace r0_2 := r0.cell (i := 2) rfl
  replace r0_f0 := r0.free 0
  replace r0_f1 := r0.free 1
  replace r0_f2 := r0.free 2
  replace r0_lt := r0.lt
  replace y_0 := y.cell (i := 0) rfl
  replace y_1 := y.cell (i := 1) rfl
  replace y_2 := y.cell (i := 2) rfl
  replace y_3 := y.cell (i := 3) rfl
  replace y_4 := y.cell (i := 4) rfl
  replace y_5 := y.cell (i := 5) rfl
  refine (checks_any K (by omega) W (some ⟨w.heap.size + 1 + 1 + 1, 0, none⟩) 2 2 [(d, zss), (d', zss')] (sl_mat2 y (h.ext hEW) (h'.ext hEW)) 0 hs).mono ?_
  rintro e w1 ⟨rfl, hE1⟩
  replace p0 := p0.ext hE1; replace p0_0 := p0.cell (i := 0) rfl; replace p0_1 := p0.cell (i := 1) rfl; replace p0_2 := p0.cell (i := 2) rfl; replace p0_f0 := p0.free 0; replace p0_f1 := p0.free 1; replace p0_f2 := p0.free 2; replace p0_lt := p0.lt; replace p1 := p1.ext hE1; replace p1_0 := p1.cell (i := 0) rfl; replace p1_1 := p1.cell (i := 1) rfl; replace p1_2 := p1.cell (i := 2) rfl; replace p1_f0 := p1.free 0; replace p1_f1 := p1.free 1; replace p1_f2 := p1.free 2; replace p1_lt := p1.lt; replace r0 := r0.ext hE1; replace r0_0 := r0.cell (i := 0) rfl; replace r0_1 := r0.cell (i := 1) rfl; replace r0_2 := r0.cell (i := 2) rfl; replace r0_f0 := r0.free 0; replace r0_f1 := r0.free 1; replace r0_f2 := r0.free 2; replace r0_lt := r0.lt
  have hE0 := Ext.trans hEW hE1
  have hszW : w.heap.size + 1 + 1 + 1 < W.heap.size := y.lt
  have hsz1 := hE1.size
  clear y y_0 y_1 y_2 y_3 y_4 y_5 hEW hE1
  go_wp2_with fail
  refine (qsize_any K (by omega) w1 b a a2 n c n2 c2 d zss (h.ext hE0) (by omega) hrowb m hm).mono ?_
  rintro e w2 ⟨rfl, hE2⟩
  replace p0 := p0.ext hE2; replace p0_0 := p0.cell (i := 0) rfl; replace p0_1 := p0.cell (i := 1) rfl; replace p0_2 := p0.cell (i := 2) rfl; replace p0_f0 := p0.free 0; replace p0_f1 := p0.free 1; replace p0_f2 := p0.free 2; replace p0_lt := p0.lt; replace p1 := p1.ext hE2; replace p1_0 := p1.cell (i := 0) rfl; replace p1_1 := p1.cell (i := 1) rfl; replace p1_2 := p1.cell (i := 2) rfl; replace p1_f0 := p1.free 0; replace p1_f1 := p1.free 1; replace p1_f2 := p1.free 2; replace p1_lt := p1.lt; replace r0 := r0.ext hE2; replace r0_0 := r0.cell (i := 0) rfl; replace r0_1 := r0.cell (i := 1) rfl; replace r0_2 := r0.cell (i := 2) rfl; replace r0_f0 := r0.free 0; replace r0_f1 := r0.free 1; replace r0_f2 := r0.free 2; replace r0_lt := r0.lt
  replace hE0 := Ext.trans hE0 hE2
  have hsz2 := hE2.size
  clear hE2
  go_wp2_with fail
  have q := Blk.new w2 3 #[.int .i64 (n2 : Int)]
  have hEW3 : Ext w2 (w2.alloc (Obj.cells #[.int .i64 (n2 : Int)] 3)) := ((Below.refl _ w2).alloc (by simp) _)
  generalize hgW3 : w2.alloc (Obj.cells #[.int .i64 (n2 : Int)] 3) = W3 at *
  clear hgW3
  replace q_0 := q.cell (i := 0) rfl
  replace p0 := p0.ext hEW3; replace p0_0 := p0.cell (i := 0) rfl; replace p0_1 := p0.cell (i := 1) rfl; replace p0_2 := p0.cell (i := 2) rfl; replace p0_f0 := p0.free 0; replace p0_f1 := p0.free 1; replace p0_f2 := p0.free 2; replace p0_lt := p0.lt; replace p1 := p1.ext hEW3; replace p1_0 := p1.cell (i := 0) rfl; replace p1_1 := p1.cell (i := 1) rfl; replace p1_2 := p1.cell (i := 2) rfl; replace p1_f0 := p1.free 0; replace p1_f1 := p1.free 1; replace p1_f2 := p1.free 2; replace p1_lt := p1.lt; replace r0 := r0.ext hEW3; replace r0_0 := r0.cell (i := 0) rfl; replace r0_1 := r0.cell (i := 1) rfl; replace r0_2 := r0.cell (i := 2) rfl; replace r0_f0 := r0.free 0; replace r0_f1 := r0.free 1; replace r0_f2 := r0.free 2; replace r0_lt := r0.lt
  replace hE0 := Ext.trans hE0 hEW3
  have hsz3 := hEW3.size
  refine (qsize_any K (by omega) W3 b' a' a2' n' c' n2' c2' d' zss' (h'.ext hE0) (by omega) hrowb' m' hm').mono ?_
  rintro e w4 ⟨rfl, hE4⟩
  replace p0 := p0.ext hE4; replace p0_0 := p0.cell (i := 0) rfl; replace p0_1 := p0.cell (i := 1) rfl; replace p0_2 := p0.cell (i := 2) rfl; replace p0_f0 := p0.free 0; replace p0_f1 := p0.free 1; replace p0_f2 := p0.free 2; replace p0_lt := p0.lt; replace p1 := p1.ext hE4; replace p1_0 := p1.cell (i := 0) rfl; replace p1_1 := p1.cell (i := 1) rfl; replace p1_2 := p1.cell (i := 2) rfl; replace p1_f0 := p1.free 0; replace p1_f1 := p1.free 1; replace p1_f2 := p1.free 2; replace p1_lt := p1.lt; replace r0 := r0.ext hE4; replace r0_0 := r0.cell (i := 0) rfl; replace r0_1 := r0.cell (i := 1) rfl; replace r0_2 := r0.cell (i := 2) rfl; replace r0_f0 := r0.free 0; replace r0_f1 := r0.free 1; replace r0_f2 := r0.free 2; replace r0_lt := r0.lt; replace q := q.ext hE4; replace q_0 := q.cell (i := 0) rfl
  replace hE0 := Ext.trans hE0 hE4
  have hsz4 := hE4.size
  clear hE4 hEW3
  have HF : Hid (RMatErr w 2 (.returned (.tuple #[.agg #[.bool false, .slice none 0 0, .slice none 0 0], .int .i64 2])) (((w4.setCell ⟨w.heap.size + 1 + 1, 0, none⟩ (.bool false)).setCell ⟨w.heap.size + 1 + 1, 1, none⟩ (.slice none 0 0)).setCell ⟨w.heap.size + 1 + 1, 2, none⟩ (.slice none 0 0))) := Lib.hid ⟨rfl, ext_set3 hE0 _ _ _ (by omega)⟩
  have r2_ := ((r0.set 0 (.bool false)).set 1 (.slice none 0 0)).set 2 (.slice none 0 0)
  have hr0 := r2_.cell (i := 0) rfl
  have hr1 := r2_.cell (i := 1) rfl
  have hr2 := r2_.cell (i := 2) rfl
  clear hE0 h h'
  go_wp2_with fail
  exact bodyPost_ret (v := .tuple #[.agg #[.bool false, .slice none 0 0, .slice none 0 0], .int .i64 2]) (by simp [results, Try.results18, go_sem, hr0, hr1, hr2]) rfl HF.out

set_option maxRecDepth 100000 in
set_option maxHeartbeats 8000000 in
theorem qStack_first0 (K : Nat) (hK : 2 * K ≤ 8796093022208) (w : World) (b : Bool) (a a2 : Option Addr) (n c n2 c2 : Nat) (d : Int) (zss : List (List Int)) (h : MatS K w b a n c a2 n2 c2 d zss) (b' : Bool) (a' a2' : Option Addr) (n' c' n2' c2' : Nat) (d' : Int) (zss' : List (List Int)) (h' : MatS K w b' a' n' c' a2' n2' c2' d' zss') (hs : Hid (checksE [(d, zss), (d', zss')] = 0)) (m m' : Nat) (hm : Hid (colsOf zss = m)) (hm' : Hid (colsOf zss' = m')) (hn2 : n2 ≤ 549755813888) (hn2' : n2' ≤ 549755813888) (hmm : m ≤ 1099511627776) (hmm' : m' ≤ 1099511627776) (hz : n2 = 0) : Calls Try.prog 18 #[.agg #[.bool b, .slice a n c, .slice a2 n2 c2], .agg #[.bool b', .slice a' n' c', .slice a2' n2' c2']] w (RMatOk w (madeDen d' zss') (madeRows d' zss')) := by
  have t0 : ((n2 : Int) == 0) = true := by simpa using hz
  clear hz
  have hc0 := checksE_zero hs.out (d, zss) (by simp)
  have hc1 := checksE_zero hs.out (d', zss') (by simp)
  have hd0 : d ≠ 0 := hc0.1
  have hd1 : d' ≠ 0 := hc1.1
  have hrowm : Hid (∀ zs ∈ zss, zs.length = m) := Lib.hid (fun zs hz => by rw [← hm.out]; exact even_len hc0.2 zs hz)
  have hrowm' : Hid (∀ zs ∈ zss', zs.length = m') := Lib.hid (fun zs hz => by rw [← hm'.out]; exact even_len hc1.2 zs hz)
  have hrowb : Hid (∀ zs ∈ zss, zs.length ≤ 1099511627776) := Lib.hid (fun zs hz => by rw [hrowm.out zs hz]; exact hmm)
  have hrowb' : Hid (∀ zs ∈ zss', zs.length ≤ 1099511627776) := Lib.hid (fun zs hz => by rw [hrowm'.out zs hz]; exact hmm')
  clear hc0 hc1
  go_enter Try.func18, Try.ntmps18
  go_wp2_with fail
  have p0 := Blk.new w 30 #[.bool b, .slice a n c, .slice a2 n2 c2]
  have p1 := Blk.new (w.alloc (Obj.cells #[.bool b, .slice a n c, .slice a2 n2 c2] 30)) 30 #[.bool b', .slice a' n' c', .slice a2' n2' c2']
  replace p0 := p0.ext ((Below.refl _ _).alloc (Nat.le_refl _) (Obj.cells #[.bool b', .slice a' n' c', .slice a2' n2' c2'] 30))
  have r0 := Blk.new ((w.alloc (Obj.cells #[.bool b, .slice a n c, .slice a2 n2 c2] 30)).alloc (Obj.cells #[.bool b', .slice a' n' c', .slice a2' n2' c2'] 30)) 30 #[.bool false, .slice none 0 0, .slice none 0 0]
  replace p0 := p0.ext ((Below.refl _ _).alloc (Nat.le_refl _) (Obj.cells #[.bool false, .slice none 0 0, .slice none 0 0] 30))
  replace p1 := p1.ext ((Below.refl _ _).alloc (Nat.le_refl _) (Obj.cells #[.bool false, .slice none 0 0, .slice none 0 0] 30))
  have y := Blk.new (((w.alloc (Obj.cells #[.bool b, .slice a n c, .slice a2 n2 c2] 30)).alloc (Obj.cells #[.bool b', .slice a' n' c', .slice a2' n2' c2'] 30)).alloc (Obj.cells #[.bool false, .slice none 0 0, .slice none 0 0] 30)) 30 #[.bool b, .slice a n c, .slice a2 n2 c2, .bool b', .slice a' n' c', .slice a2' n2' c2']
  replace p0 := p0.ext ((Below.refl _ _).alloc (Nat.le_refl _) (Obj.cells #[.bool b, .slice a n c, .slice a2 n2 c2, .bool b', .slice a' n' c', .slice a2' n2' c2'] 30))
  replace p1 := p1.ext ((Below.refl _ _).alloc (Nat.le_refl _) (Obj.cells #[.bool b, .slice a n c, .slice a2 n2 c2, .bool b', .slice a' n' c', .slice a2' n2' c2'] 30))
  replace r0 := r0.ext ((Below.refl _ _).alloc (Nat.le_refl _) (Obj.cells #[.bool b, .slice a n c, .slice a2 n2 c2, .bool b', .slice a' n' c', .slice a2' n2' c2'] 30))
  have hEW : Ext w ((((w.alloc (Obj.cells #[.bool b, .slice a n c, .slice a2 n2 c2] 30)).alloc (Obj.cells #[.bool b', .slice a' n' c', .slice a2' n2' c2'] 30)).alloc (Obj.cells #[.bool false, .slice none 0 0, .slice none 0 0] 30)).alloc (Obj.cells #[.bool b, .slice a n c, .slice a2 n2 c2, .bool b', .slice a' n' c', .slice a2' n2' c2'] 30)) := (((((Below.refl _ w).alloc (by simp) _).alloc (by simp) _).alloc (by simp; omega) _).alloc (by simp; omega) _)
  generalize hgW : (((w.alloc (Obj.cells #[.bool b, .slice a n c, .slice a2 n2 c2] 30)).alloc (Obj.cells #[.bool b', .slice a' n' c', .slice a2' n2' c2'] 30)).alloc (Obj.cells #[.bool false, .slice none 0 0, .slice none 0 0] 30)).alloc (Obj.cells #[.bool b, .slice a n c, .slice a2 n2 c2, .bool b', .slice a' n' c', .slice a2' n2' c2'] 30) = W at *
  clear hgW
  simp only [World.size_alloc] at p1 r0 y
  have p0_ne_p1 : ¬ w.heap.size = w.heap.size + 1 := by omega
  have p0_ne_r0 : ¬ w.heap.size = w.heap.size + 1 + 1 := by omega
  have p0_ne_y : ¬ w.heap.size = w.heap.size + 1 + 1 + 1 := by omega
  have p1_ne_p0 : ¬ w.heap.size + 1 = w.heap.size := by omega
  have p1_ne_r0 : ¬ w.heap.size + 1 = w.heap.size + 1 + 1 := by omega
  have p1_ne_y : ¬ w.heap.size + 1 = w.heap.size + 1 + 1 + 1 := by omega
  have r0_ne_p0 : ¬ w.heap.size + 1 + 1 = w.heap.size := by omega
  have r0_ne_p1 : ¬ w.heap.size + 1 + 1 = w.heap.size + 1 := by omega
  have r0_ne_y : ¬ w.heap.size + 1 + 1 = w.heap.size + 1 + 1 + 1 := by omega
  have y_ne_p0 : ¬ w.heap.size + 1 + 1 + 1 = w.heap.size := by omega
  have y_ne_p1 : ¬ w.heap.size + 1 + 1 + 1 = w.heap.size + 1 := by omega
  have y_ne_r0 : ¬ w.heap.size + 1 + 1 + 1 = w.heap.size + 1 + 1 := by omega
  replace p0_0 := p0.cell (i := 0) rfl
  replace p0_1 := p0.cell (i := 1) rfl
  replace p0_2 := p0.cell (i := 2) rfl
  replace p0_f0 := p0.free 0
  replace p0_f1 := p0.free 1
  replace p0_f2 := p0.free 2
  replace p0_lt := p0.lt
  replace p1_0 := p1.cell (i := 0) rfl
  replace p1_1 := p1.cell (i := 1) rfl
  replace p1_2 := p1.cell (i := 2) rfl
  replace p1_f0 := p1.free 0
  replace p1_f1 := p1.free 1
  replace p1_f2 := p1.free 2
  replace p1_lt := p1.lt
  replace r0_0 := r0.cell (i := 0) rfl
  replace r0_1 := r0.cell (i := 1) rfl
  replace r0_2 := r0.cell (i := 2) rfl
  replace r0_f0 := r0.free 0
  replace r0_f1 := r0.free 1
  replace r0_f2 := r0.free 2
  replace r0_lt := r0.lt
  replace y_0 := y.cell (i := 0) rfl
  replace y_1 := y.cell (i := 1) rfl
  replace y_2 := y.cell (i := 2) rfl
  replace y_3 := y.cell (i := 3) rfl
  replace y_4 := y.cell (i := 4) rfl
  replace y_5 := y.cell (i := 5) rfl
  refine (checks_any K (by omega) W (some ⟨w.heap.size + 1 + 1 + 1, 0, none⟩) 2 2 [(d, zss), (d', zss')] (sl_mat2 y (h.ext hEW) (h'.ext hEW)) 0 hs).mono ?_
  rintro e w1 ⟨rfl, hE1⟩
  replace p0 := p0.ext hE1; replace p0_0 := p0.cell (i := 0) rfl; replace p0_1 := p0.cell (i := 1) rfl; replace p0_2 := p0.cell (i := 2) rfl; replace p0_f0 := p0.free 0; replace p0_f1 := p0.free 1; replace p0_f2 := p0.free 2; replace p0_lt := p0.lt; replace p1 := p1.ext hE1; replace p1_0 := p1.cell (i := 0) rfl; replace p1_1 := p1.cell (i := 1) rfl; replace p1_2 := p1.cell (i := 2) rfl; replace p1_f0 := p1.free 0; replace p1_f1 := p1.free 1; replace p1_f2 := p1.free 2; replace p1_lt := p1.lt; replace r0 := r0.ext hE1; replace r0_0 := r0.cell (i := 0) rfl; replace r0_1 := r0.cell (i := 1) rfl; replace r0_2 := r0.cell (i := 2) rfl; replace r0_f0 := r0.free 0; replace r0_f1 := r0.free 1; replace r0_f2 := r0.free 2; replace r0_lt := r0.lt
  have hE0 := Ext.trans hEW hE1
  have hszW : w.heap.size + 1 + 1 + 1 < W.heap.size := y.lt
  have hsz1 := hE1.size
  clear y y_0 y_1 y_2 y_3 y_4 y_5 hEW hE1
  go_wp2_with fail
  refine (qsize_any K (by omega) w1 b a a2 n c n2 c2 d zss (h.ext hE0) (by omega) hrowb m hm).mono ?_
  rintro e w2 ⟨rfl, hE2⟩
  replace p0 := p0.ext hE2; replace p0_0 := p0.cell (i := 0) rfl; replace p0_1 := p0.cell (i := 1) rfl; replace p0_2 := p0.cell (i := 2) rfl; replace p0_f0 := p0.free 0; replace p0_f1 := p0.free 1; replace p0_f2 := p0.free 2; replace p0_lt := p0.lt; replace p1 := p1.ext hE2; replace p1_0 := p1.cell (i := 0) rfl; replace p1_1 := p1.cell (i := 1) rfl; replace p1_2 := p1.cell (i := 2) rfl; replace p1_f0 := p1.free 0; replace p1_f1 := p1.free 1; replace p1_f2 := p1.free 2; replace p1_lt := p1.lt; replace r0 := r0.ext hE2; replace r0_0 := r0.cell (i := 0) rfl; replace r0_1 := r0.cell (i := 1) rfl; replace r0_2 := r0.cell (i := 2) rfl; replace r0_f0 := r0.free 0; replace r0_f1 := r0.free 1; replace r0_f2 := r0.free 2; replace r0_lt := r0.lt
  replace hE0 := Ext.trans hE0 hE2
  have hsz2 := hE2.size
  clear hE2
  go_wp2_with fail
  have q := Blk.new w2 3 #[.int .i64 (n2 : Int)]
  have hEW3 : Ext w2 (w2.alloc (Obj.cells #[.int .i64 (n2 : Int)] 3)) := ((Below.refl _ w2).alloc (by simp) _)
  generalize hgW3 : w2.alloc (Obj.cells #[.int .i64 (n2 : Int)] 3) = W3 at *
  clear hgW3
  replace q_0 := q.cell (i := 0) rfl
  replace p0 := p0.ext hEW3; replace p0_0 := p0.cell (i := 0) rfl; replace p0_1 := p0.cell (i := 1) rfl; replace p0_2 := p0.cell (i := 2) rfl; replace p0_f0 := p0.free 0; replace p0_f1 := p0.free 1; replace p0_f2 := p0.free 2; replace p0_lt := p0.lt; replace p1 := p1.ext hEW3; replace p1_0 := p1.cell (i := 0) rfl; replace p1_1 := p1.cell (i := 1) rfl; replace p1_2 := p1.cell (i := 2) rfl; replace p1_f0 := p1.free 0; replace p1_f1 := p1.free 1; replace p1_f2 := p1.free 2; replace p1_lt := p1.lt; replace r0 := r0.ext hEW3; replace r0_0 := r0.cell (i := 0) rfl; replace r0_1 := r0.cell (i := 1) rfl; replace r0_2 := r0.cell (i := 2) rfl; replace r0_f0 := r0.free 0; replace r0_f1 := r0.free 1; replace r0_f2 := r0.free 2; replace r0_lt := r0.lt
  replace hE0 := Ext.trans hE0 hEW3
  have hsz3 := hEW3.size
  refine (qsize_any K (by omega) W3 b' a' a2' n' c' n2' c2' d' zss' (h'.ext hE0) (by omega) hrowb' m' hm').mono ?_
  rintro e w4 ⟨rfl, hE4⟩
  replace p0 := p0.ext hE4; replace p0_0 := p0.cell (i := 0) rfl; replace p0_1 := p0.cell (i := 1) rfl; replace p0_2 := p0.cell (i := 2) rfl; replace p0_f0 := p0.free 0; replace p0_f1 := p0.free 1; replace p0_f2 := p0.free 2; replace p0_lt := p0.lt; replace p1 := p1.ext hE4; replace p1_0 := p1.cell (i := 0) rfl; replace p1_1 := p1.cell (i := 1) rfl; replace p1_2 := p1.cell (i := 2) rfl; replace p1_f0 := p1.free 0; replace p1_f1 := p1.free 1; replace p1_f2 := p1.free 2; replace p1_lt := p1.lt; replace r0 := r0.ext hE4; replace r0_0 := r0.cell (i := 0) rfl; replace r0_1 := r0.cell (i := 1) rfl; replace r0_2 := r0.cell (i := 2) rfl; replace r0_f0 := r0.free 0; replace r0_f1 := r0.free 1; replace r0_f2 := r0.free 2; replace r0_lt := r0.lt; replace q := q.ext hE4; replace q_0 := q.cell (i := 0) rfl
  replace hE0 := Ext.trans hE0 hE4
  have hsz4 := hE4.size
  clear hE4 hEW3
  obtain ⟨l0, h1, h2, h3, h4⟩ := h'.ext hE0
  obtain ⟨xss, hG, hxz⟩ := grid_of (intB_of_K (by omega) h4) (by omega) hrowb'.out
  have HXZ := Lib.hid hxz
  have HG := Lib.hid hG
  have HDL := Lib.hid h2
  have H1 := Lib.hid h1
  have HE0 := Lib.hid hE0
  clear hxz hG h1 h2 hE0
  clear h4 h h'
  go_wp2_with fail
  refine (made_any w4 b' a' a2' n' c' n2' c2' l0 xss H1.out HG.out (by omega) d' HDL.out hd1).mono ?_
  rintro e w5 ⟨a5, n5, c5, a6, n6, c6, rfl, h5, h6, hE1⟩
  rw [HXZ.out] at h5 h6 ⊢
  replace r0 := r0.ext hE1; replace r0_0 := r0.cell (i := 0) rfl; replace r0_1 := r0.cell (i := 1) rfl; replace r0_2 := r0.cell (i := 2) rfl; replace r0_f0 := r0.free 0; replace r0_f1 := r0.free 1; replace r0_f2 := r0.free 2; replace r0_lt := r0.lt
  generalize hde : madeDen d' zss' = de at *
  generalize hzz : madeRows d' zss' = zz at *
  have HF := Lib.hid (RMatOk.box (w := w) (r := w.heap.size + 1 + 1) (v0 := .bool (decide (de < 0))) (v1 := .slice a5 n5 c5) (v2 := .slice a6 n6 c6) (by omega) (show w.heap.size + 1 + 1 < w4.heap.size by omega) (Ext.trans HE0.out hE1) h5 h6)
  clear h5 h6 hde hzz
  generalize decide (de < 0) = sg at *
  have r2 := ((r0.set 0 (.bool sg)).set 1 (.slice a5 n5 c5)).set 2 (.slice a6 n6 c6)
  have hr0 := r2.cell (i := 0) rfl
  have hr1 := r2.cell (i := 1) rfl
  have hr2 := r2.cell (i := 2) rfl
  clear hE1
  go_wp2_with fail
  exact bodyPost_ret (v := .tuple #[.agg #[.bool sg, .slice a5 n5 c5, .slice a6 n6 c6], .int .i64 0]) (by simp [results, Try.results18, go_sem, hr0, hr1, hr2]) rfl HF.out

set_option maxRecDepth 100000 in
set_option maxHeartbeats 8000000 in
theorem qStack_second0 (K : Nat) (hK : 2 * K ≤ 8796093022208) (w : World) (b : Bool) (a a2 : Option Addr) (n c n2 c2 : Nat) (d : Int) (zss : List (List Int)) (h : MatS K w b a n c a2 n2 c2 d zss) (b' : Bool) (a' a2' : Option Addr) (n' c' n2' c2' : Nat) (d' : Int) (zss' : List (List Int)) (h' : MatS K w b' a' n' c' a2' n2' c2' d' zss') (hs : Hid (checksE [(d, zss), (d', zss')] = 0)) (m m' : Nat) (hm : Hid (colsOf zss = m)) (hm' : Hid (colsOf zss' = m')) (hn2 : n2 ≤ 549755813888) (hn2' : n2' ≤ 549755813888) (hmm : m ≤ 1099511627776) (hmm' : m' ≤ 1099511627776) (hz : n2 ≠ 0) (hz' : n2' = 0) : Calls Try.prog 18 #[.agg #[.bool b, .slice a n c, .slice a2 n2 c2], .agg #[.bool b', .slice a' n' c', .slice a2' n2' c2']] w (RMatOk w (madeDen d zss) (madeRows d zss)) := by
  have t1 : ((n2' : Int) == 0) = true := by simpa using hz'
  have t0 : ((n2 : Int) == 0) = false := by simpa using hz
  clear hz hz'
  have hc0 := checksE_zero hs.out (d, zss) (by simp)
  have hc1 := checksE_zero hs.out (d', zss') (by simp)
  have hd0 : d ≠ 0 := hc0.1
  have hd1 : d' ≠ 0 := hc1.1
  have hrowm : Hid (∀ zs ∈ zss, zs.length = m) := Lib.hid (fun zs hz => by rw [← hm.out]; exact even_len hc0.2 zs hz)
  have hrowm' : Hid (∀ zs ∈ zss', zs.length = m') := Lib.hid (fun zs hz => by rw [← hm'.out]; exact even_len hc1.2 zs hz)
  have hrowb : Hid (∀ zs ∈ zss, zs.length ≤ 1099511627776) := Lib.hid (fun zs hz => by rw [hrowm.out zs hz]; exact hmm)
  have hrowb' : Hid (∀ zs ∈ zss', zs.length ≤ 1099511627776) := Lib.hid (fun zs hz => by rw [hrowm'.out zs hz]; exact hmm')
  clear hc0 hc1
  go_enter Try.func18, Try.ntmps18
  go_wp2_with fail
  have p0 := Blk.new w 30 #[.bool b, .slice a n c, .slice a2 n2 c2]
  have p1 := Blk.new (w.alloc (Obj.cells #[.bool b, .slice a n c, .slice a2 n2 c2] 30)) 30 #[.bool b', .slice a' n' c', .slice a2' n2' c2']
  replace p0 := p0.ext ((Below.refl _ _).alloc (Nat.le_refl _) (Obj.cells #[.bool b', .slice a' n' c', .slice a2' n2' c2'] 30))
  have r0 := Blk.new ((w.alloc (Obj.cells #[.bool b, .slice a n c, .slice a2 n2 c2] 30)).alloc (Obj.cells #[.bool b', .slice a' n' c', .slice a2' n2' c2'] 30)) 30 #[.bool false, .slice none 0 0, .slice none 0 0]
  replace p0 := p0.ext ((Below.refl _ _).alloc (Nat.le_refl _) (Obj.cells #[.bool false, .slice none 0 0, .slice none 0 0] 30))
  replace p1 := p1.ext ((Below.refl _ _).alloc (Nat.le_refl _) (Obj.cells #[.bool false, .slice none 0 0, .slice none 0 0] 30))
  have y := Blk.new (((w.alloc (Obj.cells #[.bool b, .slice a n c, .slice a2 n2 c2] 30)).alloc (Obj.cells #[.bool b', .slice a' n' c', .slice a2' n2' c2'] 30)).alloc (Obj.cells #[.bool false, .slice none 0 0, .slice none 0 0] 30)) 30 #[.bool b, .slice a n c, .slice a2 n2 c2, .bool b', .slice a' n' c', .slice a2' n2' c2']
  replace p0 := p0.ext ((Below.refl _ _).alloc (Nat.le_refl _) (Obj.cells #[.bool b, .slice a n c, .slice a2 n2 c2, .bool b', .slice a' n' c', .slice a2' n2' c2'] 30))
  replace p1 := p1.ext ((Below.refl _ _).alloc (Nat.le_refl _) (Obj.cells #[.bool b, .slice a n c, .slice a2 n2 c2, .bool b', .slice a' n' c', .slice a2' n2' c2'] 30))
  replace r0 := r0.ext ((Below.refl _ _).alloc (Nat.le_refl _) (Obj.cells #[.bool b, .slice a n c, .slice a2 n2 c2, .bool b', .slice a' n' c', .slice a2' n2' c2'] 30))
  have hEW : Ext w ((((w.alloc (Obj.cells #[.bool b, .slice a n c, .slice a2 n2 c2] 30)).alloc (Obj.cells #[.bool b', .slice a' n' c', .slice a2' n2' c2'] 30)).alloc (Obj.cells #[.bool false, .slice none 0 0, .slice none 0 0] 30)).alloc (Obj.cells #[.bool b, .slice a n c, .slice a2 n2 c2, .bool b', .slice a' n' c', .slice a2' n2' c2'] 30)) := (((((Below.refl _ w).alloc (by simp) _).alloc (by simp) _).alloc (by simp; omega) _).alloc (by simp; omega) _)
  generalize hgW : (((w.alloc (Obj.cells #[.bool b, .slice a n c, .slice a2 n2 c2] 30)).alloc (Obj.cells #[.bool b', .slice a' n' c', .slice a2' n2' c2'] 30)).alloc (Obj.cells #[.bool false, .slice none 0 0, .slice none 0 0] 30)).alloc (Obj.cells #[.bool b, .slice a n c, .slice a2 n2 c2, .bool b', .slice a' n' c', .slice a2' n2' c2'] 30) = W at *
  clear hgW
  simp only [World.size_alloc] at p1 r0 y
  have p0_ne_p1 : ¬ w.heap.size = w.heap.size + 1 := by omega
  have p0_ne_r0 : ¬ w.heap.size = w.heap.size + 1 + 1 := by omega
  have p0_ne_y : ¬ w.heap.size = w.heap.size + 1 + 1 + 1 := by omega
  have p1_ne_p0 : ¬ w.heap.size + 1 = w.heap.size := by omega
  have p1_ne_r0 : ¬ w.heap.size + 1 = w.heap.size + 1 + 1 := by omega
  have p1_ne_y : ¬ w.heap.size + 1 = w.heap.size + 1 + 1 + 1 := by omega
  have r0_ne_p0 : ¬ w.heap.size + 1 + 1 = w.heap.size := by omega
  have r0_ne_p1 : ¬ w.heap.size + 1 + 1 = w.heap.size + 1 := by omega
  have r0_ne_y : ¬ w.heap.size + 1 + 1 = w.heap.size + 1 + 1 + 1 := by omega
  have y_ne_p0 : ¬ w.heap.size + 1 + 1 + 1 = w.heap.size := by omega
  have y_ne_p1 : ¬ w.heap.size + 1 + 1 + 1 = w.heap.size + 1 := by omega
  have y_ne_r0 : ¬ w.heap.size + 1 + 1 + 1 = w.heap.size + 1 + 1 := by omega
  replace p0_0 := p0.cell (i := 0) rfl
  replace p0_1 := p0.cell (i := 1) rfl
  replace p0_2 := p0.cell (i := 2) rfl
  replace p0_f0 := p0.free 0
  replace p0_f1 := p0.free 1
  replace p0_f2 := p0.free 2
  replace p0_lt := p0.lt
  replace p1_0 := p1.cell (i := 0) rfl
  replace p1_1 := p1.cell (i := 1) rfl
  replace p1_2 := p1.cell (i := 2) rfl
  replace p1_f0 := p1.free 0
  replace p1_f1 := p1.free 1
  replace p1_f2 := p1.free 2
  replace p1_lt := p1.lt
  replace r0_0 := r0.cell (i := 0) rfl
  replace r0_1 := r0.cell (i := 1) rfl
  replace r0_2 := r0.cell (i := 2) rfl
  replace r0_f0 := r0.free 0
  replace r0_f1 := r0.free 1
  replace r0_f2 := r0.free 2
  replace r0_lt := r0.lt
  replace y_0 := y.cell (i := 0) rfl
  replace y_1 := y.cell (i := 1) rfl
  replace y_2 := y.cell (i := 2) rfl
  replace y_3 := y.cell (i := 3) rfl
  replace y_4 := y.cell (i := 4) rfl
  replace y_5 := y.cell (i := 5) rfl
  refine (checks_any K (by omega) W (some ⟨w.heap.size + 1 + 1 + 1, 0, none⟩) 2 2 [(d, zss), (d', zss')] (sl_mat2 y (h.ext hEW) (h'.ext hEW)) 0 hs).mono ?_
  rintro e w1 ⟨rfl, hE1⟩
  replace p0 := p0.ext hE1; replace p0_0 := p0.cell (i := 0) rfl; replace p0_1 := p0.cell (i := 1) rfl; replace p0_2 := p0.cell (i := 2) rfl; replace p0_f0 := p0.free 0; replace p0_f1 := p0.free 1; replace p0_f2 := p0.free 2; replace p0_lt := p0.lt; replace p1 := p1.ext hE1; replace p1_0 := p1.cell (i := 0) rfl; replace p1_1 := p1.cell (i := 1) rfl; replace p1_2 := p1.cell (i := 2) rfl; replace p1_f0 := p1.free 0; replace p1_f1 := p1.free 1; replace p1_f2 := p1.free 2; replace p1_lt := p1.lt; replace r0 := r0.ext hE1; replace r0_0 := r0.cell (i := 0) rfl; replace r0_1 := r0.cell (i := 1) rfl; replace r0_2 := r0.cell (i := 2) rfl; replace r0_f0 := r0.free 0; replace r0_f1 := r0.free 1; replace r0_f2 := r0.free 2; replace r0_lt := r0.lt
  have hE0 := Ext.trans hEW hE1
  have hszW : w.heap.size + 1 + 1 + 1 < W.heap.size := y.lt
  have hsz1 := hE1.size
  clear y y_0 y_1 y_2 y_3 y_4 y_5 hEW hE1
  go_wp2_with fail
  refine (qsize_any K (by omega) w1 b a a2 n c n2 c2 d zss (h.ext hE0) (by omega) hrowb m hm).mono ?_
  rintro e w2 ⟨rfl, hE2⟩
  replace p0 := p0.ext hE2; replace p0_0 := p0.cell (i := 0) rfl; replace p0_1 := p0.cell (i := 1) rfl; replace p0_2 := p0.cell (i := 2) rfl; replace p0_f0 := p0.free 0; replace p0_f1 := p0.free 1; replace p0_f2 := p0.free 2; replace p0_lt := p0.lt; replace p1 := p1.ext hE2; replace p1_0 := p1.cell (i := 0) rfl; replace p1_1 := p1.cell (i := 1) rfl; replace p1_2 := p1.cell (i := 2) rfl; replace p1_f0 := p1.free 0; replace p1_f1 := p1.free 1; replace p1_f2 := p1.free 2; replace p1_lt := p1.lt; replace r0 := r0.ext hE2; replace r0_0 := r0.cell (i := 0) rfl; replace r0_1 := r0.cell (i := 1) rfl; replace r0_2 := r0.cell (i := 2) rfl; replace r0_f0 := r0.free 0; replace r0_f1 := r0.free 1; replace r0_f2 := r0.free 2; replace r0_lt := r0.lt
  replace hE0 := Ext.trans hE0 hE2
  have hsz2 := hE2.size
  clear hE2
  go_wp2_with fail
  have q := Blk.new w2 3 #[.int .i64 (n2 : Int)]
  have hEW3 : Ext w2 (w2.alloc (Obj.cells #[.int .i64 (n2 : Int)] 3)) := ((Below.refl _ w2).alloc (by simp) _)
  generalize hgW3 : w2.alloc (Obj.cells #[.int .i64 (n2 : Int)] 3) = W3 at *
  clear hgW3
  replace q_0 := q.cell (i := 0) rfl
  replace p0 := p0.ext hEW3; replace p0_0 := p0.cell (i := 0) rfl; replace p0_1 := p0.cell (i := 1) rfl; replace p0_2 := p0.cell (i := 2) rfl; replace p0_f0 := p0.free 0; replace p0_f1 := p0.free 1; replace p0_f2 := p0.free 2; replace p0_lt := p0.lt; replace p1 := p1.ext hEW3; replace p1_0 := p1.cell (i := 0) rfl; replace p1_1 := p1.cell (i := 1) rfl; replace p1_2 := p1.cell (i := 2) rfl; replace p1_f0 := p1.free 0; replace p1_f1 := p1.free 1; replace p1_f2 := p1.free 2; replace p1_lt := p1.lt; replace r0 := r0.ext hEW3; replace r0_0 := r0.cell (i := 0) rfl; replace r0_1 := r0.cell (i := 1) rfl; replace r0_2 := r0.cell (i := 2) rfl; replace r0_f0 := r0.free 0; replace r0_f1 := r0.free 1; replace r0_f2 := r0.free 2; replace r0_lt := r0.lt
  replace hE0 := Ext.trans hE0 hEW3
  have hsz3 := hEW3.size
  refine (qsize_any K (by omega) W3 b' a' a2' n' c' n2' c2' d' zss' (h'.ext hE0) (by omega) hrowb' m' hm').mono ?_
  rintro e w4 ⟨rfl, hE4⟩
  replace p0 := p0.ext hE4; replace p0_0 := p0.cell (i := 0) rfl; replace p0_1 := p0.cell (i := 1) rfl; replace p0_2 := p0.cell (i := 2) rfl; replace p0_f0 := p0.free 0; replace p0_f1 := p0.free 1; replace p0_f2 := p0.free 2; replace p0_lt := p0.lt; replace p1 := p1.ext hE4; replace p1_0 := p1.cell (i := 0) rfl; replace p1_1 := p1.cell (i := 1) rfl; replace p1_2 := p1.cell (i := 2) rfl; replace p1_f0 := p1.free 0; replace p1_f1 := p1.free 1; replace p1_f2 := p1.free 2; replace p1_lt := p1.lt; replace r0 := r0.ext hE4; replace r0_0 := r0.cell (i := 0) rfl; replace r0_1 := r0.cell (i := 1) rfl; replace r0_2 := r0.cell (i := 2) rfl; replace r0_f0 := r0.free 0; replace r0_f1 := r0.free 1; replace r0_f2 := r0.free 2; replace r0_lt := r0.lt; replace q := q.ext hE4; replace q_0 := q.cell (i := 0) rfl
  replace hE0 := Ext.trans hE0 hE4
  have hsz4 := hE4.size
  clear hE4 hEW3
  obtain ⟨l0, h1, h2, h3, h4⟩ := h.ext hE0
  obtain ⟨xss, hG, hxz⟩ := grid_of (intB_of_K (by omega) h4) (by omega) hrowb.out
  have HXZ := Lib.hid hxz
  have HG := Lib.hid hG
  have HDL := Lib.hid h2
  have H1 := Lib.hid h1
  have HE0 := Lib.hid hE0
  clear hxz hG h1 h2 hE0
  clear h4 h h'
  go_wp2_with fail
  refine (made_any w4 b a a2 n c n2 c2 l0 xss H1.out HG.out (by omega) d HDL.out hd0).mono ?_
  rintro e w5 ⟨a5, n5, c5, a6, n6, c6, rfl, h5, h6, hE1⟩
  rw [HXZ.out] at h5 h6 ⊢
  replace r0 := r0.ext hE1; replace r0_0 := r0.cell (i := 0) rfl; replace r0_1 := r0.cell (i := 1) rfl; replace r0_2 := r0.cell (i := 2) rfl; replace r0_f0 := r0.free 0; replace r0_f1 := r0.free 1; replace r0_f2 := r0.free 2; replace r0_lt := r0.lt
  generalize hde : madeDen d zss = de at *
  generalize hzz : madeRows d zss = zz at *
  have HF := Lib.hid (RMatOk.box (w := w) (r := w.heap.size + 1 + 1) (v0 := .bool (decide (de < 0))) (v1 := .slice a5 n5 c5) (v2 := .slice a6 n6 c6) (by omega) (show w.heap.size + 1 + 1 < w4.heap.size by omega) (Ext.trans HE0.out hE1) h5 h6)
  clear h5 h6 hde hzz
  generalize decide (de < 0) = sg at *
  have r2 := ((r0.set 0 (.bool sg)).set 1 (.slice a5 n5 c5)).set 2 (.slice a6 n6 c6)
  have hr0 := r2.cell (i := 0) rfl
  have hr1 := r2.cell (i := 1) rfl
  have hr2 := r2.cell (i := 2) rfl
  clear hE1
  go_wp2_with fail
  exact bodyPost_ret (v := .tuple #[.agg #[.bool sg, .slice a5 n5 c5, .slice a6 n6 c6], .int .i64 0]) (by simp [results, Try.results18, go_sem, hr0, hr1, hr2]) rfl HF.out
end Go.Proofs.Ytbhenelehhiakaa
/-
  qmat: Stack of two that fit (printed by genO.py).
-/
namespace Go.Proofs.Ytbhenelehhiakaa
open Go.RowKit

set_option maxRecDepth 100000 in
set_option maxHeartbeats 8000000 in
theorem qStack_any (K : Nat) (hK : 2 * K ≤ 8796093022208) (w : World) (b : Bool) (a a2 : Option Addr) (n c n2 c2 : Nat) (d : Int) (zss : List (List Int)) (h : MatS K w b a n c a2 n2 c2 d zss) (b' : Bool) (a' a2' : Option Addr) (n' c' n2' c2' : Nat) (d' : Int) (zss' : List (List Int)) (h' : MatS K w b' a' n' c' a2' n2' c2' d' zss') (hs : Hid (checksE [(d, zss), (d', zss')] = 0)) (m : Nat) (hm : Hid (colsOf zss = m)) (hm' : Hid (colsOf zss' = m)) (hn2 : n2 ≤ 549755813888) (hn2' : n2' ≤ 549755813888) (hmm : m ≤ 1099511627776) (hz : n2 ≠ 0) (hz' : n2' ≠ 0) (Z : List (List Int)) (hZ : Hid (tableZ (stackF zss zss' d d') (n2 + n2') m = Z)) :
    Calls Try.prog 18 #[.agg #[.bool b, .slice a n c, .slice a2 n2 c2], .agg #[.bool b', .slice a' n' c', .slice a2' n2' c2']] w (RMatOk w (madeDen (d * d') Z) (madeRows (d * d') Z)) := by
  have hen : Enters Try.prog 59 := enters_mk Try.func59 (by kernel_rfl) rfl
  have t0 : ((n2 : Int) == 0) = false := by simpa using hz
  have t1 : ((n2' : Int) == 0) = false := by simpa using hz'
  clear hz hz'
  have hc0 := checksE_zero hs.out (d, zss) (by simp)
  have hc1 := checksE_zero hs.out (d', zss') (by simp)
  have hd0 : d ≠ 0 := hc0.1
  have hd1 : d' ≠ 0 := hc1.1
  have hrowm : Hid (∀ zs ∈ zss, zs.length = m) := Lib.hid (fun zs hz => by rw [← hm.out]; exact even_len hc0.2 zs hz)
  have hrowm' : Hid (∀ zs ∈ zss', zs.length = m) := Lib.hid (fun zs hz => by rw [← hm'.out]; exact even_len hc1.2 zs hz)
  have hrowb : Hid (∀ zs ∈ zss, zs.length ≤ 1099511627776) := Lib.hid (fun zs hz => by rw [hrowm.out zs hz]; exact hmm)
  have hrowb' : Hid (∀ zs ∈ zss', zs.length ≤ 1099511627776) := Lib.hid (fun zs hz => by rw [hrowm'.out zs hz]; exact hmm)
  clear hc0 hc1
  go_enter Try.func18, Try.ntmps18
  go_wp2_with fail
  have p0 := Blk.new w 30 #[.bool b, .slice a n c, .slice a2 n2 c2]
  have p1 := Blk.new (w.alloc (Obj.cells #[.bool b, .slice a n c, .slice a2 n2 c2] 30)) 30 #[.bool b', .slice a' n' c', .slice a2' n2' c2']
  replace p0 := p0.ext ((Below.refl _ _).alloc (Nat.le_refl _) (Obj.cells #[.bool b', .slice a' n' c', .slice a2' n2' c2'] 30))
  have r0 := Blk.new ((w.alloc (Obj.cells #[.bool b, .slice a n c, .slice a2 n2 c2] 30)).alloc (Obj.cells #[.bool b', .slice a' n' c', .slice a2' n2' c2'] 30)) 30 #[.bool false, .slice none 0 0, .slice none 0 0]
  replace p0 := p0.ext ((Below.refl _ _).alloc (Nat.le_refl _) (Obj.cells #[.bool false, .slice none 0 0, .slice none 0 0] 30))
  replace p1 := p1.ext ((Below.refl _ _).alloc (Nat.le_refl _) (Obj.cells #[.bool false, .slice none 0 0, .slice none 0 0] 30))
  have y := Blk.new (((w.alloc (Obj.cells #[.bool b, .slice a n c, .slice a2 n2 c2] 30)).alloc (Obj.cells #[.bool b', .slice a' n' c', .slice a2' n2' c2'] 30)).alloc (Obj.cells #[.bool false, .slice none 0 0, .slice none 0 0] 30)) 30 #[.bool b, .slice a n c, .slice a2 n2 c2, .bool b', .slice a' n' c', .slice a2' n2' c2']
  replace p0 := p0.ext ((Below.refl _ _).alloc (Nat.le_refl _) (Obj.cells #[.bool b, .slice a n c, .slice a2 n2 c2, .bool b', .slice a' n' c', .slice a2' n2' c2'] 30))
  replace p1 := p1.ext ((Below.refl _ _).alloc (Nat.le_refl _) (Obj.cells #[.bool b, .slice a n c, .slice a2 n2 c2, .bool b', .slice a' n' c', .slice a2' n2' c2'] 30))
  replace r0 := r0.ext ((Below.refl _ _).alloc (Nat.le_refl _) (Obj.cells #[.bool b, .slice a n c, .slice a2 n2 c2, .bool b', .slice a' n' c', .slice a2' n2' c2'] 30))
  have hEW : Ext w ((((w.alloc (Obj.cells #[.bool b, .slice a n c, .slice a2 n2 c2] 30)).alloc (Obj.cells #[.bool b', .slice a' n' c', .slice a2' n2' c2'] 30)).alloc (Obj.cells #[.bool false, .slice none 0 0, .slice none 0 0] 30)).alloc (Obj.cells #[.bool b, .slice a n c, .slice a2 n2 c2, .bool b', .slice a' n' c', .slice a2' n2' c2'] 30)) := (((((Below.refl _ w).alloc (by simp) _).alloc (by simp) _).alloc (by simp; omega) _).alloc (by simp; omega) _)
  generalize hgW : (((w.alloc (Obj.cells #[.bool b, .slice a n c, .slice a2 n2 c2] 30)).alloc (Obj.cells #[.bool b', .slice a' n' c', .slice a2' n2' c2'] 30)).alloc (Obj.cells #[.bool false, .slice none 0 0, .slice none 0 0] 30)).alloc (Obj.cells #[.bool b, .slice a n c, .slice a2 n2 c2, .bool b', .slice a' n' c', .slice a2' n2' c2'] 30) = W at *
  clear hgW
  simp only [World.size_alloc] at p1 r0 y
  have p0_ne_p1 : ¬ w.heap.size = w.heap.size + 1 := by omega
  have p0_ne_r0 : ¬ w.heap.size = w.heap.size + 1 + 1 := by omega
  have p0_ne_y : ¬ w.heap.size = w.heap.size + 1 + 1 + 1 := by omega
  have p1_ne_p0 : ¬ w.heap.size + 1 = w.heap.size := by omega
  have p1_ne_r0 : ¬ w.heap.size + 1 = w.heap.size + 1 + 1 := by omega
  have p1_ne_y : ¬ w.heap.size + 1 = w.heap.size + 1 + 1 + 1 := by omega
  have r0_ne_p0 : ¬ w.heap.size + 1 + 1 = w.heap.size := by omega
  have r0_ne_p1 : ¬ w.heap.size + 1 + 1 = w.heap.size + 1 := by omega
  have r0_ne_y : ¬ w.heap.size + 1 + 1 = w.heap.size + 1 + 1 + 1 := by omega
  have y_ne_p0 : ¬ w.heap.size + 1 + 1 + 1 = w.heap.size := by omega
  have y_ne_p1 : ¬ w.heap.size + 1 + 1 + 1 = w.heap.size + 1 := by omega
  have y_ne_r0 : ¬ w.heap.size + 1 + 1 + 1 = w.heap.size + 1 + 1 := by omega
  replace p0_0 := p0.cell (i := 0) rfl
  replace p0_1 := p0.cell (i := 1) rfl
  replace p0_2 := p0.cell (i := 2) rfl
  replace p0_f0 := p0.free 0
  replace p0_f1 := p0.free 1
  replace p0_f2 := p0.free 2
  replace p0_lt := p0.lt
  replace p1_0 := p1.cell (i := 0) rfl
  replace p1_1 := p1.cell (i := 1) rfl
  replace p1_2 := p1.cell (i := 2) rfl
  replace p1_f0 := p1.free 0
  replace p1_f1 := p1.free 1
  replace p1_f2 := p1.free 2
  replace p1_lt := p1.lt
  replace r0_0 := r0.cell (i := 0) rfl
  replace r0_1 := r0.cell (i := 1) rfl
  replace r0_2 := r0.cell (i := 2) rfl
  replace r0_f0 := r0.free 0
  replace r0_f1 := r0.free 1
  replace r0_f2 := r0.free 2
  replace r0_lt := r0.lt
  replace y_0 := y.cell (i := 0) rfl
  replace y_1 := y.cell (i := 1) rfl
  replace y_2 := y.cell (i := 2) rfl
  replace y_3 := y.cell (i := 3) rfl
  replace y_4 := y.cell (i := 4) rfl
  replace y_5 := y.cell (i := 5) rfl
  refine (checks_any K (by omega) W (some ⟨w.heap.size + 1 + 1 + 1, 0, none⟩) 2 2 [(d, zss), (d', zss')] (sl_mat2 y (h.ext hEW) (h'.ext hEW)) 0 hs).mono ?_
  rintro e w1 ⟨rfl, hE1⟩
  replace p0 := p0.ext hE1; replace p0_0 := p0.cell (i := 0) rfl; replace p0_1 := p0.cell (i := 1) rfl; replace p0_2 := p0.cell (i := 2) rfl; replace p0_f0 := p0.free 0; replace p0_f1 := p0.free 1; replace p0_f2 := p0.free 2; replace p0_lt := p0.lt; replace p1 := p1.ext hE1; replace p1_0 := p1.cell (i := 0) rfl; replace p1_1 := p1.cell (i := 1) rfl; replace p1_2 := p1.cell (i := 2) rfl; replace p1_f0 := p1.free 0; replace p1_f1 := p1.free 1; replace p1_f2 := p1.free 2; replace p1_lt := p1.lt; replace r0 := r0.ext hE1; replace r0_0 := r0.cell (i := 0) rfl; replace r0_1 := r0.cell (i := 1) rfl; replace r0_2 := r0.cell (i := 2) rfl; replace r0_f0 := r0.free 0; replace r0_f1 := r0.free 1; replace r0_f2 := r0.free 2; replace r0_lt := r0.lt
  have hE0 := Ext.trans hEW hE1
  have hszW : w.heap.size + 1 + 1 + 1 < W.heap.size := y.lt
  have hsz1 := hE1.size
  clear y y_0 y_1 y_2 y_3 y_4 y_5 hEW hE1
  go_wp2_with fail
  refine (qsize_any K (by omega) w1 b a a2 n c n2 c2 d zss (h.ext hE0) (by omega) hrowb m hm).mono ?_
  rintro e w2 ⟨rfl, hE2⟩
  replace p0 := p0.ext hE2; replace p0_0 := p0.cell (i := 0) rfl; replace p0_1 := p0.cell (i := 1) rfl; replace p0_2 := p0.cell (i := 2) rfl; replace p0_f0 := p0.free 0; replace p0_f1 := p0.free 1; replace p0_f2 := p0.free 2; replace p0_lt := p0.lt; replace p1 := p1.ext hE2; replace p1_0 := p1.cell (i := 0) rfl; replace p1_1 := p1.cell (i := 1) rfl; replace p1_2 := p1.cell (i := 2) rfl; replace p1_f0 := p1.free 0; replace p1_f1 := p1.free 1; replace p1_f2 := p1.free 2; replace p1_lt := p1.lt; replace r0 := r0.ext hE2; replace r0_0 := r0.cell (i := 0) rfl; replace r0_1 := r0.cell (i := 1) rfl; replace r0_2 := r0.cell (i := 2) rfl; replace r0_f0 := r0.free 0; replace r0_f1 := r0.free 1; replace r0_f2 := r0.free 2; replace r0_lt := r0.lt
  replace hE0 := Ext.trans hE0 hE2
  have hsz2 := hE2.size
  clear hE2
  go_wp2_with fail
  have q := Blk.new w2 3 #[.int .i64 (n2 : Int)]
  have hEW3 : Ext w2 (w2.alloc (Obj.cells #[.int .i64 (n2 : Int)] 3)) := ((Below.refl _ w2).alloc (by simp) _)
  generalize hgW3 : w2.alloc (Obj.cells #[.int .i64 (n2 : Int)] 3) = W3 at *
  clear hgW3
  replace q_0 := q.cell (i := 0) rfl
  replace p0 := p0.ext hEW3; replace p0_0 := p0.cell (i := 0) rfl; replace p0_1 := p0.cell (i := 1) rfl; replace p0_2 := p0.cell (i := 2) rfl; replace p0_f0 := p0.free 0; replace p0_f1 := p0.free 1; replace p0_f2 := p0.free 2; replace p0_lt := p0.lt; replace p1 := p1.ext hEW3; replace p1_0 := p1.cell (i := 0) rfl; replace p1_1 := p1.cell (i := 1) rfl; replace p1_2 := p1.cell (i := 2) rfl; replace p1_f0 := p1.free 0; replace p1_f1 := p1.free 1; replace p1_f2 := p1.free 2; replace p1_lt := p1.lt; replace r0 := r0.ext hEW3; replace r0_0 := r0.cell (i := 0) rfl; replace r0_1 := r0.cell (i := 1) rfl; replace r0_2 := r0.cell (i := 2) rfl; replace r0_f0 := r0.free 0; replace r0_f1 := r0.free 1; replace r0_f2 := r0.free 2; replace r0_lt := r0.lt
  replace hE0 := Ext.trans hE0 hEW3
  have hsz3 := hEW3.size
  refine (qsize_any K (by omega) W3 b' a' a2' n' c' n2' c2' d' zss' (h'.ext hE0) (by omega) hrowb' m hm').mono ?_
  rintro e w4 ⟨rfl, hE4⟩
  replace p0 := p0.ext hE4; replace p0_0 := p0.cell (i := 0) rfl; replace p0_1 := p0.cell (i := 1) rfl; replace p0_2 := p0.cell (i := 2) rfl; replace p0_f0 := p0.free 0; replace p0_f1 := p0.free 1; replace p0_f2 := p0.free 2; replace p0_lt := p0.lt; replace p1 := p1.ext hE4; replace p1_0 := p1.cell (i := 0) rfl; replace p1_1 := p1.cell (i := 1) rfl; replace p1_2 := p1.cell (i := 2) rfl; replace p1_f0 := p1.free 0; replace p1_f1 := p1.free 1; replace p1_f2 := p1.free 2; replace p1_lt := p1.lt; replace r0 := r0.ext hE4; replace r0_0 := r0.cell (i := 0) rfl; replace r0_1 := r0.cell (i := 1) rfl; replace r0_2 := r0.cell (i := 2) rfl; replace r0_f0 := r0.free 0; replace r0_f1 := r0.free 1; replace r0_f2 := r0.free 2; replace r0_lt := r0.lt; replace q := q.ext hE4; replace q_0 := q.cell (i := 0) rfl
  replace hE0 := Ext.trans hE0 hE4
  have hsz4 := hE4.size
  clear hE4 hEW3
  go_wp2_with fail
  have hd : Ext w4 w4.drew := (Below.refl _ _).drew
  have p0 := p0.ext hd; have p0_0 := p0.cell (i := 0) rfl; have p0_1 := p0.cell (i := 1) rfl; have p0_2 := p0.cell (i := 2) rfl; have p0_f0 := p0.free 0; have p0_f1 := p0.free 1; have p0_f2 := p0.free 2; have p0_lt := p0.lt; have p1 := p1.ext hd; have p1_0 := p1.cell (i := 0) rfl; have p1_1 := p1.cell (i := 1) rfl; have p1_2 := p1.cell (i := 2) rfl; have p1_f0 := p1.free 0; have p1_f1 := p1.free 1; have p1_f2 := p1.free 2; have p1_lt := p1.lt; have r0 := r0.ext hd; have r0_0 := r0.cell (i := 0) rfl; have r0_1 := r0.cell (i := 1) rfl; have r0_2 := r0.cell (i := 2) rfl; have r0_f0 := r0.free 0; have r0_f1 := r0.free 1; have r0_f2 := r0.free 2; have r0_lt := r0.lt; have q := q.ext hd; have q_0 := q.cell (i := 0) rfl
  replace hE0 := Ext.trans hE0 hd
  have hwr : IntKind.i64.wrap ((n2 : Int) + (n2' : Int)) = ((n2 + n2' : Nat) : Int) := by rw [IntWalk.i64_in _ (by omega)]; omega
  have hdd : d * d' ≠ 0 := Int.mul_ne_zero hd0 hd1
  obtain ⟨N, hN⟩ : ∃ N, n2 + n2' = N := ⟨_, rfl⟩
  rw [hN] at hwr hZ
  have hNb : N ≤ 1099511627776 := by omega
  have HN := Lib.hid hN
  have HA := Lib.hid (h.ext hE0)
  have HB := Lib.hid (h'.ext hE0)
  have HE0 := Lib.hid hE0
  obtain ⟨l0, h1, h2, h3, -⟩ := HA.out
  obtain ⟨l0', h1', h2', h3', -⟩ := HB.out
  have H1 := Lib.hid h1
  have H2 := Lib.hid h2
  have H1' := Lib.hid h1'
  have H2' := Lib.hid h2'
  have hszd : w4.heap.size = w4.drew.heap.size := rfl
  clear hd hN h h' hE0 h1 h2 h1' h2'
  refine wp_region_noPanic ?_
  refine wp_region_held_drew (S := (fun w' => w'.cell? ⟨w.heap.size, 0, none⟩ = some (.bool b) ∧ w'.cell? ⟨w.heap.size, 1, none⟩ = some (.slice a n c) ∧ w'.cell? ⟨w.heap.size, 2, none⟩ = some (.slice a2 n2 c2) ∧ w'.cell? ⟨w.heap.size + 1, 0, none⟩ = some (.bool b') ∧ w'.cell? ⟨w.heap.size + 1, 1, none⟩ = some (.slice a' n' c') ∧ w'.cell? ⟨w.heap.size + 1, 2, none⟩ = some (.slice a2' n2' c2') ∧ w'.cell? ⟨w2.heap.size, 0, none⟩ = some (.int .i64 (n2 : Int)))) (by kernel_rfl) ⟨p0_0, p0_1, p0_2, p1_0, p1_1, p1_2, q_0⟩ (fun hHeld => ?_)
  refine takeD 0 50 (v := ?_) rfl rfl (by kernel_rfl) (by kernel_rfl) (by kernel_rfl) (fun _ _ _ h => h) (Or.inl ⟨by kernel_rfl, ?hy⟩) hHeld ?_
  case hy => (intro w hSw; (try dsimp only at hSw); go_simp; try with_reducible rfl)
  try simp only [List.setIfInBounds_toArray, List.set_cons_zero, List.set_cons_succ]
  refine takeD 1 51 (v := ?_) rfl rfl (by kernel_rfl) (by kernel_rfl) (by kernel_rfl) (fun _ _ _ h => h) (Or.inl ⟨by kernel_rfl, ?hy⟩) hHeld ?_
  case hy => (intro w hSw; (try dsimp only at hSw); go_simp; try with_reducible rfl)
  try simp only [List.setIfInBounds_toArray, List.set_cons_zero, List.set_cons_succ]
  refine takeD 2 52 (v := ?_) rfl rfl (by kernel_rfl) (by kernel_rfl) (by kernel_rfl) (fun _ _ _ h => h) (Or.inl ⟨by kernel_rfl, ?hy⟩) hHeld ?_
  case hy => (intro w hSw; (try dsimp only at hSw); go_simp; try with_reducible rfl)
  try simp only [List.setIfInBounds_toArray, List.set_cons_zero, List.set_cons_succ]
  refine takeD 3 53 (v := ?_) rfl rfl (by kernel_rfl) (by kernel_rfl) (by kernel_rfl) (fun _ _ _ h => h) (Or.inl ⟨by kernel_rfl, ?hy⟩) hHeld ?_
  case hy => (intro w hSw; (try dsimp only at hSw); go_simp; try with_reducible rfl)
  try simp only [List.setIfInBounds_toArray, List.set_cons_zero, List.set_cons_succ]
  refine takeD 5 55 (v := ?_) rfl rfl (by kernel_rfl) (by kernel_rfl) (by kernel_rfl) (fun _ _ _ h => h) (Or.inl ⟨by kernel_rfl, ?hy⟩) hHeld ?_
  case hy => (intro w hSw; (try dsimp only at hSw); go_simp; try with_reducible rfl)
  try simp only [List.setIfInBounds_toArray, List.set_cons_zero, List.set_cons_succ]
  refine takeD 6 56 (v := ?_) rfl rfl (by kernel_rfl) (by kernel_rfl) (by kernel_rfl) (fun _ _ _ h => h) (Or.inl ⟨by kernel_rfl, ?hy⟩) hHeld ?_
  case hy => (intro w hSw; (try dsimp only at hSw); go_simp; try with_reducible rfl)
  try simp only [List.setIfInBounds_toArray, List.set_cons_zero, List.set_cons_succ]
  refine takeD 7 57 (v := ?_) rfl rfl (by kernel_rfl) (by kernel_rfl) (by kernel_rfl) (fun _ _ _ h => h) (Or.inl ⟨by kernel_rfl, ?hy⟩) hHeld ?_
  case hy => (intro w hSw; (try dsimp only at hSw); go_simp; try with_reducible rfl)
  try simp only [List.setIfInBounds_toArray, List.set_cons_zero, List.set_cons_succ]
  refine takeD 8 58 (v := ?_) rfl rfl (by kernel_rfl) (by kernel_rfl) (by kernel_rfl) (fun _ _ _ h => h) (Or.inl ⟨by kernel_rfl, ?hy⟩) hHeld ?_
  case hy => (intro w hSw; (try dsimp only at hSw); go_simp; try with_reducible rfl)
  try simp only [List.setIfInBounds_toArray, List.set_cons_zero, List.set_cons_succ]
  refine takeD 9 59 (v := ?_) rfl rfl (by kernel_rfl) (by kernel_rfl) (by kernel_rfl) (fun _ _ _ h => h) (Or.inl ⟨by kernel_rfl, ?hy⟩) hHeld ?_
  case hy => (intro w hSw; (try dsimp only at hSw); go_simp; try with_reducible rfl)
  try simp only [List.setIfInBounds_toArray, List.set_cons_zero, List.set_cons_succ]
  refine stepD 4 rfl (by kernel_rfl) (fun Kc hKc => ?_)
  refine Eq.mpr (if_pos (by kernel_rfl)) ?_
  go_simp
  refine (zintMul_z b b' 0 w4.drew a a' n c n' c' l0 l0' d d' H1.out H1'.out (by omega) (by omega) H2 H2').mono ?_; rintro e w5 ⟨a5, n5, c5, rfl, h5, hE1⟩; replace p0 := p0.ext hE1; replace p0_0 := p0.cell (i := 0) rfl; replace p0_1 := p0.cell (i := 1) rfl; replace p0_2 := p0.cell (i := 2) rfl; replace p0_f0 := p0.free 0; replace p0_f1 := p0.free 1; replace p0_f2 := p0.free 2; replace p0_lt := p0.lt; replace p1 := p1.ext hE1; replace p1_0 := p1.cell (i := 0) rfl; replace p1_1 := p1.cell (i := 1) rfl; replace p1_2 := p1.cell (i := 2) rfl; replace p1_f0 := p1.free 0; replace p1_f1 := p1.free 1; replace p1_f2 := p1.free 2; replace p1_lt := p1.lt; replace q := q.ext hE1; replace q_0 := q.cell (i := 0) rfl; replace q_f0 := q.free 0; replace q_lt := q.lt; replace r0 := r0.ext hE1; replace r0_0 := r0.cell (i := 0) rfl; replace r0_1 := r0.cell (i := 1) rfl; replace r0_2 := r0.cell (i := 2) rfl; replace r0_f0 := r0.free 0; replace r0_f1 := r0.free 1; replace r0_f2 := r0.free 2; replace r0_lt := r0.lt
  go_wp2_with fail
  refine hKc.out _ _ ⟨p0_0, p0_1, p0_2, p1_0, p1_1, p1_2, q_0⟩ (fun hHeld => ?_)
  clear hKc Kc
  try simp only [Act.put, List.setIfInBounds_toArray, List.set_cons_zero, List.set_cons_succ]
  have HDD := Lib.hid (h5.mono (Nat.zero_le _) (Kept.refl _ _))
  have hn5 : n5 ≤ 8796093022208 := by
    have g1 := h5.len
    rw [length_limbs, Int.natAbs_mul] at g1
    have g2 := nl_mul d.natAbs d'.natAbs
    have g3 := nl_of H1.out H2
    have g4 := nl_of H1'.out H2'
    omega
  have HE5 := Lib.hid (Ext.trans HE0.out hE1)
  have hsz5 := hE1.size
  have HCO := Lib.hid (stack1_any K hK w5 b a a2 n c n2 c2 d zss (HA.out.ext hE1) b' a' a2' n' c' n2' c2' d' zss' (HB.out.ext hE1) m hrowm hrowm' (by omega) (by omega) w2.heap.size w.heap.size (w.heap.size + 1) _ _ _ q p0 p1)
  rw [HN.out] at HCO
  obtain ⟨DD, hDD⟩ : ∃ D, d * d' = D := ⟨_, rfl⟩
  have HDDe := Lib.hid hDD
  rw [hDD] at HDD hdd ⊢
  obtain ⟨sd, hsd⟩ : ∃ s, decide (DD < 0) = s := ⟨_, rfl⟩
  have HIV : Hid (ival sd (limbs DD.natAbs) = DD) := Lib.hid (by rw [← hsd]; exact ival_norm _)
  rw [hsd]
  clear h5 hE1 hDD hsd
  refine stepD 10 rfl (by kernel_rfl) (fun Kc hKc => ?_)
  refine Eq.mpr (if_pos (by kernel_rfl)) ?_
  go_simp
  refine (table_any 59 #[.pointer (some ⟨w2.heap.size, 0, none⟩), .pointer (some ⟨w.heap.size, 0, none⟩), .pointer (some ⟨w.heap.size + 1, 0, none⟩)] N m (stackF zss zss' d d') w5 hen HCO hNb hmm).mono ?_; rintro e w6 ⟨a4, c4, rfl, h4, hE1⟩; replace p0 := p0.ext hE1; replace p0_0 := p0.cell (i := 0) rfl; replace p0_1 := p0.cell (i := 1) rfl; replace p0_2 := p0.cell (i := 2) rfl; replace p0_f0 := p0.free 0; replace p0_f1 := p0.free 1; replace p0_f2 := p0.free 2; replace p0_lt := p0.lt; replace p1 := p1.ext hE1; replace p1_0 := p1.cell (i := 0) rfl; replace p1_1 := p1.cell (i := 1) rfl; replace p1_2 := p1.cell (i := 2) rfl; replace p1_f0 := p1.free 0; replace p1_f1 := p1.free 1; replace p1_f2 := p1.free 2; replace p1_lt := p1.lt; replace q := q.ext hE1; replace q_0 := q.cell (i := 0) rfl; replace q_f0 := q.free 0; replace q_lt := q.lt; replace r0 := r0.ext hE1; replace r0_0 := r0.cell (i := 0) rfl; replace r0_1 := r0.cell (i := 1) rfl; replace r0_2 := r0.cell (i := 2) rfl; replace r0_f0 := r0.free 0; replace r0_f1 := r0.free 1; replace r0_f2 := r0.free 2; replace r0_lt := r0.lt
  go_wp2_with fail
  refine hKc.out _ _ ⟨p0_0, p0_1, p0_2, p1_0, p1_1, p1_2, q_0⟩ (fun hHeld => ?_)
  clear hKc Kc
  try simp only [Act.put, List.setIfInBounds_toArray, List.set_cons_zero, List.set_cons_succ]
  rw [hZ.out] at h4
  have hlenZ : ∀ row ∈ Z, row.length ≤ 1099511627776 := by
    intro row hrw
    rw [← hZ.out] at hrw
    rw [table_len _ _ _ row hrw]; omega
  obtain ⟨xss, hG, hxz⟩ := grid_of (rows_of_table h4 hE1) hNb hlenZ
  have HXZ := Lib.hid hxz
  have HG := Lib.hid hG
  have HD6 := Lib.hid (HDD.out.ext (Nat.le_refl _) hE1)
  have HE6 := Lib.hid (Ext.trans HE5.out hE1)
  have hsz6 := hE1.size
  clear hxz hG h4 hE1 hlenZ hen
  refine stepD 11 rfl (by kernel_rfl) (fun Kc hKc => ?_)
  refine Eq.mpr (if_pos (by kernel_rfl)) ?_
  go_simp
  refine (made_any w6 sd a5 a4 n5 c5 N c4 _ xss HD6.out HG.out hn5 DD HIV hdd).mono ?_; rintro e w7 ⟨a7, n7, c7, a8, n8, c8, rfl, h7, h8, hE1⟩; rw [HXZ.out] at h7 h8 ⊢; replace p0 := p0.ext hE1; replace p0_0 := p0.cell (i := 0) rfl; replace p0_1 := p0.cell (i := 1) rfl; replace p0_2 := p0.cell (i := 2) rfl; replace p0_f0 := p0.free 0; replace p0_f1 := p0.free 1; replace p0_f2 := p0.free 2; replace p0_lt := p0.lt; replace p1 := p1.ext hE1; replace p1_0 := p1.cell (i := 0) rfl; replace p1_1 := p1.cell (i := 1) rfl; replace p1_2 := p1.cell (i := 2) rfl; replace p1_f0 := p1.free 0; replace p1_f1 := p1.free 1; replace p1_f2 := p1.free 2; replace p1_lt := p1.lt; replace q := q.ext hE1; replace q_0 := q.cell (i := 0) rfl; replace q_f0 := q.free 0; replace q_lt := q.lt; replace r0 := r0.ext hE1; replace r0_0 := r0.cell (i := 0) rfl; replace r0_1 := r0.cell (i := 1) rfl; replace r0_2 := r0.cell (i := 2) rfl; replace r0_f0 := r0.free 0; replace r0_f1 := r0.free 1; replace r0_f2 := r0.free 2; replace r0_lt := r0.lt
  go_wp2_with fail
  refine hKc.out _ _ ⟨p0_0, p0_1, p0_2, p1_0, p1_1, p1_2, q_0⟩ (fun hHeld => ?_)
  clear hKc Kc
  try simp only [Act.put, List.setIfInBounds_toArray, List.set_cons_zero, List.set_cons_succ]
  generalize hde : madeDen DD Z = de at *
  generalize hzz : madeRows DD Z = zz at *
  have HF := Lib.hid (RMatOk.box (w := w) (r := w.heap.size + 1 + 1) (v0 := .bool (decide (de < 0))) (v1 := .slice a7 n7 c7) (v2 := .slice a8 n8 c8) (by omega) (show w.heap.size + 1 + 1 < w6.heap.size by omega) (Ext.trans HE6.out hE1) h7 h8)
  have HDE := Lib.hid hde
  have HZZ := Lib.hid hzz
  clear h7 h8 hde hzz
  generalize decide (de < 0) = sg at *
  refine stepD 12 rfl (by kernel_rfl) (fun Kc hKc => ?_)
  refine Eq.mpr (if_pos (by kernel_rfl)) ?_
  go_simp
  have r2 := ((r0.set 0 (.bool sg)).set 1 (.slice a7 n7 c7)).set 2 (.slice a8 n8 c8)
  have hr0 := r2.cell (i := 0) rfl
  have hr1 := r2.cell (i := 1) rfl
  have hr2 := r2.cell (i := 2) rfl
  have n0 : w.heap.size ≠ w.heap.size + 1 + 1 := by omega
  have n1 : w.heap.size + 1 ≠ w.heap.size + 1 + 1 := by omega
  have n3 : w2.heap.size ≠ w.heap.size + 1 + 1 := by omega
  replace p0 := ((p0.set_ne 0 (.bool sg) n0).set_ne 1 (.slice a7 n7 c7) n0).set_ne 2 (.slice a8 n8 c8) n0
  replace p1 := ((p1.set_ne 0 (.bool sg) n1).set_ne 1 (.slice a7 n7 c7) n1).set_ne 2 (.slice a8 n8 c8) n1
  replace q := ((q.set_ne 0 (.bool sg) n3).set_ne 1 (.slice a7 n7 c7) n3).set_ne 2 (.slice a8 n8 c8) n3
  refine hKc.out _ _ ⟨p0.cell (i := 0) rfl, p0.cell (i := 1) rfl, p0.cell (i := 2) rfl, p1.cell (i := 0) rfl, p1.cell (i := 1) rfl, p1.cell (i := 2) rfl, q.cell (i := 0) rfl⟩ (fun hHeld => ?_)
  clear hKc Kc
  try simp only [Act.put, List.setIfInBounds_toArray, List.set_cons_zero, List.set_cons_succ]
  refine takeD 13 5 (v := ?_) rfl rfl (by kernel_rfl) (by kernel_rfl) (by kernel_rfl) (fun _ _ _ h => h) (Or.inl ⟨by kernel_rfl, ?hy⟩) hHeld ?_
  case hy => (intro w hSw; (try dsimp only at hSw); go_simp; try with_reducible rfl)
  try simp only [List.setIfInBounds_toArray, List.set_cons_zero, List.set_cons_succ]
  refine wpAnyH_done (by kernel_rfl) ?_ _
  refine NoPanic.normal ?_
  clear r0 r0_0 r0_1 r0_2 r0_f0 r0_f1 r0_f2 r0_lt r2 p0 p0_0 p0_1 p0_2 p0_f0 p0_f1 p0_f2 p0_lt p1 p1_0 p1_1 p1_2 p1_f0 p1_f1 p1_f2 p1_lt q q_0 hHeld n0 n1 n3 hE1
  go_wp2_with fail
  exact bodyPost_ret (v := .tuple #[.agg #[.bool sg, .slice a7 n7 c7, .slice a8 n8 c8], .int .i64 0]) (by simp [results, Try.results18, go_sem, hr0, hr1, hr2]) rfl (by first | exact HF.out | (rw [HDDe.out, HDE.out, HZZ.out]; exact HF.out))
end Go.Proofs.Ytbhenelehhiakaa
