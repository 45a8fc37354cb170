/-
  qmat: joined; Add, Sub.
-/
import Derived.Test.YtbhenelehhiakaaGreatSum35
import Derived.Test.YtbhenelehhiakaaGreatSum38
set_option linter.unusedVariables false
set_option linter.unusedSimpArgs false
namespace Go.Proofs.YtbhenelehhiakaaGreat
open Go.RowKit

set_option maxRecDepth 100000 in
set_option maxHeartbeats 8000000 in
theorem qJoin_err (fid : Nat)
(K : Nat) (hK : K + K + 1099511627776 ≤ 8796093022208) (w : World) (b : Bool) (a a2 : Option Addr) (n c n2 c2 : Nat) (d : Int) (zss : List (List Int)) (h : MatS K w b a n c a2 n2 c2 d zss) (b' : Bool) (a' a2' : Option Addr) (n' c' n2' c2' : Nat) (d' : Int) (zss' : List (List Int)) (h' : MatS K w b' a' n' c' a2' n2' c2' d' zss')
    (s : Int) (hs : Hid (checksE [(d, zss), (d', zss')] = s)) (h0 : s ≠ 0) : Calls Tryz.prog 97 #[.agg #[.bool b, .slice a n c, .slice a2 n2 c2], .agg #[.bool b', .slice a' n' c', .slice a2' n2' c2'], .func (.func fid) #[] #[]] w (RMatErr w s) := by
  have hs0 : (s != 0) = true := by simpa using h0
  go_enter Tryz.func97, Tryz.ntmps97
  go_wp2_with fail
  have p0 := Blk.new w 28 #[.bool b, .slice a n c, .slice a2 n2 c2]
  have p1 := Blk.new (w.alloc (Obj.cells #[.bool b, .slice a n c, .slice a2 n2 c2] 28)) 28 #[.bool b', .slice a' n' c', .slice a2' n2' c2']
  replace p0 := p0.ext ((Below.refl _ _).alloc (Nat.le_refl _) (Obj.cells #[.bool b', .slice a' n' c', .slice a2' n2' c2'] 28))
  have po := Blk.new ((w.alloc (Obj.cells #[.bool b, .slice a n c, .slice a2 n2 c2] 28)).alloc (Obj.cells #[.bool b', .slice a' n' c', .slice a2' n2' c2'] 28)) 105 #[.func (.func fid) #[] #[]]
  replace p0 := p0.ext ((Below.refl _ _).alloc (Nat.le_refl _) (Obj.cells #[.func (.func fid) #[] #[]] 105))
  replace p1 := p1.ext ((Below.refl _ _).alloc (Nat.le_refl _) (Obj.cells #[.func (.func fid) #[] #[]] 105))
  have r0 := Blk.new (((w.alloc (Obj.cells #[.bool b, .slice a n c, .slice a2 n2 c2] 28)).alloc (Obj.cells #[.bool b', .slice a' n' c', .slice a2' n2' c2'] 28)).alloc (Obj.cells #[.func (.func fid) #[] #[]] 105)) 28 #[.bool false, .slice none 0 0, .slice none 0 0]
  replace p0 := p0.ext ((Below.refl _ _).alloc (Nat.le_refl _) (Obj.cells #[.bool false, .slice none 0 0, .slice none 0 0] 28))
  replace p1 := p1.ext ((Below.refl _ _).alloc (Nat.le_refl _) (Obj.cells #[.bool false, .slice none 0 0, .slice none 0 0] 28))
  replace po := po.ext ((Below.refl _ _).alloc (Nat.le_refl _) (Obj.cells #[.bool false, .slice none 0 0, .slice none 0 0] 28))
  have y := Blk.new ((((w.alloc (Obj.cells #[.bool b, .slice a n c, .slice a2 n2 c2] 28)).alloc (Obj.cells #[.bool b', .slice a' n' c', .slice a2' n2' c2'] 28)).alloc (Obj.cells #[.func (.func fid) #[] #[]] 105)).alloc (Obj.cells #[.bool false, .slice none 0 0, .slice none 0 0] 28)) 28 #[.bool b, .slice a n c, .slice a2 n2 c2, .bool b', .slice a' n' c', .slice a2' n2' c2']
  replace p0 := p0.ext ((Below.refl _ _).alloc (Nat.le_refl _) (Obj.cells #[.bool b, .slice a n c, .slice a2 n2 c2, .bool b', .slice a' n' c', .slice a2' n2' c2'] 28))
  replace p1 := p1.ext ((Below.refl _ _).alloc (Nat.le_refl _) (Obj.cells #[.bool b, .slice a n c, .slice a2 n2 c2, .bool b', .slice a' n' c', .slice a2' n2' c2'] 28))
  replace po := po.ext ((Below.refl _ _).alloc (Nat.le_refl _) (Obj.cells #[.bool b, .slice a n c, .slice a2 n2 c2, .bool b', .slice a' n' c', .slice a2' n2' c2'] 28))
  replace r0 := r0.ext ((Below.refl _ _).alloc (Nat.le_refl _) (Obj.cells #[.bool b, .slice a n c, .slice a2 n2 c2, .bool b', .slice a' n' c', .slice a2' n2' c2'] 28))
  have hEW : Ext w (((((w.alloc (Obj.cells #[.bool b, .slice a n c, .slice a2 n2 c2] 28)).alloc (Obj.cells #[.bool b', .slice a' n' c', .slice a2' n2' c2'] 28)).alloc (Obj.cells #[.func (.func fid) #[] #[]] 105)).alloc (Obj.cells #[.bool false, .slice none 0 0, .slice none 0 0] 28)).alloc (Obj.cells #[.bool b, .slice a n c, .slice a2 n2 c2, .bool b', .slice a' n' c', .slice a2' n2' c2'] 28)) := ((((((Below.refl _ w).alloc (by simp) _).alloc (by simp) _).alloc (by simp; omega) _).alloc (by simp; omega) _).alloc (by simp; omega) _)
  generalize hgW : ((((w.alloc (Obj.cells #[.bool b, .slice a n c, .slice a2 n2 c2] 28)).alloc (Obj.cells #[.bool b', .slice a' n' c', .slice a2' n2' c2'] 28)).alloc (Obj.cells #[.func (.func fid) #[] #[]] 105)).alloc (Obj.cells #[.bool false, .slice none 0 0, .slice none 0 0] 28)).alloc (Obj.cells #[.bool b, .slice a n c, .slice a2 n2 c2, .bool b', .slice a' n' c', .slice a2' n2' c2'] 28) = W at *
  clear hgW
  simp only [World.size_alloc] at p1 po r0 y
  have p0_ne_p1 : ¬ w.heap.size = w.heap.size + 1 := by omega
  have p0_ne_po : ¬ w.heap.size = w.heap.size + 1 + 1 := by omega
  have p0_ne_r0 : ¬ w.heap.size = w.heap.size + 1 + 1 + 1 := by omega
  have p0_ne_y : ¬ w.heap.size = w.heap.size + 1 + 1 + 1 + 1 := by omega
  have p1_ne_p0 : ¬ w.heap.size + 1 = w.heap.size := by omega
  have p1_ne_po : ¬ w.heap.size + 1 = w.heap.size + 1 + 1 := by omega
  have p1_ne_r0 : ¬ w.heap.size + 1 = w.heap.size + 1 + 1 + 1 := by omega
  have p1_ne_y : ¬ w.heap.size + 1 = w.heap.size + 1 + 1 + 1 + 1 := by omega
  have po_ne_p0 : ¬ w.heap.size + 1 + 1 = w.heap.size := by omega
  have po_ne_p1 : ¬ w.heap.size + 1 + 1 = w.heap.size + 1 := by omega
  have po_ne_r0 : ¬ w.heap.size + 1 + 1 = w.heap.size + 1 + 1 + 1 := by omega
  have po_ne_y : ¬ w.heap.size + 1 + 1 = w.heap.size + 1 + 1 + 1 + 1 := by omega
  have r0_ne_p0 : ¬ w.heap.size + 1 + 1 + 1 = w.heap.size := by omega
  have r0_ne_p1 : ¬ w.heap.size + 1 + 1 + 1 = w.heap.size + 1 := by omega
  have r0_ne_po : ¬ w.heap.size + 1 + 1 + 1 = w.heap.size + 1 + 1 := by omega
  have r0_ne_y : ¬ w.heap.size + 1 + 1 + 1 = w.heap.size + 1 + 1 + 1 + 1 := by omega
  have y_ne_p0 : ¬ w.heap.size + 1 + 1 + 1 + 1 = w.heap.size := by omega
  have y_ne_p1 : ¬ w.heap.size + 1 + 1 + 1 + 1 = w.heap.size + 1 := by omega
  have y_ne_po : ¬ w.heap.size + 1 + 1 + 1 + 1 = w.heap.size + 1 + 1 := by omega
  have y_ne_r0 : ¬ w.heap.size + 1 + 1 + 1 + 1 = w.heap.size + 1 + 1 + 1 := by omega
  replace p0_0 := p0.cell (i := 0) rfl
  replace p0_1 := p0.cell (i := 1) rfl
  replace p0_2 := p0.cell (i := 2) rfl
  replace p0_f0 := p0.free 0
  replace p0_f1 := p0.free 1
  replace p0_f2 := p0.free 2
  replace p0_lt := p0.lt
  replace p1_0 := p1.cell (i := 0) rfl
  replace p1_1 := p1.cell (i := 1) rfl
  replace p1_2 := p1.cell (i := 2) rfl
  replace p1_f0 := p1.free 0
  replace p1_f1 := p1.free 1
  replace p1_f2 := p1.free 2
  replace p1_lt := p1.lt
  replace po_0 := po.cell (i := 0) rfl
  replace r0_0 := r0.cell (i := 0) rfl
  replace r0_1 := r0.cell (i := 1) rfl
  replace r0_2 := r0.cell (i := 2) rfl
  replace r0_f0 := r0.free 0
  replace r0_f1 := r0.free 1
  replace r0_f2 := r0.free 2
  replace r0_lt := r0.lt
  replace y_0 := y.cell (i := 0) rfl
  replace y_1 := y.cell (i := 1) rfl
  replace y_2 := y.cell (i := 2) rfl
  replace y_3 := y.cell (i := 3) rfl
  replace y_4 := y.cell (i := 4) rfl
  replace y_5 := y.cell (i := 5) rfl
  (with_reducible refine (checks_any K (by omega) W (some ⟨w.heap.size + 1 + 1 + 1 + 1, 0, none⟩) 2 2 [(d, zss), (d', zss')] (sl_mat2 y (h.ext hEW) (h'.ext hEW)) s hs).mono ?_)
  rintro e w1 ⟨rfl, hE1⟩
  replace p0 := p0.ext hE1; replace p0_0 := p0.cell (i := 0) rfl; replace p0_1 := p0.cell (i := 1) rfl; replace p0_2 := p0.cell (i := 2) rfl; replace p0_f0 := p0.free 0; replace p0_f1 := p0.free 1; replace p0_f2 := p0.free 2; replace p0_lt := p0.lt; replace p1 := p1.ext hE1; replace p1_0 := p1.cell (i := 0) rfl; replace p1_1 := p1.cell (i := 1) rfl; replace p1_2 := p1.cell (i := 2) rfl; replace p1_f0 := p1.free 0; replace p1_f1 := p1.free 1; replace p1_f2 := p1.free 2; replace p1_lt := p1.lt; replace po := po.ext hE1; replace po_0 := po.cell (i := 0) rfl; replace r0 := r0.ext hE1; replace r0_0 := r0.cell (i := 0) rfl; replace r0_1 := r0.cell (i := 1) rfl; replace r0_2 := r0.cell (i := 2) rfl; replace r0_f0 := r0.free 0; replace r0_f1 := r0.free 1; replace r0_f2 := r0.free 2; replace r0_lt := r0.lt
  have hE0 := Ext.trans hEW hE1
  have hszW : w.heap.size + 1 + 1 + 1 + 1 < W.heap.size := y.lt
  have hsz1 := hE1.size
  clear y y_0 y_1 y_2 y_3 y_4 y_5 hEW hE1
  have HF : Hid (RMatErr w s (.returned (.tuple #[.agg #[.bool false, .slice none 0 0, .slice none 0 0], .int .i64 s])) (((w1.setCell ⟨w.heap.size + 1 + 1 + 1, 0, none⟩ (.bool false)).setCell ⟨w.heap.size + 1 + 1 + 1, 1, none⟩ (.slice none 0 0)).setCell ⟨w.heap.size + 1 + 1 + 1, 2, none⟩ (.slice none 0 0))) := Lib.hid ⟨rfl, ext_set3 hE0 _ _ _ (by omega)⟩
  clear hE0 h h'
  have r02 : Blk ((((w1).setCell ⟨w.heap.size + 1 + 1 + 1, 0, none⟩ (.bool false)).setCell ⟨w.heap.size + 1 + 1 + 1, 1, none⟩ (.slice none 0 0)).setCell ⟨w.heap.size + 1 + 1 + 1, 2, none⟩ (.slice none 0 0)) _ _ #[.bool false, .slice none 0 0, .slice none 0 0] := (((r0).set 0 (.bool false)).set 1 (.slice none 0 0)).set 2 (.slice none 0 0)
  have hr00 := r02.cell (i := 0) rfl
  have hr01 := r02.cell (i := 1) rfl
  have hr02 := r02.cell (i := 2) rfl
  go_wp2_with fail
  exact bodyPost_ret (v := .tuple #[.agg #[.bool false, .slice none 0 0, .slice none 0 0], .int .i64 s]) (by simp [results, Tryz.results97, go_sem, hr00, hr01, hr02]) rfl HF.out

set_option maxRecDepth 100000 in
set_option maxHeartbeats 8000000 in
theorem qJoin_shape (fid : Nat)
(K : Nat) (hK : K + K + 1099511627776 ≤ 8796093022208) (w : World) (b : Bool) (a a2 : Option Addr) (n c n2 c2 : Nat) (d : Int) (zss : List (List Int)) (h : MatS K w b a n c a2 n2 c2 d zss) (b' : Bool) (a' a2' : Option Addr) (n' c' n2' c2' : Nat) (d' : Int) (zss' : List (List Int)) (h' : MatS K w b' a' n' c' a2' n2' c2' d' zss')
    (s : Int) (hsz : s = 0) (hs : Hid (checksE [(d, zss), (d', zss')] = s)) (m m' : Nat) (hm : Hid (colsOf zss = m)) (hm' : Hid (colsOf zss' = m')) (hn2 : n2 ≤ 1099511627776) (hn2' : n2' ≤ 1099511627776) (hmm : m ≤ 1099511627776) (hmm' : m' ≤ 1099511627776) (hne : n2 ≠ n2' ∨ m ≠ m') : Calls Tryz.prog 97 #[.agg #[.bool b, .slice a n c, .slice a2 n2 c2], .agg #[.bool b', .slice a' n' c', .slice a2' n2' c2'], .func (.func fid) #[] #[]] w (RMatErr w 2) := by
  subst hsz
  have hc0 := checksE_zero hs.out (d, zss) (by simp)
  have hc1 := checksE_zero hs.out (d', zss') (by simp)
  have hd0 : d ≠ 0 := hc0.1
  have hd1 : d' ≠ 0 := hc1.1
  have hrowm : Hid (∀ zs ∈ zss, zs.length = m) := Lib.hid (fun zs hz => by rw [← hm.out]; exact evenB_all hc0.2 zs hz)
  have hrowm' : Hid (∀ zs ∈ zss', zs.length = m') := Lib.hid (fun zs hz => by rw [← hm'.out]; exact evenB_all hc1.2 zs hz)
  have hrowb : Hid (∀ zs ∈ zss, zs.length ≤ 1099511627776) := Lib.hid (fun zs hz => by rw [hrowm.out zs hz]; omega)
  have hrowb' : Hid (∀ zs ∈ zss', zs.length ≤ 1099511627776) := Lib.hid (fun zs hz => by rw [hrowm'.out zs hz]; omega)
  clear hc0 hc1
  go_enter Tryz.func97, Tryz.ntmps97
  go_wp2_with fail
  have p0 := Blk.new w 28 #[.bool b, .slice a n c, .slice a2 n2 c2]
  have p1 := Blk.new (w.alloc (Obj.cells #[.bool b, .slice a n c, .slice a2 n2 c2] 28)) 28 #[.bool b', .slice a' n' c', .slice a2' n2' c2']
  replace p0 := p0.ext ((Below.refl _ _).alloc (Nat.le_refl _) (Obj.cells #[.bool b', .slice a' n' c', .slice a2' n2' c2'] 28))
  have po := Blk.new ((w.alloc (Obj.cells #[.bool b, .slice a n c, .slice a2 n2 c2] 28)).alloc (Obj.cells #[.bool b', .slice a' n' c', .slice a2' n2' c2'] 28)) 105 #[.func (.func fid) #[] #[]]
  replace p0 := p0.ext ((Below.refl _ _).alloc (Nat.le_refl _) (Obj.cells #[.func (.func fid) #[] #[]] 105))
  replace p1 := p1.ext ((Below.refl _ _).alloc (Nat.le_refl _) (Obj.cells #[.func (.func fid) #[] #[]] 105))
  have r0 := Blk.new (((w.alloc (Obj.cells #[.bool b, .slice a n c, .slice a2 n2 c2] 28)).alloc (Obj.cells #[.bool b', .slice a' n' c', .slice a2' n2' c2'] 28)).alloc (Obj.cells #[.func (.func fid) #[] #[]] 105)) 28 #[.bool false, .slice none 0 0, .slice none 0 0]
  replace p0 := p0.ext ((Below.refl _ _).alloc (Nat.le_refl _) (Obj.cells #[.bool false, .slice none 0 0, .slice none 0 0] 28))
  replace p1 := p1.ext ((Below.refl _ _).alloc (Nat.le_refl _) (Obj.cells #[.bool false, .slice none 0 0, .slice none 0 0] 28))
  replace po := po.ext ((Below.refl _ _).alloc (Nat.le_refl _) (Obj.cells #[.bool false, .slice none 0 0, .slice none 0 0] 28))
  have y := Blk.new ((((w.alloc (Obj.cells #[.bool b, .slice a n c, .slice a2 n2 c2] 28)).alloc (Obj.cells #[.bool b', .slice a' n' c', .slice a2' n2' c2'] 28)).alloc (Obj.cells #[.func (.func fid) #[] #[]] 105)).alloc (Obj.cells #[.bool false, .slice none 0 0, .slice none 0 0] 28)) 28 #[.bool b, .slice a n c, .slice a2 n2 c2, .bool b', .slice a' n' c', .slice a2' n2' c2']
  replace p0 := p0.ext ((Below.refl _ _).alloc (Nat.le_refl _) (Obj.cells #[.bool b, .slice a n c, .slice a2 n2 c2, .bool b', .slice a' n' c', .slice a2' n2' c2'] 28))
  replace p1 := p1.ext ((Below.refl _ _).alloc (Nat.le_refl _) (Obj.cells #[.bool b, .slice a n c, .slice a2 n2 c2, .bool b', .slice a' n' c', .slice a2' n2' c2'] 28))
  replace po := po.ext ((Below.refl _ _).alloc (Nat.le_refl _) (Obj.cells #[.bool b, .slice a n c, .slice a2 n2 c2, .bool b', .slice a' n' c', .slice a2' n2' c2'] 28))
  replace r0 := r0.ext ((Below.refl _ _).alloc (Nat.le_refl _) (Obj.cells #[.bool b, .slice a n c, .slice a2 n2 c2, .bool b', .slice a' n' c', .slice a2' n2' c2'] 28))
  have hEW : Ext w (((((w.alloc (Obj.cells #[.bool b, .slice a n c, .slice a2 n2 c2] 28)).alloc (Obj.cells #[.bool b', .slice a' n' c', .slice a2' n2' c2'] 28)).alloc (Obj.cells #[.func (.func fid) #[] #[]] 105)).alloc (Obj.cells #[.bool false, .slice none 0 0, .slice none 0 0] 28)).alloc (Obj.cells #[.bool b, .slice a n c, .slice a2 n2 c2, .bool b', .slice a' n' c', .slice a2' n2' c2'] 28)) := ((((((Below.refl _ w).alloc (by simp) _).alloc (by simp) _).alloc (by simp; omega) _).alloc (by simp; omega) _).alloc (by simp; omega) _)
  generalize hgW : ((((w.alloc (Obj.cells #[.bool b, .slice a n c, .slice a2 n2 c2] 28)).alloc (Obj.cells #[.bool b', .slice a' n' c', .slice a2' n2' c2'] 28)).alloc (Obj.cells #[.func (.func fid) #[] #[]] 105)).alloc (Obj.cells #[.bool false, .slice none 0 0, .slice none 0 0] 28)).alloc (Obj.cells #[.bool b, .slice a n c, .slice a2 n2 c2, .bool b', .slice a' n' c', .slice a2' n2' c2'] 28) = W at *
  clear hgW
  simp only [World.size_alloc] at p1 po r0 y
  have p0_ne_p1 : ¬ w.heap.size = w.heap.size + 1 := by omega
  have p0_ne_po : ¬ w.heap.size = w.heap.size + 1 + 1 := by omega
  have p0_ne_r0 : ¬ w.heap.size = w.heap.size + 1 + 1 + 1 := by omega
  have p0_ne_y : ¬ w.heap.size = w.heap.size + 1 + 1 + 1 + 1 := by omega
  have p1_ne_p0 : ¬ w.heap.size + 1 = w.heap.size := by omega
  have p1_ne_po : ¬ w.heap.size + 1 = w.heap.size + 1 + 1 := by omega
  have p1_ne_r0 : ¬ w.heap.size + 1 = w.heap.size + 1 + 1 + 1 := by omega
  have p1_ne_y : ¬ w.heap.size + 1 = w.heap.size + 1 + 1 + 1 + 1 := by omega
  have po_ne_p0 : ¬ w.heap.size + 1 + 1 = w.heap.size := by omega
  have po_ne_p1 : ¬ w.heap.size + 1 + 1 = w.heap.size + 1 := by omega
  have po_ne_r0 : ¬ w.heap.size + 1 + 1 = w.heap.size + 1 + 1 + 1 := by omega
  have po_ne_y : ¬ w.heap.size + 1 + 1 = w.heap.size + 1 + 1 + 1 + 1 := by omega
  have r0_ne_p0 : ¬ w.heap.size + 1 + 1 + 1 = w.heap.size := by omega
  have r0_ne_p1 : ¬ w.heap.size + 1 + 1 + 1 = w.heap.size + 1 := by omega
  have r0_ne_po : ¬ w.heap.size + 1 + 1 + 1 = w.heap.size + 1 + 1 := by omega
  have r0_ne_y : ¬ w.heap.size + 1 + 1 + 1 = w.heap.size + 1 + 1 + 1 + 1 := by omega
  have y_ne_p0 : ¬ w.heap.size + 1 + 1 + 1 + 1 = w.heap.size := by omega
  have y_ne_p1 : ¬ w.heap.size + 1 + 1 + 1 + 1 = w.heap.size + 1 := by omega
  have y_ne_po : ¬ w.heap.size + 1 + 1 + 1 + 1 = w.heap.size + 1 + 1 := by omega
  have y_ne_r0 : ¬ w.heap.size + 1 + 1 + 1 + 1 = w.heap.size + 1 + 1 + 1 := by omega
  replace p0_0 := p0.cell (i := 0) rfl
  replace p0_1 := p0.cell (i := 1) rfl
  replace p0_2 := p0.cell (i := 2) rfl
  replace p0_f0 := p0.free 0
  replace p0_f1 := p0.free 1
  replace p0_f2 := p0.free 2
  replace p0_lt := p0.lt
  replace p1_0 := p1.cell (i := 0) rfl
  replace p1_1 := p1.cell (i := 1) rfl
  replace p1_2 := p1.cell (i := 2) rfl
  replace p1_f0 := p1.free 0
  replace p1_f1 := p1.free 1
  replace p1_f2 := p1.free 2
  replace p1_lt := p1.lt
  replace po_0 := po.cell (i := 0) rfl
  replace r0_0 := r0.cell (i := 0) rfl
  replace r0_1 := r0.cell (i := 1) rfl
  replace r0_2 := r0.cell (i := 2) rfl
  replace r0_f0 := r0.free 0
  replace r0_f1 := r0.free 1
  replace r0_f2 := r0.free 2
  replace r0_lt := r0.lt
  replace y_0 := y.cell (i := 0) rfl
  replace y_1 := y.cell (i := 1) rfl
  replace y_2 := y.cell (i := 2) rfl
  replace y_3 := y.cell (i := 3) rfl
  replace y_4 := y.cell (i := 4) rfl
  replace y_5 := y.cell (i := 5) rfl
  (with_reducible refine (checks_any K (by omega) W (some ⟨w.heap.size + 1 + 1 + 1 + 1, 0, none⟩) 2 2 [(d, zss), (d', zss')] (sl_mat2 y (h.ext hEW) (h'.ext hEW)) 0 hs).mono ?_)
  rintro e w1 ⟨rfl, hE1⟩
  replace p0 := p0.ext hE1; replace p0_0 := p0.cell (i := 0) rfl; replace p0_1 := p0.cell (i := 1) rfl; replace p0_2 := p0.cell (i := 2) rfl; replace p0_f0 := p0.free 0; replace p0_f1 := p0.free 1; replace p0_f2 := p0.free 2; replace p0_lt := p0.lt; replace p1 := p1.ext hE1; replace p1_0 := p1.cell (i := 0) rfl; replace p1_1 := p1.cell (i := 1) rfl; replace p1_2 := p1.cell (i := 2) rfl; replace p1_f0 := p1.free 0; replace p1_f1 := p1.free 1; replace p1_f2 := p1.free 2; replace p1_lt := p1.lt; replace po := po.ext hE1; replace po_0 := po.cell (i := 0) rfl; replace r0 := r0.ext hE1; replace r0_0 := r0.cell (i := 0) rfl; replace r0_1 := r0.cell (i := 1) rfl; replace r0_2 := r0.cell (i := 2) rfl; replace r0_f0 := r0.free 0; replace r0_f1 := r0.free 1; replace r0_f2 := r0.free 2; replace r0_lt := r0.lt
  have hE0 := Ext.trans hEW hE1
  have hszW : w.heap.size + 1 + 1 + 1 + 1 < W.heap.size := y.lt
  have hsz1 := hE1.size
  clear y y_0 y_1 y_2 y_3 y_4 y_5 hEW hE1
  go_wp2_with fail
  (with_reducible refine (qsize_any K (by omega) w1 b a a2 n c n2 c2 d zss (h.ext hE0) (by omega) hrowb m hm).mono ?_)
  rintro e w2 ⟨rfl, hE2⟩
  replace p0 := p0.ext hE2; replace p0_0 := p0.cell (i := 0) rfl; replace p0_1 := p0.cell (i := 1) rfl; replace p0_2 := p0.cell (i := 2) rfl; replace p0_f0 := p0.free 0; replace p0_f1 := p0.free 1; replace p0_f2 := p0.free 2; replace p0_lt := p0.lt; replace p1 := p1.ext hE2; replace p1_0 := p1.cell (i := 0) rfl; replace p1_1 := p1.cell (i := 1) rfl; replace p1_2 := p1.cell (i := 2) rfl; replace p1_f0 := p1.free 0; replace p1_f1 := p1.free 1; replace p1_f2 := p1.free 2; replace p1_lt := p1.lt; replace po := po.ext hE2; replace po_0 := po.cell (i := 0) rfl; replace r0 := r0.ext hE2; replace r0_0 := r0.cell (i := 0) rfl; replace r0_1 := r0.cell (i := 1) rfl; replace r0_2 := r0.cell (i := 2) rfl; replace r0_f0 := r0.free 0; replace r0_f1 := r0.free 1; replace r0_f2 := r0.free 2; replace r0_lt := r0.lt
  replace hE0 := Ext.trans hE0 hE2
  have hsz2 := hE2.size
  clear hE2
  go_wp2_with fail
  (with_reducible refine (qsize_any K (by omega) w2 b' a' a2' n' c' n2' c2' d' zss' (h'.ext hE0) (by omega) hrowb' m' hm').mono ?_)
  rintro e w4 ⟨rfl, hE4⟩
  replace p0 := p0.ext hE4; replace p0_0 := p0.cell (i := 0) rfl; replace p0_1 := p0.cell (i := 1) rfl; replace p0_2 := p0.cell (i := 2) rfl; replace p0_f0 := p0.free 0; replace p0_f1 := p0.free 1; replace p0_f2 := p0.free 2; replace p0_lt := p0.lt; replace p1 := p1.ext hE4; replace p1_0 := p1.cell (i := 0) rfl; replace p1_1 := p1.cell (i := 1) rfl; replace p1_2 := p1.cell (i := 2) rfl; replace p1_f0 := p1.free 0; replace p1_f1 := p1.free 1; replace p1_f2 := p1.free 2; replace p1_lt := p1.lt; replace po := po.ext hE4; replace po_0 := po.cell (i := 0) rfl; replace r0 := r0.ext hE4; replace r0_0 := r0.cell (i := 0) rfl; replace r0_1 := r0.cell (i := 1) rfl; replace r0_2 := r0.cell (i := 2) rfl; replace r0_f0 := r0.free 0; replace r0_f1 := r0.free 1; replace r0_f2 := r0.free 2; replace r0_lt := r0.lt
  replace hE0 := Ext.trans hE0 hE4
  have hsz4 := hE4.size
  clear hE4
  by_cases h1 : n2 = n2'
  · have t1 : ((n2 : Int) != (n2' : Int)) = false := by simp; omega
    have t2 : ((m : Int) != (m' : Int)) = true := by simp; omega
    clear hne h1
    have HF : Hid (RMatErr w 2 (.returned (.tuple #[.agg #[.bool false, .slice none 0 0, .slice none 0 0], .int .i64 2])) (((w4.setCell ⟨w.heap.size + 1 + 1 + 1, 0, none⟩ (.bool false)).setCell ⟨w.heap.size + 1 + 1 + 1, 1, none⟩ (.slice none 0 0)).setCell ⟨w.heap.size + 1 + 1 + 1, 2, none⟩ (.slice none 0 0))) := Lib.hid ⟨rfl, ext_set3 hE0 _ _ _ (by omega)⟩
    clear hE0 h h'
    have r02 : Blk ((((w4).setCell ⟨w.heap.size + 1 + 1 + 1, 0, none⟩ (.bool false)).setCell ⟨w.heap.size + 1 + 1 + 1, 1, none⟩ (.slice none 0 0)).setCell ⟨w.heap.size + 1 + 1 + 1, 2, none⟩ (.slice none 0 0)) _ _ #[.bool false, .slice none 0 0, .slice none 0 0] := (((r0).set 0 (.bool false)).set 1 (.slice none 0 0)).set 2 (.slice none 0 0)
    have hr00 := r02.cell (i := 0) rfl
    have hr01 := r02.cell (i := 1) rfl
    have hr02 := r02.cell (i := 2) rfl
    go_wp2_with fail
    exact bodyPost_ret (v := .tuple #[.agg #[.bool false, .slice none 0 0, .slice none 0 0], .int .i64 2]) (by simp [results, Tryz.results97, go_sem, hr00, hr01, hr02]) rfl HF.out
  · have t1 : ((n2 : Int) != (n2' : Int)) = true := by simp; omega
    clear hne h1
    have HF : Hid (RMatErr w 2 (.returned (.tuple #[.agg #[.bool false, .slice none 0 0, .slice none 0 0], .int .i64 2])) (((w4.setCell ⟨w.heap.size + 1 + 1 + 1, 0, none⟩ (.bool false)).setCell ⟨w.heap.size + 1 + 1 + 1, 1, none⟩ (.slice none 0 0)).setCell ⟨w.heap.size + 1 + 1 + 1, 2, none⟩ (.slice none 0 0))) := Lib.hid ⟨rfl, ext_set3 hE0 _ _ _ (by omega)⟩
    clear hE0 h h'
    have r02 : Blk ((((w4).setCell ⟨w.heap.size + 1 + 1 + 1, 0, none⟩ (.bool false)).setCell ⟨w.heap.size + 1 + 1 + 1, 1, none⟩ (.slice none 0 0)).setCell ⟨w.heap.size + 1 + 1 + 1, 2, none⟩ (.slice none 0 0)) _ _ #[.bool false, .slice none 0 0, .slice none 0 0] := (((r0).set 0 (.bool false)).set 1 (.slice none 0 0)).set 2 (.slice none 0 0)
    have hr00 := r02.cell (i := 0) rfl
    have hr01 := r02.cell (i := 1) rfl
    have hr02 := r02.cell (i := 2) rfl
    go_wp2_with fail
    exact bodyPost_ret (v := .tuple #[.agg #[.bool false, .slice none 0 0, .slice none 0 0], .int .i64 2]) (by simp [results, Tryz.results97, go_sem, hr00, hr01, hr02]) rfl HF.out

set_option maxRecDepth 100000 in
set_option maxHeartbeats 8000000 in
theorem qJoin_ok (fid : Nat) (op : Int → Int → Int)
(K : Nat) (hK : K + K + 1099511627776 ≤ 8796093022208) (w : World) (b : Bool) (a a2 : Option Addr) (n c n2 c2 : Nat) (d : Int) (zss : List (List Int)) (h : MatS K w b a n c a2 n2 c2 d zss) (b' : Bool) (a' a2' : Option Addr) (n' c' n2' c2' : Nat) (d' : Int) (zss' : List (List Int)) (h' : MatS K w b' a' n' c' a2' n2' c2' d' zss')
    (hop : Hid (OpB Tryz.prog fid op (K + K))) (henf : Hid (Enters Tryz.prog fid)) (s : Int) (hsz : s = 0) (hs : Hid (checksE [(d, zss), (d', zss')] = s)) (m : Nat) (hm : Hid (colsOf zss = m)) (hm' : Hid (colsOf zss' = m)) (hnn : n2 = n2') (hn2 : n2 ≤ 1099511627776) (hmm : m ≤ 1099511627776) (Z : List (List Int)) (hZ : Hid (tableZ (fun i j => op (entry zss i j * d') (entry zss' i j * d)) n2 m = Z)) : Calls Tryz.prog 97 #[.agg #[.bool b, .slice a n c, .slice a2 n2 c2], .agg #[.bool b', .slice a' n' c', .slice a2' n2' c2'], .func (.func fid) #[] #[]] w (RMatOk w (madeDen (d * d') Z) (madeRows (d * d') Z)) := by
  have hen : Enters Tryz.prog 131 := enters_mk Tryz.func131 (by kernel_rfl) rfl
  subst hsz
  subst hnn
  have hc0 := checksE_zero hs.out (d, zss) (by simp)
  have hc1 := checksE_zero hs.out (d', zss') (by simp)
  have hd0 : d ≠ 0 := hc0.1
  have hd1 : d' ≠ 0 := hc1.1
  have hrowm : Hid (∀ zs ∈ zss, zs.length = m) := Lib.hid (fun zs hz => by rw [← hm.out]; exact evenB_all hc0.2 zs hz)
  have hrowm' : Hid (∀ zs ∈ zss', zs.length = m) := Lib.hid (fun zs hz => by rw [← hm'.out]; exact evenB_all hc1.2 zs hz)
  have hrowb : Hid (∀ zs ∈ zss, zs.length ≤ 1099511627776) := Lib.hid (fun zs hz => by rw [hrowm.out zs hz]; omega)
  have hrowb' : Hid (∀ zs ∈ zss', zs.length ≤ 1099511627776) := Lib.hid (fun zs hz => by rw [hrowm'.out zs hz]; omega)
  clear hc0 hc1
  go_enter Tryz.func97, Tryz.ntmps97
  go_wp2_with fail
  have p0 := Blk.new w 28 #[.bool b, .slice a n c, .slice a2 n2 c2]
  have p1 := Blk.new (w.alloc (Obj.cells #[.bool b, .slice a n c, .slice a2 n2 c2] 28)) 28 #[.bool b', .slice a' n' c', .slice a2' n2 c2']
  replace p0 := p0.ext ((Below.refl _ _).alloc (Nat.le_refl _) (Obj.cells #[.bool b', .slice a' n' c', .slice a2' n2 c2'] 28))
  have po := Blk.new ((w.alloc (Obj.cells #[.bool b, .slice a n c, .slice a2 n2 c2] 28)).alloc (Obj.cells #[.bool b', .slice a' n' c', .slice a2' n2 c2'] 28)) 105 #[.func (.func fid) #[] #[]]
  replace p0 := p0.ext ((Below.refl _ _).alloc (Nat.le_refl _) (Obj.cells #[.func (.func fid) #[] #[]] 105))
  replace p1 := p1.ext ((Below.refl _ _).alloc (Nat.le_refl _) (Obj.cells #[.func (.func fid) #[] #[]] 105))
  have r0 := Blk.new (((w.alloc (Obj.cells #[.bool b, .slice a n c, .slice a2 n2 c2] 28)).alloc (Obj.cells #[.bool b', .slice a' n' c', .slice a2' n2 c2'] 28)).alloc (Obj.cells #[.func (.func fid) #[] #[]] 105)) 28 #[.bool false, .slice none 0 0, .slice none 0 0]
  replace p0 := p0.ext ((Below.refl _ _).alloc (Nat.le_refl _) (Obj.cells #[.bool false, .slice none 0 0, .slice none 0 0] 28))
  replace p1 := p1.ext ((Below.refl _ _).alloc (Nat.le_refl _) (Obj.cells #[.bool false, .slice none 0 0, .slice none 0 0] 28))
  replace po := po.ext ((Below.refl _ _).alloc (Nat.le_refl _) (Obj.cells #[.bool false, .slice none 0 0, .slice none 0 0] 28))
  have y := Blk.new ((((w.alloc (Obj.cells #[.bool b, .slice a n c, .slice a2 n2 c2] 28)).alloc (Obj.cells #[.bool b', .slice a' n' c', .slice a2' n2 c2'] 28)).alloc (Obj.cells #[.func (.func fid) #[] #[]] 105)).alloc (Obj.cells #[.bool false, .slice none 0 0, .slice none 0 0] 28)) 28 #[.bool b, .slice a n c, .slice a2 n2 c2, .bool b', .slice a' n' c', .slice a2' n2 c2']
  replace p0 := p0.ext ((Below.refl _ _).alloc (Nat.le_refl _) (Obj.cells #[.bool b, .slice a n c, .slice a2 n2 c2, .bool b', .slice a' n' c', .slice a2' n2 c2'] 28))
  replace p1 := p1.ext ((Below.refl _ _).alloc (Nat.le_refl _) (Obj.cells #[.bool b, .slice a n c, .slice a2 n2 c2, .bool b', .slice a' n' c', .slice a2' n2 c2'] 28))
  replace po := po.ext ((Below.refl _ _).alloc (Nat.le_refl _) (Obj.cells #[.bool b, .slice a n c, .slice a2 n2 c2, .bool b', .slice a' n' c', .slice a2' n2 c2'] 28))
  replace r0 := r0.ext ((Below.refl _ _).alloc (Nat.le_refl _) (Obj.cells #[.bool b, .slice a n c, .slice a2 n2 c2, .bool b', .slice a' n' c', .slice a2' n2 c2'] 28))
  have hEW : Ext w (((((w.alloc (Obj.cells #[.bool b, .slice a n c, .slice a2 n2 c2] 28)).alloc (Obj.cells #[.bool b', .slice a' n' c', .slice a2' n2 c2'] 28)).alloc (Obj.cells #[.func (.func fid) #[] #[]] 105)).alloc (Obj.cells #[.bool false, .slice none 0 0, .slice none 0 0] 28)).alloc (Obj.cells #[.bool b, .slice a n c, .slice a2 n2 c2, .bool b', .slice a' n' c', .slice a2' n2 c2'] 28)) := ((((((Below.refl _ w).alloc (by simp) _).alloc (by simp) _).alloc (by simp; omega) _).alloc (by simp; omega) _).alloc (by simp; omega) _)
  generalize hgW : ((((w.alloc (Obj.cells #[.bool b, .slice a n c, .slice a2 n2 c2] 28)).alloc (Obj.cells #[.bool b', .slice a' n' c', .slice a2' n2 c2'] 28)).alloc (Obj.cells #[.func (.func fid) #[] #[]] 105)).alloc (Obj.cells #[.bool false, .slice none 0 0, .slice none 0 0] 28)).alloc (Obj.cells #[.bool b, .slice a n c, .slice a2 n2 c2, .bool b', .slice a' n' c', .slice a2' n2 c2'] 28) = W at *
  clear hgW
  simp only [World.size_alloc] at p1 po r0 y
  have p0_ne_p1 : ¬ w.heap.size = w.heap.size + 1 := by omega
  have p0_ne_po : ¬ w.heap.size = w.heap.size + 1 + 1 := by omega
  have p0_ne_r0 : ¬ w.heap.size = w.heap.size + 1 + 1 + 1 := by omega
  have p0_ne_y : ¬ w.heap.size = w.heap.size + 1 + 1 + 1 + 1 := by omega
  have p1_ne_p0 : ¬ w.heap.size + 1 = w.heap.size := by omega
  have p1_ne_po : ¬ w.heap.size + 1 = w.heap.size + 1 + 1 := by omega
  have p1_ne_r0 : ¬ w.heap.size + 1 = w.heap.size + 1 + 1 + 1 := by omega
  have p1_ne_y : ¬ w.heap.size + 1 = w.heap.size + 1 + 1 + 1 + 1 := by omega
  have po_ne_p0 : ¬ w.heap.size + 1 + 1 = w.heap.size := by omega
  have po_ne_p1 : ¬ w.heap.size + 1 + 1 = w.heap.size + 1 := by omega
  have po_ne_r0 : ¬ w.heap.size + 1 + 1 = w.heap.size + 1 + 1 + 1 := by omega
  have po_ne_y : ¬ w.heap.size + 1 + 1 = w.heap.size + 1 + 1 + 1 + 1 := by omega
  have r0_ne_p0 : ¬ w.heap.size + 1 + 1 + 1 = w.heap.size := by omega
  have r0_ne_p1 : ¬ w.heap.size + 1 + 1 + 1 = w.heap.size + 1 := by omega
  have r0_ne_po : ¬ w.heap.size + 1 + 1 + 1 = w.heap.size + 1 + 1 := by omega
  have r0_ne_y : ¬ w.heap.size + 1 + 1 + 1 = w.heap.size + 1 + 1 + 1 + 1 := by omega
  have y_ne_p0 : ¬ w.heap.size + 1 + 1 + 1 + 1 = w.heap.size := by omega
  have y_ne_p1 : ¬ w.heap.size + 1 + 1 + 1 + 1 = w.heap.size + 1 := by omega
  have y_ne_po : ¬ w.heap.size + 1 + 1 + 1 + 1 = w.heap.size + 1 + 1 := by omega
  have y_ne_r0 : ¬ w.heap.size + 1 + 1 + 1 + 1 = w.heap.size + 1 + 1 + 1 := by omega
  replace p0_0 := p0.cell (i := 0) rfl
  replace p0_1 := p0.cell (i := 1) rfl
  replace p0_2 := p0.cell (i := 2) rfl
  replace p0_f0 := p0.free 0
  replace p0_f1 := p0.free 1
  replace p0_f2 := p0.free 2
  replace p0_lt := p0.lt
  replace p1_0 := p1.cell (i := 0) rfl
  replace p1_1 := p1.cell (i := 1) rfl
  replace p1_2 := p1.cell (i := 2) rfl
  replace p1_f0 := p1.free 0
  replace p1_f1 := p1.free 1
  replace p1_f2 := p1.free 2
  replace p1_lt := p1.lt
  replace po_0 := po.cell (i := 0) rfl
  replace r0_0 := r0.cell (i := 0) rfl
  replace r0_1 := r0.cell (i := 1) rfl
  replace r0_2 := r0.cell (i := 2) rfl
  replace r0_f0 := r0.free 0
  replace r0_f1 := r0.free 1
  replace r0_f2 := r0.free 2
  replace r0_lt := r0.lt
  replace y_0 := y.cell (i := 0) rfl
  replace y_1 := y.cell (i := 1) rfl
  replace y_2 := y.cell (i := 2) rfl
  replace y_3 := y.cell (i := 3) rfl
  replace y_4 := y.cell (i := 4) rfl
  replace y_5 := y.cell (i := 5) rfl
  (with_reducible refine (checks_any K (by omega) W (some ⟨w.heap.size + 1 + 1 + 1 + 1, 0, none⟩) 2 2 [(d, zss), (d', zss')] (sl_mat2 y (h.ext hEW) (h'.ext hEW)) 0 hs).mono ?_)
  rintro e w1 ⟨rfl, hE1⟩
  replace p0 := p0.ext hE1; replace p0_0 := p0.cell (i := 0) rfl; replace p0_1 := p0.cell (i := 1) rfl; replace p0_2 := p0.cell (i := 2) rfl; replace p0_f0 := p0.free 0; replace p0_f1 := p0.free 1; replace p0_f2 := p0.free 2; replace p0_lt := p0.lt; replace p1 := p1.ext hE1; replace p1_0 := p1.cell (i := 0) rfl; replace p1_1 := p1.cell (i := 1) rfl; replace p1_2 := p1.cell (i := 2) rfl; replace p1_f0 := p1.free 0; replace p1_f1 := p1.free 1; replace p1_f2 := p1.free 2; replace p1_lt := p1.lt; replace po := po.ext hE1; replace po_0 := po.cell (i := 0) rfl; replace r0 := r0.ext hE1; replace r0_0 := r0.cell (i := 0) rfl; replace r0_1 := r0.cell (i := 1) rfl; replace r0_2 := r0.cell (i := 2) rfl; replace r0_f0 := r0.free 0; replace r0_f1 := r0.free 1; replace r0_f2 := r0.free 2; replace r0_lt := r0.lt
  have hE0 := Ext.trans hEW hE1
  have hszW : w.heap.size + 1 + 1 + 1 + 1 < W.heap.size := y.lt
  have hsz1 := hE1.size
  clear y y_0 y_1 y_2 y_3 y_4 y_5 hEW hE1
  go_wp2_with fail
  (with_reducible refine (qsize_any K (by omega) w1 b a a2 n c n2 c2 d zss (h.ext hE0) (by omega) hrowb m hm).mono ?_)
  rintro e w2 ⟨rfl, hE2⟩
  replace p0 := p0.ext hE2; replace p0_0 := p0.cell (i := 0) rfl; replace p0_1 := p0.cell (i := 1) rfl; replace p0_2 := p0.cell (i := 2) rfl; replace p0_f0 := p0.free 0; replace p0_f1 := p0.free 1; replace p0_f2 := p0.free 2; replace p0_lt := p0.lt; replace p1 := p1.ext hE2; replace p1_0 := p1.cell (i := 0) rfl; replace p1_1 := p1.cell (i := 1) rfl; replace p1_2 := p1.cell (i := 2) rfl; replace p1_f0 := p1.free 0; replace p1_f1 := p1.free 1; replace p1_f2 := p1.free 2; replace p1_lt := p1.lt; replace po := po.ext hE2; replace po_0 := po.cell (i := 0) rfl; replace r0 := r0.ext hE2; replace r0_0 := r0.cell (i := 0) rfl; replace r0_1 := r0.cell (i := 1) rfl; replace r0_2 := r0.cell (i := 2) rfl; replace r0_f0 := r0.free 0; replace r0_f1 := r0.free 1; replace r0_f2 := r0.free 2; replace r0_lt := r0.lt
  replace hE0 := Ext.trans hE0 hE2
  have hsz2 := hE2.size
  clear hE2
  go_wp2_with fail
  (with_reducible refine (qsize_any K (by omega) w2 b' a' a2' n' c' n2 c2' d' zss' (h'.ext hE0) (by omega) hrowb' m hm').mono ?_)
  rintro e w4 ⟨rfl, hE4⟩
  replace p0 := p0.ext hE4; replace p0_0 := p0.cell (i := 0) rfl; replace p0_1 := p0.cell (i := 1) rfl; replace p0_2 := p0.cell (i := 2) rfl; replace p0_f0 := p0.free 0; replace p0_f1 := p0.free 1; replace p0_f2 := p0.free 2; replace p0_lt := p0.lt; replace p1 := p1.ext hE4; replace p1_0 := p1.cell (i := 0) rfl; replace p1_1 := p1.cell (i := 1) rfl; replace p1_2 := p1.cell (i := 2) rfl; replace p1_f0 := p1.free 0; replace p1_f1 := p1.free 1; replace p1_f2 := p1.free 2; replace p1_lt := p1.lt; replace po := po.ext hE4; replace po_0 := po.cell (i := 0) rfl; replace r0 := r0.ext hE4; replace r0_0 := r0.cell (i := 0) rfl; replace r0_1 := r0.cell (i := 1) rfl; replace r0_2 := r0.cell (i := 2) rfl; replace r0_f0 := r0.free 0; replace r0_f1 := r0.free 1; replace r0_f2 := r0.free 2; replace r0_lt := r0.lt
  replace hE0 := Ext.trans hE0 hE4
  have hsz4 := hE4.size
  clear hE4
  have hdd : d * d' ≠ 0 := Int.mul_ne_zero hd0 hd1
  obtain ⟨DD, hDD⟩ : ∃ D, d * d' = D := ⟨_, rfl⟩
  have HDD := Lib.hid hDD
  rw [hDD] at hdd ⊢
  obtain ⟨l0, h1, h2, h3, -⟩ := h.ext hE0
  obtain ⟨l0', h1', h2', h3', -⟩ := h'.ext hE0
  have H2 := Lib.hid h2
  have H2' := Lib.hid h2'
  clear hDD h2 h2'
  go_wp2_with fail
  (with_reducible refine (zmul_b b b' w4 a a' n c n' c' l0 l0' d d' h1 h1' h3 h3' (by omega) H2 H2' DD HDD).mono ?_)
  rintro e w5 ⟨sd, a5, n5, c5, rfl, h5, HV5, hn5, hE5⟩
  replace p0 := p0.ext hE5; replace p0_0 := p0.cell (i := 0) rfl; replace p0_1 := p0.cell (i := 1) rfl; replace p0_2 := p0.cell (i := 2) rfl; replace p0_f0 := p0.free 0; replace p0_f1 := p0.free 1; replace p0_f2 := p0.free 2; replace p0_lt := p0.lt; replace p1 := p1.ext hE5; replace p1_0 := p1.cell (i := 0) rfl; replace p1_1 := p1.cell (i := 1) rfl; replace p1_2 := p1.cell (i := 2) rfl; replace p1_f0 := p1.free 0; replace p1_f1 := p1.free 1; replace p1_f2 := p1.free 2; replace p1_lt := p1.lt; replace po := po.ext hE5; replace po_0 := po.cell (i := 0) rfl; replace r0 := r0.ext hE5; replace r0_0 := r0.cell (i := 0) rfl; replace r0_1 := r0.cell (i := 1) rfl; replace r0_2 := r0.cell (i := 2) rfl; replace r0_f0 := r0.free 0; replace r0_f1 := r0.free 1; replace r0_f2 := r0.free 2; replace r0_lt := r0.lt
  replace hE0 := Ext.trans hE0 hE5
  have hsz5 := hE5.size
  have HCO := Lib.hid (joined1_any K fid op hop.out henf.out (by omega) w5 b a a2 n c n2 c2 d zss (h.ext hE0) b' a' a2' n' c' n2 c2' d' zss' (h'.ext hE0) m hrowm hrowm' (w.heap.size + 1 + 1) w.heap.size (w.heap.size + 1) _ _ _ po p0 p1 n2 (Nat.le_refl _) (Nat.le_refl _) (by omega) (by omega) (by omega))
  clear h h' h1 h1' hE5
  go_wp2_with fail
  (with_reducible refine (table_any 131 #[.pointer (some ⟨w.heap.size + 1 + 1, 0, none⟩), .pointer (some ⟨w.heap.size, 0, none⟩), .pointer (some ⟨w.heap.size + 1, 0, none⟩)] n2 m _ w5 hen HCO (by omega) (by omega)).mono ?_)
  rintro e w6 ⟨a4, c4, rfl, h4, hE6⟩
  replace r0 := r0.ext hE6; replace r0_0 := r0.cell (i := 0) rfl; replace r0_1 := r0.cell (i := 1) rfl; replace r0_2 := r0.cell (i := 2) rfl; replace r0_f0 := r0.free 0; replace r0_f1 := r0.free 1; replace r0_f2 := r0.free 2; replace r0_lt := r0.lt
  rw [hZ.out] at h4
  clear HCO p0 p1 po p0_0 p0_1 p0_2 p0_f0 p0_f1 p0_f2 p0_lt p1_0 p1_1 p1_2 p1_f0 p1_f1 p1_f2 p1_lt po_0
  have hlenZ : ∀ row ∈ Z, row.length ≤ 1099511627776 := by
    intro row hrw
    rw [← hZ.out] at hrw
    rw [table_len _ _ _ row hrw]; omega
  obtain ⟨xss, hG, hxz⟩ := grid_of (rows_of_table h4 hE6) (by omega) hlenZ
  have HXZ := Lib.hid hxz
  have HG := Lib.hid hG
  replace h5 := h5.ext (Nat.zero_le _) hE6
  replace hE0 := Ext.trans hE0 hE6
  have hsz6 := hE6.size
  clear hxz hG h4 hE6 hlenZ hen
  go_wp2_with fail
  (with_reducible refine (made_any w6 sd a5 a4 n5 c5 n2 c4 _ xss h5 HG.out (by omega) DD HV5 hdd).mono ?_)
  rw [HXZ.out]
  rintro e w7 ⟨a7, n7, c7, a8, n8, c8, rfl, h7, h8, hE7⟩
  replace r0 := r0.ext hE7; replace r0_0 := r0.cell (i := 0) rfl; replace r0_1 := r0.cell (i := 1) rfl; replace r0_2 := r0.cell (i := 2) rfl; replace r0_f0 := r0.free 0; replace r0_f1 := r0.free 1; replace r0_f2 := r0.free 2; replace r0_lt := r0.lt
  have HF : Hid (RMatOk w (madeDen (d * d') Z) (madeRows (d * d') Z) (.returned (.tuple #[.agg #[.bool (decide (madeDen DD Z < 0)), .slice a7 n7 c7, .slice a8 n8 c8], .int .i64 0])) (((w7.setCell ⟨w.heap.size + 1 + 1 + 1, 0, none⟩ (.bool (decide (madeDen DD Z < 0)))).setCell ⟨w.heap.size + 1 + 1 + 1, 1, none⟩ (.slice a7 n7 c7)).setCell ⟨w.heap.size + 1 + 1 + 1, 2, none⟩ (.slice a8 n8 c8))) := Lib.hid (by rw [HDD.out]; exact RMatOk.box (w := w) (r := w.heap.size+1+1+1) (v0 := .bool (decide (madeDen DD Z < 0))) (v1 := .slice a7 n7 c7) (v2 := .slice a8 n8 c8) (by omega) (show w.heap.size+1+1+1 < w6.heap.size by omega) (Ext.trans hE0 hE7) h7 h8)
  clear h7 h8 hE0 hE7 h5
  generalize decide (madeDen DD Z < 0) = sg at *
  have r02 : Blk ((((w7).setCell ⟨w.heap.size + 1 + 1 + 1, 0, none⟩ (.bool sg)).setCell ⟨w.heap.size + 1 + 1 + 1, 1, none⟩ (.slice a7 n7 c7)).setCell ⟨w.heap.size + 1 + 1 + 1, 2, none⟩ (.slice a8 n8 c8)) _ _ #[.bool sg, .slice a7 n7 c7, .slice a8 n8 c8] := (((r0).set 0 (.bool sg)).set 1 (.slice a7 n7 c7)).set 2 (.slice a8 n8 c8)
  have hr00 := r02.cell (i := 0) rfl
  have hr01 := r02.cell (i := 1) rfl
  have hr02 := r02.cell (i := 2) rfl
  go_wp2_with fail
  exact bodyPost_ret (v := .tuple #[.agg #[.bool sg, .slice a7 n7 c7, .slice a8 n8 c8], .int .i64 0]) (by simp [results, Tryz.results97, go_sem, hr00, hr01, hr02]) rfl HF.out

theorem op_add (K : Nat) (hK : K + K + 1 ≤ 8796093022208) : OpB Tryz.prog 93 (fun x y => x + y) (K + K) := fun b b2 w a a2 n c n2 c2 l l2 z z2 h h2 hn hn2 hz hz2 =>
  (zadd_b b b2 w a a2 n c n2 c2 l l2 z z2 h h2 hn hn2 hK hz hz2 _ (Lib.hid rfl)).mono fun e w' ⟨s, a, n, c, g1, g2, g3, g4, g5⟩ => ⟨s, a, n, c, g1, g2, g3, by omega, g5⟩
end Go.Proofs.YtbhenelehhiakaaGreat
/-
  zint.Sub.
-/
namespace Go.Proofs.YtbhenelehhiakaaGreat
open Go.RowKit

theorem zintNeg_y (b : Bool) (B : Nat) (w : World) (a : Option Addr) (n c : Nat) (l : Nt) (z y : Int) (h : NatS B w a n c l) (hn : n ≤ 17592186044416) (hz : Hid (ival b l = z)) (hy : Hid (-z = y)) :
    Calls Tryz.prog 112 #[.agg #[.bool b, .slice a n c]] w (RInt w y) := by
  have := zintNeg_z b B w a n c l z h hn hz
  rwa [hy.out] at this

set_option maxHeartbeats 8000000 in
theorem zintSub_z (b b2 : Bool) (B : Nat) (w : World) (a a2 : Option Addr) (n c n2 c2 : Nat) (l l2 : Nt) (z z2 : Int) (h : NatS B w a n c l) (h2 : NatS B w a2 n2 c2 l2) (hn : n ≤ 8796093022208) (hn2 : n2 ≤ 8796093022208) (hz : Hid (ival b l = z)) (hz2 : Hid (ival b2 l2 = z2)) :
    Calls Tryz.prog 98 #[.agg #[.bool b, .slice a n c], .agg #[.bool b2, .slice a2 n2 c2]] w (RInt w (z - z2)) := by
  have hnz2 : nl z2.natAbs ≤ 8796093022208 := Nat.le_trans (nl_of h2 hz2) hn2
  rw [← Int.natAbs_neg] at hnz2
  obtain ⟨y, hy⟩ : ∃ y, -z2 = y := ⟨_, rfl⟩
  have HY := Lib.hid hy
  rw [hy] at hnz2
  clear hy
  go_enter Tryz.func98, Tryz.ntmps98
  go_wp2_with fail
  have p0 := Blk.new w 25 #[.bool b, .slice a n c]
  have p1 := Blk.new (w.alloc (Obj.cells #[.bool b, .slice a n c] 25)) 25 #[.bool b2, .slice a2 n2 c2]
  replace p0 := p0.ext ((Below.refl _ _).alloc (Nat.le_refl _) (Obj.cells #[.bool b2, .slice a2 n2 c2] 25))
  have r := Blk.new ((w.alloc (Obj.cells #[.bool b, .slice a n c] 25)).alloc (Obj.cells #[.bool b2, .slice a2 n2 c2] 25)) 25 #[.bool false, .slice none 0 0]
  replace p0 := p0.ext ((Below.refl _ _).alloc (Nat.le_refl _) (Obj.cells #[.bool false, .slice none 0 0] 25))
  replace p1 := p1.ext ((Below.refl _ _).alloc (Nat.le_refl _) (Obj.cells #[.bool false, .slice none 0 0] 25))
  have hEW : Ext w (((w.alloc (Obj.cells #[.bool b, .slice a n c] 25)).alloc (Obj.cells #[.bool b2, .slice a2 n2 c2] 25)).alloc (Obj.cells #[.bool false, .slice none 0 0] 25)) := ((((Below.refl _ w).alloc (by simp) _).alloc (by simp) _).alloc (by simp; omega) _)
  generalize hgW : ((w.alloc (Obj.cells #[.bool b, .slice a n c] 25)).alloc (Obj.cells #[.bool b2, .slice a2 n2 c2] 25)).alloc (Obj.cells #[.bool false, .slice none 0 0] 25) = W at *
  clear hgW
  simp only [World.size_alloc] at p1 r
  have p0_ne_p1 : ¬ w.heap.size = w.heap.size + 1 := by omega
  have p0_ne_r : ¬ w.heap.size = w.heap.size + 1 + 1 := by omega
  have p1_ne_p0 : ¬ w.heap.size + 1 = w.heap.size := by omega
  have p1_ne_r : ¬ w.heap.size + 1 = w.heap.size + 1 + 1 := by omega
  have r_ne_p0 : ¬ w.heap.size + 1 + 1 = w.heap.size := by omega
  have r_ne_p1 : ¬ w.heap.size + 1 + 1 = w.heap.size + 1 := by omega
  replace p0_0 := p0.cell (i := 0) rfl
  replace p0_1 := p0.cell (i := 1) rfl
  replace p1_0 := p1.cell (i := 0) rfl
  replace p1_1 := p1.cell (i := 1) rfl
  replace r_0 := r.cell (i := 0) rfl
  replace r_1 := r.cell (i := 1) rfl
  replace r_f0 := r.free 0
  replace r_f1 := r.free 1
  replace r_lt := r.lt
  have hW : w.heap.size + 1 + 1 + 1 ≤ W.heap.size := r_lt
  have hd : Ext W W.drew := (Below.refl _ _).drew
  replace p0 := p0.ext hd; replace p0_0 := p0.cell (i := 0) rfl; replace p0_1 := p0.cell (i := 1) rfl; replace p1 := p1.ext hd; replace p1_0 := p1.cell (i := 0) rfl; replace p1_1 := p1.cell (i := 1) rfl; replace r := r.ext hd; replace r_0 := r.cell (i := 0) rfl; replace r_1 := r.cell (i := 1) rfl; replace r_f0 := r.free 0; replace r_f1 := r.free 1; replace r_lt := r.lt
  have h1 := Sl.zero ((h.ext (Nat.le_refl _) hEW).ext (Nat.le_refl _) hd)
  have h5 := Sl.zero ((h2.ext (Nat.le_refl _) hEW).ext (Nat.le_refl _) hd)
  have hE0 := Ext.trans hEW hd
  have hsz := hd.size
  clear h h2
  go_region_held3 (fun w' => w'.cell? ⟨w.heap.size, 0, none⟩ = some (.bool b) ∧ w'.cell? ⟨w.heap.size, 1, none⟩ = some (.slice a n c) ∧ w'.cell? ⟨w.heap.size + 1, 0, none⟩ = some (.bool b2) ∧ w'.cell? ⟨w.heap.size + 1, 1, none⟩ = some (.slice a2 n2 c2)) (first | exact ⟨p0_0, p0_1, p1_0, p1_1⟩ | go_keep)
    (first | (go_at_call 112; (with_reducible refine (zintNeg_y b2 _ _ _ _ _ _ z2 y h5 (by omega) hz2 HY).mono ?_); rintro e w1 ⟨a3, n3, c3, rfl, h3, hE1⟩; replace p0 := p0.ext hE1; replace p0_0 := p0.cell (i := 0) rfl; replace p0_1 := p0.cell (i := 1) rfl; replace p1 := p1.ext hE1; replace p1_0 := p1.cell (i := 0) rfl; replace p1_1 := p1.cell (i := 1) rfl; replace r := r.ext hE1; replace r_0 := r.cell (i := 0) rfl; replace r_1 := r.cell (i := 1) rfl; replace r_f0 := r.free 0; replace r_f1 := r.free 1; replace r_lt := r.lt; replace h1 := h1.ext (Nat.le_refl _) hE1; replace h5 := h5.ext (Nat.le_refl _) hE1; replace h3 := h3.mono hsz (Kept.refl _ _); replace hsz := Nat.le_trans hsz hE1.size; replace hE0 := Ext.trans hE0 hE1)
           | (go_at_call 93; (with_reducible refine (zintAdd_z b _ 0 _ _ _ _ _ _ _ _ _ z y h1 (Sl.zero h3) hn (by have := h3.len; rw [length_limbs] at this; omega) hz (hnorm _)).mono ?_); rintro e w1 ⟨a4, n4, c4, rfl, h4, hE1⟩; replace p0 := p0.ext hE1; replace p0_0 := p0.cell (i := 0) rfl; replace p0_1 := p0.cell (i := 1) rfl; replace p1 := p1.ext hE1; replace p1_0 := p1.cell (i := 0) rfl; replace p1_1 := p1.cell (i := 1) rfl; replace r := r.ext hE1; replace r_0 := r.cell (i := 0) rfl; replace r_1 := r.cell (i := 1) rfl; replace r_f0 := r.free 0; replace r_f1 := r.free 1; replace r_lt := r.lt; replace h1 := h1.ext (Nat.le_refl _) hE1; replace h5 := h5.ext (Nat.le_refl _) hE1; replace h3 := h3.ext (Nat.le_refl _) hE1; replace h4 := h4.mono hsz (Kept.refl _ _); replace hsz := Nat.le_trans hsz hE1.size; replace hE0 := Ext.trans hE0 hE1))
  have HF := Lib.hid (RInt.boxN (w := w) (r := w.heap.size + 1 + 1) (u1 := .bool (decide (z + y < 0))) (u2 := .slice a4 n4 c4) (by omega) (by omega) hE0 ⟨a4, n4, c4, rfl, h4⟩)
  rw [show z + y = z - z2 by rw [Int.sub_eq_add_neg, HY.out]] at HF ⊢
  clear h1 h5 h3 h4 hE0 hsz hE1 hEW hd
  generalize z - z2 = zz at *
  have r2 : Blk (((w1).setCell ⟨w.heap.size + 1 + 1, 0, none⟩ (.bool (decide (zz < 0)))).setCell ⟨w.heap.size + 1 + 1, 1, none⟩ (.slice a4 n4 c4)) _ _ #[.bool (decide (zz < 0)), .slice a4 n4 c4] := ((r).set 0 (.bool (decide (zz < 0)))).set 1 (.slice a4 n4 c4)
  have hr0 := r2.cell (i := 0) rfl
  have hr1 := r2.cell (i := 1) rfl
  go_wp2_with fail
  exact bodyPost_ret (v := .agg #[.bool (decide (zz < 0)), .slice a4 n4 c4]) (by simp [results, Tryz.results98, go_sem, hr0, hr1]) rfl HF.out

theorem zsub_b {K : Nat} (b b2 : Bool) (w : World) (a a2 : Option Addr) (n c n2 c2 : Nat) (l l2 : Nt) (z z2 : Int) (h : NatS 0 w a n c l) (h2 : NatS 0 w a2 n2 c2 l2) (hn : n ≤ K) (hn2 : n2 ≤ K) (hK : K + 1 ≤ 8796093022208) (hz : Hid (ival b l = z)) (hz2 : Hid (ival b2 l2 = z2)) (y : Int) (hy : Hid (z - z2 = y)) :
    Calls Tryz.prog 98 #[.agg #[.bool b, .slice a n c], .agg #[.bool b2, .slice a2 n2 c2]] w (RIntB (K + 1) w y) :=
  (zintSub_z b b2 0 w a a2 n c n2 c2 l l2 z z2 h h2 (by omega) (by omega) hz hz2).mono fun e w' hr => by
    rw [hy.out] at hr
    refine hr.b ?_
    rw [← hy.out, Int.sub_eq_add_neg]
    have g2 := nl_addI z (-z2)
    have g3 := nl_of h hz
    have g4 := nl_of h2 hz2
    rw [Int.natAbs_neg] at g2
    omega
theorem op_sub (K : Nat) (hK : K + K + 1 ≤ 8796093022208) : OpB Tryz.prog 98 (fun x y => x - y) (K + K) := fun b b2 w a a2 n c n2 c2 l l2 z z2 h h2 hn hn2 hz hz2 =>
  (zsub_b b b2 w a a2 n c n2 c2 l l2 z z2 h h2 hn hn2 hK hz hz2 _ (Lib.hid rfl)).mono fun e w' ⟨s, a, n, c, g1, g2, g3, g4, g5⟩ => ⟨s, a, n, c, g1, g2, g3, by omega, g5⟩
end Go.Proofs.YtbhenelehhiakaaGreat
