/-
  qmat: Kronecker.
-/
import Derived.Test.YtbhenelehhiakaaGreatProd37
import Derived.Test.YtbhenelehhiakaaGreatProd35
set_option linter.unusedVariables false
set_option linter.unusedSimpArgs false
namespace Go.Proofs.YtbhenelehhiakaaGreat
open Go.RowKit

set_option maxRecDepth 100000 in
set_option maxHeartbeats 8000000 in
theorem qKron_err
(K : Nat) (hK : K + K + 1099511627776 ≤ 8796093022208) (w : World) (b : Bool) (a a2 : Option Addr) (n c n2 c2 : Nat) (d : Int) (zss : List (List Int)) (h : MatS K w b a n c a2 n2 c2 d zss) (b' : Bool) (a' a2' : Option Addr) (n' c' n2' c2' : Nat) (d' : Int) (zss' : List (List Int)) (h' : MatS K w b' a' n' c' a2' n2' c2' d' zss')
    (s : Int) (hs : Hid (checksE [(d, zss), (d', zss')] = s)) (h0 : s ≠ 0) : Calls Tryz.prog 39 #[.agg #[.bool b, .slice a n c, .slice a2 n2 c2], .agg #[.bool b', .slice a' n' c', .slice a2' n2' c2']] w (RMatErr w s) := by
  have hs0 : (s != 0) = true := by simpa using h0
  go_enter Tryz.func39, Tryz.ntmps39
  go_wp2_with fail
  have p0 := Blk.new w 28 #[.bool b, .slice a n c, .slice a2 n2 c2]
  have p1 := Blk.new (w.alloc (Obj.cells #[.bool b, .slice a n c, .slice a2 n2 c2] 28)) 28 #[.bool b', .slice a' n' c', .slice a2' n2' c2']
  replace p0 := p0.ext ((Below.refl _ _).alloc (Nat.le_refl _) (Obj.cells #[.bool b', .slice a' n' c', .slice a2' n2' c2'] 28))
  have r0 := Blk.new ((w.alloc (Obj.cells #[.bool b, .slice a n c, .slice a2 n2 c2] 28)).alloc (Obj.cells #[.bool b', .slice a' n' c', .slice a2' n2' c2'] 28)) 28 #[.bool false, .slice none 0 0, .slice none 0 0]
  replace p0 := p0.ext ((Below.refl _ _).alloc (Nat.le_refl _) (Obj.cells #[.bool false, .slice none 0 0, .slice none 0 0] 28))
  replace p1 := p1.ext ((Below.refl _ _).alloc (Nat.le_refl _) (Obj.cells #[.bool false, .slice none 0 0, .slice none 0 0] 28))
  have y := Blk.new (((w.alloc (Obj.cells #[.bool b, .slice a n c, .slice a2 n2 c2] 28)).alloc (Obj.cells #[.bool b', .slice a' n' c', .slice a2' n2' c2'] 28)).alloc (Obj.cells #[.bool false, .slice none 0 0, .slice none 0 0] 28)) 28 #[.bool b, .slice a n c, .slice a2 n2 c2, .bool b', .slice a' n' c', .slice a2' n2' c2']
  replace p0 := p0.ext ((Below.refl _ _).alloc (Nat.le_refl _) (Obj.cells #[.bool b, .slice a n c, .slice a2 n2 c2, .bool b', .slice a' n' c', .slice a2' n2' c2'] 28))
  replace p1 := p1.ext ((Below.refl _ _).alloc (Nat.le_refl _) (Obj.cells #[.bool b, .slice a n c, .slice a2 n2 c2, .bool b', .slice a' n' c', .slice a2' n2' c2'] 28))
  replace r0 := r0.ext ((Below.refl _ _).alloc (Nat.le_refl _) (Obj.cells #[.bool b, .slice a n c, .slice a2 n2 c2, .bool b', .slice a' n' c', .slice a2' n2' c2'] 28))
  have hEW : Ext w ((((w.alloc (Obj.cells #[.bool b, .slice a n c, .slice a2 n2 c2] 28)).alloc (Obj.cells #[.bool b', .slice a' n' c', .slice a2' n2' c2'] 28)).alloc (Obj.cells #[.bool false, .slice none 0 0, .slice none 0 0] 28)).alloc (Obj.cells #[.bool b, .slice a n c, .slice a2 n2 c2, .bool b', .slice a' n' c', .slice a2' n2' c2'] 28)) := (((((Below.refl _ w).alloc (by simp) _).alloc (by simp) _).alloc (by simp; omega) _).alloc (by simp; omega) _)
  generalize hgW : (((w.alloc (Obj.cells #[.bool b, .slice a n c, .slice a2 n2 c2] 28)).alloc (Obj.cells #[.bool b', .slice a' n' c', .slice a2' n2' c2'] 28)).alloc (Obj.cells #[.bool false, .slice none 0 0, .slice none 0 0] 28)).alloc (Obj.cells #[.bool b, .slice a n c, .slice a2 n2 c2, .bool b', .slice a' n' c', .slice a2' n2' c2'] 28) = W at *
  clear hgW
  simp only [World.size_alloc] at p1 r0 y
  have p0_ne_p1 : ¬ w.heap.size = w.heap.size + 1 := by omega
  have p0_ne_r0 : ¬ w.heap.size = w.heap.size + 1 + 1 := by omega
  have p0_ne_y : ¬ w.heap.size = w.heap.size + 1 + 1 + 1 := by omega
  have p1_ne_p0 : ¬ w.heap.size + 1 = w.heap.size := by omega
  have p1_ne_r0 : ¬ w.heap.size + 1 = w.heap.size + 1 + 1 := by omega
  have p1_ne_y : ¬ w.heap.size + 1 = w.heap.size + 1 + 1 + 1 := by omega
  have r0_ne_p0 : ¬ w.heap.size + 1 + 1 = w.heap.size := by omega
  have r0_ne_p1 : ¬ w.heap.size + 1 + 1 = w.heap.size + 1 := by omega
  have r0_ne_y : ¬ w.heap.size + 1 + 1 = w.heap.size + 1 + 1 + 1 := by omega
  have y_ne_p0 : ¬ w.heap.size + 1 + 1 + 1 = w.heap.size := by omega
  have y_ne_p1 : ¬ w.heap.size + 1 + 1 + 1 = w.heap.size + 1 := by omega
  have y_ne_r0 : ¬ w.heap.size + 1 + 1 + 1 = w.heap.size + 1 + 1 := by omega
  replace p0_0 := p0.cell (i := 0) rfl
  replace p0_1 := p0.cell (i := 1) rfl
  replace p0_2 := p0.cell (i := 2) rfl
  replace p0_f0 := p0.free 0
  replace p0_f1 := p0.free 1
  replace p0_f2 := p0.free 2
  replace p0_lt := p0.lt
  replace p1_0 := p1.cell (i := 0) rfl
  replace p1_1 := p1.cell (i := 1) rfl
  replace p1_2 := p1.cell (i := 2) rfl
  replace p1_f0 := p1.free 0
  replace p1_f1 := p1.free 1
  replace p1_f2 := p1.free 2
  replace p1_lt := p1.lt
  replace r0_0 := r0.cell (i := 0) rfl
  replace r0_1 := r0.cell (i := 1) rfl
  replace r0_2 := r0.cell (i := 2) rfl
  replace r0_f0 := r0.free 0
  replace r0_f1 := r0.free 1
  replace r0_f2 := r0.free 2
  replace r0_lt := r0.lt
  replace y_0 := y.cell (i := 0) rfl
  replace y_1 := y.cell (i := 1) rfl
  replace y_2 := y.cell (i := 2) rfl
  replace y_3 := y.cell (i := 3) rfl
  replace y_4 := y.cell (i := 4) rfl
  replace y_5 := y.cell (i := 5) rfl
  (with_reducible refine (checks_any K (by omega) W (some ⟨w.heap.size + 1 + 1 + 1, 0, none⟩) 2 2 [(d, zss), (d', zss')] (sl_mat2 y (h.ext hEW) (h'.ext hEW)) s hs).mono ?_)
  rintro e w1 ⟨rfl, hE1⟩
  replace p0 := p0.ext hE1; replace p0_0 := p0.cell (i := 0) rfl; replace p0_1 := p0.cell (i := 1) rfl; replace p0_2 := p0.cell (i := 2) rfl; replace p0_f0 := p0.free 0; replace p0_f1 := p0.free 1; replace p0_f2 := p0.free 2; replace p0_lt := p0.lt; replace p1 := p1.ext hE1; replace p1_0 := p1.cell (i := 0) rfl; replace p1_1 := p1.cell (i := 1) rfl; replace p1_2 := p1.cell (i := 2) rfl; replace p1_f0 := p1.free 0; replace p1_f1 := p1.free 1; replace p1_f2 := p1.free 2; replace p1_lt := p1.lt; replace r0 := r0.ext hE1; replace r0_0 := r0.cell (i := 0) rfl; replace r0_1 := r0.cell (i := 1) rfl; replace r0_2 := r0.cell (i := 2) rfl; replace r0_f0 := r0.free 0; replace r0_f1 := r0.free 1; replace r0_f2 := r0.free 2; replace r0_lt := r0.lt
  have hE0 := Ext.trans hEW hE1
  have hszW : w.heap.size + 1 + 1 + 1 < W.heap.size := y.lt
  have hsz1 := hE1.size
  clear y y_0 y_1 y_2 y_3 y_4 y_5 hEW hE1
  have HF : Hid (RMatErr w s (.returned (.tuple #[.agg #[.bool false, .slice none 0 0, .slice none 0 0], .int .i64 s])) (((w1.setCell ⟨w.heap.size + 1 + 1, 0, none⟩ (.bool false)).setCell ⟨w.heap.size + 1 + 1, 1, none⟩ (.slice none 0 0)).setCell ⟨w.heap.size + 1 + 1, 2, none⟩ (.slice none 0 0))) := Lib.hid ⟨rfl, ext_set3 hE0 _ _ _ (by omega)⟩
  clear hE0 h h'
  have r02 : Blk ((((w1).setCell ⟨w.heap.size + 1 + 1, 0, none⟩ (.bool false)).setCell ⟨w.heap.size + 1 + 1, 1, none⟩ (.slice none 0 0)).setCell ⟨w.heap.size + 1 + 1, 2, none⟩ (.slice none 0 0)) _ _ #[.bool false, .slice none 0 0, .slice none 0 0] := (((r0).set 0 (.bool false)).set 1 (.slice none 0 0)).set 2 (.slice none 0 0)
  have hr00 := r02.cell (i := 0) rfl
  have hr01 := r02.cell (i := 1) rfl
  have hr02 := r02.cell (i := 2) rfl
  go_wp2_with fail
  exact bodyPost_ret (v := .tuple #[.agg #[.bool false, .slice none 0 0, .slice none 0 0], .int .i64 s]) (by simp [results, Tryz.results39, go_sem, hr00, hr01, hr02]) rfl HF.out

set_option maxRecDepth 100000 in
set_option maxHeartbeats 3000000 in
theorem qKron_big
(K : Nat) (hK : K + K + 1099511627776 ≤ 8796093022208) (w : World) (b : Bool) (a a2 : Option Addr) (n c n2 c2 : Nat) (d : Int) (zss : List (List Int)) (h : MatS K w b a n c a2 n2 c2 d zss) (b' : Bool) (a' a2' : Option Addr) (n' c' n2' c2' : Nat) (d' : Int) (zss' : List (List Int)) (h' : MatS K w b' a' n' c' a2' n2' c2' d' zss')
    (s : Int) (hsz : s = 0) (hs : Hid (checksE [(d, zss), (d', zss')] = s)) (m m' : Nat) (hm : Hid (colsOf zss = m)) (hm' : Hid (colsOf zss' = m')) (hn2 : n2 ≤ 1099511627776) (hn2' : n2' ≤ 1099511627776) (hmm : m ≤ 1099511627776) (hmm' : m' ≤ 1099511627776) (hbig : 1000 < n2 * n2' ∨ 1000 < m * m') : Calls Tryz.prog 39 #[.agg #[.bool b, .slice a n c, .slice a2 n2 c2], .agg #[.bool b', .slice a' n' c', .slice a2' n2' c2']] w (RMatErr w 4) := by
  subst hsz
  have hc0 := checksE_zero hs.out (d, zss) (by simp)
  have hc1 := checksE_zero hs.out (d', zss') (by simp)
  have hd0 : d ≠ 0 := hc0.1
  have hd1 : d' ≠ 0 := hc1.1
  have hrowm : Hid (∀ zs ∈ zss, zs.length = m) := Lib.hid (fun zs hz => by rw [← hm.out]; exact evenB_all hc0.2 zs hz)
  have hrowm' : Hid (∀ zs ∈ zss', zs.length = m') := Lib.hid (fun zs hz => by rw [← hm'.out]; exact evenB_all hc1.2 zs hz)
  have hrowb : Hid (∀ zs ∈ zss, zs.length ≤ 1099511627776) := Lib.hid (fun zs hz => by rw [hrowm.out zs hz]; omega)
  have hrowb' : Hid (∀ zs ∈ zss', zs.length ≤ 1099511627776) := Lib.hid (fun zs hz => by rw [hrowm'.out zs hz]; omega)
  clear hc0 hc1
  have e1 : (1000 : Int) / (n2' : Int) = ((1000 / n2' : Nat) : Int) := (Int.natCast_ediv ..).symm
  have e2 : (1000 : Int) / (m' : Int) = ((1000 / m' : Nat) : Int) := (Int.natCast_ediv ..).symm
  have f1 : (1000 : Int).tdiv (n2' : Int) = ((1000 / n2' : Nat) : Int) := by rw [Int.tdiv_eq_ediv_of_nonneg (by omega)]; exact e1
  have f2 : (1000 : Int).tdiv (m' : Int) = ((1000 / m' : Nat) : Int) := by rw [Int.tdiv_eq_ediv_of_nonneg (by omega)]; exact e2
  have u1 : 1000 / n2' ≤ 1000 := Nat.div_le_self _ _
  have u2 : 1000 / m' ≤ 1000 := Nat.div_le_self _ _
  have v1 : 0 < n2' → (n2 ≤ 1000 / n2' ↔ n2 * n2' ≤ 1000) := fun hp => Nat.le_div_iff_mul_le hp
  have v2 : 0 < m' → (m ≤ 1000 / m' ↔ m * m' ≤ 1000) := fun hp => Nat.le_div_iff_mul_le hp
  obtain ⟨i1, hi1⟩ : ∃ x, 1000 / n2' = x := ⟨_, rfl⟩
  obtain ⟨i2, hi2⟩ : ∃ x, 1000 / m' = x := ⟨_, rfl⟩
  rw [hi1] at e1 f1 u1 v1
  rw [hi2] at e2 f2 u2 v2
  have g1 : IntKind.i64.wrap (i1 : Int) = (i1 : Int) := IntWalk.i64_in _ (by omega)
  have g2 : IntKind.i64.wrap (i2 : Int) = (i2 : Int) := IntWalk.i64_in _ (by omega)
  clear hi1 hi2
  have hcase : (0 < n2' ∧ i1 < n2) ∨ (¬ 0 < n2' ∧ 0 < m' ∧ i2 < m) ∨ (0 < n2' ∧ ¬ i1 < n2 ∧ 0 < m' ∧ i2 < m) := by
    rcases Nat.eq_zero_or_pos n2' with h1 | h1
    · subst h1
      have h2 : 0 < m' := Nat.pos_of_ne_zero (fun e => by subst e; simp at hbig)
      have := v2 h2
      exact .inr (.inl ⟨by omega, h2, by omega⟩)
    · have g1 := v1 h1
      by_cases h3 : i1 < n2
      · exact .inl ⟨h1, h3⟩
      · have h2 : 0 < m' := Nat.pos_of_ne_zero (fun e => by subst e; simp at hbig; omega)
        have := v2 h2
        exact .inr (.inr ⟨h1, h3, h2, by omega⟩)
  clear v1 v2 hbig
  go_enter Tryz.func39, Tryz.ntmps39
  go_wp2_with fail
  have p0 := Blk.new w 28 #[.bool b, .slice a n c, .slice a2 n2 c2]
  have p1 := Blk.new (w.alloc (Obj.cells #[.bool b, .slice a n c, .slice a2 n2 c2] 28)) 28 #[.bool b', .slice a' n' c', .slice a2' n2' c2']
  replace p0 := p0.ext ((Below.refl _ _).alloc (Nat.le_refl _) (Obj.cells #[.bool b', .slice a' n' c', .slice a2' n2' c2'] 28))
  have r0 := Blk.new ((w.alloc (Obj.cells #[.bool b, .slice a n c, .slice a2 n2 c2] 28)).alloc (Obj.cells #[.bool b', .slice a' n' c', .slice a2' n2' c2'] 28)) 28 #[.bool false, .slice none 0 0, .slice none 0 0]
  replace p0 := p0.ext ((Below.refl _ _).alloc (Nat.le_refl _) (Obj.cells #[.bool false, .slice none 0 0, .slice none 0 0] 28))
  replace p1 := p1.ext ((Below.refl _ _).alloc (Nat.le_refl _) (Obj.cells #[.bool false, .slice none 0 0, .slice none 0 0] 28))
  have y := Blk.new (((w.alloc (Obj.cells #[.bool b, .slice a n c, .slice a2 n2 c2] 28)).alloc (Obj.cells #[.bool b', .slice a' n' c', .slice a2' n2' c2'] 28)).alloc (Obj.cells #[.bool false, .slice none 0 0, .slice none 0 0] 28)) 28 #[.bool b, .slice a n c, .slice a2 n2 c2, .bool b', .slice a' n' c', .slice a2' n2' c2']
  replace p0 := p0.ext ((Below.refl _ _).alloc (Nat.le_refl _) (Obj.cells #[.bool b, .slice a n c, .slice a2 n2 c2, .bool b', .slice a' n' c', .slice a2' n2' c2'] 28))
  replace p1 := p1.ext ((Below.refl _ _).alloc (Nat.le_refl _) (Obj.cells #[.bool b, .slice a n c, .slice a2 n2 c2, .bool b', .slice a' n' c', .slice a2' n2' c2'] 28))
  replace r0 := r0.ext ((Below.refl _ _).alloc (Nat.le_refl _) (Obj.cells #[.bool b, .slice a n c, .slice a2 n2 c2, .bool b', .slice a' n' c', .slice a2' n2' c2'] 28))
  have hEW : Ext w ((((w.alloc (Obj.cells #[.bool b, .slice a n c, .slice a2 n2 c2] 28)).alloc (Obj.cells #[.bool b', .slice a' n' c', .slice a2' n2' c2'] 28)).alloc (Obj.cells #[.bool false, .slice none 0 0, .slice none 0 0] 28)).alloc (Obj.cells #[.bool b, .slice a n c, .slice a2 n2 c2, .bool b', .slice a' n' c', .slice a2' n2' c2'] 28)) := (((((Below.refl _ w).alloc (by simp) _).alloc (by simp) _).alloc (by simp; omega) _).alloc (by simp; omega) _)
  generalize hgW : (((w.alloc (Obj.cells #[.bool b, .slice a n c, .slice a2 n2 c2] 28)).alloc (Obj.cells #[.bool b', .slice a' n' c', .slice a2' n2' c2'] 28)).alloc (Obj.cells #[.bool false, .slice none 0 0, .slice none 0 0] 28)).alloc (Obj.cells #[.bool b, .slice a n c, .slice a2 n2 c2, .bool b', .slice a' n' c', .slice a2' n2' c2'] 28) = W at *
  clear hgW
  simp only [World.size_alloc] at p1 r0 y
  have p0_ne_p1 : ¬ w.heap.size = w.heap.size + 1 := by omega
  have p0_ne_r0 : ¬ w.heap.size = w.heap.size + 1 + 1 := by omega
  have p0_ne_y : ¬ w.heap.size = w.heap.size + 1 + 1 + 1 := by omega
  have p1_ne_p0 : ¬ w.heap.size + 1 = w.heap.size := by omega
  have p1_ne_r0 : ¬ w.heap.size + 1 = w.heap.size + 1 + 1 := by omega
  have p1_ne_y : ¬ w.heap.size + 1 = w.heap.size + 1 + 1 + 1 := by omega
  have r0_ne_p0 : ¬ w.heap.size + 1 + 1 = w.heap.size := by omega
  have r0_ne_p1 : ¬ w.heap.size + 1 + 1 = w.heap.size + 1 := by omega
  have r0_ne_y : ¬ w.heap.size + 1 + 1 = w.heap.size + 1 + 1 + 1 := by omega
  have y_ne_p0 : ¬ w.heap.size + 1 + 1 + 1 = w.heap.size := by omega
  have y_ne_p1 : ¬ w.heap.size + 1 + 1 + 1 = w.heap.size + 1 := by omega
  have y_ne_r0 : ¬ w.heap.size + 1 + 1 + 1 = w.heap.size + 1 + 1 := by omega
  replace p0_0 := p0.cell (i := 0) rfl
  replace p0_1 := p0.cell (i := 1) rfl
  replace p0_2 := p0.cell (i := 2) rfl
  replace p0_f0 := p0.free 0
  replace p0_f1 := p0.free 1
  replace p0_f2 := p0.free 2
  replace p0_lt := p0.lt
  replace p1_0 := p1.cell (i := 0) rfl
  replace p1_1 := p1.cell (i := 1) rfl
  replace p1_2 := p1.cell (i := 2) rfl
  replace p1_f0 := p1.free 0
  replace p1_f1 := p1.free 1
  replace p1_f2 := p1.free 2
  replace p1_lt := p1.lt
  replace r0_0 := r0.cell (i := 0) rfl
  replace r0_1 := r0.cell (i := 1) rfl
  replace r0_2 := r0.cell (i := 2) rfl
  replace r0_f0 := r0.free 0
  replace r0_f1 := r0.free 1
  replace r0_f2 := r0.free 2
  replace r0_lt := r0.lt
  replace y_0 := y.cell (i := 0) rfl
  replace y_1 := y.cell (i := 1) rfl
  replace y_2 := y.cell (i := 2) rfl
  replace y_3 := y.cell (i := 3) rfl
  replace y_4 := y.cell (i := 4) rfl
  replace y_5 := y.cell (i := 5) rfl
  (with_reducible refine (checks_any K (by omega) W (some ⟨w.heap.size + 1 + 1 + 1, 0, none⟩) 2 2 [(d, zss), (d', zss')] (sl_mat2 y (h.ext hEW) (h'.ext hEW)) 0 hs).mono ?_)
  rintro e w1 ⟨rfl, hE1⟩
  replace p0 := p0.ext hE1; replace p0_0 := p0.cell (i := 0) rfl; replace p0_1 := p0.cell (i := 1) rfl; replace p0_2 := p0.cell (i := 2) rfl; replace p0_f0 := p0.free 0; replace p0_f1 := p0.free 1; replace p0_f2 := p0.free 2; replace p0_lt := p0.lt; replace p1 := p1.ext hE1; replace p1_0 := p1.cell (i := 0) rfl; replace p1_1 := p1.cell (i := 1) rfl; replace p1_2 := p1.cell (i := 2) rfl; replace p1_f0 := p1.free 0; replace p1_f1 := p1.free 1; replace p1_f2 := p1.free 2; replace p1_lt := p1.lt; replace r0 := r0.ext hE1; replace r0_0 := r0.cell (i := 0) rfl; replace r0_1 := r0.cell (i := 1) rfl; replace r0_2 := r0.cell (i := 2) rfl; replace r0_f0 := r0.free 0; replace r0_f1 := r0.free 1; replace r0_f2 := r0.free 2; replace r0_lt := r0.lt
  have hE0 := Ext.trans hEW hE1
  have hszW : w.heap.size + 1 + 1 + 1 < W.heap.size := y.lt
  have hsz1 := hE1.size
  clear y y_0 y_1 y_2 y_3 y_4 y_5 hEW hE1
  go_wp2_with fail
  (with_reducible refine (qsize_any K (by omega) w1 b a a2 n c n2 c2 d zss (h.ext hE0) (by omega) hrowb m hm).mono ?_)
  rintro e w2 ⟨rfl, hE2⟩
  replace p0 := p0.ext hE2; replace p0_0 := p0.cell (i := 0) rfl; replace p0_1 := p0.cell (i := 1) rfl; replace p0_2 := p0.cell (i := 2) rfl; replace p0_f0 := p0.free 0; replace p0_f1 := p0.free 1; replace p0_f2 := p0.free 2; replace p0_lt := p0.lt; replace p1 := p1.ext hE2; replace p1_0 := p1.cell (i := 0) rfl; replace p1_1 := p1.cell (i := 1) rfl; replace p1_2 := p1.cell (i := 2) rfl; replace p1_f0 := p1.free 0; replace p1_f1 := p1.free 1; replace p1_f2 := p1.free 2; replace p1_lt := p1.lt; replace r0 := r0.ext hE2; replace r0_0 := r0.cell (i := 0) rfl; replace r0_1 := r0.cell (i := 1) rfl; replace r0_2 := r0.cell (i := 2) rfl; replace r0_f0 := r0.free 0; replace r0_f1 := r0.free 1; replace r0_f2 := r0.free 2; replace r0_lt := r0.lt
  replace hE0 := Ext.trans hE0 hE2
  have hsz2 := hE2.size
  clear hE2
  go_wp2_with fail
  (with_reducible refine (qsize_any K (by omega) w2 b' a' a2' n' c' n2' c2' d' zss' (h'.ext hE0) (by omega) hrowb' m' hm').mono ?_)
  rintro e w4 ⟨rfl, hE4⟩
  replace p0 := p0.ext hE4; replace p0_0 := p0.cell (i := 0) rfl; replace p0_1 := p0.cell (i := 1) rfl; replace p0_2 := p0.cell (i := 2) rfl; replace p0_f0 := p0.free 0; replace p0_f1 := p0.free 1; replace p0_f2 := p0.free 2; replace p0_lt := p0.lt; replace p1 := p1.ext hE4; replace p1_0 := p1.cell (i := 0) rfl; replace p1_1 := p1.cell (i := 1) rfl; replace p1_2 := p1.cell (i := 2) rfl; replace p1_f0 := p1.free 0; replace p1_f1 := p1.free 1; replace p1_f2 := p1.free 2; replace p1_lt := p1.lt; replace r0 := r0.ext hE4; replace r0_0 := r0.cell (i := 0) rfl; replace r0_1 := r0.cell (i := 1) rfl; replace r0_2 := r0.cell (i := 2) rfl; replace r0_f0 := r0.free 0; replace r0_f1 := r0.free 1; replace r0_f2 := r0.free 2; replace r0_lt := r0.lt
  replace hE0 := Ext.trans hE0 hE4
  have hsz4 := hE4.size
  clear hE4
  go_upto_region 6 with (fail)
  have q := Blk.new w4 3 #[.int .i64 (n2' : Int)]
  have q2 := Blk.new (w4.alloc (Obj.cells #[.int .i64 (n2' : Int)] 3)) 3 #[.int .i64 (m' : Int)]
  replace q := q.ext ((Below.refl _ _).alloc (Nat.le_refl _) (Obj.cells #[.int .i64 (m' : Int)] 3))
  have hEW5 : Ext w4 ((w4.alloc (Obj.cells #[.int .i64 (n2' : Int)] 3)).alloc (Obj.cells #[.int .i64 (m' : Int)] 3)) := (((Below.refl _ w4).alloc (by simp) _).alloc (by simp) _)
  generalize hgW5 : (w4.alloc (Obj.cells #[.int .i64 (n2' : Int)] 3)).alloc (Obj.cells #[.int .i64 (m' : Int)] 3) = W5 at *
  clear hgW5
  simp only [World.size_alloc] at q2
  have q_ne_q2 : ¬ w4.heap.size = w4.heap.size + 1 := by omega
  have q2_ne_q : ¬ w4.heap.size + 1 = w4.heap.size := by omega
  replace q_0 := q.cell (i := 0) rfl
  replace q2_0 := q2.cell (i := 0) rfl
  replace p0 := p0.ext hEW5; replace p0_0 := p0.cell (i := 0) rfl; replace p0_1 := p0.cell (i := 1) rfl; replace p0_2 := p0.cell (i := 2) rfl; replace p0_f0 := p0.free 0; replace p0_f1 := p0.free 1; replace p0_f2 := p0.free 2; replace p0_lt := p0.lt; replace p1 := p1.ext hEW5; replace p1_0 := p1.cell (i := 0) rfl; replace p1_1 := p1.cell (i := 1) rfl; replace p1_2 := p1.cell (i := 2) rfl; replace p1_f0 := p1.free 0; replace p1_f1 := p1.free 1; replace p1_f2 := p1.free 2; replace p1_lt := p1.lt; replace r0 := r0.ext hEW5; replace r0_0 := r0.cell (i := 0) rfl; replace r0_1 := r0.cell (i := 1) rfl; replace r0_2 := r0.cell (i := 2) rfl; replace r0_f0 := r0.free 0; replace r0_f1 := r0.free 1; replace r0_f2 := r0.free 2; replace r0_lt := r0.lt
  replace hE0 := Ext.trans hE0 hEW5
  have hsz5 := hEW5.size
  rcases hcase with ⟨h1, h2⟩ | ⟨h1, h2, h3⟩ | ⟨h1, h2, h3, h4⟩
  · have z1 : ((n2' : Int) == 0) = false := by simp; omega
    have z3 : ¬ ((n2' : Int) = 0) := by omega
    have HF : Hid (RMatErr w 4 (.returned (.tuple #[.agg #[.bool false, .slice none 0 0, .slice none 0 0], .int .i64 4])) (((W5.setCell ⟨w.heap.size + 1 + 1, 0, none⟩ (.bool false)).setCell ⟨w.heap.size + 1 + 1, 1, none⟩ (.slice none 0 0)).setCell ⟨w.heap.size + 1 + 1, 2, none⟩ (.slice none 0 0))) := Lib.hid ⟨rfl, ext_set3 hE0 _ _ _ (by omega)⟩
    clear hE0 h h'
    have r02 : Blk ((((W5).setCell ⟨w.heap.size + 1 + 1, 0, none⟩ (.bool false)).setCell ⟨w.heap.size + 1 + 1, 1, none⟩ (.slice none 0 0)).setCell ⟨w.heap.size + 1 + 1, 2, none⟩ (.slice none 0 0)) _ _ #[.bool false, .slice none 0 0, .slice none 0 0] := (((r0).set 0 (.bool false)).set 1 (.slice none 0 0)).set 2 (.slice none 0 0)
    have hr00 := r02.cell (i := 0) rfl
    have hr01 := r02.cell (i := 1) rfl
    have hr02 := r02.cell (i := 2) rfl
    go_wp2_with fail
    exact bodyPost_ret (v := .tuple #[.agg #[.bool false, .slice none 0 0, .slice none 0 0], .int .i64 4]) (by simp [results, Tryz.results39, go_sem, hr00, hr01, hr02]) rfl HF.out
  · have z1 : ((m' : Int) == 0) = false := by simp; omega
    have z3 : ¬ ((m' : Int) = 0) := by omega
    have HF : Hid (RMatErr w 4 (.returned (.tuple #[.agg #[.bool false, .slice none 0 0, .slice none 0 0], .int .i64 4])) (((W5.setCell ⟨w.heap.size + 1 + 1, 0, none⟩ (.bool false)).setCell ⟨w.heap.size + 1 + 1, 1, none⟩ (.slice none 0 0)).setCell ⟨w.heap.size + 1 + 1, 2, none⟩ (.slice none 0 0))) := Lib.hid ⟨rfl, ext_set3 hE0 _ _ _ (by omega)⟩
    clear hE0 h h'
    have r02 : Blk ((((W5).setCell ⟨w.heap.size + 1 + 1, 0, none⟩ (.bool false)).setCell ⟨w.heap.size + 1 + 1, 1, none⟩ (.slice none 0 0)).setCell ⟨w.heap.size + 1 + 1, 2, none⟩ (.slice none 0 0)) _ _ #[.bool false, .slice none 0 0, .slice none 0 0] := (((r0).set 0 (.bool false)).set 1 (.slice none 0 0)).set 2 (.slice none 0 0)
    have hr00 := r02.cell (i := 0) rfl
    have hr01 := r02.cell (i := 1) rfl
    have hr02 := r02.cell (i := 2) rfl
    go_wp2_with fail
    exact bodyPost_ret (v := .tuple #[.agg #[.bool false, .slice none 0 0, .slice none 0 0], .int .i64 4]) (by simp [results, Tryz.results39, go_sem, hr00, hr01, hr02]) rfl HF.out
  · have z1 : ((n2' : Int) == 0) = false := by simp; omega
    have z3 : ¬ ((n2' : Int) = 0) := by omega
    have z2 : ((m' : Int) == 0) = false := by simp; omega
    have z4 : ¬ ((m' : Int) = 0) := by omega
    have HF : Hid (RMatErr w 4 (.returned (.tuple #[.agg #[.bool false, .slice none 0 0, .slice none 0 0], .int .i64 4])) (((W5.setCell ⟨w.heap.size + 1 + 1, 0, none⟩ (.bool false)).setCell ⟨w.heap.size + 1 + 1, 1, none⟩ (.slice none 0 0)).setCell ⟨w.heap.size + 1 + 1, 2, none⟩ (.slice none 0 0))) := Lib.hid ⟨rfl, ext_set3 hE0 _ _ _ (by omega)⟩
    clear hE0 h h'
    have r02 : Blk ((((W5).setCell ⟨w.heap.size + 1 + 1, 0, none⟩ (.bool false)).setCell ⟨w.heap.size + 1 + 1, 1, none⟩ (.slice none 0 0)).setCell ⟨w.heap.size + 1 + 1, 2, none⟩ (.slice none 0 0)) _ _ #[.bool false, .slice none 0 0, .slice none 0 0] := (((r0).set 0 (.bool false)).set 1 (.slice none 0 0)).set 2 (.slice none 0 0)
    have hr00 := r02.cell (i := 0) rfl
    have hr01 := r02.cell (i := 1) rfl
    have hr02 := r02.cell (i := 2) rfl
    go_wp2_with fail
    exact bodyPost_ret (v := .tuple #[.agg #[.bool false, .slice none 0 0, .slice none 0 0], .int .i64 4]) (by simp [results, Tryz.results39, go_sem, hr00, hr01, hr02]) rfl HF.out

set_option maxRecDepth 100000 in
set_option maxHeartbeats 8000000 in
theorem qKron_ok
(K : Nat) (hK : K + K + 1099511627776 ≤ 8796093022208) (w : World) (b : Bool) (a a2 : Option Addr) (n c n2 c2 : Nat) (d : Int) (zss : List (List Int)) (h : MatS K w b a n c a2 n2 c2 d zss) (b' : Bool) (a' a2' : Option Addr) (n' c' n2' c2' : Nat) (d' : Int) (zss' : List (List Int)) (h' : MatS K w b' a' n' c' a2' n2' c2' d' zss')
    (s : Int) (hsz : s = 0) (hs : Hid (checksE [(d, zss), (d', zss')] = s)) (m m' : Nat) (hm : Hid (colsOf zss = m)) (hm' : Hid (colsOf zss' = m')) (hn2 : n2 ≤ 1099511627776) (hn2' : n2' ≤ 1099511627776) (hmm : m ≤ 1099511627776) (hmm' : m' ≤ 1099511627776) (hN : n2 * n2' ≤ 1000) (hM : m * m' ≤ 1000) (Z : List (List Int)) (hZ : Hid (tableZ (kronZ zss zss' n2' m') (n2 * n2') (m * m') = Z)) : Calls Tryz.prog 39 #[.agg #[.bool b, .slice a n c, .slice a2 n2 c2], .agg #[.bool b', .slice a' n' c', .slice a2' n2' c2']] w (RMatOk w (madeDen (d * d') Z) (madeRows (d * d') Z)) := by
  have hen : Enters Tryz.prog 94 := enters_mk Tryz.func94 (by kernel_rfl) rfl
  subst hsz
  have hc0 := checksE_zero hs.out (d, zss) (by simp)
  have hc1 := checksE_zero hs.out (d', zss') (by simp)
  have hd0 : d ≠ 0 := hc0.1
  have hd1 : d' ≠ 0 := hc1.1
  have hrowm : Hid (∀ zs ∈ zss, zs.length = m) := Lib.hid (fun zs hz => by rw [← hm.out]; exact evenB_all hc0.2 zs hz)
  have hrowm' : Hid (∀ zs ∈ zss', zs.length = m') := Lib.hid (fun zs hz => by rw [← hm'.out]; exact evenB_all hc1.2 zs hz)
  have hrowb : Hid (∀ zs ∈ zss, zs.length ≤ 1099511627776) := Lib.hid (fun zs hz => by rw [hrowm.out zs hz]; omega)
  have hrowb' : Hid (∀ zs ∈ zss', zs.length ≤ 1099511627776) := Lib.hid (fun zs hz => by rw [hrowm'.out zs hz]; omega)
  clear hc0 hc1
  have e1 : (1000 : Int) / (n2' : Int) = ((1000 / n2' : Nat) : Int) := (Int.natCast_ediv ..).symm
  have e2 : (1000 : Int) / (m' : Int) = ((1000 / m' : Nat) : Int) := (Int.natCast_ediv ..).symm
  have f1 : (1000 : Int).tdiv (n2' : Int) = ((1000 / n2' : Nat) : Int) := by rw [Int.tdiv_eq_ediv_of_nonneg (by omega)]; exact e1
  have f2 : (1000 : Int).tdiv (m' : Int) = ((1000 / m' : Nat) : Int) := by rw [Int.tdiv_eq_ediv_of_nonneg (by omega)]; exact e2
  have u1 : 1000 / n2' ≤ 1000 := Nat.div_le_self _ _
  have u2 : 1000 / m' ≤ 1000 := Nat.div_le_self _ _
  have v1 : 0 < n2' → (n2 ≤ 1000 / n2' ↔ n2 * n2' ≤ 1000) := fun hp => Nat.le_div_iff_mul_le hp
  have v2 : 0 < m' → (m ≤ 1000 / m' ↔ m * m' ≤ 1000) := fun hp => Nat.le_div_iff_mul_le hp
  obtain ⟨i1, hi1⟩ : ∃ x, 1000 / n2' = x := ⟨_, rfl⟩
  obtain ⟨i2, hi2⟩ : ∃ x, 1000 / m' = x := ⟨_, rfl⟩
  rw [hi1] at e1 f1 u1 v1
  rw [hi2] at e2 f2 u2 v2
  have g1 : IntKind.i64.wrap (i1 : Int) = (i1 : Int) := IntWalk.i64_in _ (by omega)
  have g2 : IntKind.i64.wrap (i2 : Int) = (i2 : Int) := IntWalk.i64_in _ (by omega)
  clear hi1 hi2
  have k1 : 0 < n2' → ¬ i1 < n2 := fun hp => by have := (v1 hp).2 hN; omega
  have k2 : 0 < m' → ¬ i2 < m := fun hp => by have := (v2 hp).2 hM; omega
  have K1 := Lib.hid k1
  have K2 := Lib.hid k2
  have HN := Lib.hid hN
  have HM := Lib.hid hM
  obtain ⟨N, hNe⟩ : ∃ x, n2 * n2' = x := ⟨_, rfl⟩
  obtain ⟨M, hMe⟩ : ∃ x, m * m' = x := ⟨_, rfl⟩
  have hNi : (n2 : Int) * (n2' : Int) = (N : Int) := by rw [← hNe]; exact (Int.natCast_mul ..).symm
  have hMi : (m : Int) * (m' : Int) = (M : Int) := by rw [← hMe]; exact (Int.natCast_mul ..).symm
  rw [hNe] at hN hZ
  rw [hMe] at hM hZ
  have w1' : IntKind.i64.wrap (N : Int) = (N : Int) := IntWalk.i64_in _ (by omega)
  have w2' : IntKind.i64.wrap (M : Int) = (M : Int) := IntWalk.i64_in _ (by omega)
  have HNE := Lib.hid hNe
  have HME := Lib.hid hMe
  clear v1 v2 k1 k2 hNe hMe
  go_enter Tryz.func39, Tryz.ntmps39
  go_wp2_with fail
  have p0 := Blk.new w 28 #[.bool b, .slice a n c, .slice a2 n2 c2]
  have p1 := Blk.new (w.alloc (Obj.cells #[.bool b, .slice a n c, .slice a2 n2 c2] 28)) 28 #[.bool b', .slice a' n' c', .slice a2' n2' c2']
  replace p0 := p0.ext ((Below.refl _ _).alloc (Nat.le_refl _) (Obj.cells #[.bool b', .slice a' n' c', .slice a2' n2' c2'] 28))
  have r0 := Blk.new ((w.alloc (Obj.cells #[.bool b, .slice a n c, .slice a2 n2 c2] 28)).alloc (Obj.cells #[.bool b', .slice a' n' c', .slice a2' n2' c2'] 28)) 28 #[.bool false, .slice none 0 0, .slice none 0 0]
  replace p0 := p0.ext ((Below.refl _ _).alloc (Nat.le_refl _) (Obj.cells #[.bool false, .slice none 0 0, .slice none 0 0] 28))
  replace p1 := p1.ext ((Below.refl _ _).alloc (Nat.le_refl _) (Obj.cells #[.bool false, .slice none 0 0, .slice none 0 0] 28))
  have y := Blk.new (((w.alloc (Obj.cells #[.bool b, .slice a n c, .slice a2 n2 c2] 28)).alloc (Obj.cells #[.bool b', .slice a' n' c', .slice a2' n2' c2'] 28)).alloc (Obj.cells #[.bool false, .slice none 0 0, .slice none 0 0] 28)) 28 #[.bool b, .slice a n c, .slice a2 n2 c2, .bool b', .slice a' n' c', .slice a2' n2' c2']
  replace p0 := p0.ext ((Below.refl _ _).alloc (Nat.le_refl _) (Obj.cells #[.bool b, .slice a n c, .slice a2 n2 c2, .bool b', .slice a' n' c', .slice a2' n2' c2'] 28))
  replace p1 := p1.ext ((Below.refl _ _).alloc (Nat.le_refl _) (Obj.cells #[.bool b, .slice a n c, .slice a2 n2 c2, .bool b', .slice a' n' c', .slice a2' n2' c2'] 28))
  replace r0 := r0.ext ((Below.refl _ _).alloc (Nat.le_refl _) (Obj.cells #[.bool b, .slice a n c, .slice a2 n2 c2, .bool b', .slice a' n' c', .slice a2' n2' c2'] 28))
  have hEW : Ext w ((((w.alloc (Obj.cells #[.bool b, .slice a n c, .slice a2 n2 c2] 28)).alloc (Obj.cells #[.bool b', .slice a' n' c', .slice a2' n2' c2'] 28)).alloc (Obj.cells #[.bool false, .slice none 0 0, .slice none 0 0] 28)).alloc (Obj.cells #[.bool b, .slice a n c, .slice a2 n2 c2, .bool b', .slice a' n' c', .slice a2' n2' c2'] 28)) := (((((Below.refl _ w).alloc (by simp) _).alloc (by simp) _).alloc (by simp; omega) _).alloc (by simp; omega) _)
  generalize hgW : (((w.alloc (Obj.cells #[.bool b, .slice a n c, .slice a2 n2 c2] 28)).alloc (Obj.cells #[.bool b', .slice a' n' c', .slice a2' n2' c2'] 28)).alloc (Obj.cells #[.bool false, .slice none 0 0, .slice none 0 0] 28)).alloc (Obj.cells #[.bool b, .slice a n c, .slice a2 n2 c2, .bool b', .slice a' n' c', .slice a2' n2' c2'] 28) = W at *
  clear hgW
  simp only [World.size_alloc] at p1 r0 y
  have p0_ne_p1 : ¬ w.heap.size = w.heap.size + 1 := by omega
  have p0_ne_r0 : ¬ w.heap.size = w.heap.size + 1 + 1 := by omega
  have p0_ne_y : ¬ w.heap.size = w.heap.size + 1 + 1 + 1 := by omega
  have p1_ne_p0 : ¬ w.heap.size + 1 = w.heap.size := by omega
  have p1_ne_r0 : ¬ w.heap.size + 1 = w.heap.size + 1 + 1 := by omega
  have p1_ne_y : ¬ w.heap.size + 1 = w.heap.size + 1 + 1 + 1 := by omega
  have r0_ne_p0 : ¬ w.heap.size + 1 + 1 = w.heap.size := by omega
  have r0_ne_p1 : ¬ w.heap.size + 1 + 1 = w.heap.size + 1 := by omega
  have r0_ne_y : ¬ w.heap.size + 1 + 1 = w.heap.size + 1 + 1 + 1 := by omega
  have y_ne_p0 : ¬ w.heap.size + 1 + 1 + 1 = w.heap.size := by omega
  have y_ne_p1 : ¬ w.heap.size + 1 + 1 + 1 = w.heap.size + 1 := by omega
  have y_ne_r0 : ¬ w.heap.size + 1 + 1 + 1 = w.heap.size + 1 + 1 := by omega
  replace p0_0 := p0.cell (i := 0) rfl
  replace p0_1 := p0.cell (i := 1) rfl
  replace p0_2 := p0.cell (i := 2) rfl
  replace p0_f0 := p0.free 0
  replace p0_f1 := p0.free 1
  replace p0_f2 := p0.free 2
  replace p0_lt := p0.lt
  replace p1_0 := p1.cell (i := 0) rfl
  replace p1_1 := p1.cell (i := 1) rfl
  replace p1_2 := p1.cell (i := 2) rfl
  replace p1_f0 := p1.free 0
  replace p1_f1 := p1.free 1
  replace p1_f2 := p1.free 2
  replace p1_lt := p1.lt
  replace r0_0 := r0.cell (i := 0) rfl
  replace r0_1 := r0.cell (i := 1) rfl
  replace r0_2 := r0.cell (i := 2) rfl
  replace r0_f0 := r0.free 0
  replace r0_f1 := r0.free 1
  replace r0_f2 := r0.free 2
  replace r0_lt := r0.lt
  replace y_0 := y.cell (i := 0) rfl
  replace y_1 := y.cell (i := 1) rfl
  replace y_2 := y.cell (i := 2) rfl
  replace y_3 := y.cell (i := 3) rfl
  replace y_4 := y.cell (i := 4) rfl
  replace y_5 := y.cell (i := 5) rfl
  (with_reducible refine (checks_any K (by omega) W (some ⟨w.heap.size + 1 + 1 + 1, 0, none⟩) 2 2 [(d, zss), (d', zss')] (sl_mat2 y (h.ext hEW) (h'.ext hEW)) 0 hs).mono ?_)
  rintro e w1 ⟨rfl, hE1⟩
  replace p0 := p0.ext hE1; replace p0_0 := p0.cell (i := 0) rfl; replace p0_1 := p0.cell (i := 1) rfl; replace p0_2 := p0.cell (i := 2) rfl; replace p0_f0 := p0.free 0; replace p0_f1 := p0.free 1; replace p0_f2 := p0.free 2; replace p0_lt := p0.lt; replace p1 := p1.ext hE1; replace p1_0 := p1.cell (i := 0) rfl; replace p1_1 := p1.cell (i := 1) rfl; replace p1_2 := p1.cell (i := 2) rfl; replace p1_f0 := p1.free 0; replace p1_f1 := p1.free 1; replace p1_f2 := p1.free 2; replace p1_lt := p1.lt; replace r0 := r0.ext hE1; replace r0_0 := r0.cell (i := 0) rfl; replace r0_1 := r0.cell (i := 1) rfl; replace r0_2 := r0.cell (i := 2) rfl; replace r0_f0 := r0.free 0; replace r0_f1 := r0.free 1; replace r0_f2 := r0.free 2; replace r0_lt := r0.lt
  have hE0 := Ext.trans hEW hE1
  have hszW : w.heap.size + 1 + 1 + 1 < W.heap.size := y.lt
  have hsz1 := hE1.size
  clear y y_0 y_1 y_2 y_3 y_4 y_5 hEW hE1
  go_wp2_with fail
  (with_reducible refine (qsize_any K (by omega) w1 b a a2 n c n2 c2 d zss (h.ext hE0) (by omega) hrowb m hm).mono ?_)
  rintro e w2 ⟨rfl, hE2⟩
  replace p0 := p0.ext hE2; replace p0_0 := p0.cell (i := 0) rfl; replace p0_1 := p0.cell (i := 1) rfl; replace p0_2 := p0.cell (i := 2) rfl; replace p0_f0 := p0.free 0; replace p0_f1 := p0.free 1; replace p0_f2 := p0.free 2; replace p0_lt := p0.lt; replace p1 := p1.ext hE2; replace p1_0 := p1.cell (i := 0) rfl; replace p1_1 := p1.cell (i := 1) rfl; replace p1_2 := p1.cell (i := 2) rfl; replace p1_f0 := p1.free 0; replace p1_f1 := p1.free 1; replace p1_f2 := p1.free 2; replace p1_lt := p1.lt; replace r0 := r0.ext hE2; replace r0_0 := r0.cell (i := 0) rfl; replace r0_1 := r0.cell (i := 1) rfl; replace r0_2 := r0.cell (i := 2) rfl; replace r0_f0 := r0.free 0; replace r0_f1 := r0.free 1; replace r0_f2 := r0.free 2; replace r0_lt := r0.lt
  replace hE0 := Ext.trans hE0 hE2
  have hsz2 := hE2.size
  clear hE2
  go_wp2_with fail
  (with_reducible refine (qsize_any K (by omega) w2 b' a' a2' n' c' n2' c2' d' zss' (h'.ext hE0) (by omega) hrowb' m' hm').mono ?_)
  rintro e w4 ⟨rfl, hE4⟩
  replace p0 := p0.ext hE4; replace p0_0 := p0.cell (i := 0) rfl; replace p0_1 := p0.cell (i := 1) rfl; replace p0_2 := p0.cell (i := 2) rfl; replace p0_f0 := p0.free 0; replace p0_f1 := p0.free 1; replace p0_f2 := p0.free 2; replace p0_lt := p0.lt; replace p1 := p1.ext hE4; replace p1_0 := p1.cell (i := 0) rfl; replace p1_1 := p1.cell (i := 1) rfl; replace p1_2 := p1.cell (i := 2) rfl; replace p1_f0 := p1.free 0; replace p1_f1 := p1.free 1; replace p1_f2 := p1.free 2; replace p1_lt := p1.lt; replace r0 := r0.ext hE4; replace r0_0 := r0.cell (i := 0) rfl; replace r0_1 := r0.cell (i := 1) rfl; replace r0_2 := r0.cell (i := 2) rfl; replace r0_f0 := r0.free 0; replace r0_f1 := r0.free 1; replace r0_f2 := r0.free 2; replace r0_lt := r0.lt
  replace hE0 := Ext.trans hE0 hE4
  have hsz4 := hE4.size
  clear hE4
  go_upto_region 6 with (fail)
  have q := Blk.new w4 3 #[.int .i64 (n2' : Int)]
  have q2 := Blk.new (w4.alloc (Obj.cells #[.int .i64 (n2' : Int)] 3)) 3 #[.int .i64 (m' : Int)]
  replace q := q.ext ((Below.refl _ _).alloc (Nat.le_refl _) (Obj.cells #[.int .i64 (m' : Int)] 3))
  have hEW5 : Ext w4 ((w4.alloc (Obj.cells #[.int .i64 (n2' : Int)] 3)).alloc (Obj.cells #[.int .i64 (m' : Int)] 3)) := (((Below.refl _ w4).alloc (by simp) _).alloc (by simp) _)
  generalize hgW5 : (w4.alloc (Obj.cells #[.int .i64 (n2' : Int)] 3)).alloc (Obj.cells #[.int .i64 (m' : Int)] 3) = W5 at *
  clear hgW5
  simp only [World.size_alloc] at q2
  have q_ne_q2 : ¬ w4.heap.size = w4.heap.size + 1 := by omega
  have q2_ne_q : ¬ w4.heap.size + 1 = w4.heap.size := by omega
  replace q_0 := q.cell (i := 0) rfl
  replace q2_0 := q2.cell (i := 0) rfl
  replace p0 := p0.ext hEW5; replace p0_0 := p0.cell (i := 0) rfl; replace p0_1 := p0.cell (i := 1) rfl; replace p0_2 := p0.cell (i := 2) rfl; replace p0_f0 := p0.free 0; replace p0_f1 := p0.free 1; replace p0_f2 := p0.free 2; replace p0_lt := p0.lt; replace p1 := p1.ext hEW5; replace p1_0 := p1.cell (i := 0) rfl; replace p1_1 := p1.cell (i := 1) rfl; replace p1_2 := p1.cell (i := 2) rfl; replace p1_f0 := p1.free 0; replace p1_f1 := p1.free 1; replace p1_f2 := p1.free 2; replace p1_lt := p1.lt; replace r0 := r0.ext hEW5; replace r0_0 := r0.cell (i := 0) rfl; replace r0_1 := r0.cell (i := 1) rfl; replace r0_2 := r0.cell (i := 2) rfl; replace r0_f0 := r0.free 0; replace r0_f1 := r0.free 1; replace r0_f2 := r0.free 2; replace r0_lt := r0.lt
  replace hE0 := Ext.trans hE0 hEW5
  have hsz5 := hEW5.size
  have hdd : d * d' ≠ 0 := Int.mul_ne_zero hd0 hd1
  obtain ⟨DD, hDD⟩ : ∃ D, d * d' = D := ⟨_, rfl⟩
  have HDD := Lib.hid hDD
  rw [hDD] at hdd ⊢
  have HA := Lib.hid h
  have HB := Lib.hid h'
  obtain ⟨l0, h1, h2, h3, -⟩ := h
  obtain ⟨l0', h1', h2', h3', -⟩ := h'
  have H2 := Lib.hid h2
  have H2' := Lib.hid h2'
  clear hDD h2 h2'
  go_cut [46] (fun s46 wx => s46 = .bool false ∧ wx = W5)
  case first =>
    by_cases g3 : 0 < n2'
    · have g5 := K1.out g3
      have z1 : ((n2' : Int) == 0) = false := by simp; omega
      have z3 : ¬ ((n2' : Int) = 0) := by omega
      by_cases g4 : 0 < m'
      · have g6 := K2.out g4
        have z2 : ((m' : Int) == 0) = false := by simp; omega
        have z4 : ¬ ((m' : Int) = 0) := by omega
        go_wp2_with fail
        go_meet
        exact ⟨rfl, rfl⟩
      · go_wp2_with fail
        go_meet
        exact ⟨rfl, rfl⟩
    · by_cases g4 : 0 < m'
      · have g6 := K2.out g4
        have z2 : ((m' : Int) == 0) = false := by simp; omega
        have z4 : ¬ ((m' : Int) = 0) := by omega
        go_wp2_with fail
        go_meet
        exact ⟨rfl, rfl⟩
      · go_wp2_with fail
        go_meet
        exact ⟨rfl, rfl⟩
  case rest =>
    obtain ⟨rfl, hwc⟩ := hcut
    obtain rfl : W5 = wc := hwc.symm
    clear e1 e2 f1 f2 g1 g2
    go_upto_region 8 with (fail)
    have hEd : Ext W5 W5.drew := (Below.refl _ _).drew
    have hszd : W5.heap.size = W5.drew.heap.size := rfl
    replace p0 := p0.ext hEd; replace p0_0 := p0.cell (i := 0) rfl; replace p0_1 := p0.cell (i := 1) rfl; replace p0_2 := p0.cell (i := 2) rfl; replace p1 := p1.ext hEd; replace p1_0 := p1.cell (i := 0) rfl; replace p1_1 := p1.cell (i := 1) rfl; replace p1_2 := p1.cell (i := 2) rfl; replace r0 := r0.ext hEd; replace r0_0 := r0.cell (i := 0) rfl; replace r0_1 := r0.cell (i := 1) rfl; replace r0_2 := r0.cell (i := 2) rfl; replace r0_f0 := r0.free 0; replace r0_f1 := r0.free 1; replace r0_f2 := r0.free 2; replace r0_lt := r0.lt; replace q := q.ext hEd; replace q_0 := q.cell (i := 0) rfl; replace q2 := q2.ext hEd; replace q2_0 := q2.cell (i := 0) rfl
    replace hE0 := Ext.trans hE0 hEd
    have hsz : W5.heap.size ≤ W5.drew.heap.size := Nat.le_refl _
    have hrl : w.heap.size + 1 + 1 < W5.drew.heap.size := r0_lt
    have na : ¬ w.heap.size = w.heap.size + 1 + 1 := by omega
    have na' : ¬ w.heap.size + 1 + 1 = w.heap.size := by omega
    have nb : ¬ w.heap.size + 1 = w.heap.size + 1 + 1 := by omega
    have nb' : ¬ w.heap.size + 1 + 1 = w.heap.size + 1 := by omega
    have nc : ¬ w4.heap.size = w.heap.size + 1 + 1 := by omega
    have nc' : ¬ w.heap.size + 1 + 1 = w4.heap.size := by omega
    have ne : ¬ w4.heap.size + 1 = w.heap.size + 1 + 1 := by omega
    have ne' : ¬ w.heap.size + 1 + 1 = w4.heap.size + 1 := by omega
    have nf : ¬ w4.heap.size = w.heap.size + 1 := by omega
    have nf' : ¬ w.heap.size + 1 = w4.heap.size := by omega
    go_region_held3 (fun w' => w'.cell? ⟨w.heap.size, 0, none⟩ = some (.bool b) ∧ w'.cell? ⟨w.heap.size, 1, none⟩ = some (.slice a n c) ∧ w'.cell? ⟨w.heap.size, 2, none⟩ = some (.slice a2 n2 c2) ∧ w'.cell? ⟨w.heap.size + 1, 0, none⟩ = some (.bool b') ∧ w'.cell? ⟨w.heap.size + 1, 1, none⟩ = some (.slice a' n' c') ∧ w'.cell? ⟨w.heap.size + 1, 2, none⟩ = some (.slice a2' n2' c2') ∧ w'.cell? ⟨w4.heap.size, 0, none⟩ = some (.int .i64 (n2' : Int)) ∧ w'.cell? ⟨w4.heap.size + 1, 0, none⟩ = some (.int .i64 (m' : Int))) (first | exact ⟨p0_0, p0_1, p0_2, p1_0, p1_1, p1_2, q_0, q2_0⟩ | go_keep)
      (first
      | (go_at_call 71; (with_reducible refine (zmul_b b b' _ a a' n c n' c' l0 l0' d d' (h1.ext (Nat.le_refl _) hE0) (h1'.ext (Nat.le_refl _) hE0) h3 h3' (by omega) H2 H2' DD HDD).mono ?_); rintro e w1 ⟨sd, a5, n5, c5, rfl, h5, HV5, hn5, hE1⟩; replace p0 := p0.ext hE1; replace p0_0 := p0.cell (i := 0) rfl; replace p0_1 := p0.cell (i := 1) rfl; replace p0_2 := p0.cell (i := 2) rfl; replace p1 := p1.ext hE1; replace p1_0 := p1.cell (i := 0) rfl; replace p1_1 := p1.cell (i := 1) rfl; replace p1_2 := p1.cell (i := 2) rfl; replace q := q.ext hE1; replace q_0 := q.cell (i := 0) rfl; replace q2 := q2.ext hE1; replace q2_0 := q2.cell (i := 0) rfl; replace r0 := r0.ext hE1; replace r0_0 := r0.cell (i := 0) rfl; replace r0_1 := r0.cell (i := 1) rfl; replace r0_2 := r0.cell (i := 2) rfl; replace r0_f0 := r0.free 0; replace r0_f1 := r0.free 1; replace r0_f2 := r0.free 2; replace r0_lt := r0.lt; (try replace h4 := h4.ext (Nat.le_refl _) hE1); replace h5 := h5.mono hsz (Kept.refl _ _); replace hsz := Nat.le_trans hsz hE1.size; replace hE0 := Ext.trans hE0 hE1)
      | ((go_at_call 68; (with_reducible refine (table_any 94 #[.pointer (some ⟨w.heap.size, 0, none⟩), .pointer (some ⟨w4.heap.size, 0, none⟩), .pointer (some ⟨w4.heap.size + 1, 0, none⟩), .pointer (some ⟨w.heap.size + 1, 0, none⟩)] N M (kronZ zss zss' n2' m') _ hen (Lib.hid (by have g := kron1_any K (by omega) _ b a a2 n c n2 c2 d zss (HA.out.ext hE0) b' a' a2' n' c' n2' c2' d' zss' (HB.out.ext hE0) m m' hrowm hrowm' w.heap.size w4.heap.size (w4.heap.size + 1) (w.heap.size + 1) _ _ _ _ p0 q q2 p1 HN.out HM.out; rw [HNE.out, HME.out] at g; exact g)) (by omega) (by omega)).mono ?_); rintro e w1 ⟨a4, c4, rfl, h4r, hE1⟩; replace p0 := p0.ext hE1; replace p0_0 := p0.cell (i := 0) rfl; replace p0_1 := p0.cell (i := 1) rfl; replace p0_2 := p0.cell (i := 2) rfl; replace p1 := p1.ext hE1; replace p1_0 := p1.cell (i := 0) rfl; replace p1_1 := p1.cell (i := 1) rfl; replace p1_2 := p1.cell (i := 2) rfl; replace q := q.ext hE1; replace q_0 := q.cell (i := 0) rfl; replace q2 := q2.ext hE1; replace q2_0 := q2.cell (i := 0) rfl; replace r0 := r0.ext hE1; replace r0_0 := r0.cell (i := 0) rfl; replace r0_1 := r0.cell (i := 1) rfl; replace r0_2 := r0.cell (i := 2) rfl; replace r0_f0 := r0.free 0; replace r0_f1 := r0.free 1; replace r0_f2 := r0.free 2; replace r0_lt := r0.lt; (try replace h5 := h5.ext (Nat.le_refl _) hE1); replace hsz := Nat.le_trans hsz hE1.size; replace hE0 := Ext.trans hE0 hE1); have h4 := rows_of_table h4r hE1; rw [hZ.out] at h4)
      | ((go_at_call 67); obtain ⟨xss, hG, hxz⟩ := grid_of h4 (by omega) (fun row hrw => by rw [← hZ.out] at hrw; rw [table_len _ _ _ row hrw]; omega); (with_reducible refine (made_any _ sd a5 a4 n5 c5 N c4 _ xss (h5.mono (Nat.zero_le _) (Kept.refl _ _)) hG (by omega) DD HV5 hdd).mono ?_); rw [hxz]; rintro e w7 ⟨a7, n7, c7, a8, n8, c8, rfl, h7, h8, hE1⟩; replace p0 := p0.ext hE1; replace p0_0 := p0.cell (i := 0) rfl; replace p0_1 := p0.cell (i := 1) rfl; replace p0_2 := p0.cell (i := 2) rfl; replace p1 := p1.ext hE1; replace p1_0 := p1.cell (i := 0) rfl; replace p1_1 := p1.cell (i := 1) rfl; replace p1_2 := p1.cell (i := 2) rfl; replace q := q.ext hE1; replace q_0 := q.cell (i := 0) rfl; replace q2 := q2.ext hE1; replace q2_0 := q2.cell (i := 0) rfl; replace r0 := r0.ext hE1; replace r0_0 := r0.cell (i := 0) rfl; replace r0_1 := r0.cell (i := 1) rfl; replace r0_2 := r0.cell (i := 2) rfl; replace r0_f0 := r0.free 0; replace r0_f1 := r0.free 1; replace r0_f2 := r0.free 2; replace r0_lt := r0.lt; have hsz6 := hsz; replace hE0 := Ext.trans hE0 hE1))
    all_goals
      have HF : Hid (RMatOk w (madeDen (d * d') Z) (madeRows (d * d') Z) (.returned (.tuple #[.agg #[.bool (decide (madeDen DD Z < 0)), .slice a7 n7 c7, .slice a8 n8 c8], .int .i64 0])) (((w7.setCell ⟨w.heap.size + 1 + 1, 0, none⟩ (.bool (decide (madeDen DD Z < 0)))).setCell ⟨w.heap.size + 1 + 1, 1, none⟩ (.slice a7 n7 c7)).setCell ⟨w.heap.size + 1 + 1, 2, none⟩ (.slice a8 n8 c8))) := Lib.hid (by rw [HDD.out]; exact RMatOk.box (w := w) (r := w.heap.size + 1 + 1) (v0 := .bool (decide (madeDen DD Z < 0))) (v1 := .slice a7 n7 c7) (v2 := .slice a8 n8 c8) (by omega) (by omega) hE0 h7 h8)
      clear h7 h8 hE0 hE1 h5 h4 p0 p1 q q2 p0_0 p0_1 p0_2 p1_0 p1_1 p1_2 q_0 q2_0
      generalize decide (madeDen DD Z < 0) = sg at *
      have r02 : Blk ((((w7).setCell ⟨w.heap.size + 1 + 1, 0, none⟩ (.bool sg)).setCell ⟨w.heap.size + 1 + 1, 1, none⟩ (.slice a7 n7 c7)).setCell ⟨w.heap.size + 1 + 1, 2, none⟩ (.slice a8 n8 c8)) _ _ #[.bool sg, .slice a7 n7 c7, .slice a8 n8 c8] := (((r0).set 0 (.bool sg)).set 1 (.slice a7 n7 c7)).set 2 (.slice a8 n8 c8)
      have hr00 := r02.cell (i := 0) rfl
      have hr01 := r02.cell (i := 1) rfl
      have hr02 := r02.cell (i := 2) rfl
      go_wp2_with fail
      exact bodyPost_ret (v := .tuple #[.agg #[.bool sg, .slice a7 n7 c7, .slice a8 n8 c8], .int .i64 0]) (by simp [results, Tryz.results39, go_sem, hr00, hr01, hr02]) rfl HF.out
end Go.Proofs.YtbhenelehhiakaaGreat
