/-
  The law QmatMade: the walk, case by case (printed by genL.py).
-/
import Derived.Test.YtbhenelehhiakaaMade28
import Derived.Test.YtbhenelehhiakaaMade30
set_option linter.unusedVariables false
set_option linter.unusedSimpArgs false
namespace Go.Proofs.Ytbhenelehhiakaa
open Go.RowKit

set_option maxRecDepth 100000 in
set_option maxHeartbeats 8000000 in
theorem made_c3 (n c : Int) (w : World) (h : 0 < n) (h2 : n ≤ 60) (h3 : 0 < c) (h4 : c ≤ 1000) (h5 : n ≤ Int.tdiv 4000 c) : Calls Try.prog 3 #[.int .i64 n, .int .i64 c] w (Yes w) := by
  have dz : ¬ c = 0 := by omega
  have q0 : Int.tdiv 4000 c = 4000 / c := Int.tdiv_eq_ediv_of_nonneg (by omega)
  have q1 : 0 ≤ 4000 / c := Int.ediv_nonneg (by omega) (by omega)
  have q2 : 4000 / c ≤ 4000 := Int.ediv_le_self _ (by omega)
  have dq : IntKind.i64.wrap (Int.tdiv 4000 c) = Int.tdiv 4000 c := IntWalk.i64_in _ (by omega)
  clear q0 q1 q2
  have d0 : decide (n < 0) = false := decide_eq_false (by omega)
  have d1 : decide (c < 0) = false := decide_eq_false (by omega)
  have d2 : decide (1000 < n) = false := decide_eq_false (by omega)
  have d3 : decide (1000 < c) = false := decide_eq_false (by omega)
  have d4 : decide (60 < n) = false := decide_eq_false (by omega)
  have d5 : decide (0 < n) = true := decide_eq_true (by omega)
  have d6 : decide (0 < c) = true := decide_eq_true (by omega)
  have d7 : decide (Int.tdiv 4000 c < n) = false := decide_eq_false (by omega)
  go_enter Try.func3, Try.ntmps3
  go_wp2_with fail
  refine (size_any n w 0 (Lib.hid (by unfold sizeE; rw [if_neg (by omega), if_neg (by omega)]))).mono ?_
  rintro e w1 ⟨rfl, rfl⟩
  have hn0 : 0 ≤ n := by omega
  have hn1 : n ≤ 1000 := by omega
  obtain ⟨ZI, hI⟩ : ∃ Z, tableZ (fun i k => if i = k then (1 : Int) else 0) n.toNat n.toNat = Z := ⟨_, rfl⟩
  have HI := Lib.hid hI
  clear hI
  have hc0 : 0 ≤ c := by omega
  have hc1 : c ≤ 1000 := by omega
  obtain ⟨ZZ, hZ⟩ : ∃ Z, tableZ (fun _ _ => (0 : Int)) n.toNat c.toNat = Z := ⟨_, rfl⟩
  have HZ := Lib.hid hZ
  clear hZ
  clear h h2 h3 h4 h5
  go_wp2_with fail
  refine (identity_i n hn0 hn1 w ZI HI).mono ?_
  rintro e w2 ⟨am, nm, cm, am2, nm2, cm2, rfl, hm1, hm2, hE2⟩
  go_wp2_with fail
  have m := Blk.new w2 30 #[.bool false, .slice am nm cm, .slice am2 nm2 cm2]
  have hEW2 : Ext w2 (w2.alloc (Obj.cells #[.bool false, .slice am nm cm, .slice am2 nm2 cm2] 30)) := ((Below.refl _ w2).alloc (by simp) _)
  generalize hgW2 : w2.alloc (Obj.cells #[.bool false, .slice am nm cm, .slice am2 nm2 cm2] 30) = W2 at *
  clear hgW2
  replace m_0 := m.cell (i := 0) rfl
  replace m_1 := m.cell (i := 1) rfl
  replace m_2 := m.cell (i := 2) rfl
  replace m_f0 := m.free 0
  replace m_f1 := m.free 1
  replace m_f2 := m.free 2
  replace m_lt := m.lt
  replace hE2 := Ext.trans hE2 hEW2
  replace hm1 := hm1.ext (Nat.le_refl _) hEW2
  replace hm2 := hm2.ext (Nat.le_refl _) hEW2
  refine (zero_i n c hn0 hn1 hc0 hc1 W2 ZZ HZ).mono ?_
  rintro e w4 ⟨az, nz, cz, az2, nz2, cz2, rfl, hz1, hz2, hE4⟩
  replace m := m.ext hE4; replace m_0 := m.cell (i := 0) rfl; replace m_1 := m.cell (i := 1) rfl; replace m_2 := m.cell (i := 2) rfl; replace m_f0 := m.free 0; replace m_f1 := m.free 1; replace m_f2 := m.free 2; replace m_lt := m.lt
  replace hE2 := Ext.trans hE2 hE4
  replace hm1 := hm1.ext (Nat.le_refl _) hE4
  replace hm2 := hm2.ext (Nat.le_refl _) hE4
  go_wp2_with fail
  have z := Blk.new w4 30 #[.bool false, .slice az nz cz, .slice az2 nz2 cz2]
  have hEW5 : Ext w4 (w4.alloc (Obj.cells #[.bool false, .slice az nz cz, .slice az2 nz2 cz2] 30)) := ((Below.refl _ w4).alloc (by simp) _)
  generalize hgW5 : w4.alloc (Obj.cells #[.bool false, .slice az nz cz, .slice az2 nz2 cz2] 30) = W5 at *
  clear hgW5
  replace z_0 := z.cell (i := 0) rfl
  replace z_1 := z.cell (i := 1) rfl
  replace z_2 := z.cell (i := 2) rfl
  replace z_f0 := z.free 0
  replace z_f1 := z.free 1
  replace z_f2 := z.free 2
  replace z_lt := z.lt
  replace m := m.ext hEW5; replace m_0 := m.cell (i := 0) rfl; replace m_1 := m.cell (i := 1) rfl; replace m_2 := m.cell (i := 2) rfl; replace m_f0 := m.free 0; replace m_f1 := m.free 1; replace m_f2 := m.free 2; replace m_lt := m.lt
  have hE0 := Ext.trans hE2 hEW5
  replace hm1 := hm1.ext (Nat.le_refl _) hEW5
  replace hm2 := hm2.ext (Nat.le_refl _) hEW5
  replace hz1 := hz1.ext (Nat.le_refl _) hEW5
  replace hz2 := hz2.ext (Nat.le_refl _) hEW5
  clear hE2 hE4 hEW2 hEW5
  have hd : Ext W5 W5.drew := (Below.refl _ _).drew
  have m := m.ext hd; have m_0 := m.cell (i := 0) rfl; have m_1 := m.cell (i := 1) rfl; have m_2 := m.cell (i := 2) rfl; have m_f0 := m.free 0; have m_f1 := m.free 1; have m_f2 := m.free 2; have m_lt := m.lt; have z := z.ext hd; have z_0 := z.cell (i := 0) rfl; have z_1 := z.cell (i := 1) rfl; have z_2 := z.cell (i := 2) rfl; have z_f0 := z.free 0; have z_f1 := z.free 1; have z_f2 := z.free 2; have z_lt := z.lt
  replace hE0 := Ext.trans hE0 hd
  replace hm1 := hm1.ext (Nat.le_refl _) hd
  replace hm2 := hm2.ext (Nat.le_refl _) hd
  replace hz1 := hz1.ext (Nat.le_refl _) hd
  replace hz2 := hz2.ext (Nat.le_refl _) hd
  refine wp_region_noPanic ?_
  refine wp_region_held_drew (S := (fun w' => w'.cell? ⟨w2.heap.size, 0, none⟩ = some (.bool false) ∧ w'.cell? ⟨w2.heap.size, 1, none⟩ = some (.slice am nm cm) ∧ w'.cell? ⟨w2.heap.size, 2, none⟩ = some (.slice am2 nm2 cm2) ∧ w'.cell? ⟨w4.heap.size, 0, none⟩ = some (.bool false) ∧ w'.cell? ⟨w4.heap.size, 1, none⟩ = some (.slice az nz cz) ∧ w'.cell? ⟨w4.heap.size, 2, none⟩ = some (.slice az2 nz2 cz2))) (by kernel_rfl) ⟨m_0, m_1, m_2, z_0, z_1, z_2⟩ (fun hHeld => ?_)
  refine takeD 0 61 (v := ?_) rfl rfl (by kernel_rfl) (by kernel_rfl) (by kernel_rfl) (fun _ _ _ h => h) (Or.inl ⟨by kernel_rfl, ?hy⟩) hHeld ?_
  case hy => (intro w hSw; (try dsimp only at hSw); go_simp; try with_reducible rfl)
  try simp only [List.setIfInBounds_toArray, List.set_cons_zero, List.set_cons_succ]
  refine takeD 1 62 (v := ?_) rfl rfl (by kernel_rfl) (by kernel_rfl) (by kernel_rfl) (fun _ _ _ h => h) (Or.inl ⟨by kernel_rfl, ?hy⟩) hHeld ?_
  case hy => (intro w hSw; (try dsimp only at hSw); go_simp; try with_reducible rfl)
  try simp only [List.setIfInBounds_toArray, List.set_cons_zero, List.set_cons_succ]
  refine takeD 2 63 (v := ?_) rfl rfl (by kernel_rfl) (by kernel_rfl) (by kernel_rfl) (fun _ _ _ h => h) (Or.inl ⟨by kernel_rfl, ?hy⟩) hHeld ?_
  case hy => (intro w hSw; (try dsimp only at hSw); go_simp; try with_reducible rfl)
  try simp only [List.setIfInBounds_toArray, List.set_cons_zero, List.set_cons_succ]
  refine takeD 3 64 (v := undef) rfl rfl (by kernel_rfl) (by kernel_rfl) (by kernel_rfl) (fun _ _ _ h => h) (Or.inr ⟨by kernel_rfl, rfl⟩) hHeld ?_
  try simp only [List.setIfInBounds_toArray, List.set_cons_zero, List.set_cons_succ]
  refine takeD 4 65 (v := undef) rfl rfl (by kernel_rfl) (by kernel_rfl) (by kernel_rfl) (fun _ _ _ h => h) (Or.inr ⟨by kernel_rfl, rfl⟩) hHeld ?_
  try simp only [List.setIfInBounds_toArray, List.set_cons_zero, List.set_cons_succ]
  refine takeD 5 66 (v := undef) rfl rfl (by kernel_rfl) (by kernel_rfl) (by kernel_rfl) (fun _ _ _ h => h) (Or.inr ⟨by kernel_rfl, rfl⟩) hHeld ?_
  try simp only [List.setIfInBounds_toArray, List.set_cons_zero, List.set_cons_succ]
  refine skipD 6 67 rfl rfl (by kernel_rfl) (by kernel_rfl) hHeld ?_
  try simp only [List.setIfInBounds_toArray, List.set_cons_zero, List.set_cons_succ]
  refine takeD 7 68 (v := ?_) rfl rfl (by kernel_rfl) (by kernel_rfl) (by kernel_rfl) (fun _ _ _ h => h) (Or.inl ⟨by kernel_rfl, ?hy⟩) hHeld ?_
  case hy => (intro w hSw; (try dsimp only at hSw); go_simp; try with_reducible rfl)
  try simp only [List.setIfInBounds_toArray, List.set_cons_zero, List.set_cons_succ]
  refine takeD 8 69 (v := ?_) rfl rfl (by kernel_rfl) (by kernel_rfl) (by kernel_rfl) (fun _ _ _ h => h) (Or.inl ⟨by kernel_rfl, ?hy⟩) hHeld ?_
  case hy => (intro w hSw; (try dsimp only at hSw); go_simp; try with_reducible rfl)
  try simp only [List.setIfInBounds_toArray, List.set_cons_zero, List.set_cons_succ]
  refine takeD 9 70 (v := ?_) rfl rfl (by kernel_rfl) (by kernel_rfl) (by kernel_rfl) (fun _ _ _ h => h) (Or.inl ⟨by kernel_rfl, ?hy⟩) hHeld ?_
  case hy => (intro w hSw; (try dsimp only at hSw); go_simp; try with_reducible rfl)
  try simp only [List.setIfInBounds_toArray, List.set_cons_zero, List.set_cons_succ]
  refine takeD 10 71 (v := ?_) rfl rfl (by kernel_rfl) (by kernel_rfl) (by kernel_rfl) (fun _ _ _ h => h) (Or.inl ⟨by kernel_rfl, ?hy⟩) hHeld ?_
  case hy => (intro w hSw; (try dsimp only at hSw); go_simp; try with_reducible rfl)
  try simp only [List.setIfInBounds_toArray, List.set_cons_zero, List.set_cons_succ]
  refine takeD 11 72 (v := ?_) rfl rfl (by kernel_rfl) (by kernel_rfl) (by kernel_rfl) (fun _ _ _ h => h) (Or.inl ⟨by kernel_rfl, ?hy⟩) hHeld ?_
  case hy => (intro w hSw; (try dsimp only at hSw); go_simp; try with_reducible rfl)
  try simp only [List.setIfInBounds_toArray, List.set_cons_zero, List.set_cons_succ]
  refine takeD 12 73 (v := ?_) rfl rfl (by kernel_rfl) (by kernel_rfl) (by kernel_rfl) (fun _ _ _ h => h) (Or.inl ⟨by kernel_rfl, ?hy⟩) hHeld ?_
  case hy => (intro w hSw; (try dsimp only at hSw); go_simp; try with_reducible rfl)
  try simp only [List.setIfInBounds_toArray, List.set_cons_zero, List.set_cons_succ]
  refine takeD 13 74 (v := ?_) rfl rfl (by kernel_rfl) (by kernel_rfl) (by kernel_rfl) (fun _ _ _ h => h) (Or.inl ⟨by kernel_rfl, ?hy⟩) hHeld ?_
  case hy => (intro w hSw; (try dsimp only at hSw); go_simp; try with_reducible rfl)
  try simp only [List.setIfInBounds_toArray, List.set_cons_zero, List.set_cons_succ]
  refine takeD 14 75 (v := ?_) rfl rfl (by kernel_rfl) (by kernel_rfl) (by kernel_rfl) (fun _ _ _ h => h) (Or.inl ⟨by kernel_rfl, ?hy⟩) hHeld ?_
  case hy => (intro w hSw; (try dsimp only at hSw); go_simp; try with_reducible rfl)
  try simp only [List.setIfInBounds_toArray, List.set_cons_zero, List.set_cons_succ]
  refine stepD 15 rfl (by kernel_rfl) (fun K hK => ?_)
  refine Eq.mpr (if_pos (by kernel_rfl)) ?_
  go_simp
  refine (r11Identity_i n hn0 hn1 _ ZI HI).mono ?_; rintro e w6 ⟨a6, n6, c6, a7, n7, c7, rfl, hi1, hi2, hE1⟩; replace m := m.ext hE1; replace m_0 := m.cell (i := 0) rfl; replace m_1 := m.cell (i := 1) rfl; replace m_2 := m.cell (i := 2) rfl; replace m_f0 := m.free 0; replace m_f1 := m.free 1; replace m_f2 := m.free 2; replace m_lt := m.lt; replace z := z.ext hE1; replace z_0 := z.cell (i := 0) rfl; replace z_1 := z.cell (i := 1) rfl; replace z_2 := z.cell (i := 2) rfl; replace z_f0 := z.free 0; replace z_f1 := z.free 1; replace z_f2 := z.free 2; replace z_lt := z.lt; replace hm1 := hm1.ext (Nat.le_refl _) hE1; replace hm2 := hm2.ext (Nat.le_refl _) hE1; replace hz1 := hz1.ext (Nat.le_refl _) hE1; replace hz2 := hz2.ext (Nat.le_refl _) hE1; replace hE0 := Ext.trans hE0 hE1
  go_wp2_with fail
  refine hK.out _ _ ⟨m_0, m_1, m_2, z_0, z_1, z_2⟩ (fun hHeld => ?_)
  clear hK K
  try simp only [Act.put, List.setIfInBounds_toArray, List.set_cons_zero, List.set_cons_succ]
  refine stepD 16 rfl (by kernel_rfl) (fun K hK => ?_)
  refine Eq.mpr (if_pos (by kernel_rfl)) ?_
  go_simp
  refine (right_yes _ _ _ _ _ _ _ _ _ _ _ _ _ _ _ _ hm1 hi1 hm2 hi2).mono ?_; rintro e w6 ⟨rfl, hE1⟩; clear hm1 hi1 hm2 hi2; replace m := m.ext hE1; replace m_0 := m.cell (i := 0) rfl; replace m_1 := m.cell (i := 1) rfl; replace m_2 := m.cell (i := 2) rfl; replace m_f0 := m.free 0; replace m_f1 := m.free 1; replace m_f2 := m.free 2; replace m_lt := m.lt; replace z := z.ext hE1; replace z_0 := z.cell (i := 0) rfl; replace z_1 := z.cell (i := 1) rfl; replace z_2 := z.cell (i := 2) rfl; replace z_f0 := z.free 0; replace z_f1 := z.free 1; replace z_f2 := z.free 2; replace z_lt := z.lt; replace hz1 := hz1.ext (Nat.le_refl _) hE1; replace hz2 := hz2.ext (Nat.le_refl _) hE1; replace hE0 := Ext.trans hE0 hE1
  go_wp2_with fail
  refine hK.out _ _ ⟨m_0, m_1, m_2, z_0, z_1, z_2⟩ (fun hHeld => ?_)
  clear hK K
  try simp only [Act.put, List.setIfInBounds_toArray, List.set_cons_zero, List.set_cons_succ]
  refine takeD 17 78 (v := ?_) rfl rfl (by kernel_rfl) (by kernel_rfl) (by kernel_rfl) (fun _ _ _ h => h) (Or.inl ⟨by kernel_rfl, ?hy⟩) hHeld ?_
  case hy => (intro w hSw; (try dsimp only at hSw); go_simp; try with_reducible rfl)
  try simp only [List.setIfInBounds_toArray, List.set_cons_zero, List.set_cons_succ]
  refine takeD 18 79 (v := ?_) rfl rfl (by kernel_rfl) (by kernel_rfl) (by kernel_rfl) (fun _ _ _ h => h) (Or.inl ⟨by kernel_rfl, ?hy⟩) hHeld ?_
  case hy => (intro w hSw; (try dsimp only at hSw); go_simp; try with_reducible rfl)
  try simp only [List.setIfInBounds_toArray, List.set_cons_zero, List.set_cons_succ]
  refine takeD 19 80 (v := ?_) rfl rfl (by kernel_rfl) (by kernel_rfl) (by kernel_rfl) (fun _ _ _ h => h) (Or.inl ⟨by kernel_rfl, ?hy⟩) hHeld ?_
  case hy => (intro w hSw; (try dsimp only at hSw); go_simp; try with_reducible rfl)
  try simp only [List.setIfInBounds_toArray, List.set_cons_zero, List.set_cons_succ]
  refine takeD 20 81 (v := ?_) rfl rfl (by kernel_rfl) (by kernel_rfl) (by kernel_rfl) (fun _ _ _ h => h) (Or.inl ⟨by kernel_rfl, ?hy⟩) hHeld ?_
  case hy => (intro w hSw; (try dsimp only at hSw); go_simp; try with_reducible rfl)
  try simp only [List.setIfInBounds_toArray, List.set_cons_zero, List.set_cons_succ]
  refine takeD 21 82 (v := ?_) rfl rfl (by kernel_rfl) (by kernel_rfl) (by kernel_rfl) (fun _ _ _ h => h) (Or.inl ⟨by kernel_rfl, ?hy⟩) hHeld ?_
  case hy => (intro w hSw; (try dsimp only at hSw); go_simp; try with_reducible rfl)
  try simp only [List.setIfInBounds_toArray, List.set_cons_zero, List.set_cons_succ]
  refine takeD 22 83 (v := ?_) rfl rfl (by kernel_rfl) (by kernel_rfl) (by kernel_rfl) (fun _ _ _ h => h) (Or.inl ⟨by kernel_rfl, ?hy⟩) hHeld ?_
  case hy => (intro w hSw; (try dsimp only at hSw); go_simp; try with_reducible rfl)
  try simp only [List.setIfInBounds_toArray, List.set_cons_zero, List.set_cons_succ]
  refine takeD 23 84 (v := undef) rfl rfl (by kernel_rfl) (by kernel_rfl) (by kernel_rfl) (fun _ _ _ h => h) (Or.inr ⟨by kernel_rfl, rfl⟩) hHeld ?_
  try simp only [List.setIfInBounds_toArray, List.set_cons_zero, List.set_cons_succ]
  refine takeD 24 85 (v := undef) rfl rfl (by kernel_rfl) (by kernel_rfl) (by kernel_rfl) (fun _ _ _ h => h) (Or.inr ⟨by kernel_rfl, rfl⟩) hHeld ?_
  try simp only [List.setIfInBounds_toArray, List.set_cons_zero, List.set_cons_succ]
  refine takeD 25 86 (v := undef) rfl rfl (by kernel_rfl) (by kernel_rfl) (by kernel_rfl) (fun _ _ _ h => h) (Or.inr ⟨by kernel_rfl, rfl⟩) hHeld ?_
  try simp only [List.setIfInBounds_toArray, List.set_cons_zero, List.set_cons_succ]
  refine skipD 26 87 rfl rfl (by kernel_rfl) (by kernel_rfl) hHeld ?_
  try simp only [List.setIfInBounds_toArray, List.set_cons_zero, List.set_cons_succ]
  refine takeD 27 88 (v := ?_) rfl rfl (by kernel_rfl) (by kernel_rfl) (by kernel_rfl) (fun _ _ _ h => h) (Or.inl ⟨by kernel_rfl, ?hy⟩) hHeld ?_
  case hy => (intro w hSw; (try dsimp only at hSw); go_simp; try with_reducible rfl)
  try simp only [List.setIfInBounds_toArray, List.set_cons_zero, List.set_cons_succ]
  refine takeD 28 89 (v := ?_) rfl rfl (by kernel_rfl) (by kernel_rfl) (by kernel_rfl) (fun _ _ _ h => h) (Or.inl ⟨by kernel_rfl, ?hy⟩) hHeld ?_
  case hy => (intro w hSw; (try dsimp only at hSw); go_simp; try with_reducible rfl)
  try simp only [List.setIfInBounds_toArray, List.set_cons_zero, List.set_cons_succ]
  refine takeD 29 90 (v := ?_) rfl rfl (by kernel_rfl) (by kernel_rfl) (by kernel_rfl) (fun _ _ _ h => h) (Or.inl ⟨by kernel_rfl, ?hy⟩) hHeld ?_
  case hy => (intro w hSw; (try dsimp only at hSw); go_simp; try with_reducible rfl)
  try simp only [List.setIfInBounds_toArray, List.set_cons_zero, List.set_cons_succ]
  refine takeD 30 91 (v := ?_) rfl rfl (by kernel_rfl) (by kernel_rfl) (by kernel_rfl) (fun _ _ _ h => h) (Or.inl ⟨by kernel_rfl, ?hy⟩) hHeld ?_
  case hy => (intro w hSw; (try dsimp only at hSw); go_simp; try with_reducible rfl)
  try simp only [List.setIfInBounds_toArray, List.set_cons_zero, List.set_cons_succ]
  refine takeD 31 92 (v := ?_) rfl rfl (by kernel_rfl) (by kernel_rfl) (by kernel_rfl) (fun _ _ _ h => h) (Or.inl ⟨by kernel_rfl, ?hy⟩) hHeld ?_
  case hy => (intro w hSw; (try dsimp only at hSw); go_simp; try with_reducible rfl)
  try simp only [List.setIfInBounds_toArray, List.set_cons_zero, List.set_cons_succ]
  refine takeD 32 93 (v := ?_) rfl rfl (by kernel_rfl) (by kernel_rfl) (by kernel_rfl) (fun _ _ _ h => h) (Or.inl ⟨by kernel_rfl, ?hy⟩) hHeld ?_
  case hy => (intro w hSw; (try dsimp only at hSw); go_simp; try with_reducible rfl)
  try simp only [List.setIfInBounds_toArray, List.set_cons_zero, List.set_cons_succ]
  refine takeD 33 94 (v := ?_) rfl rfl (by kernel_rfl) (by kernel_rfl) (by kernel_rfl) (fun _ _ _ h => h) (Or.inl ⟨by kernel_rfl, ?hy⟩) hHeld ?_
  case hy => (intro w hSw; (try dsimp only at hSw); go_simp; try with_reducible rfl)
  try simp only [List.setIfInBounds_toArray, List.set_cons_zero, List.set_cons_succ]
  refine takeD 34 95 (v := ?_) rfl rfl (by kernel_rfl) (by kernel_rfl) (by kernel_rfl) (fun _ _ _ h => h) (Or.inl ⟨by kernel_rfl, ?hy⟩) hHeld ?_
  case hy => (intro w hSw; (try dsimp only at hSw); go_simp; try with_reducible rfl)
  try simp only [List.setIfInBounds_toArray, List.set_cons_zero, List.set_cons_succ]
  refine takeD 35 96 (v := ?_) rfl rfl (by kernel_rfl) (by kernel_rfl) (by kernel_rfl) (fun _ _ _ h => h) (Or.inl ⟨by kernel_rfl, ?hy⟩) hHeld ?_
  case hy => (intro w hSw; (try dsimp only at hSw); go_simp; try with_reducible rfl)
  try simp only [List.setIfInBounds_toArray, List.set_cons_zero, List.set_cons_succ]
  refine stepD 36 rfl (by kernel_rfl) (fun K hK => ?_)
  refine Eq.mpr (if_pos (by kernel_rfl)) ?_
  go_simp
  refine (r11Zero_i n c hn0 hn1 hc0 hc1 _ ZZ HZ).mono ?_; rintro e w6 ⟨a6, n6, c6, a7, n7, c7, rfl, hj1, hj2, hE1⟩; replace m := m.ext hE1; replace m_0 := m.cell (i := 0) rfl; replace m_1 := m.cell (i := 1) rfl; replace m_2 := m.cell (i := 2) rfl; replace m_f0 := m.free 0; replace m_f1 := m.free 1; replace m_f2 := m.free 2; replace m_lt := m.lt; replace z := z.ext hE1; replace z_0 := z.cell (i := 0) rfl; replace z_1 := z.cell (i := 1) rfl; replace z_2 := z.cell (i := 2) rfl; replace z_f0 := z.free 0; replace z_f1 := z.free 1; replace z_f2 := z.free 2; replace z_lt := z.lt; replace hz1 := hz1.ext (Nat.le_refl _) hE1; replace hz2 := hz2.ext (Nat.le_refl _) hE1; replace hE0 := Ext.trans hE0 hE1
  go_wp2_with fail
  refine hK.out _ _ ⟨m_0, m_1, m_2, z_0, z_1, z_2⟩ (fun hHeld => ?_)
  clear hK K
  try simp only [Act.put, List.setIfInBounds_toArray, List.set_cons_zero, List.set_cons_succ]
  refine stepD 37 rfl (by kernel_rfl) (fun K hK => ?_)
  refine Eq.mpr (if_pos (by kernel_rfl)) ?_
  go_simp
  refine (right_yes _ _ _ _ _ _ _ _ _ _ _ _ _ _ _ _ hz1 hj1 hz2 hj2).mono ?_; rintro e w6 ⟨rfl, hE1⟩; clear hz1 hj1 hz2 hj2; replace m := m.ext hE1; replace m_0 := m.cell (i := 0) rfl; replace m_1 := m.cell (i := 1) rfl; replace m_2 := m.cell (i := 2) rfl; replace m_f0 := m.free 0; replace m_f1 := m.free 1; replace m_f2 := m.free 2; replace m_lt := m.lt; replace z := z.ext hE1; replace z_0 := z.cell (i := 0) rfl; replace z_1 := z.cell (i := 1) rfl; replace z_2 := z.cell (i := 2) rfl; replace z_f0 := z.free 0; replace z_f1 := z.free 1; replace z_f2 := z.free 2; replace z_lt := z.lt; replace hE0 := Ext.trans hE0 hE1
  go_wp2_with fail
  refine hK.out _ _ ⟨m_0, m_1, m_2, z_0, z_1, z_2⟩ (fun hHeld => ?_)
  clear hK K
  try simp only [Act.put, List.setIfInBounds_toArray, List.set_cons_zero, List.set_cons_succ]
  refine takeD 38 99 (v := ?_) rfl rfl (by kernel_rfl) (by kernel_rfl) (by kernel_rfl) (fun _ _ _ h => h) (Or.inl ⟨by kernel_rfl, ?hy⟩) hHeld ?_
  case hy => (intro w hSw; (try dsimp only at hSw); go_simp; try with_reducible rfl)
  try simp only [List.setIfInBounds_toArray, List.set_cons_zero, List.set_cons_succ]
  refine takeD 39 100 (v := ?_) rfl rfl (by kernel_rfl) (by kernel_rfl) (by kernel_rfl) (fun _ _ _ h => h) (Or.inl ⟨by kernel_rfl, ?hy⟩) hHeld ?_
  case hy => (intro w hSw; (try dsimp only at hSw); go_simp; try with_reducible rfl)
  try simp only [List.setIfInBounds_toArray, List.set_cons_zero, List.set_cons_succ]
  refine takeD 40 101 (v := ?_) rfl rfl (by kernel_rfl) (by kernel_rfl) (by kernel_rfl) (fun _ _ _ h => h) (Or.inl ⟨by kernel_rfl, ?hy⟩) hHeld ?_
  case hy => (intro w hSw; (try dsimp only at hSw); go_simp; try with_reducible rfl)
  try simp only [List.setIfInBounds_toArray, List.set_cons_zero, List.set_cons_succ]
  refine takeD 41 102 (v := ?_) rfl rfl (by kernel_rfl) (by kernel_rfl) (by kernel_rfl) (fun _ _ _ h => h) (Or.inl ⟨by kernel_rfl, ?hy⟩) hHeld ?_
  case hy => (intro w hSw; (try dsimp only at hSw); go_simp; try with_reducible rfl)
  try simp only [List.setIfInBounds_toArray, List.set_cons_zero, List.set_cons_succ]
  refine stepD 42 rfl (by kernel_rfl) (fun K hK => ?_)
  refine Eq.mpr (if_pos (by kernel_rfl)) ?_
  go_simp
  refine (lives_yes _).mono ?_; rintro e w7 ⟨rfl, hE1⟩; replace m := m.ext hE1; replace m_0 := m.cell (i := 0) rfl; replace m_1 := m.cell (i := 1) rfl; replace m_2 := m.cell (i := 2) rfl; replace m_f0 := m.free 0; replace m_f1 := m.free 1; replace m_f2 := m.free 2; replace m_lt := m.lt; replace z := z.ext hE1; replace z_0 := z.cell (i := 0) rfl; replace z_1 := z.cell (i := 1) rfl; replace z_2 := z.cell (i := 2) rfl; replace z_f0 := z.free 0; replace z_f1 := z.free 1; replace z_f2 := z.free 2; replace z_lt := z.lt; replace hE0 := Ext.trans hE0 hE1
  go_wp2_with fail
  refine hK.out _ _ ⟨m_0, m_1, m_2, z_0, z_1, z_2⟩ (fun hHeld => ?_)
  clear hK K
  try simp only [Act.put, List.setIfInBounds_toArray, List.set_cons_zero, List.set_cons_succ]
  refine takeD 43 104 (v := ?_) rfl rfl (by kernel_rfl) (by kernel_rfl) (by kernel_rfl) (fun _ _ _ h => h) (Or.inl ⟨by kernel_rfl, ?hy⟩) hHeld ?_
  case hy => (intro w hSw; (try dsimp only at hSw); go_simp; try with_reducible rfl)
  try simp only [List.setIfInBounds_toArray, List.set_cons_zero, List.set_cons_succ]
  refine takeD 44 4 (v := ?_) rfl rfl (by kernel_rfl) (by kernel_rfl) (by kernel_rfl) (fun _ _ _ h => h) (Or.inl ⟨by kernel_rfl, ?hy⟩) hHeld ?_
  case hy => (intro w hSw; (try dsimp only at hSw); go_simp; try with_reducible rfl)
  try simp only [List.setIfInBounds_toArray, List.set_cons_zero, List.set_cons_succ]
  refine wpAnyH_done (by kernel_rfl) ?_ _
  refine NoPanic.normal ?_
  go_wp2_with fail
  go_ret
  exact ⟨rfl, hE0⟩

end Go.Proofs.Ytbhenelehhiakaa
