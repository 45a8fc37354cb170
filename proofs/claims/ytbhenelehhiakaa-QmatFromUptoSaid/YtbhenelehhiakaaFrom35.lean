/-
  qmat: Size, Cut.
-/
import Derived.Test.YtbhenelehhiakaaFrom29
import Derived.Test.YtbhenelehhiakaaFrom31
set_option linter.unusedVariables false
set_option linter.unusedSimpArgs false
namespace Go.Proofs.Ytbhenelehhiakaa
open Go.RowKit

set_option maxHeartbeats 2000000 in
theorem qSize_ok (K : Nat) (hK : K ≤ 8796093022208) (w : World) (b : Bool) (a a2 : Option Addr) (n c n2 c2 : Nat) (d : Int) (zss : List (List Int)) (h : MatS K w b a n c a2 n2 c2 d zss) (hs : Hid (checkE d zss = 0)) (hn2 : n2 ≤ 1099511627776) (hrow : Hid (∀ zs ∈ zss, zs.length ≤ 1099511627776)) (m : Nat) (hm : Hid (colsOf zss = m)) :
    Calls Try.prog 60 #[.agg #[.bool b, .slice a n c, .slice a2 n2 c2]] w fun e w' => e = .returned (.tuple #[.int .i64 (n2 : Int), .int .i64 (m : Int), .int .i64 0]) ∧ Ext w w' := by
  go_enter Try.func60, Try.ntmps60
  go_wp2_with fail
  have p0 := Blk.new w 30 #[.bool b, .slice a n c, .slice a2 n2 c2]
  have hEW : Ext w (w.alloc (Obj.cells #[.bool b, .slice a n c, .slice a2 n2 c2] 30)) := ((Below.refl _ w).alloc (by simp) _)
  generalize hgW : w.alloc (Obj.cells #[.bool b, .slice a n c, .slice a2 n2 c2] 30) = W at *
  clear hgW
  replace p0_0 := p0.cell (i := 0) rfl
  replace p0_1 := p0.cell (i := 1) rfl
  replace p0_2 := p0.cell (i := 2) rfl
  refine (check_any K hK W b a a2 n c n2 c2 d zss (h.ext hEW) 0 hs).mono ?_
  rintro e w1 ⟨rfl, hE1⟩
  replace p0 := p0.ext hE1; replace p0_0 := p0.cell (i := 0) rfl; replace p0_1 := p0.cell (i := 1) rfl; replace p0_2 := p0.cell (i := 2) rfl
  have hE0 := Ext.trans hEW hE1
  have h1 := h.ext hE0
  clear hEW hE1 h
  go_wp2_with fail
  refine (qsize_any K hK w1 b a a2 n c n2 c2 d zss h1 hn2 hrow m hm).mono ?_
  rintro e w2 ⟨rfl, hE2⟩
  have HE := Lib.hid (Ext.trans hE0 hE2)
  clear h1 hE0 hE2
  go_wp2_with fail
  exact bodyPost_ret (v := .tuple #[.int .i64 (n2 : Int), .int .i64 (m : Int), .int .i64 0]) (by simp [results, Try.results60, go_sem]) rfl ⟨rfl, HE.out⟩
set_option maxHeartbeats 2000000 in
theorem qSize_err (K : Nat) (hK : K ≤ 8796093022208) (w : World) (b : Bool) (a a2 : Option Addr) (n c n2 c2 : Nat) (d : Int) (zss : List (List Int)) (h : MatS K w b a n c a2 n2 c2 d zss) (s : Int) (hs : Hid (checkE d zss = s)) (h0 : s ≠ 0) :
    Calls Try.prog 60 #[.agg #[.bool b, .slice a n c, .slice a2 n2 c2]] w fun e w' => e = .returned (.tuple #[.int .i64 0, .int .i64 0, .int .i64 s]) ∧ Ext w w' := by
  have hs0 : (s != 0) = true := by simpa using h0
  go_enter Try.func60, Try.ntmps60
  go_wp2_with fail
  have p0 := Blk.new w 30 #[.bool b, .slice a n c, .slice a2 n2 c2]
  have hEW : Ext w (w.alloc (Obj.cells #[.bool b, .slice a n c, .slice a2 n2 c2] 30)) := ((Below.refl _ w).alloc (by simp) _)
  generalize hgW : w.alloc (Obj.cells #[.bool b, .slice a n c, .slice a2 n2 c2] 30) = W at *
  clear hgW
  replace p0_0 := p0.cell (i := 0) rfl
  replace p0_1 := p0.cell (i := 1) rfl
  replace p0_2 := p0.cell (i := 2) rfl
  refine (check_any K hK W b a a2 n c n2 c2 d zss (h.ext hEW) s hs).mono ?_
  rintro e w1 ⟨rfl, hE1⟩
  have HE := Lib.hid (Ext.trans hEW hE1)
  clear hEW hE1 h
  go_wp2_with fail
  exact bodyPost_ret (v := .tuple #[.int .i64 0, .int .i64 0, .int .i64 s]) (by simp [results, Try.results60, go_sem]) rfl ⟨rfl, HE.out⟩

/-- the entries of a part -/
def partZ (zss : List (List Int)) (r k : Nat) (i j : Nat) : Int := (((zss[r + i]?).getD [])[k + j]?).getD 0

set_option maxRecDepth 100000 in
set_option maxHeartbeats 4000000 in
theorem cut1_any (K : Nat) (hK : K ≤ 8796093022208) (w0 : World) (b : Bool) (a a2 : Option Addr) (n c n2 c2 : Nat) (d : Int) (zss : List (List Int)) (h : MatS K w0 b a n c a2 n2 c2 d zss) (m : Nat) (hrow : Hid (∀ zs ∈ zss, zs.length = m)) (hn2 : n2 ≤ 1099511627776) (hm : m ≤ 1099511627776)
    (pm pr pk : Nat) (tm tr tk : TypeId) (q0 : Blk w0 pm tm #[.bool b, .slice a n c, .slice a2 n2 c2]) (r k : Nat) (q1 : Blk w0 pr tr #[.int .i64 (r : Int)]) (q2 : Blk w0 pk tk #[.int .i64 (k : Int)]) (r2 k2 : Nat) (hr2 : r2 ≤ n2) (hk2 : k2 ≤ m) :
    CellOf Try.prog 61 #[.pointer (some ⟨pm, 0, none⟩), .pointer (some ⟨pr, 0, none⟩), .pointer (some ⟨pk, 0, none⟩)] (r2 - r) (k2 - k) (partZ zss r k) w0 := fun i j w hi hj hE => by
  show Calls Try.prog 61 #[.int .i64 (i : Int), .int .i64 (j : Int), .pointer (some ⟨pm, 0, none⟩), .pointer (some ⟨pr, 0, none⟩), .pointer (some ⟨pk, 0, none⟩)] w _
  obtain ⟨l0, h1, h2, h3, h4⟩ := h
  obtain ⟨b5, o5, a5, n5, c5, zs, rfl, hb5, hzs, hc5, hZ⟩ := Sl.getRow h4 (i := r + i) (by omega)
  have hn5 : n5 = m := by rw [← hZ.len]; exact hrow.out zs (List.mem_of_getElem? hzs)
  subst hn5
  obtain ⟨b7, o7, s7, a7, n7, c7, l7, z, rfl, hb7, hz7, hc8, hc9, h7, hi7, hn7⟩ := hZ.getInt (i := k + j) (by omega)
  have hpz : partZ zss r k i j = z := by unfold partZ; rw [hzs]; show (zs[k + j]?).getD 0 = z; rw [hz7]; rfl
  rw [hpz]
  have q0 := q0.ext hE
  have q1 := q1.ext hE
  have q2 := q2.ext hE
  have hlm := q0.lt
  have hlr := q1.lt
  have hlk := q2.lt
  have hc5 := (hE.cell (p := ⟨b5, o5 + (r + i), none⟩) hb5).trans hc5
  have hc8 := (hE.cell (p := ⟨b7, o7 + (k + j) * 2, none⟩) hb7).trans hc8
  have hc9 := (hE.cell (p := ⟨b7, o7 + (k + j) * 2 + 1, none⟩) hb7).trans hc9
  have hb5 := Nat.lt_of_lt_of_le hb5 hE.size
  have hb7 := Nat.lt_of_lt_of_le hb7 hE.size
  have hcap2 := h4.cap
  have hmost2 := h4.most
  have hcap5 := hZ.cap
  have hmost5 := hZ.most
  have H7 := Lib.hid h7
  have HI7 := Lib.hid hi7
  clear h1 h2 h4 hzs hZ hz7 h7 hi7 hpz hE hrow
  go_enter Try.func61, Try.ntmps61
  go_wp2_with fail
  have r0 := Blk.new w 27 #[.bool false, .slice none 0 0]
  have hEW : Ext w (w.alloc (Obj.cells #[.bool false, .slice none 0 0] 27)) := ((Below.refl _ w).alloc (by simp) _)
  generalize hgW : w.alloc (Obj.cells #[.bool false, .slice none 0 0] 27) = W at *
  clear hgW
  replace r0_0 := r0.cell (i := 0) rfl
  replace r0_1 := r0.cell (i := 1) rfl
  replace r0_f0 := r0.free 0
  replace r0_f1 := r0.free 1
  replace r0_lt := r0.lt
  have hd := Ext.trans hEW ((Below.refl _ _).drew : Ext W W.drew)
  have hdW : Ext W W.drew := (Below.refl _ _).drew
  have HRW := Lib.hid r0
  have HEW := Lib.hid hEW
  have r0 := r0.ext hdW; have r0_0 := r0.cell (i := 0) rfl; have r0_1 := r0.cell (i := 1) rfl; have r0_f0 := r0.free 0; have r0_f1 := r0.free 1; have r0_lt := r0.lt
  have q0 := q0.ext hd
  have q1 := q1.ext hd
  have q2 := q2.ext hd
  have g00 := q0.cell (i := 0) rfl
  have g01 := q0.cell (i := 1) rfl
  have g02 := q0.cell (i := 2) rfl
  have g1 := q1.cell (i := 0) rfl
  have g2 := q2.cell (i := 0) rfl
  have hc5 := (hd.cell (p := ⟨b5, o5 + (r + i), none⟩) hb5).trans hc5
  have hc8 := (hd.cell (p := ⟨b7, o7 + (k + j) * 2, none⟩) hb7).trans hc8
  have hc9 := (hd.cell (p := ⟨b7, o7 + (k + j) * 2 + 1, none⟩) hb7).trans hc9
  have hwr1 : IntKind.i64.wrap ((r : Int) + (i : Int)) = (r : Int) + (i : Int) := IntWalk.i64_in _ (by omega)
  have hwr2 : IntKind.i64.wrap ((k : Int) + (j : Int)) = (k : Int) + (j : Int) := IntWalk.i64_in _ (by omega)
  have hp1 : (0 : Int) ≤ (r : Int) + (i : Int) := by omega
  have hp2 : (r : Int) + (i : Int) < (n2 : Int) := by omega
  have hp3 : (0 : Int) ≤ (k : Int) + (j : Int) := by omega
  have hp4 : (k : Int) + (j : Int) < (n5 : Int) := by omega
  have ht1 : ((r : Int) + (i : Int)).toNat = r + i := by omega
  have ht2 : ((k : Int) + (j : Int)).toNat = k + j := by omega
  have HD := Lib.hid hd
  have HQ : Hid (w0.heap.size ≤ w0.heap.size) := Lib.hid (Nat.le_refl _)
  clear hd hdW
  refine wp_region_noPanic ?_
  refine wp_region_held_drew (S := (fun w' => w'.cell? ⟨pm, 0, none⟩ = some (.bool b) ∧ w'.cell? ⟨pm, 1, none⟩ = some (.slice a n c) ∧ w'.cell? ⟨pm, 2, none⟩ = some (.slice (some ⟨b5, o5, none⟩) n2 c2) ∧ w'.cell? ⟨pr, 0, none⟩ = some (.int .i64 (r : Int)) ∧ w'.cell? ⟨pk, 0, none⟩ = some (.int .i64 (k : Int)) ∧ w'.cell? ⟨b5, o5 + (r + i), none⟩ = some (.slice (some ⟨b7, o7, none⟩) n5 c5) ∧ w'.cell? ⟨b7, o7 + (k + j) * 2, none⟩ = some (.bool s7) ∧ w'.cell? ⟨b7, o7 + (k + j) * 2 + 1, none⟩ = some (.slice a7 n7 c7))) (by kernel_rfl) ⟨g00, g01, g02, g1, g2, hc5, hc8, hc9⟩ (fun hHeld => ?_)
  refine takeD 0 8 (v := ?_) rfl rfl (by kernel_rfl) (by kernel_rfl) (by kernel_rfl) (fun _ _ _ h => h) (Or.inl ⟨by kernel_rfl, ?hy⟩) hHeld ?_
  case hy => (intro w hSw; (try dsimp only at hSw); go_simp; try with_reducible rfl)
  try simp only [List.setIfInBounds_toArray, List.set_cons_zero, List.set_cons_succ]
  refine takeD 1 9 (v := ?_) rfl rfl (by kernel_rfl) (by kernel_rfl) (by kernel_rfl) (fun _ _ _ h => h) (Or.inl ⟨by kernel_rfl, ?hy⟩) hHeld ?_
  case hy => (intro w hSw; (try dsimp only at hSw); go_simp; try with_reducible rfl)
  try simp only [List.setIfInBounds_toArray, List.set_cons_zero, List.set_cons_succ]
  refine takeD 2 10 (v := ?_) rfl rfl (by kernel_rfl) (by kernel_rfl) (by kernel_rfl) (fun _ _ _ h => h) (Or.inl ⟨by kernel_rfl, ?hy⟩) hHeld ?_
  case hy => (intro w hSw; (try dsimp only at hSw); go_simp; try with_reducible rfl)
  try simp only [List.setIfInBounds_toArray, List.set_cons_zero, List.set_cons_succ]
  refine takeD 3 11 (v := ?_) rfl rfl (by kernel_rfl) (by kernel_rfl) (by kernel_rfl) (fun _ _ _ h => h) (Or.inl ⟨by kernel_rfl, ?hy⟩) hHeld ?_
  case hy => (intro w hSw; (try dsimp only at hSw); go_simp; try with_reducible rfl)
  try simp only [List.setIfInBounds_toArray, List.set_cons_zero, List.set_cons_succ]
  refine takeD 4 12 (v := ?_) rfl rfl (by kernel_rfl) (by kernel_rfl) (by kernel_rfl) (fun _ _ _ h => h) (Or.inl ⟨by kernel_rfl, ?hy⟩) hHeld ?_
  case hy => (intro w hSw; (try dsimp only at hSw); go_simp; try with_reducible rfl)
  try simp only [List.setIfInBounds_toArray, List.set_cons_zero, List.set_cons_succ]
  refine takeD 5 13 (v := ?_) rfl rfl (by kernel_rfl) (by kernel_rfl) (by kernel_rfl) (fun _ _ _ h => h) (Or.inl ⟨by kernel_rfl, ?hy⟩) hHeld ?_
  case hy => (intro w hSw; (try dsimp only at hSw); go_simp; try with_reducible rfl)
  try simp only [List.setIfInBounds_toArray, List.set_cons_zero, List.set_cons_succ]
  refine takeD 6 14 (v := ?_) rfl rfl (by kernel_rfl) (by kernel_rfl) (by kernel_rfl) (fun _ _ _ h => h) (Or.inl ⟨by kernel_rfl, ?hy⟩) hHeld ?_
  case hy => (intro w hSw; (try dsimp only at hSw); go_simp; try with_reducible rfl)
  try simp only [List.setIfInBounds_toArray, List.set_cons_zero, List.set_cons_succ]
  refine takeD 7 15 (v := ?_) rfl rfl (by kernel_rfl) (by kernel_rfl) (by kernel_rfl) (fun _ _ _ h => h) (Or.inl ⟨by kernel_rfl, ?hy⟩) hHeld ?_
  case hy => (intro w hSw; (try dsimp only at hSw); go_simp; try with_reducible rfl)
  try simp only [List.setIfInBounds_toArray, List.set_cons_zero, List.set_cons_succ]
  refine takeD 8 16 (v := ?_) rfl rfl (by kernel_rfl) (by kernel_rfl) (by kernel_rfl) (fun _ _ _ h => h) (Or.inl ⟨by kernel_rfl, ?hy⟩) hHeld ?_
  case hy => (intro w hSw; (try dsimp only at hSw); go_simp; try with_reducible rfl)
  try simp only [List.setIfInBounds_toArray, List.set_cons_zero, List.set_cons_succ]
  refine takeD 9 17 (v := ?_) rfl rfl (by kernel_rfl) (by kernel_rfl) (by kernel_rfl) (fun _ _ _ h => h) (Or.inl ⟨by kernel_rfl, ?hy⟩) hHeld ?_
  case hy => (intro w hSw; (try dsimp only at hSw); go_simp; try with_reducible rfl)
  try simp only [List.setIfInBounds_toArray, List.set_cons_zero, List.set_cons_succ]
  refine takeD 10 18 (v := ?_) rfl rfl (by kernel_rfl) (by kernel_rfl) (by kernel_rfl) (fun _ _ _ h => h) (Or.inl ⟨by kernel_rfl, ?hy⟩) hHeld ?_
  case hy => (intro w hSw; (try dsimp only at hSw); go_simp; try with_reducible rfl)
  try simp only [List.setIfInBounds_toArray, List.set_cons_zero, List.set_cons_succ]
  refine takeD 11 19 (v := ?_) rfl rfl (by kernel_rfl) (by kernel_rfl) (by kernel_rfl) (fun _ _ _ h => h) (Or.inl ⟨by kernel_rfl, ?hy⟩) hHeld ?_
  case hy => (intro w hSw; (try dsimp only at hSw); go_simp; try with_reducible rfl)
  try simp only [List.setIfInBounds_toArray, List.set_cons_zero, List.set_cons_succ]
  refine stepD 12 rfl (by kernel_rfl) (fun Kc hKc => ?_)
  refine Eq.mpr (if_pos (by kernel_rfl)) ?_
  go_simp
  have hEV : Ext w ((W.setCell ⟨w.heap.size, 0, none⟩ (.bool s7)).setCell ⟨w.heap.size, 1, none⟩ (.slice a7 n7 c7)).drew := (Below.setCell (Below.setCell HEW.out (p := ⟨w.heap.size, 0, none⟩) (Nat.le_refl _) (.bool s7)) (p := ⟨w.heap.size, 1, none⟩) (Nat.le_refl _) (.slice a7 n7 c7)).drew
  have hcc : ∀ p : Addr, p.block < w.heap.size → ((W.setCell ⟨w.heap.size, 0, none⟩ (.bool s7)).setCell ⟨w.heap.size, 1, none⟩ (.slice a7 n7 c7)).drew.cell? p = W.drew.cell? p := fun p hp => (hEV.cell hp).trans (HD.out.cell hp).symm
  refine hKc.out _ _ ⟨(hcc ⟨pm, 0, none⟩ hlm).trans g00, (hcc ⟨pm, 1, none⟩ hlm).trans g01, (hcc ⟨pm, 2, none⟩ hlm).trans g02, (hcc ⟨pr, 0, none⟩ hlr).trans g1, (hcc ⟨pk, 0, none⟩ hlk).trans g2, (hcc ⟨b5, o5 + (r + i), none⟩ hb5).trans hc5, (hcc ⟨b7, o7 + (k + j) * 2, none⟩ hb7).trans hc8, (hcc ⟨b7, o7 + (k + j) * 2 + 1, none⟩ hb7).trans hc9⟩ (fun hHeld => ?_)
  clear hKc Kc
  try simp only [Act.put, List.setIfInBounds_toArray, List.set_cons_zero, List.set_cons_succ]
  refine wpAnyH_done (by kernel_rfl) ?_ _
  refine NoPanic.normal ?_
  have HF : Hid (CellR w0 w z (.returned (.agg #[.bool s7, .slice a7 n7 c7])) ((W.setCell ⟨w.heap.size, 0, none⟩ (.bool s7)).setCell ⟨w.heap.size, 1, none⟩ (.slice a7 n7 c7)).drew) := Lib.hid ⟨s7, a7, n7, c7, l7, rfl, .inl H7.out, HI7.out, by omega, hEV⟩
  have r2 := (HRW.out.set 0 (.bool s7)).set 1 (.slice a7 n7 c7)
  have hr0 := r2.cell (i := 0) rfl
  have hr1 := r2.cell (i := 1) rfl
  clear hHeld hcc hEV r2 g00 g01 g02 g1 g2 hc5 hc8 hc9 r0 r0_0 r0_1 r0_f0 r0_f1 r0_lt q0 q1 q2
  go_wp2_with fail
  exact bodyPost_ret (v := .agg #[.bool s7, .slice a7 n7 c7]) (by simp [results, Try.results61, go_sem, hr0, hr1]) rfl HF.out

set_option maxRecDepth 100000 in
set_option maxHeartbeats 4000000 in
theorem qCut_any (K : Nat) (hK : K ≤ 8796093022208) (w : World) (b : Bool) (a a2 : Option Addr) (n c n2 c2 : Nat) (d : Int) (zss : List (List Int)) (h : MatS K w b a n c a2 n2 c2 d zss) (hs : Hid (checkE d zss = 0)) (m : Nat) (hm : Hid (colsOf zss = m)) (hn2 : n2 ≤ 1099511627776) (hmm : m ≤ 1099511627776)
    (r r2 k k2 : Nat) (hr : r ≤ r2) (hr2 : r2 ≤ n2) (hk : k ≤ k2) (hk2 : k2 ≤ m) (Z : List (List Int)) (hZ : Hid (tableZ (partZ zss r k) (r2 - r) (k2 - k) = Z)) :
    Calls Try.prog 22 #[.agg #[.bool b, .slice a n c, .slice a2 n2 c2], .int .i64 (r : Int), .int .i64 (r2 : Int), .int .i64 (k : Int), .int .i64 (k2 : Int)] w (RMatOk w (madeDen d Z) (madeRows d Z)) := by
  have hen : Enters Try.prog 61 := enters_mk Try.func61 (by kernel_rfl) rfl
  have hd0 : d ≠ 0 := (checkE_zero hs.out).1
  have hrowm : Hid (∀ zs ∈ zss, zs.length = m) := Lib.hid (fun zs hz => by rw [← hm.out]; exact even_len (checkE_zero hs.out).2 zs hz)
  have hrowb : Hid (∀ zs ∈ zss, zs.length ≤ 1099511627776) := Lib.hid (fun zs hz => by rw [hrowm.out zs hz]; exact hmm)
  have e1 : decide (r2 < r) = false := decide_eq_false (by omega)
  have e2 : decide (n2 < r2) = false := decide_eq_false (by omega)
  have e3 : decide (k2 < k) = false := decide_eq_false (by omega)
  have e4 : decide (m < k2) = false := decide_eq_false (by omega)
  go_enter Try.func22, Try.ntmps22
  go_wp2_with fail
  have p0 := Blk.new w 30 #[.bool b, .slice a n c, .slice a2 n2 c2]
  have pr := Blk.new (w.alloc (Obj.cells #[.bool b, .slice a n c, .slice a2 n2 c2] 30)) 3 #[.int .i64 (r : Int)]
  replace p0 := p0.ext ((Below.refl _ _).alloc (Nat.le_refl _) (Obj.cells #[.int .i64 (r : Int)] 3))
  have pk := Blk.new ((w.alloc (Obj.cells #[.bool b, .slice a n c, .slice a2 n2 c2] 30)).alloc (Obj.cells #[.int .i64 (r : Int)] 3)) 3 #[.int .i64 (k : Int)]
  replace p0 := p0.ext ((Below.refl _ _).alloc (Nat.le_refl _) (Obj.cells #[.int .i64 (k : Int)] 3))
  replace pr := pr.ext ((Below.refl _ _).alloc (Nat.le_refl _) (Obj.cells #[.int .i64 (k : Int)] 3))
  have r0 := Blk.new (((w.alloc (Obj.cells #[.bool b, .slice a n c, .slice a2 n2 c2] 30)).alloc (Obj.cells #[.int .i64 (r : Int)] 3)).alloc (Obj.cells #[.int .i64 (k : Int)] 3)) 30 #[.bool false, .slice none 0 0, .slice none 0 0]
  replace p0 := p0.ext ((Below.refl _ _).alloc (Nat.le_refl _) (Obj.cells #[.bool false, .slice none 0 0, .slice none 0 0] 30))
  replace pr := pr.ext ((Below.refl _ _).alloc (Nat.le_refl _) (Obj.cells #[.bool false, .slice none 0 0, .slice none 0 0] 30))
  replace pk := pk.ext ((Below.refl _ _).alloc (Nat.le_refl _) (Obj.cells #[.bool false, .slice none 0 0, .slice none 0 0] 30))
  have hEW : Ext w ((((w.alloc (Obj.cells #[.bool b, .slice a n c, .slice a2 n2 c2] 30)).alloc (Obj.cells #[.int .i64 (r : Int)] 3)).alloc (Obj.cells #[.int .i64 (k : Int)] 3)).alloc (Obj.cells #[.bool false, .slice none 0 0, .slice none 0 0] 30)) := (((((Below.refl _ w).alloc (by simp) _).alloc (by simp) _).alloc (by simp; omega) _).alloc (by simp; omega) _)
  generalize hgW : (((w.alloc (Obj.cells #[.bool b, .slice a n c, .slice a2 n2 c2] 30)).alloc (Obj.cells #[.int .i64 (r : Int)] 3)).alloc (Obj.cells #[.int .i64 (k : Int)] 3)).alloc (Obj.cells #[.bool false, .slice none 0 0, .slice none 0 0] 30) = W at *
  clear hgW
  simp only [World.size_alloc] at pr pk r0
  have p0_ne_pr : ¬ w.heap.size = w.heap.size + 1 := by omega
  have p0_ne_pk : ¬ w.heap.size = w.heap.size + 1 + 1 := by omega
  have p0_ne_r0 : ¬ w.heap.size = w.heap.size + 1 + 1 + 1 := by omega
  have pr_ne_p0 : ¬ w.heap.size + 1 = w.heap.size := by omega
  have pr_ne_pk : ¬ w.heap.size + 1 = w.heap.size + 1 + 1 := by omega
  have pr_ne_r0 : ¬ w.heap.size + 1 = w.heap.size + 1 + 1 + 1 := by omega
  have pk_ne_p0 : ¬ w.heap.size + 1 + 1 = w.heap.size := by omega
  have pk_ne_pr : ¬ w.heap.size + 1 + 1 = w.heap.size + 1 := by omega
  have pk_ne_r0 : ¬ w.heap.size + 1 + 1 = w.heap.size + 1 + 1 + 1 := by omega
  have r0_ne_p0 : ¬ w.heap.size + 1 + 1 + 1 = w.heap.size := by omega
  have r0_ne_pr : ¬ w.heap.size + 1 + 1 + 1 = w.heap.size + 1 := by omega
  have r0_ne_pk : ¬ w.heap.size + 1 + 1 + 1 = w.heap.size + 1 + 1 := by omega
  replace p0_0 := p0.cell (i := 0) rfl
  replace p0_1 := p0.cell (i := 1) rfl
  replace p0_2 := p0.cell (i := 2) rfl
  replace pr_0 := pr.cell (i := 0) rfl
  replace pk_0 := pk.cell (i := 0) rfl
  replace r0_0 := r0.cell (i := 0) rfl
  replace r0_1 := r0.cell (i := 1) rfl
  replace r0_2 := r0.cell (i := 2) rfl
  replace r0_f0 := r0.free 0
  replace r0_f1 := r0.free 1
  replace r0_f2 := r0.free 2
  replace r0_lt := r0.lt
  refine (qSize_ok K hK W b a a2 n c n2 c2 d zss (h.ext hEW) hs hn2 hrowb m hm).mono ?_
  rintro e w1 ⟨rfl, hE1⟩
  replace p0 := p0.ext hE1; replace p0_0 := p0.cell (i := 0) rfl; replace p0_1 := p0.cell (i := 1) rfl; replace p0_2 := p0.cell (i := 2) rfl; replace pr := pr.ext hE1; replace pr_0 := pr.cell (i := 0) rfl; replace pk := pk.ext hE1; replace pk_0 := pk.cell (i := 0) rfl; replace r0 := r0.ext hE1; replace r0_0 := r0.cell (i := 0) rfl; replace r0_1 := r0.cell (i := 1) rfl; replace r0_2 := r0.cell (i := 2) rfl; replace r0_f0 := r0.free 0; replace r0_f1 := r0.free 1; replace r0_f2 := r0.free 2; replace r0_lt := r0.lt
  have hE0 := Ext.trans hEW hE1
  have hW : w.heap.size + 1 + 1 + 1 < w1.heap.size := r0_lt
  clear hEW hE1
  go_wp2_with fail
  have hd : Ext w1 w1.drew := (Below.refl _ _).drew
  have p0 := p0.ext hd; have p0_0 := p0.cell (i := 0) rfl; have p0_1 := p0.cell (i := 1) rfl; have p0_2 := p0.cell (i := 2) rfl; have pr := pr.ext hd; have pr_0 := pr.cell (i := 0) rfl; have pk := pk.ext hd; have pk_0 := pk.cell (i := 0) rfl; have r0 := r0.ext hd; have r0_0 := r0.cell (i := 0) rfl; have r0_1 := r0.cell (i := 1) rfl; have r0_2 := r0.cell (i := 2) rfl; have r0_f0 := r0.free 0; have r0_f1 := r0.free 1; have r0_f2 := r0.free 2; have r0_lt := r0.lt
  replace hE0 := Ext.trans hE0 hd
  have HM := Lib.hid (h.ext hE0)
  have hw1 : IntKind.i64.wrap ((r2 : Int) - (r : Int)) = ((r2 - r : Nat) : Int) := by rw [IntWalk.i64_in _ (by omega)]; omega
  have hw2 : IntKind.i64.wrap ((k2 : Int) - (k : Int)) = ((k2 - k : Nat) : Int) := by rw [IntWalk.i64_in _ (by omega)]; omega
  obtain ⟨R, hR⟩ : ∃ R, r2 - r = R := ⟨_, rfl⟩
  obtain ⟨C, hC⟩ : ∃ C, k2 - k = C := ⟨_, rfl⟩
  have HCO := Lib.hid (cut1_any K hK w1.drew b a a2 n c n2 c2 d zss HM.out m hrowm hn2 hmm w.heap.size (w.heap.size + 1) (w.heap.size + 1 + 1) _ _ _ p0 r k pr pk r2 k2 hr2 hk2)
  rw [hR, hC] at HCO
  rw [hR] at hw1
  rw [hC] at hw2
  rw [hR, hC] at hZ
  have hRb : R ≤ 1099511627776 := by omega
  have hCb : C ≤ 1099511627776 := by omega
  clear hd h hR hC hrowm hrowb
  refine wp_region_noPanic ?_
  refine wp_region_held_drew (S := (fun w' => w'.cell? ⟨w.heap.size, 0, none⟩ = some (.bool b) ∧ w'.cell? ⟨w.heap.size, 1, none⟩ = some (.slice a n c) ∧ w'.cell? ⟨w.heap.size, 2, none⟩ = some (.slice a2 n2 c2) ∧ w'.cell? ⟨w.heap.size + 1, 0, none⟩ = some (.int .i64 (r : Int)) ∧ w'.cell? ⟨w.heap.size + 1 + 1, 0, none⟩ = some (.int .i64 (k : Int)))) (by kernel_rfl) ⟨p0_0, p0_1, p0_2, pr_0, pk_0⟩ (fun hHeld => ?_)
  refine takeD 0 54 (v := ?_) rfl rfl (by kernel_rfl) (by kernel_rfl) (by kernel_rfl) (fun _ _ _ h => h) (Or.inl ⟨by kernel_rfl, ?hy⟩) hHeld ?_
  case hy => (intro w hSw; (try dsimp only at hSw); go_simp; try with_reducible rfl)
  try simp only [List.setIfInBounds_toArray, List.set_cons_zero, List.set_cons_succ]
  refine takeD 1 55 (v := ?_) rfl rfl (by kernel_rfl) (by kernel_rfl) (by kernel_rfl) (fun _ _ _ h => h) (Or.inl ⟨by kernel_rfl, ?hy⟩) hHeld ?_
  case hy => (intro w hSw; (try dsimp only at hSw); go_simp; try with_reducible rfl)
  try simp only [List.setIfInBounds_toArray, List.set_cons_zero, List.set_cons_succ]
  refine takeD 2 56 (v := ?_) rfl rfl (by kernel_rfl) (by kernel_rfl) (by kernel_rfl) (fun _ _ _ h => h) (Or.inl ⟨by kernel_rfl, ?hy⟩) hHeld ?_
  case hy => (intro w hSw; (try dsimp only at hSw); go_simp; try with_reducible rfl)
  try simp only [List.setIfInBounds_toArray, List.set_cons_zero, List.set_cons_succ]
  refine takeD 3 57 (v := ?_) rfl rfl (by kernel_rfl) (by kernel_rfl) (by kernel_rfl) (fun _ _ _ h => h) (Or.inl ⟨by kernel_rfl, ?hy⟩) hHeld ?_
  case hy => (intro w hSw; (try dsimp only at hSw); go_simp; try with_reducible rfl)
  try simp only [List.setIfInBounds_toArray, List.set_cons_zero, List.set_cons_succ]
  refine takeD 4 58 (v := ?_) rfl rfl (by kernel_rfl) (by kernel_rfl) (by kernel_rfl) (fun _ _ _ h => h) (Or.inl ⟨by kernel_rfl, ?hy⟩) hHeld ?_
  case hy => (intro w hSw; (try dsimp only at hSw); go_simp; try with_reducible rfl)
  try simp only [List.setIfInBounds_toArray, List.set_cons_zero, List.set_cons_succ]
  refine takeD 5 59 (v := ?_) rfl rfl (by kernel_rfl) (by kernel_rfl) (by kernel_rfl) (fun _ _ _ h => h) (Or.inl ⟨by kernel_rfl, ?hy⟩) hHeld ?_
  case hy => (intro w hSw; (try dsimp only at hSw); go_simp; try with_reducible rfl)
  try simp only [List.setIfInBounds_toArray, List.set_cons_zero, List.set_cons_succ]
  refine takeD 6 60 (v := ?_) rfl rfl (by kernel_rfl) (by kernel_rfl) (by kernel_rfl) (fun _ _ _ h => h) (Or.inl ⟨by kernel_rfl, ?hy⟩) hHeld ?_
  case hy => (intro w hSw; (try dsimp only at hSw); go_simp; try with_reducible rfl)
  try simp only [List.setIfInBounds_toArray, List.set_cons_zero, List.set_cons_succ]
  refine takeD 7 61 (v := ?_) rfl rfl (by kernel_rfl) (by kernel_rfl) (by kernel_rfl) (fun _ _ _ h => h) (Or.inl ⟨by kernel_rfl, ?hy⟩) hHeld ?_
  case hy => (intro w hSw; (try dsimp only at hSw); go_simp; try with_reducible rfl)
  try simp only [List.setIfInBounds_toArray, List.set_cons_zero, List.set_cons_succ]
  refine takeD 8 62 (v := ?_) rfl rfl (by kernel_rfl) (by kernel_rfl) (by kernel_rfl) (fun _ _ _ h => h) (Or.inl ⟨by kernel_rfl, ?hy⟩) hHeld ?_
  case hy => (intro w hSw; (try dsimp only at hSw); go_simp; try with_reducible rfl)
  try simp only [List.setIfInBounds_toArray, List.set_cons_zero, List.set_cons_succ]
  refine stepD 9 rfl (by kernel_rfl) (fun Kc hKc => ?_)
  refine Eq.mpr (if_pos (by kernel_rfl)) ?_
  go_simp
  refine (table_any 61 #[.pointer (some ⟨w.heap.size, 0, none⟩), .pointer (some ⟨w.heap.size + 1, 0, none⟩), .pointer (some ⟨w.heap.size + 1 + 1, 0, none⟩)] R C (partZ zss r k) w1.drew hen HCO hRb hCb).mono ?_; rintro e w2 ⟨a4, c4, rfl, h4, hE1⟩; replace p0 := p0.ext hE1; replace p0_0 := p0.cell (i := 0) rfl; replace p0_1 := p0.cell (i := 1) rfl; replace p0_2 := p0.cell (i := 2) rfl; replace p0_f0 := p0.free 0; replace p0_f1 := p0.free 1; replace p0_f2 := p0.free 2; replace p0_lt := p0.lt; replace pk := pk.ext hE1; replace pk_0 := pk.cell (i := 0) rfl; replace pk_f0 := pk.free 0; replace pk_lt := pk.lt; replace pr := pr.ext hE1; replace pr_0 := pr.cell (i := 0) rfl; replace pr_f0 := pr.free 0; replace pr_lt := pr.lt; replace r0 := r0.ext hE1; replace r0_0 := r0.cell (i := 0) rfl; replace r0_1 := r0.cell (i := 1) rfl; replace r0_2 := r0.cell (i := 2) rfl; replace r0_f0 := r0.free 0; replace r0_f1 := r0.free 1; replace r0_f2 := r0.free 2; replace r0_lt := r0.lt
  go_wp2_with fail
  refine hKc.out _ _ ⟨p0_0, p0_1, p0_2, pr_0, pk_0⟩ (fun hHeld => ?_)
  clear hKc Kc
  try simp only [Act.put, List.setIfInBounds_toArray, List.set_cons_zero, List.set_cons_succ]
  rw [hZ.out] at h4
  have hlenZ : ∀ row ∈ Z, row.length ≤ 1099511627776 := by
    intro row hrw
    rw [← hZ.out] at hrw
    rw [table_len _ _ _ row hrw]; omega
  obtain ⟨xss, hG, hxz⟩ := grid_of (rows_of_table h4 hE1) (by omega) hlenZ
  obtain ⟨l0, h1, h2, h3, -⟩ := HM.out.ext hE1
  have hE2 := Ext.trans hE0 hE1
  have HXZ := Lib.hid hxz
  have HG := Lib.hid hG
  have HDL := Lib.hid h2
  have H1 := Lib.hid h1
  have HE2 := Lib.hid hE2
  have hsz2 := hE1.size
  have hszd : w1.heap.size = w1.drew.heap.size := rfl
  clear hxz hG h4 hE0 hE1 hlenZ hen h1 h2 hE2
  refine stepD 10 rfl (by kernel_rfl) (fun Kc hKc => ?_)
  refine Eq.mpr (if_pos (by kernel_rfl)) ?_
  go_simp
  refine (made_any w2 b a a4 n c R c4 l0 xss H1.out HG.out (by omega) d HDL.out hd0).mono ?_; rintro e w5 ⟨a5, n5, c5, a6, n6, c6, rfl, h5, h6, hE1⟩; rw [HXZ.out] at h5 h6 ⊢; replace p0 := p0.ext hE1; replace p0_0 := p0.cell (i := 0) rfl; replace p0_1 := p0.cell (i := 1) rfl; replace p0_2 := p0.cell (i := 2) rfl; replace p0_f0 := p0.free 0; replace p0_f1 := p0.free 1; replace p0_f2 := p0.free 2; replace p0_lt := p0.lt; replace pk := pk.ext hE1; replace pk_0 := pk.cell (i := 0) rfl; replace pk_f0 := pk.free 0; replace pk_lt := pk.lt; replace pr := pr.ext hE1; replace pr_0 := pr.cell (i := 0) rfl; replace pr_f0 := pr.free 0; replace pr_lt := pr.lt; replace r0 := r0.ext hE1; replace r0_0 := r0.cell (i := 0) rfl; replace r0_1 := r0.cell (i := 1) rfl; replace r0_2 := r0.cell (i := 2) rfl; replace r0_f0 := r0.free 0; replace r0_f1 := r0.free 1; replace r0_f2 := r0.free 2; replace r0_lt := r0.lt
  go_wp2_with fail
  refine hKc.out _ _ ⟨p0_0, p0_1, p0_2, pr_0, pk_0⟩ (fun hHeld => ?_)
  clear hKc Kc
  try simp only [Act.put, List.setIfInBounds_toArray, List.set_cons_zero, List.set_cons_succ]
  generalize hde : madeDen d Z = de at *
  generalize hzz : madeRows d Z = zz at *
  have hrlt : w.heap.size + 1 + 1 + 1 < w2.heap.size := by omega
  have HF := Lib.hid (RMatOk.box (w := w) (r := w.heap.size + 1 + 1 + 1) (v0 := .bool (decide (de < 0))) (v1 := .slice a5 n5 c5) (v2 := .slice a6 n6 c6) (by omega) hrlt (Ext.trans HE2.out hE1) h5 h6)
  clear h5 h6 hE1 hde hzz
  generalize decide (de < 0) = sg at *
  have p9 := p0
  refine stepD 11 rfl (by kernel_rfl) (fun Kc hKc => ?_)
  refine Eq.mpr (if_pos (by kernel_rfl)) ?_
  go_simp
  have r2 := ((r0.set 0 (.bool sg)).set 1 (.slice a5 n5 c5)).set 2 (.slice a6 n6 c6)
  have hr0 := r2.cell (i := 0) rfl
  have hr1 := r2.cell (i := 1) rfl
  have hr2 := r2.cell (i := 2) rfl
  replace p0 := ((p0.set_ne 0 (.bool sg) (show w.heap.size ≠ w.heap.size + 1 + 1 + 1 by omega)).set_ne 1 (.slice a5 n5 c5) (show w.heap.size ≠ w.heap.size + 1 + 1 + 1 by omega)).set_ne 2 (.slice a6 n6 c6) (show w.heap.size ≠ w.heap.size + 1 + 1 + 1 by omega)
  replace pr := ((pr.set_ne 0 (.bool sg) (show w.heap.size + 1 ≠ w.heap.size + 1 + 1 + 1 by omega)).set_ne 1 (.slice a5 n5 c5) (show w.heap.size + 1 ≠ w.heap.size + 1 + 1 + 1 by omega)).set_ne 2 (.slice a6 n6 c6) (show w.heap.size + 1 ≠ w.heap.size + 1 + 1 + 1 by omega)
  replace pk := ((pk.set_ne 0 (.bool sg) (show w.heap.size + 1 + 1 ≠ w.heap.size + 1 + 1 + 1 by omega)).set_ne 1 (.slice a5 n5 c5) (show w.heap.size + 1 + 1 ≠ w.heap.size + 1 + 1 + 1 by omega)).set_ne 2 (.slice a6 n6 c6) (show w.heap.size + 1 + 1 ≠ w.heap.size + 1 + 1 + 1 by omega)
  refine hKc.out _ _ ⟨p0.cell (i := 0) rfl, p0.cell (i := 1) rfl, p0.cell (i := 2) rfl, pr.cell (i := 0) rfl, pk.cell (i := 0) rfl⟩ (fun hHeld => ?_)
  clear hKc Kc
  try simp only [Act.put, List.setIfInBounds_toArray, List.set_cons_zero, List.set_cons_succ]
  refine takeD 12 11 (v := ?_) rfl rfl (by kernel_rfl) (by kernel_rfl) (by kernel_rfl) (fun _ _ _ h => h) (Or.inl ⟨by kernel_rfl, ?hy⟩) hHeld ?_
  case hy => (intro w hSw; (try dsimp only at hSw); go_simp; try with_reducible rfl)
  try simp only [List.setIfInBounds_toArray, List.set_cons_zero, List.set_cons_succ]
  refine wpAnyH_done (by kernel_rfl) ?_ _
  refine NoPanic.normal ?_
  clear r0 r0_0 r0_1 r0_2 r0_f0 r0_f1 r0_f2 r0_lt r2 p0 p0_0 p0_1 p0_2 pr pr_0 pk pk_0 hHeld p9
  go_wp2_with fail
  exact bodyPost_ret (v := .tuple #[.agg #[.bool sg, .slice a5 n5 c5, .slice a6 n6 c6], .int .i64 0]) (by simp [results, Try.results22, go_sem, hr0, hr1, hr2]) rfl HF.out
end Go.Proofs.Ytbhenelehhiakaa
