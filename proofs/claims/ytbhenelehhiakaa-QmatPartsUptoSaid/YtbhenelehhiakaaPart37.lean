/-
  qmat: the errors of Cut (printed by genK.py).
-/
import Derived.Test.YtbhenelehhiakaaPart34
set_option linter.unusedVariables false
set_option linter.unusedSimpArgs false
namespace Go.Proofs.Ytbhenelehhiakaa
open Go.RowKit

set_option maxRecDepth 100000 in
set_option maxHeartbeats 4000000 in
theorem qCut_err (K : Nat) (hK : K ≤ 8796093022208) (w : World) (b : Bool) (a a2 : Option Addr) (n c n2 c2 : Nat) (d : Int) (zss : List (List Int)) (h : MatS K w b a n c a2 n2 c2 d zss) (s : Int) (hs : Hid (checkE d zss = s)) (h0 : s ≠ 0) (r r2 k k2 : Int) :
    Calls Try.prog 22 #[.agg #[.bool b, .slice a n c, .slice a2 n2 c2], .int .i64 r, .int .i64 r2, .int .i64 k, .int .i64 k2] w (RMatErr w s) := by
  have hs0 : (s != 0) = true := by simpa using h0
  go_enter Try.func22, Try.ntmps22
  go_wp2_with fail
  have p0 := Blk.new w 30 #[.bool b, .slice a n c, .slice a2 n2 c2]
  have pr := Blk.new (w.alloc (Obj.cells #[.bool b, .slice a n c, .slice a2 n2 c2] 30)) 3 #[.int .i64 r]
  replace p0 := p0.ext ((Below.refl _ _).alloc (Nat.le_refl _) (Obj.cells #[.int .i64 r] 3))
  have pk := Blk.new ((w.alloc (Obj.cells #[.bool b, .slice a n c, .slice a2 n2 c2] 30)).alloc (Obj.cells #[.int .i64 r] 3)) 3 #[.int .i64 k]
  replace p0 := p0.ext ((Below.refl _ _).alloc (Nat.le_refl _) (Obj.cells #[.int .i64 k] 3))
  replace pr := pr.ext ((Below.refl _ _).alloc (Nat.le_refl _) (Obj.cells #[.int .i64 k] 3))
  have r0 := Blk.new (((w.alloc (Obj.cells #[.bool b, .slice a n c, .slice a2 n2 c2] 30)).alloc (Obj.cells #[.int .i64 r] 3)).alloc (Obj.cells #[.int .i64 k] 3)) 30 #[.bool false, .slice none 0 0, .slice none 0 0]
  replace p0 := p0.ext ((Below.refl _ _).alloc (Nat.le_refl _) (Obj.cells #[.bool false, .slice none 0 0, .slice none 0 0] 30))
  replace pr := pr.ext ((Below.refl _ _).alloc (Nat.le_refl _) (Obj.cells #[.bool false, .slice none 0 0, .slice none 0 0] 30))
  replace pk := pk.ext ((Below.refl _ _).alloc (Nat.le_refl _) (Obj.cells #[.bool false, .slice none 0 0, .slice none 0 0] 30))
  have hEW : Ext w ((((w.alloc (Obj.cells #[.bool b, .slice a n c, .slice a2 n2 c2] 30)).alloc (Obj.cells #[.int .i64 r] 3)).alloc (Obj.cells #[.int .i64 k] 3)).alloc (Obj.cells #[.bool false, .slice none 0 0, .slice none 0 0] 30)) := (((((Below.refl _ w).alloc (by simp) _).alloc (by simp) _).alloc (by simp; omega) _).alloc (by simp; omega) _)
  generalize hgW : (((w.alloc (Obj.cells #[.bool b, .slice a n c, .slice a2 n2 c2] 30)).alloc (Obj.cells #[.int .i64 r] 3)).alloc (Obj.cells #[.int .i64 k] 3)).alloc (Obj.cells #[.bool false, .slice none 0 0, .slice none 0 0] 30) = W at *
  clear hgW
  simp only [World.size_alloc] at pr pk r0
  have p0_ne_pr : ¬ w.heap.size = w.heap.size + 1 := by omega
  have p0_ne_pk : ¬ w.heap.size = w.heap.size + 1 + 1 := by omega
  have p0_ne_r0 : ¬ w.heap.size = w.heap.size + 1 + 1 + 1 := by omega
  have pr_ne_p0 : ¬ w.heap.size + 1 = w.heap.size := by omega
  have pr_ne_pk : ¬ w.heap.size + 1 = w.heap.size + 1 + 1 := by omega
  have pr_ne_r0 : ¬ w.heap.size + 1 = w.heap.size + 1 + 1 + 1 := by omega
  have pk_ne_p0 : ¬ w.heap.size + 1 + 1 = w.heap.size := by omega
  have pk_ne_pr : ¬ w.heap.size + 1 + 1 = w.heap.size + 1 := by omega
  have pk_ne_r0 : ¬ w.heap.size + 1 + 1 = w.heap.size + 1 + 1 + 1 := by omega
  have r0_ne_p0 : ¬ w.heap.size + 1 + 1 + 1 = w.heap.size := by omega
  have r0_ne_pr : ¬ w.heap.size + 1 + 1 + 1 = w.heap.size + 1 := by omega
  have r0_ne_pk : ¬ w.heap.size + 1 + 1 + 1 = w.heap.size + 1 + 1 := by omega
  replace p0_0 := p0.cell (i := 0) rfl
  replace p0_1 := p0.cell (i := 1) rfl
  replace p0_2 := p0.cell (i := 2) rfl
  replace pr_0 := pr.cell (i := 0) rfl
  replace pk_0 := pk.cell (i := 0) rfl
  replace r0_0 := r0.cell (i := 0) rfl
  replace r0_1 := r0.cell (i := 1) rfl
  replace r0_2 := r0.cell (i := 2) rfl
  replace r0_f0 := r0.free 0
  replace r0_f1 := r0.free 1
  replace r0_f2 := r0.free 2
  replace r0_lt := r0.lt
  refine (qSize_err K hK W b a a2 n c n2 c2 d zss (h.ext hEW) s hs h0).mono ?_
  rintro e w1 ⟨rfl, hE1⟩
  replace r0 := r0.ext hE1; replace r0_0 := r0.cell (i := 0) rfl; replace r0_1 := r0.cell (i := 1) rfl; replace r0_2 := r0.cell (i := 2) rfl; replace r0_f0 := r0.free 0; replace r0_f1 := r0.free 1; replace r0_f2 := r0.free 2; replace r0_lt := r0.lt
  have HF : Hid (RMatErr w s (.returned (.tuple #[.agg #[.bool false, .slice none 0 0, .slice none 0 0], .int .i64 s])) (((w1.setCell ⟨w.heap.size + 1 + 1 + 1, 0, none⟩ (.bool false)).setCell ⟨w.heap.size + 1 + 1 + 1, 1, none⟩ (.slice none 0 0)).setCell ⟨w.heap.size + 1 + 1 + 1, 2, none⟩ (.slice none 0 0))) := Lib.hid ⟨rfl, ext_set3 (Ext.trans hEW hE1) _ _ _ (by omega)⟩
  have r2_ := ((r0.set 0 (.bool false)).set 1 (.slice none 0 0)).set 2 (.slice none 0 0)
  have hr0 := r2_.cell (i := 0) rfl
  have hr1 := r2_.cell (i := 1) rfl
  have hr2 := r2_.cell (i := 2) rfl
  clear hEW hE1 h
  go_wp2_with fail
  exact bodyPost_ret (v := .tuple #[.agg #[.bool false, .slice none 0 0, .slice none 0 0], .int .i64 s]) (by simp [results, Try.results22, go_sem, hr0, hr1, hr2]) rfl HF.out


set_option maxRecDepth 100000 in
set_option maxHeartbeats 4000000 in
theorem qCut_arg0 (K : Nat) (hK : K ≤ 8796093022208) (w : World) (b : Bool) (a a2 : Option Addr) (n c n2 c2 : Nat) (d : Int) (zss : List (List Int)) (h : MatS K w b a n c a2 n2 c2 d zss) (hs : Hid (checkE d zss = 0)) (m : Nat) (hm : Hid (colsOf zss = m)) (hn2 : n2 ≤ 1099511627776) (hmm : m ≤ 1099511627776) (r r2 k k2 : Int)  (t0 : r < 0) :
    Calls Try.prog 22 #[.agg #[.bool b, .slice a n c, .slice a2 n2 c2], .int .i64 r, .int .i64 r2, .int .i64 k, .int .i64 k2] w (RMatErr w 1) := by
  have hrowb : Hid (∀ zs ∈ zss, zs.length ≤ 1099511627776) := Lib.hid (fun zs hz => by rw [even_len (checkE_zero hs.out).2 zs hz, hm.out]; exact hmm)
  have d0 : decide (r < 0) = true := decide_eq_true t0
  go_enter Try.func22, Try.ntmps22
  go_wp2_with fail
  have p0 := Blk.new w 30 #[.bool b, .slice a n c, .slice a2 n2 c2]
  have pr := Blk.new (w.alloc (Obj.cells #[.bool b, .slice a n c, .slice a2 n2 c2] 30)) 3 #[.int .i64 r]
  replace p0 := p0.ext ((Below.refl _ _).alloc (Nat.le_refl _) (Obj.cells #[.int .i64 r] 3))
  have pk := Blk.new ((w.alloc (Obj.cells #[.bool b, .slice a n c, .slice a2 n2 c2] 30)).alloc (Obj.cells #[.int .i64 r] 3)) 3 #[.int .i64 k]
  replace p0 := p0.ext ((Below.refl _ _).alloc (Nat.le_refl _) (Obj.cells #[.int .i64 k] 3))
  replace pr := pr.ext ((Below.refl _ _).alloc (Nat.le_refl _) (Obj.cells #[.int .i64 k] 3))
  have r0 := Blk.new (((w.alloc (Obj.cells #[.bool b, .slice a n c, .slice a2 n2 c2] 30)).alloc (Obj.cells #[.int .i64 r] 3)).alloc (Obj.cells #[.int .i64 k] 3)) 30 #[.bool false, .slice none 0 0, .slice none 0 0]
  replace p0 := p0.ext ((Below.refl _ _).alloc (Nat.le_refl _) (Obj.cells #[.bool false, .slice none 0 0, .slice none 0 0] 30))
  replace pr := pr.ext ((Below.refl _ _).alloc (Nat.le_refl _) (Obj.cells #[.bool false, .slice none 0 0, .slice none 0 0] 30))
  replace pk := pk.ext ((Below.refl _ _).alloc (Nat.le_refl _) (Obj.cells #[.bool false, .slice none 0 0, .slice none 0 0] 30))
  have hEW : Ext w ((((w.alloc (Obj.cells #[.bool b, .slice a n c, .slice a2 n2 c2] 30)).alloc (Obj.cells #[.int .i64 r] 3)).alloc (Obj.cells #[.int .i64 k] 3)).alloc (Obj.cells #[.bool false, .slice none 0 0, .slice none 0 0] 30)) := (((((Below.refl _ w).alloc (by simp) _).alloc (by simp) _).alloc (by simp; omega) _).alloc (by simp; omega) _)
  generalize hgW : (((w.alloc (Obj.cells #[.bool b, .slice a n c, .slice a2 n2 c2] 30)).alloc (Obj.cells #[.int .i64 r] 3)).alloc (Obj.cells #[.int .i64 k] 3)).alloc (Obj.cells #[.bool false, .slice none 0 0, .slice none 0 0] 30) = W at *
  clear hgW
  simp only [World.size_alloc] at pr pk r0
  have p0_ne_pr : ¬ w.heap.size = w.heap.size + 1 := by omega
  have p0_ne_pk : ¬ w.heap.size = w.heap.size + 1 + 1 := by omega
  have p0_ne_r0 : ¬ w.heap.size = w.heap.size + 1 + 1 + 1 := by omega
  have pr_ne_p0 : ¬ w.heap.size + 1 = w.heap.size := by omega
  have pr_ne_pk : ¬ w.heap.size + 1 = w.heap.size + 1 + 1 := by omega
  have pr_ne_r0 : ¬ w.heap.size + 1 = w.heap.size + 1 + 1 + 1 := by omega
  have pk_ne_p0 : ¬ w.heap.size + 1 + 1 = w.heap.size := by omega
  have pk_ne_pr : ¬ w.heap.size + 1 + 1 = w.heap.size + 1 := by omega
  have pk_ne_r0 : ¬ w.heap.size + 1 + 1 = w.heap.size + 1 + 1 + 1 := by omega
  have r0_ne_p0 : ¬ w.heap.size + 1 + 1 + 1 = w.heap.size := by omega
  have r0_ne_pr : ¬ w.heap.size + 1 + 1 + 1 = w.heap.size + 1 := by omega
  have r0_ne_pk : ¬ w.heap.size + 1 + 1 + 1 = w.heap.size + 1 + 1 := by omega
  replace p0_0 := p0.cell (i := 0) rfl
  replace p0_1 := p0.cell (i := 1) rfl
  replace p0_2 := p0.cell (i := 2) rfl
  replace pr_0 := pr.cell (i := 0) rfl
  replace pk_0 := pk.cell (i := 0) rfl
  replace r0_0 := r0.cell (i := 0) rfl
  replace r0_1 := r0.cell (i := 1) rfl
  replace r0_2 := r0.cell (i := 2) rfl
  replace r0_f0 := r0.free 0
  replace r0_f1 := r0.free 1
  replace r0_f2 := r0.free 2
  replace r0_lt := r0.lt
  refine (qSize_ok K hK W b a a2 n c n2 c2 d zss (h.ext hEW) hs hn2 hrowb m hm).mono ?_
  rintro e w1 ⟨rfl, hE1⟩
  replace pr := pr.ext hE1; replace pr_0 := pr.cell (i := 0) rfl; replace pk := pk.ext hE1; replace pk_0 := pk.cell (i := 0) rfl; replace r0 := r0.ext hE1; replace r0_0 := r0.cell (i := 0) rfl; replace r0_1 := r0.cell (i := 1) rfl; replace r0_2 := r0.cell (i := 2) rfl; replace r0_f0 := r0.free 0; replace r0_f1 := r0.free 1; replace r0_f2 := r0.free 2; replace r0_lt := r0.lt
  have HF : Hid (RMatErr w 1 (.returned (.tuple #[.agg #[.bool false, .slice none 0 0, .slice none 0 0], .int .i64 1])) (((w1.setCell ⟨w.heap.size + 1 + 1 + 1, 0, none⟩ (.bool false)).setCell ⟨w.heap.size + 1 + 1 + 1, 1, none⟩ (.slice none 0 0)).setCell ⟨w.heap.size + 1 + 1 + 1, 2, none⟩ (.slice none 0 0))) := Lib.hid ⟨rfl, ext_set3 (Ext.trans hEW hE1) _ _ _ (by omega)⟩
  have r2_ := ((r0.set 0 (.bool false)).set 1 (.slice none 0 0)).set 2 (.slice none 0 0)
  have hr0 := r2_.cell (i := 0) rfl
  have hr1 := r2_.cell (i := 1) rfl
  have hr2 := r2_.cell (i := 2) rfl
  clear hEW hE1 h t0
  go_wp2_with fail
  exact bodyPost_ret (v := .tuple #[.agg #[.bool false, .slice none 0 0, .slice none 0 0], .int .i64 1]) (by simp [results, Try.results22, go_sem, hr0, hr1, hr2]) rfl HF.out


set_option maxRecDepth 100000 in
set_option maxHeartbeats 4000000 in
theorem qCut_arg1 (K : Nat) (hK : K ≤ 8796093022208) (w : World) (b : Bool) (a a2 : Option Addr) (n c n2 c2 : Nat) (d : Int) (zss : List (List Int)) (h : MatS K w b a n c a2 n2 c2 d zss) (hs : Hid (checkE d zss = 0)) (m : Nat) (hm : Hid (colsOf zss = m)) (hn2 : n2 ≤ 1099511627776) (hmm : m ≤ 1099511627776) (r r2 k k2 : Int) (t0 : ¬ r < 0) (t1 : r2 < r) :
    Calls Try.prog 22 #[.agg #[.bool b, .slice a n c, .slice a2 n2 c2], .int .i64 r, .int .i64 r2, .int .i64 k, .int .i64 k2] w (RMatErr w 1) := by
  have hrowb : Hid (∀ zs ∈ zss, zs.length ≤ 1099511627776) := Lib.hid (fun zs hz => by rw [even_len (checkE_zero hs.out).2 zs hz, hm.out]; exact hmm)
  have d0 : decide (r < 0) = false := decide_eq_false t0
  have d1 : decide (r2 < r) = true := decide_eq_true t1
  go_enter Try.func22, Try.ntmps22
  go_wp2_with fail
  have p0 := Blk.new w 30 #[.bool b, .slice a n c, .slice a2 n2 c2]
  have pr := Blk.new (w.alloc (Obj.cells #[.bool b, .slice a n c, .slice a2 n2 c2] 30)) 3 #[.int .i64 r]
  replace p0 := p0.ext ((Below.refl _ _).alloc (Nat.le_refl _) (Obj.cells #[.int .i64 r] 3))
  have pk := Blk.new ((w.alloc (Obj.cells #[.bool b, .slice a n c, .slice a2 n2 c2] 30)).alloc (Obj.cells #[.int .i64 r] 3)) 3 #[.int .i64 k]
  replace p0 := p0.ext ((Below.refl _ _).alloc (Nat.le_refl _) (Obj.cells #[.int .i64 k] 3))
  replace pr := pr.ext ((Below.refl _ _).alloc (Nat.le_refl _) (Obj.cells #[.int .i64 k] 3))
  have r0 := Blk.new (((w.alloc (Obj.cells #[.bool b, .slice a n c, .slice a2 n2 c2] 30)).alloc (Obj.cells #[.int .i64 r] 3)).alloc (Obj.cells #[.int .i64 k] 3)) 30 #[.bool false, .slice none 0 0, .slice none 0 0]
  replace p0 := p0.ext ((Below.refl _ _).alloc (Nat.le_refl _) (Obj.cells #[.bool false, .slice none 0 0, .slice none 0 0] 30))
  replace pr := pr.ext ((Below.refl _ _).alloc (Nat.le_refl _) (Obj.cells #[.bool false, .slice none 0 0, .slice none 0 0] 30))
  replace pk := pk.ext ((Below.refl _ _).alloc (Nat.le_refl _) (Obj.cells #[.bool false, .slice none 0 0, .slice none 0 0] 30))
  have hEW : Ext w ((((w.alloc (Obj.cells #[.bool b, .slice a n c, .slice a2 n2 c2] 30)).alloc (Obj.cells #[.int .i64 r] 3)).alloc (Obj.cells #[.int .i64 k] 3)).alloc (Obj.cells #[.bool false, .slice none 0 0, .slice none 0 0] 30)) := (((((Below.refl _ w).alloc (by simp) _).alloc (by simp) _).alloc (by simp; omega) _).alloc (by simp; omega) _)
  generalize hgW : (((w.alloc (Obj.cells #[.bool b, .slice a n c, .slice a2 n2 c2] 30)).alloc (Obj.cells #[.int .i64 r] 3)).alloc (Obj.cells #[.int .i64 k] 3)).alloc (Obj.cells #[.bool false, .slice none 0 0, .slice none 0 0] 30) = W at *
  clear hgW
  simp only [World.size_alloc] at pr pk r0
  have p0_ne_pr : ¬ w.heap.size = w.heap.size + 1 := by omega
  have p0_ne_pk : ¬ w.heap.size = w.heap.size + 1 + 1 := by omega
  have p0_ne_r0 : ¬ w.heap.size = w.heap.size + 1 + 1 + 1 := by omega
  have pr_ne_p0 : ¬ w.heap.size + 1 = w.heap.size := by omega
  have pr_ne_pk : ¬ w.heap.size + 1 = w.heap.size + 1 + 1 := by omega
  have pr_ne_r0 : ¬ w.heap.size + 1 = w.heap.size + 1 + 1 + 1 := by omega
  have pk_ne_p0 : ¬ w.heap.size + 1 + 1 = w.heap.size := by omega
  have pk_ne_pr : ¬ w.heap.size + 1 + 1 = w.heap.size + 1 := by omega
  have pk_ne_r0 : ¬ w.heap.size + 1 + 1 = w.heap.size + 1 + 1 + 1 := by omega
  have r0_ne_p0 : ¬ w.heap.size + 1 + 1 + 1 = w.heap.size := by omega
  have r0_ne_pr : ¬ w.heap.size + 1 + 1 + 1 = w.heap.size + 1 := by omega
  have r0_ne_pk : ¬ w.heap.size + 1 + 1 + 1 = w.heap.size + 1 + 1 := by omega
  replace p0_0 := p0.cell (i := 0) rfl
  replace p0_1 := p0.cell (i := 1) rfl
  replace p0_2 := p0.cell (i := 2) rfl
  replace pr_0 := pr.cell (i := 0) rfl
  replace pk_0 := pk.cell (i := 0) rfl
  replace r0_0 := r0.cell (i := 0) rfl
  replace r0_1 := r0.cell (i := 1) rfl
  replace r0_2 := r0.cell (i := 2) rfl
  replace r0_f0 := r0.free 0
  replace r0_f1 := r0.free 1
  replace r0_f2 := r0.free 2
  replace r0_lt := r0.lt
  refine (qSize_ok K hK W b a a2 n c n2 c2 d zss (h.ext hEW) hs hn2 hrowb m hm).mono ?_
  rintro e w1 ⟨rfl, hE1⟩
  replace pr := pr.ext hE1; replace pr_0 := pr.cell (i := 0) rfl; replace pk := pk.ext hE1; replace pk_0 := pk.cell (i := 0) rfl; replace r0 := r0.ext hE1; replace r0_0 := r0.cell (i := 0) rfl; replace r0_1 := r0.cell (i := 1) rfl; replace r0_2 := r0.cell (i := 2) rfl; replace r0_f0 := r0.free 0; replace r0_f1 := r0.free 1; replace r0_f2 := r0.free 2; replace r0_lt := r0.lt
  have HF : Hid (RMatErr w 1 (.returned (.tuple #[.agg #[.bool false, .slice none 0 0, .slice none 0 0], .int .i64 1])) (((w1.setCell ⟨w.heap.size + 1 + 1 + 1, 0, none⟩ (.bool false)).setCell ⟨w.heap.size + 1 + 1 + 1, 1, none⟩ (.slice none 0 0)).setCell ⟨w.heap.size + 1 + 1 + 1, 2, none⟩ (.slice none 0 0))) := Lib.hid ⟨rfl, ext_set3 (Ext.trans hEW hE1) _ _ _ (by omega)⟩
  have r2_ := ((r0.set 0 (.bool false)).set 1 (.slice none 0 0)).set 2 (.slice none 0 0)
  have hr0 := r2_.cell (i := 0) rfl
  have hr1 := r2_.cell (i := 1) rfl
  have hr2 := r2_.cell (i := 2) rfl
  clear hEW hE1 h t0 t1
  go_wp2_with fail
  exact bodyPost_ret (v := .tuple #[.agg #[.bool false, .slice none 0 0, .slice none 0 0], .int .i64 1]) (by simp [results, Try.results22, go_sem, hr0, hr1, hr2]) rfl HF.out


set_option maxRecDepth 100000 in
set_option maxHeartbeats 4000000 in
theorem qCut_arg2 (K : Nat) (hK : K ≤ 8796093022208) (w : World) (b : Bool) (a a2 : Option Addr) (n c n2 c2 : Nat) (d : Int) (zss : List (List Int)) (h : MatS K w b a n c a2 n2 c2 d zss) (hs : Hid (checkE d zss = 0)) (m : Nat) (hm : Hid (colsOf zss = m)) (hn2 : n2 ≤ 1099511627776) (hmm : m ≤ 1099511627776) (r r2 k k2 : Int) (t0 : ¬ r < 0) (t1 : ¬ r2 < r) (t2 : (n2 : Int) < r2) :
    Calls Try.prog 22 #[.agg #[.bool b, .slice a n c, .slice a2 n2 c2], .int .i64 r, .int .i64 r2, .int .i64 k, .int .i64 k2] w (RMatErr w 1) := by
  have hrowb : Hid (∀ zs ∈ zss, zs.length ≤ 1099511627776) := Lib.hid (fun zs hz => by rw [even_len (checkE_zero hs.out).2 zs hz, hm.out]; exact hmm)
  have d0 : decide (r < 0) = false := decide_eq_false t0
  have d1 : decide (r2 < r) = false := decide_eq_false t1
  have d2 : decide ((n2 : Int) < r2) = true := decide_eq_true t2
  go_enter Try.func22, Try.ntmps22
  go_wp2_with fail
  have p0 := Blk.new w 30 #[.bool b, .slice a n c, .slice a2 n2 c2]
  have pr := Blk.new (w.alloc (Obj.cells #[.bool b, .slice a n c, .slice a2 n2 c2] 30)) 3 #[.int .i64 r]
  replace p0 := p0.ext ((Below.refl _ _).alloc (Nat.le_refl _) (Obj.cells #[.int .i64 r] 3))
  have pk := Blk.new ((w.alloc (Obj.cells #[.bool b, .slice a n c, .slice a2 n2 c2] 30)).alloc (Obj.cells #[.int .i64 r] 3)) 3 #[.int .i64 k]
  replace p0 := p0.ext ((Below.refl _ _).alloc (Nat.le_refl _) (Obj.cells #[.int .i64 k] 3))
  replace pr := pr.ext ((Below.refl _ _).alloc (Nat.le_refl _) (Obj.cells #[.int .i64 k] 3))
  have r0 := Blk.new (((w.alloc (Obj.cells #[.bool b, .slice a n c, .slice a2 n2 c2] 30)).alloc (Obj.cells #[.int .i64 r] 3)).alloc (Obj.cells #[.int .i64 k] 3)) 30 #[.bool false, .slice none 0 0, .slice none 0 0]
  replace p0 := p0.ext ((Below.refl _ _).alloc (Nat.le_refl _) (Obj.cells #[.bool false, .slice none 0 0, .slice none 0 0] 30))
  replace pr := pr.ext ((Below.refl _ _).alloc (Nat.le_refl _) (Obj.cells #[.bool false, .slice none 0 0, .slice none 0 0] 30))
  replace pk := pk.ext ((Below.refl _ _).alloc (Nat.le_refl _) (Obj.cells #[.bool false, .slice none 0 0, .slice none 0 0] 30))
  have hEW : Ext w ((((w.alloc (Obj.cells #[.bool b, .slice a n c, .slice a2 n2 c2] 30)).alloc (Obj.cells #[.int .i64 r] 3)).alloc (Obj.cells #[.int .i64 k] 3)).alloc (Obj.cells #[.bool false, .slice none 0 0, .slice none 0 0] 30)) := (((((Below.refl _ w).alloc (by simp) _).alloc (by simp) _).alloc (by simp; omega) _).alloc (by simp; omega) _)
  generalize hgW : (((w.alloc (Obj.cells #[.bool b, .slice a n c, .slice a2 n2 c2] 30)).alloc (Obj.cells #[.int .i64 r] 3)).alloc (Obj.cells #[.int .i64 k] 3)).alloc (Obj.cells #[.bool false, .slice none 0 0, .slice none 0 0] 30) = W at *
  clear hgW
  simp only [World.size_alloc] at pr pk r0
  have p0_ne_pr : ¬ w.heap.size = w.heap.size + 1 := by omega
  have p0_ne_pk : ¬ w.heap.size = w.heap.size + 1 + 1 := by omega
  have p0_ne_r0 : ¬ w.heap.size = w.heap.size + 1 + 1 + 1 := by omega
  have pr_ne_p0 : ¬ w.heap.size + 1 = w.heap.size := by omega
  have pr_ne_pk : ¬ w.heap.size + 1 = w.heap.size + 1 + 1 := by omega
  have pr_ne_r0 : ¬ w.heap.size + 1 = w.heap.size + 1 + 1 + 1 := by omega
  have pk_ne_p0 : ¬ w.heap.size + 1 + 1 = w.heap.size := by omega
  have pk_ne_pr : ¬ w.heap.size + 1 + 1 = w.heap.size + 1 := by omega
  have pk_ne_r0 : ¬ w.heap.size + 1 + 1 = w.heap.size + 1 + 1 + 1 := by omega
  have r0_ne_p0 : ¬ w.heap.size + 1 + 1 + 1 = w.heap.size := by omega
  have r0_ne_pr : ¬ w.heap.size + 1 + 1 + 1 = w.heap.size + 1 := by omega
  have r0_ne_pk : ¬ w.heap.size + 1 + 1 + 1 = w.heap.size + 1 + 1 := by omega
  replace p0_0 := p0.cell (i := 0) rfl
  replace p0_1 := p0.cell (i := 1) rfl
  replace p0_2 := p0.cell (i := 2) rfl
  replace pr_0 := pr.cell (i := 0) rfl
  replace pk_0 := pk.cell (i := 0) rfl
  replace r0_0 := r0.cell (i := 0) rfl
  replace r0_1 := r0.cell (i := 1) rfl
  replace r0_2 := r0.cell (i := 2) rfl
  replace r0_f0 := r0.free 0
  replace r0_f1 := r0.free 1
  replace r0_f2 := r0.free 2
  replace r0_lt := r0.lt
  refine (qSize_ok K hK W b a a2 n c n2 c2 d zss (h.ext hEW) hs hn2 hrowb m hm).mono ?_
  rintro e w1 ⟨rfl, hE1⟩
  replace pr := pr.ext hE1; replace pr_0 := pr.cell (i := 0) rfl; replace pk := pk.ext hE1; replace pk_0 := pk.cell (i := 0) rfl; replace r0 := r0.ext hE1; replace r0_0 := r0.cell (i := 0) rfl; replace r0_1 := r0.cell (i := 1) rfl; replace r0_2 := r0.cell (i := 2) rfl; replace r0_f0 := r0.free 0; replace r0_f1 := r0.free 1; replace r0_f2 := r0.free 2; replace r0_lt := r0.lt
  have HF : Hid (RMatErr w 1 (.returned (.tuple #[.agg #[.bool false, .slice none 0 0, .slice none 0 0], .int .i64 1])) (((w1.setCell ⟨w.heap.size + 1 + 1 + 1, 0, none⟩ (.bool false)).setCell ⟨w.heap.size + 1 + 1 + 1, 1, none⟩ (.slice none 0 0)).setCell ⟨w.heap.size + 1 + 1 + 1, 2, none⟩ (.slice none 0 0))) := Lib.hid ⟨rfl, ext_set3 (Ext.trans hEW hE1) _ _ _ (by omega)⟩
  have r2_ := ((r0.set 0 (.bool false)).set 1 (.slice none 0 0)).set 2 (.slice none 0 0)
  have hr0 := r2_.cell (i := 0) rfl
  have hr1 := r2_.cell (i := 1) rfl
  have hr2 := r2_.cell (i := 2) rfl
  clear hEW hE1 h t0 t1 t2
  go_wp2_with fail
  exact bodyPost_ret (v := .tuple #[.agg #[.bool false, .slice none 0 0, .slice none 0 0], .int .i64 1]) (by simp [results, Try.results22, go_sem, hr0, hr1, hr2]) rfl HF.out


set_option maxRecDepth 100000 in
set_option maxHeartbeats 4000000 in
theorem qCut_arg3 (K : Nat) (hK : K ≤ 8796093022208) (w : World) (b : Bool) (a a2 : Option Addr) (n c n2 c2 : Nat) (d : Int) (zss : List (List Int)) (h : MatS K w b a n c a2 n2 c2 d zss) (hs : Hid (checkE d zss = 0)) (m : Nat) (hm : Hid (colsOf zss = m)) (hn2 : n2 ≤ 1099511627776) (hmm : m ≤ 1099511627776) (r r2 k k2 : Int) (t0 : ¬ r < 0) (t1 : ¬ r2 < r) (t2 : ¬ (n2 : Int) < r2) (t3 : k < 0) :
    Calls Try.prog 22 #[.agg #[.bool b, .slice a n c, .slice a2 n2 c2], .int .i64 r, .int .i64 r2, .int .i64 k, .int .i64 k2] w (RMatErr w 1) := by
  have hrowb : Hid (∀ zs ∈ zss, zs.length ≤ 1099511627776) := Lib.hid (fun zs hz => by rw [even_len (checkE_zero hs.out).2 zs hz, hm.out]; exact hmm)
  have d0 : decide (r < 0) = false := decide_eq_false t0
  have d1 : decide (r2 < r) = false := decide_eq_false t1
  have d2 : decide ((n2 : Int) < r2) = false := decide_eq_false t2
  have d3 : decide (k < 0) = true := decide_eq_true t3
  go_enter Try.func22, Try.ntmps22
  go_wp2_with fail
  have p0 := Blk.new w 30 #[.bool b, .slice a n c, .slice a2 n2 c2]
  have pr := Blk.new (w.alloc (Obj.cells #[.bool b, .slice a n c, .slice a2 n2 c2] 30)) 3 #[.int .i64 r]
  replace p0 := p0.ext ((Below.refl _ _).alloc (Nat.le_refl _) (Obj.cells #[.int .i64 r] 3))
  have pk := Blk.new ((w.alloc (Obj.cells #[.bool b, .slice a n c, .slice a2 n2 c2] 30)).alloc (Obj.cells #[.int .i64 r] 3)) 3 #[.int .i64 k]
  replace p0 := p0.ext ((Below.refl _ _).alloc (Nat.le_refl _) (Obj.cells #[.int .i64 k] 3))
  replace pr := pr.ext ((Below.refl _ _).alloc (Nat.le_refl _) (Obj.cells #[.int .i64 k] 3))
  have r0 := Blk.new (((w.alloc (Obj.cells #[.bool b, .slice a n c, .slice a2 n2 c2] 30)).alloc (Obj.cells #[.int .i64 r] 3)).alloc (Obj.cells #[.int .i64 k] 3)) 30 #[.bool false, .slice none 0 0, .slice none 0 0]
  replace p0 := p0.ext ((Below.refl _ _).alloc (Nat.le_refl _) (Obj.cells #[.bool false, .slice none 0 0, .slice none 0 0] 30))
  replace pr := pr.ext ((Below.refl _ _).alloc (Nat.le_refl _) (Obj.cells #[.bool false, .slice none 0 0, .slice none 0 0] 30))
  replace pk := pk.ext ((Below.refl _ _).alloc (Nat.le_refl _) (Obj.cells #[.bool false, .slice none 0 0, .slice none 0 0] 30))
  have hEW : Ext w ((((w.alloc (Obj.cells #[.bool b, .slice a n c, .slice a2 n2 c2] 30)).alloc (Obj.cells #[.int .i64 r] 3)).alloc (Obj.cells #[.int .i64 k] 3)).alloc (Obj.cells #[.bool false, .slice none 0 0, .slice none 0 0] 30)) := (((((Below.refl _ w).alloc (by simp) _).alloc (by simp) _).alloc (by simp; omega) _).alloc (by simp; omega) _)
  generalize hgW : (((w.alloc (Obj.cells #[.bool b, .slice a n c, .slice a2 n2 c2] 30)).alloc (Obj.cells #[.int .i64 r] 3)).alloc (Obj.cells #[.int .i64 k] 3)).alloc (Obj.cells #[.bool false, .slice none 0 0, .slice none 0 0] 30) = W at *
  clear hgW
  simp only [World.size_alloc] at pr pk r0
  have p0_ne_pr : ¬ w.heap.size = w.heap.size + 1 := by omega
  have p0_ne_pk : ¬ w.heap.size = w.heap.size + 1 + 1 := by omega
  have p0_ne_r0 : ¬ w.heap.size = w.heap.size + 1 + 1 + 1 := by omega
  have pr_ne_p0 : ¬ w.heap.size + 1 = w.heap.size := by omega
  have pr_ne_pk : ¬ w.heap.size + 1 = w.heap.size + 1 + 1 := by omega
  have pr_ne_r0 : ¬ w.heap.size + 1 = w.heap.size + 1 + 1 + 1 := by omega
  have pk_ne_p0 : ¬ w.heap.size + 1 + 1 = w.heap.size := by omega
  have pk_ne_pr : ¬ w.heap.size + 1 + 1 = w.heap.size + 1 := by omega
  have pk_ne_r0 : ¬ w.heap.size + 1 + 1 = w.heap.size + 1 + 1 + 1 := by omega
  have r0_ne_p0 : ¬ w.heap.size + 1 + 1 + 1 = w.heap.size := by omega
  have r0_ne_pr : ¬ w.heap.size + 1 + 1 + 1 = w.heap.size + 1 := by omega
  have r0_ne_pk : ¬ w.heap.size + 1 + 1 + 1 = w.heap.size + 1 + 1 := by omega
  replace p0_0 := p0.cell (i := 0) rfl
  replace p0_1 := p0.cell (i := 1) rfl
  replace p0_2 := p0.cell (i := 2) rfl
  replace pr_0 := pr.cell (i := 0) rfl
  replace pk_0 := pk.cell (i := 0) rfl
  replace r0_0 := r0.cell (i := 0) rfl
  replace r0_1 := r0.cell (i := 1) rfl
  replace r0_2 := r0.cell (i := 2) rfl
  replace r0_f0 := r0.free 0
  replace r0_f1 := r0.free 1
  replace r0_f2 := r0.free 2
  replace r0_lt := r0.lt
  refine (qSize_ok K hK W b a a2 n c n2 c2 d zss (h.ext hEW) hs hn2 hrowb m hm).mono ?_
  rintro e w1 ⟨rfl, hE1⟩
  replace pr := pr.ext hE1; replace pr_0 := pr.cell (i := 0) rfl; replace pk := pk.ext hE1; replace pk_0 := pk.cell (i := 0) rfl; replace r0 := r0.ext hE1; replace r0_0 := r0.cell (i := 0) rfl; replace r0_1 := r0.cell (i := 1) rfl; replace r0_2 := r0.cell (i := 2) rfl; replace r0_f0 := r0.free 0; replace r0_f1 := r0.free 1; replace r0_f2 := r0.free 2; replace r0_lt := r0.lt
  have HF : Hid (RMatErr w 1 (.returned (.tuple #[.agg #[.bool false, .slice none 0 0, .slice none 0 0], .int .i64 1])) (((w1.setCell ⟨w.heap.size + 1 + 1 + 1, 0, none⟩ (.bool false)).setCell ⟨w.heap.size + 1 + 1 + 1, 1, none⟩ (.slice none 0 0)).setCell ⟨w.heap.size + 1 + 1 + 1, 2, none⟩ (.slice none 0 0))) := Lib.hid ⟨rfl, ext_set3 (Ext.trans hEW hE1) _ _ _ (by omega)⟩
  have r2_ := ((r0.set 0 (.bool false)).set 1 (.slice none 0 0)).set 2 (.slice none 0 0)
  have hr0 := r2_.cell (i := 0) rfl
  have hr1 := r2_.cell (i := 1) rfl
  have hr2 := r2_.cell (i := 2) rfl
  clear hEW hE1 h t0 t1 t2 t3
  go_wp2_with fail
  exact bodyPost_ret (v := .tuple #[.agg #[.bool false, .slice none 0 0, .slice none 0 0], .int .i64 1]) (by simp [results, Try.results22, go_sem, hr0, hr1, hr2]) rfl HF.out


set_option maxRecDepth 100000 in
set_option maxHeartbeats 4000000 in
theorem qCut_arg4 (K : Nat) (hK : K ≤ 8796093022208) (w : World) (b : Bool) (a a2 : Option Addr) (n c n2 c2 : Nat) (d : Int) (zss : List (List Int)) (h : MatS K w b a n c a2 n2 c2 d zss) (hs : Hid (checkE d zss = 0)) (m : Nat) (hm : Hid (colsOf zss = m)) (hn2 : n2 ≤ 1099511627776) (hmm : m ≤ 1099511627776) (r r2 k k2 : Int) (t0 : ¬ r < 0) (t1 : ¬ r2 < r) (t2 : ¬ (n2 : Int) < r2) (t3 : ¬ k < 0) (t4 : k2 < k) :
    Calls Try.prog 22 #[.agg #[.bool b, .slice a n c, .slice a2 n2 c2], .int .i64 r, .int .i64 r2, .int .i64 k, .int .i64 k2] w (RMatErr w 1) := by
  have hrowb : Hid (∀ zs ∈ zss, zs.length ≤ 1099511627776) := Lib.hid (fun zs hz => by rw [even_len (checkE_zero hs.out).2 zs hz, hm.out]; exact hmm)
  have d0 : decide (r < 0) = false := decide_eq_false t0
  have d1 : decide (r2 < r) = false := decide_eq_false t1
  have d2 : decide ((n2 : Int) < r2) = false := decide_eq_false t2
  have d3 : decide (k < 0) = false := decide_eq_false t3
  have d4 : decide (k2 < k) = true := decide_eq_true t4
  go_enter Try.func22, Try.ntmps22
  go_wp2_with fail
  have p0 := Blk.new w 30 #[.bool b, .slice a n c, .slice a2 n2 c2]
  have pr := Blk.new (w.alloc (Obj.cells #[.bool b, .slice a n c, .slice a2 n2 c2] 30)) 3 #[.int .i64 r]
  replace p0 := p0.ext ((Below.refl _ _).alloc (Nat.le_refl _) (Obj.cells #[.int .i64 r] 3))
  have pk := Blk.new ((w.alloc (Obj.cells #[.bool b, .slice a n c, .slice a2 n2 c2] 30)).alloc (Obj.cells #[.int .i64 r] 3)) 3 #[.int .i64 k]
  replace p0 := p0.ext ((Below.refl _ _).alloc (Nat.le_refl _) (Obj.cells #[.int .i64 k] 3))
  replace pr := pr.ext ((Below.refl _ _).alloc (Nat.le_refl _) (Obj.cells #[.int .i64 k] 3))
  have r0 := Blk.new (((w.alloc (Obj.cells #[.bool b, .slice a n c, .slice a2 n2 c2] 30)).alloc (Obj.cells #[.int .i64 r] 3)).alloc (Obj.cells #[.int .i64 k] 3)) 30 #[.bool false, .slice none 0 0, .slice none 0 0]
  replace p0 := p0.ext ((Below.refl _ _).alloc (Nat.le_refl _) (Obj.cells #[.bool false, .slice none 0 0, .slice none 0 0] 30))
  replace pr := pr.ext ((Below.refl _ _).alloc (Nat.le_refl _) (Obj.cells #[.bool false, .slice none 0 0, .slice none 0 0] 30))
  replace pk := pk.ext ((Below.refl _ _).alloc (Nat.le_refl _) (Obj.cells #[.bool false, .slice none 0 0, .slice none 0 0] 30))
  have hEW : Ext w ((((w.alloc (Obj.cells #[.bool b, .slice a n c, .slice a2 n2 c2] 30)).alloc (Obj.cells #[.int .i64 r] 3)).alloc (Obj.cells #[.int .i64 k] 3)).alloc (Obj.cells #[.bool false, .slice none 0 0, .slice none 0 0] 30)) := (((((Below.refl _ w).alloc (by simp) _).alloc (by simp) _).alloc (by simp; omega) _).alloc (by simp; omega) _)
  generalize hgW : (((w.alloc (Obj.cells #[.bool b, .slice a n c, .slice a2 n2 c2] 30)).alloc (Obj.cells #[.int .i64 r] 3)).alloc (Obj.cells #[.int .i64 k] 3)).alloc (Obj.cells #[.bool false, .slice none 0 0, .slice none 0 0] 30) = W at *
  clear hgW
  simp only [World.size_alloc] at pr pk r0
  have p0_ne_pr : ¬ w.heap.size = w.heap.size + 1 := by omega
  have p0_ne_pk : ¬ w.heap.size = w.heap.size + 1 + 1 := by omega
  have p0_ne_r0 : ¬ w.heap.size = w.heap.size + 1 + 1 + 1 := by omega
  have pr_ne_p0 : ¬ w.heap.size + 1 = w.heap.size := by omega
  have pr_ne_pk : ¬ w.heap.size + 1 = w.heap.size + 1 + 1 := by omega
  have pr_ne_r0 : ¬ w.heap.size + 1 = w.heap.size + 1 + 1 + 1 := by omega
  have pk_ne_p0 : ¬ w.heap.size + 1 + 1 = w.heap.size := by omega
  have pk_ne_pr : ¬ w.heap.size + 1 + 1 = w.heap.size + 1 := by omega
  have pk_ne_r0 : ¬ w.heap.size + 1 + 1 = w.heap.size + 1 + 1 + 1 := by omega
  have r0_ne_p0 : ¬ w.heap.size + 1 + 1 + 1 = w.heap.size := by omega
  have r0_ne_pr : ¬ w.heap.size + 1 + 1 + 1 = w.heap.size + 1 := by omega
  have r0_ne_pk : ¬ w.heap.size + 1 + 1 + 1 = w.heap.size + 1 + 1 := by omega
  replace p0_0 := p0.cell (i := 0) rfl
  replace p0_1 := p0.cell (i := 1) rfl
  replace p0_2 := p0.cell (i := 2) rfl
  replace pr_0 := pr.cell (i := 0) rfl
  replace pk_0 := pk.cell (i := 0) rfl
  replace r0_0 := r0.cell (i := 0) rfl
  replace r0_1 := r0.cell (i := 1) rfl
  replace r0_2 := r0.cell (i := 2) rfl
  replace r0_f0 := r0.free 0
  replace r0_f1 := r0.free 1
  replace r0_f2 := r0.free 2
  replace r0_lt := r0.lt
  refine (qSize_ok K hK W b a a2 n c n2 c2 d zss (h.ext hEW) hs hn2 hrowb m hm).mono ?_
  rintro e w1 ⟨rfl, hE1⟩
  replace pr := pr.ext hE1; replace pr_0 := pr.cell (i := 0) rfl; replace pk := pk.ext hE1; replace pk_0 := pk.cell (i := 0) rfl; replace r0 := r0.ext hE1; replace r0_0 := r0.cell (i := 0) rfl; replace r0_1 := r0.cell (i := 1) rfl; replace r0_2 := r0.cell (i := 2) rfl; replace r0_f0 := r0.free 0; replace r0_f1 := r0.free 1; replace r0_f2 := r0.free 2; replace r0_lt := r0.lt
  have HF : Hid (RMatErr w 1 (.returned (.tuple #[.agg #[.bool false, .slice none 0 0, .slice none 0 0], .int .i64 1])) (((w1.setCell ⟨w.heap.size + 1 + 1 + 1, 0, none⟩ (.bool false)).setCell ⟨w.heap.size + 1 + 1 + 1, 1, none⟩ (.slice none 0 0)).setCell ⟨w.heap.size + 1 + 1 + 1, 2, none⟩ (.slice none 0 0))) := Lib.hid ⟨rfl, ext_set3 (Ext.trans hEW hE1) _ _ _ (by omega)⟩
  have r2_ := ((r0.set 0 (.bool false)).set 1 (.slice none 0 0)).set 2 (.slice none 0 0)
  have hr0 := r2_.cell (i := 0) rfl
  have hr1 := r2_.cell (i := 1) rfl
  have hr2 := r2_.cell (i := 2) rfl
  clear hEW hE1 h t0 t1 t2 t3 t4
  go_wp2_with fail
  exact bodyPost_ret (v := .tuple #[.agg #[.bool false, .slice none 0 0, .slice none 0 0], .int .i64 1]) (by simp [results, Try.results22, go_sem, hr0, hr1, hr2]) rfl HF.out


set_option maxRecDepth 100000 in
set_option maxHeartbeats 4000000 in
theorem qCut_arg5 (K : Nat) (hK : K ≤ 8796093022208) (w : World) (b : Bool) (a a2 : Option Addr) (n c n2 c2 : Nat) (d : Int) (zss : List (List Int)) (h : MatS K w b a n c a2 n2 c2 d zss) (hs : Hid (checkE d zss = 0)) (m : Nat) (hm : Hid (colsOf zss = m)) (hn2 : n2 ≤ 1099511627776) (hmm : m ≤ 1099511627776) (r r2 k k2 : Int) (t0 : ¬ r < 0) (t1 : ¬ r2 < r) (t2 : ¬ (n2 : Int) < r2) (t3 : ¬ k < 0) (t4 : ¬ k2 < k) (t5 : (m : Int) < k2) :
    Calls Try.prog 22 #[.agg #[.bool b, .slice a n c, .slice a2 n2 c2], .int .i64 r, .int .i64 r2, .int .i64 k, .int .i64 k2] w (RMatErr w 1) := by
  have hrowb : Hid (∀ zs ∈ zss, zs.length ≤ 1099511627776) := Lib.hid (fun zs hz => by rw [even_len (checkE_zero hs.out).2 zs hz, hm.out]; exact hmm)
  have d0 : decide (r < 0) = false := decide_eq_false t0
  have d1 : decide (r2 < r) = false := decide_eq_false t1
  have d2 : decide ((n2 : Int) < r2) = false := decide_eq_false t2
  have d3 : decide (k < 0) = false := decide_eq_false t3
  have d4 : decide (k2 < k) = false := decide_eq_false t4
  have d5 : decide ((m : Int) < k2) = true := decide_eq_true t5
  go_enter Try.func22, Try.ntmps22
  go_wp2_with fail
  have p0 := Blk.new w 30 #[.bool b, .slice a n c, .slice a2 n2 c2]
  have pr := Blk.new (w.alloc (Obj.cells #[.bool b, .slice a n c, .slice a2 n2 c2] 30)) 3 #[.int .i64 r]
  replace p0 := p0.ext ((Below.refl _ _).alloc (Nat.le_refl _) (Obj.cells #[.int .i64 r] 3))
  have pk := Blk.new ((w.alloc (Obj.cells #[.bool b, .slice a n c, .slice a2 n2 c2] 30)).alloc (Obj.cells #[.int .i64 r] 3)) 3 #[.int .i64 k]
  replace p0 := p0.ext ((Below.refl _ _).alloc (Nat.le_refl _) (Obj.cells #[.int .i64 k] 3))
  replace pr := pr.ext ((Below.refl _ _).alloc (Nat.le_refl _) (Obj.cells #[.int .i64 k] 3))
  have r0 := Blk.new (((w.alloc (Obj.cells #[.bool b, .slice a n c, .slice a2 n2 c2] 30)).alloc (Obj.cells #[.int .i64 r] 3)).alloc (Obj.cells #[.int .i64 k] 3)) 30 #[.bool false, .slice none 0 0, .slice none 0 0]
  replace p0 := p0.ext ((Below.refl _ _).alloc (Nat.le_refl _) (Obj.cells #[.bool false, .slice none 0 0, .slice none 0 0] 30))
  replace pr := pr.ext ((Below.refl _ _).alloc (Nat.le_refl _) (Obj.cells #[.bool false, .slice none 0 0, .slice none 0 0] 30))
  replace pk := pk.ext ((Below.refl _ _).alloc (Nat.le_refl _) (Obj.cells #[.bool false, .slice none 0 0, .slice none 0 0] 30))
  have hEW : Ext w ((((w.alloc (Obj.cells #[.bool b, .slice a n c, .slice a2 n2 c2] 30)).alloc (Obj.cells #[.int .i64 r] 3)).alloc (Obj.cells #[.int .i64 k] 3)).alloc (Obj.cells #[.bool false, .slice none 0 0, .slice none 0 0] 30)) := (((((Below.refl _ w).alloc (by simp) _).alloc (by simp) _).alloc (by simp; omega) _).alloc (by simp; omega) _)
  generalize hgW : (((w.alloc (Obj.cells #[.bool b, .slice a n c, .slice a2 n2 c2] 30)).alloc (Obj.cells #[.int .i64 r] 3)).alloc (Obj.cells #[.int .i64 k] 3)).alloc (Obj.cells #[.bool false, .slice none 0 0, .slice none 0 0] 30) = W at *
  clear hgW
  simp only [World.size_alloc] at pr pk r0
  have p0_ne_pr : ¬ w.heap.size = w.heap.size + 1 := by omega
  have p0_ne_pk : ¬ w.heap.size = w.heap.size + 1 + 1 := by omega
  have p0_ne_r0 : ¬ w.heap.size = w.heap.size + 1 + 1 + 1 := by omega
  have pr_ne_p0 : ¬ w.heap.size + 1 = w.heap.size := by omega
  have pr_ne_pk : ¬ w.heap.size + 1 = w.heap.size + 1 + 1 := by omega
  have pr_ne_r0 : ¬ w.heap.size + 1 = w.heap.size + 1 + 1 + 1 := by omega
  have pk_ne_p0 : ¬ w.heap.size + 1 + 1 = w.heap.size := by omega
  have pk_ne_pr : ¬ w.heap.size + 1 + 1 = w.heap.size + 1 := by omega
  have pk_ne_r0 : ¬ w.heap.size + 1 + 1 = w.heap.size + 1 + 1 + 1 := by omega
  have r0_ne_p0 : ¬ w.heap.size + 1 + 1 + 1 = w.heap.size := by omega
  have r0_ne_pr : ¬ w.heap.size + 1 + 1 + 1 = w.heap.size + 1 := by omega
  have r0_ne_pk : ¬ w.heap.size + 1 + 1 + 1 = w.heap.size + 1 + 1 := by omega
  replace p0_0 := p0.cell (i := 0) rfl
  replace p0_1 := p0.cell (i := 1) rfl
  replace p0_2 := p0.cell (i := 2) rfl
  replace pr_0 := pr.cell (i := 0) rfl
  replace pk_0 := pk.cell (i := 0) rfl
  replace r0_0 := r0.cell (i := 0) rfl
  replace r0_1 := r0.cell (i := 1) rfl
  replace r0_2 := r0.cell (i := 2) rfl
  replace r0_f0 := r0.free 0
  replace r0_f1 := r0.free 1
  replace r0_f2 := r0.free 2
  replace r0_lt := r0.lt
  refine (qSize_ok K hK W b a a2 n c n2 c2 d zss (h.ext hEW) hs hn2 hrowb m hm).mono ?_
  rintro e w1 ⟨rfl, hE1⟩
  replace pr := pr.ext hE1; replace pr_0 := pr.cell (i := 0) rfl; replace pk := pk.ext hE1; replace pk_0 := pk.cell (i := 0) rfl; replace r0 := r0.ext hE1; replace r0_0 := r0.cell (i := 0) rfl; replace r0_1 := r0.cell (i := 1) rfl; replace r0_2 := r0.cell (i := 2) rfl; replace r0_f0 := r0.free 0; replace r0_f1 := r0.free 1; replace r0_f2 := r0.free 2; replace r0_lt := r0.lt
  have HF : Hid (RMatErr w 1 (.returned (.tuple #[.agg #[.bool false, .slice none 0 0, .slice none 0 0], .int .i64 1])) (((w1.setCell ⟨w.heap.size + 1 + 1 + 1, 0, none⟩ (.bool false)).setCell ⟨w.heap.size + 1 + 1 + 1, 1, none⟩ (.slice none 0 0)).setCell ⟨w.heap.size + 1 + 1 + 1, 2, none⟩ (.slice none 0 0))) := Lib.hid ⟨rfl, ext_set3 (Ext.trans hEW hE1) _ _ _ (by omega)⟩
  have r2_ := ((r0.set 0 (.bool false)).set 1 (.slice none 0 0)).set 2 (.slice none 0 0)
  have hr0 := r2_.cell (i := 0) rfl
  have hr1 := r2_.cell (i := 1) rfl
  have hr2 := r2_.cell (i := 2) rfl
  clear hEW hE1 h t0 t1 t2 t3 t4 t5
  go_wp2_with fail
  exact bodyPost_ret (v := .tuple #[.agg #[.bool false, .slice none 0 0, .slice none 0 0], .int .i64 1]) (by simp [results, Try.results22, go_sem, hr0, hr1, hr2]) rfl HF.out

end Go.Proofs.Ytbhenelehhiakaa
