/-
  The program's answers: Add, Sub.
-/
import Derived.Test.YtbhenelehhiakaaGreatSum40
import Derived.Test.YtbhenelehhiakaaGreatSum41
set_option linter.unusedVariables false
set_option linter.unusedSimpArgs false
namespace Go.Proofs.YtbhenelehhiakaaGreat
open Go.RowKit

def joinE (x y : Int × List (List Int)) : Int := if checksE [x, y] ≠ 0 then checksE [x, y] else if x.2.length ≠ y.2.length ∨ colsOf x.2 ≠ colsOf y.2 then 2 else 0
set_option maxHeartbeats 2000000 in
theorem join_ans (K : Nat) (hK : K + K + 1099511627776 ≤ 8796093022208) (fid : Nat) (op : Int → Int → Int) (oq : Rat → Rat → Rat) (heq : Hid (∀ (zss zss' : List (List Int)) (d d' : Int), d ≠ 0 → d' ≠ 0 → ∀ r c, fracs (d * d') (tableZ (fun i k => op (entry zss i k * d') (entry zss' i k * d)) r c) = joinQ oq (fracs d zss) (fracs d' zss') r c)) (hop : Hid (OpB Tryz.prog fid op (K + K))) (henf : Hid (Enters Tryz.prog fid))
    (w : World) (b : Bool) (a a2 : Option Addr) (n c n2 c2 : Nat) (x : Int × List (List Int)) (h : MatS K w b a n c a2 n2 c2 x.1 x.2) (b' : Bool) (a' a2' : Option Addr) (n' c' n2' c2' : Nat) (y : Int × List (List Int)) (h' : MatS K w b' a' n' c' a2' n2' c2' y.1 y.2) (hn2 : n2 ≤ 1099511627776) (hn2' : n2' ≤ 1099511627776) (hm : colsOf x.2 ≤ 1099511627776) (hm' : colsOf y.2 ≤ 1099511627776) (s : Int) (hs : Hid (joinE x y = s)) (qss : List (List Rat))
    (hq : Hid (joinQ oq (fracs x.1 x.2) (fracs y.1 y.2) n2 (colsOf x.2) = qss)) :
    Calls Tryz.prog 97 #[.agg #[.bool b, .slice a n c, .slice a2 n2 c2], .agg #[.bool b', .slice a' n' c', .slice a2' n2' c2'], .func (.func fid) #[] #[]] w (RAns w s qss) := by
  have hl := h.len2
  have hl' := h'.len2
  by_cases h0 : checksE [x, y] = 0
  · have hx := checksE_zero h0 x (by simp)
    have hy := checksE_zero h0 y (by simp)
    by_cases hc : n2 = n2' ∧ colsOf x.2 = colsOf y.2
    · have hs0 : s = 0 := by rw [← hs.out]; unfold joinE; rw [if_neg (by simpa using h0), if_neg (by rw [hl, hl']; omega)]
      subst hs0
      refine (qJoin_ok fid op K hK w b a a2 n c n2 c2 x.1 x.2 h b' a' a2' n' c' n2' c2' y.1 y.2 h' hop henf 0 rfl (Lib.hid h0) (colsOf x.2) (Lib.hid rfl) (Lib.hid hc.2.symm) hc.1 hn2 hm _ (Lib.hid rfl)).mono fun e w' hr => ?_
      exact RMatOk.ans hr (Int.mul_ne_zero hx.1 hy.1) (table_cols _ _ _) qss (by rw [heq.out _ _ _ _ hx.1 hy.1, hq.out])
    · have hs0 : s = 2 := by rw [← hs.out]; unfold joinE; rw [if_neg (by simpa using h0), if_pos (by rw [hl, hl']; omega)]
      subst hs0
      exact (qJoin_shape fid K hK w b a a2 n c n2 c2 x.1 x.2 h b' a' a2' n' c' n2' c2' y.1 y.2 h' 0 rfl (Lib.hid h0) (colsOf x.2) (colsOf y.2) (Lib.hid rfl) (Lib.hid rfl) hn2 hn2' hm hm' (by omega)).mono fun e w' hr => RMatErr.ans hr (by decide) qss
  · have hs0 : s = checksE [x, y] := by rw [← hs.out]; unfold joinE; rw [if_pos h0]
    subst hs0
    exact (qJoin_err fid K hK w b a a2 n c n2 c2 x.1 x.2 h b' a' a2' n' c' n2' c2' y.1 y.2 h' _ (Lib.hid rfl) h0).mono fun e w' hr => RMatErr.ans hr h0 qss

set_option maxRecDepth 100000 in
set_option maxHeartbeats 4000000 in
theorem add_ans (K : Nat) (hK : K + K + 1099511627776 ≤ 8796093022208)
    (w : World) (b : Bool) (a a2 : Option Addr) (n c n2 c2 : Nat) (x : Int × List (List Int)) (h : MatS K w b a n c a2 n2 c2 x.1 x.2) (b' : Bool) (a' a2' : Option Addr) (n' c' n2' c2' : Nat) (y : Int × List (List Int)) (h' : MatS K w b' a' n' c' a2' n2' c2' y.1 y.2) (hn2 : n2 ≤ 1099511627776) (hn2' : n2' ≤ 1099511627776) (hm : colsOf x.2 ≤ 1099511627776) (hm' : colsOf y.2 ≤ 1099511627776) (s : Int) (hs : Hid (joinE x y = s)) (qss : List (List Rat))
    (hq : Hid (joinQ (· + ·) (fracs x.1 x.2) (fracs y.1 y.2) n2 (colsOf x.2) = qss)) :
    Calls Tryz.prog 43 #[.agg #[.bool b, .slice a n c, .slice a2 n2 c2], .agg #[.bool b', .slice a' n' c', .slice a2' n2' c2']] w (RAns w s qss) := by
  have addOp := Lib.hid (op_add K (by omega))
  have add_eq := Lib.hid addZ_eq
  go_enter Tryz.func43, Tryz.ntmps43
  go_wp2_with fail
  have p0 := Blk.new w 28 #[.bool b, .slice a n c, .slice a2 n2 c2]
  have p1 := Blk.new (w.alloc (Obj.cells #[.bool b, .slice a n c, .slice a2 n2 c2] 28)) 28 #[.bool b', .slice a' n' c', .slice a2' n2' c2']
  replace p0 := p0.ext ((Below.refl _ _).alloc (Nat.le_refl _) (Obj.cells #[.bool b', .slice a' n' c', .slice a2' n2' c2'] 28))
  have r0 := Blk.new ((w.alloc (Obj.cells #[.bool b, .slice a n c, .slice a2 n2 c2] 28)).alloc (Obj.cells #[.bool b', .slice a' n' c', .slice a2' n2' c2'] 28)) 28 #[.bool false, .slice none 0 0, .slice none 0 0]
  replace p0 := p0.ext ((Below.refl _ _).alloc (Nat.le_refl _) (Obj.cells #[.bool false, .slice none 0 0, .slice none 0 0] 28))
  replace p1 := p1.ext ((Below.refl _ _).alloc (Nat.le_refl _) (Obj.cells #[.bool false, .slice none 0 0, .slice none 0 0] 28))
  have hEW : Ext w (((w.alloc (Obj.cells #[.bool b, .slice a n c, .slice a2 n2 c2] 28)).alloc (Obj.cells #[.bool b', .slice a' n' c', .slice a2' n2' c2'] 28)).alloc (Obj.cells #[.bool false, .slice none 0 0, .slice none 0 0] 28)) := ((((Below.refl _ w).alloc (by simp) _).alloc (by simp) _).alloc (by simp; omega) _)
  generalize hgW : ((w.alloc (Obj.cells #[.bool b, .slice a n c, .slice a2 n2 c2] 28)).alloc (Obj.cells #[.bool b', .slice a' n' c', .slice a2' n2' c2'] 28)).alloc (Obj.cells #[.bool false, .slice none 0 0, .slice none 0 0] 28) = W at *
  clear hgW
  simp only [World.size_alloc] at p1 r0
  have p0_ne_p1 : ¬ w.heap.size = w.heap.size + 1 := by omega
  have p0_ne_r0 : ¬ w.heap.size = w.heap.size + 1 + 1 := by omega
  have p1_ne_p0 : ¬ w.heap.size + 1 = w.heap.size := by omega
  have p1_ne_r0 : ¬ w.heap.size + 1 = w.heap.size + 1 + 1 := by omega
  have r0_ne_p0 : ¬ w.heap.size + 1 + 1 = w.heap.size := by omega
  have r0_ne_p1 : ¬ w.heap.size + 1 + 1 = w.heap.size + 1 := by omega
  replace p0_0 := p0.cell (i := 0) rfl
  replace p0_1 := p0.cell (i := 1) rfl
  replace p0_2 := p0.cell (i := 2) rfl
  replace p1_0 := p1.cell (i := 0) rfl
  replace p1_1 := p1.cell (i := 1) rfl
  replace p1_2 := p1.cell (i := 2) rfl
  replace r0_0 := r0.cell (i := 0) rfl
  replace r0_1 := r0.cell (i := 1) rfl
  replace r0_2 := r0.cell (i := 2) rfl
  replace r0_f0 := r0.free 0
  replace r0_f1 := r0.free 1
  replace r0_f2 := r0.free 2
  replace r0_lt := r0.lt
  have hW : w.heap.size + 1 + 1 < W.heap.size := r0.lt
  (with_reducible refine (join_ans K hK 93 _ (·+·) add_eq addOp (Lib.hid (enters_mk Tryz.func93 (by kernel_rfl) rfl)) W b a a2 n c n2 c2 x (h.ext hEW) b' a' a2' n' c' n2' c2' y (h'.ext hEW) hn2 hn2' hm hm' s hs qss hq).mono ?_)
  rintro e w1 ⟨b3, a3, n3, c3, a4, n4, c4, rfl, hE1, he, ho⟩
  replace r0 := r0.ext hE1; replace r0_0 := r0.cell (i := 0) rfl; replace r0_1 := r0.cell (i := 1) rfl; replace r0_2 := r0.cell (i := 2) rfl; replace r0_f0 := r0.free 0; replace r0_f1 := r0.free 1; replace r0_f2 := r0.free 2; replace r0_lt := r0.lt
  have HF : Hid (RAns w s qss (.returned (.tuple #[.agg #[.bool b3, .slice a3 n3 c3, .slice a4 n4 c4], .int .i64 s])) (((w1.setCell ⟨w.heap.size + 1 + 1, 0, none⟩ (.bool b3)).setCell ⟨w.heap.size + 1 + 1, 1, none⟩ (.slice a3 n3 c3)).setCell ⟨w.heap.size + 1 + 1, 2, none⟩ (.slice a4 n4 c4))) := Lib.hid ⟨b3, a3, n3, c3, a4, n4, c4, rfl, ext_set3 (Ext.trans hEW hE1) _ _ _ (by omega), he, fun h0 => ⟨(ho h0).1, ((ho h0).2.1.mono (Nat.le_refl _) (kept_set3 _ _ _ _ hW)).mono (by omega) (Kept.refl _ _), ((ho h0).2.2.mono (Nat.le_refl _) (kept_set3 _ _ _ _ hW)).mono (by omega) (Kept.refl _ _)⟩⟩
  clear hEW hE1 he ho h h'
  have r02 : Blk ((((w1).setCell ⟨w.heap.size + 1 + 1, 0, none⟩ (.bool b3)).setCell ⟨w.heap.size + 1 + 1, 1, none⟩ (.slice a3 n3 c3)).setCell ⟨w.heap.size + 1 + 1, 2, none⟩ (.slice a4 n4 c4)) _ _ #[.bool b3, .slice a3 n3 c3, .slice a4 n4 c4] := (((r0).set 0 (.bool b3)).set 1 (.slice a3 n3 c3)).set 2 (.slice a4 n4 c4)
  have hr00 := r02.cell (i := 0) rfl
  have hr01 := r02.cell (i := 1) rfl
  have hr02 := r02.cell (i := 2) rfl
  go_wp2_with fail
  exact bodyPost_ret (v := .tuple #[.agg #[.bool b3, .slice a3 n3 c3, .slice a4 n4 c4], .int .i64 s]) (by simp [results, Tryz.results43, go_sem, hr00, hr01, hr02]) rfl HF.out
set_option maxRecDepth 100000 in
set_option maxHeartbeats 4000000 in
theorem sub_ans (K : Nat) (hK : K + K + 1099511627776 ≤ 8796093022208)
    (w : World) (b : Bool) (a a2 : Option Addr) (n c n2 c2 : Nat) (x : Int × List (List Int)) (h : MatS K w b a n c a2 n2 c2 x.1 x.2) (b' : Bool) (a' a2' : Option Addr) (n' c' n2' c2' : Nat) (y : Int × List (List Int)) (h' : MatS K w b' a' n' c' a2' n2' c2' y.1 y.2) (hn2 : n2 ≤ 1099511627776) (hn2' : n2' ≤ 1099511627776) (hm : colsOf x.2 ≤ 1099511627776) (hm' : colsOf y.2 ≤ 1099511627776) (s : Int) (hs : Hid (joinE x y = s)) (qss : List (List Rat))
    (hq : Hid (joinQ (· - ·) (fracs x.1 x.2) (fracs y.1 y.2) n2 (colsOf x.2) = qss)) :
    Calls Tryz.prog 44 #[.agg #[.bool b, .slice a n c, .slice a2 n2 c2], .agg #[.bool b', .slice a' n' c', .slice a2' n2' c2']] w (RAns w s qss) := by
  have subOp := Lib.hid (op_sub K (by omega))
  have sub_eq := Lib.hid subZ_eq
  go_enter Tryz.func44, Tryz.ntmps44
  go_wp2_with fail
  have p0 := Blk.new w 28 #[.bool b, .slice a n c, .slice a2 n2 c2]
  have p1 := Blk.new (w.alloc (Obj.cells #[.bool b, .slice a n c, .slice a2 n2 c2] 28)) 28 #[.bool b', .slice a' n' c', .slice a2' n2' c2']
  replace p0 := p0.ext ((Below.refl _ _).alloc (Nat.le_refl _) (Obj.cells #[.bool b', .slice a' n' c', .slice a2' n2' c2'] 28))
  have r0 := Blk.new ((w.alloc (Obj.cells #[.bool b, .slice a n c, .slice a2 n2 c2] 28)).alloc (Obj.cells #[.bool b', .slice a' n' c', .slice a2' n2' c2'] 28)) 28 #[.bool false, .slice none 0 0, .slice none 0 0]
  replace p0 := p0.ext ((Below.refl _ _).alloc (Nat.le_refl _) (Obj.cells #[.bool false, .slice none 0 0, .slice none 0 0] 28))
  replace p1 := p1.ext ((Below.refl _ _).alloc (Nat.le_refl _) (Obj.cells #[.bool false, .slice none 0 0, .slice none 0 0] 28))
  have hEW : Ext w (((w.alloc (Obj.cells #[.bool b, .slice a n c, .slice a2 n2 c2] 28)).alloc (Obj.cells #[.bool b', .slice a' n' c', .slice a2' n2' c2'] 28)).alloc (Obj.cells #[.bool false, .slice none 0 0, .slice none 0 0] 28)) := ((((Below.refl _ w).alloc (by simp) _).alloc (by simp) _).alloc (by simp; omega) _)
  generalize hgW : ((w.alloc (Obj.cells #[.bool b, .slice a n c, .slice a2 n2 c2] 28)).alloc (Obj.cells #[.bool b', .slice a' n' c', .slice a2' n2' c2'] 28)).alloc (Obj.cells #[.bool false, .slice none 0 0, .slice none 0 0] 28) = W at *
  clear hgW
  simp only [World.size_alloc] at p1 r0
  have p0_ne_p1 : ¬ w.heap.size = w.heap.size + 1 := by omega
  have p0_ne_r0 : ¬ w.heap.size = w.heap.size + 1 + 1 := by omega
  have p1_ne_p0 : ¬ w.heap.size + 1 = w.heap.size := by omega
  have p1_ne_r0 : ¬ w.heap.size + 1 = w.heap.size + 1 + 1 := by omega
  have r0_ne_p0 : ¬ w.heap.size + 1 + 1 = w.heap.size := by omega
  have r0_ne_p1 : ¬ w.heap.size + 1 + 1 = w.heap.size + 1 := by omega
  replace p0_0 := p0.cell (i := 0) rfl
  replace p0_1 := p0.cell (i := 1) rfl
  replace p0_2 := p0.cell (i := 2) rfl
  replace p1_0 := p1.cell (i := 0) rfl
  replace p1_1 := p1.cell (i := 1) rfl
  replace p1_2 := p1.cell (i := 2) rfl
  replace r0_0 := r0.cell (i := 0) rfl
  replace r0_1 := r0.cell (i := 1) rfl
  replace r0_2 := r0.cell (i := 2) rfl
  replace r0_f0 := r0.free 0
  replace r0_f1 := r0.free 1
  replace r0_f2 := r0.free 2
  replace r0_lt := r0.lt
  have hW : w.heap.size + 1 + 1 < W.heap.size := r0.lt
  (with_reducible refine (join_ans K hK 98 _ (·-·) sub_eq subOp (Lib.hid (enters_mk Tryz.func98 (by kernel_rfl) rfl)) W b a a2 n c n2 c2 x (h.ext hEW) b' a' a2' n' c' n2' c2' y (h'.ext hEW) hn2 hn2' hm hm' s hs qss hq).mono ?_)
  rintro e w1 ⟨b3, a3, n3, c3, a4, n4, c4, rfl, hE1, he, ho⟩
  replace r0 := r0.ext hE1; replace r0_0 := r0.cell (i := 0) rfl; replace r0_1 := r0.cell (i := 1) rfl; replace r0_2 := r0.cell (i := 2) rfl; replace r0_f0 := r0.free 0; replace r0_f1 := r0.free 1; replace r0_f2 := r0.free 2; replace r0_lt := r0.lt
  have HF : Hid (RAns w s qss (.returned (.tuple #[.agg #[.bool b3, .slice a3 n3 c3, .slice a4 n4 c4], .int .i64 s])) (((w1.setCell ⟨w.heap.size + 1 + 1, 0, none⟩ (.bool b3)).setCell ⟨w.heap.size + 1 + 1, 1, none⟩ (.slice a3 n3 c3)).setCell ⟨w.heap.size + 1 + 1, 2, none⟩ (.slice a4 n4 c4))) := Lib.hid ⟨b3, a3, n3, c3, a4, n4, c4, rfl, ext_set3 (Ext.trans hEW hE1) _ _ _ (by omega), he, fun h0 => ⟨(ho h0).1, ((ho h0).2.1.mono (Nat.le_refl _) (kept_set3 _ _ _ _ hW)).mono (by omega) (Kept.refl _ _), ((ho h0).2.2.mono (Nat.le_refl _) (kept_set3 _ _ _ _ hW)).mono (by omega) (Kept.refl _ _)⟩⟩
  clear hEW hE1 he ho h h'
  have r02 : Blk ((((w1).setCell ⟨w.heap.size + 1 + 1, 0, none⟩ (.bool b3)).setCell ⟨w.heap.size + 1 + 1, 1, none⟩ (.slice a3 n3 c3)).setCell ⟨w.heap.size + 1 + 1, 2, none⟩ (.slice a4 n4 c4)) _ _ #[.bool b3, .slice a3 n3 c3, .slice a4 n4 c4] := (((r0).set 0 (.bool b3)).set 1 (.slice a3 n3 c3)).set 2 (.slice a4 n4 c4)
  have hr00 := r02.cell (i := 0) rfl
  have hr01 := r02.cell (i := 1) rfl
  have hr02 := r02.cell (i := 2) rfl
  go_wp2_with fail
  exact bodyPost_ret (v := .tuple #[.agg #[.bool b3, .slice a3 n3 c3, .slice a4 n4 c4], .int .i64 s]) (by simp [results, Tryz.results44, go_sem, hr00, hr01, hr02]) rfl HF.out
end Go.Proofs.YtbhenelehhiakaaGreat
