/-
  The program's answers: Mul, Kronecker.
-/
import Derived.Test.YtbhenelehhiakaaGreatProd38
import Derived.Test.YtbhenelehhiakaaGreatProd39
import Derived.Test.YtbhenelehhiakaaGreatProd42
set_option linter.unusedVariables false
set_option linter.unusedSimpArgs false
namespace Go.Proofs.YtbhenelehhiakaaGreat
open Go.RowKit

def mulE (x y : Int × List (List Int)) : Int := if checksE [x, y] ≠ 0 then checksE [x, y] else if colsOf x.2 ≠ y.2.length then 2 else 0
theorem MatS.len2 {K : Nat} {w : World} {b : Bool} {a a2 : Option Addr} {n c n2 c2 : Nat} {d : Int} {zss : List (List Int)} (h : MatS K w b a n c a2 n2 c2 d zss) : zss.length = n2 := by
  obtain ⟨_, _, _, _, h4⟩ := h
  exact h4.len
theorem table_cols (zs : Nat → Nat → Int) (r c : Nat) : ∀ row ∈ tableZ zs r c, row.length = colsOf (tableZ zs r c) := colsOf_all _ c (table_len zs r c)

set_option maxHeartbeats 2000000 in
theorem mul_ans (K : Nat) (hK : K + K + 1099511627776 ≤ 8796093022208) (w : World) (b : Bool) (a a2 : Option Addr) (n c n2 c2 : Nat) (x : Int × List (List Int)) (h : MatS K w b a n c a2 n2 c2 x.1 x.2) (b' : Bool) (a' a2' : Option Addr) (n' c' n2' c2' : Nat) (y : Int × List (List Int)) (h' : MatS K w b' a' n' c' a2' n2' c2' y.1 y.2) (hn2 : n2 ≤ 1099511627776) (hn2' : n2' ≤ 1099511627776) (hm : colsOf x.2 ≤ 1099511627776) (hm' : colsOf y.2 ≤ 1099511627776) (s : Int) (hs : Hid (mulE x y = s)) (qss : List (List Rat)) (hq : Hid (mulQ (fracs x.1 x.2) (fracs y.1 y.2) n2 n2' (colsOf y.2) = qss)) :
    Calls Tryz.prog 38 #[.agg #[.bool b, .slice a n c, .slice a2 n2 c2], .agg #[.bool b', .slice a' n' c', .slice a2' n2' c2']] w (RAns w s qss) := by
  have hl' := h'.len2
  by_cases h0 : checksE [x, y] = 0
  · have hx := checksE_zero h0 x (by simp)
    have hy := checksE_zero h0 y (by simp)
    by_cases hc : colsOf x.2 = n2'
    · have hs0 : s = 0 := by rw [← hs.out]; unfold mulE; rw [if_neg (by simpa using h0), if_neg (by rw [hl']; simpa using hc)]
      subst hs0
      refine (qMul_ok K hK w b a a2 n c n2 c2 x.1 x.2 h b' a' a2' n' c' n2' c2' y.1 y.2 h' 0 rfl (Lib.hid h0) (colsOf x.2) (colsOf y.2) (Lib.hid rfl) (Lib.hid rfl) hn2 hn2' hm hm' hc _ (Lib.hid rfl)).mono fun e w' hr => ?_
      exact RMatOk.ans hr (Int.mul_ne_zero hx.1 hy.1) (table_cols _ _ _) qss (by rw [mulZ_eq _ _ _ _ hx.1 hy.1, hc, hq.out])
    · have hs0 : s = 2 := by rw [← hs.out]; unfold mulE; rw [if_neg (by simpa using h0), if_pos (by rw [hl']; exact hc)]
      subst hs0
      exact (qMul_shape K hK w b a a2 n c n2 c2 x.1 x.2 h b' a' a2' n' c' n2' c2' y.1 y.2 h' 0 rfl (Lib.hid h0) (colsOf x.2) (colsOf y.2) (Lib.hid rfl) (Lib.hid rfl) hn2 hn2' hm hm' hc).mono fun e w' hr => RMatErr.ans hr (by decide) qss
  · have hs0 : s = checksE [x, y] := by rw [← hs.out]; unfold mulE; rw [if_pos h0]
    subst hs0
    exact (qMul_err K hK w b a a2 n c n2 c2 x.1 x.2 h b' a' a2' n' c' n2' c2' y.1 y.2 h' _ (Lib.hid rfl) h0).mono fun e w' hr => RMatErr.ans hr h0 qss

def kronE (x y : Int × List (List Int)) : Int := if checksE [x, y] ≠ 0 then checksE [x, y] else if 1000 < x.2.length * y.2.length ∨ 1000 < colsOf x.2 * colsOf y.2 then 4 else 0
set_option maxHeartbeats 2000000 in
theorem kron_ans (K : Nat) (hK : K + K + 1099511627776 ≤ 8796093022208) (w : World) (b : Bool) (a a2 : Option Addr) (n c n2 c2 : Nat) (x : Int × List (List Int)) (h : MatS K w b a n c a2 n2 c2 x.1 x.2) (b' : Bool) (a' a2' : Option Addr) (n' c' n2' c2' : Nat) (y : Int × List (List Int)) (h' : MatS K w b' a' n' c' a2' n2' c2' y.1 y.2) (hn2 : n2 ≤ 1099511627776) (hn2' : n2' ≤ 1099511627776) (hm : colsOf x.2 ≤ 1099511627776) (hm' : colsOf y.2 ≤ 1099511627776) (s : Int) (hs : Hid (kronE x y = s)) (qss : List (List Rat)) (hq : Hid (kronQ (fracs x.1 x.2) (fracs y.1 y.2) n2 (colsOf x.2) n2' (colsOf y.2) = qss)) :
    Calls Tryz.prog 39 #[.agg #[.bool b, .slice a n c, .slice a2 n2 c2], .agg #[.bool b', .slice a' n' c', .slice a2' n2' c2']] w (RAns w s qss) := by
  have hl := h.len2
  have hl' := h'.len2
  by_cases h0 : checksE [x, y] = 0
  · have hx := checksE_zero h0 x (by simp)
    have hy := checksE_zero h0 y (by simp)
    by_cases hc : 1000 < n2 * n2' ∨ 1000 < colsOf x.2 * colsOf y.2
    · have hs0 : s = 4 := by rw [← hs.out]; unfold kronE; rw [if_neg (by simpa using h0), if_pos (by rw [hl, hl']; exact hc)]
      subst hs0
      exact (qKron_big K hK w b a a2 n c n2 c2 x.1 x.2 h b' a' a2' n' c' n2' c2' y.1 y.2 h' 0 rfl (Lib.hid h0) (colsOf x.2) (colsOf y.2) (Lib.hid rfl) (Lib.hid rfl) hn2 hn2' hm hm' hc).mono fun e w' hr => RMatErr.ans hr (by decide) qss
    · have hs0 : s = 0 := by rw [← hs.out]; unfold kronE; rw [if_neg (by simpa using h0), if_neg (by rw [hl, hl']; exact hc)]
      subst hs0
      refine (qKron_ok K hK w b a a2 n c n2 c2 x.1 x.2 h b' a' a2' n' c' n2' c2' y.1 y.2 h' 0 rfl (Lib.hid h0) (colsOf x.2) (colsOf y.2) (Lib.hid rfl) (Lib.hid rfl) hn2 hn2' hm hm' (by omega) (by omega) _ (Lib.hid rfl)).mono fun e w' hr => ?_
      exact RMatOk.ans hr (Int.mul_ne_zero hx.1 hy.1) (table_cols _ _ _) qss (by rw [← hq.out]; exact kronZ_eq _ _ _ _ _ _ _ _)
  · have hs0 : s = checksE [x, y] := by rw [← hs.out]; unfold kronE; rw [if_pos h0]
    subst hs0
    exact (qKron_err K hK w b a a2 n c n2 c2 x.1 x.2 h b' a' a2' n' c' n2' c2' y.1 y.2 h' _ (Lib.hid rfl) h0).mono fun e w' hr => RMatErr.ans hr h0 qss
end Go.Proofs.YtbhenelehhiakaaGreat
