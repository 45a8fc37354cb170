/-
  The references' Add, Sub, Scale where the program answers.
-/
import Derived.Test.YtbhenelehhiakaaGreatSum42
import Derived.Test.YtbhenelehhiakaaGreatSum47
import Derived.Test.YtbhenelehhiakaaGreatSum48
set_option linter.unusedVariables false
set_option linter.unusedSimpArgs false
namespace Go.Proofs.YtbhenelehhiakaaGreat
open Go.RowKit

theorem joinE_zero {x y : Int × List (List Int)} (h : joinE x y = 0) : checksE [x, y] = 0 ∧ x.2.length = y.2.length ∧ colsOf x.2 = colsOf y.2 := by
  unfold joinE at h
  by_cases h0 : checksE [x, y] = 0
  · rw [if_neg (by simpa using h0)] at h
    by_cases hc : x.2.length ≠ y.2.length ∨ colsOf x.2 ≠ colsOf y.2
    · rw [if_pos hc] at h; simp at h
    · exact ⟨h0, by omega, by omega⟩
  · rw [if_pos h0] at h; exact absurd h h0
theorem scaleE_zero {x : Int × List (List Int)} {q : Int × Int} (h : scaleE x q = 0) : checkE x.1 x.2 = 0 ∧ q.2 ≠ 0 := by
  unfold scaleE at h
  by_cases h0 : checkE x.1 x.2 = 0
  · rw [if_neg (by simpa using h0)] at h
    by_cases hc : q.2 = 0
    · rw [if_pos hc] at h; simp at h
    · exact ⟨h0, hc⟩
  · rw [if_pos h0] at h; exact absurd h h0

theorem r11Add_ref (K : Nat) (hK : 16 * K + 8 ≤ 549755813888)
    (w : World) (b : Bool) (a a2 : Option Addr) (n c n2 c2 : Nat) (x : Int × List (List Int)) (h : MatS K w b a n c a2 n2 c2 x.1 x.2) (b' : Bool) (a' a2' : Option Addr) (n' c' n2' c2' : Nat) (y : Int × List (List Int)) (h' : MatS K w b' a' n' c' a2' n2' c2' y.1 y.2) (hs : Hid (joinE x y = 0)) (hn2 : n2 ≤ 1048576) (hm : colsOf x.2 ≤ 1048576) (qss : List (List Rat))
    (hq : Hid (joinQ (· + ·) (fracs x.1 x.2) (fracs y.1 y.2) n2 (colsOf x.2) = qss)) :
    Calls Tryz.prog 47 #[.agg #[.bool b, .slice a n c, .slice a2 n2 c2], .agg #[.bool b', .slice a' n' c', .slice a2' n2' c2']] w (RRef w qss) := by
  obtain ⟨h0, h1, h2⟩ := joinE_zero hs.out
  have hl := h.len2
  have hl' := h'.len2
  obtain rfl : n2 = n2' := by omega
  have hx := checksE_zero h0 x (by simp)
  have hy := checksE_zero h0 y (by simp)
  exact r11Add_any K (by omega) w b a a2 n c n2 c2 x.1 x.2 h b' a' a2' n' c' c2' y.1 y.2 h' hx.1 hy.1 (colsOf x.2) (Lib.hid (even_len hx.2)) (Lib.hid (fun zs hz => by rw [h2]; exact even_len hy.2 zs hz)) hn2 hm qss hq
theorem r11Sub_ref (K : Nat) (hK : 16 * K + 8 ≤ 549755813888) (hK1 : 1 ≤ K)
    (w : World) (b : Bool) (a a2 : Option Addr) (n c n2 c2 : Nat) (x : Int × List (List Int)) (h : MatS K w b a n c a2 n2 c2 x.1 x.2) (b' : Bool) (a' a2' : Option Addr) (n' c' n2' c2' : Nat) (y : Int × List (List Int)) (h' : MatS K w b' a' n' c' a2' n2' c2' y.1 y.2) (hs : Hid (joinE x y = 0)) (hn2 : n2 ≤ 1048576) (hm : colsOf x.2 ≤ 1048576) (qss : List (List Rat))
    (hq : Hid (joinQ (· - ·) (fracs x.1 x.2) (fracs y.1 y.2) n2 (colsOf x.2) = qss)) :
    Calls Tryz.prog 48 #[.agg #[.bool b, .slice a n c, .slice a2 n2 c2], .agg #[.bool b', .slice a' n' c', .slice a2' n2' c2']] w (RRef w qss) := by
  obtain ⟨h0, h1, h2⟩ := joinE_zero hs.out
  have hl := h.len2
  have hl' := h'.len2
  obtain rfl : n2 = n2' := by omega
  have hx := checksE_zero h0 x (by simp)
  have hy := checksE_zero h0 y (by simp)
  exact r11Sub_any K hK hK1 w b a a2 n c n2 c2 x.1 x.2 h b' a' a2' n' c' c2' y.1 y.2 h' hx.1 hy.1 (colsOf x.2) (Lib.hid (even_len hx.2)) (Lib.hid (fun zs hz => by rw [h2]; exact even_len hy.2 zs hz)) hn2 hm qss hq
theorem r11Scale_ref (K : Nat) (hK : 16 * K + 8 ≤ 549755813888) (w : World) (b : Bool) (a a2 : Option Addr) (n c n2 c2 : Nat) (x : Int × List (List Int)) (h : MatS K w b a n c a2 n2 c2 x.1 x.2) (bx by1 : Bool) (ax ay : Option Addr) (nx cx ny cy : Nat) (q : Int × Int) (hq : (rFr K).ok 0 w [.bool bx, .slice ax nx cx, .bool by1, .slice ay ny cy] q) (hs : Hid (scaleE x q = 0)) (hn2 : n2 ≤ 1048576) (hm : colsOf x.2 ≤ 1048576) (qss : List (List Rat)) (hqs : Hid (scaleQ (fracs x.1 x.2) (frR q) n2 (colsOf x.2) = qss)) :
    Calls Tryz.prog 49 #[.agg #[.bool b, .slice a n c, .slice a2 n2 c2], .agg #[.bool bx, .slice ax nx cx, .bool by1, .slice ay ny cy]] w (RRef w qss) := by
  obtain ⟨h0, hc⟩ := scaleE_zero hs.out
  have hx := checkE_zero h0
  obtain ⟨_, _, _, _, _, _, _, _, hcs, l, l2, h1, h2, hv1, hv2, hn, hnn⟩ := hq
  cases hcs
  exact r11Scale_any K (by omega) w b a a2 n c n2 c2 x.1 x.2 h bx by1 ax ay nx cx ny cy (frR q) ⟨l, l2, h1, h2, by rw [hv2]; exact hc, by rw [hv1, hv2]; rfl, hn, hnn⟩ hx.1 (colsOf x.2) (Lib.hid (even_len hx.2)) hn2 hm qss hqs
end Go.Proofs.YtbhenelehhiakaaGreat
