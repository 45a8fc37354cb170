/-
  Blocks, Stack and Cut: the program's answers and the references', as raw data.
-/
import Derived.Test.YtbhenelehhiakaaPart33
import Derived.Test.YtbhenelehhiakaaPart36
import Derived.Test.YtbhenelehhiakaaPart37
set_option linter.unusedVariables false
set_option linter.unusedSimpArgs false
namespace Go.Proofs.Ytbhenelehhiakaa
open Go.RowKit

/-- the normal form's denominator and numerators -/
def nrmD (qss : List (List Rat)) : Nat := comDen qss.flatten
def nrmZ (qss : List (List Rat)) : List (List Int) := qss.map fun qs => qs.map (comNum (nrmD qss))
def rawM (zss : List (List Int)) : List (List It) := zss.map fun zs => zs.map rawI

theorem ratv_den_dvd (z d : Int) (hd : d ≠ 0) : (ratv z d).den ∣ d.natAbs := by
  have key : ∀ z d : Int, 0 < d → (ratv z d).den ∣ d.natAbs := fun z d hd => by
    have h1 := ratv_den (z := z) hd
    have h2 : ((Int.gcd z d : Nat) : Int) ∣ d := Int.gcd_dvd_right ..
    obtain ⟨t, ht⟩ := h2
    have hg : ((Int.gcd z d : Nat) : Int) ≠ 0 := fun e => by rw [e, Int.zero_mul] at ht; omega
    have h3 : d / ((Int.gcd z d : Nat) : Int) = t := by
      conv => lhs; lhs; rw [ht]
      exact Int.mul_ediv_cancel_left _ hg
    rw [h3] at h1
    have h4 : (((ratv z d).den : Nat) : Int) ∣ d := ⟨((Int.gcd z d : Nat) : Int), by rw [h1, Int.mul_comm]; exact ht⟩
    have h5 : (((ratv z d).den : Nat) : Int) ∣ ((d.natAbs : Nat) : Int) := by rw [Int.natAbs_of_nonneg (by omega)]; exact h4
    exact Int.natCast_dvd_natCast.1 h5
  by_cases h : 0 < d
  · exact key z d h
  · have := key (-z) (-d) (by omega)
    rwa [ratv_neg, Int.natAbs_neg] at this
theorem nrmD_dvd (D : Int) (hD : D ≠ 0) (B : List (List Int)) : nrmD (fracs D B) ∣ D.natAbs := by
  refine comDen_dvd _ _ fun q hq => ?_
  obtain ⟨qs, hqs, hq⟩ := List.mem_flatten.1 hq
  obtain ⟨zs, _, rfl⟩ := List.mem_map.1 hqs
  obtain ⟨z, _, rfl⟩ := List.mem_map.1 hq
  exact ratv_den_dvd z D hD
theorem nrmD_nl (D : Int) (hD : D ≠ 0) (B : List (List Int)) (K : Nat) (h : nl D.natAbs ≤ K) : nl (nrmD (fracs D B)) ≤ K :=
  Nat.le_trans (nl_mono (Nat.le_of_dvd (Int.natAbs_pos.2 hD) (nrmD_dvd D hD B))) h
theorem made_nrm (D : Int) (hD : D ≠ 0) (B : List (List Int)) (hev : ∀ zs ∈ B, zs.length = colsOf B) : madeDen D B = ((nrmD (fracs D B) : Nat) : Int) ∧ madeRows D B = nrmZ (fracs D B) := by
  obtain ⟨h1, h2⟩ := made_normal D hD B hev
  exact ⟨h1.symm, h2.symm⟩

theorem rawIntsB {B : Nat} {w : World} {a : Option Addr} {n c : Nat} {zs : List Int} (h : Sl rIntN B w a n c zs) : Sl rInt B w a n c (zs.map rawI) :=
  h.mapw (s := rInt) rawI (Nat.le_refl _) rfl fun _ _ ⟨a, n, c, e, hs⟩ => ⟨[.bool _], [.slice a n c], e, rfl, a, n, c, rfl, hs⟩
theorem rawRowsB {B : Nat} {w : World} {a : Option Addr} {n c : Nat} {zss : List (List Int)} (h : Sl rRowsN B w a n c zss) : Sl rInts B w a n c (zss.map fun zs => zs.map rawI) :=
  h.mapw (s := rInts) (fun zs => zs.map rawI) (Nat.le_refl _) rfl fun _ _ ⟨a, n, c, e, hs⟩ => ⟨a, n, c, e, rawIntsB hs⟩
/-- an answer of the program: an error and nothing, or a matrix in normal form -/
def RAns (w : World) (s : Int) (qss : List (List Rat)) (e : Ending) (w' : World) : Prop := ∃ b a n c a2 n2 c2, e = .returned (.tuple #[.agg #[.bool b, .slice a n c, .slice a2 n2 c2], .int .i64 s]) ∧ Ext w w' ∧ (s ≠ 0 → b = false ∧ a = none ∧ n = 0 ∧ c = 0 ∧ a2 = none ∧ n2 = 0 ∧ c2 = 0) ∧ (s = 0 → b = false ∧ NatS w.heap.size w' a n c (limbs (nrmD qss)) ∧ Sl rInts w.heap.size w' a2 n2 c2 (rawM (nrmZ qss)))
theorem RMatErr.ans {w w' : World} {s : Int} {e : Ending} (h : RMatErr w s e w') (hs : s ≠ 0) (qss : List (List Rat)) : RAns w s qss e w' := by
  obtain ⟨he, hE⟩ := h
  exact ⟨false, none, 0, 0, none, 0, 0, he, hE, fun _ => ⟨rfl, rfl, rfl, rfl, rfl, rfl, rfl⟩, fun h => absurd h hs⟩
theorem RMatOk.ans {w w' : World} {D : Int} {B : List (List Int)} {e : Ending} (h : RMatOk w (madeDen D B) (madeRows D B) e w') (hD : D ≠ 0) (hev : ∀ zs ∈ B, zs.length = colsOf B) (qss : List (List Rat)) (hq : fracs D B = qss) : RAns w 0 qss e w' := by
  obtain ⟨h1, h2⟩ := made_nrm D hD B hev
  rw [h1, h2, hq] at h
  obtain ⟨a, n, c, a2, n2, c2, he, g1, g2, g3⟩ := h
  have hb : decide (((nrmD qss : Nat) : Int) < 0) = false := by simp
  rw [hb] at he
  exact ⟨false, a, n, c, a2, n2, c2, he, g3, fun h => absurd rfl h, fun _ => ⟨rfl, g1, rawRowsB g2⟩⟩
/-- an answer of the reference -/
def RRef (w : World) (qss : List (List Rat)) (e : Ending) (w' : World) : Prop := ∃ a n c a2 n2 c2, e = .returned (.agg #[.bool false, .slice a n c, .slice a2 n2 c2]) ∧ NatS 0 w' a n c (limbs (nrmD qss)) ∧ Sl rInts 0 w' a2 n2 c2 (rawM (nrmZ qss)) ∧ Ext w w'
theorem RFrom.ref {w w' : World} {qss : List (List Rat)} {e : Ending} (h : RFrom w (nrmD qss) (qss.map fun qs => qs.map (comNum (nrmD qss))) e w') : RRef w qss e w' := h.raw

set_option maxRecDepth 100000 in
set_option maxHeartbeats 4000000 in
theorem blocks_err (K : Nat) (hK : K ≤ 8796093022208) (w : World) (a : Option Addr) (n c : Nat) (ms : Ms) (h : Sl (rMatK K) 0 w a n c ms) (s : Int) (hs : Hid (checksE ms = s)) (h0 : s ≠ 0) : Calls Try.prog 15 #[.slice a n c] w (RMatErr w s) := by
  have hs0 : (s != 0) = true := by simpa using h0
  go_enter Try.func15, Try.ntmps15
  go_wp2_with fail
  have r := Blk.new w 30 #[.bool false, .slice none 0 0, .slice none 0 0]
  have hEW : Ext w (w.alloc (Obj.cells #[.bool false, .slice none 0 0, .slice none 0 0] 30)) := ((Below.refl _ w).alloc (by simp) _)
  generalize hgW : w.alloc (Obj.cells #[.bool false, .slice none 0 0, .slice none 0 0] 30) = W at *
  clear hgW
  replace r_0 := r.cell (i := 0) rfl
  replace r_1 := r.cell (i := 1) rfl
  replace r_2 := r.cell (i := 2) rfl
  replace r_f0 := r.free 0
  replace r_f1 := r.free 1
  replace r_f2 := r.free 2
  replace r_lt := r.lt
  refine (checks_any K hK W a n c ms (h.ext (Nat.le_refl _) hEW) s hs).mono ?_
  rintro e w1 ⟨rfl, hE1⟩
  replace r := r.ext hE1; replace r_0 := r.cell (i := 0) rfl; replace r_1 := r.cell (i := 1) rfl; replace r_2 := r.cell (i := 2) rfl; replace r_f0 := r.free 0; replace r_f1 := r.free 1; replace r_f2 := r.free 2; replace r_lt := r.lt
  have HF : Hid (RMatErr w s (.returned (.tuple #[.agg #[.bool false, .slice none 0 0, .slice none 0 0], .int .i64 s])) (((w1.setCell ⟨w.heap.size, 0, none⟩ (.bool false)).setCell ⟨w.heap.size, 1, none⟩ (.slice none 0 0)).setCell ⟨w.heap.size, 2, none⟩ (.slice none 0 0))) := Lib.hid ⟨rfl, ext_set3 (Ext.trans hEW hE1) _ _ _ (Nat.le_refl _)⟩
  have r2 := ((r.set 0 (.bool false)).set 1 (.slice none 0 0)).set 2 (.slice none 0 0)
  have hr0 := r2.cell (i := 0) rfl
  have hr1 := r2.cell (i := 1) rfl
  have hr2 := r2.cell (i := 2) rfl
  clear hEW hE1 h
  go_wp2_with fail
  exact bodyPost_ret (v := .tuple #[.agg #[.bool false, .slice none 0 0, .slice none 0 0], .int .i64 s]) (by simp [results, Try.results15, go_sem, hr0, hr1, hr2]) rfl HF.out

theorem colsOf_all {α : Type} (B : List (List α)) (m : Nat) (h : ∀ xs ∈ B, xs.length = m) : ∀ xs ∈ B, xs.length = colsOf B := fun xs hx => by
  cases B with
  | nil => simp at hx
  | cons y B => rw [h xs hx]; exact (h y (List.mem_cons_self ..)).symm

theorem blocks_ans (K KD : Nat) (hK : K + KD ≤ 8796093022208) (w : World) (a : Option Addr) (n c : Nat) (ms : Ms) (h : Sl (rMatK K) 0 w a n c ms) (hDK : nl (blkDen ms).natAbs ≤ KD) (hR : rowsOf ms ≤ 1099511627776) (hC : blkCols ms ≤ 1099511627776) (hrow : ∀ m ∈ ms, ∀ zs ∈ m.2, zs.length ≤ 1099511627776) (s : Int) (hs : Hid (checksE ms = s)) (qss : List (List Rat)) (hq : Hid (blkQ (blkCols ms) ms 0 = qss)) :
    Calls Try.prog 15 #[.slice a n c] w (RAns w s qss) := by
  by_cases h0 : s = 0
  · subst h0
    have hz := checksE_zero hs.out
    have hD := blkDen_ne ms (fun m hm => (hz m hm).1)
    refine (blocks_any K KD (blkCols ms) (rowsOf ms) hK w a n c ms h hs (blkDen ms) (Lib.hid rfl) hDK (Lib.hid rfl) hC (Lib.hid rfl) hR (Lib.hid hrow)).mono fun e w' hh => ?_
    exact hh.ans hD (colsOf_all _ _ (blkRows_len _ _ ms 0)) qss (by rw [← hq.out, blkQ_eq _ _ hD ms 0 (fun m hm => ⟨(hz m hm).1, den_dvd_blkDen ms m hm⟩)])
  · exact (blocks_err K (by omega) w a n c ms h s hs h0).mono fun e w' hh => hh.ans h0 qss

theorem r11Blocks_ref (K KD : Nat) (hK : 2 * K + KD + 2 ≤ 549755813888) (hK1 : 1 ≤ K) (w : World) (a : Option Addr) (n c : Nat) (ms : Ms) (h : Sl (rMatK K) 0 w a n c ms) (hs : Hid (checksE ms = 0)) (hDK : nl (blkDen ms).natAbs ≤ KD) (hR : rowsOf ms ≤ 1048576) (hC : blkCols ms ≤ 1048576) (qss : List (List Rat)) (hq : Hid (blkQ (blkCols ms) ms 0 = qss)) :
    Calls Try.prog 17 #[.slice a n c] w (RRef w qss) := by
  have hz := checksE_zero hs.out
  have hD := blkDen_ne ms (fun m hm => (hz m hm).1)
  have hqe := blkQ_eq (blkCols ms) _ hD ms 0 (fun m hm => ⟨(hz m hm).1, den_dvd_blkDen ms m hm⟩)
  have hnl : nl (comDen qss.flatten) ≤ KD := by rw [← hq.out, hqe]; exact nrmD_nl _ hD _ _ hDK
  have hN : qss.flatten.length ≤ 1099511627776 := by
    rw [← hq.out, flat_len _ _ (blkQ_len _ ms 0), length_blkQ]
    exact Nat.le_trans (Nat.mul_le_mul hR hC) (by decide)
  exact (r11Blocks_any K KD hK hK1 w a n c ms h (Lib.hid hz) (rowsOf ms) (blkCols ms) (Lib.hid rfl) (Lib.hid rfl) (by omega) (by omega) qss hq hN hnl _ (Lib.hid rfl)).mono fun e w' hh => RFrom.ref hh

/-! ### Stack -/
def stackE (x y : Int × List (List Int)) : Int := if checksE [x, y] ≠ 0 then checksE [x, y] else if x.2.length ≠ 0 ∧ y.2.length ≠ 0 ∧ colsOf x.2 ≠ colsOf y.2 then 2 else 0
def stackQ (x y : Int × List (List Int)) : List (List Rat) := fracs x.1 x.2 ++ fracs y.1 y.2
theorem stackZ_eq (zss zss' : List (List Int)) (d d' : Int) (hd : d ≠ 0) (hd' : d' ≠ 0) (m : Nat) (h1 : ∀ zs ∈ zss, zs.length = m) (h2 : ∀ zs ∈ zss', zs.length = m) : fracs (d * d') (tableZ (stackF zss zss' d d') (zss.length + zss'.length) m) = fracs d zss ++ fracs d' zss' := by
  refine List.ext_getElem (by simp [fracs, tableZ]) fun i g1 g2 => ?_
  have hi : i < zss.length + zss'.length := by simpa [fracs] using g2
  have hl : (fracs (d * d') (tableZ (stackF zss zss' d d') (zss.length + zss'.length) m))[i] = (List.range m).map fun k => ratv (stackF zss zss' d d' i k) (d * d') := by
    simp [fracs, tableZ, Function.comp_def]
  rw [hl]
  by_cases hin : i < zss.length
  · rw [List.getElem_append_left (by simpa [fracs] using hin)]
    simp only [fracs, List.getElem_map]
    have hm := h1 zss[i] (List.getElem_mem _)
    refine List.ext_getElem (by simp [hm]) fun k g3 g4 => ?_
    have hk : k < zss[i].length := by simpa using g4
    rw [List.getElem_map, List.getElem_map, List.getElem_range]
    unfold stackF
    rw [if_pos hin, List.getElem?_eq_getElem hin]
    show ratv ((zss[i][k]?).getD 0 * d') (d * d') = _
    rw [List.getElem?_eq_getElem hk]
    show ratv (zss[i][k] * d') (d * d') = _
    rw [Int.mul_comm _ d', Int.mul_comm d d', ratv_scale hd']
  · have hin2 : i - zss.length < zss'.length := by omega
    rw [List.getElem_append_right (by simp [fracs]; omega)]
    simp only [fracs, List.getElem_map, List.length_map]
    have hm := h2 zss'[i - zss.length] (List.getElem_mem _)
    refine List.ext_getElem (by simp [hm]) fun k g3 g4 => ?_
    have hk : k < zss'[i - zss.length].length := by simpa using g4
    rw [List.getElem_map, List.getElem_map, List.getElem_range]
    unfold stackF
    rw [if_neg hin, List.getElem?_eq_getElem hin2]
    show ratv ((zss'[i - zss.length][k]?).getD 0 * d) (d * d') = _
    rw [List.getElem?_eq_getElem hk]
    show ratv (zss'[i - zss.length][k] * d) (d * d') = _
    rw [Int.mul_comm _ d, ratv_scale hd]

theorem stack_ans (K : Nat) (hK : 2 * K ≤ 8796093022208) (w : World) (b : Bool) (a a2 : Option Addr) (n c n2 c2 : Nat) (x : Int × List (List Int)) (h : MatS K w b a n c a2 n2 c2 x.1 x.2) (b' : Bool) (a' a2' : Option Addr) (n' c' n2' c2' : Nat) (y : Int × List (List Int)) (h' : MatS K w b' a' n' c' a2' n2' c2' y.1 y.2) (hn2 : n2 ≤ 549755813888) (hn2' : n2' ≤ 549755813888) (hm : colsOf x.2 ≤ 1099511627776) (hm' : colsOf y.2 ≤ 1099511627776) (s : Int) (hs : Hid (stackE x y = s)) (qss : List (List Rat)) (hq : Hid (stackQ x y = qss)) :
    Calls Try.prog 18 #[.agg #[.bool b, .slice a n c, .slice a2 n2 c2], .agg #[.bool b', .slice a' n' c', .slice a2' n2' c2']] w (RAns w s qss) := by
  obtain ⟨d, zss⟩ := x
  obtain ⟨d', zss'⟩ := y
  have hl : zss.length = n2 := by obtain ⟨_, _, _, _, h9⟩ := h; exact h9.len
  have hl' : zss'.length = n2' := by obtain ⟨_, _, _, _, h9⟩ := h'; exact h9.len
  have hse := hs.out
  unfold stackE at hse
  simp only at hse
  by_cases h0 : checksE [(d, zss), (d', zss')] = 0
  · rw [if_neg (by simpa using h0)] at hse
    have hz := checksE_zero h0
    have hd := (hz (d, zss) (by simp)).1
    have hd' := (hz (d', zss') (by simp)).1
    have he := even_len (hz (d, zss) (by simp)).2
    have he' := even_len (hz (d', zss') (by simp)).2
    simp only at hd hd' he he' hm hm'
    have hqe : fracs d zss ++ fracs d' zss' = qss := hq.out
    by_cases hz1 : n2 = 0
    · have hn : zss = [] := List.length_eq_zero_iff.1 (by omega)
      rw [if_neg (by intro hc; omega)] at hse
      subst hse
      refine (qStack_first0 K hK w b a a2 n c n2 c2 d zss h b' a' a2' n' c' n2' c2' d' zss' h' (Lib.hid h0) _ _ (Lib.hid rfl) (Lib.hid rfl) hn2 hn2' hm hm' hz1).mono fun e w' hh => ?_
      exact hh.ans hd' he' qss (by rw [← hqe, hn]; rfl)
    · by_cases hz2 : n2' = 0
      · have hn : zss' = [] := List.length_eq_zero_iff.1 (by omega)
        rw [if_neg (by intro hc; omega)] at hse
        subst hse
        refine (qStack_second0 K hK w b a a2 n c n2 c2 d zss h b' a' a2' n' c' n2' c2' d' zss' h' (Lib.hid h0) _ _ (Lib.hid rfl) (Lib.hid rfl) hn2 hn2' hm hm' hz1 hz2).mono fun e w' hh => ?_
        exact hh.ans hd he qss (by rw [← hqe, hn]; simp [fracs])
      · by_cases hc : colsOf zss = colsOf zss'
        · rw [if_neg (by intro hcc; exact hcc.2.2 hc)] at hse
          subst hse
          refine (qStack_any K hK w b a a2 n c n2 c2 d zss h b' a' a2' n' c' n2' c2' d' zss' h' (Lib.hid h0) (colsOf zss) (Lib.hid rfl) (Lib.hid hc.symm) hn2 hn2' hm hz1 hz2 _ (Lib.hid rfl)).mono fun e w' hh => ?_
          refine hh.ans (Int.mul_ne_zero hd hd') (colsOf_all _ _ (table_len _ _ _)) qss ?_
          rw [← hqe, ← hl, ← hl']
          exact stackZ_eq zss zss' d d' hd hd' _ he (fun zs hz => by rw [hc]; exact he' zs hz)
        · rw [if_pos ⟨by omega, by omega, hc⟩] at hse
          subst hse
          refine (qStack_shape K hK w b a a2 n c n2 c2 d zss h b' a' a2' n' c' n2' c2' d' zss' h' (Lib.hid h0) _ _ (Lib.hid rfl) (Lib.hid rfl) hn2 hn2' hm hm' hz1 hz2 hc).mono fun e w' hh => hh.ans (by decide) qss
  · rw [if_pos h0] at hse
    exact (qStack_err K hK w b a a2 n c n2 c2 d zss h b' a' a2' n' c' n2' c2' d' zss' h' s (Lib.hid hse) (by rw [← hse]; exact h0)).mono fun e w' hh => hh.ans (by rw [← hse]; exact h0) qss
end Go.Proofs.Ytbhenelehhiakaa
/-
  Cut's answers, the references of Stack and Cut, and 'both'.
-/
namespace Go.Proofs.Ytbhenelehhiakaa
open Go.RowKit

theorem r11Stack_ref (K KL : Nat) (hK : 2 * K + KL + 2 ≤ 549755813888) (w : World) (b : Bool) (a a2 : Option Addr) (n c n2 c2 : Nat) (x : Int × List (List Int)) (h : MatS K w b a n c a2 n2 c2 x.1 x.2) (b' : Bool) (a' a2' : Option Addr) (n' c' n2' c2' : Nat) (y : Int × List (List Int)) (h' : MatS K w b' a' n' c' a2' n2' c2' y.1 y.2) (hn2 : n2 ≤ 1048576) (hn2' : n2' ≤ 1048576) (hm : colsOf x.2 ≤ 524288) (hm' : colsOf y.2 ≤ 524288) (hKL : nl (x.1 * y.1).natAbs ≤ KL) (hs : Hid (stackE x y = 0)) (qss : List (List Rat)) (hq : Hid (stackQ x y = qss)) :
    Calls Try.prog 21 #[.agg #[.bool b, .slice a n c, .slice a2 n2 c2], .agg #[.bool b', .slice a' n' c', .slice a2' n2' c2']] w (RRef w qss) := by
  obtain ⟨d, zss⟩ := x
  obtain ⟨d', zss'⟩ := y
  have hl : zss.length = n2 := by obtain ⟨_, _, _, _, h9⟩ := h; exact h9.len
  have hl' : zss'.length = n2' := by obtain ⟨_, _, _, _, h9⟩ := h'; exact h9.len
  have hse := hs.out
  unfold stackE at hse
  simp only at hse
  by_cases h0 : checksE [(d, zss), (d', zss')] = 0
  · rw [if_neg (by simpa using h0)] at hse
    have hz := checksE_zero h0
    have hd := (hz (d, zss) (by simp)).1
    have hd' := (hz (d', zss') (by simp)).1
    have he := even_len (hz (d, zss) (by simp)).2
    have he' := even_len (hz (d', zss') (by simp)).2
    simp only at hd hd' he he' hm hm' hKL
    obtain ⟨m, hmb, h1, h2⟩ : ∃ m, m ≤ 524288 ∧ (∀ zs ∈ zss, zs.length = m) ∧ (∀ zs ∈ zss', zs.length = m) := by
      by_cases hz1 : n2 = 0
      · have hn : zss = [] := List.length_eq_zero_iff.1 (by omega)
        exact ⟨colsOf zss', hm', by rw [hn]; simp, he'⟩
      · by_cases hz2 : n2' = 0
        · have hn : zss' = [] := List.length_eq_zero_iff.1 (by omega)
          exact ⟨colsOf zss, hm, he, by rw [hn]; simp⟩
        · by_cases hc : colsOf zss = colsOf zss'
          · exact ⟨colsOf zss, hm, he, fun zs hz => by rw [hc]; exact he' zs hz⟩
          · rw [if_pos ⟨by omega, by omega, hc⟩] at hse; simp at hse
    have hqe : fracs d zss ++ fracs d' zss' = qss := hq.out
    have hrow : ∀ qs ∈ qss, qs.length = m := fun qs hqs => by
      rw [← hqe] at hqs
      rcases List.mem_append.1 hqs with hqs | hqs
      · obtain ⟨zs, hzs, rfl⟩ := List.mem_map.1 hqs
        rw [List.length_map, h1 zs hzs]
      · obtain ⟨zs, hzs, rfl⟩ := List.mem_map.1 hqs
        rw [List.length_map, h2 zs hzs]
    have hN : qss.flatten.length ≤ 1099511627776 := by
      rw [flat_len _ m hrow, ← hqe, List.length_append, length_fracs, length_fracs, hl, hl']
      exact Nat.le_trans (Nat.mul_le_mul (Nat.add_le_add hn2 hn2') hmb) (by decide)
    have hnl : nl (comDen qss.flatten) ≤ KL := by
      rw [← hqe, ← stackZ_eq zss zss' d d' hd hd' m h1 h2]
      exact nrmD_nl _ (Int.mul_ne_zero hd hd') _ _ hKL
    exact (r11Stack_any K KL hK w b a a2 n c n2 c2 d zss h hd b' a' a2' n' c' n2' c2' d' zss' h' hd' m (Lib.hid h1) (Lib.hid h2) (by omega) (by omega) (by omega) qss (Lib.hid hqe) hN hnl _ (Lib.hid rfl)).mono fun e w' hh => RFrom.ref hh
  · rw [if_pos h0] at hse
    exact absurd hse h0

/-! ### Cut -/
def cutE (x : Int × List (List Int)) (r r2 k k2 : Int) : Int := if checkE x.1 x.2 ≠ 0 then checkE x.1 x.2 else if r < 0 ∨ r2 < r ∨ (x.2.length : Int) < r2 ∨ k < 0 ∨ k2 < k ∨ (colsOf x.2 : Int) < k2 then 1 else 0
def cutR (x : Int × List (List Int)) (r r2 k k2 : Int) : List (List Rat) := cutQ r.toNat r2.toNat k.toNat k2.toNat (fracs x.1 x.2)
theorem cutZ_eq (zss : List (List Int)) (d : Int) (m r r2 k k2 : Nat) (h1 : ∀ zs ∈ zss, zs.length = m) (hr : r ≤ r2) (hr2 : r2 ≤ zss.length) (hk : k ≤ k2) (hk2 : k2 ≤ m) : fracs d (tableZ (partZ zss r k) (r2 - r) (k2 - k)) = cutQ r r2 k k2 (fracs d zss) := by
  have hlf : (fracs d zss).length = zss.length := length_fracs d zss
  refine List.ext_getElem (by simp [fracs, tableZ, cutQ]; omega) fun i g1 g2 => ?_
  have hi : i < r2 - r := by simpa [fracs, tableZ] using g1
  have hl : (fracs d (tableZ (partZ zss r k) (r2 - r) (k2 - k)))[i] = (List.range (k2 - k)).map fun j => ratv (partZ zss r k i j) d := by
    simp [fracs, tableZ, Function.comp_def]
  rw [hl]
  simp only [cutQ, fracs, List.getElem_map, List.getElem_take, List.getElem_drop]
  have hm := h1 zss[r + i] (List.getElem_mem _)
  refine List.ext_getElem (by simp [hm]; omega) fun j g3 g4 => ?_
  have hj : j < k2 - k := by simpa using g3
  rw [List.getElem_map, List.getElem_range, List.getElem_take, List.getElem_drop, List.getElem_map]
  unfold partZ
  rw [List.getElem?_eq_getElem (show r + i < zss.length by omega)]
  show ratv ((zss[r + i][k + j]?).getD 0) d = _
  rw [List.getElem?_eq_getElem (show k + j < zss[r + i].length by omega)]
  rfl

theorem cut_ans (K : Nat) (hK : K ≤ 8796093022208) (w : World) (b : Bool) (a a2 : Option Addr) (n c n2 c2 : Nat) (x : Int × List (List Int)) (h : MatS K w b a n c a2 n2 c2 x.1 x.2) (hn2 : n2 ≤ 1099511627776) (hm : colsOf x.2 ≤ 1099511627776) (r r2 k k2 : Int) (s : Int) (hs : Hid (cutE x r r2 k k2 = s)) (qss : List (List Rat)) (hq : Hid (cutR x r r2 k k2 = qss)) :
    Calls Try.prog 22 #[.agg #[.bool b, .slice a n c, .slice a2 n2 c2], .int .i64 r, .int .i64 r2, .int .i64 k, .int .i64 k2] w (RAns w s qss) := by
  obtain ⟨d, zss⟩ := x
  have hl : zss.length = n2 := by obtain ⟨_, _, _, _, h9⟩ := h; exact h9.len
  have hse := hs.out
  unfold cutE at hse
  simp only at hse
  by_cases h0 : checkE d zss = 0
  · rw [if_neg (by simpa using h0), hl] at hse
    have harg : ∀ {P : Prop}, P → (P → r < 0 ∨ r2 < r ∨ (n2 : Int) < r2 ∨ k < 0 ∨ k2 < k ∨ (colsOf zss : Int) < k2) → s = 1 := fun hp hi => by rw [if_pos (hi hp)] at hse; exact hse.symm
    by_cases t0 : r < 0
    · obtain rfl := harg t0 .inl
      exact (qCut_arg0 K hK w b a a2 n c n2 c2 d zss h (Lib.hid h0) _ (Lib.hid rfl) hn2 hm r r2 k k2 t0).mono fun e w' hh => hh.ans (by decide) qss
    by_cases t1 : r2 < r
    · obtain rfl := harg t1 (fun h => .inr (.inl h))
      exact (qCut_arg1 K hK w b a a2 n c n2 c2 d zss h (Lib.hid h0) _ (Lib.hid rfl) hn2 hm r r2 k k2 t0 t1).mono fun e w' hh => hh.ans (by decide) qss
    by_cases t2 : (n2 : Int) < r2
    · obtain rfl := harg t2 (fun h => .inr (.inr (.inl h)))
      exact (qCut_arg2 K hK w b a a2 n c n2 c2 d zss h (Lib.hid h0) _ (Lib.hid rfl) hn2 hm r r2 k k2 t0 t1 t2).mono fun e w' hh => hh.ans (by decide) qss
    by_cases t3 : k < 0
    · obtain rfl := harg t3 (fun h => .inr (.inr (.inr (.inl h))))
      exact (qCut_arg3 K hK w b a a2 n c n2 c2 d zss h (Lib.hid h0) _ (Lib.hid rfl) hn2 hm r r2 k k2 t0 t1 t2 t3).mono fun e w' hh => hh.ans (by decide) qss
    by_cases t4 : k2 < k
    · obtain rfl := harg t4 (fun h => .inr (.inr (.inr (.inr (.inl h)))))
      exact (qCut_arg4 K hK w b a a2 n c n2 c2 d zss h (Lib.hid h0) _ (Lib.hid rfl) hn2 hm r r2 k k2 t0 t1 t2 t3 t4).mono fun e w' hh => hh.ans (by decide) qss
    by_cases t5 : (colsOf zss : Int) < k2
    · obtain rfl := harg t5 (fun h => .inr (.inr (.inr (.inr (.inr h)))))
      exact (qCut_arg5 K hK w b a a2 n c n2 c2 d zss h (Lib.hid h0) _ (Lib.hid rfl) hn2 hm r r2 k k2 t0 t1 t2 t3 t4 t5).mono fun e w' hh => hh.ans (by decide) qss
    rw [if_neg (by omega)] at hse
    subst hse
    obtain ⟨rn, rfl⟩ : ∃ t : Nat, r = t := ⟨r.toNat, by omega⟩
    obtain ⟨r2n, rfl⟩ : ∃ t : Nat, r2 = t := ⟨r2.toNat, by omega⟩
    obtain ⟨kn, rfl⟩ : ∃ t : Nat, k = t := ⟨k.toNat, by omega⟩
    obtain ⟨k2n, rfl⟩ : ∃ t : Nat, k2 = t := ⟨k2.toNat, by omega⟩
    have hz := checkE_zero h0
    have he := even_len hz.2
    refine (qCut_any K hK w b a a2 n c n2 c2 d zss h (Lib.hid h0) (colsOf zss) (Lib.hid rfl) hn2 hm rn r2n kn k2n (by omega) (by omega) (by omega) (by omega) _ (Lib.hid rfl)).mono fun e w' hh => ?_
    refine hh.ans hz.1 (colsOf_all _ _ (table_len _ _ _)) qss ?_
    rw [← hq.out]
    exact cutZ_eq zss d (colsOf zss) rn r2n kn k2n he (by omega) (by omega) (by omega) (by omega)
  · rw [if_pos h0] at hse
    exact (qCut_err K hK w b a a2 n c n2 c2 d zss h s (Lib.hid hse) (by rw [← hse]; exact h0) r r2 k k2).mono fun e w' hh => hh.ans (by rw [← hse]; exact h0) qss

theorem r11Cut_ref (K : Nat) (hK : 3 * K + 2 ≤ 549755813888) (w : World) (b : Bool) (a a2 : Option Addr) (n c n2 c2 : Nat) (x : Int × List (List Int)) (h : MatS K w b a n c a2 n2 c2 x.1 x.2) (hn2 : n2 ≤ 1048576) (hm : colsOf x.2 ≤ 1048576) (r r2 k k2 : Int) (hs : Hid (cutE x r r2 k k2 = 0)) (qss : List (List Rat)) (hq : Hid (cutR x r r2 k k2 = qss)) :
    Calls Try.prog 23 #[.agg #[.bool b, .slice a n c, .slice a2 n2 c2], .int .i64 r, .int .i64 r2, .int .i64 k, .int .i64 k2] w (RRef w qss) := by
  obtain ⟨d, zss⟩ := x
  have hl : zss.length = n2 := by obtain ⟨_, _, _, _, h9⟩ := h; exact h9.len
  have hse := hs.out
  unfold cutE at hse
  simp only at hse
  by_cases h0 : checkE d zss = 0
  · rw [if_neg (by simpa using h0), hl] at hse
    by_cases hbad : r < 0 ∨ r2 < r ∨ (n2 : Int) < r2 ∨ k < 0 ∨ k2 < k ∨ (colsOf zss : Int) < k2
    · rw [if_pos hbad] at hse; simp at hse
    · obtain ⟨rn, rfl⟩ : ∃ t : Nat, r = t := ⟨r.toNat, by omega⟩
      obtain ⟨r2n, rfl⟩ : ∃ t : Nat, r2 = t := ⟨r2.toNat, by omega⟩
      obtain ⟨kn, rfl⟩ : ∃ t : Nat, k = t := ⟨k.toNat, by omega⟩
      obtain ⟨k2n, rfl⟩ : ∃ t : Nat, k2 = t := ⟨k2.toNat, by omega⟩
      have hz := checkE_zero h0
      have he := even_len hz.2
      simp only at hm
      have hqe : cutQ rn r2n kn k2n (fracs d zss) = qss := hq.out
      have hze := cutZ_eq zss d (colsOf zss) rn r2n kn k2n he (by omega) (by omega) (by omega) (by omega)
      have hrow : ∀ qs ∈ qss, qs.length = k2n - kn := fun qs hqs => by
        rw [← hqe, ← hze] at hqs
        obtain ⟨zs, hzs, rfl⟩ := List.mem_map.1 hqs
        rw [List.length_map, table_len _ _ _ zs hzs]
      have hN : qss.flatten.length ≤ 1099511627776 := by
        rw [flat_len _ _ hrow, ← hqe, ← hze]
        simp only [fracs, tableZ, List.length_map, List.length_range]
        exact Nat.le_trans (Nat.mul_le_mul (show r2n - rn ≤ 1048576 by omega) (show k2n - kn ≤ 1048576 by omega)) (by decide)
      have hKd : nl d.natAbs ≤ K := by obtain ⟨l, g1, g2, g3, _⟩ := h; exact Nat.le_trans (nl_of g1 (Lib.hid g2)) g3
      have hnl : nl (comDen qss.flatten) ≤ K := by rw [← hqe, ← hze]; exact nrmD_nl _ hz.1 _ _ hKd
      exact (r11Cut_any K K (by omega) w b a a2 n c n2 c2 d zss h hz.1 (colsOf zss) (Lib.hid he) (by omega) (by omega) rn r2n kn k2n (by omega) (by omega) (by omega) (by omega) qss (Lib.hid hqe) hN hnl _ (Lib.hid rfl)).mono fun e w' hh => RFrom.ref hh
  · rw [if_pos h0] at hse
    exact absurd hse h0

/-! ### both -/
theorem checksE_two (x y : Int × List (List Int)) : checksE [x, y] = if checkE x.1 x.2 ≠ 0 then checkE x.1 x.2 else checkE y.1 y.2 := by
  unfold checksE
  by_cases h : checkE x.1 x.2 = 0
  · rw [if_pos h, if_neg (by simpa using h)]
    unfold checksE
    by_cases h2 : checkE y.1 y.2 = 0
    · rw [if_pos h2, h2]; rfl
    · rw [if_neg h2]
  · rw [if_neg h, if_pos h]

set_option maxHeartbeats 4000000 in
theorem both_any (K : Nat) (hK : K ≤ 8796093022208) (w : World) (b : Bool) (a a2 : Option Addr) (n c n2 c2 : Nat) (x : Int × List (List Int)) (h : MatS K w b a n c a2 n2 c2 x.1 x.2) (b' : Bool) (a' a2' : Option Addr) (n' c' n2' c2' : Nat) (y : Int × List (List Int)) (h' : MatS K w b' a' n' c' a2' n2' c2' y.1 y.2) (s : Int) (hs : Hid (checksE [x, y] = s)) :
    Calls Try.prog 19 #[.agg #[.bool b, .slice a n c, .slice a2 n2 c2], .agg #[.bool b', .slice a' n' c', .slice a2' n2' c2']] w fun e w' => e = .returned (.int .i64 s) ∧ Ext w w' := by
  have hs2 := hs.out
  rw [checksE_two] at hs2
  by_cases h0 : checkE x.1 x.2 = 0
  · rw [if_neg (by simpa using h0)] at hs2
    have HS := Lib.hid hs2
    have H0 := Lib.hid h0
    clear hs2 h0
    go_enter Try.func19, Try.ntmps19
    go_wp2_with fail
    have p0 := Blk.new w 30 #[.bool b, .slice a n c, .slice a2 n2 c2]
    have p1 := Blk.new (w.alloc (Obj.cells #[.bool b, .slice a n c, .slice a2 n2 c2] 30)) 30 #[.bool b', .slice a' n' c', .slice a2' n2' c2']
    replace p0 := p0.ext ((Below.refl _ _).alloc (Nat.le_refl _) (Obj.cells #[.bool b', .slice a' n' c', .slice a2' n2' c2'] 30))
    have hEW : Ext w ((w.alloc (Obj.cells #[.bool b, .slice a n c, .slice a2 n2 c2] 30)).alloc (Obj.cells #[.bool b', .slice a' n' c', .slice a2' n2' c2'] 30)) := (((Below.refl _ w).alloc (by simp) _).alloc (by simp) _)
    generalize hgW : (w.alloc (Obj.cells #[.bool b, .slice a n c, .slice a2 n2 c2] 30)).alloc (Obj.cells #[.bool b', .slice a' n' c', .slice a2' n2' c2'] 30) = W at *
    clear hgW
    simp only [World.size_alloc] at p1
    have p0_ne_p1 : ¬ w.heap.size = w.heap.size + 1 := by omega
    have p1_ne_p0 : ¬ w.heap.size + 1 = w.heap.size := by omega
    replace p0_0 := p0.cell (i := 0) rfl
    replace p0_1 := p0.cell (i := 1) rfl
    replace p0_2 := p0.cell (i := 2) rfl
    replace p1_0 := p1.cell (i := 0) rfl
    replace p1_1 := p1.cell (i := 1) rfl
    replace p1_2 := p1.cell (i := 2) rfl
    refine (r11Check_any K hK W b a a2 n c n2 c2 x.1 x.2 (h.ext hEW) 0 H0).mono ?_
    rintro e w1 ⟨rfl, hE1⟩
    replace p1 := p1.ext hE1; replace p1_0 := p1.cell (i := 0) rfl; replace p1_1 := p1.cell (i := 1) rfl; replace p1_2 := p1.cell (i := 2) rfl
    have hE0 := Ext.trans hEW hE1
    have h1 := h'.ext hE0
    clear h h' hEW hE1
    go_wp2_with fail
    refine (r11Check_any K hK w1 b' a' a2' n' c' n2' c2' y.1 y.2 h1 s HS).mono ?_
    rintro e w2 ⟨rfl, hE2⟩
    have HE := Lib.hid (Ext.trans hE0 hE2)
    clear h1 hE0 hE2
    go_wp2_with fail
    go_ret
    exact ⟨rfl, HE.out⟩
  · rw [if_pos h0] at hs2
    have hs0 : (s != 0) = true := by rw [← hs2]; simpa using h0
    have HS := Lib.hid hs2
    clear hs2 h0
    go_enter Try.func19, Try.ntmps19
    go_wp2_with fail
    have p0 := Blk.new w 30 #[.bool b, .slice a n c, .slice a2 n2 c2]
    have p1 := Blk.new (w.alloc (Obj.cells #[.bool b, .slice a n c, .slice a2 n2 c2] 30)) 30 #[.bool b', .slice a' n' c', .slice a2' n2' c2']
    replace p0 := p0.ext ((Below.refl _ _).alloc (Nat.le_refl _) (Obj.cells #[.bool b', .slice a' n' c', .slice a2' n2' c2'] 30))
    have hEW : Ext w ((w.alloc (Obj.cells #[.bool b, .slice a n c, .slice a2 n2 c2] 30)).alloc (Obj.cells #[.bool b', .slice a' n' c', .slice a2' n2' c2'] 30)) := (((Below.refl _ w).alloc (by simp) _).alloc (by simp) _)
    generalize hgW : (w.alloc (Obj.cells #[.bool b, .slice a n c, .slice a2 n2 c2] 30)).alloc (Obj.cells #[.bool b', .slice a' n' c', .slice a2' n2' c2'] 30) = W at *
    clear hgW
    simp only [World.size_alloc] at p1
    have p0_ne_p1 : ¬ w.heap.size = w.heap.size + 1 := by omega
    have p1_ne_p0 : ¬ w.heap.size + 1 = w.heap.size := by omega
    replace p0_0 := p0.cell (i := 0) rfl
    replace p0_1 := p0.cell (i := 1) rfl
    replace p0_2 := p0.cell (i := 2) rfl
    replace p1_0 := p1.cell (i := 0) rfl
    replace p1_1 := p1.cell (i := 1) rfl
    replace p1_2 := p1.cell (i := 2) rfl
    refine (r11Check_any K hK W b a a2 n c n2 c2 x.1 x.2 (h.ext hEW) s HS).mono ?_
    rintro e w1 ⟨rfl, hE1⟩
    have HE := Lib.hid (Ext.trans hEW hE1)
    clear h h' hEW hE1
    go_wp2_with fail
    go_ret
    exact ⟨rfl, HE.out⟩
end Go.Proofs.Ytbhenelehhiakaa
/-
  The regions of the law QmatParts, taken out of the given form.
-/
namespace Go.Proofs.Ytbhenelehhiakaa
open Go.RowKit
def findReg (k : Nat) : Code → Option Code
  | .region i ops b => if i = k then some (.region i ops b) else none
  | .seq a b => match findReg k a with
    | some c => some c
    | none => findReg k b
  | .loop c => findReg k c
  | .block _ c => findReg k c
  | .scope c => findReg k c
  | .cond _ a b => match findReg k a with
    | some c => some c
    | none => findReg k b
  | _ => none
noncomputable def partsReg (k : Nat) : Code := (Try.f4.body.bind (findReg k)).getD .skip
end Go.Proofs.Ytbhenelehhiakaa
/-
  The law QmatParts: its two tests that set the code.
-/
namespace Go.Proofs.Ytbhenelehhiakaa
open Go.RowKit
def findIf (k : Nat) : Code → Option Code
  | .cond (.tmp i) a b => if i = k then some (.cond (.tmp i) a b) else match findIf k a with
    | some c => some c
    | none => findIf k b
  | .seq a b => match findIf k a with
    | some c => some c
    | none => findIf k b
  | .loop c => findIf k c
  | .block _ c => findIf k c
  | .scope c => findIf k c
  | _ => none
noncomputable def partsIf (k : Nat) : Code := (Try.f4.body.bind (findIf k)).getD .skip
end Go.Proofs.Ytbhenelehhiakaa
namespace Go.Proofs.Ytbhenelehhiakaa
open Go.RowKit

set_option maxRecDepth 1000000 in
set_option maxHeartbeats 40000000 in
theorem parts_if104 (w : World) (bC : Bool) (z s2 : Int) (HB : Hid ((if bC then 2 else z) = s2))
    (x0 x1 x2 x3 x4 x5 x6 x7 x8 x9 x10 x11 x13 x14 x15 x16 x17 x18 x19 x20 x21 x22 x23 x24 x25 x26 x27 x28 x29 x30 x31 x32 x33 x34 x35 x36 x37 x38 x39 x40 x41 x42 x43 x44 x45 x46 x47 x48 x49 x50 x51 x52 x53 x54 x55 x56 x57 x58 x59 x60 x61 x62 x63 x64 x65 x66 x67 x68 x69 x70 x71 x72 x73 x74 x75 x76 x77 x78 x79 x80 x81 x82 x83 x84 x85 x86 x87 x88 x89 x90 x91 x92 x93 x94 x95 x96 x97 x98 x99 x100 x101 x102 x103 x105 x106 x107 x108 x109 x110 x111 x112 x113 x114 x115 x116 x117 x118 x119 x120 x121 x122 x123 x124 x125 x126 x127 x128 x129 x130 x131 x132 x133 x134 x135 x136 x137 x138 x139 x140 x141 x142 x143 x144 x145 x146 x147 x148 x149 x150 x151 x152 x153 x154 x155 x156 x157 x158 x159 x160 x161 x162 x163 x164 x165 x166 x167 x168 x169 x170 x171 x172 x173 x174 x175 x176 x177 x178 x179 x180 x181 x182 x183 x184 x185 x186 x187 x188 x189 x190 x191 x192 x193 x194 x195 x196 x197 x198 x199 x200 x201 x202 x203 x204 x205 x206 x207 x208 x209 x210 x211 x212 x213 x214 x215 x216 x217 x218 : Value)
    (Q : Exit → Act → World → Prop) (hQ : Q .normal { tmps := #[x0, x1, x2, x3, x4, x5, x6, x7, x8, x9, x10, x11, .int .i64 s2, x13, x14, x15, x16, x17, x18, x19, x20, x21, x22, x23, x24, x25, x26, x27, x28, x29, x30, x31, x32, x33, x34, x35, x36, x37, x38, x39, x40, x41, x42, x43, x44, x45, x46, x47, x48, x49, x50, x51, x52, x53, x54, x55, x56, x57, x58, x59, x60, x61, x62, x63, x64, x65, x66, x67, x68, x69, x70, x71, x72, x73, x74, x75, x76, x77, x78, x79, x80, x81, x82, x83, x84, x85, x86, x87, x88, x89, x90, x91, x92, x93, x94, x95, x96, x97, x98, x99, x100, x101, x102, x103, .bool bC, x105, x106, x107, x108, x109, x110, x111, x112, x113, x114, x115, x116, x117, x118, x119, x120, x121, x122, x123, x124, x125, x126, x127, x128, x129, x130, x131, x132, x133, x134, x135, x136, x137, x138, x139, x140, x141, x142, x143, x144, x145, x146, x147, x148, x149, x150, x151, x152, x153, x154, x155, x156, x157, x158, x159, x160, x161, x162, x163, x164, x165, x166, x167, x168, x169, x170, x171, x172, x173, x174, x175, x176, x177, x178, x179, x180, x181, x182, x183, x184, x185, x186, x187, x188, x189, x190, x191, x192, x193, x194, x195, x196, x197, x198, x199, x200, x201, x202, x203, x204, x205, x206, x207, x208, x209, x210, x211, x212, x213, x214, x215, x216, x217, x218], defers := [] } w) :
    Code.wp Try.prog (partsIf 104) Q { tmps := #[x0, x1, x2, x3, x4, x5, x6, x7, x8, x9, x10, x11, .int .i64 z, x13, x14, x15, x16, x17, x18, x19, x20, x21, x22, x23, x24, x25, x26, x27, x28, x29, x30, x31, x32, x33, x34, x35, x36, x37, x38, x39, x40, x41, x42, x43, x44, x45, x46, x47, x48, x49, x50, x51, x52, x53, x54, x55, x56, x57, x58, x59, x60, x61, x62, x63, x64, x65, x66, x67, x68, x69, x70, x71, x72, x73, x74, x75, x76, x77, x78, x79, x80, x81, x82, x83, x84, x85, x86, x87, x88, x89, x90, x91, x92, x93, x94, x95, x96, x97, x98, x99, x100, x101, x102, x103, .bool bC, x105, x106, x107, x108, x109, x110, x111, x112, x113, x114, x115, x116, x117, x118, x119, x120, x121, x122, x123, x124, x125, x126, x127, x128, x129, x130, x131, x132, x133, x134, x135, x136, x137, x138, x139, x140, x141, x142, x143, x144, x145, x146, x147, x148, x149, x150, x151, x152, x153, x154, x155, x156, x157, x158, x159, x160, x161, x162, x163, x164, x165, x166, x167, x168, x169, x170, x171, x172, x173, x174, x175, x176, x177, x178, x179, x180, x181, x182, x183, x184, x185, x186, x187, x188, x189, x190, x191, x192, x193, x194, x195, x196, x197, x198, x199, x200, x201, x202, x203, x204, x205, x206, x207, x208, x209, x210, x211, x212, x213, x214, x215, x216, x217, x218], defers := [] } w := by
  conv => arg 2; whnf
  cases bC with
  | true =>
    have hz : Hid (2 = s2) := Lib.hid HB.out
    go_wp2_with fail
    rw [← hz.out] at hQ
    exact hQ
  | false =>
    have hz : Hid (z = s2) := Lib.hid HB.out
    go_wp2_with fail
    rw [← hz.out] at hQ
    exact hQ
end Go.Proofs.Ytbhenelehhiakaa
namespace Go.Proofs.Ytbhenelehhiakaa
open Go.RowKit

set_option maxRecDepth 1000000 in
set_option maxHeartbeats 40000000 in
theorem parts_if186 (w : World) (bC : Bool) (z s2 : Int) (HB : Hid ((if bC then 1 else z) = s2))
    (x0 x1 x2 x3 x4 x5 x6 x7 x8 x9 x10 x11 x13 x14 x15 x16 x17 x18 x19 x20 x21 x22 x23 x24 x25 x26 x27 x28 x29 x30 x31 x32 x33 x34 x35 x36 x37 x38 x39 x40 x41 x42 x43 x44 x45 x46 x47 x48 x49 x50 x51 x52 x53 x54 x55 x56 x57 x58 x59 x60 x61 x62 x63 x64 x65 x66 x67 x68 x69 x70 x71 x72 x73 x74 x75 x76 x77 x78 x79 x80 x81 x82 x83 x84 x85 x86 x87 x88 x89 x90 x91 x92 x93 x94 x95 x96 x97 x98 x99 x100 x101 x102 x103 x104 x105 x106 x107 x108 x109 x110 x111 x112 x113 x114 x115 x116 x117 x118 x119 x120 x121 x122 x123 x124 x125 x126 x127 x128 x129 x130 x131 x132 x133 x134 x135 x136 x137 x138 x139 x140 x141 x142 x143 x144 x145 x146 x147 x148 x149 x150 x151 x152 x153 x154 x155 x156 x157 x158 x159 x160 x161 x162 x163 x164 x165 x166 x167 x168 x169 x170 x171 x172 x173 x174 x175 x176 x177 x178 x179 x180 x181 x182 x183 x184 x185 x187 x188 x189 x190 x191 x192 x193 x194 x195 x196 x197 x198 x199 x200 x201 x202 x203 x204 x205 x206 x207 x208 x209 x210 x211 x212 x213 x214 x215 x216 x217 x218 : Value)
    (Q : Exit → Act → World → Prop) (hQ : Q .normal { tmps := #[x0, x1, x2, x3, x4, x5, x6, x7, x8, x9, x10, x11, .int .i64 s2, x13, x14, x15, x16, x17, x18, x19, x20, x21, x22, x23, x24, x25, x26, x27, x28, x29, x30, x31, x32, x33, x34, x35, x36, x37, x38, x39, x40, x41, x42, x43, x44, x45, x46, x47, x48, x49, x50, x51, x52, x53, x54, x55, x56, x57, x58, x59, x60, x61, x62, x63, x64, x65, x66, x67, x68, x69, x70, x71, x72, x73, x74, x75, x76, x77, x78, x79, x80, x81, x82, x83, x84, x85, x86, x87, x88, x89, x90, x91, x92, x93, x94, x95, x96, x97, x98, x99, x100, x101, x102, x103, x104, x105, x106, x107, x108, x109, x110, x111, x112, x113, x114, x115, x116, x117, x118, x119, x120, x121, x122, x123, x124, x125, x126, x127, x128, x129, x130, x131, x132, x133, x134, x135, x136, x137, x138, x139, x140, x141, x142, x143, x144, x145, x146, x147, x148, x149, x150, x151, x152, x153, x154, x155, x156, x157, x158, x159, x160, x161, x162, x163, x164, x165, x166, x167, x168, x169, x170, x171, x172, x173, x174, x175, x176, x177, x178, x179, x180, x181, x182, x183, x184, x185, .bool bC, x187, x188, x189, x190, x191, x192, x193, x194, x195, x196, x197, x198, x199, x200, x201, x202, x203, x204, x205, x206, x207, x208, x209, x210, x211, x212, x213, x214, x215, x216, x217, x218], defers := [] } w) :
    Code.wp Try.prog (partsIf 186) Q { tmps := #[x0, x1, x2, x3, x4, x5, x6, x7, x8, x9, x10, x11, .int .i64 z, x13, x14, x15, x16, x17, x18, x19, x20, x21, x22, x23, x24, x25, x26, x27, x28, x29, x30, x31, x32, x33, x34, x35, x36, x37, x38, x39, x40, x41, x42, x43, x44, x45, x46, x47, x48, x49, x50, x51, x52, x53, x54, x55, x56, x57, x58, x59, x60, x61, x62, x63, x64, x65, x66, x67, x68, x69, x70, x71, x72, x73, x74, x75, x76, x77, x78, x79, x80, x81, x82, x83, x84, x85, x86, x87, x88, x89, x90, x91, x92, x93, x94, x95, x96, x97, x98, x99, x100, x101, x102, x103, x104, x105, x106, x107, x108, x109, x110, x111, x112, x113, x114, x115, x116, x117, x118, x119, x120, x121, x122, x123, x124, x125, x126, x127, x128, x129, x130, x131, x132, x133, x134, x135, x136, x137, x138, x139, x140, x141, x142, x143, x144, x145, x146, x147, x148, x149, x150, x151, x152, x153, x154, x155, x156, x157, x158, x159, x160, x161, x162, x163, x164, x165, x166, x167, x168, x169, x170, x171, x172, x173, x174, x175, x176, x177, x178, x179, x180, x181, x182, x183, x184, x185, .bool bC, x187, x188, x189, x190, x191, x192, x193, x194, x195, x196, x197, x198, x199, x200, x201, x202, x203, x204, x205, x206, x207, x208, x209, x210, x211, x212, x213, x214, x215, x216, x217, x218], defers := [] } w := by
  conv => arg 2; whnf
  cases bC with
  | true =>
    have hz : Hid (1 = s2) := Lib.hid HB.out
    go_wp2_with fail
    rw [← hz.out] at hQ
    exact hQ
  | false =>
    have hz : Hid (z = s2) := Lib.hid HB.out
    go_wp2_with fail
    rw [← hz.out] at hQ
    exact hQ
end Go.Proofs.Ytbhenelehhiakaa
