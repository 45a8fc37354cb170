/-
  simileref11: Blocks.
-/
import Derived.Test.YtbhenelehhiakaaPart30
import Derived.Test.YtbhenelehhiakaaPart31
import Derived.Test.YtbhenelehhiakaaPart32
set_option linter.unusedVariables false
set_option linter.unusedSimpArgs false
namespace Go.Proofs.Ytbhenelehhiakaa
open Go.RowKit

/-- entries are laid into a row from a place on -/
def setsFrom {α : Type} (l : List α) : Nat → List α → List α
  | _, [] => l
  | at_, z :: zs => setsFrom (l.set at_ z) (at_ + 1) zs
theorem setsFrom_snoc {α : Type} (zs : List α) (z : α) : ∀ (l : List α) (a : Nat), setsFrom l a (zs ++ [z]) = (setsFrom l a zs).set (a + zs.length) z := by
  induction zs with
  | nil => intro l a; simp [setsFrom]
  | cons y zs ih =>
    intro l a
    rw [List.cons_append, setsFrom, ih, setsFrom, List.length_cons]
    congr 1; omega
theorem length_setsFrom {α : Type} (zs : List α) : ∀ (l : List α) (a : Nat), (setsFrom l a zs).length = l.length := by
  induction zs with
  | nil => intro l a; rfl
  | cons y zs ih => intro l a; rw [setsFrom, ih, List.length_set]
theorem map_setFrom {β : Type} (g : Int → β) (zs : List Int) : ∀ (l : List Int) (a : Nat), (setFrom l a zs).map g = setsFrom (l.map g) a (zs.map g) := by
  induction zs with
  | nil => intro l a; rfl
  | cons y zs ih => intro l a; rw [setFrom, ih, List.map_set, List.map_cons, setsFrom]

def zeroR (cols : Nat) : List Rat := List.replicate cols 0
/-- the direct sum's fractions -/
def blkQ (cols : Nat) : Ms → Nat → List (List Rat)
  | [], _ => []
  | m :: ms, a => (fracs m.1 m.2).map (setsFrom (zeroR cols) a) ++ blkQ cols ms (a + colsOf m.2)
theorem blkQ_snoc (cols : Nat) (m : Int × List (List Int)) : ∀ (ms : Ms) (a : Nat), blkQ cols (ms ++ [m]) a = blkQ cols ms a ++ (fracs m.1 m.2).map (setsFrom (zeroR cols) (a + blkCols ms)) := by
  intro ms
  induction ms with
  | nil => intro a; simp [blkQ, blkCols]
  | cons y ms ih =>
    intro a
    rw [List.cons_append, blkQ, ih, blkQ, List.append_assoc]
    rw [show a + blkCols (y :: ms) = a + colsOf y.2 + blkCols ms by simp [blkCols]; omega]
def rowsOf (ms : Ms) : Nat := (ms.map fun m => m.2.length).sum
theorem rowsOf_snoc (ms : Ms) (m : Int × List (List Int)) : rowsOf (ms ++ [m]) = rowsOf ms + m.2.length := by simp [rowsOf]
theorem length_blkQ (cols : Nat) : ∀ (ms : Ms) (a : Nat), (blkQ cols ms a).length = rowsOf ms := by
  intro ms
  induction ms with
  | nil => intro a; rfl
  | cons y ms ih => intro a; rw [blkQ, List.length_append, List.length_map, ih, length_fracs]; simp [rowsOf]
theorem blkQ_len (cols : Nat) : ∀ (ms : Ms) (a : Nat), ∀ row ∈ blkQ cols ms a, row.length = cols := by
  intro ms
  induction ms with
  | nil => intro a row hr; simp [blkQ] at hr
  | cons y ms ih =>
    intro a row hr
    rw [blkQ] at hr
    rcases List.mem_append.1 hr with hr | hr
    · obtain ⟨zs, _, rfl⟩ := List.mem_map.1 hr
      rw [length_setsFrom]; simp [zeroR]
    · exact ih _ row hr
theorem ratv_zero (d : Int) : ratv 0 d = 0 := Rat.zero_divInt d
/-- the direct sum of the fractions is the fractions of the direct sum -/
theorem blkQ_eq (cols : Nat) (D : Int) (hD : D ≠ 0) : ∀ (ms : Ms) (a : Nat), (∀ m ∈ ms, m.1 ≠ 0 ∧ m.1 ∣ D) → blkQ cols ms a = fracs D (blkRows cols D ms a) := by
  intro ms
  induction ms with
  | nil => intro a _; rfl
  | cons y ms ih =>
    intro a h
    obtain ⟨h0, t, ht⟩ := h y (List.mem_cons_self ..)
    rw [blkQ, blkRows, ih _ (fun m hm => h m (List.mem_cons_of_mem _ hm)), fracs_append]
    congr 1
    unfold fracs
    rw [List.map_map, List.map_map]
    refine List.map_congr_left fun zs _ => ?_
    simp only [Function.comp]
    unfold rowOf
    rw [map_setFrom, List.map_map, List.map_replicate, ratv_zero]
    congr 1
    refine List.map_congr_left fun z _ => ?_
    simp only [Function.comp]
    have ht0 : t ≠ 0 := fun e => hD (by rw [ht, e, Int.mul_zero])
    rw [ht, Int.mul_ediv_cancel_left _ h0, Int.mul_comm z t, Int.mul_comm y.1 t, ratv_scale ht0]

theorem MG.weakK {K K' B B' : Nat} {w : World} {a : Option Addr} {n c m : Nat} {L : List (Nat × List Rat)} (h : MG K B w a n c m L) (hK : K ≤ K') (hB : B' ≤ B) : MG K' B' w a n c m L :=
  ⟨h.sl.weak hB rfl fun _ _ ⟨e, hs⟩ => ⟨e, hs.weak hB rfl fun _ _ ⟨b, a, n, c, b2, a2, n2, c2, e, l, l2, g1, g2, g3, g4, g5, g6⟩ => ⟨b, a, n, c, b2, a2, n2, c2, e, l, l2, g1.mono hB (Kept.refl _ _), g2.mono hB (Kept.refl _ _), g3, g4, by omega, by omega⟩⟩, h.out, h.inj⟩

/-- one more row is full -/
theorem set_mid {α : Type} (P T : List α) (x y : α) : (P ++ x :: T).set P.length y = P ++ y :: T := by
  rw [List.set_append_right _ _ (Nat.le_refl _), Nat.sub_self, List.set_cons_zero]
theorem get_mid {α : Type} (P T : List α) (x : α) (h : P.length < (P ++ x :: T).length) : (P ++ x :: T)[P.length] = x := by
  rw [List.getElem_append_right (Nat.le_refl _)]; simp
end Go.Proofs.Ytbhenelehhiakaa
/-
  simileref11: Blocks, the walk.
-/
namespace Go.Proofs.Ytbhenelehhiakaa
open Go.RowKit

theorem map_fst_set {α β : Type} (L : List (α × β)) (i : Nat) (h : i < L.length) (q : β) : (L.set i (L[i].1, q)).map Prod.fst = L.map Prod.fst := by
  rw [List.map_set]
  refine List.ext_getElem (by simp) fun k h1 h2 => ?_
  by_cases hk : k = i
  · subst hk; simp
  · rw [List.getElem_set_ne (by omega)]
theorem MG.fst_lt {K B : Nat} {w : World} {a : Option Addr} {n c m : Nat} {L : List (Nat × List Rat)} (h : MG K B w a n c m L) (hm : 0 < m) : ∀ g ∈ L.map Prod.fst, g < w.heap.size := fun g hg => by
  obtain ⟨x, hx, rfl⟩ := List.mem_map.1 hg
  obtain ⟨i, hi, rfl⟩ := List.getElem_of_mem hx
  obtain ⟨_, _, _, _, _, h1, _⟩ := h.cells hi hm
  exact h1

theorem blk_step (L : List (Nat × List Rat)) (PQ rest : List (List Rat)) (cur : List Rat) (p k : Nat) (q : Rat) (hp : PQ.length = p) (hl : p < L.length) (h : L.map Prod.snd = PQ ++ cur :: rest) : (L.set p (L[p].1, L[p].2.set k q)).map Prod.snd = PQ ++ cur.set k q :: rest := by
  subst hp
  have hc : L[PQ.length].2 = cur := by
    have h1 : (L.map Prod.snd)[PQ.length]? = some cur := by rw [h, List.getElem?_append_right (Nat.le_refl _), Nat.sub_self]; rfl
    rw [List.getElem?_map, List.getElem?_eq_getElem hl] at h1
    exact Option.some.inj h1
  rw [List.map_set]
  show (L.map Prod.snd).set PQ.length (L[PQ.length].2.set k q) = _
  rw [h, hc, set_mid]
theorem kept_four {B b : Nat} (w : World) (i : Nat) (v0 v1 v2 v3 : Value) (hb : b < B) : Kept B w ((((w.setCell ⟨b, i, none⟩ v0).setCell ⟨b, i + 1, none⟩ v1).setCell ⟨b, i + 2, none⟩ v2).setCell ⟨b, i + 3, none⟩ v3) :=
  Kept.trans (kept_set _ _ _ hb) (Kept.trans (kept_set _ _ _ hb) (Kept.trans (kept_set _ _ _ hb) (kept_set _ _ _ hb)))

theorem size_four (w : World) (b i : Nat) (v0 v1 v2 v3 : Value) : w.heap.size ≤ ((((w.setCell ⟨b, i, none⟩ v0).setCell ⟨b, i + 1, none⟩ v1).setCell ⟨b, i + 2, none⟩ v2).setCell ⟨b, i + 3, none⟩ v3).heap.size :=
  (Below.setCell (Below.setCell (Below.setCell (Below.setCell (Below.refl 0 w) (p := ⟨b, i, none⟩) (Nat.zero_le _) v0) (p := ⟨b, i + 1, none⟩) (Nat.zero_le _) v1) (p := ⟨b, i + 2, none⟩) (Nat.zero_le _) v2) (p := ⟨b, i + 3, none⟩) (Nat.zero_le _) v3).size

set_option maxRecDepth 100000 in
set_option maxHeartbeats 16000000 in
theorem r11Blocks_any (K KD : Nat) (hK : 2 * K + KD + 2 ≤ 549755813888) (hK1 : 1 ≤ K) (w : World) (a : Option Addr) (n c : Nat) (ms : Ms) (h : Sl (rMatK K) 0 w a n c ms) (hok : Hid (∀ m ∈ ms, m.1 ≠ 0 ∧ evenB m.2 = true)) (rows cols : Nat) (hrows : Hid (rowsOf ms = rows)) (hcol : Hid (blkCols ms = cols)) (hr : rows ≤ 1073741824) (hc : cols ≤ 1073741824) (qss : List (List Rat)) (hq : Hid (blkQ cols ms 0 = qss)) (hN : qss.flatten.length ≤ 1099511627776) (hL : nl (comDen qss.flatten) ≤ KD) (D : Nat) (hD : Hid (comDen qss.flatten = D)) :
    Calls Try.prog 17 #[.slice a n c] w (RFrom w D (qss.map fun qs => qs.map (comNum D))) := by
  have HS := Lib.hid h
  have hmost := h.most
  have hcap := h.cap
  have hlen := Lib.hid h.len
  clear h
  go_enter Try.func17, Try.ntmps17
  go_wp2_with fail
  have r0 := Blk.new w 30 #[.bool false, .slice none 0 0, .slice none 0 0]
  have hEW : Ext w (w.alloc (Obj.cells #[.bool false, .slice none 0 0, .slice none 0 0] 30)) := ((Below.refl _ w).alloc (by simp) _)
  generalize hgW : w.alloc (Obj.cells #[.bool false, .slice none 0 0, .slice none 0 0] 30) = W at *
  clear hgW
  replace r0_0 := r0.cell (i := 0) rfl
  replace r0_1 := r0.cell (i := 1) rfl
  replace r0_2 := r0.cell (i := 2) rfl
  replace r0_f0 := r0.free 0
  replace r0_f1 := r0.free 1
  replace r0_f2 := r0.free 2
  replace r0_lt := r0.lt
  have HR0 := Lib.hid r0
  have HEW := Lib.hid hEW
  have hW : w.heap.size + 1 ≤ W.heap.size := r0_lt
  clear r0 r0_0 r0_1 r0_2 r0_f0 r0_f1 r0_f2 r0_lt hEW
  go_loopg [3, 4, 21] n (fun q vr vc vi wr => ∃ (i R f : Nat), i ≤ n ∧ q = n - i ∧ vi = .int .i64 (i : Int) ∧ vr = .int .i64 (R : Int) ∧ vc = .int .i64 (f : Int) ∧ R ≤ rows ∧ f ≤ cols ∧ Hid (rowsOf (ms.take i) = R) ∧ Hid (blkCols (ms.take i) = f) ∧ Hid (Ext W wr))
  case atStart => exact ⟨0, 0, 0, Nat.zero_le _, by omega, rfl, rfl, rfl, Nat.zero_le _, Nat.zero_le _, Lib.hid rfl, Lib.hid rfl, Lib.hid (Ext.refl _)⟩
  case round =>
    obtain ⟨i, R, f, hi, hq0, rfl, rfl, rfl, hRr, hfc, HR, HF, HE⟩ := hrel
    by_cases hin : i < n
    · obtain ⟨b5, o5, s5, a5, n5, c5, a6, n6, c6, x, rfl, hb5, hx, hc5, hc6, hc7, h5⟩ := (HS.out.ext (Nat.le_refl _) (Ext.trans HEW.out HE.out)).getMat hin
      obtain ⟨hil, hxe⟩ := List.getElem?_eq_some_iff.1 hx
      have hts : ms.take (i + 1) = ms.take i ++ [x] := by rw [List.take_succ_eq_append_getElem hil, hxe]
      have hl6 : n6 = x.2.length := by obtain ⟨_, _, _, _, h9⟩ := h5; exact h9.len.symm
      have HRS : Hid (rowsOf (ms.take (i + 1)) = R + n6) := Lib.hid (by rw [hts, rowsOf_snoc, HR.out, hl6])
      have HCS : Hid (blkCols (ms.take (i + 1)) = f + colsOf x.2) := Lib.hid (by rw [hts, blkCols_snoc, HF.out])
      have hrs : R + n6 ≤ rows := by rw [← HRS.out, ← hrows.out]; exact sum_take_le (fun m => m.2.length) ms (i + 1)
      have hcs : f + colsOf x.2 ≤ cols := by rw [← HCS.out, ← hcol.out]; exact sum_take_le (fun m => colsOf m.2) ms (i + 1)
      have H5 := Lib.hid h5
      obtain ⟨cx, hcx⟩ : ∃ cx, colsOf x.2 = cx := ⟨_, rfl⟩
      have HCX := Lib.hid hcx
      rw [hcx] at hcs HCS
      clear hx hxe hts hl6 h5 hcx
      go_wp2_with fail
      clear hc5 hc6 hc7
      have y := Blk.new wr 30 #[.bool s5, .slice a5 n5 c5, .slice a6 n6 c6]
      have hEW3 : Ext wr (wr.alloc (Obj.cells #[.bool s5, .slice a5 n5 c5, .slice a6 n6 c6] 30)) := ((Below.refl _ wr).alloc (by simp) _)
      generalize hgW3 : wr.alloc (Obj.cells #[.bool s5, .slice a5 n5 c5, .slice a6 n6 c6] 30) = W3 at *
      clear hgW3
      replace y_0 := y.cell (i := 0) rfl
      replace y_1 := y.cell (i := 1) rfl
      replace y_2 := y.cell (i := 2) rfl
      refine (r11Size_any K W3 s5 a5 a6 n5 c5 n6 c6 x.1 x.2 (H5.out.ext hEW3) cx HCX).mono ?_
      rintro e w4 ⟨rfl, hE4⟩
      have HE4 := Lib.hid (Ext.trans HE.out (Ext.trans hEW3 hE4))
      clear hEW3 hE4 y y_0 y_1 y_2
      go_wp2_with fail
      go_roundg (n - (i + 1))
      case measure => omega
      case rel => exact ⟨i + 1, R + n6, f + cx, by omega, rfl, by go_num, by go_num, by go_num, hrs, hcs, HRS, HCS, HE4⟩
    · obtain rfl : i = n := by omega
      have hfull : ms.take i = ms := List.take_of_length_le (by rw [hlen.out]; exact Nat.le_refl _)
      have hR2 := HR.out
      have hF2 := HF.out
      rw [hfull, hrows.out] at hR2
      rw [hfull, hcol.out] at hF2
      subst hR2
      subst hF2
      obtain ⟨wz, rfl⟩ : ∃ wz : World, wz = wr := ⟨_, rfl⟩
      clear hfull HR HF hRr hfc
      go_wp2_with fail
      refine (fill_any rows cols (by omega) (by omega) wz).mono ?_
      rintro e w1 ⟨a3, c3, L0, rfl, hM, hL0, hE1⟩
      have HM0 := Lib.hid (hM.weakK hK1 (Nat.le_refl _))
      obtain ⟨F0, hF0⟩ : ∃ F, L0.map Prod.fst = F := ⟨_, rfl⟩
      have HF0 := Lib.hid hF0
      have HLT : Hid (0 < cols → ∀ g ∈ F0, g < w1.heap.size) := Lib.hid (fun hc0 g hg => hM.fst_lt hc0 g (by rw [hF0]; exact hg))
      clear hF0
      have HL0 := Lib.hid hL0
      have HE1 := Lib.hid hE1
      have hcap3 := hM.sl.cap
      have hmost3 := hM.sl.most
      clear hM hL0 hE1
      go_wp2_with fail
      go_loopg [10, 11, 42] i (fun q vr vc vi wr => ∃ (j R f : Nat), j ≤ i ∧ q = i - j ∧ vi = .int .i64 (j : Int) ∧ vr = .int .i64 (R : Int) ∧ vc = .int .i64 (f : Int) ∧ R ≤ rows ∧ f ≤ cols ∧ Hid (rowsOf (ms.take j) = R) ∧ Hid (blkCols (ms.take j) = f) ∧ Hid (∃ L, MG K wz.heap.size wr a3 rows c3 cols L ∧ L.map Prod.fst = F0 ∧ L.map Prod.snd = blkQ cols (ms.take j) 0 ++ List.replicate (rows - R) (zeroR cols)) ∧ Hid (Ext wz wr) ∧ w1.heap.size ≤ wr.heap.size)
      case atStart => exact ⟨0, 0, 0, Nat.zero_le _, by omega, rfl, rfl, rfl, Nat.zero_le _, Nat.zero_le _, Lib.hid rfl, Lib.hid rfl, Lib.hid ⟨L0, HM0.out, HF0.out, HL0.out⟩, HE1, Nat.le_refl _⟩
      case round =>
        clear HM0 HL0 HE1
        obtain ⟨j, R, f, hj, hq1, rfl, rfl, rfl, hRr, hfc, HR, HF, HG, HEz, hsz1⟩ := hrel
        by_cases hji : j < i
        · have hEw := Ext.trans HEW.out (Ext.trans HE.out HEz.out)
          obtain ⟨b5, o5, s5, a5, n5, c5, a6, n6, c6, x, rfl, hb5, hx, hc5, hc6, hc7, h5⟩ := (HS.out.ext (Nat.le_refl _) hEw).getMat hji
          obtain ⟨hil, hxe⟩ := List.getElem?_eq_some_iff.1 hx
          have hmem : x ∈ ms := List.mem_of_getElem? hx
          have hts : ms.take (j + 1) = ms.take j ++ [x] := by rw [List.take_succ_eq_append_getElem hil, hxe]
          have hl6 : n6 = x.2.length := by obtain ⟨_, _, _, _, h9⟩ := h5; exact h9.len.symm
          have HRS : Hid (rowsOf (ms.take (j + 1)) = R + n6) := Lib.hid (by rw [hts, rowsOf_snoc, HR.out, hl6])
          have HCS : Hid (blkCols (ms.take (j + 1)) = f + colsOf x.2) := Lib.hid (by rw [hts, blkCols_snoc, HF.out])
          have hrs : R + n6 ≤ rows := by rw [← HRS.out, ← hrows.out]; exact sum_take_le (fun m => m.2.length) ms (j + 1)
          have hcs : f + colsOf x.2 ≤ cols := by rw [← HCS.out, ← hcol.out]; exact sum_take_le (fun m => colsOf m.2) ms (j + 1)
          have HBQ : Hid (blkQ cols (ms.take (j + 1)) 0 = blkQ cols (ms.take j) 0 ++ (fracs x.1 x.2).map (setsFrom (zeroR cols) f)) := Lib.hid (by rw [hts, blkQ_snoc, HF.out, Nat.zero_add])
          have hPl : (blkQ cols (ms.take j) 0).length = R := by rw [length_blkQ, HR.out]
          obtain ⟨PP, hPP⟩ : ∃ P, blkQ cols (ms.take j) 0 = P := ⟨_, rfl⟩
          rw [hPP] at HBQ hPl HG
          have HPL := Lib.hid hPl
          have hx0 : x.1 ≠ 0 := (hok.out x hmem).1
          have HRX : Hid (∀ zs ∈ x.2, zs.length = colsOf x.2) := Lib.hid (even_len (hok.out x hmem).2)
          have H5 := Lib.hid h5
          obtain ⟨cx, hcx⟩ : ∃ cx, colsOf x.2 = cx := ⟨_, rfl⟩
          have HCX := Lib.hid hcx
          rw [hcx] at hcs HCS HRX
          obtain ⟨FX, hFX⟩ : ∃ F, fracs x.1 x.2 = F := ⟨_, rfl⟩
          have HFX := Lib.hid hFX
          rw [hFX] at HBQ
          have hfl : FX.length = n6 := by rw [← hFX, length_fracs, hl6]
          have HFL := Lib.hid hfl
          obtain ⟨wo, rfl⟩ : ∃ wo : World, wo = wr := ⟨_, rfl⟩
          clear hx hxe hts hl6 h5 hcx hFX hPP hPl hmem hEw hfl
          go_wp2_with fail
          clear hc5 hc6 hc7
          have y := Blk.new wo 30 #[.bool s5, .slice a5 n5 c5, .slice a6 n6 c6]
          have hEW3 : Ext wo (wo.alloc (Obj.cells #[.bool s5, .slice a5 n5 c5, .slice a6 n6 c6] 30)) := ((Below.refl _ wo).alloc (by simp) _)
          generalize hgW3 : wo.alloc (Obj.cells #[.bool s5, .slice a5 n5 c5, .slice a6 n6 c6] 30) = W3 at *
          clear hgW3
          replace y_0 := y.cell (i := 0) rfl
          replace y_1 := y.cell (i := 1) rfl
          replace y_2 := y.cell (i := 2) rfl
          refine (r11Size_any K W3 s5 a5 a6 n5 c5 n6 c6 x.1 x.2 (H5.out.ext hEW3) cx HCX).mono ?_
          rintro e w4 ⟨rfl, hE4⟩
          replace y := y.ext hE4; replace y_0 := y.cell (i := 0) rfl; replace y_1 := y.cell (i := 1) rfl; replace y_2 := y.cell (i := 2) rfl
          have hE34 := Ext.trans hEW3 hE4
          clear hEW3 hE4
          go_wp2_with fail
          refine (r11Rows_any K (by omega) w4 s5 a5 a6 n5 c5 n6 c6 x.1 x.2 (H5.out.ext hE34) hx0 cx HRX (by omega) (by omega)).mono ?_
          rintro e w5 ⟨a7, c7, LX, csX, BX, rfl, hMX, hLX, hE5, -, -, -⟩
          have hXr : Sl (rRatK K).slice w4.heap.size w5 a7 n6 c7 FX := by have := hMX.read; rwa [hLX, HFX.out] at this
          have hXrow : Hid (∀ qs ∈ FX, qs.length = cx) := Lib.hid (fun qs hm2 => by rw [← HFX.out] at hm2; obtain ⟨zs, hz, rfl⟩ := List.mem_map.1 hm2; rw [List.length_map, HRX.out zs hz])
          have HX := Lib.hid hXr
          have hcap7 := hXr.cap
          have hmost7 := hXr.most
          have hE45 := Ext.trans hE34 hE5
          have HEo := Lib.hid (Ext.trans HEz.out hE45)
          have HGo : Hid (∃ L, MG K wz.heap.size w5 a3 rows c3 cols L ∧ L.map Prod.fst = F0 ∧ L.map Prod.snd = PP ++ List.replicate (rows - R) (zeroR cols)) := Lib.hid (by obtain ⟨L, h1, h2⟩ := HG.out; exact ⟨L, h1.ext hE45, h2⟩)
          have hszo := HEz.out.size
          have hsz4 := hE34.size
          have hsz14 : w1.heap.size ≤ w4.heap.size := Nat.le_trans hsz1 hsz4
          have hsz45 := hE5.size
          clear hMX hLX hE5 hE34 hXr hE45 y y_0 y_1 y_2 LX csX
          go_wp2_with fail
          go_loopg [17] n6 (fun q va w6 => ∃ a : Nat, a ≤ n6 ∧ q = n6 - a ∧ va = .int .i64 (a : Int) ∧ Hid (∃ L, MG K wz.heap.size w6 a3 rows c3 cols L ∧ L.map Prod.fst = F0 ∧ L.map Prod.snd = (PP ++ (FX.take a).map (setsFrom (zeroR cols) f)) ++ List.replicate (rows - R - a) (zeroR cols)) ∧ Hid (Ext wz w6) ∧ Hid (Kept w4.heap.size w5 w6) ∧ w5.heap.size ≤ w6.heap.size)
          case atStart => exact ⟨0, Nat.zero_le _, by omega, rfl, Lib.hid (by obtain ⟨L, h1, h2, h3⟩ := HGo.out; exact ⟨L, h1, h2, by rw [h3]; simp⟩), HEo, Lib.hid (Kept.refl _ _), Nat.le_refl _⟩
          case round =>
            clear HGo HEo
            obtain ⟨ra, hra, hq2, rfl, HGa, HEa, HKa, hsza⟩ := hrel
            by_cases hran : ra < n6
            · have hral : ra < FX.length := by rw [HFL.out]; exact hran
              obtain ⟨rw0, hrw0⟩ : ∃ r, FX[ra] = r := ⟨_, rfl⟩
              have HTK : Hid ((FX.take (ra + 1)).map (setsFrom (zeroR cols) f) = (FX.take ra).map (setsFrom (zeroR cols) f) ++ [setsFrom (zeroR cols) f rw0]) := Lib.hid (by rw [List.take_succ_eq_append_getElem hral, hrw0, List.map_append]; rfl)
              have HRWG : Hid (FX[ra]? = some rw0) := Lib.hid (by rw [List.getElem?_eq_getElem hral, hrw0])
              have hrwl : rw0.length = cx := hXrow.out rw0 (by rw [← hrw0]; exact List.getElem_mem _)
              have HRWL := Lib.hid hrwl
              obtain ⟨PQ, hPQ⟩ : ∃ P, PP ++ (FX.take ra).map (setsFrom (zeroR cols) f) = P := ⟨_, rfl⟩
              have HPQ := Lib.hid hPQ
              have HPQL : Hid (PQ.length = R + ra) := Lib.hid (by rw [← hPQ, List.length_append, HPL.out, List.length_map, List.length_take, Nat.min_eq_left (by omega)])
              have hrn : rows - R - ra = (rows - R - ra - 1) + 1 := by omega
              obtain ⟨rest, hrest⟩ : ∃ r, rows - R - ra - 1 = r := ⟨_, rfl⟩
              have HG2 : Hid (∃ L, MG K wz.heap.size wr a3 rows c3 cols L ∧ L.map Prod.fst = F0 ∧ L.map Prod.snd = PQ ++ setsFrom (zeroR cols) f (rw0.take 0) :: List.replicate rest (zeroR cols)) := Lib.hid (by
                obtain ⟨L, h1, h2, h3⟩ := HGa.out
                exact ⟨L, h1, h2, by rw [h3, hPQ, hrn, hrest, List.replicate_succ]; rfl⟩)
              have HREST := Lib.hid hrest
              have hRra : R + ra < rows := by omega
              clear hrw0 hrwl hPQ hrn hrest HGa
              go_wp2_with fail
              go_loopg [18] cx (fun q vb w7 => ∃ bI : Nat, bI ≤ cx ∧ q = cx - bI ∧ vb = .int .i64 (bI : Int) ∧ Hid (∃ L, MG K wz.heap.size w7 a3 rows c3 cols L ∧ L.map Prod.fst = F0 ∧ L.map Prod.snd = PQ ++ setsFrom (zeroR cols) f (rw0.take bI) :: List.replicate rest (zeroR cols)) ∧ Hid (Ext wz w7) ∧ Hid (Kept w4.heap.size w5 w7) ∧ w5.heap.size ≤ w7.heap.size)
              case atStart => exact ⟨0, Nat.zero_le _, by omega, rfl, HG2, HEa, HKa, hsza⟩
              case round =>
                clear HG2 HEa HKa hsza
                obtain ⟨bI, hbI, hq3, rfl, HGb, HEb, HKb, hszb⟩ := hrel
                by_cases hbn : bI < cx
                · obtain ⟨L, hM, hLf, hLs⟩ := HGb.out
                  have hLl : R + ra < L.length := by rw [hM.sl.len]; exact hRra
                  have hk : f + bI < cols := by omega
                  obtain ⟨bh, oh, rfl, hbh, hg0, hg1, hne, hhd, ⟨⟨u0, s0⟩, f0⟩, ⟨⟨u1, s1⟩, f1⟩, ⟨⟨u2, s2⟩, f2⟩, ⟨⟨u3, s3⟩, f3⟩⟩ := hM.cells hLl hk
                  have hgF : L[R + ra].1 < w4.heap.size := Nat.lt_of_lt_of_le (HLT.out (by omega) _ (by rw [← hLf]; exact List.mem_map.2 ⟨_, List.getElem_mem _, rfl⟩)) hsz14
                  have hX2 := HX.out.mono (Nat.le_refl _) HKb.out
                  obtain ⟨bx, ox, csx, hax, ⟨a8, n8, c8, rfl, hrow⟩, hcx0⟩ := hX2.at_ ra hral
                  subst hax
                  have hrwe : FX[ra] = rw0 := by have := HRWG.out; rw [List.getElem?_eq_getElem hral] at this; exact Option.some.inj this
                  rw [hrwe] at hrow
                  have hn8 : n8 = cx := by rw [← hrow.len]; exact HRWL.out
                  subst hn8
                  have hbl : bI < rw0.length := by rw [HRWL.out]; exact hbn
                  obtain ⟨b7, o7, cs7, ha8, ⟨s7, a9, n9, c9, s8, a10, n10, c10, rfl, hq7⟩, hc7⟩ := hrow.at_ bI hbl
                  subst ha8
                  have x0 : Cel w4.heap.size wr bx (ox + ra) (.slice (some ⟨b7, o7, none⟩) n8 c8) := by simpa [Rd.slice] using hcx0 0 (by simp)
                  have e0 : Cel w4.heap.size wr b7 (o7 + bI * 4) (.bool s7) := hc7 0 (by simp)
                  have e1 : Cel w4.heap.size wr b7 (o7 + bI * 4 + 1) (.slice a9 n9 c9) := hc7 1 (by simp)
                  have e2 : Cel w4.heap.size wr b7 (o7 + bI * 4 + 2) (.bool s8) := hc7 2 (by simp)
                  have e3 : Cel w4.heap.size wr b7 (o7 + bI * 4 + 3) (.slice a10 n10 c10) := hc7 3 (by simp)
                  obtain ⟨q, hqe⟩ : ∃ q, rw0[bI] = q := ⟨_, rfl⟩
                  rw [hqe] at hq7
                  have hok : (rRatK K).ok w4.heap.size wr [.bool s7, .slice a9 n9 c9, .bool s8, .slice a10 n10 c10] q := ⟨s7, a9, n9, c9, s8, a10, n10, c10, rfl, hq7⟩
                  have kd : ∀ B, Kept B wr wr.drew := fun B b o v hc => ⟨hc.ge, hc.cell, hc.free⟩
                  have hd : Ext wr wr.drew := (Below.refl _ _).drew
                  have hM2 := hM.ext hd
                  have hok2 := (rRatK K).mono hok (B' := wz.heap.size) (by omega) (kd _)
                  have HTK2 : Hid (setsFrom (zeroR cols) f (rw0.take (bI + 1)) = (setsFrom (zeroR cols) f (rw0.take bI)).set (f + bI) q) := Lib.hid (by rw [List.take_succ_eq_append_getElem hbl, hqe, setsFrom_snoc, List.length_take, Nat.min_eq_left (by omega)])
                  have HST := Lib.hid (blk_step L PQ _ _ (R + ra) (f + bI) q HPQL.out hLl hLs)
                  have HFS : Hid ((L.set (R + ra) (L[R + ra].1, L[R + ra].2.set (f + bI) q)).map Prod.fst = F0) := Lib.hid (by rw [map_fst_set, hLf])
                  have HM3 := Lib.hid (hM2.set hLl hk hok2)
                  have hcap8 := hrow.cap
                  have hmost8 := hrow.most
                  obtain ⟨L', hL'⟩ : ∃ L', L.set (R + ra) (L[R + ra].1, L[R + ra].2.set (f + bI) q) = L' := ⟨_, rfl⟩
                  rw [hL'] at HM3 HST HFS
                  obtain ⟨g, hgg⟩ : ∃ g, L[R + ra].1 = g := ⟨_, rfl⟩
                  have HLL' : Hid (R + ra < L'.length ∧ ∀ h : R + ra < L'.length, L'[R + ra].1 = g) := Lib.hid (by subst hL'; exact ⟨by rw [List.length_set]; exact hLl, fun h => by rw [List.getElem_set_self]; exact hgg⟩)
                  rw [hgg] at hg0 hg1 hne hhd s0 s1 s2 s3 f0 f1 f2 f3 HM3 hgF
                  have hEd := Lib.hid (Ext.trans HEb.out hd)
                  have hKd := Lib.hid (Kept.trans HKb.out (kd _))
                  have hx0 := (kd _ _ _ _ x0).cell
                  have he0 := (kd _ _ _ _ e0).cell
                  have he1 := (kd _ _ _ _ e1).cell
                  have he2 := (kd _ _ _ _ e2).cell
                  have he3 := (kd _ _ _ _ e3).cell
                  have X0 := Lib.hid (kd _ _ _ _ x0)
                  have E0 := Lib.hid (kd _ _ _ _ e0)
                  have E1 := Lib.hid (kd _ _ _ _ e1)
                  have E2 := Lib.hid (kd _ _ _ _ e2)
                  have E3 := Lib.hid (kd _ _ _ _ e3)
                  have hwr1 : IntKind.i64.wrap ((R : Int) + (ra : Int)) = (R : Int) + (ra : Int) := IntWalk.i64_in _ (by omega)
                  have hwr2 : IntKind.i64.wrap ((f : Int) + (bI : Int)) = (f : Int) + (bI : Int) := IntWalk.i64_in _ (by omega)
                  have hp1 : (0 : Int) ≤ (R : Int) + (ra : Int) := by omega
                  have hp2 : (R : Int) + (ra : Int) < (rows : Int) := by omega
                  have hp3 : (0 : Int) ≤ (f : Int) + (bI : Int) := by omega
                  have hp4 : (f : Int) + (bI : Int) < (cols : Int) := by omega
                  have ht1 : ((R : Int) + (ra : Int)).toNat = R + ra := by omega
                  have ht2 : ((f : Int) + (bI : Int)).toNat = f + bI := by omega
                  have hp5 : (ra : Int) < (n6 : Int) := by omega
                  have hp6 : (bI : Int) < (n8 : Int) := by omega
                  have hszb2 : w5.heap.size ≤ wr.drew.heap.size := hszb
                  clear hM hLf hLs hX2 hrow hcx0 hc7 hq7 hok kd hd hM2 hok2 hqe hL' hgg x0 e0 e1 e2 e3 hrwe HGb
                  go_wp2_with fail
                  refine wp_region_noPanic ?_
                  refine wp_region_held_drew (S := (fun w' => w'.cell? ⟨bh, oh + (R + ra), none⟩ = some (.slice (some ⟨g, 0, none⟩) cols cols) ∧ w'.cell? ⟨bx, ox + ra, none⟩ = some (.slice (some ⟨b7, o7, none⟩) n8 c8) ∧ w'.cell? ⟨b7, o7 + bI * 4, none⟩ = some (.bool s7) ∧ w'.cell? ⟨b7, o7 + bI * 4 + 1, none⟩ = some (.slice a9 n9 c9) ∧ w'.cell? ⟨b7, o7 + bI * 4 + 2, none⟩ = some (.bool s8) ∧ w'.cell? ⟨b7, o7 + bI * 4 + 3, none⟩ = some (.slice a10 n10 c10))) (by kernel_rfl) ⟨hhd, hx0, he0, he1, he2, he3⟩ (fun hHeld => ?_)
                  refine takeD 0 63 (v := ?_) rfl rfl (by kernel_rfl) (by kernel_rfl) (by kernel_rfl) (fun _ _ _ h => h) (Or.inl ⟨by kernel_rfl, ?hy⟩) hHeld ?_
                  case hy => (intro w hSw; (try dsimp only at hSw); go_simp; try with_reducible rfl)
                  try simp only [List.setIfInBounds_toArray, List.set_cons_zero, List.set_cons_succ]
                  refine takeD 1 64 (v := ?_) rfl rfl (by kernel_rfl) (by kernel_rfl) (by kernel_rfl) (fun _ _ _ h => h) (Or.inl ⟨by kernel_rfl, ?hy⟩) hHeld ?_
                  case hy => (intro w hSw; (try dsimp only at hSw); go_simp; try with_reducible rfl)
                  try simp only [List.setIfInBounds_toArray, List.set_cons_zero, List.set_cons_succ]
                  refine takeD 2 65 (v := ?_) rfl rfl (by kernel_rfl) (by kernel_rfl) (by kernel_rfl) (fun _ _ _ h => h) (Or.inl ⟨by kernel_rfl, ?hy⟩) hHeld ?_
                  case hy => (intro w hSw; (try dsimp only at hSw); go_simp; try with_reducible rfl)
                  try simp only [List.setIfInBounds_toArray, List.set_cons_zero, List.set_cons_succ]
                  refine takeD 3 66 (v := ?_) rfl rfl (by kernel_rfl) (by kernel_rfl) (by kernel_rfl) (fun _ _ _ h => h) (Or.inl ⟨by kernel_rfl, ?hy⟩) hHeld ?_
                  case hy => (intro w hSw; (try dsimp only at hSw); go_simp; try with_reducible rfl)
                  try simp only [List.setIfInBounds_toArray, List.set_cons_zero, List.set_cons_succ]
                  refine takeD 4 67 (v := ?_) rfl rfl (by kernel_rfl) (by kernel_rfl) (by kernel_rfl) (fun _ _ _ h => h) (Or.inl ⟨by kernel_rfl, ?hy⟩) hHeld ?_
                  case hy => (intro w hSw; (try dsimp only at hSw); go_simp; try with_reducible rfl)
                  try simp only [List.setIfInBounds_toArray, List.set_cons_zero, List.set_cons_succ]
                  refine takeD 5 68 (v := ?_) rfl rfl (by kernel_rfl) (by kernel_rfl) (by kernel_rfl) (fun _ _ _ h => h) (Or.inl ⟨by kernel_rfl, ?hy⟩) hHeld ?_
                  case hy => (intro w hSw; (try dsimp only at hSw); go_simp; try with_reducible rfl)
                  try simp only [List.setIfInBounds_toArray, List.set_cons_zero, List.set_cons_succ]
                  refine takeD 6 69 (v := ?_) rfl rfl (by kernel_rfl) (by kernel_rfl) (by kernel_rfl) (fun _ _ _ h => h) (Or.inl ⟨by kernel_rfl, ?hy⟩) hHeld ?_
                  case hy => (intro w hSw; (try dsimp only at hSw); go_simp; try with_reducible rfl)
                  try simp only [List.setIfInBounds_toArray, List.set_cons_zero, List.set_cons_succ]
                  refine takeD 7 70 (v := ?_) rfl rfl (by kernel_rfl) (by kernel_rfl) (by kernel_rfl) (fun _ _ _ h => h) (Or.inl ⟨by kernel_rfl, ?hy⟩) hHeld ?_
                  case hy => (intro w hSw; (try dsimp only at hSw); go_simp; try with_reducible rfl)
                  try simp only [List.setIfInBounds_toArray, List.set_cons_zero, List.set_cons_succ]
                  refine takeD 8 71 (v := ?_) rfl rfl (by kernel_rfl) (by kernel_rfl) (by kernel_rfl) (fun _ _ _ h => h) (Or.inl ⟨by kernel_rfl, ?hy⟩) hHeld ?_
                  case hy => (intro w hSw; (try dsimp only at hSw); go_simp; try with_reducible rfl)
                  try simp only [List.setIfInBounds_toArray, List.set_cons_zero, List.set_cons_succ]
                  refine takeD 9 72 (v := ?_) rfl rfl (by kernel_rfl) (by kernel_rfl) (by kernel_rfl) (fun _ _ _ h => h) (Or.inl ⟨by kernel_rfl, ?hy⟩) hHeld ?_
                  case hy => (intro w hSw; (try dsimp only at hSw); go_simp; try with_reducible rfl)
                  try simp only [List.setIfInBounds_toArray, List.set_cons_zero, List.set_cons_succ]
                  refine takeD 10 73 (v := ?_) rfl rfl (by kernel_rfl) (by kernel_rfl) (by kernel_rfl) (fun _ _ _ h => h) (Or.inl ⟨by kernel_rfl, ?hy⟩) hHeld ?_
                  case hy => (intro w hSw; (try dsimp only at hSw); go_simp; try with_reducible rfl)
                  try simp only [List.setIfInBounds_toArray, List.set_cons_zero, List.set_cons_succ]
                  refine takeD 11 74 (v := ?_) rfl rfl (by kernel_rfl) (by kernel_rfl) (by kernel_rfl) (fun _ _ _ h => h) (Or.inl ⟨by kernel_rfl, ?hy⟩) hHeld ?_
                  case hy => (intro w hSw; (try dsimp only at hSw); go_simp; try with_reducible rfl)
                  try simp only [List.setIfInBounds_toArray, List.set_cons_zero, List.set_cons_succ]
                  refine takeD 12 75 (v := ?_) rfl rfl (by kernel_rfl) (by kernel_rfl) (by kernel_rfl) (fun _ _ _ h => h) (Or.inl ⟨by kernel_rfl, ?hy⟩) hHeld ?_
                  case hy => (intro w hSw; (try dsimp only at hSw); go_simp; try with_reducible rfl)
                  try simp only [List.setIfInBounds_toArray, List.set_cons_zero, List.set_cons_succ]
                  refine takeD 13 76 (v := ?_) rfl rfl (by kernel_rfl) (by kernel_rfl) (by kernel_rfl) (fun _ _ _ h => h) (Or.inl ⟨by kernel_rfl, ?hy⟩) hHeld ?_
                  case hy => (intro w hSw; (try dsimp only at hSw); go_simp; try with_reducible rfl)
                  try simp only [List.setIfInBounds_toArray, List.set_cons_zero, List.set_cons_succ]
                  refine takeD 14 77 (v := ?_) rfl rfl (by kernel_rfl) (by kernel_rfl) (by kernel_rfl) (fun _ _ _ h => h) (Or.inl ⟨by kernel_rfl, ?hy⟩) hHeld ?_
                  case hy => (intro w hSw; (try dsimp only at hSw); go_simp; try with_reducible rfl)
                  try simp only [List.setIfInBounds_toArray, List.set_cons_zero, List.set_cons_succ]
                  refine takeD 15 78 (v := ?_) rfl rfl (by kernel_rfl) (by kernel_rfl) (by kernel_rfl) (fun _ _ _ h => h) (Or.inl ⟨by kernel_rfl, ?hy⟩) hHeld ?_
                  case hy => (intro w hSw; (try dsimp only at hSw); go_simp; try with_reducible rfl)
                  try simp only [List.setIfInBounds_toArray, List.set_cons_zero, List.set_cons_succ]
                  refine takeD 16 79 (v := ?_) rfl rfl (by kernel_rfl) (by kernel_rfl) (by kernel_rfl) (fun _ _ _ h => h) (Or.inl ⟨by kernel_rfl, ?hy⟩) hHeld ?_
                  case hy => (intro w hSw; (try dsimp only at hSw); go_simp; try with_reducible rfl)
                  try simp only [List.setIfInBounds_toArray, List.set_cons_zero, List.set_cons_succ]
                  have hkf := fun B (hb : g < B) => kept_four (B := B) wr.drew ((f + bI) * 4) (.bool s7) (.slice a9 n9 c9) (.bool s8) (.slice a10 n10 c10) hb
                  obtain ⟨bh2, oh2, hbe, _, _, _, _, hhd2, _⟩ := HM3.out.cells HLL'.out.1 hk
                  cases hbe
                  rw [HLL'.out.2 HLL'.out.1] at hhd2
                  refine stepD 17 rfl (by kernel_rfl) (fun Kc hKc => ?_)
                  refine Eq.mpr (if_pos (by kernel_rfl)) ?_
                  go_simp
                  refine hKc.out _ _ ⟨hhd2, (hkf _ hgF _ _ _ X0.out).cell, (hkf _ hgF _ _ _ E0.out).cell, (hkf _ hgF _ _ _ E1.out).cell, (hkf _ hgF _ _ _ E2.out).cell, (hkf _ hgF _ _ _ E3.out).cell⟩ (fun hHeld => ?_)
                  clear hKc Kc
                  try simp only [Act.put, List.setIfInBounds_toArray, List.set_cons_zero, List.set_cons_succ]
                  refine wpAnyH_done (by kernel_rfl) ?_ _
                  refine NoPanic.normal ?_
                  clear hhd hx0 he0 he1 he2 he3 s0 s1 s2 s3 f0 f1 f2 f3 hHeld hhd2
                  have HE8 := Lib.hid (ext_set4' hEd.out ((f + bI) * 4) (.bool s7) (.slice a9 n9 c9) (.bool s8) (.slice a10 n10 c10) (b := g) hg0)
                  have HK8 := Lib.hid (Kept.trans hKd.out (hkf _ hgF))
                  go_wp2_with fail
                  go_roundg (n8 - (bI + 1))
                  case measure => omega
                  case rel => exact ⟨bI + 1, by omega, rfl, by go_num, Lib.hid ⟨L', HM3.out, HFS.out, by rw [HTK2.out]; exact HST.out⟩, HE8, HK8, Nat.le_trans hszb2 (size_four _ _ _ _ _ _ _)⟩
                · obtain rfl : bI = cx := by omega
                  have HG3 : Hid (∃ L, MG K wz.heap.size wr a3 rows c3 cols L ∧ L.map Prod.fst = F0 ∧ L.map Prod.snd = (PP ++ (FX.take (ra + 1)).map (setsFrom (zeroR cols) f)) ++ List.replicate (rows - R - (ra + 1)) (zeroR cols)) := Lib.hid (by
                    obtain ⟨L, h1, h2, h3⟩ := HGb.out
                    refine ⟨L, h1, h2, ?_⟩
                    rw [h3, HTK.out, ← List.append_assoc, HPQ.out, List.take_of_length_le (by rw [HRWL.out]; exact Nat.le_refl _), show rows - R - (ra + 1) = rest by have := HREST.out; omega]
                    simp)
                  go_wp2_with fail
                  go_roundg (n6 - (ra + 1))
                  case measure => omega
                  case rel => exact ⟨ra + 1, by omega, rfl, by go_num, HG3, HEb, HKb, hszb⟩
            · obtain rfl : ra = n6 := by omega
              have HG3 : Hid (∃ L, MG K wz.heap.size wr a3 rows c3 cols L ∧ L.map Prod.fst = F0 ∧ L.map Prod.snd = blkQ cols (ms.take (j + 1)) 0 ++ List.replicate (rows - (R + ra)) (zeroR cols)) := Lib.hid (by
                obtain ⟨L, h1, h2, h3⟩ := HGa.out
                refine ⟨L, h1, h2, ?_⟩
                rw [h3, HBQ.out, List.take_of_length_le (by rw [HFL.out]; exact Nat.le_refl _), Nat.sub_sub])
              have hszz : w1.heap.size ≤ wr.heap.size := by omega
              go_wp2_with fail
              go_roundg (i - (j + 1))
              case measure => omega
              case rel => exact ⟨j + 1, R + ra, f + cx, by omega, rfl, by go_num, by go_num, by go_num, hrs, hcs, HRS, HCS, HG3, HEa, hszz⟩
        · obtain rfl : j = i := by omega
          obtain ⟨L, hM, _, hLs⟩ := HG.out
          have hfull : ms.take j = ms := List.take_of_length_le (by rw [hlen.out]; exact Nat.le_refl _)
          have hR2 := HR.out
          rw [hfull, hrows.out] at hR2
          rw [hfull, hq.out, ← hR2, Nat.sub_self, List.replicate_zero, List.append_nil] at hLs
          have hS3 : Sl (rRatK K).slice 0 wr a3 rows c3 qss := by have := Sl.zero hM.read; rwa [hLs] at this
          have HS3 := Lib.hid hS3
          have HRW : Hid (∀ qs ∈ qss, qs.length ≤ 1099511627776) := Lib.hid (fun qs hm2 => by rw [← hq.out] at hm2; have := blkQ_len cols ms 0 qs hm2; omega)
          have hEz := Ext.trans HE.out HEz.out
          have r0 := HR0.out.ext hEz
          have HEw := Lib.hid (Ext.trans HEW.out hEz)
          have hszw := HEw.out.size
          clear hM hLs hfull hR2 hS3 hEz
          skip
          replace r0_0 := r0.cell (i := 0) rfl
          replace r0_1 := r0.cell (i := 1) rfl
          replace r0_2 := r0.cell (i := 2) rfl
          replace r0_f0 := r0.free 0
          replace r0_f1 := r0.free 1
          replace r0_f2 := r0.free 2
          replace r0_lt := r0.lt
          go_wp2_with fail
          refine (from_any K KD hK wr a3 rows c3 qss HS3.out (by omega) hN hL D hD HRW).mono ?_
          rintro e w2 ⟨a5, n5, c5, a6, n6, c6, rfl, h5, h6, hE5⟩
          replace r0 := r0.ext hE5; replace r0_0 := r0.cell (i := 0) rfl; replace r0_1 := r0.cell (i := 1) rfl; replace r0_2 := r0.cell (i := 2) rfl; replace r0_f0 := r0.free 0; replace r0_f1 := r0.free 1; replace r0_f2 := r0.free 2; replace r0_lt := r0.lt
          have HF := Lib.hid (RFrom.box (w := w) (r := w.heap.size) (v0 := .bool false) (v1 := .slice a5 n5 c5) (v2 := .slice a6 n6 c6) (Nat.le_refl _) (show w.heap.size < wr.heap.size by have := (HR0.out.ext (Ext.trans HE.out HEz.out)).lt; omega) (Ext.trans HEw.out hE5) h5 h6)
          clear h5 h6 hE5
          have r02 : Blk ((((w2).setCell ⟨w.heap.size, 0, none⟩ (.bool false)).setCell ⟨w.heap.size, 1, none⟩ (.slice a5 n5 c5)).setCell ⟨w.heap.size, 2, none⟩ (.slice a6 n6 c6)) _ _ #[.bool false, .slice a5 n5 c5, .slice a6 n6 c6] := (((r0).set 0 (.bool false)).set 1 (.slice a5 n5 c5)).set 2 (.slice a6 n6 c6)
          have hr00 := r02.cell (i := 0) rfl
          have hr01 := r02.cell (i := 1) rfl
          have hr02 := r02.cell (i := 2) rfl
          go_wp2_with fail
          exact bodyPost_ret (v := .agg #[.bool false, .slice a5 n5 c5, .slice a6 n6 c6]) (by simp [results, Try.results17, go_sem, hr00, hr01, hr02]) rfl HF.out
end Go.Proofs.Ytbhenelehhiakaa
