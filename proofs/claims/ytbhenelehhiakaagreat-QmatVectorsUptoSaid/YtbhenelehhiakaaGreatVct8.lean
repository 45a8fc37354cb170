/-
  qmat: Blocks.
-/
import Derived.Test.YtbhenelehhiakaaGreatVct7
set_option linter.unusedVariables false
set_option linter.unusedSimpArgs false
namespace Go.Proofs.YtbhenelehhiakaaGreat
open Go.RowKit
def setFrom (l : List Int) : Nat → List Int → List Int
 | _, [] => l
 | at_, z :: zs => setFrom (l.set at_ z) (at_ + 1) zs
theorem setFrom_snoc (zs : List Int) (z : Int) : ∀ (l : List Int) (a : Nat), setFrom l a (zs ++ [z]) = (setFrom l a zs).set (a + zs.length) z := by
 induction zs with
 | nil => intro l a; simp [setFrom]
 | cons y zs ih =>
  intro l a
  rw [List.cons_append, setFrom, ih, setFrom, List.length_cons]
  congr 1; omega
theorem length_setFrom (zs : List Int) : ∀ (l : List Int) (a : Nat), (setFrom l a zs).length = l.length := by
 induction zs with
 | nil => intro l a; rfl
 | cons y zs ih => intro l a; rw [setFrom, ih, List.length_set]
abbrev Ms := List (Int × List (List Int))
def blkDen (ms : Ms) : Int := ms.foldl (fun d m => d * m.1) 1
def blkCols (ms : Ms) : Nat := (ms.map fun m => colsOf m.2).sum
def rowOf (cols a : Nat) (f : Int) (zs : List Int) : List Int := setFrom (List.replicate cols 0) a (zs.map (· * f))
def blkRows (cols : Nat) (D : Int) : Ms → Nat → List (List Int)
 | [], _ => []
 | m :: ms, a => m.2.map (rowOf cols a (D / m.1)) ++ blkRows cols D ms (a + colsOf m.2)
theorem blkDen_snoc (ms : Ms) (m : Int × List (List Int)) : blkDen (ms ++ [m]) = blkDen ms * m.1 := by simp [blkDen]
theorem blkCols_snoc (ms : Ms) (m : Int × List (List Int)) : blkCols (ms ++ [m]) = blkCols ms + colsOf m.2 := by simp [blkCols]
theorem blkRows_snoc (cols : Nat) (D : Int) (m : Int × List (List Int)) : ∀ (ms : Ms) (a : Nat), blkRows cols D (ms ++ [m]) a = blkRows cols D ms a ++ m.2.map (rowOf cols (a + blkCols ms) (D / m.1)) := by
 intro ms
 induction ms with
 | nil => intro a; simp [blkRows, blkCols]
 | cons y ms ih =>
  intro a
  rw [List.cons_append, blkRows, ih, blkRows, List.append_assoc]
  rw [show a + blkCols (y :: ms) = a + colsOf y.2 + blkCols ms by simp [blkCols]; omega]
theorem blkDen_dvd (ms ms2 : Ms) : blkDen ms ∣ blkDen (ms ++ ms2) := by
 have key : ∀ (ms2 : Ms) (z : Int), z ∣ ms2.foldl (fun d m => d * m.1) z := by
  intro ms2
  induction ms2 with
  | nil => intro z; exact Int.dvd_refl _
  | cons m ms ih => intro z; exact Int.dvd_trans ⟨m.1, rfl⟩ (ih _)
 unfold blkDen
 rw [List.foldl_append]
 exact key _ _
theorem blkDen_ne (ms : Ms) (h : ∀ m ∈ ms, m.1 ≠ 0) : blkDen ms ≠ 0 := by
 have key : ∀ (ms : Ms) (z : Int), z ≠ 0 → (∀ m ∈ ms, m.1 ≠ 0) → ms.foldl (fun d m => d * m.1) z ≠ 0 := by
  intro ms
  induction ms with
  | nil => intro z hz _; exact hz
  | cons m ms ih => intro z hz h; exact ih _ (Int.mul_ne_zero hz (h m (List.mem_cons_self ..))) (fun y hy => h y (List.mem_cons_of_mem _ hy))
 exact key ms 1 (by decide) h
theorem den_dvd_blkDen (ms : Ms) (m : Int × List (List Int)) (h : m ∈ ms) : m.1 ∣ blkDen ms := by
 obtain ⟨l, r, rfl⟩ := List.append_of_mem h
 rw [show l ++ m :: r = (l ++ [m]) ++ r by simp]
 refine Int.dvd_trans ?_ (blkDen_dvd _ _)
 rw [blkDen_snoc]
 exact ⟨blkDen l, Int.mul_comm _ _⟩
theorem nl_dvd {x y : Int} {K : Nat} (h : x ∣ y) (hy : y ≠ 0) (hK : nl y.natAbs ≤ K) : nl x.natAbs ≤ K :=
 Nat.le_trans (nl_mono (Nat.le_of_dvd (Int.natAbs_pos.2 hy) (Int.natAbs_dvd_natAbs.2 h))) hK
theorem even_len {α : Type} {xss : List (List α)} (h : evenB xss = true) : ∀ xs ∈ xss, xs.length = colsOf xss := fun xs hx => by
 unfold evenB at h
 exact of_decide_eq_true (List.all_eq_true.1 h xs hx)
theorem checksE_zero : ∀ {ms : Ms}, checksE ms = 0 → ∀ m ∈ ms, m.1 ≠ 0 ∧ evenB m.2 = true := by
 intro ms
 induction ms with
 | nil => intro _ m hm; simp at hm
 | cons y ms ih =>
  intro h m hm
  unfold checksE at h
  by_cases h0 : checkE y.1 y.2 = 0
  ·rw [if_pos h0] at h
   rcases List.mem_cons.1 hm with rfl | hm
   ·exact checkE_zero h0
   ·exact ih h m hm
  ·rw [if_neg h0] at h; exact absurd h h0
theorem length_blkRows (cols : Nat) (D : Int) : ∀ (ms : Ms) (a : Nat), (blkRows cols D ms a).length = (ms.map fun m => m.2.length).sum := by
 intro ms
 induction ms with
 | nil => intro a; rfl
 | cons y ms ih => intro a; rw [blkRows, List.length_append, List.length_map, ih]; simp
theorem blkRows_len (cols : Nat) (D : Int) : ∀ (ms : Ms) (a : Nat), ∀ row ∈ blkRows cols D ms a, row.length = cols := by
 intro ms
 induction ms with
 | nil => intro a row hr; simp [blkRows] at hr
 | cons y ms ih =>
  intro a row hr
  rw [blkRows] at hr
  rcases List.mem_append.1 hr with hr | hr
  ·obtain ⟨zs, _, rfl⟩ := List.mem_map.1 hr
   unfold rowOf
   rw [length_setFrom, List.length_replicate]
  ·exact ih _ row hr
theorem sum_take_le (f : Int × List (List Int) → Nat) (ms : Ms) (i : Nat) : ((ms.take i).map f).sum ≤ (ms.map f).sum := by
 conv => rhs; rw [← List.take_append_drop i ms]
 rw [List.map_append, List.sum_append]; omega
theorem Sl.cells2 {K B : Nat} {w : World} {g n c : Nat} {xs : List Int} (h : Sl (rIntK K) B w (some ⟨g, 0, none⟩) n c xs) {k : Nat} (hk : k < n) : g < w.heap.size ∧ (∃ u, w.cell? ⟨g, k * 2, none⟩ = some u) ∧ w.frozen? ⟨g, k * 2, none⟩ = false ∧ (∃ u, w.cell? ⟨g, k * 2 + 1, none⟩ = some u) ∧ w.frozen? ⟨g, k * 2 + 1, none⟩ = false := by
 obtain ⟨bk, ok, csk, hgk, hqk, hck⟩ := h.at_ k (by rw [h.len]; exact hk)
 cases hgk
 have hl2 : csk.length = 2 := (rIntK K).len hqk
 have key : ∀ j (hj : j < 2), Cel B w g (k * 2 + j) (csk[j]'(by omega)) := fun j hj => by
  have := hck j (by omega)
  rwa [Nat.zero_add] at this
 exact ⟨cel_lt (key 0 (by omega)), ⟨_, (key 0 (by omega)).cell⟩, (key 0 (by omega)).free, ⟨_, (key 1 (by omega)).cell⟩, (key 1 (by omega)).free⟩
set_option maxRecDepth 100000 in
set_option maxHeartbeats 16000000 in
theorem blocks_any (K KD cols R : Nat) (hK : K + KD ≤ 8796093022208) (w : World) (a : Option Addr) (n c : Nat) (ms : Ms) (h : Sl (rMatK K) 0 w a n c ms) (hs : Hid (checksE ms = 0)) (D : Int) (hD : Hid (blkDen ms = D)) (hDK : nl D.natAbs ≤ KD)
  (hcol : Hid (blkCols ms = cols)) (hcols : cols ≤ 1099511627776) (hR : Hid ((ms.map fun m => m.2.length).sum = R)) (hRR : R ≤ 1099511627776) (hrow : Hid (∀ m ∈ ms, ∀ zs ∈ m.2, zs.length ≤ 1099511627776)) :
  Calls Tryz.prog 77 #[.slice a n c] w (RMatOk w (madeDen D (blkRows cols D ms 0)) (madeRows D (blkRows cols D ms 0))) := by
 obtain ⟨cur, hmk0⟩ := make_ints cols hcols (K + KD)
 have hmk := fun w => (hmk0 w).1
 have HMK := Lib.hid (fun w => (hmk0 w).2)
 clear hmk0
 have HS := Lib.hid h
 have hmost := h.most
 have hcap := h.cap
 have hlen := Lib.hid h.len
 have HOK := Lib.hid (checksE_zero hs.out)
 have HDN : Hid (D ≠ 0) := Lib.hid (by rw [← hD.out]; exact blkDen_ne ms (fun m hm => (HOK.out m hm).1))
 clear h
 go_enter Tryz.func77, Tryz.ntmps77
 go_wp2_with fail
 have r := Blk.new w 28 #[.bool false, .slice none 0 0, .slice none 0 0]
 have hEW : Ext w (w.alloc (Obj.cells #[.bool false, .slice none 0 0, .slice none 0 0] 28)) := ((Below.refl _ w).alloc (by simp) _)
 generalize hgW : w.alloc (Obj.cells #[.bool false, .slice none 0 0, .slice none 0 0] 28) = W at *
 clear hgW
 replace r_0 := r.cell (i := 0) rfl
 replace r_1 := r.cell (i := 1) rfl
 replace r_2 := r.cell (i := 2) rfl
 replace r_f0 := r.free 0
 replace r_f1 := r.free 1
 replace r_f2 := r.free 2
 replace r_lt := r.lt
 have hW : w.heap.size + 1 ≤ W.heap.size := r_lt
 refine (checks_any K (by omega) W a n c ms (HS.out.ext (Nat.le_refl _) hEW) 0 hs).mono ?_
 rintro e w0 ⟨rfl, hE0⟩
 replace r := r.ext hE0; replace r_0 := r.cell (i := 0) rfl; replace r_1 := r.cell (i := 1) rfl; replace r_2 := r.cell (i := 2) rfl; replace r_f0 := r.free 0; replace r_f1 := r.free 1; replace r_f2 := r.free 2; replace r_lt := r.lt
 replace hE0 := Ext.trans hEW hE0
 have hw0 : w.heap.size + 1 ≤ w0.heap.size := r_lt
 clear hEW
 go_wp2_with fail
 refine (zintOf_any 1 w0 (by omega) (by omega)).mono ?_
 rintro e w1 ⟨a3, n3, c3, rfl, h3, hE1⟩
 replace r := r.ext hE1; replace r_0 := r.cell (i := 0) rfl; replace r_1 := r.cell (i := 1) rfl; replace r_2 := r.cell (i := 2) rfl; replace r_f0 := r.free 0; replace r_f1 := r.free 1; replace r_f2 := r.free 2; replace r_lt := r.lt
 rw [show decide ((1 : Int) < 0) = false from rfl]
 replace h3 := h3.mono hw0 (Kept.refl _ _)
 replace hE0 := Ext.trans hE0 hE1
 have hw1 : w.heap.size + 1 ≤ w1.heap.size := Nat.le_trans hw0 hE1.size
 clear hE1
 go_wp2_with fail
 have d := Blk.new w1 25 #[.bool false, .slice a3 n3 c3]
 have hEW2 : Ext w1 (w1.alloc (Obj.cells #[.bool false, .slice a3 n3 c3] 25)) := ((Below.refl _ w1).alloc (by simp) _)
 generalize hgW2 : w1.alloc (Obj.cells #[.bool false, .slice a3 n3 c3] 25) = W2 at *
 clear hgW2
 replace d_0 := d.cell (i := 0) rfl
 replace d_1 := d.cell (i := 1) rfl
 replace d_f0 := d.free 0
 replace d_f1 := d.free 1
 replace d_lt := d.lt
 replace r := r.ext hEW2; replace r_0 := r.cell (i := 0) rfl; replace r_1 := r.cell (i := 1) rfl; replace r_2 := r.cell (i := 2) rfl; replace r_f0 := r.free 0; replace r_f1 := r.free 1; replace r_f2 := r.free 2; replace r_lt := r.lt
 have HDB : Hid (∃ a3 n3 c3, Blk W2 w1.heap.size 25 #[.bool (decide (blkDen (ms.take 0) < 0)), .slice a3 n3 c3] ∧ NatS (w.heap.size + 1) W2 a3 n3 c3 (limbs (blkDen (ms.take 0)).natAbs)) := Lib.hid ⟨a3, n3, c3, d, h3.ext (Nat.le_refl _) hEW2⟩
 have HR0 := Lib.hid r
 have HE2 := Lib.hid (Ext.trans hE0 hEW2)
 clear h3 hE0 hEW2 d d_0 d_1 d_f0 d_f1 d_lt r r_0 r_1 r_2 r_f0 r_f1 r_f2 r_lt
 go_loopg [5, 33] n (fun q vc vi wr => ∃ (i m : Nat), i ≤ n ∧ q = n - i ∧ vi = .int .i64 (i : Int) ∧ vc = .int .i64 (m : Int) ∧ m ≤ cols ∧ Hid (blkCols (ms.take i) = m) ∧ Hid (∃ a3 n3 c3, Blk wr w1.heap.size 25 #[.bool (decide (blkDen (ms.take i) < 0)), .slice a3 n3 c3] ∧ NatS (w.heap.size + 1) wr a3 n3 c3 (limbs (blkDen (ms.take i)).natAbs)) ∧ Hid (Blk wr w.heap.size 28 #[.bool false, .slice none 0 0, .slice none 0 0]) ∧ Hid (Ext w wr))
 case atStart => exact ⟨0, 0, Nat.zero_le _, by omega, rfl, rfl, Nat.zero_le _, Lib.hid rfl, HDB, HR0, HE2⟩
 case round =>
  clear HDB HR0 HE2
  obtain ⟨i, m, hi, hq, rfl, rfl, hmc, HM, HB, HR, HE⟩ := hrel
  by_cases hin : i < n
  ·obtain ⟨b5, o5, s5, a5, n5, c5, a6, n6, c6, x, rfl, hb5, hx, hc5, hc6, hc7, h5⟩ := HS.out.getMat hin
   replace hc5 := (HE.out.cell (p := ⟨b5, o5 + i * 3, none⟩) hb5).trans hc5
   replace hc6 := (HE.out.cell (p := ⟨b5, o5 + i * 3 + 1, none⟩) hb5).trans hc6
   replace hc7 := (HE.out.cell (p := ⟨b5, o5 + i * 3 + 2, none⟩) hb5).trans hc7
   have H5 := Lib.hid (h5.ext HE.out)
   obtain ⟨hil, hxe⟩ := List.getElem?_eq_some_iff.1 hx
   have hmem : x ∈ ms := List.mem_of_getElem? hx
   have hts : ms.take (i + 1) = ms.take i ++ [x] := by rw [List.take_succ_eq_append_getElem hil, hxe]
   have HDS : Hid (blkDen (ms.take (i + 1)) = blkDen (ms.take i) * x.1) := Lib.hid (by rw [hts, blkDen_snoc])
   have HCS : Hid (blkCols (ms.take (i + 1)) = m + colsOf x.2) := Lib.hid (by rw [hts, blkCols_snoc, HM.out])
   have hcs : m + colsOf x.2 ≤ cols := by
    rw [← HCS.out, ← hcol.out]; exact sum_take_le (fun m => colsOf m.2) ms (i + 1)
   have hlen6 : n6 = x.2.length := by obtain ⟨_, _, _, _, h9⟩ := h5; exact h9.len.symm
   have hn6 : n6 ≤ 1099511627776 := by
    rw [hlen6]
    have h8 := sum_take_le (fun m => m.2.length) ms (i + 1)
    rw [hR.out, hts, List.map_append, List.sum_append] at h8
    simp at h8; omega
   have HRW := Lib.hid (hrow.out x hmem)
   have hnd : nl (blkDen (ms.take i)).natAbs ≤ KD := nl_dvd (y := D) (by rw [← hD.out]; conv => rhs; rw [← List.take_append_drop i ms]
                                                                         exact blkDen_dvd _ _) HDN.out hDK
   obtain ⟨a3, n3, c3, hd, h3⟩ := HB.out
   have hn3 : n3 ≤ KD := by have := h3.len; rw [length_limbs] at this; omega
   have H3 := Lib.hid h3
   have d := hd
   have r := HR.out
   obtain ⟨cx, hcx⟩ : ∃ cx, colsOf x.2 = cx := ⟨_, rfl⟩
   have HCX := Lib.hid hcx
   rw [hcx] at hcs HCS
   clear hx hxe hmem hts hlen6 h5 h3 hd hcx HB HR
   generalize hzz : blkDen (ms.take i) = z at *
   clear hzz
   skip
   skip
   replace r_0 := r.cell (i := 0) rfl
   replace r_1 := r.cell (i := 1) rfl
   replace r_2 := r.cell (i := 2) rfl
   replace r_f0 := r.free 0
   replace r_f1 := r.free 1
   replace r_f2 := r.free 2
   replace r_lt := r.lt
   replace d_0 := d.cell (i := 0) rfl
   replace d_1 := d.cell (i := 1) rfl
   replace d_f0 := d.free 0
   replace d_f1 := d.free 1
   replace d_lt := d.lt
   go_wp2_with fail
   clear hc5 hc6 hc7
   have y := Blk.new wr 28 #[.bool s5, .slice a5 n5 c5, .slice a6 n6 c6]
   have hEW3 : Ext wr (wr.alloc (Obj.cells #[.bool s5, .slice a5 n5 c5, .slice a6 n6 c6] 28)) := ((Below.refl _ wr).alloc (by simp) _)
   generalize hgW3 : wr.alloc (Obj.cells #[.bool s5, .slice a5 n5 c5, .slice a6 n6 c6] 28) = W3 at *
   clear hgW3
   replace y_0 := y.cell (i := 0) rfl
   replace y_1 := y.cell (i := 1) rfl
   replace y_2 := y.cell (i := 2) rfl
   replace r := r.ext hEW3; replace r_0 := r.cell (i := 0) rfl; replace r_1 := r.cell (i := 1) rfl; replace r_2 := r.cell (i := 2) rfl; replace r_f0 := r.free 0; replace r_f1 := r.free 1; replace r_f2 := r.free 2; replace r_lt := r.lt; replace d := d.ext hEW3; replace d_0 := d.cell (i := 0) rfl; replace d_1 := d.cell (i := 1) rfl; replace d_f0 := d.free 0; replace d_f1 := d.free 1; replace d_lt := d.lt
   have HE3 := Lib.hid (Ext.trans HE.out hEW3)
   refine (qsize_any K (by omega) W3 s5 a5 a6 n5 c5 n6 c6 x.1 x.2 (H5.out.ext hEW3) hn6 HRW cx HCX).mono ?_
   rintro e w4 ⟨rfl, hE4⟩
   replace r := r.ext hE4; replace r_0 := r.cell (i := 0) rfl; replace r_1 := r.cell (i := 1) rfl; replace r_2 := r.cell (i := 2) rfl; replace r_f0 := r.free 0; replace r_f1 := r.free 1; replace r_f2 := r.free 2; replace r_lt := r.lt; replace d := d.ext hE4; replace d_0 := d.cell (i := 0) rfl; replace d_1 := d.cell (i := 1) rfl; replace d_f0 := d.free 0; replace d_f1 := d.free 1; replace d_lt := d.lt; replace y := y.ext hE4; replace y_0 := y.cell (i := 0) rfl; replace y_1 := y.cell (i := 1) rfl; replace y_2 := y.cell (i := 2) rfl
   have hEy := Ext.trans hEW3 hE4
   have HE4 := Lib.hid (Ext.trans HE.out hEy)
   obtain ⟨l5, h51, h52, h53, _⟩ := H5.out.ext hEy
   have H52 := Lib.hid h52
   have h3 := H3.out.ext (Nat.zero_le _) hEy
   have hw4 : w.heap.size + 1 ≤ w4.heap.size := Nat.le_trans hw1 (Nat.le_of_lt d_lt)
   clear h52 hEW3 hE4 hEy
   go_wp2_with fail
   refine (zintMul_z _ s5 0 w4 _ _ _ _ _ _ _ l5 z x.1 h3 h51 (by omega) (by omega) (hnorm _) H52).mono ?_
   rintro e w5 ⟨a8, n8, c8, rfl, h8, hE5⟩
   replace r := r.ext hE5; replace r_0 := r.cell (i := 0) rfl; replace r_1 := r.cell (i := 1) rfl; replace r_2 := r.cell (i := 2) rfl; replace r_f0 := r.free 0; replace r_f1 := r.free 1; replace r_f2 := r.free 2; replace r_lt := r.lt; replace d := d.ext hE5; replace d_0 := d.cell (i := 0) rfl; replace d_1 := d.cell (i := 1) rfl; replace d_f0 := d.free 0; replace d_f1 := d.free 1; replace d_lt := d.lt
   have H8 := Lib.hid (h8.mono hw4 (Kept.refl _ _))
   rw [← HDS.out] at H8 ⊢
   generalize hz2 : blkDen (ms.take (i + 1)) = z2 at *
   have HZ2 := Lib.hid hz2
   have HDz := Lib.hid ((d.set 0 (.bool (decide (z2 < 0)))).set 1 (.slice a8 n8 c8))
   have HRz := Lib.hid ((r.set_ne 0 (.bool (decide (z2 < 0))) (show w.heap.size ≠ w1.heap.size by omega)).set_ne 1 (.slice a8 n8 c8) (show w.heap.size ≠ w1.heap.size by omega))
   have HNz := Lib.hid (NatS.set (NatS.set H8.out d_0 (fun x => by simp) (.bool (decide (z2 < 0)))) ((d.set 0 (.bool (decide (z2 < 0)))).cell (i := 1) rfl) (fun x => by simp) (.slice a8 n8 c8))
   have HEz := Lib.hid (Below.setCell (Below.setCell (Ext.trans HE4.out hE5) (p := ⟨w1.heap.size, 0, none⟩) (show w.heap.size ≤ w1.heap.size by omega) (.bool (decide (z2 < 0)))) (p := ⟨w1.heap.size, 1, none⟩) (show w.heap.size ≤ w1.heap.size by omega) (.slice a8 n8 c8))
   clear h3 h51 h8 hE5 hz2
   go_wp2_with fail
   go_roundg (n - (i + 1))
   case measure => omega
   case rel => exact ⟨i + 1, m + cx, by omega, rfl, by go_num, by go_num, hcs, HCS, Lib.hid ⟨a8, n8, c8, by rw [HZ2.out]; exact HDz.out, by rw [HZ2.out]; exact HNz.out⟩, HRz, HEz⟩
  ·obtain rfl : i = n := by omega
   have hfull : ms.take i = ms := List.take_of_length_le (by rw [hlen.out]; exact Nat.le_refl _)
   have HB2 := HB.out
   have HM2 := HM.out
   rw [hfull] at HB2 HM2
   rw [hD.out] at HB2
   rw [hcol.out] at HM2
   obtain rfl : m = cols := HM2.symm
   obtain ⟨a3, n3, c3, hd, h3⟩ := HB2
   have hn3 : n3 ≤ KD := by have := h3.len; rw [length_limbs] at this; omega
   obtain ⟨wz, rfl⟩ : ∃ wz : World, wz = wr := ⟨_, rfl⟩
   have H3 := Lib.hid h3
   have HD0 := Lib.hid hd
   have hdl := hd.lt
   clear hfull HM2 HM hd h3 HB
   go_wp2_with fail
   go_loopg [11, 12, 52] i (fun q vo va vi wr => ∃ (j f : Nat), j ≤ i ∧ q = i - j ∧ vi = .int .i64 (j : Int) ∧ va = .int .i64 (f : Int) ∧ f ≤ m ∧ Hid (blkCols (ms.take j) = f) ∧ Hid (∃ css N, Grp (rIntK (K + KD)).slice wz.heap.size 30 wr vo N (blkRows m D (ms.take j) 0) css) ∧ Hid (Ext wz wr))
   case atStart => exact ⟨0, 0, Nat.zero_le _, by omega, rfl, rfl, Nat.zero_le _, Lib.hid rfl, Lib.hid ⟨[], 0, Grp.nil _ _ _ _⟩, Lib.hid (Ext.refl _)⟩
   case round =>
    obtain ⟨j, f, hj, hq2, rfl, rfl, hfm, HF, HG, HEx⟩ := hrel
    by_cases hji : j < i
    ·obtain ⟨b5, o5, s5, a5, n5, c5, a6, n6, c6, x, rfl, hb5, hx, hc5, hc6, hc7, h5⟩ := HS.out.getMat hji
     have hEa := Ext.trans HE.out HEx.out
     replace hc5 := (hEa.cell (p := ⟨b5, o5 + j * 3, none⟩) hb5).trans hc5
     replace hc6 := (hEa.cell (p := ⟨b5, o5 + j * 3 + 1, none⟩) hb5).trans hc6
     replace hc7 := (hEa.cell (p := ⟨b5, o5 + j * 3 + 2, none⟩) hb5).trans hc7
     have H5 := Lib.hid (h5.ext hEa)
     have H5w := Lib.hid h5
     obtain ⟨hil, hxe⟩ := List.getElem?_eq_some_iff.1 hx
     have hmem : x ∈ ms := List.mem_of_getElem? hx
     have hts : ms.take (j + 1) = ms.take j ++ [x] := by rw [List.take_succ_eq_append_getElem hil, hxe]
     have HCS : Hid (blkCols (ms.take (j + 1)) = f + colsOf x.2) := Lib.hid (by rw [hts, blkCols_snoc, HF.out])
     have HRS : Hid (blkRows m D (ms.take (j + 1)) 0 = blkRows m D (ms.take j) 0 ++ x.2.map (rowOf m f (D / x.1))) := Lib.hid (by rw [hts, blkRows_snoc, Nat.zero_add, HF.out])
     have hcs : f + colsOf x.2 ≤ m := by rw [← HCS.out, ← hcol.out]; exact sum_take_le (fun m => colsOf m.2) ms (j + 1)
     have hlen6 : n6 = x.2.length := by obtain ⟨_, _, _, _, h9⟩ := h5; exact h9.len.symm
     have hnr : (blkRows m D (ms.take j) 0).length + n6 ≤ 1099511627776 := by
      have h8 := sum_take_le (fun m => m.2.length) ms (j + 1)
      rw [hR.out, hts, List.map_append, List.sum_append, ← length_blkRows m D _ 0] at h8
      simp at h8
      rw [hlen6]; omega
     have HRW := Lib.hid (hrow.out x hmem)
     have HEV := Lib.hid (even_len (HOK.out x hmem).2)
     have HX0 := Lib.hid (HOK.out x hmem).1
     have HXD : Hid (x.1 ∣ D) := Lib.hid (by rw [← hD.out]; exact den_dvd_blkDen ms x hmem)
     have HL6 := Lib.hid hlen6
     obtain ⟨cx, hcx⟩ : ∃ cx, colsOf x.2 = cx := ⟨_, rfl⟩
     have HCX := Lib.hid hcx
     rw [hcx] at hcs HCS
     have d := HD0.out.ext HEx.out
     clear hx hxe hmem hts hlen6 h5 hcx hEa
     skip
     replace d_0 := d.cell (i := 0) rfl
     replace d_1 := d.cell (i := 1) rfl
     have d_a0 := cell_alloc d_0 (Obj.cells #[.bool s5, .slice a5 n5 c5, .slice a6 n6 c6] 28)
     have d_a1 := cell_alloc d_1 (Obj.cells #[.bool s5, .slice a5 n5 c5, .slice a6 n6 c6] 28)
     go_wp2_with fail
     clear hc5 hc6 hc7 d_a0 d_a1
     have y := Blk.new wr 28 #[.bool s5, .slice a5 n5 c5, .slice a6 n6 c6]
     have hEW3 : Ext wr (wr.alloc (Obj.cells #[.bool s5, .slice a5 n5 c5, .slice a6 n6 c6] 28)) := ((Below.refl _ wr).alloc (by simp) _)
     generalize hgW3 : wr.alloc (Obj.cells #[.bool s5, .slice a5 n5 c5, .slice a6 n6 c6] 28) = W3 at *
     clear hgW3
     replace y_0 := y.cell (i := 0) rfl
     replace y_1 := y.cell (i := 1) rfl
     replace y_2 := y.cell (i := 2) rfl
     replace d := d.ext hEW3; replace d_0 := d.cell (i := 0) rfl; replace d_1 := d.cell (i := 1) rfl
     have HE3 := Lib.hid (Ext.trans HEx.out hEW3)
     obtain ⟨l5, h51, h52, h53, _⟩ := H5.out.ext hEW3
     have H52 := Lib.hid h52
     have h3 := H3.out.ext (Nat.zero_le _) HE3.out
     clear h52
     refine (zintExact_z _ s5 0 W3 _ _ _ _ _ _ _ l5 D x.1 h3 h51 (by omega) (hnorm _) H52 HX0.out HXD.out).mono ?_
     rintro e w4 ⟨v4, rfl, ⟨a8, n8, c8, rfl, h8⟩, hE4⟩
     replace y := y.ext hE4; replace y_0 := y.cell (i := 0) rfl; replace y_1 := y.cell (i := 1) rfl; replace y_2 := y.cell (i := 2) rfl
     have hn8 : n8 ≤ KD := by
      have h9 := h8.len
      rw [length_limbs] at h9
      have h10 := nl_dvd (x := D / x.1) ⟨x.1, (Int.ediv_mul_cancel HXD.out).symm⟩ HDN.out hDK
      omega
     have hE5 := Ext.trans hEW3 hE4
     generalize hfz : D / x.1 = fz at *
     clear hfz h3 h51
     have y_a0 := cell_alloc y_0 (Obj.cells #[.bool (decide (fz < 0)), .slice a8 n8 c8] 25)
     have y_a1 := cell_alloc y_1 (Obj.cells #[.bool (decide (fz < 0)), .slice a8 n8 c8] 25)
     have y_a2 := cell_alloc y_2 (Obj.cells #[.bool (decide (fz < 0)), .slice a8 n8 c8] 25)
     go_wp2_with fail
     clear y_a0 y_a1 y_a2
     have g := Blk.new w4 25 #[.bool (decide (fz < 0)), .slice a8 n8 c8]
     have hEW6 : Ext w4 (w4.alloc (Obj.cells #[.bool (decide (fz < 0)), .slice a8 n8 c8] 25)) := ((Below.refl _ w4).alloc (by simp) _)
     generalize hgW6 : w4.alloc (Obj.cells #[.bool (decide (fz < 0)), .slice a8 n8 c8] 25) = W6 at *
     clear hgW6
     replace g_0 := g.cell (i := 0) rfl
     replace g_1 := g.cell (i := 1) rfl
     replace y := y.ext hEW6; replace y_0 := y.cell (i := 0) rfl; replace y_1 := y.cell (i := 1) rfl; replace y_2 := y.cell (i := 2) rfl
     have hE6 := Ext.trans hE5 hEW6
     have h8 := h8.ext (Nat.le_refl _) hEW6
     refine (qsize_any K (by omega) W6 s5 a5 a6 n5 c5 n6 c6 x.1 x.2 (H5.out.ext hE6) (by omega) HRW cx HCX).mono ?_
     rintro e w7 ⟨rfl, hE7⟩
     replace y := y.ext hE7; replace y_0 := y.cell (i := 0) rfl; replace y_1 := y.cell (i := 1) rfl; replace y_2 := y.cell (i := 2) rfl; replace g := g.ext hE7; replace g_0 := g.cell (i := 0) rfl; replace g_1 := g.cell (i := 1) rfl
     have hE8 := Ext.trans hE6 hE7
     have H8 := Lib.hid (h8.ext (Nat.le_refl _) hE7)
     have HE8 := Lib.hid hE8
     have HGG := Lib.hid g
     obtain ⟨wy, rfl⟩ : ∃ wy : World, wy = wr := ⟨_, rfl⟩
     have HG8 : Hid (∃ css N, N = (blkRows m D (ms.take j) 0).length ∧ Grp (rIntK (K + KD)).slice wz.heap.size 30 w7 u11 N (blkRows m D (ms.take j) 0) css ∧ ∀ k, u11.ownBlock = some k → k < wy.heap.size) := Lib.hid (by
      obtain ⟨css, N, hG⟩ := HG.out
      exact ⟨css, N, hG.xlen.symm, hG.keep hE8.size (fun b _ h2 => hE8.block b h2), fun k e => (hG.own.lt k e).2⟩)
     have hW3y : wy.heap.size ≤ W3.heap.size := hEW3.size
     have hw4 : wy.heap.size ≤ w4.heap.size := Nat.le_trans hW3y hE4.size
     clear h8 hE4 hE5 hE6 hE7 hE8 hEW3 hEW6 HG
     obtain ⟨N0, hN0⟩ : ∃ N0, (blkRows m D (ms.take j) 0).length = N0 := ⟨_, rfl⟩
     rw [hN0] at hnr
     generalize hQQ : blkRows m D (ms.take j) 0 = QQ at *
     have HQQ := Lib.hid hQQ
     have HN0 := Lib.hid hN0
     have hgl := HGG.out.lt
     have hcap6 : n6 ≤ c6 := by obtain ⟨_, _, _, _, h9⟩ := H5.out; exact h9.cap
     have hmost6 : c6 ≤ 9223372036854775807 := by obtain ⟨_, _, _, _, h9⟩ := H5.out; exact h9.most
     clear hQQ hN0 g g_0 g_1 d d_0 d_1
     go_wp2_with fail
     clear y y_0 y_1 y_2
     go_loopg [11, 71] n6 (fun q vo vi wr => ∃ (t : Nat), t ≤ n6 ∧ q = n6 - t ∧ vi = .int .i64 (t : Int) ∧ Hid (∃ css, Grp (rIntK (K + KD)).slice wz.heap.size 30 wr vo (N0 + t) (QQ ++ (x.2.take t).map (rowOf m f fz)) css) ∧ Hid (Ext wz wr) ∧ Hid (∀ b, wy.heap.size ≤ b → b < w7.heap.size → wr.heap[b]? = w7.heap[b]?) ∧ w7.heap.size ≤ wr.heap.size ∧ Hid (∀ k, vo.ownBlock = some k → k < wy.heap.size ∨ w7.heap.size ≤ k))
     case atStart =>
      obtain ⟨css, N, hN, hG, hown⟩ := HG8.out
      exact ⟨0, Nat.zero_le _, by omega, rfl, Lib.hid ⟨css, by rw [HN0.out] at hN; subst hN; simpa using hG⟩, Lib.hid (Ext.trans HEx.out HE8.out), Lib.hid (fun _ _ _ => rfl), Nat.le_refl _, Lib.hid (fun k e => .inl (hown k e))⟩
     case round =>
      obtain ⟨t, ht, hq3, rfl, HGt, HEt, HNt, hszt, HOt⟩ := hrel
      obtain ⟨wo, rfl⟩ : ∃ wo : World, wo = wr := ⟨_, rfl⟩
      by_cases htn : t < n6
      ·obtain ⟨l6, _, _, _, h6⟩ := H5w.out.ext (Ext.trans HE.out HEt.out)
       obtain ⟨b6, o6, a1, n1, c1, zs, rfl, hb6, hzs, hc8, hZ⟩ := Sl.getRow h6 htn
       obtain ⟨htl, hze⟩ := List.getElem?_eq_some_iff.1 hzs
       have hn1 : n1 = cx := by rw [← hZ.len, ← HCX.out]; exact HEV.out zs (List.mem_of_getElem? hzs)
       have HZ := Lib.hid hZ
       have HZS := Lib.hid hzs
       have hcap1 := hZ.cap
       have hmost1 := hZ.most
       have hEA : Ext wo (wo.alloc (Obj.cells cur 25)) := (Below.refl _ _).alloc (Nat.le_refl _) _
       have HROW0 := Lib.hid (HMK.out wo)
       have HTR : Hid ((x.2.take (t + 1)).map (rowOf m f fz) = (x.2.take t).map (rowOf m f fz) ++ [rowOf m f fz zs]) := Lib.hid (by rw [List.take_succ_eq_append_getElem htl, hze, List.map_append]; rfl)
       have hzl : zs.length = n1 := hZ.len
       have HZL := Lib.hid hzl
       have hsz7 := Nat.le_trans hgl hszt
       have HGo : Hid (Blk wo w4.heap.size 25 #[.bool (decide (fz < 0)), .slice a8 n8 c8]) := Lib.hid ((HNt.out w4.heap.size hw4 hgl).trans HGG.out)
       have H8o := Lib.hid (H8.out.mono (Nat.le_refl _) (kept_int (B := W3.heap.size) (w' := wo) (fun b h1 h2 => HNt.out b (Nat.le_trans hW3y h1) h2)))
       subst hn1
       clear h6 hzs hze hZ hzl
       go_wp2_with fail
       go_loopg [79] n1 (fun q vi wk => ∃ (k : Nat), k ≤ n1 ∧ q = n1 - k ∧ vi = .int .i64 (k : Int) ∧ Hid (Sl (rIntK (K + KD)) wo.heap.size wk (some ⟨wo.heap.size, 0, none⟩) m m (setFrom (List.replicate m 0) f ((zs.take k).map (· * fz)))) ∧ Hid (Ext wo wk))
       case atStart => exact ⟨0, Nat.zero_le _, by omega, rfl, Lib.hid HROW0.out, Lib.hid hEA⟩
       case round =>
        obtain ⟨k, hk, hq4, rfl, HRk, HEk⟩ := hrel
        by_cases hkn : k < n1
        ·obtain ⟨b7, o7, s7, a7, n7, c7, l7, z, rfl, hb7, hz7, hc9, hc10, h7, hi7, hn7⟩ := (HZ.out.ext (Nat.le_refl _) HEk.out).getInt hkn
         obtain ⟨hkl, hze⟩ := List.getElem?_eq_some_iff.1 hz7
         have HSF : Hid (setFrom (List.replicate m 0) f ((zs.take (k + 1)).map (· * fz)) = (setFrom (List.replicate m 0) f ((zs.take k).map (· * fz))).set (f + k) (z * fz)) := Lib.hid (by
          rw [List.take_succ_eq_append_getElem hkl, hze, List.map_append, List.map_cons, List.map_nil, setFrom_snoc, List.length_map, List.length_take, Nat.min_eq_left (by omega)])
         have HI7 := Lib.hid hi7
         have H7 := Lib.hid h7
         have hnz : nl (z * fz).natAbs ≤ K + KD := by
          rw [Int.natAbs_mul]
          have g1 := nl_mul z.natAbs fz.natAbs
          have g2 := nl_of h7 HI7
          have g3 : nl fz.natAbs ≤ n8 := by have := H8o.out.len; rw [length_limbs] at this; omega
          omega
         have g := HGo.out.ext HEk.out
         have hfk : (f : Int) + (k : Int) < (m : Int) := by omega
         have hwo := HEk.out.size
         obtain ⟨z10, hz10⟩ : ∃ z10, z * fz = z10 := ⟨_, rfl⟩
         have HZ10 := Lib.hid hz10
         rw [hz10] at hnz HSF
         clear hz7 hze hi7 h7 hz10
         skip
         replace g_0 := g.cell (i := 0) rfl
         replace g_1 := g.cell (i := 1) rfl
         have g_a0 := cell_alloc g_0 (Obj.cells #[.bool s7, .slice a7 n7 c7] 25)
         have g_a1 := cell_alloc g_1 (Obj.cells #[.bool s7, .slice a7 n7 c7] 25)
         go_wp2_with fail
         clear g_a0 g_a1 hc9 hc10
         have u := Blk.new wr 25 #[.bool s7, .slice a7 n7 c7]
         have hEW9 : Ext wr (wr.alloc (Obj.cells #[.bool s7, .slice a7 n7 c7] 25)) := ((Below.refl _ wr).alloc (by simp) _)
         generalize hgW9 : wr.alloc (Obj.cells #[.bool s7, .slice a7 n7 c7] 25) = W9 at *
         clear hgW9
         replace u_0 := u.cell (i := 0) rfl
         replace u_1 := u.cell (i := 1) rfl
         refine (zintMul_z s7 _ 0 W9 _ _ _ _ _ _ l7 _ z fz (H7.out.ext (Nat.le_refl _) hEW9) (H8o.out.ext (Nat.zero_le _) (Ext.trans HEk.out hEW9)) (by omega) (by omega) HI7 (hnorm _)).mono ?_
         rintro e w10 ⟨a10, n10, c10, rfl, h10, hE10⟩
         rw [HZ10.out] at h10 ⊢
         have hE11 := Ext.trans hEW9 hE10
         have hR10 := HRk.out.ext (Nat.le_refl _) hE11
         obtain ⟨hgw, ⟨u0, s0⟩, f0, ⟨u1, s1⟩, f1⟩ := hR10.cells2 (k := f + k) (by omega)
         have hOK : (rIntK (K + KD)).ok wo.heap.size w10 [.bool (decide (z10 < 0)), .slice a10 n10 c10] z10 := ⟨_, a10, n10, c10, _, rfl, h10.mono (Nat.le_trans hwo hEW9.size) (Kept.refl _ _), ival_norm z10, by have := h10.len; rw [length_limbs] at this; omega⟩
         have HP := Lib.hid (hR10.setInt (k := f + k) (by omega) hOK)
         have HEP := Lib.hid (Below.setCell (Below.setCell (Ext.trans HEk.out hE11) (p := ⟨wo.heap.size, (f + k) * 2, none⟩) (Nat.le_refl _) (.bool (decide (z10 < 0)))) (p := ⟨wo.heap.size, (f + k) * 2 + 1, none⟩) (Nat.le_refl _) (.slice a10 n10 c10))
         clear h10 hE10 hE11 hR10 hOK hEW9 u u_0 u_1 g g_0 g_1
         go_wp2_with fail
         go_roundg (n1 - (k + 1))
         case measure => omega
         case rel => exact ⟨k + 1, by omega, rfl, by go_num, Lib.hid (by rw [HSF.out]; exact HP.out), HEP⟩
        ·obtain rfl : k = n1 := by omega
         have hRk := HRk.out
         rw [List.take_of_length_le (by rw [HZL.out]; exact Nat.le_refl _)] at hRk
         have hEB : Ext wr (wr.alloc (Obj.cells #[.slice (some ⟨wo.heap.size, 0, none⟩) m m] 30)) := (Below.refl _ _).alloc (Nat.le_refl _) _
         have hEB2 := Ext.trans HEk.out hEB
         obtain ⟨css2, hGo⟩ := HGt.out
         have hlt11 := hGo.own.lt
         have hG11 := Lib.hid (hGo.keep hEB2.size (fun b _ h2 => hEB2.block b h2))
         have H11 := Lib.hid (hRk.ext (Nat.le_refl _) hEB)
         have HE11 := Lib.hid (Ext.trans HEt.out hEB2)
         have hwz : wz.heap.size ≤ wo.heap.size := HEt.out.size
         have hszB := hEB2.size
         have hnews : ∀ (j' : Nat) (u : Value), [Value.slice (some ⟨wo.heap.size, 0, none⟩) m m][j']? = some u → (wr.alloc (Obj.cells #[.slice (some ⟨wo.heap.size, 0, none⟩) m m] 30)).cell? ((⟨wr.heap.size, 0, none⟩ : Addr).add j') = some u := fun j' u hu => by
          match j', hu with
          | 0, hu => cases hu; exact (Blk.new wr 30 #[.slice (some ⟨wo.heap.size, 0, none⟩) m m]).cell (i := 0) rfl
          | k + 1, hu => simp at hu
         obtain ⟨i0, hi0, hz0, hz1, hz2⟩ := info_parts info_ints
         clear hGo hEB2 hRk hEB
         go_wp2_with (at_builtin; refine wpList_append_own_at _ rfl _ _ 26 rfl wz.heap.size 30 i0 _ 1 24 under_intss hi0 hz0 hz1 hz2 rfl (by decide) _ _ _ rfl hG11.out.own ⟨wr.heap.size, 0, none⟩ 1 1 [.slice (some ⟨wo.heap.size, 0, none⟩) m m] rfl rfl hnews (by simp [Value.oneCell']) (by unfold maxLen; omega) (by omega) (by exact Nat.le_trans hwz hszB) ?_; intro v' w1_ hown' hgrow _ hat)
         have HAD := Lib.hid (hG11.out.add hown' hgrow hat (x := rowOf m f fz zs) (Bx := wo.heap.size) ⟨_, m, m, rfl, H11.out⟩ hwz (fun k e => (hlt11 k e).2))
         have HEN := Lib.hid (HE11.out.grown hgrow HE11.out.size (fun k e => (hlt11 k e).1))
         have hgs := hgrow.size
         have hsz2 : w7.heap.size ≤ w1_.heap.size := by omega
         have HNN : Hid (∀ b, wy.heap.size ≤ b → b < w7.heap.size → w1_.heap[b]? = w7.heap[b]?) := Lib.hid (fun b h1 h2 => (hgrow.block b (by omega) (fun e => by rcases HOt.out b e.symm with h | h <;> omega)).trans (((Ext.trans HEk.out ((Below.refl _ _).alloc (Nat.le_refl _) _)).block b (by omega)).trans (HNt.out b h1 h2)))
         have HON : Hid (∀ k, v'.ownBlock = some k → k < wy.heap.size ∨ w7.heap.size ≤ k) := Lib.hid (fun k e => by
          rcases hat with hat | hat
          ·rw [hat] at e; exact HOt.out k e
          ·rw [hat] at e; have e2 := Option.some.inj e; right; omega)
         clear hown' hgrow hat hnews
         go_roundg (n6 - (t + 1))
         case measure => omega
         case rel => exact ⟨t + 1, by omega, rfl, by go_num, Lib.hid ⟨css2 ++ [[.slice (some ⟨wo.heap.size, 0, none⟩) m m]], by rw [HTR.out, ← List.append_assoc]; exact HAD.out⟩, HEN, HNN, hsz2, HON⟩
      ·obtain rfl : t = n6 := by omega
       obtain ⟨css, hG⟩ := HGt.out
       rw [List.take_of_length_le (by rw [← HL6.out]; exact Nat.le_refl _)] at hG
       have HGN := Lib.hid hG
       have hfc : (f : Int) + (cx : Int) ≤ (m : Int) := by omega
       clear hG
       go_wp2_with fail
       go_roundg (i - (j + 1))
       case measure => omega
       case rel => exact ⟨j + 1, f + cx, by omega, rfl, by go_num, by go_num, hcs, HCS, Lib.hid ⟨css, N0 + t, by rw [HRS.out]; exact HGN.out⟩, HEt⟩
    ·obtain rfl : j = i := by omega
     obtain ⟨css, N, hG⟩ := HG.out
     have hfull : ms.take j = ms := List.take_of_length_le (by rw [hlen.out]; exact Nat.le_refl _)
     rw [hfull] at hG
     have hN : N ≤ 1099511627776 := by rw [← hG.xlen, length_blkRows, hR.out]; omega
     obtain ⟨aa, ca, rfl, hsl⟩ := hG.sl
     obtain ⟨xss, hGd, hxz⟩ := grid_of (intB_of_K hK hsl) (by omega) (fun row hr => by rw [blkRows_len m D ms 0 row hr]; exact hcols)
     have HGd := Lib.hid hGd
     have HXZ := Lib.hid hxz
     have d := HD0.out.ext HEx.out
     have r := HR.out.ext HEx.out
     have h3 := (H3.out.ext (Nat.zero_le _) HEx.out)
     have hE9 := Ext.trans HE.out HEx.out
     have hrl := r.lt
     clear hG hsl hGd hxz hfull HG
     generalize hQQ : blkRows m D ms 0 = QQ at *
     have HQQ := Lib.hid hQQ
     clear hQQ
     skip
     skip
     replace r_0 := r.cell (i := 0) rfl
     replace r_1 := r.cell (i := 1) rfl
     replace r_2 := r.cell (i := 2) rfl
     replace r_f0 := r.free 0
     replace r_f1 := r.free 1
     replace r_f2 := r.free 2
     replace r_lt := r.lt
     replace d_0 := d.cell (i := 0) rfl
     replace d_1 := d.cell (i := 1) rfl
     go_wp2_with fail
     refine (made_any wr _ a3 aa n3 c3 N ca _ xss h3 HGd.out (by omega) D (hnorm D) HDN.out).mono ?_
     rintro e w5 ⟨a5, n5, c5, a6, n6, c6, rfl, h5, h6, hE5⟩
     rw [HXZ.out] at h5 h6 ⊢
     replace r := r.ext hE5; replace r_0 := r.cell (i := 0) rfl; replace r_1 := r.cell (i := 1) rfl; replace r_2 := r.cell (i := 2) rfl; replace r_f0 := r.free 0; replace r_f1 := r.free 1; replace r_f2 := r.free 2; replace r_lt := r.lt
     generalize hde : madeDen D QQ = de at *
     generalize hzz : madeRows D QQ = zz at *
     have HDE := Lib.hid hde
     have HZZ := Lib.hid hzz
     have HF := Lib.hid (RMatOk.box (w := w) (r := w.heap.size) (v0 := .bool (decide (de < 0))) (v1 := .slice a5 n5 c5) (v2 := .slice a6 n6 c6) (Nat.le_refl _) hrl (Ext.trans hE9 hE5) h5 h6)
     clear h3 h5 h6 hE9 hE5 hde hzz
     generalize decide (de < 0) = sg at *
     have r2 := ((r.set 0 (.bool sg)).set 1 (.slice a5 n5 c5)).set 2 (.slice a6 n6 c6)
     have hr0 := r2.cell (i := 0) rfl
     have hr1 := r2.cell (i := 1) rfl
     have hr2 := r2.cell (i := 2) rfl
     go_wp2_with fail
     exact bodyPost_ret (v := .tuple #[.agg #[.bool sg, .slice a5 n5 c5, .slice a6 n6 c6], .int .i64 0]) (by simp [results, Tryz.results77, go_sem, hr0, hr1, hr2]) rfl HF.out
end Go.Proofs.YtbhenelehhiakaaGreat
namespace Go.Proofs.YtbhenelehhiakaaGreat
theorem dvd_mul_gcdI {D c x y : Int} (hx : D ∣ c * x) (hy : D ∣ c * y) : D ∣ c * gcdI x y := by
 have h := Int.dvd_coe_gcd hx hy
 rw [Int.gcd_mul_left] at h
 unfold gcdI
 rcases Int.natAbs_eq c with hc | hc
 ·rw [hc, ← Int.natCast_mul]; exact h
 ·rw [hc, Int.neg_mul, ← Int.natCast_mul]; exact Int.dvd_neg.2 h
theorem dvd_mul_gcds (D c : Int) (l : List Int) (h : ∀ z ∈ l, D ∣ c * z) : D ∣ c * gcds l := by
 have key : ∀ (l : List Int) (x : Int), D ∣ c * x → (∀ z ∈ l, D ∣ c * z) → D ∣ c * l.foldl gcdI x := by
  intro l
  induction l with
  | nil => intro x hx _; exact hx
  | cons y ys ih =>
   intro x hx hl
   refine ih _ ?_ (fun z hz => hl z (List.mem_cons_of_mem _ hz))
   exact dvd_mul_gcdI hx (hl y (List.mem_cons_self ..))
 exact key l 0 (by simp) h
theorem made_split (D : Int) (hD : D ≠ 0) (L : List Int) : ∃ g e : Int, g = madeG D L ∧ g ≠ 0 ∧ 0 < e ∧ D = g * e ∧ (∀ z ∈ L, g ∣ z) ∧ (∀ c : Int, (∀ z ∈ L, D ∣ c * z) → e ∣ c) := by
 have hG0 : gcdI (gcds L) D ≠ 0 := by
  unfold gcdI; intro h
  have : Int.gcd (gcds L) D = 0 := by omega
  exact hD (Int.gcd_eq_zero_iff.1 this).2
 have hGp : 0 < gcdI (gcds L) D := by unfold gcdI at *; omega
 have hGd : gcdI (gcds L) D ∣ D := Int.gcd_dvd_right ..
 have hGz : ∀ z ∈ L, gcdI (gcds L) D ∣ z := fun z hz => Int.dvd_trans (Int.gcd_dvd_left ..) (gcds_dvd L z hz)
 obtain ⟨k, hk⟩ := hGd
 have hmain : ∀ c : Int, (∀ z ∈ L, D ∣ c * z) → D ∣ c * gcdI (gcds L) D := fun c hc => dvd_mul_gcdI (dvd_mul_gcds D c L hc) (Int.dvd_mul_left ..)
 generalize hGe : gcdI (gcds L) D = G at *
 have hkc : ∀ c : Int, D ∣ c * G → k ∣ c := by
  rintro c ⟨t, ht⟩
  refine ⟨t, ?_⟩
  have : G * c = G * (k * t) := by rw [Int.mul_comm G c, ht, hk, Int.mul_assoc]
  exact Int.eq_of_mul_eq_mul_left hG0 this
 by_cases hs : D < 0
 ·refine ⟨-G, -k, ?_, by omega, ?_, by rw [Int.neg_mul_neg]; exact hk, fun z hz => Int.neg_dvd.2 (hGz z hz), fun c hc => Int.neg_dvd.2 (hkc c (hmain c hc))⟩
  ·unfold madeG; rw [if_pos hs, hGe]
  ·rw [hk] at hs
   have : ¬ 0 ≤ k := fun h => by have := Int.mul_le_mul_of_nonneg_left h (Int.le_of_lt hGp); simp at this; omega
   omega
 ·refine ⟨G, k, ?_, hG0, ?_, hk, hGz, fun c hc => hkc c (hmain c hc)⟩
  ·unfold madeG; rw [if_neg hs, hGe]
  ·have h0 : 0 < G * k := by omega
   have : ¬ k ≤ 0 := fun h => by have := Int.mul_le_mul_of_nonneg_left h (Int.le_of_lt hGp); simp at this; omega
   omega
theorem ratv_scale {g : Int} (hg : g ≠ 0) (k e : Int) : ratv (g * k) (g * e) = ratv k e := Rat.divInt_mul_left hg
theorem made_com (D : Int) (hD : D ≠ 0) (L : List Int) : ((comDen (L.map fun z => ratv z D) : Nat) : Int) = D / madeG D L ∧ ∀ z ∈ L, comNum (comDen (L.map fun z => ratv z D)) (ratv z D) = z / madeG D L := by
 obtain ⟨g, e, hg, hg0, he, hDe, hz, hc⟩ := made_split D hD L
 rw [← hg]
 have hdiv : D / g = e := by rw [hDe, Int.mul_ediv_cancel_left _ hg0]
 have hq : ∀ z ∈ L, ∃ k, z = g * k ∧ ratv z D = ratv k e := fun z hm => by
  obtain ⟨k, hk⟩ := hz z hm
  exact ⟨k, hk, by rw [hk, hDe, ratv_scale hg0]⟩
 have hcom : ((comDen (L.map fun z => ratv z D) : Nat) : Int) = e := by
  have h1 : comDen (L.map fun z => ratv z D) ∣ e.toNat := by
   refine comDen_dvd _ _ fun q hm => ?_
   obtain ⟨z, hz1, rfl⟩ := List.mem_map.1 hm
   obtain ⟨k, _, hk⟩ := hq z hz1
   rw [hk]
   have h2 := ratv_den (z := k) (d := e) he
   have h3 : (((ratv k e).den : Nat) : Int) ∣ e := by
    rw [h2]
    obtain ⟨t, ht⟩ : ((Int.gcd k e : Nat) : Int) ∣ e := Int.gcd_dvd_right ..
    have ht0 : ((Int.gcd k e : Nat) : Int) ≠ 0 := fun h => by rw [h] at ht; omega
    exact ⟨(Int.gcd k e : Nat), by
     have : e / ((Int.gcd k e : Nat) : Int) = t := by
      conv => lhs; lhs; rw [ht]
      exact Int.mul_ediv_cancel_left _ ht0
     rw [this, Int.mul_comm]; exact ht⟩
   have : (((ratv k e).den : Nat) : Int) ∣ ((e.toNat : Nat) : Int) := by rw [Int.toNat_of_nonneg (by omega)]; exact h3
   exact Int.natCast_dvd_natCast.1 this
  have h2 : e ∣ ((comDen (L.map fun z => ratv z D) : Nat) : Int) := by
   refine hc _ fun z hm => ?_
   obtain ⟨k, hk, hk2⟩ := hq z hm
   have hd : (ratv z D).den ∣ comDen (L.map fun z => ratv z D) := den_dvd_comDen _ _ (List.mem_map.2 ⟨z, hm, rfl⟩)
   have hmul := comNum_eq _ _ hd
   generalize comDen (L.map fun z => ratv z D) = C at *
   refine ⟨comNum C (ratv z D), ?_⟩
   have hDq : ((D : Int) : Rat) ≠ 0 := fun e => hD (Rat.intCast_inj.1 (show ((D : Int) : Rat) = ((0 : Int) : Rat) from e))
   have hv : ratv z D = (z : Rat) * (D : Rat)⁻¹ := by unfold ratv; rw [Rat.divInt_eq_div, Rat.div_def]
   have : (((C : Int) * z : Int) : Rat) = ((D * comNum C (ratv z D) : Int) : Rat) := by
    rw [Rat.intCast_mul, Rat.intCast_mul, ← hmul, hv]
    have h1 : (D : Rat) * (D : Rat)⁻¹ = 1 := Rat.mul_inv_cancel _ hDq
    generalize ((D : Int) : Rat) = d at *
    generalize d⁻¹ = di at *
    grind
   exact Rat.intCast_inj.1 this
  have h3 : ((comDen (L.map fun z => ratv z D) : Nat) : Int) ∣ e := by
   have := Int.natCast_dvd_natCast.2 h1
   rwa [Int.toNat_of_nonneg (by omega)] at this
  have hp := comDen_pos (L.map fun z => ratv z D)
  exact Int.dvd_antisymm (by omega) (by omega) h3 h2
 refine ⟨by rw [hcom, hdiv], fun z hm => ?_⟩
 have hd : (ratv z D).den ∣ comDen (L.map fun z => ratv z D) := den_dvd_comDen _ _ (List.mem_map.2 ⟨z, hm, rfl⟩)
 have hmul := comNum_eq _ _ hd
 generalize comDen (L.map fun z => ratv z D) = C at *
 obtain ⟨k, hk, hk2⟩ := hq z hm
 have hzk : z / g = k := by rw [hk, Int.mul_ediv_cancel_left _ hg0]
 rw [hzk]
 rw [hcom] at hmul
 have heq : ((e : Int) : Rat) ≠ 0 := fun h => by have := Rat.intCast_inj.1 (show ((e : Int) : Rat) = ((0 : Int) : Rat) from h); omega
 have hv : ratv k e = (k : Rat) * (e : Rat)⁻¹ := by unfold ratv; rw [Rat.divInt_eq_div, Rat.div_def]
 have : ((comNum C (ratv z D) : Int) : Rat) = ((k : Int) : Rat) := by
  rw [← hmul, hk2, hv]
  have h1 : (e : Rat)⁻¹ * (e : Rat) = 1 := Rat.inv_mul_cancel _ heq
  rw [Rat.mul_assoc, h1, Rat.mul_one]
 exact Rat.intCast_inj.1 this
theorem made_normal (D : Int) (hD : D ≠ 0) (B : List (List Int)) (hev : ∀ zs ∈ B, zs.length = colsOf B) :
  ((comDen (B.map fun zs => zs.map fun z => ratv z D).flatten : Nat) : Int) = madeDen D B ∧ ((B.map fun zs => zs.map fun z => ratv z D).map fun qs => qs.map (comNum (comDen (B.map fun zs => zs.map fun z => ratv z D).flatten))) = madeRows D B := by
 have hfl : (B.map fun zs => zs.map fun z => ratv z D).flatten = B.flatten.map fun z => ratv z D := (List.map_flatten ..).symm
 rw [hfl]
 obtain ⟨h1, h2⟩ := made_com D hD B.flatten
 refine ⟨?_, ?_⟩
 ·unfold madeDen
  split
  ·rename_i h0
   have : B.flatten = [] := by
    refine List.flatten_eq_nil_iff.2 fun zs hm => ?_
    have := hev zs hm
    rw [h0] at this
    exact List.length_eq_zero_iff.1 this
   rw [this]; rfl
  ·exact h1
 ·unfold madeRows
  rw [List.map_map]
  refine List.map_congr_left fun zs hm => ?_
  simp only [Function.comp, List.map_map]
  exact List.map_congr_left fun z hz => h2 z (List.mem_flatten.2 ⟨zs, hm, hz⟩)
end Go.Proofs.YtbhenelehhiakaaGreat
namespace Go.Proofs.YtbhenelehhiakaaGreat
open Go.RowKit
theorem MG.weakK {K K' B B' : Nat} {w : World} {a : Option Addr} {n c m : Nat} {L : List (Nat × List Rat)} (h : MG K B w a n c m L) (hK : K ≤ K') (hB : B' ≤ B) : MG K' B' w a n c m L :=
 ⟨h.sl.weak hB rfl fun _ _ ⟨e, hs⟩ => ⟨e, hs.weak hB rfl fun _ _ ⟨b, a, n, c, b2, a2, n2, c2, e, l, l2, g1, g2, g3, g4, g5, g6⟩ => ⟨b, a, n, c, b2, a2, n2, c2, e, l, l2, g1.mono hB (Kept.refl _ _), g2.mono hB (Kept.refl _ _), g3, g4, by omega, by omega⟩⟩, h.out, h.inj⟩
end Go.Proofs.YtbhenelehhiakaaGreat
namespace Go.Proofs.YtbhenelehhiakaaGreat
open Go.RowKit
theorem map_fst_set {α β : Type} (L : List (α × β)) (i : Nat) (h : i < L.length) (q : β) : (L.set i (L[i].1, q)).map Prod.fst = L.map Prod.fst := by
 rw [List.map_set]
 refine List.ext_getElem (by simp) fun k h1 h2 => ?_
 by_cases hk : k = i
 ·subst hk; simp
 ·rw [List.getElem_set_ne (by omega)]
end Go.Proofs.YtbhenelehhiakaaGreat
namespace Go.Proofs.YtbhenelehhiakaaGreat
open Go.RowKit
theorem nl_addI2 (x y : Int) : nl (x + y).natAbs ≤ max (nl x.natAbs) (nl y.natAbs) + 1 := by
 have h : (x + y).natAbs ≤ x.natAbs + y.natAbs := Int.natAbs_add_le x y
 refine Nat.le_trans (nl_mono h) ?_
 refine nl_le_of_lt ?_
 have h1 := lt_pow_nl x.natAbs
 have h2 := lt_pow_nl y.natAbs
 have h3 : 4294967296 ^ nl x.natAbs ≤ 4294967296 ^ max (nl x.natAbs) (nl y.natAbs) := Nat.pow_le_pow_right (by decide) (Nat.le_max_left _ _)
 have h4 : 4294967296 ^ nl y.natAbs ≤ 4294967296 ^ max (nl x.natAbs) (nl y.natAbs) := Nat.pow_le_pow_right (by decide) (Nat.le_max_right _ _)
 generalize 4294967296 ^ nl x.natAbs = p1 at *
 generalize 4294967296 ^ nl y.natAbs = p2 at *
 rw [Nat.pow_succ]
 generalize 4294967296 ^ max (nl x.natAbs) (nl y.natAbs) = p at *
 omega
theorem r3Add_y (b b2 : Bool) (B : Nat) (w : World) (a a2 : Option Addr) (n c n2 c2 : Nat) (l l2 : Nt) (z z2 y : Int) (h : NatS B w a n c l) (h2 : NatS B w a2 n2 c2 l2) (hn : n ≤ 4398046511104) (hn2 : n2 ≤ 4398046511104) (hz : Hid (ival b l = z)) (hz2 : Hid (ival b2 l2 = z2)) (hy : Hid (z + z2 = y)) :
  Calls Tryz.prog 129 #[.agg #[.bool b, .slice a n c], .agg #[.bool b2, .slice a2 n2 c2]] w (RInt w y) := by
 have := r3Add_z b b2 B w a a2 n c n2 c2 l l2 z z2 h h2 hn hn2 hz hz2
 rwa [hy.out] at this
set_option maxRecDepth 100000 in
set_option maxHeartbeats 16000000 in
theorem r5Add_s (K K2 : Nat) (hK : K + K2 + 1 ≤ 549755813888) (w : World) (b b2 b3 b4 : Bool) (a a2 a3 a4 : Option Addr) (n c n2 c2 n3 c3 n4 c4 : Nat) (q s : Rat) (h : RatS K w b a n c b2 a2 n2 c2 q) (h' : RatS K2 w b3 a3 n3 c3 b4 a4 n4 c4 s) (t : Rat) (ht : Hid (q + s = t)) :
  Calls Tryz.prog 95 #[.agg #[.bool b, .slice a n c, .bool b2, .slice a2 n2 c2], .agg #[.bool b3, .slice a3 n3 c3, .bool b4, .slice a4 n4 c4]] w (RRat w t) := by
 obtain ⟨l, l2, h1, h2, hd1, hq1, hn1, hn2⟩ := h
 obtain ⟨l3, l4, h3, h4, hd2, hq2, hn3, hn4⟩ := h'
 obtain ⟨x1, hx1⟩ : ∃ x, ival b l = x := ⟨_, rfl⟩
 obtain ⟨x2, hx2⟩ : ∃ x, ival b2 l2 = x := ⟨_, rfl⟩
 obtain ⟨x3, hx3⟩ : ∃ x, ival b3 l3 = x := ⟨_, rfl⟩
 obtain ⟨x4, hx4⟩ : ∃ x, ival b4 l4 = x := ⟨_, rfl⟩
 rw [hx1, hx2] at hq1
 rw [hx3, hx4] at hq2
 rw [hx2] at hd1
 rw [hx4] at hd2
 have X1 := Lib.hid hx1
 have X2 := Lib.hid hx2
 have X3 := Lib.hid hx3
 have X4 := Lib.hid hx4
 have g1 := nl_of h1 X1
 have g2 := nl_of h2 X2
 have g3 := nl_of h3 X3
 have g4 := nl_of h4 X4
 obtain ⟨y1, hy1⟩ : ∃ x, x1 * x4 = x := ⟨_, rfl⟩
 obtain ⟨y2, hy2⟩ : ∃ x, x3 * x2 = x := ⟨_, rfl⟩
 obtain ⟨y3, hy3⟩ : ∃ x, x2 * x4 = x := ⟨_, rfl⟩
 obtain ⟨y4, hy4⟩ : ∃ x, y1 + y2 = x := ⟨_, rfl⟩
 have hb1 : nl y1.natAbs ≤ K + K2 := by rw [← hy1, Int.natAbs_mul]; have := nl_mul x1.natAbs x4.natAbs; omega
 have hb2 : nl y2.natAbs ≤ K + K2 := by rw [← hy2, Int.natAbs_mul]; have := nl_mul x3.natAbs x2.natAbs; omega
 have hb3 : nl y3.natAbs ≤ K + K2 := by rw [← hy3, Int.natAbs_mul]; have := nl_mul x2.natAbs x4.natAbs; omega
 have hb4 : nl y4.natAbs ≤ K + K2 + 1 := by rw [← hy4]; have := nl_addI2 y1 y2; omega
 have hdd : y3 ≠ 0 := by rw [← hy3]; exact Int.mul_ne_zero hd1 hd2
 have HT : Hid (ratv y4 y3 = t) := Lib.hid (by rw [← ht.out, ← hq1, ← hq2, ratv_add _ _ hd1 hd2, hy1, hy2, hy3, hy4])
 have Y1 := Lib.hid hy1
 have Y2 := Lib.hid hy2
 have Y3 := Lib.hid hy3
 have Y4 := Lib.hid hy4
 clear hx1 hx2 hx3 hx4 hq1 hq2 hd1 hd2 hy1 hy2 hy3 hy4 g1 g2 g3 g4
 go_enter Tryz.func95, Tryz.ntmps95
 go_wp2_with fail
 have p0 := Blk.new w 75 #[.bool b, .slice a n c, .bool b2, .slice a2 n2 c2]
 have p1 := Blk.new (w.alloc (Obj.cells #[.bool b, .slice a n c, .bool b2, .slice a2 n2 c2] 75)) 75 #[.bool b3, .slice a3 n3 c3, .bool b4, .slice a4 n4 c4]
 replace p0 := p0.ext ((Below.refl _ _).alloc (Nat.le_refl _) (Obj.cells #[.bool b3, .slice a3 n3 c3, .bool b4, .slice a4 n4 c4] 75))
 have r := Blk.new ((w.alloc (Obj.cells #[.bool b, .slice a n c, .bool b2, .slice a2 n2 c2] 75)).alloc (Obj.cells #[.bool b3, .slice a3 n3 c3, .bool b4, .slice a4 n4 c4] 75)) 75 #[.bool false, .slice none 0 0, .bool false, .slice none 0 0]
 replace p0 := p0.ext ((Below.refl _ _).alloc (Nat.le_refl _) (Obj.cells #[.bool false, .slice none 0 0, .bool false, .slice none 0 0] 75))
 replace p1 := p1.ext ((Below.refl _ _).alloc (Nat.le_refl _) (Obj.cells #[.bool false, .slice none 0 0, .bool false, .slice none 0 0] 75))
 have hEW : Ext w (((w.alloc (Obj.cells #[.bool b, .slice a n c, .bool b2, .slice a2 n2 c2] 75)).alloc (Obj.cells #[.bool b3, .slice a3 n3 c3, .bool b4, .slice a4 n4 c4] 75)).alloc (Obj.cells #[.bool false, .slice none 0 0, .bool false, .slice none 0 0] 75)) := ((((Below.refl _ w).alloc (by simp) _).alloc (by simp) _).alloc (by simp; omega) _)
 generalize hgW : ((w.alloc (Obj.cells #[.bool b, .slice a n c, .bool b2, .slice a2 n2 c2] 75)).alloc (Obj.cells #[.bool b3, .slice a3 n3 c3, .bool b4, .slice a4 n4 c4] 75)).alloc (Obj.cells #[.bool false, .slice none 0 0, .bool false, .slice none 0 0] 75) = W at *
 clear hgW
 simp only [World.size_alloc] at p1 r
 have p0_ne_p1 : ¬ w.heap.size = w.heap.size + 1 := by omega
 have p0_ne_r : ¬ w.heap.size = w.heap.size + 1 + 1 := by omega
 have p1_ne_p0 : ¬ w.heap.size + 1 = w.heap.size := by omega
 have p1_ne_r : ¬ w.heap.size + 1 = w.heap.size + 1 + 1 := by omega
 have r_ne_p0 : ¬ w.heap.size + 1 + 1 = w.heap.size := by omega
 have r_ne_p1 : ¬ w.heap.size + 1 + 1 = w.heap.size + 1 := by omega
 replace p0_0 := p0.cell (i := 0) rfl
 replace p0_1 := p0.cell (i := 1) rfl
 replace p0_2 := p0.cell (i := 2) rfl
 replace p0_3 := p0.cell (i := 3) rfl
 replace p1_0 := p1.cell (i := 0) rfl
 replace p1_1 := p1.cell (i := 1) rfl
 replace p1_2 := p1.cell (i := 2) rfl
 replace p1_3 := p1.cell (i := 3) rfl
 replace r_0 := r.cell (i := 0) rfl
 replace r_1 := r.cell (i := 1) rfl
 replace r_2 := r.cell (i := 2) rfl
 replace r_3 := r.cell (i := 3) rfl
 replace r_f0 := r.free 0
 replace r_f1 := r.free 1
 replace r_f2 := r.free 2
 replace r_f3 := r.free 3
 replace r_lt := r.lt
 have hW : w.heap.size + 1 + 1 + 1 ≤ W.heap.size := r_lt
 have hd : Ext W W.drew := (Below.refl _ _).drew
 replace p0 := p0.ext hd; replace p0_0 := p0.cell (i := 0) rfl; replace p0_1 := p0.cell (i := 1) rfl; replace p0_2 := p0.cell (i := 2) rfl; replace p0_3 := p0.cell (i := 3) rfl; replace p1 := p1.ext hd; replace p1_0 := p1.cell (i := 0) rfl; replace p1_1 := p1.cell (i := 1) rfl; replace p1_2 := p1.cell (i := 2) rfl; replace p1_3 := p1.cell (i := 3) rfl; replace r := r.ext hd; replace r_0 := r.cell (i := 0) rfl; replace r_1 := r.cell (i := 1) rfl; replace r_2 := r.cell (i := 2) rfl; replace r_3 := r.cell (i := 3) rfl; replace r_f0 := r.free 0; replace r_f1 := r.free 1; replace r_f2 := r.free 2; replace r_f3 := r.free 3; replace r_lt := r.lt
 have hE0 := Ext.trans hEW hd
 replace h1 := h1.ext (Nat.le_refl _) hE0
 replace h2 := h2.ext (Nat.le_refl _) hE0
 replace h3 := h3.ext (Nat.le_refl _) hE0
 replace h4 := h4.ext (Nat.le_refl _) hE0
 have hsz := hd.size
 clear hd hEW
 go_region_held3 (fun w' => w'.cell? ⟨w.heap.size, 0, none⟩ = some (.bool b) ∧ w'.cell? ⟨w.heap.size, 1, none⟩ = some (.slice a n c) ∧ w'.cell? ⟨w.heap.size, 2, none⟩ = some (.bool b2) ∧ w'.cell? ⟨w.heap.size, 3, none⟩ = some (.slice a2 n2 c2) ∧ w'.cell? ⟨w.heap.size + 1, 0, none⟩ = some (.bool b3) ∧ w'.cell? ⟨w.heap.size + 1, 1, none⟩ = some (.slice a3 n3 c3) ∧ w'.cell? ⟨w.heap.size + 1, 2, none⟩ = some (.bool b4) ∧ w'.cell? ⟨w.heap.size + 1, 3, none⟩ = some (.slice a4 n4 c4)) (first | exact ⟨p0_0, p0_1, p0_2, p0_3, p1_0, p1_1, p1_2, p1_3⟩ | go_keep)
  (first | (go_at_call 130; (with_reducible refine (r3Mul_y b b4 0 _ a a4 n c n4 c4 _ _ x1 x4 y1 h1 h4 (by omega) (by omega) X1 X4 Y1).mono ?_); rintro e w1 ⟨a5, n5, c5, rfl, h5, hE1⟩; replace p0 := p0.ext hE1; replace p0_0 := p0.cell (i := 0) rfl; replace p0_1 := p0.cell (i := 1) rfl; replace p0_2 := p0.cell (i := 2) rfl; replace p0_3 := p0.cell (i := 3) rfl; replace p1 := p1.ext hE1; replace p1_0 := p1.cell (i := 0) rfl; replace p1_1 := p1.cell (i := 1) rfl; replace p1_2 := p1.cell (i := 2) rfl; replace p1_3 := p1.cell (i := 3) rfl; replace r := r.ext hE1; replace r_0 := r.cell (i := 0) rfl; replace r_1 := r.cell (i := 1) rfl; replace r_2 := r.cell (i := 2) rfl; replace r_3 := r.cell (i := 3) rfl; replace r_f0 := r.free 0; replace r_f1 := r.free 1; replace r_f2 := r.free 2; replace r_f3 := r.free 3; replace r_lt := r.lt; replace h1 := h1.ext (Nat.le_refl _) hE1; replace h2 := h2.ext (Nat.le_refl _) hE1; replace h3 := h3.ext (Nat.le_refl _) hE1; replace h4 := h4.ext (Nat.le_refl _) hE1; (try replace h6 := h6.ext (Nat.le_refl _) hE1); (try replace h7 := h7.ext (Nat.le_refl _) hE1); replace h5 := h5.mono hsz (Kept.refl _ _); replace hsz := Nat.le_trans hsz hE1.size; replace hE0 := Ext.trans hE0 hE1)
         | (go_at_call 130; (with_reducible refine (r3Mul_y b3 b2 0 _ a3 a2 n3 c3 n2 c2 _ _ x3 x2 y2 h3 h2 (by omega) (by omega) X3 X2 Y2).mono ?_); rintro e w1 ⟨a6, n6, c6, rfl, h6, hE1⟩; replace p0 := p0.ext hE1; replace p0_0 := p0.cell (i := 0) rfl; replace p0_1 := p0.cell (i := 1) rfl; replace p0_2 := p0.cell (i := 2) rfl; replace p0_3 := p0.cell (i := 3) rfl; replace p1 := p1.ext hE1; replace p1_0 := p1.cell (i := 0) rfl; replace p1_1 := p1.cell (i := 1) rfl; replace p1_2 := p1.cell (i := 2) rfl; replace p1_3 := p1.cell (i := 3) rfl; replace r := r.ext hE1; replace r_0 := r.cell (i := 0) rfl; replace r_1 := r.cell (i := 1) rfl; replace r_2 := r.cell (i := 2) rfl; replace r_3 := r.cell (i := 3) rfl; replace r_f0 := r.free 0; replace r_f1 := r.free 1; replace r_f2 := r.free 2; replace r_f3 := r.free 3; replace r_lt := r.lt; replace h1 := h1.ext (Nat.le_refl _) hE1; replace h2 := h2.ext (Nat.le_refl _) hE1; replace h3 := h3.ext (Nat.le_refl _) hE1; replace h4 := h4.ext (Nat.le_refl _) hE1; (try replace h5 := h5.ext (Nat.le_refl _) hE1); (try replace h7 := h7.ext (Nat.le_refl _) hE1); replace h6 := h6.mono hsz (Kept.refl _ _); replace hsz := Nat.le_trans hsz hE1.size; replace hE0 := Ext.trans hE0 hE1)
         | (go_at_call 130; (with_reducible refine (r3Mul_y b2 b4 0 _ a2 a4 n2 c2 n4 c4 _ _ x2 x4 y3 h2 h4 (by omega) (by omega) X2 X4 Y3).mono ?_); rintro e w1 ⟨a7, n7, c7, rfl, h7, hE1⟩; replace p0 := p0.ext hE1; replace p0_0 := p0.cell (i := 0) rfl; replace p0_1 := p0.cell (i := 1) rfl; replace p0_2 := p0.cell (i := 2) rfl; replace p0_3 := p0.cell (i := 3) rfl; replace p1 := p1.ext hE1; replace p1_0 := p1.cell (i := 0) rfl; replace p1_1 := p1.cell (i := 1) rfl; replace p1_2 := p1.cell (i := 2) rfl; replace p1_3 := p1.cell (i := 3) rfl; replace r := r.ext hE1; replace r_0 := r.cell (i := 0) rfl; replace r_1 := r.cell (i := 1) rfl; replace r_2 := r.cell (i := 2) rfl; replace r_3 := r.cell (i := 3) rfl; replace r_f0 := r.free 0; replace r_f1 := r.free 1; replace r_f2 := r.free 2; replace r_f3 := r.free 3; replace r_lt := r.lt; replace h1 := h1.ext (Nat.le_refl _) hE1; replace h2 := h2.ext (Nat.le_refl _) hE1; replace h3 := h3.ext (Nat.le_refl _) hE1; replace h4 := h4.ext (Nat.le_refl _) hE1; (try replace h5 := h5.ext (Nat.le_refl _) hE1); (try replace h6 := h6.ext (Nat.le_refl _) hE1); (try replace h8 := h8.ext (Nat.le_refl _) hE1); replace h7 := h7.mono hsz (Kept.refl _ _); replace hsz := Nat.le_trans hsz hE1.size; replace hE0 := Ext.trans hE0 hE1)
         | (go_at_call 129; (with_reducible refine (r3Add_y _ _ 0 _ a5 a6 n5 c5 n6 c6 _ _ y1 y2 y4 (Sl.zero h5) (Sl.zero h6) (by have := len_norm h5; omega) (by have := len_norm h6; omega) (hnorm _) (hnorm _) Y4).mono ?_); rintro e w1 ⟨a8, n8, c8, rfl, h8, hE1⟩; replace p0 := p0.ext hE1; replace p0_0 := p0.cell (i := 0) rfl; replace p0_1 := p0.cell (i := 1) rfl; replace p0_2 := p0.cell (i := 2) rfl; replace p0_3 := p0.cell (i := 3) rfl; replace p1 := p1.ext hE1; replace p1_0 := p1.cell (i := 0) rfl; replace p1_1 := p1.cell (i := 1) rfl; replace p1_2 := p1.cell (i := 2) rfl; replace p1_3 := p1.cell (i := 3) rfl; replace r := r.ext hE1; replace r_0 := r.cell (i := 0) rfl; replace r_1 := r.cell (i := 1) rfl; replace r_2 := r.cell (i := 2) rfl; replace r_3 := r.cell (i := 3) rfl; replace r_f0 := r.free 0; replace r_f1 := r.free 1; replace r_f2 := r.free 2; replace r_f3 := r.free 3; replace r_lt := r.lt; replace h1 := h1.ext (Nat.le_refl _) hE1; replace h2 := h2.ext (Nat.le_refl _) hE1; replace h3 := h3.ext (Nat.le_refl _) hE1; replace h4 := h4.ext (Nat.le_refl _) hE1; replace h5 := h5.ext (Nat.le_refl _) hE1; replace h6 := h6.ext (Nat.le_refl _) hE1; (try replace h7 := h7.ext (Nat.le_refl _) hE1); replace h8 := h8.mono hsz (Kept.refl _ _); replace hsz := Nat.le_trans hsz hE1.size; replace hE0 := Ext.trans hE0 hE1)
         | (go_at_call 90; (with_reducible refine (r5Make_z _ _ 0 _ a8 a7 n8 c8 n7 c7 _ _ y4 y3 t (Sl.zero h8) (Sl.zero h7) (by have := len_norm h8; omega) (by have := len_norm h7; omega) (hnorm _) (hnorm _) hdd HT).mono ?_); rintro e w1 ⟨a9, n9, c9, a10, n10, c10, rfl, h9, h10, hE1⟩; replace p0 := p0.ext hE1; replace p0_0 := p0.cell (i := 0) rfl; replace p0_1 := p0.cell (i := 1) rfl; replace p0_2 := p0.cell (i := 2) rfl; replace p0_3 := p0.cell (i := 3) rfl; replace p1 := p1.ext hE1; replace p1_0 := p1.cell (i := 0) rfl; replace p1_1 := p1.cell (i := 1) rfl; replace p1_2 := p1.cell (i := 2) rfl; replace p1_3 := p1.cell (i := 3) rfl; replace r := r.ext hE1; replace r_0 := r.cell (i := 0) rfl; replace r_1 := r.cell (i := 1) rfl; replace r_2 := r.cell (i := 2) rfl; replace r_3 := r.cell (i := 3) rfl; replace r_f0 := r.free 0; replace r_f1 := r.free 1; replace r_f2 := r.free 2; replace r_f3 := r.free 3; replace r_lt := r.lt; replace h1 := h1.ext (Nat.le_refl _) hE1; replace h9 := h9.mono hsz (Kept.refl _ _); replace h10 := h10.mono hsz (Kept.refl _ _); replace hsz := Nat.le_trans hsz hE1.size; replace hE0 := Ext.trans hE0 hE1))
 all_goals
  have HF := Lib.hid (RRat.box (q := t) (r := w.heap.size + 1 + 1) (v0 := .bool (decide (t.num < 0))) (v1 := .slice a9 n9 c9) (v2 := .bool false) (v3 := .slice a10 n10 c10) (by omega) (by omega) hE0 h9 h10 rfl rfl)
  clear h1 h2 h3 h4 h5 h6 h7 h8 h9 h10 hE0 hE1 hsz hdd hb1 hb2
  generalize decide (t.num < 0) = sg at *
  have r2 : Blk (((((w1).setCell ⟨w.heap.size + 1 + 1, 0, none⟩ (.bool sg)).setCell ⟨w.heap.size + 1 + 1, 1, none⟩ (.slice a9 n9 c9)).setCell ⟨w.heap.size + 1 + 1, 2, none⟩ (.bool false)).setCell ⟨w.heap.size + 1 + 1, 3, none⟩ (.slice a10 n10 c10)) _ _ #[.bool sg, .slice a9 n9 c9, .bool false, .slice a10 n10 c10] := ((((r).set 0 (.bool sg)).set 1 (.slice a9 n9 c9)).set 2 (.bool false)).set 3 (.slice a10 n10 c10)
  have hr0 := r2.cell (i := 0) rfl
  have hr1 := r2.cell (i := 1) rfl
  have hr2 := r2.cell (i := 2) rfl
  have hr3 := r2.cell (i := 3) rfl
  go_wp2_with fail
  exact bodyPost_ret (v := .agg #[.bool sg, .slice a9 n9 c9, .bool false, .slice a10 n10 c10]) (by simp [results, Tryz.results95, go_sem, hr0, hr1, hr2, hr3]) rfl HF.out
end Go.Proofs.YtbhenelehhiakaaGreat
namespace Go.Proofs.YtbhenelehhiakaaGreat
open Go.RowKit
def rFr (K : Nat) : Rd (Int × Int) where
 size := 4
 ok B w cs q := ∃ b a n c b2 a2 n2 c2, cs = [.bool b, .slice a n c, .bool b2, .slice a2 n2 c2] ∧ ∃ l l2, NatS B w a n c l ∧ NatS B w a2 n2 c2 l2 ∧ ival b l = q.1 ∧ ival b2 l2 = q.2 ∧ n ≤ K ∧ n2 ≤ K
 len h := by obtain ⟨b, a, n, c, b2, a2, n2, c2, h, _⟩ := h; rw [h]; rfl
 mono h hB hk := by
  obtain ⟨b, a, n, c, b2, a2, n2, c2, h, l, l2, h1, h2, h3⟩ := h
  exact ⟨b, a, n, c, b2, a2, n2, c2, h, l, l2, h1.mono hB hk, h2.mono hB hk, h3⟩
def frR (q : Int × Int) : Rat := ratv q.1 q.2
theorem Sl.fracs {K B : Nat} {w : World} {a : Option Addr} {n c : Nat} {qs : List (Int × Int)} (h : Sl (rFr K) B w a n c qs) (hm : ∀ q ∈ qs, q.2 ≠ 0) : Sl (rRatK K) B w a n c (qs.map frR) :=
 ⟨by rw [List.length_map]; exact h.len, h.cap, h.most, h.nil, fun i hi => by
  have hi' : i < qs.length := by simpa using hi
  obtain ⟨b, o, cs, ha, ⟨s, a1, n1, c1, s2, a2, n2, c2, rfl, l, l2, h1, h2, h3, h4, h5, h6⟩, hc⟩ := h.at_ i hi'
  refine ⟨b, o, _, ha, ⟨s, a1, n1, c1, s2, a2, n2, c2, rfl, l, l2, h1, h2, ?_, ?_, h5, h6⟩, hc⟩
  ·rw [h4]; exact hm _ (List.getElem_mem _)
  ·rw [h3, h4, List.getElem_map]; rfl⟩
set_option maxHeartbeats 2000000 in
theorem r5May_any (w : World) (b b2 : Bool) (a a2 : Option Addr) (n c n2 c2 : Nat) (l2 : Nt) (d : Int) (h2 : NatS 0 w a2 n2 c2 l2) (hd : Hid (ival b2 l2 = d)) (s : Bool) (hs : Hid (decide (d ≠ 0) = s)) :
  Calls Tryz.prog 46 #[.agg #[.bool b, .slice a n c, .bool b2, .slice a2 n2 c2]] w fun e w' => e = .returned (.bool s) ∧ Ext w w' := by
 have HV : Hid ((d.sign != 0) = s) := Lib.hid (by
  rw [← hs.out]
  by_cases h : d = 0
  ·subst h; rfl
  ·have h1 : d.sign ≠ 0 := by simpa using h
   rw [decide_eq_true h]
   simpa using h1)
 go_enter Tryz.func46, Tryz.ntmps46
 go_wp2_with fail
 have p0 := Blk.new w 75 #[.bool b, .slice a n c, .bool b2, .slice a2 n2 c2]
 have hEW : Ext w (w.alloc (Obj.cells #[.bool b, .slice a n c, .bool b2, .slice a2 n2 c2] 75)) := ((Below.refl _ w).alloc (by simp) _)
 generalize hgW : w.alloc (Obj.cells #[.bool b, .slice a n c, .bool b2, .slice a2 n2 c2] 75) = W at *
 clear hgW
 replace p0_0 := p0.cell (i := 0) rfl
 replace p0_1 := p0.cell (i := 1) rfl
 replace p0_2 := p0.cell (i := 2) rfl
 replace p0_3 := p0.cell (i := 3) rfl
 refine (r3Sign_z b2 0 W a2 n2 c2 l2 d (h2.ext (Nat.le_refl _) hEW) hd).mono ?_
 rintro e w1 ⟨rfl, hE1⟩
 have HE := Lib.hid (Ext.trans hEW hE1)
 clear h2 hEW hE1
 generalize d.sign = sg at *
 go_wp2_with fail
 go_ret
 exact ⟨by rw [← HV.out]; rfl, HE.out⟩
end Go.Proofs.YtbhenelehhiakaaGreat
namespace Go.Proofs.YtbhenelehhiakaaGreat
open Go.RowKit
def RRatOk (w : World) (q : Rat) (e : Ending) (w' : World) : Prop := ∃ a n c a2 n2 c2, e = .returned (.tuple #[.agg #[.bool (decide (q.num < 0)), .slice a n c, .bool false, .slice a2 n2 c2], .int .i64 0]) ∧ NatS w.heap.size w' a n c (limbs q.num.natAbs) ∧ NatS w.heap.size w' a2 n2 c2 (limbs q.den) ∧ Ext w w'
def RRatErr (w : World) (s : Int) (e : Ending) (w' : World) : Prop := e = .returned (.tuple #[.agg #[.bool false, .slice none 0 0, .bool false, .slice none 0 0], .int .i64 s]) ∧ Ext w w'
def gsgn (z d : Int) : Int := if d < 0 then -((Int.gcd z d : Nat) : Int) else ((Int.gcd z d : Nat) : Int)
theorem gsgn_facts (z d : Int) (hd : d ≠ 0) : gsgn z d ≠ 0 ∧ gsgn z d ∣ z ∧ gsgn z d ∣ d ∧ z / gsgn z d = (ratv z d).num ∧ d / gsgn z d = ((ratv z d).den : Int) := by
 have hg : ((Int.gcd z d : Nat) : Int) ≠ 0 := fun e => hd (Int.gcd_eq_zero_iff.1 (show Int.gcd z d = 0 by omega)).2
 have h1 : ((Int.gcd z d : Nat) : Int) ∣ z := Int.gcd_dvd_left ..
 have h2 : ((Int.gcd z d : Nat) : Int) ∣ d := Int.gcd_dvd_right ..
 unfold gsgn
 by_cases h : d < 0
 ·rw [if_pos h]
  refine ⟨by omega, Int.neg_dvd.2 h1, Int.neg_dvd.2 h2, ?_, ?_⟩
  ·rw [← ratv_neg, ratv_num (by omega), Int.gcd_neg, Int.neg_gcd, Int.ediv_neg, Int.neg_ediv_of_dvd h1]
  ·rw [← ratv_neg, ratv_den (by omega), Int.gcd_neg, Int.neg_gcd, Int.ediv_neg, Int.neg_ediv_of_dvd h2]
 ·rw [if_neg h]
  exact ⟨hg, h1, h2, (ratv_num (by omega)).symm, (ratv_den (by omega)).symm⟩
set_option maxHeartbeats 4000000 in
theorem ratMake_err (b b2 : Bool) (w : World) (a a2 : Option Addr) (n c n2 c2 : Nat) (l2 : Nt) (h2 : NatS 0 w a2 n2 c2 l2) (hn2 : n2 ≤ 17592186044416) (hz2 : Hid (ival b2 l2 = 0)) :
  Calls Tryz.prog 80 #[.agg #[.bool b, .slice a n c], .agg #[.bool b2, .slice a2 n2 c2]] w (RRatErr w 6) := by
 go_enter Tryz.func80, Tryz.ntmps80
 go_wp2_with fail
 have p0 := Blk.new w 25 #[.bool b, .slice a n c]
 have p1 := Blk.new (w.alloc (Obj.cells #[.bool b, .slice a n c] 25)) 25 #[.bool b2, .slice a2 n2 c2]
 replace p0 := p0.ext ((Below.refl _ _).alloc (Nat.le_refl _) (Obj.cells #[.bool b2, .slice a2 n2 c2] 25))
 have r0 := Blk.new ((w.alloc (Obj.cells #[.bool b, .slice a n c] 25)).alloc (Obj.cells #[.bool b2, .slice a2 n2 c2] 25)) 75 #[.bool false, .slice none 0 0, .bool false, .slice none 0 0]
 replace p0 := p0.ext ((Below.refl _ _).alloc (Nat.le_refl _) (Obj.cells #[.bool false, .slice none 0 0, .bool false, .slice none 0 0] 75))
 replace p1 := p1.ext ((Below.refl _ _).alloc (Nat.le_refl _) (Obj.cells #[.bool false, .slice none 0 0, .bool false, .slice none 0 0] 75))
 have hEW : Ext w (((w.alloc (Obj.cells #[.bool b, .slice a n c] 25)).alloc (Obj.cells #[.bool b2, .slice a2 n2 c2] 25)).alloc (Obj.cells #[.bool false, .slice none 0 0, .bool false, .slice none 0 0] 75)) := ((((Below.refl _ w).alloc (by simp) _).alloc (by simp) _).alloc (by simp; omega) _)
 generalize hgW : ((w.alloc (Obj.cells #[.bool b, .slice a n c] 25)).alloc (Obj.cells #[.bool b2, .slice a2 n2 c2] 25)).alloc (Obj.cells #[.bool false, .slice none 0 0, .bool false, .slice none 0 0] 75) = W at *
 clear hgW
 simp only [World.size_alloc] at p1 r0
 have p0_ne_p1 : ¬ w.heap.size = w.heap.size + 1 := by omega
 have p0_ne_r0 : ¬ w.heap.size = w.heap.size + 1 + 1 := by omega
 have p1_ne_p0 : ¬ w.heap.size + 1 = w.heap.size := by omega
 have p1_ne_r0 : ¬ w.heap.size + 1 = w.heap.size + 1 + 1 := by omega
 have r0_ne_p0 : ¬ w.heap.size + 1 + 1 = w.heap.size := by omega
 have r0_ne_p1 : ¬ w.heap.size + 1 + 1 = w.heap.size + 1 := by omega
 replace p0_0 := p0.cell (i := 0) rfl
 replace p0_1 := p0.cell (i := 1) rfl
 replace p1_0 := p1.cell (i := 0) rfl
 replace p1_1 := p1.cell (i := 1) rfl
 replace r0_0 := r0.cell (i := 0) rfl
 replace r0_1 := r0.cell (i := 1) rfl
 replace r0_2 := r0.cell (i := 2) rfl
 replace r0_3 := r0.cell (i := 3) rfl
 replace r0_f0 := r0.free 0
 replace r0_f1 := r0.free 1
 replace r0_f2 := r0.free 2
 replace r0_f3 := r0.free 3
 replace r0_lt := r0.lt
 refine (zintSign_z b2 0 W a2 n2 c2 l2 0 (h2.ext (Nat.le_refl _) hEW) hn2 hz2).mono ?_
 rintro e w1 ⟨rfl, hE1⟩
 rw [Int.sign_zero]
 replace r0 := r0.ext hE1; replace r0_0 := r0.cell (i := 0) rfl; replace r0_1 := r0.cell (i := 1) rfl; replace r0_2 := r0.cell (i := 2) rfl; replace r0_3 := r0.cell (i := 3) rfl; replace r0_f0 := r0.free 0; replace r0_f1 := r0.free 1; replace r0_f2 := r0.free 2; replace r0_f3 := r0.free 3; replace r0_lt := r0.lt
 have HF : Hid (RRatErr w 6 (.returned (.tuple #[.agg #[.bool false, .slice none 0 0, .bool false, .slice none 0 0], .int .i64 6])) ((((w1.setCell ⟨w.heap.size + 1 + 1, 0, none⟩ (.bool false)).setCell ⟨w.heap.size + 1 + 1, 1, none⟩ (.slice none 0 0)).setCell ⟨w.heap.size + 1 + 1, 2, none⟩ (.bool false)).setCell ⟨w.heap.size + 1 + 1, 3, none⟩ (.slice none 0 0))) := Lib.hid ⟨rfl, ext_set4 (Ext.trans hEW hE1) _ _ _ _ (by omega)⟩
 have r2 := (((r0.set 0 (.bool false)).set 1 (.slice none 0 0)).set 2 (.bool false)).set 3 (.slice none 0 0)
 have hr0 := r2.cell (i := 0) rfl
 have hr1 := r2.cell (i := 1) rfl
 have hr2 := r2.cell (i := 2) rfl
 have hr3 := r2.cell (i := 3) rfl
 clear hEW hE1 h2
 go_wp2_with fail
 exact bodyPost_ret (v := .tuple #[.agg #[.bool false, .slice none 0 0, .bool false, .slice none 0 0], .int .i64 6]) (by simp [results, Tryz.results80, go_sem, hr0, hr1, hr2, hr3]) rfl HF.out
set_option maxRecDepth 100000 in
set_option maxHeartbeats 8000000 in
theorem ratMake_neg (b b2 : Bool) (w : World) (a a2 : Option Addr) (n c n2 c2 : Nat) (l l2 : Nt) (z d : Int) (q : Rat) (h : NatS 0 w a n c l) (h2 : NatS 0 w a2 n2 c2 l2) (hn : n ≤ 8796093022208) (hn2 : n2 ≤ 8796093022208) (hz : Hid (ival b l = z)) (hz2 : Hid (ival b2 l2 = d)) (hd : d < 0) (hq : Hid (ratv z d = q)) :
  Calls Tryz.prog 80 #[.agg #[.bool b, .slice a n c], .agg #[.bool b2, .slice a2 n2 c2]] w (RRatOk w q) := by
 have hd0 : d ≠ 0 := by omega
 obtain ⟨hG0, hGz, hGd, hzq, hdq⟩ := gsgn_facts z d hd0
 rw [hq.out] at hzq hdq
 have hGe : gsgn z d = -((Int.gcd z d : Nat) : Int) := by unfold gsgn; rw [if_pos hd]
 obtain ⟨G, hGG⟩ : ∃ G, gsgn z d = G := ⟨_, rfl⟩
 rw [hGG] at hG0 hGz hGd hzq hdq hGe
 obtain ⟨gg, hgg⟩ : ∃ g, Int.gcd z d = g := ⟨_, rfl⟩
 rw [hgg] at hGe
 have HGG := Lib.hid hgg
 have HGE := Lib.hid hGe
 have hnz : nl z.natAbs ≤ n := nl_of h hz
 have hnd : nl d.natAbs ≤ n2 := nl_of h2 hz2
 have hggn : nl gg ≤ 8796093022208 := by
  have h1 : gg ≤ d.natAbs := by rw [← hgg]; exact Nat.le_of_dvd (Int.natAbs_pos.2 hd0) (Int.gcd_dvd_natAbs_right z d)
  exact Nat.le_trans (nl_mono h1) (by omega)
 have hs0 : (d.sign == 0) = false := by simpa using hd0
 have hs1 : decide (d.sign < 0) = true := by rw [Int.sign_eq_neg_one_of_neg hd]; rfl
 have HZQ := Lib.hid hzq
 have HDQ := Lib.hid hdq
 have HGZ := Lib.hid hGz
 have HGD := Lib.hid hGd
 clear hGG hgg hGe hzq hdq hGz hGd hd
 go_enter Tryz.func80, Tryz.ntmps80
 go_wp2_with fail
 have p0 := Blk.new w 25 #[.bool b, .slice a n c]
 have p1 := Blk.new (w.alloc (Obj.cells #[.bool b, .slice a n c] 25)) 25 #[.bool b2, .slice a2 n2 c2]
 replace p0 := p0.ext ((Below.refl _ _).alloc (Nat.le_refl _) (Obj.cells #[.bool b2, .slice a2 n2 c2] 25))
 have r0 := Blk.new ((w.alloc (Obj.cells #[.bool b, .slice a n c] 25)).alloc (Obj.cells #[.bool b2, .slice a2 n2 c2] 25)) 75 #[.bool false, .slice none 0 0, .bool false, .slice none 0 0]
 replace p0 := p0.ext ((Below.refl _ _).alloc (Nat.le_refl _) (Obj.cells #[.bool false, .slice none 0 0, .bool false, .slice none 0 0] 75))
 replace p1 := p1.ext ((Below.refl _ _).alloc (Nat.le_refl _) (Obj.cells #[.bool false, .slice none 0 0, .bool false, .slice none 0 0] 75))
 have hEW : Ext w (((w.alloc (Obj.cells #[.bool b, .slice a n c] 25)).alloc (Obj.cells #[.bool b2, .slice a2 n2 c2] 25)).alloc (Obj.cells #[.bool false, .slice none 0 0, .bool false, .slice none 0 0] 75)) := ((((Below.refl _ w).alloc (by simp) _).alloc (by simp) _).alloc (by simp; omega) _)
 generalize hgW : ((w.alloc (Obj.cells #[.bool b, .slice a n c] 25)).alloc (Obj.cells #[.bool b2, .slice a2 n2 c2] 25)).alloc (Obj.cells #[.bool false, .slice none 0 0, .bool false, .slice none 0 0] 75) = W at *
 clear hgW
 simp only [World.size_alloc] at p1 r0
 have p0_ne_p1 : ¬ w.heap.size = w.heap.size + 1 := by omega
 have p0_ne_r0 : ¬ w.heap.size = w.heap.size + 1 + 1 := by omega
 have p1_ne_p0 : ¬ w.heap.size + 1 = w.heap.size := by omega
 have p1_ne_r0 : ¬ w.heap.size + 1 = w.heap.size + 1 + 1 := by omega
 have r0_ne_p0 : ¬ w.heap.size + 1 + 1 = w.heap.size := by omega
 have r0_ne_p1 : ¬ w.heap.size + 1 + 1 = w.heap.size + 1 := by omega
 replace p0_0 := p0.cell (i := 0) rfl
 replace p0_1 := p0.cell (i := 1) rfl
 replace p0_f0 := p0.free 0
 replace p0_f1 := p0.free 1
 replace p0_lt := p0.lt
 replace p1_0 := p1.cell (i := 0) rfl
 replace p1_1 := p1.cell (i := 1) rfl
 replace p1_f0 := p1.free 0
 replace p1_f1 := p1.free 1
 replace p1_lt := p1.lt
 replace r0_0 := r0.cell (i := 0) rfl
 replace r0_1 := r0.cell (i := 1) rfl
 replace r0_2 := r0.cell (i := 2) rfl
 replace r0_3 := r0.cell (i := 3) rfl
 replace r0_f0 := r0.free 0
 replace r0_f1 := r0.free 1
 replace r0_f2 := r0.free 2
 replace r0_f3 := r0.free 3
 replace r0_lt := r0.lt
 have hWs : w.heap.size + 1 + 1 < W.heap.size := r0_lt
 refine (zintSign_z b2 0 W a2 n2 c2 l2 d (h2.ext (Nat.le_refl _) hEW) (by omega) hz2).mono ?_
 rintro e w1 ⟨rfl, hE1⟩
 replace p0 := p0.ext hE1; replace p0_0 := p0.cell (i := 0) rfl; replace p0_1 := p0.cell (i := 1) rfl; replace p0_f0 := p0.free 0; replace p0_f1 := p0.free 1; replace p0_lt := p0.lt; replace p1 := p1.ext hE1; replace p1_0 := p1.cell (i := 0) rfl; replace p1_1 := p1.cell (i := 1) rfl; replace p1_f0 := p1.free 0; replace p1_f1 := p1.free 1; replace p1_lt := p1.lt; replace r0 := r0.ext hE1; replace r0_0 := r0.cell (i := 0) rfl; replace r0_1 := r0.cell (i := 1) rfl; replace r0_2 := r0.cell (i := 2) rfl; replace r0_3 := r0.cell (i := 3) rfl; replace r0_f0 := r0.free 0; replace r0_f1 := r0.free 1; replace r0_f2 := r0.free 2; replace r0_f3 := r0.free 3; replace r0_lt := r0.lt
 have hE0 := Ext.trans hEW hE1
 have hsz1 := hE1.size
 clear hEW hE1
 obtain ⟨sg, hsg⟩ : ∃ s, d.sign = s := ⟨_, rfl⟩
 rw [hsg] at hs0 hs1 ⊢
 have HSGN := Lib.hid hsg
 clear hsg
 go_wp2_with fail
 have y := Blk.new w1 25 #[.bool b, .slice a n c, .bool b2, .slice a2 n2 c2]
 have hEW2 : Ext w1 (w1.alloc (Obj.cells #[.bool b, .slice a n c, .bool b2, .slice a2 n2 c2] 25)) := ((Below.refl _ w1).alloc (by simp) _)
 generalize hgW2 : w1.alloc (Obj.cells #[.bool b, .slice a n c, .bool b2, .slice a2 n2 c2] 25) = W2 at *
 clear hgW2
 replace y_0 := y.cell (i := 0) rfl
 replace y_1 := y.cell (i := 1) rfl
 replace y_2 := y.cell (i := 2) rfl
 replace y_3 := y.cell (i := 3) rfl
 replace p0 := p0.ext hEW2; replace p0_0 := p0.cell (i := 0) rfl; replace p0_1 := p0.cell (i := 1) rfl; replace p0_f0 := p0.free 0; replace p0_f1 := p0.free 1; replace p0_lt := p0.lt; replace p1 := p1.ext hEW2; replace p1_0 := p1.cell (i := 0) rfl; replace p1_1 := p1.cell (i := 1) rfl; replace p1_f0 := p1.free 0; replace p1_f1 := p1.free 1; replace p1_lt := p1.lt; replace r0 := r0.ext hEW2; replace r0_0 := r0.cell (i := 0) rfl; replace r0_1 := r0.cell (i := 1) rfl; replace r0_2 := r0.cell (i := 2) rfl; replace r0_3 := r0.cell (i := 3) rfl; replace r0_f0 := r0.free 0; replace r0_f1 := r0.free 1; replace r0_f2 := r0.free 2; replace r0_f3 := r0.free 3; replace r0_lt := r0.lt
 replace hE0 := Ext.trans hE0 hEW2
 have hsz2 := hEW2.size
 refine (zintGcd_any 0 W2 _ 2 2 (b, l) (b2, l2) (ints2 y (Nat.zero_le _) (h.ext (Nat.le_refl _) hE0) (h2.ext (Nat.le_refl _) hE0)) (by rw [h.len]; exact hn) (by rw [h2.len]; exact hn2) z d hz hz2).mono ?_
 rintro e w3 ⟨a3, n3, c3, rfl, h3, hE3⟩
 rw [HGG.out] at h3 ⊢
 rw [show decide (((gg : Nat) : Int) < 0) = false by simp]
 rw [Int.natAbs_natCast] at h3
 replace p0 := p0.ext hE3; replace p0_0 := p0.cell (i := 0) rfl; replace p0_1 := p0.cell (i := 1) rfl; replace p0_f0 := p0.free 0; replace p0_f1 := p0.free 1; replace p0_lt := p0.lt; replace p1 := p1.ext hE3; replace p1_0 := p1.cell (i := 0) rfl; replace p1_1 := p1.cell (i := 1) rfl; replace p1_f0 := p1.free 0; replace p1_f1 := p1.free 1; replace p1_lt := p1.lt; replace r0 := r0.ext hE3; replace r0_0 := r0.cell (i := 0) rfl; replace r0_1 := r0.cell (i := 1) rfl; replace r0_2 := r0.cell (i := 2) rfl; replace r0_3 := r0.cell (i := 3) rfl; replace r0_f0 := r0.free 0; replace r0_f1 := r0.free 1; replace r0_f2 := r0.free 2; replace r0_f3 := r0.free 3; replace r0_lt := r0.lt
 replace hE0 := Ext.trans hE0 hE3
 have hsz3 := hE3.size
 clear hEW2 hE3 y y_0 y_1 y_2 y_3
 go_wp2_with fail
 have g := Blk.new w3 25 #[.bool false, .slice a3 n3 c3]
 have hEW4 : Ext w3 (w3.alloc (Obj.cells #[.bool false, .slice a3 n3 c3] 25)) := ((Below.refl _ w3).alloc (by simp) _)
 generalize hgW4 : w3.alloc (Obj.cells #[.bool false, .slice a3 n3 c3] 25) = W4 at *
 clear hgW4
 replace g_0 := g.cell (i := 0) rfl
 replace g_1 := g.cell (i := 1) rfl
 replace g_f0 := g.free 0
 replace g_f1 := g.free 1
 replace g_lt := g.lt
 replace p0 := p0.ext hEW4; replace p0_0 := p0.cell (i := 0) rfl; replace p0_1 := p0.cell (i := 1) rfl; replace p0_f0 := p0.free 0; replace p0_f1 := p0.free 1; replace p0_lt := p0.lt; replace p1 := p1.ext hEW4; replace p1_0 := p1.cell (i := 0) rfl; replace p1_1 := p1.cell (i := 1) rfl; replace p1_f0 := p1.free 0; replace p1_f1 := p1.free 1; replace p1_lt := p1.lt; replace r0 := r0.ext hEW4; replace r0_0 := r0.cell (i := 0) rfl; replace r0_1 := r0.cell (i := 1) rfl; replace r0_2 := r0.cell (i := 2) rfl; replace r0_3 := r0.cell (i := 3) rfl; replace r0_f0 := r0.free 0; replace r0_f1 := r0.free 1; replace r0_f2 := r0.free 2; replace r0_f3 := r0.free 3; replace r0_lt := r0.lt
 replace hE0 := Ext.trans hE0 hEW4
 have hsz4 := hEW4.size
 have h3 := h3.ext (Nat.zero_le _) hEW4
 have hn3 : n3 ≤ 8796093022208 := by have := h3.len; rw [length_limbs] at this; omega
 refine (zintSign_z b2 0 W4 a2 n2 c2 l2 d (h2.ext (Nat.le_refl _) hE0) (by omega) hz2).mono ?_
 rintro e w5 ⟨rfl, hE5⟩
 replace p0 := p0.ext hE5; replace p0_0 := p0.cell (i := 0) rfl; replace p0_1 := p0.cell (i := 1) rfl; replace p0_f0 := p0.free 0; replace p0_f1 := p0.free 1; replace p0_lt := p0.lt; replace p1 := p1.ext hE5; replace p1_0 := p1.cell (i := 0) rfl; replace p1_1 := p1.cell (i := 1) rfl; replace p1_f0 := p1.free 0; replace p1_f1 := p1.free 1; replace p1_lt := p1.lt; replace r0 := r0.ext hE5; replace r0_0 := r0.cell (i := 0) rfl; replace r0_1 := r0.cell (i := 1) rfl; replace r0_2 := r0.cell (i := 2) rfl; replace r0_3 := r0.cell (i := 3) rfl; replace r0_f0 := r0.free 0; replace r0_f1 := r0.free 1; replace r0_f2 := r0.free 2; replace r0_f3 := r0.free 3; replace r0_lt := r0.lt; replace g := g.ext hE5; replace g_0 := g.cell (i := 0) rfl; replace g_1 := g.cell (i := 1) rfl; replace g_f0 := g.free 0; replace g_f1 := g.free 1; replace g_lt := g.lt
 replace hE0 := Ext.trans hE0 hE5
 have hsz5 := hE5.size
 have h3 := h3.ext (Nat.zero_le _) hE5
 clear hEW4 hE5
 rw [HSGN.out]
 go_wp2_with fail
 refine (zintNeg_z false 0 w5 a3 n3 c3 (limbs gg) (gg : Int) h3 (by omega) (Lib.hid (by rw [ival_limbs]; simp))).mono ?_
 rintro e w6 ⟨aG, nG, cG, rfl, h6, hE6⟩
 rw [← HGE.out] at h6 ⊢
 replace p0 := p0.ext hE6; replace p0_0 := p0.cell (i := 0) rfl; replace p0_1 := p0.cell (i := 1) rfl; replace p0_f0 := p0.free 0; replace p0_f1 := p0.free 1; replace p0_lt := p0.lt; replace p1 := p1.ext hE6; replace p1_0 := p1.cell (i := 0) rfl; replace p1_1 := p1.cell (i := 1) rfl; replace p1_f0 := p1.free 0; replace p1_f1 := p1.free 1; replace p1_lt := p1.lt; replace r0 := r0.ext hE6; replace r0_0 := r0.cell (i := 0) rfl; replace r0_1 := r0.cell (i := 1) rfl; replace r0_2 := r0.cell (i := 2) rfl; replace r0_3 := r0.cell (i := 3) rfl; replace r0_f0 := r0.free 0; replace r0_f1 := r0.free 1; replace r0_f2 := r0.free 2; replace r0_f3 := r0.free 3; replace r0_lt := r0.lt; replace g := g.ext hE6; replace g_0 := g.cell (i := 0) rfl; replace g_1 := g.cell (i := 1) rfl; replace g_f0 := g.free 0; replace g_f1 := g.free 1; replace g_lt := g.lt
 replace hE0 := Ext.trans hE0 hE6
 have hsz6 := hE6.size
 have h9 : G.natAbs = gg := by rw [HGE.out, Int.natAbs_neg, Int.natAbs_natCast]
 have hnG : nG ≤ 8796093022208 := by have := h6.len; rw [length_limbs, h9] at this; omega
 clear h9
 clear hE6 h3
 generalize hsG : decide (G < 0) = sG at *
 have HSG : Hid (ival sG (limbs G.natAbs) = G) := Lib.hid (by rw [← hsG]; exact ival_norm _)
 clear hsG
 go_wp2_with fail
 have hGN := NatS.set (NatS.set h6 g_0 (fun x => by simp) (.bool sG)) ((g.set 0 (.bool sG)).cell (i := 1) rfl) (fun x => by simp) (.slice aG nG cG)
 replace g := g.set 0 (.bool sG)
 replace p0 := p0.set_ne 0 (.bool sG) (show w.heap.size ≠ w3.heap.size by omega)
 replace p1 := p1.set_ne 0 (.bool sG) (show w.heap.size + 1 ≠ w3.heap.size by omega)
 replace r0 := r0.set_ne 0 (.bool sG) (show w.heap.size + 1 + 1 ≠ w3.heap.size by omega)
 replace g := g.set 1 (.slice aG nG cG)
 replace p0 := p0.set_ne 1 (.slice aG nG cG) (show w.heap.size ≠ w3.heap.size by omega)
 replace p1 := p1.set_ne 1 (.slice aG nG cG) (show w.heap.size + 1 ≠ w3.heap.size by omega)
 replace r0 := r0.set_ne 1 (.slice aG nG cG) (show w.heap.size + 1 + 1 ≠ w3.heap.size by omega)
 have hKV : ∀ bB_ : Nat, w3.heap.size < bB_ → Kept bB_ w6 (((w6).setCell ⟨w3.heap.size, 0, none⟩ (.bool sG)).setCell ⟨w3.heap.size, 1, none⟩ (.slice aG nG cG)) := fun bB_ h0 => (Kept.trans (kept_set _ _ _ h0) (kept_set _ _ _ h0))
 have hzV : w6.heap.size ≤ (((w6).setCell ⟨w3.heap.size, 0, none⟩ (.bool sG)).setCell ⟨w3.heap.size, 1, none⟩ (.slice aG nG cG)).heap.size := by simp only [World.setCell, Array.size_modify]; exact Nat.le_refl _
 have hSV : ∀ (nB_ : Nat) (uB_ : World), nB_ ≤ w3.heap.size → Below nB_ uB_ w6 → Below nB_ uB_ (((w6).setCell ⟨w3.heap.size, 0, none⟩ (.bool sG)).setCell ⟨w3.heap.size, 1, none⟩ (.slice aG nG cG)) := fun nB_ uB_ h0 hb => (Below.setCell (Below.setCell hb (p := ⟨w3.heap.size, 0, none⟩) h0 (.bool sG)) (p := ⟨w3.heap.size, 1, none⟩) h0 (.slice aG nG cG))
 replace g : Blk (((w6).setCell ⟨w3.heap.size, 0, none⟩ (.bool sG)).setCell ⟨w3.heap.size, 1, none⟩ (.slice aG nG cG)) (w3.heap.size) 25 #[.bool sG, .slice aG nG cG] := g
 generalize hgV : ((w6).setCell ⟨w3.heap.size, 0, none⟩ (.bool sG)).setCell ⟨w3.heap.size, 1, none⟩ (.slice aG nG cG) = V at *
 clear hgV
 replace g_0 := g.cell (i := 0) rfl
 replace g_1 := g.cell (i := 1) rfl
 replace g_f0 := g.free 0
 replace g_f1 := g.free 1
 replace g_lt := g.lt
 replace p0_0 := p0.cell (i := 0) rfl
 replace p0_1 := p0.cell (i := 1) rfl
 replace p0_f0 := p0.free 0
 replace p0_f1 := p0.free 1
 replace p0_lt := p0.lt
 replace p1_0 := p1.cell (i := 0) rfl
 replace p1_1 := p1.cell (i := 1) rfl
 replace p1_f0 := p1.free 0
 replace p1_f1 := p1.free 1
 replace p1_lt := p1.lt
 replace r0_0 := r0.cell (i := 0) rfl
 replace r0_1 := r0.cell (i := 1) rfl
 replace r0_2 := r0.cell (i := 2) rfl
 replace r0_3 := r0.cell (i := 3) rfl
 replace r0_f0 := r0.free 0
 replace r0_f1 := r0.free 1
 replace r0_f2 := r0.free 2
 replace r0_f3 := r0.free 3
 replace r0_lt := r0.lt
 have hr9 : w.heap.size + 1 + 1 < V.heap.size := r0_lt
 have hEV : Ext w V := hSV _ _ (by omega) hE0
 have hG : NatS 0 V aG nG cG (limbs G.natAbs) := hGN.mono (Nat.zero_le _) (Kept.refl _ _)
 have hh := h.ext (Nat.le_refl _) hEV
 have hh2 := h2.ext (Nat.le_refl _) hEV
 clear h6 hE0
 refine (zintExact_z b sG 0 V a aG n c nG cG l _ z G hh hG hn hz HSG hG0 HGZ.out).mono ?_
 rintro e w8 ⟨v8, rfl, ⟨a8, n8, c8, rfl, h8⟩, hE8⟩
 rw [HZQ.out] at h8 ⊢
 replace p0 := p0.ext hE8; replace p0_0 := p0.cell (i := 0) rfl; replace p0_1 := p0.cell (i := 1) rfl; replace p0_f0 := p0.free 0; replace p0_f1 := p0.free 1; replace p0_lt := p0.lt; replace p1 := p1.ext hE8; replace p1_0 := p1.cell (i := 0) rfl; replace p1_1 := p1.cell (i := 1) rfl; replace p1_f0 := p1.free 0; replace p1_f1 := p1.free 1; replace p1_lt := p1.lt; replace r0 := r0.ext hE8; replace r0_0 := r0.cell (i := 0) rfl; replace r0_1 := r0.cell (i := 1) rfl; replace r0_2 := r0.cell (i := 2) rfl; replace r0_3 := r0.cell (i := 3) rfl; replace r0_f0 := r0.free 0; replace r0_f1 := r0.free 1; replace r0_f2 := r0.free 2; replace r0_f3 := r0.free 3; replace r0_lt := r0.lt; replace g := g.ext hE8; replace g_0 := g.cell (i := 0) rfl; replace g_1 := g.cell (i := 1) rfl; replace g_f0 := g.free 0; replace g_f1 := g.free 1; replace g_lt := g.lt
 have hEx := Ext.trans hEV hE8
 have hh2 := hh2.ext (Nat.le_refl _) hE8
 have hG := hG.ext (Nat.le_refl _) hE8
 have hszV := hEV.size
 have hsz8 := hE8.size
 clear hE8 hEV
 go_wp2_with fail
 have k := Blk.new w8 25 #[.bool (decide (q.num < 0)), .slice a8 n8 c8]
 have hEW9 : Ext w8 (w8.alloc (Obj.cells #[.bool (decide (q.num < 0)), .slice a8 n8 c8] 25)) := ((Below.refl _ w8).alloc (by simp) _)
 generalize hgW9 : w8.alloc (Obj.cells #[.bool (decide (q.num < 0)), .slice a8 n8 c8] 25) = W9 at *
 clear hgW9
 replace k_0 := k.cell (i := 0) rfl
 replace k_1 := k.cell (i := 1) rfl
 replace k_f0 := k.free 0
 replace k_f1 := k.free 1
 replace k_lt := k.lt
 replace p0 := p0.ext hEW9; replace p0_0 := p0.cell (i := 0) rfl; replace p0_1 := p0.cell (i := 1) rfl; replace p0_f0 := p0.free 0; replace p0_f1 := p0.free 1; replace p0_lt := p0.lt; replace p1 := p1.ext hEW9; replace p1_0 := p1.cell (i := 0) rfl; replace p1_1 := p1.cell (i := 1) rfl; replace p1_f0 := p1.free 0; replace p1_f1 := p1.free 1; replace p1_lt := p1.lt; replace r0 := r0.ext hEW9; replace r0_0 := r0.cell (i := 0) rfl; replace r0_1 := r0.cell (i := 1) rfl; replace r0_2 := r0.cell (i := 2) rfl; replace r0_3 := r0.cell (i := 3) rfl; replace r0_f0 := r0.free 0; replace r0_f1 := r0.free 1; replace r0_f2 := r0.free 2; replace r0_f3 := r0.free 3; replace r0_lt := r0.lt; replace g := g.ext hEW9; replace g_0 := g.cell (i := 0) rfl; replace g_1 := g.cell (i := 1) rfl; replace g_f0 := g.free 0; replace g_f1 := g.free 1; replace g_lt := g.lt
 refine (zintExact_z b2 sG 0 W9 a2 aG n2 c2 nG cG l2 _ d G (hh2.ext (Nat.le_refl _) hEW9) (hG.ext (Nat.le_refl _) hEW9) hn2 hz2 HSG hG0 HGD.out).mono ?_
 rintro e w10 ⟨v10, rfl, ⟨a10, n10, c10, rfl, h10⟩, hE10⟩
 rw [HDQ.out] at h10 ⊢
 rw [show decide (((q.den : Nat) : Int) < 0) = false by simp]
 rw [Int.natAbs_natCast] at h10
 replace r0 := r0.ext hE10; replace r0_0 := r0.cell (i := 0) rfl; replace r0_1 := r0.cell (i := 1) rfl; replace r0_2 := r0.cell (i := 2) rfl; replace r0_3 := r0.cell (i := 3) rfl; replace r0_f0 := r0.free 0; replace r0_f1 := r0.free 1; replace r0_f2 := r0.free 2; replace r0_f3 := r0.free 3; replace r0_lt := r0.lt; replace k := k.ext hE10; replace k_0 := k.cell (i := 0) rfl; replace k_1 := k.cell (i := 1) rfl; replace k_f0 := k.free 0; replace k_f1 := k.free 1; replace k_lt := k.lt
 have hszW9 := hEW9.size
 have hs10 := hE10.size
 have r4 := (((r0.set 0 (.bool (decide (q.num < 0)))).set 1 (.slice a8 n8 c8)).set 2 (.bool false)).set 3 (.slice a10 n10 c10)
 have h8f := (h8.ext (Nat.le_refl _) (Ext.trans hEW9 hE10)).mono (Nat.le_refl _) (kept_set4 w10 (.bool (decide (q.num < 0))) (.slice a8 n8 c8) (.bool false) (.slice a10 n10 c10) hr9)
 have h10f := (h10.mono (Nat.le_refl _) (kept_set4 w10 (.bool (decide (q.num < 0))) (.slice a8 n8 c8) (.bool false) (.slice a10 n10 c10) (show w.heap.size + 1 + 1 < W9.heap.size by omega)))
 have hE4 := ext_set4 (Ext.trans hEx (Ext.trans hEW9 hE10)) (.bool (decide (q.num < 0))) (.slice a8 n8 c8) (.bool false) (.slice a10 n10 c10) (show w.heap.size ≤ w.heap.size + 1 + 1 by omega)
 have hEa : Ext ((((w10.setCell ⟨w.heap.size + 1 + 1, 0, none⟩ (.bool (decide (q.num < 0)))).setCell ⟨w.heap.size + 1 + 1, 1, none⟩ (.slice a8 n8 c8)).setCell ⟨w.heap.size + 1 + 1, 2, none⟩ (.bool false)).setCell ⟨w.heap.size + 1 + 1, 3, none⟩ (.slice a10 n10 c10)) (((((w10.setCell ⟨w.heap.size + 1 + 1, 0, none⟩ (.bool (decide (q.num < 0)))).setCell ⟨w.heap.size + 1 + 1, 1, none⟩ (.slice a8 n8 c8)).setCell ⟨w.heap.size + 1 + 1, 2, none⟩ (.bool false)).setCell ⟨w.heap.size + 1 + 1, 3, none⟩ (.slice a10 n10 c10)).alloc (Obj.cells #[.bool false, .slice a10 n10 c10] 25)) := (Below.refl _ _).alloc (Nat.le_refl _) _
 have HF : Hid (RRatOk w q (.returned (.tuple #[.agg #[.bool (decide (q.num < 0)), .slice a8 n8 c8, .bool false, .slice a10 n10 c10], .int .i64 0])) (((((w10.setCell ⟨w.heap.size + 1 + 1, 0, none⟩ (.bool (decide (q.num < 0)))).setCell ⟨w.heap.size + 1 + 1, 1, none⟩ (.slice a8 n8 c8)).setCell ⟨w.heap.size + 1 + 1, 2, none⟩ (.bool false)).setCell ⟨w.heap.size + 1 + 1, 3, none⟩ (.slice a10 n10 c10)).alloc (Obj.cells #[.bool false, .slice a10 n10 c10] 25))) :=
  Lib.hid ⟨a8, n8, c8, a10, n10, c10, rfl, (h8f.mono (show w.heap.size ≤ V.heap.size by omega) (Kept.refl _ _)).ext (Nat.le_refl _) hEa, (h10f.mono (show w.heap.size ≤ W9.heap.size by omega) (Kept.refl _ _)).ext (Nat.le_refl _) hEa, Ext.trans hE4 hEa⟩
 have r2 := r4.ext hEa
 have hr0 := r2.cell (i := 0) rfl
 have hr1 := r2.cell (i := 1) rfl
 have hr2 := r2.cell (i := 2) rfl
 have hr3 := r2.cell (i := 3) rfl
 have hqa := cell_alloc k_0 (Obj.cells #[.bool false, .slice a10 n10 c10] 25)
 have hqb := cell_alloc k_1 (Obj.cells #[.bool false, .slice a10 n10 c10] 25)
 generalize decide (q.num < 0) = sq at *
 clear hEx hE4 hEa h8 h10 h8f h10f hE10 hEW9 r2 r4 hh hh2 hG h h2
 go_wp2_with fail
 exact bodyPost_ret (v := .tuple #[.agg #[.bool sq, .slice a8 n8 c8, .bool false, .slice a10 n10 c10], .int .i64 0]) (by simp [results, Tryz.results80, go_sem, hr0, hr1, hr2, hr3]) rfl HF.out
set_option maxRecDepth 100000 in
set_option maxHeartbeats 8000000 in
theorem ratMake_pos (b b2 : Bool) (w : World) (a a2 : Option Addr) (n c n2 c2 : Nat) (l l2 : Nt) (z d : Int) (q : Rat) (h : NatS 0 w a n c l) (h2 : NatS 0 w a2 n2 c2 l2) (hn : n ≤ 8796093022208) (hn2 : n2 ≤ 8796093022208) (hz : Hid (ival b l = z)) (hz2 : Hid (ival b2 l2 = d)) (hd : 0 < d) (hq : Hid (ratv z d = q)) :
  Calls Tryz.prog 80 #[.agg #[.bool b, .slice a n c], .agg #[.bool b2, .slice a2 n2 c2]] w (RRatOk w q) := by
 have hd0 : d ≠ 0 := by omega
 obtain ⟨hG0, hGz, hGd, hzq, hdq⟩ := gsgn_facts z d hd0
 rw [hq.out] at hzq hdq
 have hGe : gsgn z d = ((Int.gcd z d : Nat) : Int) := by unfold gsgn; rw [if_neg (by omega)]
 obtain ⟨G, hGG⟩ : ∃ G, gsgn z d = G := ⟨_, rfl⟩
 rw [hGG] at hG0 hGz hGd hzq hdq hGe
 obtain ⟨gg, hgg⟩ : ∃ g, Int.gcd z d = g := ⟨_, rfl⟩
 rw [hgg] at hGe
 have HGG := Lib.hid hgg
 have HGE := Lib.hid hGe
 have hnz : nl z.natAbs ≤ n := nl_of h hz
 have hnd : nl d.natAbs ≤ n2 := nl_of h2 hz2
 have hggn : nl gg ≤ 8796093022208 := by
  have h1 : gg ≤ d.natAbs := by rw [← hgg]; exact Nat.le_of_dvd (Int.natAbs_pos.2 hd0) (Int.gcd_dvd_natAbs_right z d)
  exact Nat.le_trans (nl_mono h1) (by omega)
 have hs0 : (d.sign == 0) = false := by simpa using hd0
 have hs1 : decide (d.sign < 0) = false := by rw [Int.sign_eq_one_of_pos hd]; rfl
 have HZQ := Lib.hid hzq
 have HDQ := Lib.hid hdq
 have HGZ := Lib.hid hGz
 have HGD := Lib.hid hGd
 clear hGG hgg hGe hzq hdq hGz hGd hd
 go_enter Tryz.func80, Tryz.ntmps80
 go_wp2_with fail
 have p0 := Blk.new w 25 #[.bool b, .slice a n c]
 have p1 := Blk.new (w.alloc (Obj.cells #[.bool b, .slice a n c] 25)) 25 #[.bool b2, .slice a2 n2 c2]
 replace p0 := p0.ext ((Below.refl _ _).alloc (Nat.le_refl _) (Obj.cells #[.bool b2, .slice a2 n2 c2] 25))
 have r0 := Blk.new ((w.alloc (Obj.cells #[.bool b, .slice a n c] 25)).alloc (Obj.cells #[.bool b2, .slice a2 n2 c2] 25)) 75 #[.bool false, .slice none 0 0, .bool false, .slice none 0 0]
 replace p0 := p0.ext ((Below.refl _ _).alloc (Nat.le_refl _) (Obj.cells #[.bool false, .slice none 0 0, .bool false, .slice none 0 0] 75))
 replace p1 := p1.ext ((Below.refl _ _).alloc (Nat.le_refl _) (Obj.cells #[.bool false, .slice none 0 0, .bool false, .slice none 0 0] 75))
 have hEW : Ext w (((w.alloc (Obj.cells #[.bool b, .slice a n c] 25)).alloc (Obj.cells #[.bool b2, .slice a2 n2 c2] 25)).alloc (Obj.cells #[.bool false, .slice none 0 0, .bool false, .slice none 0 0] 75)) := ((((Below.refl _ w).alloc (by simp) _).alloc (by simp) _).alloc (by simp; omega) _)
 generalize hgW : ((w.alloc (Obj.cells #[.bool b, .slice a n c] 25)).alloc (Obj.cells #[.bool b2, .slice a2 n2 c2] 25)).alloc (Obj.cells #[.bool false, .slice none 0 0, .bool false, .slice none 0 0] 75) = W at *
 clear hgW
 simp only [World.size_alloc] at p1 r0
 have p0_ne_p1 : ¬ w.heap.size = w.heap.size + 1 := by omega
 have p0_ne_r0 : ¬ w.heap.size = w.heap.size + 1 + 1 := by omega
 have p1_ne_p0 : ¬ w.heap.size + 1 = w.heap.size := by omega
 have p1_ne_r0 : ¬ w.heap.size + 1 = w.heap.size + 1 + 1 := by omega
 have r0_ne_p0 : ¬ w.heap.size + 1 + 1 = w.heap.size := by omega
 have r0_ne_p1 : ¬ w.heap.size + 1 + 1 = w.heap.size + 1 := by omega
 replace p0_0 := p0.cell (i := 0) rfl
 replace p0_1 := p0.cell (i := 1) rfl
 replace p0_f0 := p0.free 0
 replace p0_f1 := p0.free 1
 replace p0_lt := p0.lt
 replace p1_0 := p1.cell (i := 0) rfl
 replace p1_1 := p1.cell (i := 1) rfl
 replace p1_f0 := p1.free 0
 replace p1_f1 := p1.free 1
 replace p1_lt := p1.lt
 replace r0_0 := r0.cell (i := 0) rfl
 replace r0_1 := r0.cell (i := 1) rfl
 replace r0_2 := r0.cell (i := 2) rfl
 replace r0_3 := r0.cell (i := 3) rfl
 replace r0_f0 := r0.free 0
 replace r0_f1 := r0.free 1
 replace r0_f2 := r0.free 2
 replace r0_f3 := r0.free 3
 replace r0_lt := r0.lt
 have hWs : w.heap.size + 1 + 1 < W.heap.size := r0_lt
 refine (zintSign_z b2 0 W a2 n2 c2 l2 d (h2.ext (Nat.le_refl _) hEW) (by omega) hz2).mono ?_
 rintro e w1 ⟨rfl, hE1⟩
 replace p0 := p0.ext hE1; replace p0_0 := p0.cell (i := 0) rfl; replace p0_1 := p0.cell (i := 1) rfl; replace p0_f0 := p0.free 0; replace p0_f1 := p0.free 1; replace p0_lt := p0.lt; replace p1 := p1.ext hE1; replace p1_0 := p1.cell (i := 0) rfl; replace p1_1 := p1.cell (i := 1) rfl; replace p1_f0 := p1.free 0; replace p1_f1 := p1.free 1; replace p1_lt := p1.lt; replace r0 := r0.ext hE1; replace r0_0 := r0.cell (i := 0) rfl; replace r0_1 := r0.cell (i := 1) rfl; replace r0_2 := r0.cell (i := 2) rfl; replace r0_3 := r0.cell (i := 3) rfl; replace r0_f0 := r0.free 0; replace r0_f1 := r0.free 1; replace r0_f2 := r0.free 2; replace r0_f3 := r0.free 3; replace r0_lt := r0.lt
 have hE0 := Ext.trans hEW hE1
 have hsz1 := hE1.size
 clear hEW hE1
 obtain ⟨sg, hsg⟩ : ∃ s, d.sign = s := ⟨_, rfl⟩
 rw [hsg] at hs0 hs1 ⊢
 have HSGN := Lib.hid hsg
 clear hsg
 go_wp2_with fail
 have y := Blk.new w1 25 #[.bool b, .slice a n c, .bool b2, .slice a2 n2 c2]
 have hEW2 : Ext w1 (w1.alloc (Obj.cells #[.bool b, .slice a n c, .bool b2, .slice a2 n2 c2] 25)) := ((Below.refl _ w1).alloc (by simp) _)
 generalize hgW2 : w1.alloc (Obj.cells #[.bool b, .slice a n c, .bool b2, .slice a2 n2 c2] 25) = W2 at *
 clear hgW2
 replace y_0 := y.cell (i := 0) rfl
 replace y_1 := y.cell (i := 1) rfl
 replace y_2 := y.cell (i := 2) rfl
 replace y_3 := y.cell (i := 3) rfl
 replace p0 := p0.ext hEW2; replace p0_0 := p0.cell (i := 0) rfl; replace p0_1 := p0.cell (i := 1) rfl; replace p0_f0 := p0.free 0; replace p0_f1 := p0.free 1; replace p0_lt := p0.lt; replace p1 := p1.ext hEW2; replace p1_0 := p1.cell (i := 0) rfl; replace p1_1 := p1.cell (i := 1) rfl; replace p1_f0 := p1.free 0; replace p1_f1 := p1.free 1; replace p1_lt := p1.lt; replace r0 := r0.ext hEW2; replace r0_0 := r0.cell (i := 0) rfl; replace r0_1 := r0.cell (i := 1) rfl; replace r0_2 := r0.cell (i := 2) rfl; replace r0_3 := r0.cell (i := 3) rfl; replace r0_f0 := r0.free 0; replace r0_f1 := r0.free 1; replace r0_f2 := r0.free 2; replace r0_f3 := r0.free 3; replace r0_lt := r0.lt
 replace hE0 := Ext.trans hE0 hEW2
 have hsz2 := hEW2.size
 refine (zintGcd_any 0 W2 _ 2 2 (b, l) (b2, l2) (ints2 y (Nat.zero_le _) (h.ext (Nat.le_refl _) hE0) (h2.ext (Nat.le_refl _) hE0)) (by rw [h.len]; exact hn) (by rw [h2.len]; exact hn2) z d hz hz2).mono ?_
 rintro e w3 ⟨a3, n3, c3, rfl, h3, hE3⟩
 rw [HGG.out] at h3 ⊢
 rw [show decide (((gg : Nat) : Int) < 0) = false by simp]
 rw [Int.natAbs_natCast] at h3
 replace p0 := p0.ext hE3; replace p0_0 := p0.cell (i := 0) rfl; replace p0_1 := p0.cell (i := 1) rfl; replace p0_f0 := p0.free 0; replace p0_f1 := p0.free 1; replace p0_lt := p0.lt; replace p1 := p1.ext hE3; replace p1_0 := p1.cell (i := 0) rfl; replace p1_1 := p1.cell (i := 1) rfl; replace p1_f0 := p1.free 0; replace p1_f1 := p1.free 1; replace p1_lt := p1.lt; replace r0 := r0.ext hE3; replace r0_0 := r0.cell (i := 0) rfl; replace r0_1 := r0.cell (i := 1) rfl; replace r0_2 := r0.cell (i := 2) rfl; replace r0_3 := r0.cell (i := 3) rfl; replace r0_f0 := r0.free 0; replace r0_f1 := r0.free 1; replace r0_f2 := r0.free 2; replace r0_f3 := r0.free 3; replace r0_lt := r0.lt
 replace hE0 := Ext.trans hE0 hE3
 have hsz3 := hE3.size
 clear hEW2 hE3 y y_0 y_1 y_2 y_3
 go_wp2_with fail
 have g := Blk.new w3 25 #[.bool false, .slice a3 n3 c3]
 have hEW4 : Ext w3 (w3.alloc (Obj.cells #[.bool false, .slice a3 n3 c3] 25)) := ((Below.refl _ w3).alloc (by simp) _)
 generalize hgW4 : w3.alloc (Obj.cells #[.bool false, .slice a3 n3 c3] 25) = W4 at *
 clear hgW4
 replace g_0 := g.cell (i := 0) rfl
 replace g_1 := g.cell (i := 1) rfl
 replace g_f0 := g.free 0
 replace g_f1 := g.free 1
 replace g_lt := g.lt
 replace p0 := p0.ext hEW4; replace p0_0 := p0.cell (i := 0) rfl; replace p0_1 := p0.cell (i := 1) rfl; replace p0_f0 := p0.free 0; replace p0_f1 := p0.free 1; replace p0_lt := p0.lt; replace p1 := p1.ext hEW4; replace p1_0 := p1.cell (i := 0) rfl; replace p1_1 := p1.cell (i := 1) rfl; replace p1_f0 := p1.free 0; replace p1_f1 := p1.free 1; replace p1_lt := p1.lt; replace r0 := r0.ext hEW4; replace r0_0 := r0.cell (i := 0) rfl; replace r0_1 := r0.cell (i := 1) rfl; replace r0_2 := r0.cell (i := 2) rfl; replace r0_3 := r0.cell (i := 3) rfl; replace r0_f0 := r0.free 0; replace r0_f1 := r0.free 1; replace r0_f2 := r0.free 2; replace r0_f3 := r0.free 3; replace r0_lt := r0.lt
 replace hE0 := Ext.trans hE0 hEW4
 have hsz4 := hEW4.size
 have h3 := h3.ext (Nat.zero_le _) hEW4
 have hn3 : n3 ≤ 8796093022208 := by have := h3.len; rw [length_limbs] at this; omega
 refine (zintSign_z b2 0 W4 a2 n2 c2 l2 d (h2.ext (Nat.le_refl _) hE0) (by omega) hz2).mono ?_
 rintro e w5 ⟨rfl, hE5⟩
 replace p0 := p0.ext hE5; replace p0_0 := p0.cell (i := 0) rfl; replace p0_1 := p0.cell (i := 1) rfl; replace p0_f0 := p0.free 0; replace p0_f1 := p0.free 1; replace p0_lt := p0.lt; replace p1 := p1.ext hE5; replace p1_0 := p1.cell (i := 0) rfl; replace p1_1 := p1.cell (i := 1) rfl; replace p1_f0 := p1.free 0; replace p1_f1 := p1.free 1; replace p1_lt := p1.lt; replace r0 := r0.ext hE5; replace r0_0 := r0.cell (i := 0) rfl; replace r0_1 := r0.cell (i := 1) rfl; replace r0_2 := r0.cell (i := 2) rfl; replace r0_3 := r0.cell (i := 3) rfl; replace r0_f0 := r0.free 0; replace r0_f1 := r0.free 1; replace r0_f2 := r0.free 2; replace r0_f3 := r0.free 3; replace r0_lt := r0.lt; replace g := g.ext hE5; replace g_0 := g.cell (i := 0) rfl; replace g_1 := g.cell (i := 1) rfl; replace g_f0 := g.free 0; replace g_f1 := g.free 1; replace g_lt := g.lt
 replace hE0 := Ext.trans hE0 hE5
 have hsz5 := hE5.size
 have h3 := h3.ext (Nat.zero_le _) hE5
 clear hEW4 hE5
 rw [HSGN.out]
 have hG : NatS 0 w5 a3 n3 c3 (limbs G.natAbs) := by rw [HGE.out, Int.natAbs_natCast]; exact h3
 have HSG : Hid (ival false (limbs G.natAbs) = G) := Lib.hid (by rw [ival_limbs, HGE.out]; simp)
 have hh := h.ext (Nat.le_refl _) hE0
 have hh2 := h2.ext (Nat.le_refl _) hE0
 have hEV := hE0
 clear h3 hE0
 obtain ⟨V, rfl⟩ : ∃ V : World, V = w5 := ⟨_, rfl⟩
 obtain ⟨aG, rfl⟩ : ∃ x, x = a3 := ⟨_, rfl⟩
 obtain ⟨nG, rfl⟩ : ∃ x, x = n3 := ⟨_, rfl⟩
 obtain ⟨cG, rfl⟩ : ∃ x, x = c3 := ⟨_, rfl⟩
 have hnG := hn3
 have hr9 : w.heap.size + 1 + 1 < V.heap.size := r0_lt
 skip
 go_wp2_with fail
 refine (zintExact_z b false 0 V a aG n c nG cG l _ z G hh hG hn hz HSG hG0 HGZ.out).mono ?_
 rintro e w8 ⟨v8, rfl, ⟨a8, n8, c8, rfl, h8⟩, hE8⟩
 rw [HZQ.out] at h8 ⊢
 replace p0 := p0.ext hE8; replace p0_0 := p0.cell (i := 0) rfl; replace p0_1 := p0.cell (i := 1) rfl; replace p0_f0 := p0.free 0; replace p0_f1 := p0.free 1; replace p0_lt := p0.lt; replace p1 := p1.ext hE8; replace p1_0 := p1.cell (i := 0) rfl; replace p1_1 := p1.cell (i := 1) rfl; replace p1_f0 := p1.free 0; replace p1_f1 := p1.free 1; replace p1_lt := p1.lt; replace r0 := r0.ext hE8; replace r0_0 := r0.cell (i := 0) rfl; replace r0_1 := r0.cell (i := 1) rfl; replace r0_2 := r0.cell (i := 2) rfl; replace r0_3 := r0.cell (i := 3) rfl; replace r0_f0 := r0.free 0; replace r0_f1 := r0.free 1; replace r0_f2 := r0.free 2; replace r0_f3 := r0.free 3; replace r0_lt := r0.lt; replace g := g.ext hE8; replace g_0 := g.cell (i := 0) rfl; replace g_1 := g.cell (i := 1) rfl; replace g_f0 := g.free 0; replace g_f1 := g.free 1; replace g_lt := g.lt
 have hEx := Ext.trans hEV hE8
 have hh2 := hh2.ext (Nat.le_refl _) hE8
 have hG := hG.ext (Nat.le_refl _) hE8
 have hszV := hEV.size
 have hsz8 := hE8.size
 clear hE8 hEV
 go_wp2_with fail
 have k := Blk.new w8 25 #[.bool (decide (q.num < 0)), .slice a8 n8 c8]
 have hEW9 : Ext w8 (w8.alloc (Obj.cells #[.bool (decide (q.num < 0)), .slice a8 n8 c8] 25)) := ((Below.refl _ w8).alloc (by simp) _)
 generalize hgW9 : w8.alloc (Obj.cells #[.bool (decide (q.num < 0)), .slice a8 n8 c8] 25) = W9 at *
 clear hgW9
 replace k_0 := k.cell (i := 0) rfl
 replace k_1 := k.cell (i := 1) rfl
 replace k_f0 := k.free 0
 replace k_f1 := k.free 1
 replace k_lt := k.lt
 replace p0 := p0.ext hEW9; replace p0_0 := p0.cell (i := 0) rfl; replace p0_1 := p0.cell (i := 1) rfl; replace p0_f0 := p0.free 0; replace p0_f1 := p0.free 1; replace p0_lt := p0.lt; replace p1 := p1.ext hEW9; replace p1_0 := p1.cell (i := 0) rfl; replace p1_1 := p1.cell (i := 1) rfl; replace p1_f0 := p1.free 0; replace p1_f1 := p1.free 1; replace p1_lt := p1.lt; replace r0 := r0.ext hEW9; replace r0_0 := r0.cell (i := 0) rfl; replace r0_1 := r0.cell (i := 1) rfl; replace r0_2 := r0.cell (i := 2) rfl; replace r0_3 := r0.cell (i := 3) rfl; replace r0_f0 := r0.free 0; replace r0_f1 := r0.free 1; replace r0_f2 := r0.free 2; replace r0_f3 := r0.free 3; replace r0_lt := r0.lt; replace g := g.ext hEW9; replace g_0 := g.cell (i := 0) rfl; replace g_1 := g.cell (i := 1) rfl; replace g_f0 := g.free 0; replace g_f1 := g.free 1; replace g_lt := g.lt
 refine (zintExact_z b2 false 0 W9 a2 aG n2 c2 nG cG l2 _ d G (hh2.ext (Nat.le_refl _) hEW9) (hG.ext (Nat.le_refl _) hEW9) hn2 hz2 HSG hG0 HGD.out).mono ?_
 rintro e w10 ⟨v10, rfl, ⟨a10, n10, c10, rfl, h10⟩, hE10⟩
 rw [HDQ.out] at h10 ⊢
 rw [show decide (((q.den : Nat) : Int) < 0) = false by simp]
 rw [Int.natAbs_natCast] at h10
 replace r0 := r0.ext hE10; replace r0_0 := r0.cell (i := 0) rfl; replace r0_1 := r0.cell (i := 1) rfl; replace r0_2 := r0.cell (i := 2) rfl; replace r0_3 := r0.cell (i := 3) rfl; replace r0_f0 := r0.free 0; replace r0_f1 := r0.free 1; replace r0_f2 := r0.free 2; replace r0_f3 := r0.free 3; replace r0_lt := r0.lt; replace k := k.ext hE10; replace k_0 := k.cell (i := 0) rfl; replace k_1 := k.cell (i := 1) rfl; replace k_f0 := k.free 0; replace k_f1 := k.free 1; replace k_lt := k.lt
 have hszW9 := hEW9.size
 have hs10 := hE10.size
 have r4 := (((r0.set 0 (.bool (decide (q.num < 0)))).set 1 (.slice a8 n8 c8)).set 2 (.bool false)).set 3 (.slice a10 n10 c10)
 have h8f := (h8.ext (Nat.le_refl _) (Ext.trans hEW9 hE10)).mono (Nat.le_refl _) (kept_set4 w10 (.bool (decide (q.num < 0))) (.slice a8 n8 c8) (.bool false) (.slice a10 n10 c10) hr9)
 have h10f := (h10.mono (Nat.le_refl _) (kept_set4 w10 (.bool (decide (q.num < 0))) (.slice a8 n8 c8) (.bool false) (.slice a10 n10 c10) (show w.heap.size + 1 + 1 < W9.heap.size by omega)))
 have hE4 := ext_set4 (Ext.trans hEx (Ext.trans hEW9 hE10)) (.bool (decide (q.num < 0))) (.slice a8 n8 c8) (.bool false) (.slice a10 n10 c10) (show w.heap.size ≤ w.heap.size + 1 + 1 by omega)
 have hEa : Ext ((((w10.setCell ⟨w.heap.size + 1 + 1, 0, none⟩ (.bool (decide (q.num < 0)))).setCell ⟨w.heap.size + 1 + 1, 1, none⟩ (.slice a8 n8 c8)).setCell ⟨w.heap.size + 1 + 1, 2, none⟩ (.bool false)).setCell ⟨w.heap.size + 1 + 1, 3, none⟩ (.slice a10 n10 c10)) (((((w10.setCell ⟨w.heap.size + 1 + 1, 0, none⟩ (.bool (decide (q.num < 0)))).setCell ⟨w.heap.size + 1 + 1, 1, none⟩ (.slice a8 n8 c8)).setCell ⟨w.heap.size + 1 + 1, 2, none⟩ (.bool false)).setCell ⟨w.heap.size + 1 + 1, 3, none⟩ (.slice a10 n10 c10)).alloc (Obj.cells #[.bool false, .slice a10 n10 c10] 25)) := (Below.refl _ _).alloc (Nat.le_refl _) _
 have HF : Hid (RRatOk w q (.returned (.tuple #[.agg #[.bool (decide (q.num < 0)), .slice a8 n8 c8, .bool false, .slice a10 n10 c10], .int .i64 0])) (((((w10.setCell ⟨w.heap.size + 1 + 1, 0, none⟩ (.bool (decide (q.num < 0)))).setCell ⟨w.heap.size + 1 + 1, 1, none⟩ (.slice a8 n8 c8)).setCell ⟨w.heap.size + 1 + 1, 2, none⟩ (.bool false)).setCell ⟨w.heap.size + 1 + 1, 3, none⟩ (.slice a10 n10 c10)).alloc (Obj.cells #[.bool false, .slice a10 n10 c10] 25))) :=
  Lib.hid ⟨a8, n8, c8, a10, n10, c10, rfl, (h8f.mono (show w.heap.size ≤ V.heap.size by omega) (Kept.refl _ _)).ext (Nat.le_refl _) hEa, (h10f.mono (show w.heap.size ≤ W9.heap.size by omega) (Kept.refl _ _)).ext (Nat.le_refl _) hEa, Ext.trans hE4 hEa⟩
 have r2 := r4.ext hEa
 have hr0 := r2.cell (i := 0) rfl
 have hr1 := r2.cell (i := 1) rfl
 have hr2 := r2.cell (i := 2) rfl
 have hr3 := r2.cell (i := 3) rfl
 have hqa := cell_alloc k_0 (Obj.cells #[.bool false, .slice a10 n10 c10] 25)
 have hqb := cell_alloc k_1 (Obj.cells #[.bool false, .slice a10 n10 c10] 25)
 generalize decide (q.num < 0) = sq at *
 clear hEx hE4 hEa h8 h10 h8f h10f hE10 hEW9 r2 r4 hh hh2 hG h h2
 go_wp2_with fail
 exact bodyPost_ret (v := .tuple #[.agg #[.bool sq, .slice a8 n8 c8, .bool false, .slice a10 n10 c10], .int .i64 0]) (by simp [results, Tryz.results80, go_sem, hr0, hr1, hr2, hr3]) rfl HF.out
end Go.Proofs.YtbhenelehhiakaaGreat
namespace Go.Proofs.YtbhenelehhiakaaGreat
open Go.RowKit
theorem ratMake_any (b b2 : Bool) (w : World) (a a2 : Option Addr) (n c n2 c2 : Nat) (l l2 : Nt) (z d : Int) (q : Rat) (h : NatS 0 w a n c l) (h2 : NatS 0 w a2 n2 c2 l2) (hn : n ≤ 8796093022208) (hn2 : n2 ≤ 8796093022208) (hz : Hid (ival b l = z)) (hz2 : Hid (ival b2 l2 = d)) (hd : d ≠ 0) (hq : Hid (ratv z d = q)) :
  Calls Tryz.prog 80 #[.agg #[.bool b, .slice a n c], .agg #[.bool b2, .slice a2 n2 c2]] w (RRatOk w q) := by
 by_cases h0 : d < 0
 ·exact ratMake_neg b b2 w a a2 n c n2 c2 l l2 z d q h h2 hn hn2 hz hz2 h0 hq
 ·exact ratMake_pos b b2 w a a2 n c n2 c2 l l2 z d q h h2 hn hn2 hz hz2 (by omega) hq
set_option maxHeartbeats 2000000 in
theorem ratNorm_any (K : Nat) (hK : K ≤ 8796093022208) (w : World) (b : Bool) (a : Option Addr) (n c : Nat) (b2 : Bool) (a2 : Option Addr) (n2 c2 : Nat) (x : Int × Int) (h : (rFr K).ok 0 w [.bool b, .slice a n c, .bool b2, .slice a2 n2 c2] x) (hd : x.2 ≠ 0) (q : Rat) (hq : Hid (frR x = q)) :
  Calls Tryz.prog 99 #[.agg #[.bool b, .slice a n c, .bool b2, .slice a2 n2 c2]] w (RRatOk w q) := by
 obtain ⟨_, _, _, _, _, _, _, _, hcs, l, l2, h1, h2, hv1, hv2, hn, hn2⟩ := h
 cases hcs
 have HV1 := Lib.hid hv1
 have HV2 := Lib.hid hv2
 clear hv1 hv2
 go_enter Tryz.func99, Tryz.ntmps99
 go_wp2_with fail
 have p0 := Blk.new w 75 #[.bool b, .slice a n c, .bool b2, .slice a2 n2 c2]
 have r := Blk.new (w.alloc (Obj.cells #[.bool b, .slice a n c, .bool b2, .slice a2 n2 c2] 75)) 75 #[.bool false, .slice none 0 0, .bool false, .slice none 0 0]
 replace p0 := p0.ext ((Below.refl _ _).alloc (Nat.le_refl _) (Obj.cells #[.bool false, .slice none 0 0, .bool false, .slice none 0 0] 75))
 have hEW : Ext w ((w.alloc (Obj.cells #[.bool b, .slice a n c, .bool b2, .slice a2 n2 c2] 75)).alloc (Obj.cells #[.bool false, .slice none 0 0, .bool false, .slice none 0 0] 75)) := (((Below.refl _ w).alloc (by simp) _).alloc (by simp) _)
 generalize hgW : (w.alloc (Obj.cells #[.bool b, .slice a n c, .bool b2, .slice a2 n2 c2] 75)).alloc (Obj.cells #[.bool false, .slice none 0 0, .bool false, .slice none 0 0] 75) = W at *
 clear hgW
 simp only [World.size_alloc] at r
 have p0_ne_r : ¬ w.heap.size = w.heap.size + 1 := by omega
 have r_ne_p0 : ¬ w.heap.size + 1 = w.heap.size := by omega
 replace p0_0 := p0.cell (i := 0) rfl
 replace p0_1 := p0.cell (i := 1) rfl
 replace p0_2 := p0.cell (i := 2) rfl
 replace p0_3 := p0.cell (i := 3) rfl
 replace r_0 := r.cell (i := 0) rfl
 replace r_1 := r.cell (i := 1) rfl
 replace r_2 := r.cell (i := 2) rfl
 replace r_3 := r.cell (i := 3) rfl
 replace r_f0 := r.free 0
 replace r_f1 := r.free 1
 replace r_f2 := r.free 2
 replace r_f3 := r.free 3
 replace r_lt := r.lt
 have hrB := r_lt
 refine (ratMake_any b b2 W a a2 n c n2 c2 l l2 x.1 x.2 q (h1.ext (Nat.le_refl _) hEW) (h2.ext (Nat.le_refl _) hEW) (by omega) (by omega) HV1 HV2 hd hq).mono ?_
 rintro e w1 ⟨a3, n3, c3, a4, n4, c4, rfl, h3, h4, hE1⟩
 replace r := r.ext hE1; replace r_0 := r.cell (i := 0) rfl; replace r_1 := r.cell (i := 1) rfl; replace r_2 := r.cell (i := 2) rfl; replace r_3 := r.cell (i := 3) rfl; replace r_f0 := r.free 0; replace r_f1 := r.free 1; replace r_f2 := r.free 2; replace r_f3 := r.free 3; replace r_lt := r.lt
 have hE0 := Ext.trans hEW hE1
 have HF : Hid (RRatOk w q (.returned (.tuple #[.agg #[.bool (decide (q.num < 0)), .slice a3 n3 c3, .bool false, .slice a4 n4 c4], .int .i64 0])) ((((w1.setCell ⟨w.heap.size + 1, 0, none⟩ (.bool (decide (q.num < 0)))).setCell ⟨w.heap.size + 1, 1, none⟩ (.slice a3 n3 c3)).setCell ⟨w.heap.size + 1, 2, none⟩ (.bool false)).setCell ⟨w.heap.size + 1, 3, none⟩ (.slice a4 n4 c4))) :=
  Lib.hid ⟨a3, n3, c3, a4, n4, c4, rfl, (h3.mono (Nat.le_refl _) (kept_set4 _ _ _ _ _ hrB)).mono hEW.size (Kept.refl _ _), (h4.mono (Nat.le_refl _) (kept_set4 _ _ _ _ _ hrB)).mono hEW.size (Kept.refl _ _), ext_set4 hE0 _ _ _ _ (by omega)⟩
 generalize decide (q.num < 0) = sq at *
 have r2 := (((r.set 0 (.bool sq)).set 1 (.slice a3 n3 c3)).set 2 (.bool false)).set 3 (.slice a4 n4 c4)
 have hr0 := r2.cell (i := 0) rfl
 have hr1 := r2.cell (i := 1) rfl
 have hr2 := r2.cell (i := 2) rfl
 have hr3 := r2.cell (i := 3) rfl
 clear h1 h2 h3 h4 hE1 hE0 hEW r2
 go_wp2_with fail
 exact bodyPost_ret (v := .tuple #[.agg #[.bool sq, .slice a3 n3 c3, .bool false, .slice a4 n4 c4], .int .i64 0]) (by simp [results, Tryz.results99, go_sem, hr0, hr1, hr2, hr3]) rfl HF.out
set_option maxHeartbeats 2000000 in
theorem ratNorm_err (K : Nat) (hK : K ≤ 8796093022208) (w : World) (b : Bool) (a : Option Addr) (n c : Nat) (b2 : Bool) (a2 : Option Addr) (n2 c2 : Nat) (x : Int × Int) (h : (rFr K).ok 0 w [.bool b, .slice a n c, .bool b2, .slice a2 n2 c2] x) (hd : x.2 = 0) :
  Calls Tryz.prog 99 #[.agg #[.bool b, .slice a n c, .bool b2, .slice a2 n2 c2]] w (RRatErr w 6) := by
 obtain ⟨_, _, _, _, _, _, _, _, hcs, l, l2, h1, h2, hv1, hv2, hn, hn2⟩ := h
 cases hcs
 have HV2 : Hid (ival b2 l2 = 0) := Lib.hid (hv2.trans hd)
 clear hv1 hv2 hd
 go_enter Tryz.func99, Tryz.ntmps99
 go_wp2_with fail
 have p0 := Blk.new w 75 #[.bool b, .slice a n c, .bool b2, .slice a2 n2 c2]
 have r := Blk.new (w.alloc (Obj.cells #[.bool b, .slice a n c, .bool b2, .slice a2 n2 c2] 75)) 75 #[.bool false, .slice none 0 0, .bool false, .slice none 0 0]
 replace p0 := p0.ext ((Below.refl _ _).alloc (Nat.le_refl _) (Obj.cells #[.bool false, .slice none 0 0, .bool false, .slice none 0 0] 75))
 have hEW : Ext w ((w.alloc (Obj.cells #[.bool b, .slice a n c, .bool b2, .slice a2 n2 c2] 75)).alloc (Obj.cells #[.bool false, .slice none 0 0, .bool false, .slice none 0 0] 75)) := (((Below.refl _ w).alloc (by simp) _).alloc (by simp) _)
 generalize hgW : (w.alloc (Obj.cells #[.bool b, .slice a n c, .bool b2, .slice a2 n2 c2] 75)).alloc (Obj.cells #[.bool false, .slice none 0 0, .bool false, .slice none 0 0] 75) = W at *
 clear hgW
 simp only [World.size_alloc] at r
 have p0_ne_r : ¬ w.heap.size = w.heap.size + 1 := by omega
 have r_ne_p0 : ¬ w.heap.size + 1 = w.heap.size := by omega
 replace p0_0 := p0.cell (i := 0) rfl
 replace p0_1 := p0.cell (i := 1) rfl
 replace p0_2 := p0.cell (i := 2) rfl
 replace p0_3 := p0.cell (i := 3) rfl
 replace r_0 := r.cell (i := 0) rfl
 replace r_1 := r.cell (i := 1) rfl
 replace r_2 := r.cell (i := 2) rfl
 replace r_3 := r.cell (i := 3) rfl
 replace r_f0 := r.free 0
 replace r_f1 := r.free 1
 replace r_f2 := r.free 2
 replace r_f3 := r.free 3
 replace r_lt := r.lt
 have hrB := r_lt
 refine (ratMake_err b b2 W a a2 n c n2 c2 l2 (h2.ext (Nat.le_refl _) hEW) (by omega) HV2).mono ?_
 rintro e w1 ⟨rfl, hE1⟩
 replace r := r.ext hE1; replace r_0 := r.cell (i := 0) rfl; replace r_1 := r.cell (i := 1) rfl; replace r_2 := r.cell (i := 2) rfl; replace r_3 := r.cell (i := 3) rfl; replace r_f0 := r.free 0; replace r_f1 := r.free 1; replace r_f2 := r.free 2; replace r_f3 := r.free 3; replace r_lt := r.lt
 have hE0 := Ext.trans hEW hE1
 have HF : Hid (RRatErr w 6 (.returned (.tuple #[.agg #[.bool false, .slice none 0 0, .bool false, .slice none 0 0], .int .i64 6])) ((((w1.setCell ⟨w.heap.size + 1, 0, none⟩ (.bool false)).setCell ⟨w.heap.size + 1, 1, none⟩ (.slice none 0 0)).setCell ⟨w.heap.size + 1, 2, none⟩ (.bool false)).setCell ⟨w.heap.size + 1, 3, none⟩ (.slice none 0 0))) :=
  Lib.hid ⟨rfl, ext_set4 hE0 _ _ _ _ (by omega)⟩
 have r2 := (((r.set 0 (.bool false)).set 1 (.slice none 0 0)).set 2 (.bool false)).set 3 (.slice none 0 0)
 have hr0 := r2.cell (i := 0) rfl
 have hr1 := r2.cell (i := 1) rfl
 have hr2 := r2.cell (i := 2) rfl
 have hr3 := r2.cell (i := 3) rfl
 clear h1 h2 hE1 hE0 hEW r2
 go_wp2_with fail
 exact bodyPost_ret (v := .tuple #[.agg #[.bool false, .slice none 0 0, .bool false, .slice none 0 0], .int .i64 6]) (by simp [results, Tryz.results99, go_sem, hr0, hr1, hr2, hr3]) rfl HF.out
theorem NatS.grown {B : Nat} {W0 w w' : World} {a : Option Addr} {n c : Nat} {l : Nt} {row : Option Nat} (h : NatS B w a n c l) (h0 : NatS B W0 a n c l) (hg : w.grownBy w' row) (hr : ∀ g, row = some g → W0.heap.size ≤ g) : NatS B w' a n c l :=
 ⟨h.len, h.cap, h.most, h.nil, fun k hk => by
  obtain ⟨b, o, cs, ha, hr1, hc⟩ := h.at_ k hk
  obtain ⟨b2, o2, cs2, ha2, hr2, hc2⟩ := h0.at_ k hk
  rw [ha] at ha2; cases ha2
  have hb : b < W0.heap.size := cel_lt (hc2 0 (by rw [hr2.1]; simp))
  refine ⟨b, o, cs, ha, hr1, fun j hj => ?_⟩
  have e : w'.heap[b]? = w.heap[b]? := hg.block b (cel_lt (hc j hj)) (fun e => by have := hr b e.symm; omega)
  obtain ⟨h1, h2, h3⟩ := hc j hj
  exact ⟨h1, (World.cell?_of_block (a := ⟨b, _, none⟩) e).trans h2, (World.frozen?_of_block (a := ⟨b, _, none⟩) e).trans h3⟩⟩
end Go.Proofs.YtbhenelehhiakaaGreat
namespace Go.Proofs.YtbhenelehhiakaaGreat
open Go.RowKit Go.Shelf
attribute [local go_sem] Oper.semAt_some
structure FrAt (K : Nat) (w : World) where
 b : Bool
 a : Option Addr
 n : Nat
 c : Nat
 b2 : Bool
 a2 : Option Addr
 n2 : Nat
 c2 : Nat
 q : Int × Int
 ok : (rFr K).ok 0 w [.bool b, .slice a n c, .bool b2, .slice a2 n2 c2] q
def FrAt.v {K : Nat} {w : World} (x : FrAt K w) : Value := .agg #[.bool x.b, .slice x.a x.n x.c, .bool x.b2, .slice x.a2 x.n2 x.c2]
def FrAt.cells {K : Nat} {w : World} (x : FrAt K w) : List Value := [.bool x.b, .slice x.a x.n x.c, .bool x.b2, .slice x.a2 x.n2 x.c2]
end Go.Proofs.YtbhenelehhiakaaGreat
