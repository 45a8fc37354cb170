/-
  The law QmatParts: the walk.
-/
import Derived.Deep.CutRange
import Derived.Deep.DeepCutAuto
import Derived.Test.YtbhenelehhiakaaPart38
import Derived.Test.YtbhenelehhiakaaPart39
import Derived.Test.YtbhenelehhiakaaPart40
import Derived.Test.YtbhenelehhiakaaPart41
import Derived.Test.YtbhenelehhiakaaPart42
import Derived.Test.YtbhenelehhiakaaPart43
import Derived.Test.YtbhenelehhiakaaPart44
import Derived.Test.YtbhenelehhiakaaPart45
import Derived.Test.YtbhenelehhiakaaPart46
set_option linter.unusedVariables false
set_option linter.unusedSimpArgs false
namespace Go.Proofs.Ytbhenelehhiakaa
open Go.RowKit

theorem checksE_snoc (m : Int × List (List Int)) : ∀ l : List (Int × List (List Int)), checksE (l ++ [m]) = if checksE l = 0 then checkE m.1 m.2 else checksE l := by
  intro l
  induction l with
  | nil =>
    show checksE [m] = _
    unfold checksE
    rw [if_pos rfl]
    by_cases h : checkE m.1 m.2 = 0
    · rw [if_pos h, h]; rfl
    · rw [if_neg h]
  | cons y l ih =>
    rw [List.cons_append]
    unfold checksE
    by_cases h : checkE y.1 y.2 = 0
    · rw [if_pos h, if_pos h, ih]
    · rw [if_neg h, if_neg h, if_neg h]

set_option maxRecDepth 100000 in
set_option maxHeartbeats 40000000 in
theorem parts_walk (K KD : Nat) (hK : K ≤ 1048576) (hK1 : 1 ≤ K) (hKD : KD ≤ 4194304) (w : World) (a : Option Addr) (n c : Nat) (ms : Ms) (h : Sl (rMatK K) 0 w a n c ms) (hDK : nl (blkDen ms).natAbs ≤ KD) (hR : rowsOf ms ≤ 1048576) (hC : blkCols ms ≤ 524288) (hrow : Hid (∀ m ∈ ms, ∀ zs ∈ m.2, zs.length ≤ 1048576)) (r r2 k k2 : Int) :
    Calls Try.prog 4 #[.slice a n c, .agg #[.int .i64 r, .int .i64 r2, .int .i64 k, .int .i64 k2]] w (Yes w) := by
  have HS := Lib.hid h
  have hmost := h.most
  have hcap := h.cap
  have hlen := Lib.hid h.len
  have HRB := Lib.hid hR
  have HCB := Lib.hid hC
  have HDK := Lib.hid hDK
  obtain ⟨s, hs⟩ : ∃ s, checksE ms = s := ⟨_, rfl⟩
  have HSE := Lib.hid hs
  obtain ⟨qB, hqB⟩ : ∃ q, blkQ (blkCols ms) ms 0 = q := ⟨_, rfl⟩
  have HQB := Lib.hid hqB
  have hrow2 : Hid (∀ m ∈ ms, ∀ zs ∈ m.2, zs.length ≤ 1099511627776) := Lib.hid (fun m hm zs hz => Nat.le_trans (hrow.out m hm zs hz) (by decide))
  clear h hs hqB hR hC hDK
  go_enter Try.func4, Try.ntmps4
  go_wp2_with fail
  have pl := Blk.new w 42 #[.int .i64 r, .int .i64 r2, .int .i64 k, .int .i64 k2]
  have hEW : Ext w (w.alloc (Obj.cells #[.int .i64 r, .int .i64 r2, .int .i64 k, .int .i64 k2] 42)) := ((Below.refl _ w).alloc (by simp) _)
  generalize hgW : w.alloc (Obj.cells #[.int .i64 r, .int .i64 r2, .int .i64 k, .int .i64 k2] 42) = W at *
  clear hgW
  replace pl_0 := pl.cell (i := 0) rfl
  replace pl_1 := pl.cell (i := 1) rfl
  replace pl_2 := pl.cell (i := 2) rfl
  replace pl_3 := pl.cell (i := 3) rfl
  refine (blocks_ans K KD (by omega) W a n c ms (HS.out.ext (Nat.le_refl _) hEW) HDK.out (Nat.le_trans HRB.out (by decide)) (Nat.le_trans HCB.out (by decide)) hrow2.out s HSE qB HQB).mono ?_
  rintro e w1 ⟨bb, ab, nb, cb, ab2, nb2, cb2, rfl, hE1, hAe, hAo⟩
  replace pl := pl.ext hE1; replace pl_0 := pl.cell (i := 0) rfl; replace pl_1 := pl.cell (i := 1) rfl; replace pl_2 := pl.cell (i := 2) rfl; replace pl_3 := pl.cell (i := 3) rfl
  have HAE := Lib.hid hAe
  have HAO := Lib.hid hAo
  have hE0 := Ext.trans hEW hE1
  clear hEW hE1 hAe hAo
  go_wp2_with fail
  have mb := Blk.new w1 30 #[.bool bb, .slice ab nb cb, .slice ab2 nb2 cb2]
  have hEW2 : Ext w1 (w1.alloc (Obj.cells #[.bool bb, .slice ab nb cb, .slice ab2 nb2 cb2] 30)) := ((Below.refl _ w1).alloc (by simp) _)
  generalize hgW2 : w1.alloc (Obj.cells #[.bool bb, .slice ab nb cb, .slice ab2 nb2 cb2] 30) = W2 at *
  clear hgW2
  replace mb_0 := mb.cell (i := 0) rfl
  replace mb_1 := mb.cell (i := 1) rfl
  replace mb_2 := mb.cell (i := 2) rfl
  replace pl := pl.ext hEW2; replace pl_0 := pl.cell (i := 0) rfl; replace pl_1 := pl.cell (i := 1) rfl; replace pl_2 := pl.cell (i := 2) rfl; replace pl_3 := pl.cell (i := 3) rfl
  have HPL := Lib.hid pl
  have HMB := Lib.hid mb
  have HE2 := Lib.hid (Ext.trans hE0 hEW2)
  have HAO2 : Hid (s = 0 → bb = false ∧ NatS 0 W2 ab nb cb (limbs (nrmD qB)) ∧ Sl rInts 0 W2 ab2 nb2 cb2 (rawM (nrmZ qB))) := Lib.hid (fun h0 => by obtain ⟨g1, g2, g3⟩ := HAO.out h0; exact ⟨g1, g2.ext (Nat.zero_le _) hEW2, g3.ext (Nat.zero_le _) hEW2⟩)
  have hszW : w.heap.size < W2.heap.size := pl.lt
  have hszm : w1.heap.size < W2.heap.size := mb.lt
  clear hE0 hEW2 pl pl_0 pl_1 pl_2 pl_3 mb mb_0 mb_1 mb_2 HAO
  go_loopg [7, 26] n (fun q vc vi wr => ∃ (i : Nat) (z : Int), i ≤ n ∧ q = n - i ∧ vi = .int .i64 (i : Int) ∧ vc = .int .i64 z ∧ Hid (checksE (ms.take i) = z) ∧ Hid (Ext W2 wr))
  case atStart => exact ⟨0, 0, Nat.zero_le _, by omega, rfl, rfl, Lib.hid rfl, Lib.hid (Ext.refl _)⟩
  case round =>
    obtain ⟨i, z, hi, hq, rfl, rfl, HZ, HE⟩ := hrel
    by_cases hin : i < n
    · obtain ⟨b5, o5, s5, a5, n5, c5, a6, n6, c6, x, rfl, hb5, hx, hc5, hc6, hc7, h5⟩ := (HS.out.ext (Nat.le_refl _) (Ext.trans HE2.out HE.out)).getMat hin
      obtain ⟨hil, hxe⟩ := List.getElem?_eq_some_iff.1 hx
      have HTK : Hid (checksE (ms.take (i + 1)) = if z = 0 then checkE x.1 x.2 else z) := Lib.hid (by rw [List.take_succ_eq_append_getElem hil, hxe, checksE_snoc, HZ.out])
      have H5 := Lib.hid h5
      clear hx hxe h5 HZ
      by_cases hz : z = 0
      · have HZ2 : Hid (checksE (ms.take (i + 1)) = checkE x.1 x.2) := Lib.hid (by rw [HTK.out, if_pos hz])
        subst hz
        go_wp2_with fail
        clear hc5 hc6 hc7
        have y := Blk.new wr 30 #[.bool s5, .slice a5 n5 c5, .slice a6 n6 c6]
        have hEW3 : Ext wr (wr.alloc (Obj.cells #[.bool s5, .slice a5 n5 c5, .slice a6 n6 c6] 30)) := ((Below.refl _ wr).alloc (by simp) _)
        generalize hgW3 : wr.alloc (Obj.cells #[.bool s5, .slice a5 n5 c5, .slice a6 n6 c6] 30) = W3 at *
        clear hgW3
        replace y_0 := y.cell (i := 0) rfl
        replace y_1 := y.cell (i := 1) rfl
        replace y_2 := y.cell (i := 2) rfl
        refine (r11Check_any K (by omega) W3 s5 a5 a6 n5 c5 n6 c6 x.1 x.2 (H5.out.ext hEW3) _ (Lib.hid rfl)).mono ?_
        rintro e w4 ⟨rfl, hE4⟩
        have HE4 := Lib.hid (Ext.trans HE.out (Ext.trans hEW3 hE4))
        obtain ⟨z2, hz2⟩ : ∃ z, checkE x.1 x.2 = z := ⟨_, rfl⟩
        rw [hz2] at HZ2 ⊢
        clear hEW3 hE4 y y_0 y_1 y_2 hz2
        go_wp2_with fail
        go_roundg (n - (i + 1))
        case measure => omega
        case rel => exact ⟨i + 1, z2, by omega, rfl, by go_num, rfl, HZ2, HE4⟩
      · have hzb : (z == 0) = false := by simpa using hz
        have HZ2 : Hid (checksE (ms.take (i + 1)) = z) := Lib.hid (by rw [HTK.out, if_neg hz])
        have HE4 : Hid (Ext W2 (wr.alloc (Obj.cells #[.bool s5, .slice a5 n5 c5, .slice a6 n6 c6] 30))) := Lib.hid (HE.out.alloc HE.out.size _)
        clear hz
        go_wp2_with fail
        go_roundg (n - (i + 1))
        case measure => omega
        case rel => exact ⟨i + 1, z, by omega, rfl, by go_num, rfl, HZ2, HE4⟩
    · obtain rfl : i = n := by omega
      obtain rfl : z = s := by rw [← HZ.out, List.take_of_length_le (by rw [hlen.out]; exact Nat.le_refl _), HSE.out]
      obtain ⟨wz, rfl⟩ : ∃ wz : World, wz = wr := ⟨_, rfl⟩
      clear HZ
      go_wp2_with fail
      refine parts_r9 K KD hK hK1 hKD wz _ i c ms z (Lib.hid (HS.out.ext (Nat.le_refl _) (Ext.trans HE2.out HE.out))) HSE HDK HRB HCB qB HQB w1.heap.size bb ab nb cb ab2 nb2 cb2 (Lib.hid (HMB.out.ext HE.out)) HAE (Lib.hid (fun h0 => ⟨(HAO2.out h0).1, (HAO2.out h0).2.1.ext (Nat.le_refl _) HE.out, (HAO2.out h0).2.2.ext (Nat.le_refl _) HE.out⟩)) _ _ _ _ _ _ _ _ _ _ _ _ _ _ _ _ _ _ _ _ _ _ _ _ _ _ _ _ _ _ _ _ _ _ _ _ _ _ _ _ _ _ _ _ _ _ _ _ _ _ _ _ _ _ _ _ _ _ _ _ _ _ _ _ _ _ _ _ _ _ _ _ _ _ _ _ _ _ _ _ _ _ _ _ _ _ _ _ _ _ _ _ _ _ _ _ _ _ _ _ _ _ _ _ _ _ _ _ _ _ _ _ _ _ _ _ _ _ _ _ _ _ _ _ _ _ _ _ _ _ _ _ _ _ _ _ _ _ _ _ _ _ _ _ _ _ _ _ _ _ _ _ _ _ _ _ _ _ _ _ _ _ _ _ _ _ _ _ _ _ _ _ _ _ _ _ _ _ _ _ _ _ _ _ _ _ _ _ _ _ _ _ _ _ _ _ _ _ _ _ _ _ _ _ _ _ _ _ _ _ _ _ _ _ _ _ ?_
      intro v35 v36 v37 v38 v39 v40 v41 v42 v43 v44 v45 v46 v47 v48 v49 v50 v51 v52 v53 w' hE'
      have HEc := Lib.hid hE'
      obtain ⟨wc, rfl⟩ : ∃ x : World, x = w' := ⟨_, rfl⟩
      obtain ⟨w9, rfl⟩ : ∃ x : World, x = wc := ⟨_, rfl⟩
      have HE9 := Lib.hid (Ext.trans HE.out HEc.out)
      by_cases hn2 : i < 2
      · have hnb : decide (i < 2) = true := decide_eq_true hn2
        go_wp2_with fail
        refine (lives_yes w9).mono ?_
        rintro e w10 ⟨rfl, hE9⟩
        have HF := Lib.hid (Ext.trans HE2.out (Ext.trans HE9.out hE9))
        clear hE9
        go_wp2_with fail
        go_ret
        exact ⟨rfl, HF.out⟩
      · have hnb : decide (i < 2) = false := decide_eq_false hn2
        go_wp2_with fail
        have hEw := Ext.trans HE2.out HE9.out
        have hL := HS.out.ext (Nat.le_refl _) hEw
        obtain ⟨b5, o5, sx, ax, nx, cx, ax2, nx2, cx2, x, rfl, hb5, hx, hx0, hx1, hx2, hX⟩ := hL.getMat (i := 0) (by omega)
        obtain ⟨b5', o5', sy, ay, ny, cy, ay2, ny2, cy2, y, hab, hb5', hy, hy0, hy1, hy2, hY⟩ := hL.getMat (i := 1) (by omega)
        cases hab
        simp only [Nat.zero_mul, Nat.add_zero, Nat.one_mul] at hx0 hx1 hx2 hy0 hy1 hy2
        have hxm : x ∈ ms := List.mem_of_getElem? hx
        have hym : y ∈ ms := List.mem_of_getElem? hy
        have hlx : x.2.length = nx2 := by obtain ⟨_, _, _, _, h9⟩ := hX; exact h9.len
        have hly : y.2.length = ny2 := by obtain ⟨_, _, _, _, h9⟩ := hY; exact h9.len
        have hmemR : ∀ m ∈ ms, m.2.length ≤ rowsOf ms ∧ colsOf m.2 ≤ blkCols ms := fun m hm => by
          obtain ⟨l1, l2, rfl⟩ := List.append_of_mem hm
          unfold rowsOf blkCols
          simp only [List.map_append, List.map_cons, List.sum_append, List.sum_cons]
          exact ⟨by omega, by omega⟩
        have hxb : nx2 ≤ 1048576 := by have := (hmemR x hxm).1; have := HRB.out; omega
        have hyb : ny2 ≤ 1048576 := by have := (hmemR y hym).1; have := HRB.out; omega
        have hxc : colsOf x.2 ≤ 524288 := Nat.le_trans (hmemR x hxm).2 HCB.out
        have hyc : colsOf y.2 ≤ 524288 := Nat.le_trans (hmemR y hym).2 HCB.out
        have hKL : nl (x.1 * y.1).natAbs ≤ 2 * K := by
          obtain ⟨l1, g1, g2, g3, _⟩ := hX
          obtain ⟨l2, g4, g5, g6, _⟩ := hY
          rw [Int.natAbs_mul]
          have e1 := nl_mul x.1.natAbs y.1.natAbs
          have e2 := nl_of g1 (Lib.hid g2)
          have e3 := nl_of g4 (Lib.hid g5)
          omega
        have HCELLS := Lib.hid (fun (W' : World) (hE : Ext w9 W') => (⟨(hE.cell (p := ⟨b5, o5, none⟩) hb5).trans hx0, (hE.cell (p := ⟨b5, o5 + 1, none⟩) hb5).trans hx1, (hE.cell (p := ⟨b5, o5 + 2, none⟩) hb5).trans hx2, (hE.cell (p := ⟨b5, o5 + 3, none⟩) hb5).trans hy0, (hE.cell (p := ⟨b5, o5 + 3 + 1, none⟩) hb5).trans hy1, (hE.cell (p := ⟨b5, o5 + 3 + 2, none⟩) hb5).trans hy2⟩ : _ ∧ _ ∧ _ ∧ _ ∧ _ ∧ _))
        have HX := Lib.hid hX
        have HY := Lib.hid hY
        have HXC := Lib.hid hxc
        have HYC := Lib.hid hyc
        have HKL := Lib.hid hKL
        have HLX := Lib.hid hlx
        have HLY := Lib.hid hly
        obtain ⟨s2, hs2⟩ : ∃ s, stackE x y = s := ⟨_, rfl⟩
        have HS2 := Lib.hid hs2
        obtain ⟨qS, hqS⟩ : ∃ q, stackQ x y = q := ⟨_, rfl⟩
        have HQS := Lib.hid hqS
        clear hL hx hy hxm hym hlx hly hmemR hX hY hxc hyc hKL hs2 hqS hEw hx0 hx1 hx2 hy0 hy1 hy2 hnb
        have h0i : 0 < i := by omega
        have h1i : (1 : Int) < (i : Int) := by omega
        go_upto_region 13 with (fail)
        refine parts_r13 K hK w9 w9 (Lib.hid (Ext.refl _)) i c b5 o5 sx ax nx cx ax2 nx2 cx2 x sy ay ny cy ay2 ny2 cy2 y h0i h1i HCELLS HX HY hxb hyb HXC HYC s2 HS2 qS HQS _ _ _ _ _ _ _ _ _ _ _ _ _ _ _ _ _ _ _ _ _ _ _ _ _ _ _ _ _ _ _ _ _ _ _ _ _ _ _ _ _ _ _ _ _ _ _ _ _ _ _ _ _ _ _ _ _ _ _ _ _ _ _ _ _ _ _ _ _ _ _ _ _ _ _ _ _ _ _ _ _ _ _ _ _ _ _ _ _ _ _ _ _ _ _ _ _ _ _ _ _ _ _ _ _ _ _ _ _ _ _ _ _ _ _ _ _ _ _ _ _ _ _ _ _ _ _ _ _ _ _ _ _ _ _ _ _ _ _ _ _ _ _ _ _ _ _ _ _ _ _ _ _ _ _ _ _ _ _ _ _ _ _ _ _ _ _ _ _ _ _ _ _ _ _ _ _ _ _ _ _ _ _ _ _ _ _ _ _ _ _ _ _ _ _ _ _ _ _ _ _ _ _ _ _ _ _ _ _ _ _ _ _ _ _ _ _ _ _ ?_
        intro v59 v60 v61 v62 v63 v64 v65 v66 v67 v68 qb ba aa na ca aa2 na2 ca2 w' h1 h2 h3 h4
        obtain ⟨wc, rfl⟩ : ∃ x : World, x = w' := ⟨_, rfl⟩
        have HST := h1
        have HSE2 := h2
        have HSO2 := h3
        have HEd := Lib.hid h4
        clear h1 h2 h3 h4
        obtain ⟨w13, rfl⟩ : ∃ x : World, x = wc := ⟨_, rfl⟩
        obtain ⟨z3, hz3⟩ : ∃ z, checksE [x, y] = z := ⟨_, rfl⟩
        have HZ3 := Lib.hid hz3
        obtain ⟨mx, hmx⟩ : ∃ m, colsOf x.2 = m := ⟨_, rfl⟩
        obtain ⟨my, hmy⟩ : ∃ m, colsOf y.2 = m := ⟨_, rfl⟩
        have HMX := Lib.hid hmx
        have HMY := Lib.hid hmy
        clear hz3 hmx hmy
        go_upto_region 14 with (fail)
        refine parts_r14 K hK w9 w13 HEd i c b5 o5 sx ax nx cx ax2 nx2 cx2 x sy ay ny cy ay2 ny2 cy2 y h0i h1i HCELLS HX HY hxb hyb HXC HYC z3 HZ3 _ _ _ _ _ _ _ _ _ _ _ _ _ _ _ _ _ _ _ _ _ _ _ _ _ _ _ _ _ _ _ _ _ _ _ _ _ _ _ _ _ _ _ _ _ _ _ _ _ _ _ _ _ _ _ _ _ _ _ _ _ _ _ _ _ _ _ _ _ _ _ _ _ _ _ _ _ _ _ _ _ _ _ _ _ _ _ _ _ _ _ _ _ _ _ _ _ _ _ _ _ _ _ _ _ _ _ _ _ _ _ _ _ _ _ _ _ _ _ _ _ _ _ _ _ _ _ _ _ _ _ _ _ _ _ _ _ _ _ _ _ _ _ _ _ _ _ _ _ _ _ _ _ _ _ _ _ _ _ _ _ _ _ _ _ _ _ _ _ _ _ _ _ _ _ _ _ _ _ _ _ _ _ _ _ _ _ _ _ _ _ _ _ _ _ _ _ _ _ _ _ _ _ _ _ _ _ _ _ _ _ _ _ _ _ _ _ _ _ ?_
        intro v69 v70 v71 v72 v73 v74 v75 w' hE'
        obtain ⟨wc, rfl⟩ : ∃ x : World, x = w' := ⟨_, rfl⟩
        have HE14 := Lib.hid hE'
        clear hE'
        obtain ⟨w14, rfl⟩ : ∃ x : World, x = wc := ⟨_, rfl⟩
        have HEe := Lib.hid (Ext.trans HEd.out HE14.out)
        obtain ⟨hx0, hx1, hx2, hy0, hy1, hy2⟩ := HCELLS.out _ HEe.out
        go_wp2_with fail
        refine (r11Size_any K w14 sx ax ax2 nx cx nx2 cx2 x.1 x.2 (HX.out.ext HEe.out) mx HMX).mono ?_
        rintro e w15 ⟨rfl, hE15⟩
        have HE15 := Lib.hid hE15
        clear hx0 hx1 hx2 hy0 hy1 hy2
        obtain ⟨hx0, hx1, hx2, hy0, hy1, hy2⟩ := HCELLS.out _ (Ext.trans HEe.out hE15)
        clear hE15
        go_wp2_with fail
        refine (r11Size_any K w15 sy ay ay2 ny cy ny2 cy2 y.1 y.2 (HY.out.ext (Ext.trans HEe.out HE15.out)) my HMY).mono ?_
        rintro e w16 ⟨rfl, hE16⟩
        have HE16 := Lib.hid (Ext.trans HE15.out hE16)
        clear hx0 hx1 hx2 hy0 hy1 hy2 hE16
        go_upto_region 17 with (fail)
        refine parts_r17 w16 z3 s2 nx2 ny2 mx my x y HS2 HZ3 HLX HLY HMX HMY _ _ _ _ _ _ _ _ _ _ _ _ _ _ _ _ _ _ _ _ _ _ _ _ _ _ _ _ _ _ _ _ _ _ _ _ _ _ _ _ _ _ _ _ _ _ _ _ _ _ _ _ _ _ _ _ _ _ _ _ _ _ _ _ _ _ _ _ _ _ _ _ _ _ _ _ _ _ _ _ _ _ _ _ _ _ _ _ _ _ _ _ _ _ _ _ _ _ _ _ _ _ _ _ _ _ _ _ _ _ _ _ _ _ _ _ _ _ _ _ _ _ _ _ _ _ _ _ _ _ _ _ _ _ _ _ _ _ _ _ _ _ _ _ _ _ _ _ _ _ _ _ _ _ _ _ _ _ _ _ _ _ _ _ _ _ _ _ _ _ _ _ _ _ _ _ _ _ _ _ _ _ _ _ _ _ _ _ _ _ _ _ _ _ _ _ _ _ _ _ _ _ _ _ _ _ _ _ _ _ _ _ _ _ _ ?_
        intro v90 v91 v92 v93 v94 v95 v96 v97 v98 v99 v100 v101 v102 v103 bC w' h1 h2
        obtain rfl := h2
        have HBC := h1
        obtain ⟨wc, rfl⟩ : ∃ x : World, x = w' := ⟨_, rfl⟩
        clear h1
        obtain ⟨w17, rfl⟩ : ∃ x : World, x = wc := ⟨_, rfl⟩
        go_upto_if 104 with (fail)
        refine parts_if104 w17 bC z3 s2 HBC _ _ _ _ _ _ _ _ _ _ _ _ _ _ _ _ _ _ _ _ _ _ _ _ _ _ _ _ _ _ _ _ _ _ _ _ _ _ _ _ _ _ _ _ _ _ _ _ _ _ _ _ _ _ _ _ _ _ _ _ _ _ _ _ _ _ _ _ _ _ _ _ _ _ _ _ _ _ _ _ _ _ _ _ _ _ _ _ _ _ _ _ _ _ _ _ _ _ _ _ _ _ _ _ _ _ _ _ _ _ _ _ _ _ _ _ _ _ _ _ _ _ _ _ _ _ _ _ _ _ _ _ _ _ _ _ _ _ _ _ _ _ _ _ _ _ _ _ _ _ _ _ _ _ _ _ _ _ _ _ _ _ _ _ _ _ _ _ _ _ _ _ _ _ _ _ _ _ _ _ _ _ _ _ _ _ _ _ _ _ _ _ _ _ _ _ _ _ _ _ _ _ _ _ _ _ _ _ _ _ _ _ _ _ _ _ _ _ ?_
        obtain ⟨wc, rfl⟩ : ∃ x : World, x = w17 := ⟨_, rfl⟩
        obtain ⟨w18, rfl⟩ : ∃ x : World, x = wc := ⟨_, rfl⟩
        have HEf := Lib.hid (Ext.trans HEe.out HE16.out)
        have HE13 := Lib.hid (Ext.trans HE14.out HE16.out)
        go_upto_region 19 with (fail)
        refine parts_r19 K hK w9 w18 HEf i c b5 o5 sx ax nx cx ax2 nx2 cx2 x sy ay ny cy ay2 ny2 cy2 y h0i h1i HCELLS HX HY hxb hyb HXC HYC HKL s2 HS2 qS HQS qb ba aa na ca aa2 na2 ca2 (Lib.hid (HST.out.ext HE13.out)) HSE2 (Lib.hid (fun h0 => ⟨(HSO2.out h0).1, (HSO2.out h0).2.1.ext (Nat.le_refl _) HE13.out, (HSO2.out h0).2.2.ext (Nat.le_refl _) HE13.out⟩)) _ _ _ _ _ _ _ _ _ _ _ _ _ _ _ _ _ _ _ _ _ _ _ _ _ _ _ _ _ _ _ _ _ _ _ _ _ _ _ _ _ _ _ _ _ _ _ _ _ _ _ _ _ _ _ _ _ _ _ _ _ _ _ _ _ _ _ _ _ _ _ _ _ _ _ _ _ _ _ _ _ _ _ _ _ _ _ _ _ _ _ _ _ _ _ _ _ _ _ _ _ _ _ _ _ _ _ _ _ _ _ _ _ _ _ _ _ _ _ _ _ _ _ _ _ _ _ _ _ _ _ _ _ _ _ _ _ _ _ _ _ _ _ _ _ _ _ _ _ _ _ _ _ _ _ _ _ _ _ _ _ _ _ _ _ _ _ _ _ _ _ _ _ _ _ _ _ _ _ _ _ _ _ _ _ _ _ _ _ _ _ _ _ _ _ _ _ _ _ _ _ _ _ _ _ _ _ _ _ _ _ _ _ _ _ _ ?_
        intro v105 v106 v107 v108 v109 v110 v111 v112 v113 v114 v115 v116 v117 v118 v119 v120 v121 v122 v123 v124 v125 v126 v127 v128 w' hE'
        obtain ⟨wc, rfl⟩ : ∃ x : World, x = w' := ⟨_, rfl⟩
        have HE19 := Lib.hid hE'
        clear hE'
        obtain ⟨w19, rfl⟩ : ∃ x : World, x = wc := ⟨_, rfl⟩
        have HEg := Lib.hid (Ext.trans HEf.out HE19.out)
        have HPLg := Lib.hid (HPL.out.ext (Ext.trans HE9.out HEg.out))
        obtain ⟨s4, hs4⟩ : ∃ s, cutE x r r2 k k2 = s := ⟨_, rfl⟩
        have HS4 := Lib.hid hs4
        obtain ⟨qC, hqC⟩ : ∃ q, cutR x r r2 k k2 = q := ⟨_, rfl⟩
        have HQC := Lib.hid hqC
        clear hs4 hqC
        go_upto_region 21 with (fail)
        refine parts_r21 K hK w9 w19 HEg i c b5 o5 sx ax nx cx ax2 nx2 cx2 x sy ay ny cy ay2 ny2 cy2 y h0i h1i HCELLS HX HY hxb hyb HXC HYC r r2 k k2 s4 HS4 qC HQC w.heap.size HPLg _ _ _ _ _ _ _ _ _ _ _ _ _ _ _ _ _ _ _ _ _ _ _ _ _ _ _ _ _ _ _ _ _ _ _ _ _ _ _ _ _ _ _ _ _ _ _ _ _ _ _ _ _ _ _ _ _ _ _ _ _ _ _ _ _ _ _ _ _ _ _ _ _ _ _ _ _ _ _ _ _ _ _ _ _ _ _ _ _ _ _ _ _ _ _ _ _ _ _ _ _ _ _ _ _ _ _ _ _ _ _ _ _ _ _ _ _ _ _ _ _ _ _ _ _ _ _ _ _ _ _ _ _ _ _ _ _ _ _ _ _ _ _ _ _ _ _ _ _ _ _ _ _ _ _ _ _ _ _ _ _ _ _ _ _ _ _ _ _ _ _ _ _ _ _ _ _ _ _ _ _ _ _ _ _ _ _ _ _ _ _ _ _ _ _ _ _ _ _ _ _ _ _ _ _ _ _ _ _ _ _ _ _ _ _ _ _ _ ?_
        intro v130 v131 v132 v133 v134 v135 v136 v137 v138 v139 v140 v141 v142 v143 v144 qc ba' aa' na' ca' aa2' na2' ca2' w' h1 h2 h3 h4
        obtain ⟨wc, rfl⟩ : ∃ x : World, x = w' := ⟨_, rfl⟩
        have HCT := h1
        have HCE := h2
        have HCO := h3
        have HE21 := Lib.hid h4
        clear h1 h2 h3 h4
        obtain ⟨w21, rfl⟩ : ∃ x : World, x = wc := ⟨_, rfl⟩
        obtain ⟨z4, hz4⟩ : ∃ z, checkE x.1 x.2 = z := ⟨_, rfl⟩
        have HZ4 := Lib.hid hz4
        clear hz4
        have HEh := Lib.hid (Ext.trans HEg.out HE21.out)
        obtain ⟨hx0, hx1, hx2, hy0, hy1, hy2⟩ := HCELLS.out _ HEh.out
        clear hy0 hy1 hy2
        go_wp2_with fail
        refine (r11Check_any K (by omega) w21 sx ax ax2 nx cx nx2 cx2 x.1 x.2 (HX.out.ext HEh.out) z4 HZ4).mono ?_
        rintro e w22 ⟨rfl, hE22⟩
        have HE22 := Lib.hid hE22
        clear hx0 hx1 hx2 hE22
        go_upto_region 23 with (fail)
        refine parts_r23 w22 x z4 nx2 mx r r2 k k2 s4 HS4 w.heap.size (Lib.hid (HPLg.out.ext (Ext.trans HE21.out HE22.out))) HZ4 HLX HMX _ _ _ _ _ _ _ _ _ _ _ _ _ _ _ _ _ _ _ _ _ _ _ _ _ _ _ _ _ _ _ _ _ _ _ _ _ _ _ _ _ _ _ _ _ _ _ _ _ _ _ _ _ _ _ _ _ _ _ _ _ _ _ _ _ _ _ _ _ _ _ _ _ _ _ _ _ _ _ _ _ _ _ _ _ _ _ _ _ _ _ _ _ _ _ _ _ _ _ _ _ _ _ _ _ _ _ _ _ _ _ _ _ _ _ _ _ _ _ _ _ _ _ _ _ _ _ _ _ _ _ _ _ _ _ _ _ _ _ _ _ _ _ _ _ _ _ _ _ _ _ _ _ _ _ _ _ _ _ _ _ _ _ _ _ _ _ _ _ _ _ _ _ _ _ _ _ _ _ _ _ _ _ _ _ _ _ _ _ _ _ _ _ _ _ _ _ _ _ _ _ _ _ _ _ _ _ _ _ _ _ _ _ _ _ _ ?_
        intro v149 v150 v151 v152 v153 v154 v155 v156 v157 v158 v159 v160 v161 v162 v163 v164 v165 v166 v167 v168 v169 v170 v171 v172 v173 v174 v175 v176 v177 v178 v179 v180 v181 v182 v183 v184 v185 bC w' h1 h2
        obtain rfl := h2
        have HBC2 := h1
        obtain ⟨wc, rfl⟩ : ∃ x : World, x = w' := ⟨_, rfl⟩
        clear h1
        obtain ⟨w23, rfl⟩ : ∃ x : World, x = wc := ⟨_, rfl⟩
        go_upto_if 186 with (fail)
        refine parts_if186 w23 bC z4 s4 HBC2 _ _ _ _ _ _ _ _ _ _ _ _ _ _ _ _ _ _ _ _ _ _ _ _ _ _ _ _ _ _ _ _ _ _ _ _ _ _ _ _ _ _ _ _ _ _ _ _ _ _ _ _ _ _ _ _ _ _ _ _ _ _ _ _ _ _ _ _ _ _ _ _ _ _ _ _ _ _ _ _ _ _ _ _ _ _ _ _ _ _ _ _ _ _ _ _ _ _ _ _ _ _ _ _ _ _ _ _ _ _ _ _ _ _ _ _ _ _ _ _ _ _ _ _ _ _ _ _ _ _ _ _ _ _ _ _ _ _ _ _ _ _ _ _ _ _ _ _ _ _ _ _ _ _ _ _ _ _ _ _ _ _ _ _ _ _ _ _ _ _ _ _ _ _ _ _ _ _ _ _ _ _ _ _ _ _ _ _ _ _ _ _ _ _ _ _ _ _ _ _ _ _ _ _ _ _ _ _ _ _ _ _ _ _ _ _ _ _ ?_
        obtain ⟨wc, rfl⟩ : ∃ x : World, x = w23 := ⟨_, rfl⟩
        obtain ⟨w24, rfl⟩ : ∃ x : World, x = wc := ⟨_, rfl⟩
        go_wp2_with fail
        have HFIN := Lib.hid (Ext.trans HE2.out (Ext.trans HE9.out (Ext.trans HEh.out HE22.out)))
        refine parts_r25 K hK w9 w24 (Lib.hid (Ext.trans HEh.out HE22.out)) i c b5 o5 sx ax nx cx ax2 nx2 cx2 x sy ay ny cy ay2 ny2 cy2 y h0i h1i HCELLS HX HY hxb hyb HXC HYC r r2 k k2 s4 HS4 qC HQC w.heap.size (Lib.hid (HPLg.out.ext (Ext.trans HE21.out HE22.out))) qc ba' aa' na' ca' aa2' na2' ca2' (Lib.hid (HCT.out.ext HE22.out)) HCE (Lib.hid (fun h0 => ⟨(HCO.out h0).1, (HCO.out h0).2.1.ext (Nat.le_refl _) HE22.out, (HCO.out h0).2.2.ext (Nat.le_refl _) HE22.out⟩)) _ _ _ _ _ _ _ _ _ _ _ _ _ _ _ _ _ _ _ _ _ _ _ _ _ _ _ _ _ _ _ _ _ _ _ _ _ _ _ _ _ _ _ _ _ _ _ _ _ _ _ _ _ _ _ _ _ _ _ _ _ _ _ _ _ _ _ _ _ _ _ _ _ _ _ _ _ _ _ _ _ _ _ _ _ _ _ _ _ _ _ _ _ _ _ _ _ _ _ _ _ _ _ _ _ _ _ _ _ _ _ _ _ _ _ _ _ _ _ _ _ _ _ _ _ _ _ _ _ _ _ _ _ _ _ _ _ _ _ _ _ _ _ _ _ _ _ _ _ _ _ _ _ _ _ _ _ _ _ _ _ _ _ _ _ _ _ _ _ _ _ _ _ _ _ _ _ _ _ _ _ _ _ _ _ _ _ _ _ _ _ _ _ _ _ _ _ _ _ _ _ _ _ _ _ _ _ _ _ _ _ _ _ _ _ ?_
        intro v187 v188 v189 v190 v191 v192 v193 v194 v195 v196 v197 v198 v199 v200 v201 v202 v203 v204 v205 v206 v207 v208 v209 v210 v211 v212 v213 v214 v215 v216 v217 v218 w' hE'
        have HF := Lib.hid (Ext.trans HFIN.out hE')
        clear hE'
        go_wp2_with fail
        go_ret
        exact ⟨rfl, HF.out⟩
end Go.Proofs.Ytbhenelehhiakaa
