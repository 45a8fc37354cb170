/-
  The references' matrices, part 3: From.
-/
import Derived.Test.YtbhenelehhiakaaGreatSum27
import Derived.Test.YtbhenelehhiakaaGreatSum24
import Derived.Test.YtbhenelehhiakaaGreatSum26
set_option linter.unusedVariables false
set_option linter.unusedSimpArgs false
namespace Go.Proofs.YtbhenelehhiakaaGreat
open Go.RowKit

/-- a row of integers that lies in the world w0 -/
def rRowO (w0 : World) (B0 : Nat) : Rd (List Int) where
  size := 1
  ok _ _ cs zs := ∃ a n c, cs = [.slice a n c] ∧ Sl rIntN B0 w0 a n c zs
  len h := by obtain ⟨a, n, c, h, _⟩ := h; rw [h]; rfl
  mono h _ _ := h

structure AllSt (w : World) (K : Nat) (qs : List Rat) (vo : Value) (wr : World) : Prop where
  ex : ∃ css, Grp (rRatO w K) w.heap.size 75 wr vo qs.length qs css

theorem flat_len_take {α : Type} (xss : List (List α)) (i : Nat) : (xss.take i).flatten.length ≤ xss.flatten.length := by
  conv => rhs; rw [← List.take_append_drop i xss]
  rw [List.flatten_append, List.length_append]; omega
theorem flat_drop_take {α : Type} (xss : List (List α)) (i : Nat) (hi : i < xss.length) : (xss.flatten.drop (xss.take i).flatten.length).take xss[i].length = xss[i] := by
  have e : xss.flatten = (xss.take i).flatten ++ (xss[i] ++ (xss.drop (i + 1)).flatten) := by
    conv => lhs; rw [← List.take_append_drop i xss]
    rw [List.flatten_append, List.drop_eq_getElem_cons hi, List.flatten_cons]
  rw [e, List.drop_left, List.take_left]

theorem rRatO_free {w0 : World} {K : Nat} : ∀ B w B' w' cs x, (rRatO w0 K).ok B w cs x → (rRatO w0 K).ok B' w' cs x := fun _ _ _ _ _ _ h => h

theorem AllSt.add {w wr w1 : World} {K : Nat} {qs xs : List Rat} {vo v' : Value} {css2 : List (List Value)} {css : List (List Value)} (hG : Grp (rRatO w K) w.heap.size 75 wr vo qs.length qs css)
    (hl : css2.length = xs.length) (hok : ∀ k (hk : k < css2.length) (hx : k < xs.length), (rRatO w K).ok 0 w css2[k] xs[k]) (hown : w1.ownsRow w.heap.size 75 4 v' (qs.length + xs.length) (css.flatten ++ css2.flatten)) (hs : w.heap.size ≤ w1.heap.size) : AllSt w K (qs ++ xs) v' w1 := by
  refine ⟨css ++ css2, Grp.free rRatO_free (by rw [List.length_append, List.length_append, hG.len, hl]) rfl (by rw [List.flatten_append, List.length_append]; exact hown) (fun k hk hx => ?_) hs⟩
  by_cases hkn : k < css.length
  · rw [List.getElem_append_left hkn, List.getElem_append_left (by have := hG.len; omega)]
    obtain ⟨Wk, Bk, _, p2, _⟩ := hG.parts k hkn (by have := hG.len; omega)
    exact p2
  · rw [List.getElem_append_right (by omega), List.getElem_append_right (by have := hG.len; omega)]
    have e : k - css.length = k - qs.length := by have := hG.len; omega
    have := hok (k - css.length) (by rw [List.length_append] at hk; omega) (by rw [List.length_append] at hx; have := hG.len; omega)
    exact rRatO_free 0 w 0 w1 _ _ (by simpa only [e] using this)

set_option maxRecDepth 100000 in
set_option maxHeartbeats 8000000 in
theorem from_any (K KL : Nat) (hK : 2 * K + KL + 2 ≤ 549755813888) (w : World) (a : Option Addr) (n c : Nat) (qss : List (List Rat)) (h : Sl (rRatK K).slice 0 w a n c qss) (hn : n ≤ 1099511627776) (hN : qss.flatten.length ≤ 1099511627776) (hL : nl (comDen qss.flatten) ≤ KL) (D : Nat) (hD : Hid (comDen qss.flatten = D)) (hrow : Hid (∀ qs ∈ qss, qs.length ≤ 1099511627776)) :
    Calls Tryz.prog 74 #[.slice a n c] w (RFrom w D (qss.map fun qs => qs.map (comNum D))) := by
  have HS := Lib.hid h
  have hmost := h.most
  have hcap := h.cap
  have hlen := Lib.hid h.len
  clear h
  go_enter Tryz.func74, Tryz.ntmps74
  go_wp2_with fail
  have r := Blk.new w 28 #[.bool false, .slice none 0 0, .slice none 0 0]
  have hEW : Ext w (w.alloc (Obj.cells #[.bool false, .slice none 0 0, .slice none 0 0] 28)) := ((Below.refl _ w).alloc (by simp) _)
  generalize hgW : w.alloc (Obj.cells #[.bool false, .slice none 0 0, .slice none 0 0] 28) = W at *
  clear hgW
  replace r_0 := r.cell (i := 0) rfl
  replace r_1 := r.cell (i := 1) rfl
  replace r_2 := r.cell (i := 2) rfl
  replace r_f0 := r.free 0
  replace r_f1 := r.free 1
  replace r_f2 := r.free 2
  replace r_lt := r.lt
  have HR0 := Lib.hid r
  have HE0 := Lib.hid hEW
  clear r r_0 r_1 r_2 r_f0 r_f1 r_f2 r_lt hEW
  go_loopg [3, 14] n (fun q vo vi wr => ∃ (i : Nat), i ≤ n ∧ q = n - i ∧ vi = .int .i64 (i : Int) ∧ Hid (AllSt W K (qss.take i).flatten vo wr) ∧ Hid (Ext W wr))
  case atStart => exact ⟨0, Nat.zero_le _, by omega, rfl, Lib.hid ⟨[], Grp.nil _ _ _ _⟩, Lib.hid (Ext.refl _)⟩
  case round =>
    obtain ⟨i, hi, hq, rfl, HA, HE⟩ := hrel
    by_cases hin : i < n
    · obtain ⟨b5, o5, cs, ha5, ⟨a1, n1, c1, rfl, hrw⟩, hc⟩ := HS.out.at_ i (by rw [hlen.out]; exact hin)
      subst ha5
      have hb5 := cel_lt (hc 0 (by simp))
      have hc5 := (hc 0 (by simp)).cell
      have hc5 := ((Ext.trans HE0.out HE.out).cell (p := ⟨b5, o5 + i, none⟩) hb5).trans (by simpa [Rd.slice] using hc5)
      have hil : i < qss.length := by rw [hlen.out]; exact hin
      have hn1 : n1 = qss[i].length := hrw.len.symm
      have hn1b : n1 ≤ 1099511627776 := by rw [hn1]; exact hrow.out _ (List.getElem_mem _)
      obtain ⟨css2, hl2, hok2, hsz2, hsrc, hnone⟩ := hrw.cells
      obtain ⟨css, hG⟩ := HA.out.ex
      have hlt := hG.own.lt
      have HFT := Lib.hid (flat_take qss i hil)
      have hflen := flat_len_take qss (i + 1)
      rw [HFT.out, List.length_append] at hflen
      have hnews : ∀ ad, a1 = some ad → ∀ j u, css2.flatten[j]? = some u → wr.cell? (ad.add j) = some u := fun ad e j u hu => by
        have h9 := hsrc ad e j u hu
        exact ((Ext.trans HE0.out HE.out).cell (World.block_lt_of_cell? _ _ h9)).trans h9
      have hone : ∀ u ∈ css2.flatten, u.oneCell' = true := by
        intro u hu
        obtain ⟨cs, hcs, hu⟩ := List.mem_flatten.1 hu
        obtain ⟨k, hk, rfl⟩ := List.getElem_of_mem hcs
        obtain ⟨b, a, n, c, b2, a2, n2, c2, e, _⟩ := hok2 k hk (by omega)
        rw [e] at hu
        simp at hu
        rcases hu with rfl | rfl | rfl | rfl <;> rfl
      have hfl2 : css2.flatten.length = n1 * 4 := by
        rw [List.length_flatten, show css2.map List.length = List.replicate css2.length 4 from ?_, List.sum_replicate_nat, hl2, ← hn1]
        refine List.ext_getElem (by simp) fun k h1 h2 => ?_
        rw [List.getElem_map, List.getElem_replicate]
        exact hsz2 _ (List.getElem_mem _)
      have hokW : ∀ k (hk : k < css2.length) (hx : k < qss[i].length), (rRatO W K).ok 0 W css2[k] qss[i][k] := fun k hk hx => by
        obtain ⟨b, a, n, c, b2, a2, n2, c2, e, l, l2, g1, g2, g3⟩ := hok2 k hk hx
        exact ⟨b, a, n, c, b2, a2, n2, c2, e, RatS.ext ⟨l, l2, g1.mono (Nat.zero_le _) (Kept.refl _ _), g2.mono (Nat.zero_le _) (Kept.refl _ _), g3⟩ HE0.out⟩
      obtain ⟨i0, hi0, hz0, hz1, hz2⟩ := info_parts info_rat
      have HNW := Lib.hid hnews
      have HON := Lib.hid hone
      have HF2 := Lib.hid hfl2
      have HOK := Lib.hid hokW
      have HNO := Lib.hid hnone
      have HL2 := Lib.hid hl2
      have HN1 := Lib.hid hn1
      have HGG := Lib.hid hG
      clear hnews hone hfl2 hokW hnone hl2 hn1 hsrc hok2 hsz2 hc hrw hG
      rw [← HN1.out] at hflen
      generalize hNN : (qss.take i).flatten.length = N at *
      have HNN := Lib.hid hNN
      clear hNN
      go_wp2_with (at_builtin; refine wpList_append_src rfl (.tmp 18) (.tmp 19) 68 rfl W.heap.size 75 i0 _ 4 64 under_rats hi0 hz0 hz1 hz2 rfl (by decide) _ N _ rfl HGG.out.own a1 n1 c1 css2.flatten rfl HNO.out HF2.out HNW.out HON.out (by unfold maxLen; omega) (by omega) HE.out.size ?_; intro v' w1 hown' hgrow hat)
      have HEz := Lib.hid (HE.out.grown hgrow HE.out.size (fun k e => (hlt k e).1))
      have HAz : Hid (AllSt W K ((qss.take i).flatten ++ qss[i]) v' w1) := Lib.hid (by
        have hN2 := HNN.out
        subst hN2
        exact AllSt.add HGG.out HL2.out HOK.out (by rw [← HN1.out]; exact hown') HEz.out.size)
      clear hown' hgrow hat
      go_roundg (n - (i + 1))
      case measure => omega
      case rel => exact ⟨i + 1, by omega, rfl, by go_num, by rw [HFT.out]; exact HAz, HEz⟩
    · obtain rfl : i = n := by omega
      have HA2 := HA.out
      rw [List.take_of_length_le (by rw [hlen.out]; exact Nat.le_refl _)] at HA2
      obtain ⟨css, hG⟩ := HA2.ex
      obtain ⟨aa, ca, rfl, hsl⟩ := hG.sl
      have hsK : Sl (rRatK K) 0 wr aa qss.flatten.length ca qss.flatten := hsl.weak (Nat.zero_le _) rfl fun _ _ ⟨b, a, n, c, b2, a2, n2, c2, e, hh⟩ => by
        obtain ⟨l, l2, g1, g2, g3⟩ := hh.ext HE.out
        exact ⟨b, a, n, c, b2, a2, n2, c2, e, l, l2, g1, g2, g3⟩
      have HSK := Lib.hid hsK
      have HEw := Lib.hid (Ext.trans HE0.out HE.out)
      have HRw := Lib.hid (HR0.out.ext HE.out)
      clear hG hsl hsK HA2 HA
      obtain ⟨wz, rfl⟩ : ∃ wz : World, wz = wr := ⟨_, rfl⟩
      obtain ⟨N, hNN⟩ : ∃ N, qss.flatten.length = N := ⟨_, rfl⟩
      rw [hNN] at HSK hN ⊢
      have HNN := Lib.hid hNN
      clear hNN
      go_wp2_with fail
      refine (r5Common_any K KL hK wz aa N ca _ HSK.out hL D hD hN).mono ?_
      rintro e w2 ⟨a5, n5, c5, a6, n6, c6, rfl, h5, h6, hE5, hform⟩
      obtain rfl : n6 = N := by rw [← h6.len, List.length_map]; exact HNN.out
      have hcap6 := h6.cap
      have hmost6 := h6.most
      have H5 := Lib.hid h5
      have H6 := Lib.hid h6
      have HE5 := Lib.hid hE5
      have r := HRw.out.ext hE5
      clear h5 h6 hE5
      skip
      replace r_0 := r.cell (i := 0) rfl
      replace r_1 := r.cell (i := 1) rfl
      replace r_2 := r.cell (i := 2) rfl
      replace r_f0 := r.free 0
      replace r_f1 := r.free 1
      replace r_f2 := r.free 2
      replace r_lt := r.lt
      go_wp2_with fail
      have d := Blk.new w2 25 #[.bool false, .slice a5 n5 c5]
      have o := Blk.new (w2.alloc (Obj.cells #[.bool false, .slice a5 n5 c5] 25)) 28 #[.bool false, .slice a5 n5 c5, .slice none 0 0]
      replace d := d.ext ((Below.refl _ _).alloc (Nat.le_refl _) (Obj.cells #[.bool false, .slice a5 n5 c5, .slice none 0 0] 28))
      have hEW3 : Ext w2 ((w2.alloc (Obj.cells #[.bool false, .slice a5 n5 c5] 25)).alloc (Obj.cells #[.bool false, .slice a5 n5 c5, .slice none 0 0] 28)) := (((Below.refl _ w2).alloc (by simp) _).alloc (by simp) _)
      generalize hgW3 : (w2.alloc (Obj.cells #[.bool false, .slice a5 n5 c5] 25)).alloc (Obj.cells #[.bool false, .slice a5 n5 c5, .slice none 0 0] 28) = W3 at *
      clear hgW3
      simp only [World.size_alloc] at o
      have d_ne_o : ¬ w2.heap.size = w2.heap.size + 1 := by omega
      have o_ne_d : ¬ w2.heap.size + 1 = w2.heap.size := by omega
      replace d_0 := d.cell (i := 0) rfl
      replace d_1 := d.cell (i := 1) rfl
      replace o_0 := o.cell (i := 0) rfl
      replace o_1 := o.cell (i := 1) rfl
      replace o_2 := o.cell (i := 2) rfl
      have HE3 := Lib.hid hEW3
      have HO0 := Lib.hid o
      have HD0 := Lib.hid d
      have hszr := HRw.out.lt
      have hW3 : w2.heap.size + 1 + 1 ≤ W3.heap.size := o.lt
      clear d d_0 d_1 o o_0 o_1 o_2 r r_0 r_1 r_2 r_f0 r_f1 r_f2 r_lt hEW3
      go_loopg [9, 31] i (fun q va vi wx => ∃ (j m : Nat), j ≤ i ∧ q = i - j ∧ vi = .int .i64 (j : Int) ∧ va = .int .i64 (m : Int) ∧ m = (qss.take j).flatten.length ∧ Hid (∃ vo css, Blk wx (w2.heap.size + 1) 28 #[.bool false, .slice a5 n5 c5, vo] ∧ Grp (rRowO w2 wz.heap.size) W3.heap.size 30 wx vo j ((qss.take j).map fun qs => qs.map (comNum D)) css) ∧ Hid (Ext w2 wx) ∧ W3.heap.size ≤ wx.heap.size)
      case atStart => exact ⟨0, 0, Nat.zero_le _, by omega, rfl, rfl, by simp, Lib.hid ⟨_, [], HO0.out, Grp.nil _ _ _ _⟩, HE3, Nat.le_refl _⟩
      case round =>
        obtain ⟨j, m, hj, hq2, rfl, rfl, hm, HO, HEx, hszx⟩ := hrel
        by_cases hji : j < i
        · obtain ⟨b5, o5, cs, ha5, ⟨a1, n1, c1, rfl, hrw⟩, hc⟩ := HS.out.at_ j (by rw [hlen.out]; exact hji)
          subst ha5
          have hb5 := cel_lt (hc 0 (by simp))
          have hc5 := (hc 0 (by simp)).cell
          have hc5 := ((Ext.trans HEw.out (Ext.trans HE5.out HEx.out)).cell (p := ⟨b5, o5 + j, none⟩) hb5).trans (by simpa [Rd.slice] using hc5)
          have hil : j < qss.length := by rw [hlen.out]; exact hji
          have hn1 : n1 = qss[j].length := hrw.len.symm
          have HFT := Lib.hid (flat_take qss j hil)
          have HDT := Lib.hid (flat_drop_take qss j hil)
          have hflen := flat_len_take qss (j + 1)
          rw [HFT.out, List.length_append, ← hm, ← hn1, HNN.out] at hflen
          have HM := Lib.hid hm
          have HN1 := Lib.hid hn1
          obtain ⟨vo, css, ho, hG⟩ := HO.out
          have HG := Lib.hid hG
          have o := ho
          have hlt := hG.own.lt
          clear hm hn1 hrw hc ho hG HO
          skip
          replace o_0 := o.cell (i := 0) rfl
          replace o_1 := o.cell (i := 1) rfl
          replace o_2 := o.cell (i := 2) rfl
          replace o_f0 := o.free 0
          replace o_f1 := o.free 1
          replace o_f2 := o.free 2
          replace o_lt := o.lt
          have hwr : IntKind.i64.wrap ((m : Int) + (n1 : Int)) = (m : Int) + (n1 : Int) := IntWalk.i64_in _ (by omega)
          have hp1 : (0 : Int) ≤ (m : Int) + (n1 : Int) := by omega
          have htn : ((m : Int) + (n1 : Int)).toNat = m + n1 := by omega
          have hle1 : (m : Int) ≤ (m : Int) + (n1 : Int) := by omega
          have hle2 : (m : Int) + (n1 : Int) ≤ (c6 : Int) := by omega
          rcases hform with rfl | ⟨g6, rfl⟩
          · have hc60 := H6.out.nil rfl
            have hn10 : n1 = 0 := by omega
            have hm0 : m = 0 := by omega
            have hn60 : n6 = 0 := by omega
            subst hc60
            subst hn10
            subst hm0
            have hwz : IntKind.i64.wrap (0 : Int) = 0 := IntWalk.i64_in _ (by omega)
            clear hwr htn hp1 hle1 hle2
            obtain rfl := hn60
            have hEA : Ext wr (wr.alloc (Obj.cells #[.slice none 0 0] 30)).drew := ((Below.refl _ _).alloc (Nat.le_refl _) _).drew
            have hG9 := HG.out.keep hEA.size (fun b _ h2 => hEA.block b h2)
            have hbl : Blk (wr.alloc (Obj.cells #[.slice none 0 0] 30)).drew wr.heap.size 30 #[.slice none 0 0] := Blk.new wr 30 #[.slice none 0 0]
            have hnews : ∀ ad, some (⟨wr.heap.size, 0, none⟩ : Addr) = some ad → ∀ (j' : Nat) (u : Value), [.slice none 0 0][j']? = some u → (wr.alloc (Obj.cells #[.slice none 0 0] 30)).drew.cell? (ad.add j') = some u := by
              intro ad e j' u hu
              cases e
              match j', hu with
              | 0, hu => cases hu; exact hbl.cell (i := 0) rfl
              | k + 1, hu => simp at hu
            obtain ⟨i0, hi0, hz0, hz1, hz2⟩ := info_parts info_ints
            have HNW := Lib.hid hnews
            have HG9 := Lib.hid hG9
            have hoE := o.ext hEA
            clear hnews hG9 hbl
            go_wp2_with fail
            go_region_law ((refine step_append_src rfl (.tmp 36) (.tmp 48) 26 rfl W3.heap.size 30 i0 _ 1 24 under_intss hi0 hz0 hz1 hz2 rfl (by decide) vo j _ rfl HG9.out.own (some ⟨wr.heap.size, 0, none⟩) 1 1 [.slice none 0 0] rfl (by simp) rfl HNW.out (by simp [Value.oneCell']) (by unfold maxLen; omega) (by omega) (Nat.le_trans hszx hEA.size) ?_; intro v' w1 hown' hgrow hat; obtain ⟨g', cap', rfl⟩ := ownsRow_succ hown'; replace o := Blk.grown hoE hgrow (fun e => by have := (hlt _ e.symm).1; omega); replace o_0 := o.cell (i := 0) rfl; replace o_1 := o.cell (i := 1) rfl; replace o_2 := o.cell (i := 2) rfl; replace o_f0 := o.free 0; replace o_f1 := o.free 1; replace o_f2 := o.free 2; replace o_lt := o.lt))
            all_goals
              have HROW : Hid ((rRowO w2 wz.heap.size).ok (wr.alloc (Obj.cells #[.slice none 0 0] 30)).drew.heap.size (wr.alloc (Obj.cells #[.slice none 0 0] 30)).drew [.slice none 0 0] (qss[j].map (comNum D))) := Lib.hid (by
                have : qss[j] = [] := List.eq_nil_of_length_eq_zero HN1.out.symm
                rw [this]
                exact ⟨none, 0, 0, rfl, Sl.empty _ _ _ _⟩)
              have HGa := Lib.hid (HG9.out.add hown' hgrow hat HROW.out (Nat.le_trans hszx hEA.size) (fun k e => Nat.lt_of_lt_of_le (hlt k e).2 hEA.size))
              have hgs := hgrow.size
              have HEz := Lib.hid (((Ext.trans HEx.out hEA).grown hgrow (Nat.le_trans HEx.out.size hEA.size) (fun k e => by have := (hlt k e).1; omega)).setCell (p := ⟨w2.heap.size + 1, 2, none⟩) (show w2.heap.size ≤ w2.heap.size + 1 by omega) (.slice (some ⟨g', 0, none⟩) (j + 1) cap'))
              have HOz := Lib.hid (o.set 2 (.slice (some ⟨g', 0, none⟩) (j + 1) cap'))
              have hszz : W3.heap.size ≤ (w1.setCell ⟨w2.heap.size + 1, 2, none⟩ (.slice (some ⟨g', 0, none⟩) (j + 1) cap')).heap.size := by simp only [World.setCell, Array.size_modify]; exact Nat.le_trans (Nat.le_trans hszx hEA.size) hgs
              have HKa := Lib.hid (HGa.out.keep (w' := w1.setCell ⟨w2.heap.size + 1, 2, none⟩ (.slice (some ⟨g', 0, none⟩) (j + 1) cap')) (by simp [World.setCell]) (fun b h1 _ => Below.heap_setCell _ _ _ b (by simp; omega)))
              have HMz : Hid (0 = (qss.take (j + 1)).flatten.length) := Lib.hid (by rw [HFT.out, List.length_append, ← HM.out, ← HN1.out])
              have HTZ : Hid ((qss.take (j + 1)).map (fun qs => qs.map (comNum D)) = (qss.take j).map (fun qs => qs.map (comNum D)) ++ [qss[j].map (comNum D)]) := Lib.hid (by rw [List.take_succ_eq_append_getElem hil, List.map_append]; rfl)
              clear hown' hgrow hat hEA hoE
              go_wp2_with fail
              go_roundg (i - (j + 1))
              case measure => omega
              case rel => exact ⟨j + 1, 0, by omega, rfl, by go_num, by go_num, HMz.out, Lib.hid ⟨_, css ++ [[.slice none 0 0]], HOz.out, by rw [HTZ.out]; exact HKa.out⟩, HEz, hszz⟩
          · skip
            have hEA : Ext wr (wr.alloc (Obj.cells #[.slice (if n1 = 0 then some ⟨g6, 0, none⟩ else some ⟨g6, m * 2, none⟩) n1 n1] 30)).drew := ((Below.refl _ _).alloc (Nat.le_refl _) _).drew
            have hG9 := HG.out.keep hEA.size (fun b _ h2 => hEA.block b h2)
            have hbl : Blk (wr.alloc (Obj.cells #[.slice (if n1 = 0 then some ⟨g6, 0, none⟩ else some ⟨g6, m * 2, none⟩) n1 n1] 30)).drew wr.heap.size 30 #[.slice (if n1 = 0 then some ⟨g6, 0, none⟩ else some ⟨g6, m * 2, none⟩) n1 n1] := Blk.new wr 30 #[.slice (if n1 = 0 then some ⟨g6, 0, none⟩ else some ⟨g6, m * 2, none⟩) n1 n1]
            have hnews : ∀ ad, some (⟨wr.heap.size, 0, none⟩ : Addr) = some ad → ∀ (j' : Nat) (u : Value), [.slice (if n1 = 0 then some ⟨g6, 0, none⟩ else some ⟨g6, m * 2, none⟩) n1 n1][j']? = some u → (wr.alloc (Obj.cells #[.slice (if n1 = 0 then some ⟨g6, 0, none⟩ else some ⟨g6, m * 2, none⟩) n1 n1] 30)).drew.cell? (ad.add j') = some u := by
              intro ad e j' u hu
              cases e
              match j', hu with
              | 0, hu => cases hu; exact hbl.cell (i := 0) rfl
              | k + 1, hu => simp at hu
            obtain ⟨i0, hi0, hz0, hz1, hz2⟩ := info_parts info_ints
            have HNW := Lib.hid hnews
            have HG9 := Lib.hid hG9
            have hoE := o.ext hEA
            clear hnews hG9 hbl
            go_wp2_with fail
            go_region_law ((refine step_append_src rfl (.tmp 36) (.tmp 48) 26 rfl W3.heap.size 30 i0 _ 1 24 under_intss hi0 hz0 hz1 hz2 rfl (by decide) vo j _ rfl HG9.out.own (some ⟨wr.heap.size, 0, none⟩) 1 1 [.slice (if n1 = 0 then some ⟨g6, 0, none⟩ else some ⟨g6, m * 2, none⟩) n1 n1] rfl (by simp) rfl HNW.out (by simp [Value.oneCell']) (by unfold maxLen; omega) (by omega) (Nat.le_trans hszx hEA.size) ?_; intro v' w1 hown' hgrow hat; obtain ⟨g', cap', rfl⟩ := ownsRow_succ hown'; replace o := Blk.grown hoE hgrow (fun e => by have := (hlt _ e.symm).1; omega); replace o_0 := o.cell (i := 0) rfl; replace o_1 := o.cell (i := 1) rfl; replace o_2 := o.cell (i := 2) rfl; replace o_f0 := o.free 0; replace o_f1 := o.free 1; replace o_f2 := o.free 2; replace o_lt := o.lt))
            all_goals
              have HROW : Hid ((rRowO w2 wz.heap.size).ok (wr.alloc (Obj.cells #[.slice (if n1 = 0 then some ⟨g6, 0, none⟩ else some ⟨g6, m * 2, none⟩) n1 n1] 30)).drew.heap.size (wr.alloc (Obj.cells #[.slice (if n1 = 0 then some ⟨g6, 0, none⟩ else some ⟨g6, m * 2, none⟩) n1 n1] 30)).drew [.slice (if n1 = 0 then some ⟨g6, 0, none⟩ else some ⟨g6, m * 2, none⟩) n1 n1] (qss[j].map (comNum D))) := Lib.hid (by
                refine ⟨_, n1, n1, rfl, ?_⟩
                by_cases h0 : n1 = 0
                · have : qss[j] = [] := List.eq_nil_of_length_eq_zero (by rw [← HN1.out]; exact h0)
                  rw [this, if_pos h0, h0]
                  exact Sl.empty _ _ _ _
                · rw [if_neg h0]
                  have h9 := H6.out.sub (k := m) (l := n1) hflen
                  rw [← List.map_drop, ← List.map_take] at h9
                  have h10 := HDT.out
                  rw [← HM.out, ← HN1.out] at h10
                  rw [h10, Nat.zero_add] at h9
                  exact h9)
              have HGa := Lib.hid (HG9.out.add hown' hgrow hat HROW.out (Nat.le_trans hszx hEA.size) (fun k e => Nat.lt_of_lt_of_le (hlt k e).2 hEA.size))
              have hgs := hgrow.size
              have HEz := Lib.hid (((Ext.trans HEx.out hEA).grown hgrow (Nat.le_trans HEx.out.size hEA.size) (fun k e => by have := (hlt k e).1; omega)).setCell (p := ⟨w2.heap.size + 1, 2, none⟩) (show w2.heap.size ≤ w2.heap.size + 1 by omega) (.slice (some ⟨g', 0, none⟩) (j + 1) cap'))
              have HOz := Lib.hid (o.set 2 (.slice (some ⟨g', 0, none⟩) (j + 1) cap'))
              have hszz : W3.heap.size ≤ (w1.setCell ⟨w2.heap.size + 1, 2, none⟩ (.slice (some ⟨g', 0, none⟩) (j + 1) cap')).heap.size := by simp only [World.setCell, Array.size_modify]; exact Nat.le_trans (Nat.le_trans hszx hEA.size) hgs
              have HKa := Lib.hid (HGa.out.keep (w' := w1.setCell ⟨w2.heap.size + 1, 2, none⟩ (.slice (some ⟨g', 0, none⟩) (j + 1) cap')) (by simp [World.setCell]) (fun b h1 _ => Below.heap_setCell _ _ _ b (by simp; omega)))
              have HMz : Hid (m + n1 = (qss.take (j + 1)).flatten.length) := Lib.hid (by rw [HFT.out, List.length_append, ← HM.out, ← HN1.out])
              have HTZ : Hid ((qss.take (j + 1)).map (fun qs => qs.map (comNum D)) = (qss.take j).map (fun qs => qs.map (comNum D)) ++ [qss[j].map (comNum D)]) := Lib.hid (by rw [List.take_succ_eq_append_getElem hil, List.map_append]; rfl)
              clear hown' hgrow hat hEA hoE
              generalize (if n1 = 0 then (some ⟨g6, 0, none⟩ : Option Addr) else some ⟨g6, m * 2, none⟩) = AD at *
              go_wp2_with fail
              go_roundg (i - (j + 1))
              case measure => omega
              case rel => exact ⟨j + 1, m + n1, by omega, rfl, by go_num, by go_num, HMz.out, Lib.hid ⟨_, css ++ [[.slice AD n1 n1]], HOz.out, by rw [HTZ.out]; exact HKa.out⟩, HEz, hszz⟩
        · obtain rfl : j = i := by omega
          obtain ⟨vo, css, ho, hG⟩ := HO.out
          rw [List.take_of_length_le (by rw [hlen.out]; exact Nat.le_refl _)] at hG
          obtain ⟨aa2, ca2, rfl, hsl⟩ := hG.sl
          have hrl : w.heap.size < wz.heap.size := HRw.out.lt
          have h52 := HE5.out.size
          have hrows : Sl rRowsN (w.heap.size + 1) wr aa2 j ca2 (qss.map fun qs => qs.map (comNum D)) := hsl.weak (by omega) rfl fun _ _ ⟨a, n, c, e, hh⟩ => ⟨a, n, c, e, hh.mono hrl HEx.out.kept⟩
          have h5 := (H5.out.ext (Nat.le_refl _) HEx.out).mono (B' := w.heap.size + 1) hrl (Kept.refl _ _)
          have r := HRw.out.ext (Ext.trans HE5.out HEx.out)
          have o := ho
          have hEa := Ext.trans HEw.out (Ext.trans HE5.out HEx.out)
          have HF : Hid (RFrom w D (qss.map fun qs => qs.map (comNum D)) (.returned (.agg #[.bool false, .slice a5 n5 c5, .slice aa2 j ca2])) (((wr.setCell ⟨w.heap.size, 0, none⟩ (.bool false)).setCell ⟨w.heap.size, 1, none⟩ (.slice a5 n5 c5)).setCell ⟨w.heap.size, 2, none⟩ (.slice aa2 j ca2))) :=
            Lib.hid ⟨a5, n5, c5, aa2, j, ca2, rfl, h5.mono (by omega) (kept_set3 _ _ _ _ (Nat.lt_succ_self _)), hrows.mono (by omega) (kept_set3 _ _ _ _ (Nat.lt_succ_self _)), ext_set3 hEa _ _ _ (Nat.le_refl _)⟩
          clear hrows h5 hEa hsl hG ho
          skip
          skip
          replace r_0 := r.cell (i := 0) rfl
          replace r_1 := r.cell (i := 1) rfl
          replace r_2 := r.cell (i := 2) rfl
          replace r_f0 := r.free 0
          replace r_f1 := r.free 1
          replace r_f2 := r.free 2
          replace r_lt := r.lt
          replace o_0 := o.cell (i := 0) rfl
          replace o_1 := o.cell (i := 1) rfl
          replace o_2 := o.cell (i := 2) rfl
          have r2 := ((r.set 0 (.bool false)).set 1 (.slice a5 n5 c5)).set 2 (.slice aa2 j ca2)
          have hr0 := r2.cell (i := 0) rfl
          have hr1 := r2.cell (i := 1) rfl
          have hr2 := r2.cell (i := 2) rfl
          go_wp2_with fail
          exact bodyPost_ret (v := .agg #[.bool false, .slice a5 n5 c5, .slice aa2 j ca2]) (by simp [results, Tryz.results74, go_sem, hr0, hr1, hr2]) rfl HF.out
end Go.Proofs.YtbhenelehhiakaaGreat
/-
  Rows of fractions that are written in place.
-/
namespace Go.Proofs.YtbhenelehhiakaaGreat
open Go.RowKit

theorem Sl.mapw {α β : Type} {r : Rd α} {s : Rd β} {B B' : Nat} {w : World} {a : Option Addr} {n c : Nat} {xs : List α} (f : α → β) (h : Sl r B w a n c xs) (hB : B' ≤ B) (hs : r.size = s.size) (hok : ∀ cs x, r.ok B w cs x → s.ok B' w cs (f x)) : Sl s B' w a n c (xs.map f) :=
  ⟨by rw [List.length_map]; exact h.len, h.cap, h.most, h.nil, fun i hi => by
    obtain ⟨b, o, cs, ha, hr, hc⟩ := h.at_ i (by simpa using hi)
    refine ⟨b, o, cs, ha, by rw [List.getElem_map]; exact hok _ _ hr, fun j hj => ?_⟩
    obtain ⟨h1, h2, h3⟩ := hc j hj
    rw [← hs]
    exact ⟨Nat.le_trans hB h1, h2, h3⟩⟩

/-- rows that may be written are rows to be read -/
theorem MG.read {K B : Nat} {w : World} {a : Option Addr} {n c m : Nat} {L : List (Nat × List Rat)} (h : MG K B w a n c m L) : Sl (rRatK K).slice B w a n c (L.map Prod.snd) :=
  h.sl.mapw Prod.snd (Nat.le_refl _) rfl fun _ _ ⟨e, hs⟩ => ⟨_, _, _, e, hs⟩

theorem cel_stores {B g : Nat} (vs : List Value) : ∀ {w : World} {off b o : Nat} {v : Value}, Cel B w b o v → (b ≠ g ∨ o < off ∨ off + vs.length ≤ o) → Cel B (stores w g off vs) b o v := by
  induction vs with
  | nil => intro w off b o v h _; exact h
  | cons u vs ih =>
    intro w off b o v h hne
    simp only [List.length_cons] at hne
    refine ih (w := w.setCell ⟨g, off, none⟩ u) ⟨h.ge, ?_, by rw [World.frozen?_setCell]; exact h.free⟩ (by omega)
    rw [World.cell?_setCell_other]
    · exact h.cell
    · intro e; cases e; omega
theorem cel_stores_at {B g : Nat} (vs : List Value) : ∀ {w : World} {off : Nat}, (∀ j (hj : j < vs.length), ∃ v, Cel B w g (off + j) v) → ∀ j (hj : j < vs.length), Cel B (stores w g off vs) g (off + j) vs[j] := by
  induction vs with
  | nil => intro w off _ j hj; simp at hj
  | cons u vs ih =>
    intro w off h j hj
    obtain ⟨v0, h0⟩ := h 0 (by simp)
    rw [Nat.add_zero] at h0
    have hset : Cel B (w.setCell ⟨g, off, none⟩ u) g off u := ⟨h0.ge, World.cell?_setCell_same _ _ _ h0.cell, by rw [World.frozen?_setCell]; exact h0.free⟩
    cases j with
    | zero => exact cel_stores vs hset (by omega)
    | succ j =>
      have := ih (w := w.setCell ⟨g, off, none⟩ u) (off := off + 1) (fun k hk => by
        obtain ⟨v, hv⟩ := h (k + 1) (by simpa using hk)
        refine ⟨v, hv.ge, ?_, by rw [World.frozen?_setCell]; have := hv.free; rwa [show off + 1 + k = off + (k + 1) by omega]⟩
        rw [World.cell?_setCell_other]
        · have := hv.cell; rwa [show off + 1 + k = off + (k + 1) by omega]
        · intro e; have := congrArg Addr.off e; simp at this; omega) j (by simpa using hj)
      rw [show off + (j + 1) = off + 1 + j by omega]
      exact this

/-- a cell that holds no word -/
def NoWord (w : World) (g o : Nat) : Prop := ∃ v, w.cell? ⟨g, o, none⟩ = some v ∧ ∀ x : Int, v ≠ .int .u32 x
theorem NatS.stores {B g : Nat} (vs : List Value) : ∀ {w : World} {off : Nat} {a : Option Addr} {n c : Nat} {l : Nt}, NatS B w a n c l → (∀ j, j < vs.length → NoWord w g (off + j)) → NatS B (Proofs.YtbhenelehhiakaaGreat.stores w g off vs) a n c l := by
  induction vs with
  | nil => intro w off a n c l h _; exact h
  | cons u vs ih =>
    intro w off a n c l h hv
    obtain ⟨v0, h0, h1⟩ := hv 0 (by simp)
    refine ih (w := w.setCell ⟨g, off, none⟩ u) (NatS.set h h0 h1 u) (fun j hj => ?_)
    obtain ⟨v, h2, h3⟩ := hv (j + 1) (by simpa using hj)
    refine ⟨v, ?_, h3⟩
    rw [World.cell?_setCell_other]
    · rwa [show off + 1 + j = off + (j + 1) by omega]
    · intro e; have := congrArg Addr.off e; simp at this; omega
theorem rRatK_stores {K B g : Nat} (vs : List Value) {w : World} {off : Nat} {cs : List Value} {q : Rat} (h : (rRatK K).ok B w cs q) (hv : ∀ j, j < vs.length → NoWord w g (off + j)) : (rRatK K).ok B (stores w g off vs) cs q := by
  obtain ⟨b, a, n, c, b2, a2, n2, c2, e, l, l2, h1, h2, h3⟩ := h
  exact ⟨b, a, n, c, b2, a2, n2, c2, e, l, l2, NatS.stores vs h1 hv, NatS.stores vs h2 hv, h3⟩

/-- one fraction is written into one row -/
theorem MG.set {K B : Nat} {w : World} {a : Option Addr} {n c m : Nat} {L : List (Nat × List Rat)} (h : MG K B w a n c m L) {i k : Nat} (hi : i < L.length) (hk : k < m) {cs : List Value} {q : Rat} (hq : (rRatK K).ok B w cs q) :
    MG K B (stores w L[i].1 (k * 4) cs) a n c m (L.set i (L[i].1, L[i].2.set k q)) := by
  obtain ⟨b0, o0, cs0, ha, ⟨hcs0, hrow⟩, hc0⟩ := h.sl.at_ i hi
  have hlen4 : cs.length = 4 := (rRatK K).len hq
  obtain ⟨bk, ok, csk, hgk, hqk, hck⟩ := hrow.at_ k (by rw [hrow.len]; exact hk)
  cases hgk
  have hl4 : csk.length = 4 := (rRatK K).len hqk
  have hcel : ∀ j, j < 4 → ∃ v, Cel B w L[i].1 (k * 4 + j) v ∧ ∀ x : Int, v ≠ .int .u32 x := fun j hj => by
    have := hck j (by omega)
    rw [Nat.zero_add] at this
    refine ⟨_, this, ?_⟩
    obtain ⟨b, a, n, c, b2, a2, n2, c2, e, _⟩ := hqk
    subst e
    intro x
    match j, hj with
    | 0, _ => simp
    | 1, _ => simp
    | 2, _ => simp
    | 3, _ => simp
  have hnw : ∀ j, j < cs.length → NoWord w L[i].1 (k * 4 + j) := fun j hj => by
    obtain ⟨v, h1, h2⟩ := hcel j (by omega)
    exact ⟨v, h1.cell, h2⟩
  have hinj : ∀ i' (hi' : i' < L.length), i' ≠ i → L[i'].1 ≠ L[i].1 := fun i' hi' hne => by
    have hp := List.pairwise_iff_getElem.1 h.inj
    rcases Nat.lt_or_gt_of_ne hne with h1 | h1
    · have h2 := hp i' i (by simpa using hi') (by simpa using hi) h1
      rw [List.getElem_map, List.getElem_map] at h2
      exact h2
    · have h2 := hp i i' (by simpa using hi) (by simpa using hi') h1
      rw [List.getElem_map, List.getElem_map] at h2
      exact fun e => h2 e.symm
  refine ⟨⟨by rw [List.length_set]; exact h.sl.len, h.sl.cap, h.sl.most, h.sl.nil, fun i' hi' => ?_⟩, fun b o e x hx => ?_, ?_⟩
  · have hi2 : i' < L.length := by simpa using hi'
    obtain ⟨b1, o1, cs1, ha1, ⟨hcs1, hrow1⟩, hc1⟩ := h.sl.at_ i' hi2
    have hb1 : b1 ≠ L[i].1 := h.out b1 o1 ha1 _ (List.getElem_mem hi)
    have key : ∀ x : Nat × List Rat, cs1 = [.slice (some ⟨x.1, 0, none⟩) m m] → Sl (rRatK K) B (stores w L[i].1 (k * 4) cs) (some ⟨x.1, 0, none⟩) m m x.2 → (L.set i (L[i].1, L[i].2.set k q))[i'] = x → ∃ b o cs_1, a = some ⟨b, o, none⟩ ∧ (rRowG K m).ok B (stores w L[i].1 (k * 4) cs) cs_1 (L.set i (L[i].1, L[i].2.set k q))[i'] ∧ ∀ j (hj : j < cs_1.length), Cel B (stores w L[i].1 (k * 4) cs) b (o + i' * (rRowG K m).size + j) cs_1[j] := fun x h1 h2 h3 => by
      rw [h3]
      exact ⟨b1, o1, cs1, ha1, ⟨h1, h2⟩, fun j hj => cel_stores cs (hc1 j hj) (.inl hb1)⟩
    by_cases he : i' = i
    · subst he
      refine key (L[i'].1, L[i'].2.set k q) hcs1 ?_ (by simp)
      refine ⟨by rw [List.length_set]; exact hrow1.len, hrow1.cap, hrow1.most, hrow1.nil, fun t ht => ?_⟩
      have ht2 : t < L[i'].2.length := by simpa using ht
      by_cases hte : t = k
      · subst hte
        refine ⟨L[i'].1, 0, cs, rfl, ?_, fun j hj => ?_⟩
        · rw [List.getElem_set_self]; exact rRatK_stores cs hq hnw
        · have := cel_stores_at cs (fun j hj => by obtain ⟨v, h1, _⟩ := hcel j (by omega); exact ⟨v, h1⟩) j hj
          rw [Nat.zero_add]; exact this
      · obtain ⟨b2, o2, cs2, hg2, hq2, hc2⟩ := hrow1.at_ t ht2
        cases hg2
        have hl2 : cs2.length = 4 := (rRatK K).len hq2
        refine ⟨L[i'].1, 0, cs2, rfl, ?_, fun j hj => cel_stores cs (hc2 j hj) (.inr ?_)⟩
        · rw [List.getElem_set_ne (by omega)]; exact rRatK_stores cs hq2 hnw
        · show 0 + t * 4 + j < k * 4 ∨ k * 4 + cs.length ≤ 0 + t * 4 + j
          omega
    · refine key L[i'] hcs1 ?_ (by rw [List.getElem_set_ne (by omega)])
      have hne := hinj i' hi2 he
      refine ⟨hrow1.len, hrow1.cap, hrow1.most, hrow1.nil, fun t ht => ?_⟩
      obtain ⟨b2, o2, cs2, hg2, hq2, hc2⟩ := hrow1.at_ t ht
      cases hg2
      exact ⟨_, 0, cs2, rfl, rRatK_stores cs hq2 hnw, fun j hj => cel_stores cs (hc2 j hj) (.inl hne)⟩
  · rcases List.mem_or_eq_of_mem_set hx with h1 | h1
    · exact h.out b o e x h1
    · rw [h1]; show b ≠ L[i].1; exact h.out b o e L[i] (List.getElem_mem hi)
  · have : (L.set i (L[i].1, L[i].2.set k q)).map Prod.fst = L.map Prod.fst := by
      rw [List.map_set]
      refine List.ext_getElem (by simp) fun t h1 h2 => ?_
      by_cases hte : t = i
      · subst hte; simp
      · rw [List.getElem_set_ne (by omega)]
    rw [this]; exact h.inj
end Go.Proofs.YtbhenelehhiakaaGreat
/-
  The references' matrices, part 4: Zero, Identity.
-/
namespace Go.Proofs.YtbhenelehhiakaaGreat
open Go.RowKit

theorem MG.ext {K B : Nat} {w w' : World} {a : Option Addr} {n c m : Nat} {L : List (Nat × List Rat)} (h : MG K B w a n c m L) (hE : Ext w w') : MG K B w' a n c m L := ⟨h.sl.ext (Nat.le_refl _) hE, h.out, h.inj⟩
theorem MG.cells {K B : Nat} {w : World} {a : Option Addr} {n c m : Nat} {L : List (Nat × List Rat)} (h : MG K B w a n c m L) {i k : Nat} (hi : i < L.length) (hk : k < m) : ∃ b o, a = some ⟨b, o, none⟩ ∧ b < w.heap.size ∧ B ≤ L[i].1 ∧ L[i].1 < w.heap.size ∧ b ≠ L[i].1 ∧ w.cell? ⟨b, o + i, none⟩ = some (.slice (some ⟨L[i].1, 0, none⟩) m m) ∧
    ((∃ u, w.cell? ⟨L[i].1, k * 4, none⟩ = some u) ∧ w.frozen? ⟨L[i].1, k * 4, none⟩ = false) ∧ ((∃ u, w.cell? ⟨L[i].1, k * 4 + 1, none⟩ = some u) ∧ w.frozen? ⟨L[i].1, k * 4 + 1, none⟩ = false) ∧ ((∃ u, w.cell? ⟨L[i].1, k * 4 + 2, none⟩ = some u) ∧ w.frozen? ⟨L[i].1, k * 4 + 2, none⟩ = false) ∧ ((∃ u, w.cell? ⟨L[i].1, k * 4 + 3, none⟩ = some u) ∧ w.frozen? ⟨L[i].1, k * 4 + 3, none⟩ = false) := by
  obtain ⟨b0, o0, cs0, ha, ⟨rfl, hrow⟩, hc0⟩ := h.sl.at_ i hi
  obtain ⟨bk, ok, csk, hgk, hqk, hck⟩ := hrow.at_ k (by rw [hrow.len]; exact hk)
  cases hgk
  have hl4 : csk.length = 4 := (rRatK K).len hqk
  have key : ∀ j (hj : j < 4), Cel B w L[i].1 (k * 4 + j) (csk[j]'(by omega)) := fun j hj => by
    have := hck j (by omega)
    rwa [Nat.zero_add] at this
  have h0 := hc0 0 (by simp)
  refine ⟨b0, o0, ha, cel_lt h0, (key 0 (by omega)).ge, cel_lt (key 0 (by omega)), h.out b0 o0 ha _ (List.getElem_mem hi), by simpa [rRowG] using h0.cell, ⟨⟨_, (key 0 (by omega)).cell⟩, (key 0 (by omega)).free⟩, ⟨⟨_, (key 1 (by omega)).cell⟩, (key 1 (by omega)).free⟩, ⟨⟨_, (key 2 (by omega)).cell⟩, (key 2 (by omega)).free⟩, ⟨⟨_, (key 3 (by omega)).cell⟩, (key 3 (by omega)).free⟩⟩

theorem RFrom.box {w w2 : World} {B r : Nat} {D : Nat} {zss : List (List Int)} {v0 v1 v2 : Value} {a a2 : Option Addr} {n c n2 c2 : Nat} (hr : w.heap.size ≤ r) (hrB : r < B) (hE : Ext w w2) (h : NatS B w2 a n c (limbs D)) (h2 : Sl rRowsN B w2 a2 n2 c2 zss) :
    RFrom w D zss (.returned (.agg #[.bool false, .slice a n c, .slice a2 n2 c2])) (((w2.setCell ⟨r, 0, none⟩ v0).setCell ⟨r, 1, none⟩ v1).setCell ⟨r, 2, none⟩ v2) :=
  ⟨a, n, c, a2, n2, c2, rfl, h.mono (by omega) (kept_set3 _ _ _ _ hrB), h2.mono (by omega) (kept_set3 _ _ _ _ hrB), ext_set3 hE _ _ _ hr⟩

end Go.Proofs.YtbhenelehhiakaaGreat
/-
  The references: SameAll, Same of matrices; raw data.
-/
namespace Go.Proofs.YtbhenelehhiakaaGreat
open Go.RowKit

theorem Sl.getIt {B : Nat} {w : World} {a : Option Addr} {n c : Nat} {xs : List It} (h : Sl rInt B w a n c xs) {i : Nat} (hi : i < n) : ∃ b o s a1 n1 c1 l, a = some ⟨b, o, none⟩ ∧ b < w.heap.size ∧ xs[i]? = some (s, l) ∧ w.cell? ⟨b, o + i * 2, none⟩ = some (.bool s) ∧ w.cell? ⟨b, o + i * 2 + 1, none⟩ = some (.slice a1 n1 c1) ∧ NatS B w a1 n1 c1 l := by
  have hl : i < xs.length := by rw [h.len]; exact hi
  obtain ⟨b, o, cs, ha, ⟨c1, c2, rfl, h1, a1, n1, cc, rfl, h2⟩, hc⟩ := h.at_ i hl
  have h1' : c1 = [.bool xs[i].1] := h1
  subst h1'
  exact ⟨b, o, xs[i].1, a1, n1, cc, xs[i].2, ha, cel_lt (hc 0 (by simp)), by rw [List.getElem?_eq_getElem hl], (hc 0 (by simp)).cell, (hc 1 (by simp)).cell, h2⟩

def rawI (z : Int) : It := (decide (z < 0), limbs z.natAbs)
theorem rawInts {B : Nat} {w : World} {a : Option Addr} {n c : Nat} {zs : List Int} (h : Sl rIntN B w a n c zs) : Sl rInt 0 w a n c (zs.map rawI) :=
  h.mapw (s := rInt) rawI (Nat.zero_le _) rfl fun _ _ ⟨a, n, c, e, hs⟩ => ⟨[.bool _], [.slice a n c], e, rfl, a, n, c, rfl, Sl.zero hs⟩
theorem rawRows {B : Nat} {w : World} {a : Option Addr} {n c : Nat} {zss : List (List Int)} (h : Sl rRowsN B w a n c zss) : Sl rInts 0 w a n c (zss.map fun zs => zs.map rawI) :=
  h.mapw (s := rInts) (fun zs => zs.map rawI) (Nat.zero_le _) rfl fun _ _ ⟨a, n, c, e, hs⟩ => ⟨a, n, c, e, rawInts hs⟩

theorem r3Same_b (b b2 : Bool) (B : Nat) (w : World) (a a2 : Option Addr) (n c n2 c2 : Nat) (l l2 : Nt) (h : NatS B w a n c l) (h2 : NatS B w a2 n2 c2 l2) (sb : Bool) (hs : Hid (decide ((b, l) = (b2, l2)) = sb)) :
    Calls Tryz.prog 62 #[.agg #[.bool b, .slice a n c], .agg #[.bool b2, .slice a2 n2 c2]] w fun e w' => e = .returned (.bool sb) ∧ Ext w w' := by
  have := r3Same_any b b2 B w a a2 n c n2 c2 l l2 h h2
  rwa [hs.out] at this

set_option maxRecDepth 100000 in
set_option maxHeartbeats 2000000 in
theorem r3SameAll_any (w : World) (a a2 : Option Addr) (n c n2 c2 : Nat) (xs ys : List It) (h : Sl rInt 0 w a n c xs) (h2 : Sl rInt 0 w a2 n2 c2 ys) :
    Calls Tryz.prog 63 #[.slice a n c, .slice a2 n2 c2] w fun e w' => e = .returned (.bool (decide (xs = ys))) ∧ Ext w w' := by
  have hcap := h.cap
  have hmost := h.most
  obtain ⟨r, hr⟩ : ∃ r, r = decide (xs = ys) := ⟨_, rfl⟩
  rw [← hr]
  have HR := Lib.hid hr
  have HN := Lib.hid h
  have HN2 := Lib.hid h2
  have hl := Lib.hid h.len
  have hl2 := Lib.hid h2.len
  clear hr h h2
  by_cases hnn : n = n2
  · subst hnn
    go_enter Tryz.func63, Tryz.ntmps63
    go_wp2_with fail
    go_loopg [13] n (fun q s wr => ∃ i : Nat, i ≤ n ∧ q = n - i ∧ s = .int .i64 (i : Int) ∧ Hid (∀ j, j < i → xs[j]? = ys[j]?) ∧ Hid (Ext w wr))
    case atStart => exact ⟨0, Nat.zero_le _, by omega, rfl, Lib.hid (fun j hj => by omega), Lib.hid (Ext.refl _)⟩
    case round =>
      obtain ⟨i, hi, hq, rfl, hz, HE⟩ := hrel
      by_cases hin : i < n
      · obtain ⟨b, o, s1, a1, n1, c1, l1, rfl, hb, hx, hc1, hc2, hN1⟩ := HN.out.getIt hin
        obtain ⟨b2, o2, s2, a3, n3, c3, l2, rfl, hb2, hy, hc3, hc4, hN2⟩ := HN2.out.getIt hin
        have hd : Ext wr wr.drew := (Below.refl _ _).drew
        have hEd := Ext.trans HE.out hd
        replace hc1 := (hEd.cell (p := ⟨b, o + i * 2, none⟩) hb).trans hc1
        replace hc2 := (hEd.cell (p := ⟨b, o + i * 2 + 1, none⟩) hb).trans hc2
        replace hc3 := (hEd.cell (p := ⟨b2, o2 + i * 2, none⟩) hb2).trans hc3
        replace hc4 := (hEd.cell (p := ⟨b2, o2 + i * 2 + 1, none⟩) hb2).trans hc4
        have h1 := hN1.ext (Nat.le_refl _) hEd
        have h2 := hN2.ext (Nat.le_refl _) hEd
        have hik : (i : Int) < n := by omega
        have HX := Lib.hid hx
        have HY := Lib.hid hy
        clear hx hy hN1 hN2 hd
        by_cases hxy : (s1, l1) = (s2, l2)
        · have HSB : Hid (decide ((s1, l1) = (s2, l2)) = true) := Lib.hid (decide_eq_true hxy)
          have HXY : Hid (xs[i]? = ys[i]?) := Lib.hid (by rw [HX.out, HY.out, hxy])
          clear hxy
          go_wp2_with fail
          go_region_held3 (fun w' => w'.cell? ⟨b, o + i * 2, none⟩ = some (.bool s1) ∧ w'.cell? ⟨b, o + i * 2 + 1, none⟩ = some (.slice a1 n1 c1) ∧ w'.cell? ⟨b2, o2 + i * 2, none⟩ = some (.bool s2) ∧ w'.cell? ⟨b2, o2 + i * 2 + 1, none⟩ = some (.slice a3 n3 c3)) (first | exact ⟨hc1, hc2, hc3, hc4⟩ | go_keep)
            (first | (go_at_call 62; refine (r3Same_b s1 s2 0 _ a1 a3 n1 c1 n3 c3 l1 l2 h1 h2 _ HSB).mono ?_; rintro e w5 ⟨rfl, hE5⟩; replace hc1 := (hE5.cell (p := ⟨b, o + i * 2, none⟩) (World.block_lt_of_cell? _ _ hc1)).trans hc1; replace hc2 := (hE5.cell (p := ⟨b, o + i * 2 + 1, none⟩) (World.block_lt_of_cell? _ _ hc2)).trans hc2; replace hc3 := (hE5.cell (p := ⟨b2, o2 + i * 2, none⟩) (World.block_lt_of_cell? _ _ hc3)).trans hc3; replace hc4 := (hE5.cell (p := ⟨b2, o2 + i * 2 + 1, none⟩) (World.block_lt_of_cell? _ _ hc4)).trans hc4; replace hEd := Ext.trans hEd hE5))
          all_goals
            have HEd := Lib.hid hEd
            clear h1 h2 hE5 hEd hc1 hc2 hc3 hc4
            go_wp2_with fail
            go_roundg (n - (i + 1))
            case measure => omega
            case rel => exact ⟨i + 1, by omega, rfl, by go_num, Lib.hid (fun j hj => by
              by_cases hji : j < i
              · exact hz.out j hji
              · obtain rfl : j = i := by omega
                exact HXY.out), HEd⟩
        · have HSB : Hid (decide ((s1, l1) = (s2, l2)) = false) := Lib.hid (decide_eq_false hxy)
          have HF : Hid (r = false) := Lib.hid (by rw [HR.out, decide_eq_false]; intro e; subst e; have h9 := HX.out; rw [HY.out] at h9; exact hxy (Option.some.inj h9).symm)
          clear hxy
          go_wp2_with fail
          go_region_held3 (fun w' => w'.cell? ⟨b, o + i * 2, none⟩ = some (.bool s1) ∧ w'.cell? ⟨b, o + i * 2 + 1, none⟩ = some (.slice a1 n1 c1) ∧ w'.cell? ⟨b2, o2 + i * 2, none⟩ = some (.bool s2) ∧ w'.cell? ⟨b2, o2 + i * 2 + 1, none⟩ = some (.slice a3 n3 c3)) (first | exact ⟨hc1, hc2, hc3, hc4⟩ | go_keep)
            (first | (go_at_call 62; refine (r3Same_b s1 s2 0 _ a1 a3 n1 c1 n3 c3 l1 l2 h1 h2 _ HSB).mono ?_; rintro e w5 ⟨rfl, hE5⟩; replace hc1 := (hE5.cell (p := ⟨b, o + i * 2, none⟩) (World.block_lt_of_cell? _ _ hc1)).trans hc1; replace hc2 := (hE5.cell (p := ⟨b, o + i * 2 + 1, none⟩) (World.block_lt_of_cell? _ _ hc2)).trans hc2; replace hc3 := (hE5.cell (p := ⟨b2, o2 + i * 2, none⟩) (World.block_lt_of_cell? _ _ hc3)).trans hc3; replace hc4 := (hE5.cell (p := ⟨b2, o2 + i * 2 + 1, none⟩) (World.block_lt_of_cell? _ _ hc4)).trans hc4; replace hEd := Ext.trans hEd hE5))
          all_goals
            have HEd := Lib.hid hEd
            clear h1 h2 hE5 hEd hc1 hc2 hc3 hc4
            go_wp2_with fail
            go_ret
            exact ⟨by rw [HF.out]; rfl, HEd.out⟩
      · obtain rfl : i = n := by omega
        have HT : Hid (r = true) := Lib.hid (by
          rw [HR.out, decide_eq_true]
          refine List.ext_getElem? fun j => ?_
          by_cases hji : j < i
          · exact hz.out j hji
          · rw [List.getElem?_eq_none (by rw [hl.out]; omega), List.getElem?_eq_none (by rw [hl2.out]; omega)])
        go_wp2_with fail
        go_ret
        exact ⟨by rw [HT.out]; rfl, HE.out⟩
  · have hne : ((n : Int) != (n2 : Int)) = true := by simp; omega
    have HF : Hid (r = false) := Lib.hid (by rw [HR.out, decide_eq_false]; intro e; subst e; exact hnn (hl.out.symm.trans hl2.out))
    clear hnn
    go_enter Tryz.func63, Tryz.ntmps63
    go_wp2_with fail
    go_ret
    exact ⟨by rw [HF.out]; rfl, Ext.refl _⟩
end Go.Proofs.YtbhenelehhiakaaGreat
/-
  The references: Same of matrices; the law's same, none, right, refused, size.
-/
namespace Go.Proofs.YtbhenelehhiakaaGreat
open Go.RowKit

theorem Sl.getRow {α : Type} {r : Rd α} {B : Nat} {w : World} {a : Option Addr} {n c : Nat} {xs : List (List α)} (h : Sl r.slice B w a n c xs) {i : Nat} (hi : i < n) : ∃ b o a1 n1 c1 x, a = some ⟨b, o, none⟩ ∧ b < w.heap.size ∧ xs[i]? = some x ∧ w.cell? ⟨b, o + i, none⟩ = some (.slice a1 n1 c1) ∧ Sl r B w a1 n1 c1 x := by
  have hl : i < xs.length := by rw [h.len]; exact hi
  obtain ⟨b, o, cs, ha, ⟨a1, n1, c1, rfl, h1⟩, hc⟩ := h.at_ i hl
  exact ⟨b, o, a1, n1, c1, _, ha, cel_lt (hc 0 (by simp)), List.getElem?_eq_getElem hl, by simpa [Rd.slice] using (hc 0 (by simp)).cell, h1⟩

theorem r3SameAll_b (w : World) (a a2 : Option Addr) (n c n2 c2 : Nat) (xs ys : List It) (h : Sl rInt 0 w a n c xs) (h2 : Sl rInt 0 w a2 n2 c2 ys) (sb : Bool) (hs : Hid (decide (xs = ys) = sb)) :
    Calls Tryz.prog 63 #[.slice a n c, .slice a2 n2 c2] w fun e w' => e = .returned (.bool sb) ∧ Ext w w' := by
  have := r3SameAll_any w a a2 n c n2 c2 xs ys h h2
  rwa [hs.out] at this

set_option maxRecDepth 100000 in
set_option maxHeartbeats 4000000 in
theorem r11Same_any (w : World) (b b2 : Bool) (a a2 a3 a4 : Option Addr) (n c n2 c2 n3 c3 n4 c4 : Nat) (l l2 : Nt) (xss yss : List (List It)) (h : NatS 0 w a n c l) (h2 : NatS 0 w a2 n2 c2 l2) (h3 : Sl rInts 0 w a3 n3 c3 xss) (h4 : Sl rInts 0 w a4 n4 c4 yss) (sb : Bool) (hsb : Hid (decide ((b, l) = (b2, l2) ∧ xss = yss) = sb)) :
    Calls Tryz.prog 88 #[.agg #[.bool b, .slice a n c, .slice a3 n3 c3], .agg #[.bool b2, .slice a2 n2 c2, .slice a4 n4 c4]] w fun e w' => e = .returned (.bool sb) ∧ Ext w w' := by
  have hcap := h3.cap
  have hmost := h3.most
  have HX := Lib.hid h3
  have HY := Lib.hid h4
  have hl3 := Lib.hid h3.len
  have hl4 := Lib.hid h4.len
  clear h3 h4
  by_cases hden : (b, l) = (b2, l2)
  · have HS : Hid (decide ((b, l) = (b2, l2)) = true) := Lib.hid (decide_eq_true hden)
    have HSB : Hid (decide (xss = yss) = sb) := Lib.hid (by rw [← hsb.out]; simp [hden])
    clear hden hsb
    go_enter Tryz.func88, Tryz.ntmps88
    go_wp2_with fail
    have p0 := Blk.new w 28 #[.bool b, .slice a n c, .slice a3 n3 c3]
    have p1 := Blk.new (w.alloc (Obj.cells #[.bool b, .slice a n c, .slice a3 n3 c3] 28)) 28 #[.bool b2, .slice a2 n2 c2, .slice a4 n4 c4]
    replace p0 := p0.ext ((Below.refl _ _).alloc (Nat.le_refl _) (Obj.cells #[.bool b2, .slice a2 n2 c2, .slice a4 n4 c4] 28))
    have hEW : Ext w ((w.alloc (Obj.cells #[.bool b, .slice a n c, .slice a3 n3 c3] 28)).alloc (Obj.cells #[.bool b2, .slice a2 n2 c2, .slice a4 n4 c4] 28)) := (((Below.refl _ w).alloc (by simp) _).alloc (by simp) _)
    generalize hgW : (w.alloc (Obj.cells #[.bool b, .slice a n c, .slice a3 n3 c3] 28)).alloc (Obj.cells #[.bool b2, .slice a2 n2 c2, .slice a4 n4 c4] 28) = W at *
    clear hgW
    simp only [World.size_alloc] at p1
    have p0_ne_p1 : ¬ w.heap.size = w.heap.size + 1 := by omega
    have p1_ne_p0 : ¬ w.heap.size + 1 = w.heap.size := by omega
    replace p0_0 := p0.cell (i := 0) rfl
    replace p0_1 := p0.cell (i := 1) rfl
    replace p0_2 := p0.cell (i := 2) rfl
    replace p1_0 := p1.cell (i := 0) rfl
    replace p1_1 := p1.cell (i := 1) rfl
    replace p1_2 := p1.cell (i := 2) rfl
    refine (r3Same_b b b2 0 W a a2 n c n2 c2 l l2 (h.ext (Nat.le_refl _) hEW) (h2.ext (Nat.le_refl _) hEW) true HS).mono ?_
    rintro e w1 ⟨rfl, hE1⟩
    replace p0 := p0.ext hE1; replace p0_0 := p0.cell (i := 0) rfl; replace p0_1 := p0.cell (i := 1) rfl; replace p0_2 := p0.cell (i := 2) rfl; replace p1 := p1.ext hE1; replace p1_0 := p1.cell (i := 0) rfl; replace p1_1 := p1.cell (i := 1) rfl; replace p1_2 := p1.cell (i := 2) rfl
    have HE1 := Lib.hid (Ext.trans hEW hE1)
    have HP0 := Lib.hid p0
    have HP1 := Lib.hid p1
    clear h h2 hE1 hEW
    by_cases hnn : n3 = n4
    · subst hnn
      clear p0 p1
      go_wp2_with fail
      go_loopg [24] n3 (fun q s wr => ∃ i : Nat, i ≤ n3 ∧ q = n3 - i ∧ s = .int .i64 (i : Int) ∧ Hid (∀ j, j < i → xss[j]? = yss[j]?) ∧ Hid (Ext w1 wr))
      case atStart => exact ⟨0, Nat.zero_le _, by omega, rfl, Lib.hid (fun j hj => by omega), Lib.hid (Ext.refl _)⟩
      case round =>
        obtain ⟨i, hi, hq, rfl, hz, HE⟩ := hrel
        clear p0_0 p0_1 p0_2 p1_0 p1_1 p1_2
        have hd : Ext wr wr.drew := (Below.refl _ _).drew
        by_cases hin : i < n3
        · obtain ⟨b5, o5, a5, n5, c5, xs, rfl, hb5, hx, hc5, hX⟩ := Sl.getRow HX.out hin
          obtain ⟨b6, o6, a6, n6, c6, ys, rfl, hb6, hy, hc6, hY⟩ := Sl.getRow HY.out hin
          have hEd := Ext.trans HE1.out (Ext.trans HE.out hd)
          replace hc5 := (hEd.cell (p := ⟨b5, o5 + i, none⟩) hb5).trans hc5
          replace hc6 := (hEd.cell (p := ⟨b6, o6 + i, none⟩) hb6).trans hc6
          have h5 := hX.ext (Nat.le_refl _) hEd
          have h6 := hY.ext (Nat.le_refl _) hEd
          have p0 := HP0.out.ext (Ext.trans HE.out hd)
          have p1 := HP1.out.ext (Ext.trans HE.out hd)
          have hik : (i : Int) < n3 := by omega
          have HXI := Lib.hid hx
          have HYI := Lib.hid hy
          have hEz := Ext.trans HE.out hd
          clear hx hy hX hY hd hEd
          skip
          skip
          replace p0_0 := p0.cell (i := 0) rfl
          replace p0_1 := p0.cell (i := 1) rfl
          replace p0_2 := p0.cell (i := 2) rfl
          replace p1_0 := p1.cell (i := 0) rfl
          replace p1_1 := p1.cell (i := 1) rfl
          replace p1_2 := p1.cell (i := 2) rfl
          by_cases hxy : xs = ys
          · have HSA : Hid (decide (xs = ys) = true) := Lib.hid (decide_eq_true hxy)
            have HXY : Hid (xss[i]? = yss[i]?) := Lib.hid (by rw [HXI.out, HYI.out, hxy])
            clear hxy
            go_wp2_with fail
            go_region_held3 (fun w' => w'.cell? ⟨w.heap.size, 2, none⟩ = some (.slice (some ⟨b5, o5, none⟩) n3 c3) ∧ w'.cell? ⟨w.heap.size + 1, 2, none⟩ = some (.slice (some ⟨b6, o6, none⟩) n3 c4) ∧ w'.cell? ⟨b5, o5 + i, none⟩ = some (.slice a5 n5 c5) ∧ w'.cell? ⟨b6, o6 + i, none⟩ = some (.slice a6 n6 c6)) (first | exact ⟨p0_2, p1_2, hc5, hc6⟩ | go_keep)
              (first | (go_at_call 63; refine (r3SameAll_b _ a5 a6 n5 c5 n6 c6 xs ys h5 h6 _ HSA).mono ?_; rintro e w5 ⟨rfl, hE5⟩; replace hc5 := (hE5.cell (p := ⟨b5, o5 + i, none⟩) (World.block_lt_of_cell? _ _ hc5)).trans hc5; replace hc6 := (hE5.cell (p := ⟨b6, o6 + i, none⟩) (World.block_lt_of_cell? _ _ hc6)).trans hc6; replace p0_2 := (hE5.cell (p := ⟨w.heap.size, 2, none⟩) (World.block_lt_of_cell? _ _ p0_2)).trans p0_2; replace p1_2 := (hE5.cell (p := ⟨w.heap.size + 1, 2, none⟩) (World.block_lt_of_cell? _ _ p1_2)).trans p1_2; replace hEz := Ext.trans hEz hE5))
            all_goals
              have HEd := Lib.hid hEz
              clear h5 h6 hE5 hEz hc5 hc6 p0_2 p1_2 p0 p1 p0_0 p0_1 p1_0 p1_1
              go_wp2_with fail
              go_roundg (n3 - (i + 1))
              case measure => omega
              case rel => exact ⟨i + 1, by omega, rfl, by go_num, Lib.hid (fun j hj => by
                by_cases hji : j < i
                · exact hz.out j hji
                · obtain rfl : j = i := by omega
                  exact HXY.out), HEd⟩
          · have HSA : Hid (decide (xs = ys) = false) := Lib.hid (decide_eq_false hxy)
            have HF : Hid (sb = false) := Lib.hid (by rw [← HSB.out, decide_eq_false]; intro e; subst e; have h9 := HXI.out; rw [HYI.out] at h9; exact hxy (Option.some.inj h9).symm)
            clear hxy
            go_wp2_with fail
            go_region_held3 (fun w' => w'.cell? ⟨w.heap.size, 2, none⟩ = some (.slice (some ⟨b5, o5, none⟩) n3 c3) ∧ w'.cell? ⟨w.heap.size + 1, 2, none⟩ = some (.slice (some ⟨b6, o6, none⟩) n3 c4) ∧ w'.cell? ⟨b5, o5 + i, none⟩ = some (.slice a5 n5 c5) ∧ w'.cell? ⟨b6, o6 + i, none⟩ = some (.slice a6 n6 c6)) (first | exact ⟨p0_2, p1_2, hc5, hc6⟩ | go_keep)
              (first | (go_at_call 63; refine (r3SameAll_b _ a5 a6 n5 c5 n6 c6 xs ys h5 h6 _ HSA).mono ?_; rintro e w5 ⟨rfl, hE5⟩; replace hc5 := (hE5.cell (p := ⟨b5, o5 + i, none⟩) (World.block_lt_of_cell? _ _ hc5)).trans hc5; replace hc6 := (hE5.cell (p := ⟨b6, o6 + i, none⟩) (World.block_lt_of_cell? _ _ hc6)).trans hc6; replace p0_2 := (hE5.cell (p := ⟨w.heap.size, 2, none⟩) (World.block_lt_of_cell? _ _ p0_2)).trans p0_2; replace p1_2 := (hE5.cell (p := ⟨w.heap.size + 1, 2, none⟩) (World.block_lt_of_cell? _ _ p1_2)).trans p1_2; replace hEz := Ext.trans hEz hE5))
            all_goals
              have HEd := Lib.hid (Ext.trans HE1.out hEz)
              clear h5 h6 hE5 hEz hc5 hc6 p0_2 p1_2 p0 p1 p0_0 p0_1 p1_0 p1_1
              go_wp2_with fail
              go_ret
              exact ⟨by rw [HF.out]; rfl, HEd.out⟩
        · obtain rfl : i = n3 := by omega
          have HT : Hid (sb = true) := Lib.hid (by
            rw [← HSB.out, decide_eq_true]
            refine List.ext_getElem? fun j => ?_
            by_cases hji : j < i
            · exact hz.out j hji
            · rw [List.getElem?_eq_none (by rw [hl3.out]; omega), List.getElem?_eq_none (by rw [hl4.out]; omega)])
          go_wp2_with fail
          go_ret
          exact ⟨by rw [HT.out]; rfl, Ext.trans HE1.out HE.out⟩
    · have hne : ((n3 : Int) != (n4 : Int)) = true := by simp; omega
      have HF : Hid (sb = false) := Lib.hid (by rw [← HSB.out, decide_eq_false]; intro e; subst e; exact hnn (hl3.out.symm.trans hl4.out))
      clear hnn
      go_wp2_with fail
      go_ret
      exact ⟨by rw [HF.out]; rfl, HE1.out⟩
  · have HS : Hid (decide ((b, l) = (b2, l2)) = false) := Lib.hid (decide_eq_false hden)
    have HF : Hid (sb = false) := Lib.hid (by rw [← hsb.out, decide_eq_false]; exact fun h => hden h.1)
    clear hden hsb
    go_enter Tryz.func88, Tryz.ntmps88
    go_wp2_with fail
    have p0 := Blk.new w 28 #[.bool b, .slice a n c, .slice a3 n3 c3]
    have p1 := Blk.new (w.alloc (Obj.cells #[.bool b, .slice a n c, .slice a3 n3 c3] 28)) 28 #[.bool b2, .slice a2 n2 c2, .slice a4 n4 c4]
    replace p0 := p0.ext ((Below.refl _ _).alloc (Nat.le_refl _) (Obj.cells #[.bool b2, .slice a2 n2 c2, .slice a4 n4 c4] 28))
    have hEW : Ext w ((w.alloc (Obj.cells #[.bool b, .slice a n c, .slice a3 n3 c3] 28)).alloc (Obj.cells #[.bool b2, .slice a2 n2 c2, .slice a4 n4 c4] 28)) := (((Below.refl _ w).alloc (by simp) _).alloc (by simp) _)
    generalize hgW : (w.alloc (Obj.cells #[.bool b, .slice a n c, .slice a3 n3 c3] 28)).alloc (Obj.cells #[.bool b2, .slice a2 n2 c2, .slice a4 n4 c4] 28) = W at *
    clear hgW
    simp only [World.size_alloc] at p1
    have p0_ne_p1 : ¬ w.heap.size = w.heap.size + 1 := by omega
    have p1_ne_p0 : ¬ w.heap.size + 1 = w.heap.size := by omega
    replace p0_0 := p0.cell (i := 0) rfl
    replace p0_1 := p0.cell (i := 1) rfl
    replace p0_2 := p0.cell (i := 2) rfl
    replace p1_0 := p1.cell (i := 0) rfl
    replace p1_1 := p1.cell (i := 1) rfl
    replace p1_2 := p1.cell (i := 2) rfl
    refine (r3Same_b b b2 0 W a a2 n c n2 c2 l l2 (h.ext (Nat.le_refl _) hEW) (h2.ext (Nat.le_refl _) hEW) false HS).mono ?_
    rintro e w1 ⟨rfl, hE1⟩
    have HE := Lib.hid (Ext.trans hEW hE1)
    clear h h2 hE1 hEW
    go_wp2_with fail
    go_ret
    exact ⟨by rw [HF.out]; rfl, HE.out⟩
end Go.Proofs.YtbhenelehhiakaaGreat
/-
  qmat: even, Check, Norm.
-/
namespace Go.Proofs.YtbhenelehhiakaaGreat
open Go.RowKit

/-- are the rows equally long? -/
def evenB {α : Type} (xss : List (List α)) : Bool := xss.all fun xs => decide (xs.length = colsOf xss)

set_option maxHeartbeats 1000000 in
theorem even_any {α : Type} (r : Rd α) (B : Nat) (w : World) (a : Option Addr) (n c : Nat) (xss : List (List α)) (h : Sl r.slice B w a n c xss) (s : Bool) (hs : Hid (evenB xss = s)) :
    Calls Tryz.prog 87 #[.slice a n c] w fun e w' => e = .returned (.bool s) ∧ w = w' := by
  have hmost := h.most
  have hcap := h.cap
  have HS := Lib.hid h
  have hl := Lib.hid h.len
  clear h
  go_enter Tryz.func87, Tryz.ntmps87
  go_wp2_with fail
  go_loopg [7] n (fun q vi wr => ∃ i : Nat, i ≤ n ∧ q = n - i ∧ vi = .int .i64 (i : Int) ∧ Hid (∀ j x, j < i → xss[j]? = some x → x.length = colsOf xss) ∧ w = wr)
  case atStart => exact ⟨0, Nat.zero_le _, by omega, rfl, Lib.hid (fun j _ hj => by omega), rfl⟩
  case round =>
    obtain ⟨i, hi, hq, rfl, HI, rfl⟩ := hrel
    by_cases hin : i < n
    · obtain ⟨b, o, a1, n1, c1, x, rfl, hb, hx, hc, hX⟩ := Sl.getRow HS.out hin
      obtain ⟨b', o', a2, n2, c2, y, hba, hb2, hy, hc2, hY⟩ := Sl.getRow HS.out (show 0 < n by omega)
      cases hba
      rw [Nat.add_zero] at hc2
      have HX := Lib.hid hx
      have hy2 : colsOf xss = n2 := by
        rw [← hY.len]
        cases xss with
        | nil => simp at hy
        | cons z zs => simp at hy; subst hy; rfl
      have HC := Lib.hid hy2
      have HN1 := Lib.hid hX.len
      clear hx hy hy2 hX hY
      by_cases h12 : n1 = n2
      · subst h12
        go_wp2_with fail
        go_roundg (n - (i + 1))
        case measure => omega
        case rel => exact ⟨i + 1, by omega, rfl, by go_num, Lib.hid (fun j z hj hz => by
          by_cases hji : j < i
          · exact HI.out j z hji hz
          · obtain rfl : j = i := by omega
            rw [HX.out] at hz
            cases hz
            rw [HN1.out, HC.out]), rfl⟩
      · have hne : ((n1 : Int) != (n2 : Int)) = true := by simp; omega
        have HF : Hid (s = false) := Lib.hid (by
          rw [← hs.out]
          unfold evenB
          rw [List.all_eq_false]
          obtain ⟨h5, h6⟩ := List.getElem?_eq_some_iff.1 HX.out
          refine ⟨x, by rw [← h6]; exact List.getElem_mem _, ?_⟩
          simp
          rw [HN1.out, HC.out]; exact h12)
        clear h12
        go_wp2_with fail
        go_ret
        exact ⟨by rw [HF.out]; rfl, rfl⟩
    · obtain rfl : i = n := by omega
      have HT : Hid (s = true) := Lib.hid (by
        rw [← hs.out]
        unfold evenB
        rw [List.all_eq_true]
        intro x hx
        obtain ⟨j, hj, rfl⟩ := List.getElem_of_mem hx
        exact decide_eq_true (HI.out j _ (by rw [← hl.out]; exact hj) (List.getElem?_eq_getElem hj)))
      go_wp2_with fail
      go_ret
      exact ⟨by rw [HT.out]; rfl, rfl⟩

/-- may a matrix be? -/
def checkE (d : Int) (xss : List (List Int)) : Int := if d = 0 then 6 else if evenB xss then 0 else 2

/-- a matrix as it lies -/
def MatS (K : Nat) (w : World) (b : Bool) (a : Option Addr) (n c : Nat) (a2 : Option Addr) (n2 c2 : Nat) (d : Int) (zss : List (List Int)) : Prop := ∃ l, NatS 0 w a n c l ∧ ival b l = d ∧ n ≤ K ∧ Sl (rIntK K).slice 0 w a2 n2 c2 zss
theorem MatS.ext {K : Nat} {w w' : World} {b : Bool} {a a2 : Option Addr} {n c n2 c2 : Nat} {d : Int} {zss : List (List Int)} (h : MatS K w b a n c a2 n2 c2 d zss) (hE : Ext w w') : MatS K w' b a n c a2 n2 c2 d zss := by
  obtain ⟨l, h1, h2, h3, h4⟩ := h
  exact ⟨l, h1.ext (Nat.le_refl _) hE, h2, h3, h4.ext (Nat.le_refl _) hE⟩

set_option maxHeartbeats 1000000 in
theorem check_any (K : Nat) (hK : K ≤ 8796093022208) (w : World) (b : Bool) (a a2 : Option Addr) (n c n2 c2 : Nat) (d : Int) (zss : List (List Int)) (h : MatS K w b a n c a2 n2 c2 d zss) (s : Int) (hs : Hid (checkE d zss = s)) :
    Calls Tryz.prog 28 #[.agg #[.bool b, .slice a n c, .slice a2 n2 c2]] w fun e w' => e = .returned (.int .i64 s) ∧ Ext w w' := by
  obtain ⟨l, h1, h2, h3, h4⟩ := h
  have HD := Lib.hid h2
  clear h2
  go_enter Tryz.func28, Tryz.ntmps28
  go_wp2_with fail
  have p0 := Blk.new w 28 #[.bool b, .slice a n c, .slice a2 n2 c2]
  have hEW : Ext w (w.alloc (Obj.cells #[.bool b, .slice a n c, .slice a2 n2 c2] 28)) := ((Below.refl _ w).alloc (by simp) _)
  generalize hgW : w.alloc (Obj.cells #[.bool b, .slice a n c, .slice a2 n2 c2] 28) = W at *
  clear hgW
  replace p0_0 := p0.cell (i := 0) rfl
  replace p0_1 := p0.cell (i := 1) rfl
  replace p0_2 := p0.cell (i := 2) rfl
  refine (zintSign_z b 0 W a n c l d (h1.ext (Nat.le_refl _) hEW) (by omega) HD).mono ?_
  rintro e w1 ⟨rfl, hE1⟩
  replace p0 := p0.ext hE1; replace p0_0 := p0.cell (i := 0) rfl; replace p0_1 := p0.cell (i := 1) rfl; replace p0_2 := p0.cell (i := 2) rfl
  have hE0 := Ext.trans hEW hE1
  have h4 := h4.ext (Nat.le_refl _) hE0
  have HE := Lib.hid hE0
  clear hEW hE1 hE0 h1
  by_cases hd : d = 0
  · subst hd
    rw [Int.sign_zero]
    have HS : Hid (s = 6) := Lib.hid (by rw [← hs.out]; rfl)
    clear h4
    go_wp2_with fail
    go_ret
    exact ⟨by rw [HS.out]; rfl, HE.out⟩
  · have hd0 : (d.sign == 0) = false := by simpa using hd
    generalize d.sign = sg at *
    cases hev : evenB zss with
    | true =>
      have HS : Hid (s = 0) := Lib.hid (by rw [← hs.out]; unfold checkE; rw [if_neg hd, hev]; rfl)
      have HEV := Lib.hid hev
      clear hd hev
      go_wp2_with fail
      refine (even_any (rIntK K) 0 w1 a2 n2 c2 zss h4 true HEV).mono ?_
      rintro e w2 ⟨rfl, rfl⟩
      clear h4
      go_wp2_with fail
      go_ret
      exact ⟨by rw [HS.out]; rfl, HE.out⟩
    | false =>
      have HS : Hid (s = 2) := Lib.hid (by rw [← hs.out]; unfold checkE; rw [if_neg hd, hev]; rfl)
      have HEV := Lib.hid hev
      clear hd hev
      go_wp2_with fail
      refine (even_any (rIntK K) 0 w1 a2 n2 c2 zss h4 false HEV).mono ?_
      rintro e w2 ⟨rfl, rfl⟩
      clear h4
      go_wp2_with fail
      go_ret
      exact ⟨by rw [HS.out]; rfl, HE.out⟩
end Go.Proofs.YtbhenelehhiakaaGreat
/-
  simileref11: Check, Size.
-/
namespace Go.Proofs.YtbhenelehhiakaaGreat
open Go.RowKit

set_option maxHeartbeats 2000000 in
theorem r11Check_any (K : Nat) (hK : K ≤ 8796093022208) (w : World) (b : Bool) (a a2 : Option Addr) (n c n2 c2 : Nat) (d : Int) (zss : List (List Int)) (h : MatS K w b a n c a2 n2 c2 d zss) (s : Int) (hs : Hid (checkE d zss = s)) :
    Calls Tryz.prog 10 #[.agg #[.bool b, .slice a n c, .slice a2 n2 c2]] w fun e w' => e = .returned (.int .i64 s) ∧ Ext w w' := by
  obtain ⟨l, h1, h2, h3, h4⟩ := h
  have HD := Lib.hid h2
  clear h2
  go_enter Tryz.func10, Tryz.ntmps10
  go_wp2_with fail
  have p0 := Blk.new w 28 #[.bool b, .slice a n c, .slice a2 n2 c2]
  have hEW : Ext w (w.alloc (Obj.cells #[.bool b, .slice a n c, .slice a2 n2 c2] 28)) := ((Below.refl _ w).alloc (by simp) _)
  generalize hgW : w.alloc (Obj.cells #[.bool b, .slice a n c, .slice a2 n2 c2] 28) = W at *
  clear hgW
  replace p0_0 := p0.cell (i := 0) rfl
  replace p0_1 := p0.cell (i := 1) rfl
  replace p0_2 := p0.cell (i := 2) rfl
  refine (r3Sign_z b 0 W a n c l d (h1.ext (Nat.le_refl _) hEW) HD).mono ?_
  rintro e w1 ⟨rfl, hE1⟩
  replace p0 := p0.ext hE1; replace p0_0 := p0.cell (i := 0) rfl; replace p0_1 := p0.cell (i := 1) rfl; replace p0_2 := p0.cell (i := 2) rfl
  have hE0 := Ext.trans hEW hE1
  have h4 := h4.ext (Nat.le_refl _) hE0
  have HE := Lib.hid hE0
  clear hEW hE1 hE0 h1
  have hmost := h4.most
  have hcap := h4.cap
  have HS := Lib.hid h4
  have hl := Lib.hid h4.len
  clear h4
  by_cases hd : d = 0
  · subst hd
    rw [Int.sign_zero]
    have HF : Hid (s = 6) := Lib.hid (by rw [← hs.out]; rfl)
    go_wp2_with fail
    go_ret
    exact ⟨by rw [HF.out]; rfl, HE.out⟩
  · have hd0 : (d.sign == 0) = false := by simpa using hd
    have hs' : Hid ((if evenB zss then (0 : Int) else 2) = s) := Lib.hid (by rw [← hs.out]; unfold checkE; rw [if_neg hd])
    generalize d.sign = sg at *
    clear hd hs HD
    go_wp2_with fail
    go_loopg [12] n2 (fun q vi wr => ∃ i : Nat, i ≤ n2 ∧ q = n2 - i ∧ vi = .int .i64 (i : Int) ∧ Hid (∀ j x, j < i → zss[j]? = some x → x.length = colsOf zss) ∧ w1 = wr)
    case atStart => exact ⟨0, Nat.zero_le _, by omega, rfl, Lib.hid (fun j _ hj => by omega), rfl⟩
    case round =>
      obtain ⟨i, hi, hq, rfl, HI, rfl⟩ := hrel
      by_cases hin : i < n2
      · obtain ⟨b, o, a1, n1, c1, x, rfl, hb, hx, hc, hX⟩ := Sl.getRow HS.out hin
        obtain ⟨b', o', a2, n3, c3, y, hba, hb2, hy, hc2, hY⟩ := Sl.getRow HS.out (show 0 < n2 by omega)
        cases hba
        rw [Nat.add_zero] at hc2
        have HX := Lib.hid hx
        have hy2 : colsOf zss = n3 := by
          rw [← hY.len]
          cases zss with
          | nil => simp at hy
          | cons z zs => simp at hy; subst hy; rfl
        have HC := Lib.hid hy2
        have HN1 := Lib.hid hX.len
        clear hx hy hy2 hX hY
        by_cases h12 : n1 = n3
        · subst h12
          go_wp2_with fail
          go_roundg (n2 - (i + 1))
          case measure => omega
          case rel => exact ⟨i + 1, by omega, rfl, by go_num, Lib.hid (fun j z hj hz => by
            by_cases hji : j < i
            · exact HI.out j z hji hz
            · obtain rfl : j = i := by omega
              rw [HX.out] at hz
              cases hz
              rw [HN1.out, HC.out]), rfl⟩
        · have hne : ((n1 : Int) != (n3 : Int)) = true := by simp; omega
          have HF : Hid (s = 2) := Lib.hid (by
            rw [← hs'.out]
            have : evenB zss = false := by
              unfold evenB
              rw [List.all_eq_false]
              obtain ⟨h5, h6⟩ := List.getElem?_eq_some_iff.1 HX.out
              refine ⟨x, by rw [← h6]; exact List.getElem_mem _, ?_⟩
              simp
              rw [HN1.out, HC.out]; exact h12
            rw [this]; rfl)
          clear h12
          go_wp2_with fail
          go_ret
          exact ⟨by rw [HF.out]; rfl, HE.out⟩
      · obtain rfl : i = n2 := by omega
        have HT : Hid (s = 0) := Lib.hid (by
          rw [← hs'.out]
          have : evenB zss = true := by
            unfold evenB
            rw [List.all_eq_true]
            intro x hx
            obtain ⟨j, hj, rfl⟩ := List.getElem_of_mem hx
            exact decide_eq_true (HI.out j _ (by rw [← hl.out]; exact hj) (List.getElem?_eq_getElem hj))
          rw [this]; rfl)
        go_wp2_with fail
        go_ret
        exact ⟨by rw [HT.out]; rfl, HE.out⟩

set_option maxHeartbeats 2000000 in
theorem r11Size_any (K : Nat) (w : World) (b : Bool) (a a2 : Option Addr) (n c n2 c2 : Nat) (d : Int) (zss : List (List Int)) (h : MatS K w b a n c a2 n2 c2 d zss) (m : Nat) (hm : Hid (colsOf zss = m)) :
    Calls Tryz.prog 32 #[.agg #[.bool b, .slice a n c, .slice a2 n2 c2]] w fun e w' => e = .returned (.tuple #[.int .i64 (n2 : Int), .int .i64 (m : Int)]) ∧ Ext w w' := by
  obtain ⟨l, h1, h2, h3, h4⟩ := h
  clear h1 h2 h3
  have hmost := h4.most
  have hcap := h4.cap
  have hl := Lib.hid h4.len
  by_cases h0 : n2 = 0
  · subst h0
    have HF : Hid (m = 0) := Lib.hid (by rw [← hm.out, List.length_eq_zero_iff.1 hl.out]; rfl)
    have hE : Ext w (w.alloc (Obj.cells #[.bool b, .slice a n c, .slice a2 0 c2] 28)) := (Below.refl _ _).alloc (Nat.le_refl _) _
    have HE := Lib.hid hE
    clear h4 hE
    go_enter Tryz.func32, Tryz.ntmps32
    go_wp2_with fail
    go_ret2
    exact ⟨by rw [HF.out]; rfl, HE.out⟩
  · have hd0 : ((n2 : Int) == 0) = false := by simpa using h0
    obtain ⟨b', o', a3, n3, c3, y, rfl, hb2, hy, hc2, hY⟩ := Sl.getRow h4 (show 0 < n2 by omega)
    rw [Nat.add_zero] at hc2
    have hy2 : n3 = m := by
      rw [← hY.len, ← hm.out]
      cases zss with
      | nil => simp at hy
      | cons z zs => simp at hy; subst hy; rfl
    subst hy2
    have hE : Ext w (w.alloc (Obj.cells #[.bool b, .slice a n c, .slice (some ⟨b', o', none⟩) n2 c2] 28)) := (Below.refl _ _).alloc (Nat.le_refl _) _
    have HE := Lib.hid hE
    have hn2p : 0 < n2 := by omega
    clear hy hY h0 h4 hE
    go_enter Tryz.func32, Tryz.ntmps32
    go_wp2_with fail
    go_region
    all_goals
      go_wp2_with fail
      go_ret2
      exact ⟨rfl, HE.out.drew⟩
end Go.Proofs.YtbhenelehhiakaaGreat
/-
  simileref11: Rows.
-/
namespace Go.Proofs.YtbhenelehhiakaaGreat
open Go.RowKit

theorem natAbs_div_le (z : Int) (g : Nat) : (z / (g : Int)).natAbs ≤ z.natAbs := by
  by_cases h : g = 0
  · subst h; simp
  · by_cases hz : 0 ≤ z
    · have h1 : 0 ≤ z / (g : Int) := Int.ediv_nonneg hz (by omega)
      have h2 : z / (g : Int) ≤ z := Int.ediv_le_self _ hz
      omega
    · have h1 : z / (g : Int) ≤ 0 := by
        exact Int.le_of_lt (Int.ediv_neg_of_neg_of_pos (by omega) (by omega))
      have h2 : z ≤ z / (g : Int) := by
        refine (Int.le_ediv_iff_mul_le (by omega)).2 ?_
        have h3 : z * (g : Int) ≤ z * 1 := Int.mul_le_mul_of_nonpos_left (by omega) (by omega)
        omega
      omega

theorem ratv_le (z d : Int) (hd : d ≠ 0) : (ratv z d).num.natAbs ≤ z.natAbs ∧ (ratv z d).den ≤ d.natAbs := by
  have key : ∀ z d : Int, 0 < d → (ratv z d).num.natAbs ≤ z.natAbs ∧ (ratv z d).den ≤ d.natAbs := fun z d hd => by
    rw [ratv_num hd]
    have h1 := ratv_den (z := z) hd
    have h2 := natAbs_div_le z (Int.gcd z d)
    have h3 := natAbs_div_le d (Int.gcd z d)
    exact ⟨h2, by omega⟩
  by_cases h : 0 < d
  · exact key z d h
  · have := key (-z) (-d) (by omega)
    rw [ratv_neg, Int.natAbs_neg, Int.natAbs_neg] at this
    exact this

/-- the rows' fractions -/
def fracs (d : Int) (zss : List (List Int)) : List (List Rat) := zss.map fun zs => zs.map fun z => ratv z d
/-- rows of fractions in new memory, each in a block of its own -/
def RRows (K r c : Nat) (qss : List (List Rat)) (w : World) (e : Ending) (w' : World) : Prop := ∃ a c2 L css B, e = .returned (.slice a r c2) ∧ MG K w.heap.size w' a r c2 c L ∧ L.map Prod.snd = qss ∧ Ext w w' ∧ w.heap.size ≤ B ∧ B ≤ w'.heap.size ∧ Grp (rRowG K c) B 68 w' (.slice a r c2) r L css

structure RowsSt (K : Nat) (w : World) (c i : Nat) (vo : Value) (qss : List (List Rat)) (wr : World) : Prop where
  ex : ∃ L css, Grp (rRowG K c) w.heap.size 68 wr vo i L css ∧ L.map Prod.snd = qss ∧ (L.map Prod.fst).Pairwise (· ≠ ·) ∧ ∀ x ∈ L, x.1 < wr.heap.size ∧ vo.ownBlock ≠ some x.1

set_option maxRecDepth 100000 in
set_option maxHeartbeats 8000000 in
theorem r11Rows_any (K : Nat) (hK : K ≤ 549755813888) (w : World) (b : Bool) (a a2 : Option Addr) (n c n2 c2 : Nat) (d : Int) (zss : List (List Int)) (h : MatS K w b a n c a2 n2 c2 d zss) (hd0 : d ≠ 0) (m : Nat) (hrow : Hid (∀ zs ∈ zss, zs.length = m)) (hn2 : n2 ≤ 1099511627776) (hm : m ≤ 1099511627776) :
    Calls Tryz.prog 34 #[.agg #[.bool b, .slice a n c, .slice a2 n2 c2]] w (RRows K n2 m (fracs d zss) w) := by
  obtain ⟨cur, hcur, hmk⟩ := make_any under_rats info_rat m m (Nat.le_refl _) (by omega) (by omega)
  have hmk : ∀ w, (Instr.makeSlice 68 (.int .i64 (m : Int)) (.int .i64 (m : Int))).run Tryz.prog w = .ok (.slice (some ⟨w.heap.size, 0, none⟩) m m) (w.alloc (.cells cur 75)) := hmk
  have HCur := Lib.hid hcur
  clear hcur
  obtain ⟨l, h1, h2, h3, h4⟩ := h
  have HD := Lib.hid h2
  have HDL := Lib.hid h1
  have HS := Lib.hid h4
  have hmost2 := h4.most
  have hcap2 := h4.cap
  have hlen := Lib.hid h4.len
  have hKd : nl d.natAbs ≤ K := Nat.le_trans (nl_of h1 HD) h3
  clear h1 h2 h4
  go_enter Tryz.func34, Tryz.ntmps34
  go_wp2_with fail
  have p0 := Blk.new w 28 #[.bool b, .slice a n c, .slice a2 n2 c2]
  have hEW : Ext w (w.alloc (Obj.cells #[.bool b, .slice a n c, .slice a2 n2 c2] 28)) := ((Below.refl _ w).alloc (by simp) _)
  generalize hgW : w.alloc (Obj.cells #[.bool b, .slice a n c, .slice a2 n2 c2] 28) = W at *
  clear hgW
  replace p0_0 := p0.cell (i := 0) rfl
  replace p0_1 := p0.cell (i := 1) rfl
  replace p0_2 := p0.cell (i := 2) rfl
  have HP0 := Lib.hid p0
  have HEW := Lib.hid hEW
  have hW : w.heap.size + 1 ≤ W.heap.size := p0.lt
  clear p0 hEW
  go_loopg [3, 12] n2 (fun k vo vi wr => ∃ (i : Nat), i ≤ n2 ∧ k = n2 - i ∧ vi = .int .i64 (i : Int) ∧ Hid (RowsSt K W m i vo (fracs d (zss.take i)) wr) ∧ Hid (Ext W wr))
  case atStart => exact ⟨0, Nat.zero_le _, by omega, rfl, Lib.hid ⟨[], [], Grp.nil _ _ _ _, rfl, List.Pairwise.nil, fun x hx => absurd hx (by simp)⟩, Lib.hid (Ext.refl _)⟩
  case round =>
    obtain ⟨i, hi, hk, rfl, HF, HE⟩ := hrel
    by_cases hir : i < n2
    · obtain ⟨wo, rfl⟩ : ∃ wo : World, wo = wr := ⟨_, rfl⟩
      have hE1 := Ext.trans HEW.out HE.out
      obtain ⟨b6, o6, a1, n1, c1, zs, rfl, hb6, hzs, hc8, hZ⟩ := Sl.getRow (HS.out.ext (Nat.le_refl _) hE1) hir
      have hn1 : n1 = m := by rw [← hZ.len]; exact hrow.out zs (List.mem_of_getElem? hzs)
      subst hn1
      have HZ := Lib.hid hZ
      have HZS := Lib.hid hzs
      have hcap1 := hZ.cap
      have hmost1 := hZ.most
      have hEA : Ext wo (wo.alloc (Obj.cells cur 75)) := (Below.refl _ _).alloc (Nat.le_refl _) _
      have HG0 : Hid (Grp (rRatK K) wo.heap.size 75 (wo.alloc (Obj.cells cur 75)) (.slice (some ⟨wo.heap.size, 0, none⟩) 0 n1) 0 [] []) := Lib.hid ⟨rfl, rfl, World.ownsRow_made wo cur n1 (Nat.le_refl _) (by unfold maxLen; omega) HCur.out, fun k hk => absurd hk (by simp)⟩
      clear hzs hZ hE1
      go_wp2_with fail
      go_loopg [21] n1 (fun k vi w2 => ∃ (j : Nat), j ≤ n1 ∧ k = n1 - j ∧ vi = .int .i64 (j : Int) ∧ Hid (∃ css, Grp (rRatK K) wo.heap.size 75 w2 (.slice (some ⟨wo.heap.size, 0, none⟩) j n1) j ((zs.take j).map fun z => ratv z d) css) ∧ Hid (Ext wo w2))
      case atStart => exact ⟨0, Nat.zero_le _, by omega, rfl, Lib.hid ⟨[], HG0.out⟩, Lib.hid hEA⟩
      case round =>
        obtain ⟨j, hj, hk2, rfl, HGj, HEj⟩ := hrel
        by_cases hjc : j < n1
        · obtain ⟨css, hGj⟩ := HGj.out
          have hgl := hGj.cell.1
          have hjc' : (j : Int) < (n1 : Int) := by omega
          obtain ⟨b7, o7, s7, a7, n7, c7, l7, z, rfl, hb7, hz7, hc9, hc10, h7, hi7, hn7⟩ := (HZ.out.ext (Nat.le_refl _) HEj.out).getInt hjc
          obtain ⟨hkl, hze⟩ := List.getElem?_eq_some_iff.1 hz7
          have HTK : Hid ((zs.take (j + 1)).map (fun z => ratv z d) = (zs.take j).map (fun z => ratv z d) ++ [ratv z d]) := Lib.hid (by rw [List.take_succ_eq_append_getElem hkl, hze, List.map_append]; rfl)
          have HI7 := Lib.hid hi7
          have H7 := Lib.hid h7
          have hE8 := Ext.trans HE.out HEj.out
          have p0 := HP0.out.ext hE8
          have hKz : nl z.natAbs ≤ K := Nat.le_trans (nl_of h7 HI7) hn7
          obtain ⟨hq1, hq2⟩ := ratv_le z d hd0
          have hq1 := Nat.le_trans (nl_mono hq1) hKz
          have hq2 := Nat.le_trans (nl_mono hq2) hKd
          have HDL2 := Lib.hid (HDL.out.ext (Nat.le_refl _) (Ext.trans HEW.out hE8))
          obtain ⟨q, hq⟩ : ∃ q, ratv z d = q := ⟨_, rfl⟩
          have HQ := Lib.hid hq
          rw [hq] at hq1 hq2 HTK
          have hszr := HEj.out.size
          clear hz7 hze hi7 h7 hE8 hq hGj
          skip
          replace p0_0 := p0.cell (i := 0) rfl
          replace p0_1 := p0.cell (i := 1) rfl
          replace p0_2 := p0.cell (i := 2) rfl
          replace p0_f0 := p0.free 0
          replace p0_f1 := p0.free 1
          replace p0_f2 := p0.free 2
          replace p0_lt := p0.lt
          go_wp2_with fail
          have u := Blk.new wr 25 #[.bool s7, .slice a7 n7 c7]
          have hEW9 : Ext wr (wr.alloc (Obj.cells #[.bool s7, .slice a7 n7 c7] 25)) := ((Below.refl _ wr).alloc (by simp) _)
          generalize hgW9 : wr.alloc (Obj.cells #[.bool s7, .slice a7 n7 c7] 25) = W9 at *
          clear hgW9
          replace u_0 := u.cell (i := 0) rfl
          replace u_1 := u.cell (i := 1) rfl
          refine (r5Make_z s7 b 0 W9 _ _ _ _ _ _ l7 l z d q (H7.out.ext (Nat.le_refl _) hEW9) (HDL2.out.ext (Nat.le_refl _) hEW9) (by omega) (by omega) HI7 HD hd0 HQ).mono ?_
          rintro e w5 ⟨a8, n8, c8, a9, n9, c9, rfl, h8, h9, hE9⟩
          obtain ⟨bb, hbb⟩ : ∃ bb, decide (q.num < 0) = bb := ⟨_, rfl⟩
          rw [hbb]
          have hE5 := Ext.trans hEW9 hE9
          have hsz5 := hE5.size
          have hG5 := HGj.out.choose_spec.keep hE5.size (fun b _ h2 => hE5.block b h2)
          generalize HGj.out.choose = css at *
          obtain ⟨hg1, hg2, hg3⟩ := hG5.cell
          have q0 := hg3 (j * 4) (show j * 4 < n1 * 4 by omega)
          have q1 := hg3 (j * 4 + 1) (show j * 4 + 1 < n1 * 4 by omega)
          have q2 := hg3 (j * 4 + 2) (show j * 4 + 2 < n1 * 4 by omega)
          have q3 := hg3 (j * 4 + 3) (show j * 4 + 3 < n1 * 4 by omega)
          obtain ⟨⟨u0, s0⟩, f0⟩ := q0
          obtain ⟨⟨u1, s1⟩, f1⟩ := q1
          obtain ⟨⟨u2, s2⟩, f2⟩ := q2
          obtain ⟨⟨u4, s3⟩, f3⟩ := q3
          have HP := Lib.hid (hG5.put hjc (x := q) (cs := [.bool bb, .slice a8 n8 c8, .bool false, .slice a9 n9 c9]) (Bx := wr.heap.size) (ratK_of (q := q) (K := K) (h8.mono hEW9.size (Kept.refl _ _)) (h9.mono hEW9.size (Kept.refl _ _)) hq1 hq2 bb hbb) hszr hgl)
          have HEP := Lib.hid (Ext.trans HEj.out hE5)
          clear hG5 hg3 h8 h9 hE5 hE9 hEW9 hbb u u_0 u_1 p0 p0_0 p0_1 p0_2 p0_f0 p0_f1 p0_f2 p0_lt hc9 hc10
          go_wp2_with fail
          go_roundg (n1 - (j + 1))
          case measure => omega
          case rel => exact ⟨j + 1, by omega, rfl, by go_num, Lib.hid ⟨css ++ [[.bool bb, .slice a8 n8 c8, .bool false, .slice a9 n9 c9]], by rw [HTK.out]; exact HP.out⟩, Lib.hid (ext_set4' HEP.out (j * 4) _ _ _ _)⟩
        · obtain rfl : j = n1 := by omega
          obtain ⟨css, hGj⟩ := HGj.out
          obtain ⟨ar, cr, hv, hsr⟩ := hGj.sl
          cases hv
          have hgl := hGj.cell.1
          have hzl : zs.length = j := HZ.out.len
          have hfull : zs.take j = zs := List.take_of_length_le (by omega)
          rw [hfull] at hsr
          have HTR : Hid (fracs d (zss.take (i + 1)) = fracs d (zss.take i) ++ [zs.map fun z => ratv z d]) := Lib.hid (by
            obtain ⟨htl, hze⟩ := List.getElem?_eq_some_iff.1 HZS.out
            unfold fracs
            rw [List.take_succ_eq_append_getElem htl, hze, List.map_append]; rfl)
          generalize hzq : (zs.map fun z => ratv z d) = zq at *
          have hEB : Ext wr (wr.alloc (Obj.cells #[.slice (some ⟨wo.heap.size, 0, none⟩) j j] 68)) := (Below.refl _ _).alloc (Nat.le_refl _) _
          have hEB2 := Ext.trans HEj.out hEB
          obtain ⟨L, css2, hGo, hL1, hL2, hL3⟩ := HF.out.ex
          have hlt11 := hGo.own.lt
          have hG11 := Lib.hid (hGo.keep hEB2.size (fun b _ h2 => hEB2.block b h2))
          have H11 := Lib.hid (hsr.ext (Nat.le_refl _) hEB)
          have HE11 := Lib.hid (Ext.trans HE.out hEB2)
          have HEs := HE.out.size
          have hszB := hEB2.size
          have hnews : ∀ (j' : Nat) (u : Value), [Value.slice (some ⟨wo.heap.size, 0, none⟩) j j][j']? = some u → (wr.alloc (Obj.cells #[.slice (some ⟨wo.heap.size, 0, none⟩) j j] 68)).cell? ((⟨wr.heap.size, 0, none⟩ : Addr).add j') = some u := fun j' u hu => by
            match j', hu with
            | 0, hu => cases hu; exact (Blk.new wr 68 #[.slice (some ⟨wo.heap.size, 0, none⟩) j j]).cell (i := 0) rfl
            | k + 1, hu => simp at hu
          obtain ⟨i0, hi0, hz0, hz1, hz2⟩ := info_parts info_rats
          have HL1 := Lib.hid hL1
          have HL2 := Lib.hid hL2
          have HL3 := Lib.hid hL3
          clear hGo hGj hEB2 hsr hEB hL1 hL2 hL3 hzl hfull hzq
          go_wp2_with (at_builtin; refine wpList_append_own_at _ rfl _ _ 53 rfl W.heap.size 68 i0 _ 1 24 under_ratss hi0 hz0 hz1 hz2 rfl (by decide) _ _ _ rfl hG11.out.own ⟨wr.heap.size, 0, none⟩ 1 1 [.slice (some ⟨wo.heap.size, 0, none⟩) j j] rfl rfl hnews (by simp [Value.oneCell']) (by unfold maxLen; omega) (by omega) (by exact HE11.out.size) ?_; intro v' w1 hown' hgrow _ hat)
          go_roundg (n2 - (i + 1))
          case measure => omega
          case rel =>
            refine ⟨i + 1, by omega, rfl, by go_num, Lib.hid ⟨L ++ [(wo.heap.size, zq)], css2 ++ [[.slice (some ⟨wo.heap.size, 0, none⟩) j j]], ?_, ?_, ?_, ?_⟩, Lib.hid (HE11.out.grown hgrow HE11.out.size (fun k e => (hlt11 k e).1))⟩
            · exact hG11.out.add hown' hgrow hat (x := (wo.heap.size, zq)) (Bx := wo.heap.size) ⟨rfl, H11.out⟩ HEs (fun k e => (hlt11 k e).2)
            · rw [List.map_append, HL1.out, HTR.out]; rfl
            · rw [List.map_append, List.pairwise_append]
              refine ⟨HL2.out, List.pairwise_singleton _ _, fun x hx y hy => ?_⟩
              obtain ⟨z, hz, rfl⟩ := List.mem_map.1 hx
              have := (HL3.out z hz).1
              simp at hy
              omega
            · have hgs := hgrow.size
              rw [World.size_alloc] at hgs
              intro x hx
              rcases List.mem_append.1 hx with hx | hx
              · obtain ⟨h1, h2⟩ := HL3.out x hx
                refine ⟨by omega, ?_⟩
                rcases hat with hat | hat
                · rw [hat]; exact h2
                · rw [hat, World.size_alloc]; intro e; have e2 := Option.some.inj e; (try simp only at e2); omega
              · obtain rfl : x = (wo.heap.size, zq) := by simpa using hx
                refine ⟨by show wo.heap.size < _; omega, ?_⟩
                rcases hat with hat | hat
                · rw [hat]; intro e; have := (hlt11 _ e).2; exact absurd this (Nat.lt_irrefl _)
                · rw [hat, World.size_alloc]; intro e; have e2 := Option.some.inj e; (try simp only at e2); omega
    · obtain rfl : i = n2 := by omega
      obtain ⟨L, css, hG, hL1, hL2, hL3⟩ := HF.out.ex
      obtain ⟨aa, ca, rfl, hsl⟩ := hG.sl
      have HR : Hid (RRows K i m (fracs d zss) w (.returned (.slice aa i ca)) wr) := Lib.hid ⟨aa, ca, L, css, W.heap.size, rfl, ⟨hsl.mono (by omega) (Kept.refl _ _), fun b o e x hx => by
        subst e
        have := (hL3 x hx).2
        intro e; subst e
        exact this (own_head hG.own), hL2⟩, by rw [hL1, List.take_of_length_le (by rw [hlen.out]; exact Nat.le_refl _)], Ext.trans HEW.out HE.out, by omega, HE.out.size, hG⟩
      clear hG hsl hL1 hL2 hL3
      go_wp2_with fail
      go_ret
      exact HR.out
end Go.Proofs.YtbhenelehhiakaaGreat
