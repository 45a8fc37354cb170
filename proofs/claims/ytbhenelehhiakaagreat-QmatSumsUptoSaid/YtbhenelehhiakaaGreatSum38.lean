/-
  The laws' own matrices of small integers: of.
-/
import Derived.Test.YtbhenelehhiakaaGreatSum29
import Derived.Test.YtbhenelehhiakaaGreatSum28
import Derived.Test.YtbhenelehhiakaaGreatSum31
set_option linter.unusedVariables false
set_option linter.unusedSimpArgs false
namespace Go.Proofs.YtbhenelehhiakaaGreat
open Go.RowKit

/-- an int64 as it lies -/
def rI64 : Rd Int where
  size := 1
  ok _ _ cs z := cs = [.int .i64 z]
  len h := by rw [h]; rfl
  mono h _ _ := h

theorem Sl.getI64 {B : Nat} {w : World} {a : Option Addr} {n c : Nat} {xs : List Int} (h : Sl rI64 B w a n c xs) {i : Nat} (hi : i < n) : ∃ b o z, a = some ⟨b, o, none⟩ ∧ b < w.heap.size ∧ xs[i]? = some z ∧ w.cell? ⟨b, o + i, none⟩ = some (.int .i64 z) := by
  have hl : i < xs.length := by rw [h.len]; exact hi
  obtain ⟨b, o, cs, ha, h1, hc⟩ := h.at_ i hl
  have h1' : cs = [.int .i64 xs[i]] := h1
  subst h1'
  exact ⟨b, o, _, ha, cel_lt (hc 0 (by simp)), List.getElem?_eq_getElem hl, by simpa [rI64] using (hc 0 (by simp)).cell⟩

set_option maxRecDepth 100000 in
set_option maxHeartbeats 8000000 in
theorem of_any (w : World) (a : Option Addr) (n c : Nat) (zss : List (List Int)) (h : Sl rI64.slice 0 w a n c zss) (hn : n ≤ 1099511627776) (hrow : Hid (∀ zs ∈ zss, zs.length ≤ 1099511627776)) (hint : Hid (∀ zs ∈ zss, ∀ z ∈ zs, -9223372036854775808 ≤ z ∧ z ≤ 9223372036854775807)) :
    Calls Tryz.prog 76 #[.slice a n c] w (RFrom w 1 zss) := by
  have HS := Lib.hid h
  have hmost := h.most
  have hcap := h.cap
  have hlen := Lib.hid h.len
  clear h
  go_enter Tryz.func76, Tryz.ntmps76
  go_wp2_with fail
  have r := Blk.new w 28 #[.bool false, .slice none 0 0, .slice none 0 0]
  have hEW : Ext w (w.alloc (Obj.cells #[.bool false, .slice none 0 0, .slice none 0 0] 28)) := ((Below.refl _ w).alloc (by simp) _)
  generalize hgW : w.alloc (Obj.cells #[.bool false, .slice none 0 0, .slice none 0 0] 28) = W at *
  clear hgW
  replace r_0 := r.cell (i := 0) rfl
  replace r_1 := r.cell (i := 1) rfl
  replace r_2 := r.cell (i := 2) rfl
  replace r_f0 := r.free 0
  replace r_f1 := r.free 1
  replace r_f2 := r.free 2
  replace r_lt := r.lt
  refine (r3Of_any 1 W (by omega) (by omega)).mono ?_
  rintro e w2 ⟨a5, n5, c5, rfl, h5, hE2⟩
  rw [show decide ((1 : Int) < 0) = false from rfl]
  rw [show (1 : Int).natAbs = 1 from rfl] at h5
  have hWl := r_lt
  replace r := r.ext hE2; replace r_0 := r.cell (i := 0) rfl; replace r_1 := r.cell (i := 1) rfl; replace r_2 := r.cell (i := 2) rfl; replace r_f0 := r.free 0; replace r_f1 := r.free 1; replace r_f2 := r.free 2; replace r_lt := r.lt
  have HR0 := Lib.hid r
  have HE0 := Lib.hid (Ext.trans hEW hE2)
  have H5 := Lib.hid (h5.mono (B' := w.heap.size + 1) hWl (Kept.refl _ _))
  have hszr := r_lt
  clear h5 hE2 hEW
  go_wp2_with fail
  have o := Blk.new w2 28 #[.bool false, .slice a5 n5 c5, .slice none 0 0]
  have hEW3 : Ext w2 (w2.alloc (Obj.cells #[.bool false, .slice a5 n5 c5, .slice none 0 0] 28)) := ((Below.refl _ w2).alloc (by simp) _)
  generalize hgW3 : w2.alloc (Obj.cells #[.bool false, .slice a5 n5 c5, .slice none 0 0] 28) = W3 at *
  clear hgW3
  replace o_0 := o.cell (i := 0) rfl
  replace o_1 := o.cell (i := 1) rfl
  replace o_2 := o.cell (i := 2) rfl
  have HE3 := Lib.hid hEW3
  have HO0 := Lib.hid o
  have hW3 : w2.heap.size + 1 ≤ W3.heap.size := o.lt
  clear o o_0 o_1 o_2 r r_0 r_1 r_2 r_f0 r_f1 r_f2 r_lt hEW3
  go_loopg [13] n (fun q vi wx => ∃ (j : Nat), j ≤ n ∧ q = n - j ∧ vi = .int .i64 (j : Int) ∧ Hid (∃ vo css, Blk wx w2.heap.size 28 #[.bool false, .slice a5 n5 c5, vo] ∧ Grp rRowsN W3.heap.size 30 wx vo j (zss.take j) css) ∧ Hid (Ext w2 wx) ∧ W3.heap.size ≤ wx.heap.size)
  case atStart => exact ⟨0, Nat.zero_le _, by omega, rfl, Lib.hid ⟨_, [], HO0.out, Grp.nil _ _ _ _⟩, HE3, Nat.le_refl _⟩
  case round =>
    obtain ⟨j, hj, hq, rfl, HO, HEx, hszx⟩ := hrel
    by_cases hjn : j < n
    · obtain ⟨b6, o6, a1, n1, c1, x, ha6, hb6, hx, hc6, hrw⟩ := HS.out.getRow hjn
      subst ha6
      replace hc6 := ((Ext.trans HE0.out HEx.out).cell (p := ⟨b6, o6 + j, none⟩) hb6).trans hc6
      obtain ⟨hil, hxe⟩ := List.getElem?_eq_some_iff.1 hx
      have hmem : x ∈ zss := List.mem_of_getElem? hx
      have hts : zss.take (j + 1) = zss.take j ++ [x] := by rw [List.take_succ_eq_append_getElem hil, hxe]
      have HTS := Lib.hid hts
      have hn1 : n1 ≤ 1099511627776 := by rw [← hrw.len]; exact hrow.out x hmem
      have HIN := Lib.hid (hint.out x hmem)
      have HRW := Lib.hid hrw
      have hcap1 := hrw.cap
      have hmost1 := hrw.most
      have HL1 := Lib.hid hrw.len
      obtain ⟨cur, hcur, hmk⟩ := make_any under_ints info_int n1 n1 (Nat.le_refl _) (by omega) (by omega)
      replace hmk : ∀ w, (Instr.makeSlice 30 (.int .i64 (n1 : Int)) (.int .i64 (n1 : Int))).run Tryz.prog w = .ok (.slice (some ⟨w.heap.size, 0, none⟩) n1 n1) (w.alloc (.cells cur 25)) := hmk
      have HCur := Lib.hid hcur
      clear hcur hx hxe hmem hts hrw
      obtain ⟨wo, rfl⟩ : ∃ wo : World, wo = wr := ⟨_, rfl⟩
      have hEA : Ext wo (wo.alloc (Obj.cells cur 25)) := (Below.refl _ _).alloc (Nat.le_refl _) _
      have HG0 : Hid (Grp rIntN wo.heap.size 25 (wo.alloc (Obj.cells cur 25)) (.slice (some ⟨wo.heap.size, 0, none⟩) 0 n1) 0 [] []) := Lib.hid ⟨rfl, rfl, World.ownsRow_made wo cur n1 (Nat.le_refl _) (by unfold maxLen; omega) HCur.out, fun k hk => absurd hk (by simp)⟩
      have HEA := Lib.hid hEA
      clear hEA
      go_wp2_with fail
      go_loopg [22] n1 (fun q2 vi2 w3_ => ∃ (k : Nat), k ≤ n1 ∧ q2 = n1 - k ∧ vi2 = .int .i64 (k : Int) ∧ Hid (∃ css, Grp rIntN wo.heap.size 25 w3_ (.slice (some ⟨wo.heap.size, 0, none⟩) k n1) k (x.take k) css) ∧ Hid (Ext wo w3_))
      case atStart => exact ⟨0, Nat.zero_le _, by omega, rfl, Lib.hid ⟨[], HG0.out⟩, HEA⟩
      case round =>
        obtain ⟨k, hk, hq2, rfl, HGk, HEk⟩ := hrel
        by_cases hkn : k < n1
        · obtain ⟨b7, o7, z, ha7, hb7, hz, hc7⟩ := HRW.out.getI64 hkn
          subst ha7
          replace hc7 := ((Ext.trans HE0.out (Ext.trans HEx.out HEk.out)).cell (p := ⟨b7, o7 + k, none⟩) hb7).trans hc7
          obtain ⟨hkl, hze⟩ := List.getElem?_eq_some_iff.1 hz
          have hzb := HIN.out z (List.mem_of_getElem? hz)
          have HTK : Hid (x.take (k + 1) = x.take k ++ [z]) := Lib.hid (by rw [List.take_succ_eq_append_getElem hkl, hze])
          obtain ⟨css, hGk⟩ := HGk.out
          have hgl := hGk.cell.1
          have HGG := Lib.hid hGk
          clear hz hze hGk
          go_wp2_with fail
          refine (r3Of_any z wr hzb.1 hzb.2).mono ?_
          rintro e w5 ⟨a7, n7, c7, rfl, h7, hE5⟩
          have hG5 := HGG.out.keep hE5.size (fun b _ h2 => hE5.block b h2)
          obtain ⟨hg1, hg2, hg3⟩ := hG5.cell
          have q0 := hg3 (k * 2) (show k * 2 < n1 * 2 by omega)
          have q1 := hg3 (k * 2 + 1) (show k * 2 + 1 < n1 * 2 by omega)
          obtain ⟨⟨u0, s0⟩, f0⟩ := q0
          obtain ⟨⟨u1, s1⟩, f1⟩ := q1
          have HP := Lib.hid (hG5.put hkn (x := z) (cs := [.bool (decide (z < 0)), .slice a7 n7 c7]) (Bx := wr.heap.size) ⟨a7, n7, c7, rfl, h7⟩ HEk.out.size hgl)
          have HEP := Lib.hid (Below.setCell (Below.setCell (Ext.trans HEk.out hE5) (p := ⟨wo.heap.size, k * 2, none⟩) (Nat.le_refl _) (.bool (decide (z < 0)))) (p := ⟨wo.heap.size, k * 2 + 1, none⟩) (Nat.le_refl _) (.slice a7 n7 c7))
          clear hG5 hg3 h7 hE5 hc7 hc6
          go_wp2_with fail
          go_roundg (n1 - (k + 1))
          case measure => omega
          case rel => exact ⟨k + 1, by omega, rfl, by go_num, Lib.hid ⟨css ++ [[.bool (decide (z < 0)), .slice a7 n7 c7]], by rw [HTK.out]; exact HP.out⟩, HEP⟩
        · obtain rfl : k = n1 := by omega
          obtain ⟨css0, hGk⟩ := HGk.out
          rw [List.take_of_length_le (by rw [HL1.out]; exact Nat.le_refl _)] at hGk
          obtain ⟨ar, cr, hv, hsr⟩ := hGk.sl
          cases hv
          obtain ⟨vo, css2, ho, hGo⟩ := HO.out
          have hEB : Ext wr (wr.alloc (Obj.cells #[.slice (some ⟨wo.heap.size, 0, none⟩) k k] 30)) := (Below.refl _ _).alloc (Nat.le_refl _) _
          have hEB2 := Ext.trans HEk.out hEB
          have hlt11 := hGo.own.lt
          have hG11 := Lib.hid (hGo.keep hEB2.size (fun b _ h2 => hEB2.block b h2))
          have H11 := Lib.hid (hsr.ext (Nat.le_refl _) hEB)
          have HE11 := Lib.hid (Ext.trans HEx.out hEB2)
          have hszB := hEB2.size
          have hoE := ho.ext hEB2
          have hnews : ∀ (j' : Nat) (u : Value), [Value.slice (some ⟨wo.heap.size, 0, none⟩) k k][j']? = some u → (wr.alloc (Obj.cells #[.slice (some ⟨wo.heap.size, 0, none⟩) k k] 30)).cell? ((⟨wr.heap.size, 0, none⟩ : Addr).add j') = some u := fun j' u hu => by
            match j', hu with
            | 0, hu => cases hu; exact (Blk.new wr 30 #[.slice (some ⟨wo.heap.size, 0, none⟩) k k]).cell (i := 0) rfl
            | k + 1, hu => simp at hu
          obtain ⟨i0, hi0, hz0, hz1, hz2⟩ := info_parts info_ints
          have o := ho.ext HEk.out
          clear hGo hGk hEB2 hsr hEB ho hc6
          skip
          replace o_0 := o.cell (i := 0) rfl
          replace o_1 := o.cell (i := 1) rfl
          replace o_2 := o.cell (i := 2) rfl
          replace o_f0 := o.free 0
          replace o_f1 := o.free 1
          replace o_f2 := o.free 2
          replace o_lt := o.lt
          go_wp2_with (at_builtin; refine wpList_append_own_at _ rfl _ _ 26 rfl W3.heap.size 30 i0 _ 1 24 under_intss hi0 hz0 hz1 hz2 rfl (by decide) _ _ _ rfl hG11.out.own ⟨wr.heap.size, 0, none⟩ 1 1 [.slice (some ⟨wo.heap.size, 0, none⟩) k k] rfl rfl hnews (by simp [Value.oneCell']) (by unfold maxLen; omega) (by omega) (by exact Nat.le_trans hszx hszB) ?_; intro v' w1_ hown' hgrow _ hat; obtain ⟨g', cap', rfl⟩ := ownsRow_succ hown'; replace o := Blk.grown hoE hgrow (fun e => by have := (hlt11 _ e.symm).1; omega); replace o_0 := o.cell (i := 0) rfl; replace o_1 := o.cell (i := 1) rfl; replace o_2 := o.cell (i := 2) rfl; replace o_f0 := o.free 0; replace o_f1 := o.free 1; replace o_f2 := o.free 2; replace o_lt := o.lt)
          have HAD := Lib.hid (hG11.out.add hown' hgrow hat (x := x) (Bx := wo.heap.size) ⟨_, k, k, rfl, H11.out⟩ hszx (fun k e => (hlt11 k e).2))
          have hgs := hgrow.size
          have HEz := Lib.hid ((HE11.out.grown hgrow HE11.out.size (fun k e => by have := (hlt11 k e).1; omega)).setCell (p := ⟨w2.heap.size, 2, none⟩) (Nat.le_refl _) (.slice (some ⟨g', 0, none⟩) (j + 1) cap'))
          have HOz := Lib.hid (o.set 2 (.slice (some ⟨g', 0, none⟩) (j + 1) cap'))
          have hszz : W3.heap.size ≤ (w1_.setCell ⟨w2.heap.size, 2, none⟩ (.slice (some ⟨g', 0, none⟩) (j + 1) cap')).heap.size := by simp only [World.setCell, Array.size_modify]; exact Nat.le_trans (Nat.le_trans hszx hszB) hgs
          have HKa := Lib.hid (HAD.out.keep (w' := w1_.setCell ⟨w2.heap.size, 2, none⟩ (.slice (some ⟨g', 0, none⟩) (j + 1) cap')) (by simp [World.setCell]) (fun b h1 _ => Below.heap_setCell _ _ _ b (by simp; omega)))
          clear hown' hgrow hat hnews
          go_wp2_with fail
          go_roundg (n - (j + 1))
          case measure => omega
          case rel => exact ⟨j + 1, by omega, rfl, by go_num, Lib.hid ⟨_, css2 ++ [[.slice (some ⟨wo.heap.size, 0, none⟩) k k]], HOz.out, by rw [HTS.out]; exact HKa.out⟩, HEz, hszz⟩
    · obtain rfl : j = n := by omega
      obtain ⟨vo, css, ho, hG⟩ := HO.out
      rw [List.take_of_length_le (by rw [hlen.out]; exact Nat.le_refl _)] at hG
      obtain ⟨aa2, ca2, rfl, hsl⟩ := hG.sl
      have hrows : Sl rRowsN (w.heap.size + 1) wr aa2 j ca2 zss := hsl.mono (by omega) (Kept.refl _ _)
      have h5 := H5.out.ext (Nat.le_refl _) HEx.out
      have r := HR0.out.ext HEx.out
      have o := ho
      have hEa := Ext.trans HE0.out HEx.out
      have HF : Hid (RFrom w 1 zss (.returned (.agg #[.bool false, .slice a5 n5 c5, .slice aa2 j ca2])) (((wr.setCell ⟨w.heap.size, 0, none⟩ (.bool false)).setCell ⟨w.heap.size, 1, none⟩ (.slice a5 n5 c5)).setCell ⟨w.heap.size, 2, none⟩ (.slice aa2 j ca2))) :=
        Lib.hid ⟨a5, n5, c5, aa2, j, ca2, rfl, h5.mono (by omega) (kept_set3 _ _ _ _ (Nat.lt_succ_self _)), hrows.mono (by omega) (kept_set3 _ _ _ _ (Nat.lt_succ_self _)), ext_set3 hEa _ _ _ (Nat.le_refl _)⟩
      clear hrows h5 hEa hsl hG ho
      skip
      skip
      replace r_0 := r.cell (i := 0) rfl
      replace r_1 := r.cell (i := 1) rfl
      replace r_2 := r.cell (i := 2) rfl
      replace r_f0 := r.free 0
      replace r_f1 := r.free 1
      replace r_f2 := r.free 2
      replace r_lt := r.lt
      replace o_0 := o.cell (i := 0) rfl
      replace o_1 := o.cell (i := 1) rfl
      replace o_2 := o.cell (i := 2) rfl
      have r2 := ((r.set 0 (.bool false)).set 1 (.slice a5 n5 c5)).set 2 (.slice aa2 j ca2)
      have hr0 := r2.cell (i := 0) rfl
      have hr1 := r2.cell (i := 1) rfl
      have hr2 := r2.cell (i := 2) rfl
      go_wp2_with fail
      exact bodyPost_ret (v := .agg #[.bool false, .slice a5 n5 c5, .slice aa2 j ca2]) (by simp [results, Tryz.results76, go_sem, hr0, hr1, hr2]) rfl HF.out
end Go.Proofs.YtbhenelehhiakaaGreat
/-
  The laws' own sign of life: lives.
-/
namespace Go.Proofs.YtbhenelehhiakaaGreat
open Go.RowKit

theorem Sl.weakm {α : Type} {r s : Rd α} {B B' : Nat} {w : World} {a : Option Addr} {n c : Nat} {xs : List α} (h : Sl r B w a n c xs) (hB : B' ≤ B) (hs : r.size = s.size) (hok : ∀ cs x, x ∈ xs → r.ok B w cs x → s.ok B' w cs x) : Sl s B' w a n c xs :=
  ⟨h.len, h.cap, h.most, h.nil, fun i hi => by
    obtain ⟨b, o, cs, ha, hr, hc⟩ := h.at_ i hi
    refine ⟨b, o, cs, ha, hok _ _ (List.getElem_mem _) hr, fun j hj => ?_⟩
    rw [← hs]
    obtain ⟨h1, h2, h3⟩ := hc j hj
    exact ⟨Nat.le_trans hB h1, h2, h3⟩⟩

theorem intK_of {K B : Nat} {w : World} {cs : List Value} {z : Int} (h : rIntN.ok B w cs z) (hz : nl z.natAbs ≤ K) : (rIntK K).ok 0 w cs z := by
  obtain ⟨a, n, c, e, h1⟩ := h
  exact ⟨_, a, n, c, _, e, h1.mono (Nat.zero_le _) (Kept.refl _ _), ival_norm z, by have := h1.len; rw [length_limbs] at this; omega⟩
/-- a normal matrix is a matrix that lies with a bound -/
theorem matS_of {K B : Nat} {w : World} {b : Bool} {a a2 : Option Addr} {n c n2 c2 : Nat} {d : Int} {zss : List (List Int)} (h : NatS B w a n c (limbs d.natAbs)) (hb : decide (d < 0) = b) (h2 : Sl rRowsN B w a2 n2 c2 zss) (hd : nl d.natAbs ≤ K) (hz : ∀ zs ∈ zss, ∀ z ∈ zs, nl z.natAbs ≤ K) : MatS K w b a n c a2 n2 c2 d zss := by
  subst hb
  refine ⟨_, h.mono (Nat.zero_le _) (Kept.refl _ _), ival_norm d, by have := h.len; rw [length_limbs] at this; omega, ?_⟩
  refine h2.weakm (Nat.zero_le _) rfl fun cs zs hm ⟨a, n, c, e, h3⟩ => ⟨a, n, c, e, ?_⟩
  exact h3.weakm (Nat.zero_le _) rfl fun cs z hm2 h4 => intK_of h4 (hz zs hm z hm2)

/-- a block of values of one cell each is a slice -/
theorem Sl.ofBlk {α : Type} {r : Rd α} (hr : r.size = 1) {w : World} {g : Nat} {t : TypeId} {vs : List Value} {xs : List α} (h : Blk w g t vs.toArray) (hl : xs.length = vs.length) (hm : vs.length ≤ 9223372036854775807) (hok : ∀ i (h1 : i < xs.length) (h2 : i < vs.length), r.ok 0 w [vs[i]] xs[i]) : Sl r 0 w (some ⟨g, 0, none⟩) vs.length vs.length xs := by
  refine ⟨hl, Nat.le_refl _, hm, by simp, fun i hi => ?_⟩
  have hi2 : i < vs.length := by omega
  refine ⟨g, 0, [vs[i]], rfl, hok i hi hi2, fun j hj => ?_⟩
  have : j = 0 := by simp at hj; omega
  subst this
  rw [hr]
  refine ⟨Nat.zero_le _, ?_, h.free _⟩
  have := h.cell (i := 0 + i * 1 + 0) (v := vs[i]) (by simp)
  exact this

theorem sl_int1 {w : World} {g : Nat} {t : TypeId} {x : Int} (h : Blk w g t #[.int .i64 x]) : Sl rI64 0 w (some ⟨g, 0, none⟩) 1 1 [x] :=
  Sl.ofBlk (vs := [.int .i64 x]) rfl h rfl (by simp) fun i h1 h2 => by
    match i, h1 with
    | 0, _ => rfl
theorem sl_int2 {w : World} {g : Nat} {t : TypeId} {x y : Int} (h : Blk w g t #[.int .i64 x, .int .i64 y]) : Sl rI64 0 w (some ⟨g, 0, none⟩) 2 2 [x, y] :=
  Sl.ofBlk (vs := [.int .i64 x, .int .i64 y]) rfl h rfl (by simp) fun i h1 h2 => by
    match i, h1 with
    | 0, _ => rfl
    | 1, _ => rfl
theorem sl_row1 {w : World} {g : Nat} {t : TypeId} {a : Option Addr} {n c : Nat} {xs : List Int} (h : Blk w g t #[.slice a n c]) (hx : Sl rI64 0 w a n c xs) : Sl rI64.slice 0 w (some ⟨g, 0, none⟩) 1 1 [xs] :=
  Sl.ofBlk (vs := [.slice a n c]) rfl h rfl (by simp) fun i h1 h2 => by
    match i, h1 with
    | 0, _ => exact ⟨a, n, c, rfl, hx⟩
theorem sl_row2 {w : World} {g : Nat} {t : TypeId} {a a2 : Option Addr} {n c n2 c2 : Nat} {xs ys : List Int} (h : Blk w g t #[.slice a n c, .slice a2 n2 c2]) (hx : Sl rI64 0 w a n c xs) (hy : Sl rI64 0 w a2 n2 c2 ys) : Sl rI64.slice 0 w (some ⟨g, 0, none⟩) 2 2 [xs, ys] :=
  Sl.ofBlk (vs := [.slice a n c, .slice a2 n2 c2]) rfl h rfl (by simp) fun i h1 h2 => by
    match i, h1 with
    | 0, _ => exact ⟨a, n, c, rfl, hx⟩
    | 1, _ => exact ⟨a2, n2, c2, rfl, hy⟩

/-- a call of `of` at one row of two -/
theorem of_row2 (w : World) (g g2 : Nat) (t t2 : TypeId) (x y : Int) (h : Blk w g t #[.int .i64 x, .int .i64 y]) (h2 : Blk w g2 t2 #[.slice (some ⟨g, 0, none⟩) 2 2]) (hx : -9223372036854775808 ≤ x ∧ x ≤ 9223372036854775807) (hy : -9223372036854775808 ≤ y ∧ y ≤ 9223372036854775807) :
    Calls Tryz.prog 76 #[.slice (some ⟨g2, 0, none⟩) 1 1] w (RFrom w 1 [[x, y]]) :=
  of_any w _ 1 1 [[x, y]] (sl_row1 h2 (sl_int2 h)) (by omega) (Lib.hid (by simp)) (Lib.hid (by simp; omega))
theorem of_row1 (w : World) (g g2 : Nat) (t t2 : TypeId) (x : Int) (h : Blk w g t #[.int .i64 x]) (h2 : Blk w g2 t2 #[.slice (some ⟨g, 0, none⟩) 1 1]) (hx : -9223372036854775808 ≤ x ∧ x ≤ 9223372036854775807) :
    Calls Tryz.prog 76 #[.slice (some ⟨g2, 0, none⟩) 1 1] w (RFrom w 1 [[x]]) :=
  of_any w _ 1 1 [[x]] (sl_row1 h2 (sl_int1 h)) (by omega) (Lib.hid (by simp)) (Lib.hid (by simp; omega))
theorem of_rows2 (w : World) (g g2 g3 : Nat) (t t2 t3 : TypeId) (x y x2 y2 : Int) (h : Blk w g t #[.int .i64 x, .int .i64 y]) (h' : Blk w g3 t3 #[.int .i64 x2, .int .i64 y2]) (h2 : Blk w g2 t2 #[.slice (some ⟨g, 0, none⟩) 2 2, .slice (some ⟨g3, 0, none⟩) 2 2]) (hx : -9223372036854775808 ≤ x ∧ x ≤ 9223372036854775807) (hy : -9223372036854775808 ≤ y ∧ y ≤ 9223372036854775807) (hx2 : -9223372036854775808 ≤ x2 ∧ x2 ≤ 9223372036854775807) (hy2 : -9223372036854775808 ≤ y2 ∧ y2 ≤ 9223372036854775807) :
    Calls Tryz.prog 76 #[.slice (some ⟨g2, 0, none⟩) 2 2] w (RFrom w 1 [[x, y], [x2, y2]]) :=
  of_any w _ 2 2 [[x, y], [x2, y2]] (sl_row2 h2 (sl_int2 h) (sl_int2 h')) (by omega) (Lib.hid (by simp)) (Lib.hid (by simp; omega))

theorem sl_mat2 {K : Nat} {w : World} {g : Nat} {t : TypeId} {b b' : Bool} {a a2 a' a2' : Option Addr} {n c n2 c2 n' c' n2' c2' : Nat} {x y : Int × List (List Int)} (h : Blk w g t #[.bool b, .slice a n c, .slice a2 n2 c2, .bool b', .slice a' n' c', .slice a2' n2' c2']) (hx : MatS K w b a n c a2 n2 c2 x.1 x.2) (hy : MatS K w b' a' n' c' a2' n2' c2' y.1 y.2) : Sl (rMatK K) 0 w (some ⟨g, 0, none⟩) 2 2 [x, y] := by
  refine ⟨rfl, Nat.le_refl _, by omega, by simp, fun i hi => ?_⟩
  match i, hi with
  | 0, _ =>
    refine ⟨g, 0, [.bool b, .slice a n c, .slice a2 n2 c2], rfl, ⟨_, _, _, _, _, _, _, rfl, hx⟩, fun j hj => ⟨Nat.zero_le _, ?_, h.free _⟩⟩
    match j, hj with
    | 0, _ => exact h.cell (i := 0) rfl
    | 1, _ => exact h.cell (i := 1) rfl
    | 2, _ => exact h.cell (i := 2) rfl
  | 1, _ =>
    refine ⟨g, 0, [.bool b', .slice a' n' c', .slice a2' n2' c2'], rfl, ⟨_, _, _, _, _, _, _, rfl, hy⟩, fun j hj => ⟨Nat.zero_le _, ?_, h.free _⟩⟩
    match j, hj with
    | 0, _ => exact h.cell (i := 3) rfl
    | 1, _ => exact h.cell (i := 4) rfl
    | 2, _ => exact h.cell (i := 5) rfl
example : blkDen [(1, [[1]]), (1, [[2]])] = 1 := by decide
example : blkRows 2 1 [(1, [[1]]), (1, [[2]])] 0 = [[1, 0], [0, 2]] := by decide

theorem of_lit2 (w : World) (x y : Int) (hx : -9223372036854775808 ≤ x ∧ x ≤ 9223372036854775807) (hy : -9223372036854775808 ≤ y ∧ y ≤ 9223372036854775807) :
    Calls Tryz.prog 76 #[.slice (some ⟨w.heap.size + 1, 0, none⟩) 1 1] ((w.alloc (Obj.cells #[.int .i64 x, .int .i64 y] 2)).alloc (Obj.cells #[.slice (some ⟨w.heap.size, 0, none⟩) 2 2] 111)).drew (RFrom w 1 [[x, y]]) := by
  have y0 := Blk.new w 2 #[.int .i64 x, .int .i64 y]
  have y2 := Blk.new (w.alloc (Obj.cells #[.int .i64 x, .int .i64 y] 2)) 111 #[.slice (some ⟨w.heap.size, 0, none⟩) 2 2]
  replace y0 := y0.ext ((Below.refl _ _).alloc (Nat.le_refl _) (Obj.cells #[.slice (some ⟨w.heap.size, 0, none⟩) 2 2] 111))
  have hEW : Ext w ((w.alloc (Obj.cells #[.int .i64 x, .int .i64 y] 2)).alloc (Obj.cells #[.slice (some ⟨w.heap.size, 0, none⟩) 2 2] 111)) := (((Below.refl _ w).alloc (by simp) _).alloc (by simp) _)
  generalize hgW : (w.alloc (Obj.cells #[.int .i64 x, .int .i64 y] 2)).alloc (Obj.cells #[.slice (some ⟨w.heap.size, 0, none⟩) 2 2] 111) = W at *
  clear hgW
  simp only [World.size_alloc] at y2
  have y0_ne_y2 : ¬ w.heap.size = w.heap.size + 1 := by omega
  have y2_ne_y0 : ¬ w.heap.size + 1 = w.heap.size := by omega
  replace y0_0 := y0.cell (i := 0) rfl
  replace y0_1 := y0.cell (i := 1) rfl
  replace y2_0 := y2.cell (i := 0) rfl
  refine (of_row2 W.drew w.heap.size (w.heap.size + 1) _ _ x y y0 y2 hx hy).mono ?_
  rintro e w2 ⟨a6, n6, c6, a7, n7, c7, rfl, h6, h7, hE2⟩
  exact ⟨a6, n6, c6, a7, n7, c7, rfl, h6.mono hEW.size (Kept.refl _ _), h7.mono hEW.size (Kept.refl _ _), Ext.trans hEW.drew hE2⟩

theorem of_lits_a (w : World) (x y x2 y2 : Int) (hx : -9223372036854775808 ≤ x ∧ x ≤ 9223372036854775807) (hy : -9223372036854775808 ≤ y ∧ y ≤ 9223372036854775807) (hx2 : -9223372036854775808 ≤ x2 ∧ x2 ≤ 9223372036854775807) (hy2 : -9223372036854775808 ≤ y2 ∧ y2 ≤ 9223372036854775807) :
    Calls Tryz.prog 76 #[.slice (some ⟨w.heap.size + 1 + 1, 0, none⟩) 2 2] ((((w.alloc (Obj.cells #[.int .i64 x, .int .i64 y] 2)).alloc (Obj.cells #[.int .i64 x2, .int .i64 y2] 2)).alloc (Obj.cells #[.slice (some ⟨w.heap.size, 0, none⟩) 2 2, .slice (some ⟨w.heap.size + 1, 0, none⟩) 2 2] 111))) (RFrom w 1 [[x, y], [x2, y2]]) := by
  have y0 := Blk.new w 2 #[.int .i64 x, .int .i64 y]
  have y1 := Blk.new (w.alloc (Obj.cells #[.int .i64 x, .int .i64 y] 2)) 2 #[.int .i64 x2, .int .i64 y2]
  replace y0 := y0.ext ((Below.refl _ _).alloc (Nat.le_refl _) (Obj.cells #[.int .i64 x2, .int .i64 y2] 2))
  have z2 := Blk.new ((w.alloc (Obj.cells #[.int .i64 x, .int .i64 y] 2)).alloc (Obj.cells #[.int .i64 x2, .int .i64 y2] 2)) 111 #[.slice (some ⟨w.heap.size, 0, none⟩) 2 2, .slice (some ⟨w.heap.size + 1, 0, none⟩) 2 2]
  replace y0 := y0.ext ((Below.refl _ _).alloc (Nat.le_refl _) (Obj.cells #[.slice (some ⟨w.heap.size, 0, none⟩) 2 2, .slice (some ⟨w.heap.size + 1, 0, none⟩) 2 2] 111))
  replace y1 := y1.ext ((Below.refl _ _).alloc (Nat.le_refl _) (Obj.cells #[.slice (some ⟨w.heap.size, 0, none⟩) 2 2, .slice (some ⟨w.heap.size + 1, 0, none⟩) 2 2] 111))
  have hEW : Ext w (((w.alloc (Obj.cells #[.int .i64 x, .int .i64 y] 2)).alloc (Obj.cells #[.int .i64 x2, .int .i64 y2] 2)).alloc (Obj.cells #[.slice (some ⟨w.heap.size, 0, none⟩) 2 2, .slice (some ⟨w.heap.size + 1, 0, none⟩) 2 2] 111)) := ((((Below.refl _ w).alloc (by simp) _).alloc (by simp) _).alloc (by simp; omega) _)
  generalize hgW : ((w.alloc (Obj.cells #[.int .i64 x, .int .i64 y] 2)).alloc (Obj.cells #[.int .i64 x2, .int .i64 y2] 2)).alloc (Obj.cells #[.slice (some ⟨w.heap.size, 0, none⟩) 2 2, .slice (some ⟨w.heap.size + 1, 0, none⟩) 2 2] 111) = W at *
  clear hgW
  simp only [World.size_alloc] at y1 z2
  have y0_ne_y1 : ¬ w.heap.size = w.heap.size + 1 := by omega
  have y0_ne_z2 : ¬ w.heap.size = w.heap.size + 1 + 1 := by omega
  have y1_ne_y0 : ¬ w.heap.size + 1 = w.heap.size := by omega
  have y1_ne_z2 : ¬ w.heap.size + 1 = w.heap.size + 1 + 1 := by omega
  have z2_ne_y0 : ¬ w.heap.size + 1 + 1 = w.heap.size := by omega
  have z2_ne_y1 : ¬ w.heap.size + 1 + 1 = w.heap.size + 1 := by omega
  replace y0_0 := y0.cell (i := 0) rfl
  replace y0_1 := y0.cell (i := 1) rfl
  replace y1_0 := y1.cell (i := 0) rfl
  replace y1_1 := y1.cell (i := 1) rfl
  replace z2_0 := z2.cell (i := 0) rfl
  replace z2_1 := z2.cell (i := 1) rfl
  refine (of_rows2 W (w.heap.size) (w.heap.size + 1 + 1) (w.heap.size + 1) _ _ _ x y _ _ y0 y1 z2 hx hy hx2 hy2).mono ?_
  rintro e w2 ⟨a6, n6, c6, a7, n7, c7, rfl, h6, h7, hE2⟩
  exact ⟨a6, n6, c6, a7, n7, c7, rfl, h6.mono hEW.size (Kept.refl _ _), h7.mono hEW.size (Kept.refl _ _), Ext.trans hEW hE2⟩
theorem of_lits_b (w : World) (x y x2 y2 : Int) (hx : -9223372036854775808 ≤ x ∧ x ≤ 9223372036854775807) (hy : -9223372036854775808 ≤ y ∧ y ≤ 9223372036854775807) (hx2 : -9223372036854775808 ≤ x2 ∧ x2 ≤ 9223372036854775807) (hy2 : -9223372036854775808 ≤ y2 ∧ y2 ≤ 9223372036854775807) :
    Calls Tryz.prog 76 #[.slice (some ⟨w.heap.size + 1 + 1, 0, none⟩) 2 2] ((((w.alloc (Obj.cells #[.int .i64 x, .int .i64 y] 2)).alloc (Obj.cells #[.int .i64 x2, .int .i64 y2] 2)).alloc (Obj.cells #[.slice (some ⟨w.heap.size, 0, none⟩) 2 2, .slice (some ⟨w.heap.size + 1, 0, none⟩) 2 2] 111)).drew) (RFrom w 1 [[x, y], [x2, y2]]) := by
  have y0 := Blk.new w 2 #[.int .i64 x, .int .i64 y]
  have y1 := Blk.new (w.alloc (Obj.cells #[.int .i64 x, .int .i64 y] 2)) 2 #[.int .i64 x2, .int .i64 y2]
  replace y0 := y0.ext ((Below.refl _ _).alloc (Nat.le_refl _) (Obj.cells #[.int .i64 x2, .int .i64 y2] 2))
  have z2 := Blk.new ((w.alloc (Obj.cells #[.int .i64 x, .int .i64 y] 2)).alloc (Obj.cells #[.int .i64 x2, .int .i64 y2] 2)) 111 #[.slice (some ⟨w.heap.size, 0, none⟩) 2 2, .slice (some ⟨w.heap.size + 1, 0, none⟩) 2 2]
  replace y0 := y0.ext ((Below.refl _ _).alloc (Nat.le_refl _) (Obj.cells #[.slice (some ⟨w.heap.size, 0, none⟩) 2 2, .slice (some ⟨w.heap.size + 1, 0, none⟩) 2 2] 111))
  replace y1 := y1.ext ((Below.refl _ _).alloc (Nat.le_refl _) (Obj.cells #[.slice (some ⟨w.heap.size, 0, none⟩) 2 2, .slice (some ⟨w.heap.size + 1, 0, none⟩) 2 2] 111))
  have hEW : Ext w (((w.alloc (Obj.cells #[.int .i64 x, .int .i64 y] 2)).alloc (Obj.cells #[.int .i64 x2, .int .i64 y2] 2)).alloc (Obj.cells #[.slice (some ⟨w.heap.size, 0, none⟩) 2 2, .slice (some ⟨w.heap.size + 1, 0, none⟩) 2 2] 111)) := ((((Below.refl _ w).alloc (by simp) _).alloc (by simp) _).alloc (by simp; omega) _)
  generalize hgW : ((w.alloc (Obj.cells #[.int .i64 x, .int .i64 y] 2)).alloc (Obj.cells #[.int .i64 x2, .int .i64 y2] 2)).alloc (Obj.cells #[.slice (some ⟨w.heap.size, 0, none⟩) 2 2, .slice (some ⟨w.heap.size + 1, 0, none⟩) 2 2] 111) = W at *
  clear hgW
  simp only [World.size_alloc] at y1 z2
  have y0_ne_y1 : ¬ w.heap.size = w.heap.size + 1 := by omega
  have y0_ne_z2 : ¬ w.heap.size = w.heap.size + 1 + 1 := by omega
  have y1_ne_y0 : ¬ w.heap.size + 1 = w.heap.size := by omega
  have y1_ne_z2 : ¬ w.heap.size + 1 = w.heap.size + 1 + 1 := by omega
  have z2_ne_y0 : ¬ w.heap.size + 1 + 1 = w.heap.size := by omega
  have z2_ne_y1 : ¬ w.heap.size + 1 + 1 = w.heap.size + 1 := by omega
  replace y0_0 := y0.cell (i := 0) rfl
  replace y0_1 := y0.cell (i := 1) rfl
  replace y1_0 := y1.cell (i := 0) rfl
  replace y1_1 := y1.cell (i := 1) rfl
  replace z2_0 := z2.cell (i := 0) rfl
  replace z2_1 := z2.cell (i := 1) rfl
  refine (of_rows2 W.drew (w.heap.size) (w.heap.size + 1 + 1) (w.heap.size + 1) _ _ _ x y _ _ y0 y1 z2 hx hy hx2 hy2).mono ?_
  rintro e w2 ⟨a6, n6, c6, a7, n7, c7, rfl, h6, h7, hE2⟩
  exact ⟨a6, n6, c6, a7, n7, c7, rfl, h6.mono hEW.size (Kept.refl _ _), h7.mono hEW.size (Kept.refl _ _), Ext.trans hEW.drew hE2⟩
theorem of_lits_c (w : World) (x y x2 y2 : Int) (hx : -9223372036854775808 ≤ x ∧ x ≤ 9223372036854775807) (hy : -9223372036854775808 ≤ y ∧ y ≤ 9223372036854775807) (hx2 : -9223372036854775808 ≤ x2 ∧ x2 ≤ 9223372036854775807) (hy2 : -9223372036854775808 ≤ y2 ∧ y2 ≤ 9223372036854775807) :
    Calls Tryz.prog 76 #[.slice (some ⟨w.heap.size + 1 + 1, 0, none⟩) 2 2] ((((w.alloc (Obj.cells #[.int .i64 x2, .int .i64 y2] 2)).alloc (Obj.cells #[.int .i64 x, .int .i64 y] 2)).alloc (Obj.cells #[.slice (some ⟨w.heap.size + 1, 0, none⟩) 2 2, .slice (some ⟨w.heap.size, 0, none⟩) 2 2] 111))) (RFrom w 1 [[x, y], [x2, y2]]) := by
  have y1 := Blk.new w 2 #[.int .i64 x2, .int .i64 y2]
  have y0 := Blk.new (w.alloc (Obj.cells #[.int .i64 x2, .int .i64 y2] 2)) 2 #[.int .i64 x, .int .i64 y]
  replace y1 := y1.ext ((Below.refl _ _).alloc (Nat.le_refl _) (Obj.cells #[.int .i64 x, .int .i64 y] 2))
  have z2 := Blk.new ((w.alloc (Obj.cells #[.int .i64 x2, .int .i64 y2] 2)).alloc (Obj.cells #[.int .i64 x, .int .i64 y] 2)) 111 #[.slice (some ⟨w.heap.size + 1, 0, none⟩) 2 2, .slice (some ⟨w.heap.size, 0, none⟩) 2 2]
  replace y1 := y1.ext ((Below.refl _ _).alloc (Nat.le_refl _) (Obj.cells #[.slice (some ⟨w.heap.size + 1, 0, none⟩) 2 2, .slice (some ⟨w.heap.size, 0, none⟩) 2 2] 111))
  replace y0 := y0.ext ((Below.refl _ _).alloc (Nat.le_refl _) (Obj.cells #[.slice (some ⟨w.heap.size + 1, 0, none⟩) 2 2, .slice (some ⟨w.heap.size, 0, none⟩) 2 2] 111))
  have hEW : Ext w (((w.alloc (Obj.cells #[.int .i64 x2, .int .i64 y2] 2)).alloc (Obj.cells #[.int .i64 x, .int .i64 y] 2)).alloc (Obj.cells #[.slice (some ⟨w.heap.size + 1, 0, none⟩) 2 2, .slice (some ⟨w.heap.size, 0, none⟩) 2 2] 111)) := ((((Below.refl _ w).alloc (by simp) _).alloc (by simp) _).alloc (by simp; omega) _)
  generalize hgW : ((w.alloc (Obj.cells #[.int .i64 x2, .int .i64 y2] 2)).alloc (Obj.cells #[.int .i64 x, .int .i64 y] 2)).alloc (Obj.cells #[.slice (some ⟨w.heap.size + 1, 0, none⟩) 2 2, .slice (some ⟨w.heap.size, 0, none⟩) 2 2] 111) = W at *
  clear hgW
  simp only [World.size_alloc] at y0 z2
  have y1_ne_y0 : ¬ w.heap.size = w.heap.size + 1 := by omega
  have y1_ne_z2 : ¬ w.heap.size = w.heap.size + 1 + 1 := by omega
  have y0_ne_y1 : ¬ w.heap.size + 1 = w.heap.size := by omega
  have y0_ne_z2 : ¬ w.heap.size + 1 = w.heap.size + 1 + 1 := by omega
  have z2_ne_y1 : ¬ w.heap.size + 1 + 1 = w.heap.size := by omega
  have z2_ne_y0 : ¬ w.heap.size + 1 + 1 = w.heap.size + 1 := by omega
  replace y1_0 := y1.cell (i := 0) rfl
  replace y1_1 := y1.cell (i := 1) rfl
  replace y0_0 := y0.cell (i := 0) rfl
  replace y0_1 := y0.cell (i := 1) rfl
  replace z2_0 := z2.cell (i := 0) rfl
  replace z2_1 := z2.cell (i := 1) rfl
  refine (of_rows2 W (w.heap.size + 1) (w.heap.size + 1 + 1) (w.heap.size) _ _ _ x y _ _ y0 y1 z2 hx hy hx2 hy2).mono ?_
  rintro e w2 ⟨a6, n6, c6, a7, n7, c7, rfl, h6, h7, hE2⟩
  exact ⟨a6, n6, c6, a7, n7, c7, rfl, h6.mono hEW.size (Kept.refl _ _), h7.mono hEW.size (Kept.refl _ _), Ext.trans hEW hE2⟩
theorem of_lits_d (w : World) (x y x2 y2 : Int) (hx : -9223372036854775808 ≤ x ∧ x ≤ 9223372036854775807) (hy : -9223372036854775808 ≤ y ∧ y ≤ 9223372036854775807) (hx2 : -9223372036854775808 ≤ x2 ∧ x2 ≤ 9223372036854775807) (hy2 : -9223372036854775808 ≤ y2 ∧ y2 ≤ 9223372036854775807) :
    Calls Tryz.prog 76 #[.slice (some ⟨w.heap.size + 1 + 1, 0, none⟩) 2 2] ((((w.alloc (Obj.cells #[.int .i64 x2, .int .i64 y2] 2)).alloc (Obj.cells #[.int .i64 x, .int .i64 y] 2)).alloc (Obj.cells #[.slice (some ⟨w.heap.size + 1, 0, none⟩) 2 2, .slice (some ⟨w.heap.size, 0, none⟩) 2 2] 111)).drew) (RFrom w 1 [[x, y], [x2, y2]]) := by
  have y1 := Blk.new w 2 #[.int .i64 x2, .int .i64 y2]
  have y0 := Blk.new (w.alloc (Obj.cells #[.int .i64 x2, .int .i64 y2] 2)) 2 #[.int .i64 x, .int .i64 y]
  replace y1 := y1.ext ((Below.refl _ _).alloc (Nat.le_refl _) (Obj.cells #[.int .i64 x, .int .i64 y] 2))
  have z2 := Blk.new ((w.alloc (Obj.cells #[.int .i64 x2, .int .i64 y2] 2)).alloc (Obj.cells #[.int .i64 x, .int .i64 y] 2)) 111 #[.slice (some ⟨w.heap.size + 1, 0, none⟩) 2 2, .slice (some ⟨w.heap.size, 0, none⟩) 2 2]
  replace y1 := y1.ext ((Below.refl _ _).alloc (Nat.le_refl _) (Obj.cells #[.slice (some ⟨w.heap.size + 1, 0, none⟩) 2 2, .slice (some ⟨w.heap.size, 0, none⟩) 2 2] 111))
  replace y0 := y0.ext ((Below.refl _ _).alloc (Nat.le_refl _) (Obj.cells #[.slice (some ⟨w.heap.size + 1, 0, none⟩) 2 2, .slice (some ⟨w.heap.size, 0, none⟩) 2 2] 111))
  have hEW : Ext w (((w.alloc (Obj.cells #[.int .i64 x2, .int .i64 y2] 2)).alloc (Obj.cells #[.int .i64 x, .int .i64 y] 2)).alloc (Obj.cells #[.slice (some ⟨w.heap.size + 1, 0, none⟩) 2 2, .slice (some ⟨w.heap.size, 0, none⟩) 2 2] 111)) := ((((Below.refl _ w).alloc (by simp) _).alloc (by simp) _).alloc (by simp; omega) _)
  generalize hgW : ((w.alloc (Obj.cells #[.int .i64 x2, .int .i64 y2] 2)).alloc (Obj.cells #[.int .i64 x, .int .i64 y] 2)).alloc (Obj.cells #[.slice (some ⟨w.heap.size + 1, 0, none⟩) 2 2, .slice (some ⟨w.heap.size, 0, none⟩) 2 2] 111) = W at *
  clear hgW
  simp only [World.size_alloc] at y0 z2
  have y1_ne_y0 : ¬ w.heap.size = w.heap.size + 1 := by omega
  have y1_ne_z2 : ¬ w.heap.size = w.heap.size + 1 + 1 := by omega
  have y0_ne_y1 : ¬ w.heap.size + 1 = w.heap.size := by omega
  have y0_ne_z2 : ¬ w.heap.size + 1 = w.heap.size + 1 + 1 := by omega
  have z2_ne_y1 : ¬ w.heap.size + 1 + 1 = w.heap.size := by omega
  have z2_ne_y0 : ¬ w.heap.size + 1 + 1 = w.heap.size + 1 := by omega
  replace y1_0 := y1.cell (i := 0) rfl
  replace y1_1 := y1.cell (i := 1) rfl
  replace y0_0 := y0.cell (i := 0) rfl
  replace y0_1 := y0.cell (i := 1) rfl
  replace z2_0 := z2.cell (i := 0) rfl
  replace z2_1 := z2.cell (i := 1) rfl
  refine (of_rows2 W.drew (w.heap.size + 1) (w.heap.size + 1 + 1) (w.heap.size) _ _ _ x y _ _ y0 y1 z2 hx hy hx2 hy2).mono ?_
  rintro e w2 ⟨a6, n6, c6, a7, n7, c7, rfl, h6, h7, hE2⟩
  exact ⟨a6, n6, c6, a7, n7, c7, rfl, h6.mono hEW.size (Kept.refl _ _), h7.mono hEW.size (Kept.refl _ _), Ext.trans hEW.drew hE2⟩

theorem mat_field1 (v0 v1 v2 : Value) (w : World) : (Instr.field 28 (.agg #[v0, v1, v2]) 1).run Tryz.prog w = .ok v2 w := by kernel_rfl

set_option maxRecDepth 100000 in
set_option maxHeartbeats 8000000 in
theorem lives_yes (w : World) : Calls Tryz.prog 21 #[] w (Yes w) := by
  go_enter Tryz.func21, Tryz.ntmps21
  go_wp2_with fail
  refine (r3Of_any (-2) w (by omega) (by omega)).mono ?_
  rintro e w1 ⟨a5, n5, c5, rfl, h5, hE1⟩
  rw [show decide ((-2 : Int) < 0) = true from rfl]
  have H5 := Lib.hid h5
  have HE1 := Lib.hid hE1
  clear h5 hE1
  go_wp2_with fail
  have y := Blk.new w1 2 #[.int .i64 2, .int .i64 4]
  have y2 := Blk.new (w1.alloc (Obj.cells #[.int .i64 2, .int .i64 4] 2)) 111 #[.slice (some ⟨w1.heap.size, 0, none⟩) 2 2]
  replace y := y.ext ((Below.refl _ _).alloc (Nat.le_refl _) (Obj.cells #[.slice (some ⟨w1.heap.size, 0, none⟩) 2 2] 111))
  have hEW2 : Ext w1 ((w1.alloc (Obj.cells #[.int .i64 2, .int .i64 4] 2)).alloc (Obj.cells #[.slice (some ⟨w1.heap.size, 0, none⟩) 2 2] 111)) := (((Below.refl _ w1).alloc (by simp) _).alloc (by simp) _)
  generalize hgW2 : (w1.alloc (Obj.cells #[.int .i64 2, .int .i64 4] 2)).alloc (Obj.cells #[.slice (some ⟨w1.heap.size, 0, none⟩) 2 2] 111) = W2 at *
  clear hgW2
  simp only [World.size_alloc] at y2
  have y_ne_y2 : ¬ w1.heap.size = w1.heap.size + 1 := by omega
  have y2_ne_y : ¬ w1.heap.size + 1 = w1.heap.size := by omega
  replace y_0 := y.cell (i := 0) rfl
  replace y_1 := y.cell (i := 1) rfl
  replace y2_0 := y2.cell (i := 0) rfl
  refine (of_row2 W2 w1.heap.size (w1.heap.size + 1) _ _ 2 4 y y2 (by omega) (by omega)).mono ?_
  rintro e w2 ⟨a6, n6, c6, a7, n7, c7, rfl, h6, h7, hE2⟩
  have hEb := Ext.trans hEW2 hE2
  have HM := Lib.hid (matS_of (K := 1) (b := true) ((H5.out.ext (Nat.le_refl _) hEb).mono (Nat.zero_le _) (Kept.refl _ _)) rfl (h7.mono (Nat.zero_le _) (Kept.refl _ _)) (by decide) (by decide))
  have HE2 := Lib.hid (Ext.trans HE1.out hEb)
  have hf1 := mat_field1
  clear h6 h7 hE2 hEW2 hEb y y_0 y_1 y2 y2_0
  go_wp2_with fail
  refine (qnorm_any 1 (by omega) w2 true a5 a7 n5 c5 n7 c7 (-2) [[2, 4]] HM.out (Lib.hid (by decide)) (by have := HM.out; obtain ⟨_, _, _, _, h⟩ := this; rw [← h.len]; decide) (Lib.hid (by decide))).mono ?_
  rw [show madeDen (-2) [[2, 4]] = 1 by decide, show madeRows (-2) [[2, 4]] = [[-1, -2]] by decide]
  rintro e w3 ⟨a8, n8, c8, a9, n9, c9, rfl, h8, h9, hE3⟩
  rw [show decide ((1 : Int) < 0) = false from rfl]
  have H8 := Lib.hid h8
  have H9 := Lib.hid h9
  have HE3 := Lib.hid (Ext.trans HE2.out hE3)
  clear h8 h9 hE3
  go_wp2_with fail
  have m := Blk.new w3 28 #[.bool false, .slice a8 n8 c8, .slice a9 n9 c9]
  have y := Blk.new (w3.alloc (Obj.cells #[.bool false, .slice a8 n8 c8, .slice a9 n9 c9] 28)) 2 #[.int .i64 1]
  replace m := m.ext ((Below.refl _ _).alloc (Nat.le_refl _) (Obj.cells #[.int .i64 1] 2))
  have y2 := Blk.new ((w3.alloc (Obj.cells #[.bool false, .slice a8 n8 c8, .slice a9 n9 c9] 28)).alloc (Obj.cells #[.int .i64 1] 2)) 111 #[.slice (some ⟨w3.heap.size + 1, 0, none⟩) 1 1]
  replace m := m.ext ((Below.refl _ _).alloc (Nat.le_refl _) (Obj.cells #[.slice (some ⟨w3.heap.size + 1, 0, none⟩) 1 1] 111))
  replace y := y.ext ((Below.refl _ _).alloc (Nat.le_refl _) (Obj.cells #[.slice (some ⟨w3.heap.size + 1, 0, none⟩) 1 1] 111))
  have hEW4 : Ext w3 (((w3.alloc (Obj.cells #[.bool false, .slice a8 n8 c8, .slice a9 n9 c9] 28)).alloc (Obj.cells #[.int .i64 1] 2)).alloc (Obj.cells #[.slice (some ⟨w3.heap.size + 1, 0, none⟩) 1 1] 111)) := ((((Below.refl _ w3).alloc (by simp) _).alloc (by simp) _).alloc (by simp; omega) _)
  generalize hgW4 : ((w3.alloc (Obj.cells #[.bool false, .slice a8 n8 c8, .slice a9 n9 c9] 28)).alloc (Obj.cells #[.int .i64 1] 2)).alloc (Obj.cells #[.slice (some ⟨w3.heap.size + 1, 0, none⟩) 1 1] 111) = W4 at *
  clear hgW4
  simp only [World.size_alloc] at y y2
  have m_ne_y : ¬ w3.heap.size = w3.heap.size + 1 := by omega
  have m_ne_y2 : ¬ w3.heap.size = w3.heap.size + 1 + 1 := by omega
  have y_ne_m : ¬ w3.heap.size + 1 = w3.heap.size := by omega
  have y_ne_y2 : ¬ w3.heap.size + 1 = w3.heap.size + 1 + 1 := by omega
  have y2_ne_m : ¬ w3.heap.size + 1 + 1 = w3.heap.size := by omega
  have y2_ne_y : ¬ w3.heap.size + 1 + 1 = w3.heap.size + 1 := by omega
  replace m_0 := m.cell (i := 0) rfl
  replace m_1 := m.cell (i := 1) rfl
  replace m_2 := m.cell (i := 2) rfl
  replace y_0 := y.cell (i := 0) rfl
  replace y2_0 := y2.cell (i := 0) rfl
  refine (of_row1 W4 (w3.heap.size + 1) (w3.heap.size + 1 + 1) _ _ 1 y y2 (by omega)).mono ?_
  rintro e w4 ⟨a10, n10, c10, a11, n11, c11, rfl, h10, h11, hE4⟩
  replace m := m.ext hE4; replace m_0 := m.cell (i := 0) rfl; replace m_1 := m.cell (i := 1) rfl; replace m_2 := m.cell (i := 2) rfl
  have HE4 := Lib.hid (Ext.trans hEW4 hE4)
  have HQ1 := Lib.hid (matS_of (K := 1) (b := false) (h10.mono (Nat.zero_le _) (Kept.refl _ _)) rfl (h11.mono (Nat.zero_le _) (Kept.refl _ _)) (by decide) (by decide) : MatS 1 w4 false a10 n10 c10 a11 n11 c11 1 [[1]])
  clear h10 h11 hE4 hEW4 y y_0 y2 y2_0
  go_wp2_with fail
  have y := Blk.new w4 2 #[.int .i64 2]
  have y2 := Blk.new (w4.alloc (Obj.cells #[.int .i64 2] 2)) 111 #[.slice (some ⟨w4.heap.size, 0, none⟩) 1 1]
  replace y := y.ext ((Below.refl _ _).alloc (Nat.le_refl _) (Obj.cells #[.slice (some ⟨w4.heap.size, 0, none⟩) 1 1] 111))
  have hEW5 : Ext w4 ((w4.alloc (Obj.cells #[.int .i64 2] 2)).alloc (Obj.cells #[.slice (some ⟨w4.heap.size, 0, none⟩) 1 1] 111)) := (((Below.refl _ w4).alloc (by simp) _).alloc (by simp) _)
  generalize hgW5 : (w4.alloc (Obj.cells #[.int .i64 2] 2)).alloc (Obj.cells #[.slice (some ⟨w4.heap.size, 0, none⟩) 1 1] 111) = W5 at *
  clear hgW5
  simp only [World.size_alloc] at y2
  have y_ne_y2 : ¬ w4.heap.size = w4.heap.size + 1 := by omega
  have y2_ne_y : ¬ w4.heap.size + 1 = w4.heap.size := by omega
  replace y_0 := y.cell (i := 0) rfl
  replace y2_0 := y2.cell (i := 0) rfl
  replace m := m.ext hEW5; replace m_0 := m.cell (i := 0) rfl; replace m_1 := m.cell (i := 1) rfl; replace m_2 := m.cell (i := 2) rfl
  refine (of_row1 W5 w4.heap.size (w4.heap.size + 1) _ _ 2 y y2 (by omega)).mono ?_
  rintro e w5 ⟨a12, n12, c12, a13, n13, c13, rfl, h12, h13, hE5⟩
  replace m := m.ext hE5; replace m_0 := m.cell (i := 0) rfl; replace m_1 := m.cell (i := 1) rfl; replace m_2 := m.cell (i := 2) rfl
  have HE5 := Lib.hid (Ext.trans hEW5 hE5)
  have HQ2 := Lib.hid (matS_of (K := 1) (b := false) (h12.mono (Nat.zero_le _) (Kept.refl _ _)) rfl (h13.mono (Nat.zero_le _) (Kept.refl _ _)) (by decide) (by decide) : MatS 1 w5 false a12 n12 c12 a13 n13 c13 1 [[2]])
  clear h12 h13 hE5 hEW5 y y_0 y2 y2_0
  go_wp2_with fail
  have HQ := Lib.hid (⟨HQ1.out, HQ2.out, HE5.out⟩ : _ ∧ _ ∧ _)
  have y := Blk.new w5 28 #[.bool false, .slice a10 n10 c10, .slice a11 n11 c11, .bool false, .slice a12 n12 c12, .slice a13 n13 c13]
  have hEW6 : Ext w5 (w5.alloc (Obj.cells #[.bool false, .slice a10 n10 c10, .slice a11 n11 c11, .bool false, .slice a12 n12 c12, .slice a13 n13 c13] 28)) := ((Below.refl _ w5).alloc (by simp) _)
  generalize hgW6 : w5.alloc (Obj.cells #[.bool false, .slice a10 n10 c10, .slice a11 n11 c11, .bool false, .slice a12 n12 c12, .slice a13 n13 c13] 28) = W6 at *
  clear hgW6
  replace y_0 := y.cell (i := 0) rfl
  replace y_1 := y.cell (i := 1) rfl
  replace y_2 := y.cell (i := 2) rfl
  replace y_3 := y.cell (i := 3) rfl
  replace y_4 := y.cell (i := 4) rfl
  replace y_5 := y.cell (i := 5) rfl
  replace m := m.ext hEW6; replace m_0 := m.cell (i := 0) rfl; replace m_1 := m.cell (i := 1) rfl; replace m_2 := m.cell (i := 2) rfl
  refine (blocks_any 1 1 2 2 (by omega) W6 (some ⟨w5.heap.size, 0, none⟩) 2 2 [(1, [[1]]), (1, [[2]])] (sl_mat2 y (HQ.out.1.ext (Ext.trans HE5.out hEW6)) (HQ.out.2.1.ext hEW6)) (Lib.hid (by decide)) 1 (Lib.hid (by decide)) (by decide) (Lib.hid (by decide)) (by omega) (Lib.hid (by decide)) (by omega) (Lib.hid (by decide))).mono ?_
  rw [show blkRows 2 1 [(1, [[1]]), (1, [[2]])] 0 = [[1, 0], [0, 2]] by decide, show madeDen 1 [[1, 0], [0, 2]] = 1 by decide, show madeRows 1 [[1, 0], [0, 2]] = [[1, 0], [0, 2]] by decide]
  rintro e w6 ⟨a14, n14, c14, a15, n15, c15, rfl, h14, h15, hE6⟩
  rw [show decide ((1 : Int) < 0) = false from rfl]
  replace m := m.ext hE6; replace m_0 := m.cell (i := 0) rfl; replace m_1 := m.cell (i := 1) rfl; replace m_2 := m.cell (i := 2) rfl
  have HE7 := Lib.hid (Ext.trans HE4.out (Ext.trans HE5.out (Ext.trans hEW6 hE6)))
  have HE8 := Lib.hid (Ext.trans HE3.out HE7.out)
  have H14 := Lib.hid h14
  have H15 := Lib.hid h15
  have hms := m.lt
  clear h14 h15 hE6 hEW6 y y_0 y_1 y_2 y_3 y_4 y_5
  go_wp2_with fail
  have m3 : Blk (w6.alloc (Obj.cells #[.bool false, .slice a14 n14 c14, .slice a15 n15 c15] 28)) w6.heap.size 28 #[.bool false, .slice a14 n14 c14, .slice a15 n15 c15] := Blk.new _ _ _
  have hE9 : Ext w6 (w6.alloc (Obj.cells #[.bool false, .slice a14 n14 c14, .slice a15 n15 c15] 28)) := (Below.refl _ _).alloc (Nat.le_refl _) _
  skip
  replace m := m.ext hE9; replace m_0 := m.cell (i := 0) rfl; replace m_1 := m.cell (i := 1) rfl; replace m_2 := m.cell (i := 2) rfl; replace m_f0 := m.free 0; replace m_f1 := m.free 1; replace m_f2 := m.free 2; replace m_lt := m.lt
  replace m3_0 := m3.cell (i := 0) rfl
  replace m3_1 := m3.cell (i := 1) rfl
  replace m3_2 := m3.cell (i := 2) rfl
  replace m3_f0 := m3.free 0
  replace m3_f1 := m3.free 1
  replace m3_f2 := m3.free 2
  replace m3_lt := m3.lt
  generalize (w6.alloc (Obj.cells #[.bool false, .slice a14 n14 c14, .slice a15 n15 c15] 28)) = w7 at *
  have h8 := Sl.zero (H8.out.ext (Nat.le_refl _) (Ext.trans HE7.out hE9))
  have h9 := rawRows (H9.out.ext (Nat.le_refl _) (Ext.trans HE7.out hE9))
  have h14 := Sl.zero (H14.out.ext (Nat.le_refl _) hE9)
  have h15 := rawRows (H15.out.ext (Nat.le_refl _) hE9)
  have hE0 := Ext.refl w7
  go_region_held3 (fun w' => w'.cell? ⟨w3.heap.size, 0, none⟩ = some (.bool false) ∧ w'.cell? ⟨w3.heap.size, 1, none⟩ = some (.slice a8 n8 c8) ∧ w'.cell? ⟨w3.heap.size, 2, none⟩ = some (.slice a9 n9 c9) ∧ w'.cell? ⟨w6.heap.size, 0, none⟩ = some (.bool false) ∧ w'.cell? ⟨w6.heap.size, 1, none⟩ = some (.slice a14 n14 c14) ∧ w'.cell? ⟨w6.heap.size, 2, none⟩ = some (.slice a15 n15 c15)) (first | exact ⟨m_0, m_1, m_2, m3_0, m3_1, m3_2⟩ | go_keep) (first
    | (go_at_call 76; (with_reducible refine (of_lit2 _ (-1) (-2) (by omega) (by omega)).mono ?_); rintro e w8 ⟨a20, n20, c20, a21, n21, c21, rfl, h20, h21, hE1⟩
       replace m := m.ext hE1; replace m_0 := m.cell (i := 0) rfl; replace m_1 := m.cell (i := 1) rfl; replace m_2 := m.cell (i := 2) rfl; replace m_f0 := m.free 0; replace m_f1 := m.free 1; replace m_f2 := m.free 2; replace m_lt := m.lt; replace m3 := m3.ext hE1; replace m3_0 := m3.cell (i := 0) rfl; replace m3_1 := m3.cell (i := 1) rfl; replace m3_2 := m3.cell (i := 2) rfl; replace m3_f0 := m3.free 0; replace m3_f1 := m3.free 1; replace m3_f2 := m3.free 2; replace m3_lt := m3.lt
       replace h8 := h8.ext (Nat.le_refl _) hE1
       replace h9 := h9.ext (Nat.le_refl _) hE1
       replace h14 := h14.ext (Nat.le_refl _) hE1
       replace h15 := h15.ext (Nat.le_refl _) hE1
       replace h20 := Sl.zero h20
       replace h21 := rawRows h21
       replace hE0 := Ext.trans hE0 hE1)
    | (go_at_call 29; (refine (same_yes _ _ _ _ _ _ _ _ _ _ _ _ _ _ _ _ h8 h20 h9 h21).mono ?_); rintro e w9 ⟨rfl, hE1⟩
       replace m := m.ext hE1; replace m_0 := m.cell (i := 0) rfl; replace m_1 := m.cell (i := 1) rfl; replace m_2 := m.cell (i := 2) rfl; replace m_f0 := m.free 0; replace m_f1 := m.free 1; replace m_f2 := m.free 2; replace m_lt := m.lt; replace m3 := m3.ext hE1; replace m3_0 := m3.cell (i := 0) rfl; replace m3_1 := m3.cell (i := 1) rfl; replace m3_2 := m3.cell (i := 2) rfl; replace m3_f0 := m3.free 0; replace m3_f1 := m3.free 1; replace m3_f2 := m3.free 2; replace m3_lt := m3.lt
       have m3_a0 := fun o1 o2 o3 : Obj => cell_alloc (cell_alloc (cell_alloc m3_0 o1) o2) o3
       have m3_a1 := fun o1 o2 o3 : Obj => cell_alloc (cell_alloc (cell_alloc m3_1 o1) o2) o3
       have m3_a2 := fun o1 o2 o3 : Obj => cell_alloc (cell_alloc (cell_alloc m3_2 o1) o2) o3
       replace h14 := h14.ext (Nat.le_refl _) hE1
       replace h15 := h15.ext (Nat.le_refl _) hE1
       replace hE0 := Ext.trans hE0 hE1)
    | (go_at_call 76; (with_reducible first | refine (of_lits_a _ 1 0 0 2 (by omega) (by omega) (by omega) (by omega)).mono ?_ | refine (of_lits_b _ 1 0 0 2 (by omega) (by omega) (by omega) (by omega)).mono ?_ | refine (of_lits_c _ 1 0 0 2 (by omega) (by omega) (by omega) (by omega)).mono ?_ | refine (of_lits_d _ 1 0 0 2 (by omega) (by omega) (by omega) (by omega)).mono ?_); rintro e w10 ⟨a30, n30, c30, a31, n31, c31, rfl, h30, h31, hE1⟩
       clear h8 h9 h20 h21
       replace m := m.ext hE1; replace m_0 := m.cell (i := 0) rfl; replace m_1 := m.cell (i := 1) rfl; replace m_2 := m.cell (i := 2) rfl; replace m_f0 := m.free 0; replace m_f1 := m.free 1; replace m_f2 := m.free 2; replace m_lt := m.lt; replace m3 := m3.ext hE1; replace m3_0 := m3.cell (i := 0) rfl; replace m3_1 := m3.cell (i := 1) rfl; replace m3_2 := m3.cell (i := 2) rfl; replace m3_f0 := m3.free 0; replace m3_f1 := m3.free 1; replace m3_f2 := m3.free 2; replace m3_lt := m3.lt
       replace h14 := h14.ext (Nat.le_refl _) hE1
       replace h15 := h15.ext (Nat.le_refl _) hE1
       replace h30 := Sl.zero h30
       replace h31 := rawRows h31
       replace hE0 := Ext.trans hE0 hE1)
    | (go_at_call 29; (refine (same_yes _ _ _ _ _ _ _ _ _ _ _ _ _ _ _ _ h14 h30 h15 h31).mono ?_); rintro e w11 ⟨rfl, hE1⟩
       replace m := m.ext hE1; replace m_0 := m.cell (i := 0) rfl; replace m_1 := m.cell (i := 1) rfl; replace m_2 := m.cell (i := 2) rfl; replace m_f0 := m.free 0; replace m_f1 := m.free 1; replace m_f2 := m.free 2; replace m_lt := m.lt; replace m3 := m3.ext hE1; replace m3_0 := m3.cell (i := 0) rfl; replace m3_1 := m3.cell (i := 1) rfl; replace m3_2 := m3.cell (i := 2) rfl; replace m3_f0 := m3.free 0; replace m3_f1 := m3.free 1; replace m3_f2 := m3.free 2; replace m3_lt := m3.lt
       replace hE0 := Ext.trans hE0 hE1))
  all_goals
    go_wp2_with fail
    go_ret
    exact ⟨rfl, Ext.trans HE8.out (Ext.trans hE9 hE0)⟩
end Go.Proofs.YtbhenelehhiakaaGreat
