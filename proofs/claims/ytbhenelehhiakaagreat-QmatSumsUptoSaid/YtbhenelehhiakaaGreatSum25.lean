/-
  The references' fractions, part 3: Common.
-/
import Derived.Test.YtbhenelehhiakaaGreatSum23
import Derived.Test.YtbhenelehhiakaaGreatSum24
set_option linter.unusedVariables false
set_option linter.unusedSimpArgs false
namespace Go.Proofs.YtbhenelehhiakaaGreat
open Go.RowKit

/-- two integers in a new block, of at most K limbs -/
theorem intsK2 {B K : Nat} {w : World} {p : Nat} {t : TypeId} {b1 b2 : Bool} {a1 a2 : Option Addr} {n1 c1 n2 c2 : Nat} {l1 l2 : Nt} {z1 z2 : Int} (h : Blk w p t #[.bool b1, .slice a1 n1 c1, .bool b2, .slice a2 n2 c2]) (hB : B ≤ p) (h1 : NatS B w a1 n1 c1 l1) (h2 : NatS B w a2 n2 c2 l2) (hz1 : ival b1 l1 = z1) (hz2 : ival b2 l2 = z2) (hn1 : n1 ≤ K) (hn2 : n2 ≤ K) :
    Sl (rIntK K) B w (some ⟨p, 0, none⟩) 2 2 [z1, z2] :=
  ⟨rfl, Nat.le_refl _, by omega, fun e => (by cases e), fun i hi => by
    obtain rfl | rfl : i = 0 ∨ i = 1 := by simp at hi; omega
    · refine ⟨p, 0, _, rfl, ⟨b1, a1, n1, c1, l1, rfl, h1, hz1, hn1⟩, fun j hj => ?_⟩
      obtain rfl | rfl : j = 0 ∨ j = 1 := by simp at hj; omega
      · exact ⟨hB, h.cell (i := 0) rfl, h.free 0⟩
      · exact ⟨hB, h.cell (i := 1) rfl, h.free 1⟩
    · refine ⟨p, 0, _, rfl, ⟨b2, a2, n2, c2, l2, rfl, h2, hz2, hn2⟩, fun j hj => ?_⟩
      obtain rfl | rfl : j = 0 ∨ j = 1 := by simp at hj; omega
      · exact ⟨hB, h.cell (i := 2) rfl, h.free 2⟩
      · exact ⟨hB, h.cell (i := 3) rfl, h.free 3⟩⟩

/-- a common denominator and numerators -/
def RCommon (w : World) (D : Nat) (zs : List Int) (e : Ending) (w' : World) : Prop := ∃ a n c a2 n2 c2, e = .returned (.tuple #[.agg #[.bool false, .slice a n c], .slice a2 n2 c2]) ∧ NatS w.heap.size w' a n c (limbs D) ∧ Sl rIntN w.heap.size w' a2 n2 c2 zs ∧ Ext w w' ∧ (a2 = none ∨ ∃ g, a2 = some ⟨g, 0, none⟩)
/-- where a list of its own lies -/
theorem Grp.form {α : Type} {r : Rd α} {B : Nat} {e : TypeId} {w : World} {a : Option Addr} {n c k : Nat} {xs : List α} {css : List (List Value)} (h : Grp r B e w (.slice a n c) k xs css) : a = none ∨ ∃ g, a = some ⟨g, 0, none⟩ := by
  rcases h.own.2 with ⟨h0, _⟩ | ⟨g, cap, cur, h1, _⟩
  · cases h0; exact .inl rfl
  · cases h1; exact .inr ⟨g, rfl⟩

theorem lcms_two (m d : Nat) : lcms [(m : Int), (d : Int)] = Nat.lcm m d := by
  simp [lcms, Nat.lcm]

theorem nl_comDen (qs ys : List Rat) {K : Nat} (h : nl (comDen (qs ++ ys)) ≤ K) : nl (comDen qs) ≤ K :=
  Nat.le_trans (nl_mono (Nat.le_of_dvd (comDen_pos _) (comDen_append_dvd _ _))) h

theorem RatS.den {K : Nat} {w : World} {b b2 : Bool} {a a2 : Option Addr} {n c n2 c2 : Nat} {q : Rat} (h : RatS K w b a n c b2 a2 n2 c2 q) : nl q.den ≤ K := by
  obtain ⟨l, l2, h1, h2, h3, h4, h5, h6⟩ := h
  have e : (q.den : Int) ∣ ival b2 l2 := by
    rw [← h4]
    unfold ratv
    rw [Rat.den_divInt, if_neg h3, Int.natCast_ediv]
    refine Int.dvd_trans (Int.ediv_dvd_of_dvd (Int.natCast_dvd_natCast.2 (Int.gcd_dvd_natAbs_left _ _))) ?_
    exact Int.natAbs_dvd_self
  have h9 : q.den ≤ (ival b2 l2).natAbs := Nat.le_of_dvd (Int.natAbs_pos.2 h3) (by simpa using Int.natAbs_dvd_natAbs.2 e)
  exact Nat.le_trans (nl_mono h9) (Nat.le_trans (nl_of h2 (Lib.hid rfl)) h6)

theorem r5Int_q (b : Bool) (B : Nat) (w : World) (a : Option Addr) (n c : Nat) (l : Nt) (z : Int) (q : Rat) (h : NatS B w a n c l) (hn : n ≤ 549755813888) (hz : Hid (ival b l = z)) (hq : Hid ((z : Rat) = q)) :
    Calls Tryz.prog 133 #[.agg #[.bool b, .slice a n c]] w (RRat w q) := by
  have := r5Int_z b B w a n c l z h hn hz
  rwa [hq.out] at this

theorem rat_field0 (v0 v1 v2 v3 : Value) (w : World) : (Instr.field 75 (.agg #[v0, v1, v2, v3]) 0).run Tryz.prog w = .ok (.agg #[v0, v1]) w := by kernel_rfl
theorem rat_field1 (v0 v1 v2 v3 : Value) (w : World) : (Instr.field 75 (.agg #[v0, v1, v2, v3]) 1).run Tryz.prog w = .ok (.agg #[v2, v3]) w := by kernel_rfl

set_option maxRecDepth 100000 in
set_option maxHeartbeats 8000000 in
theorem r5Common_any (K KL : Nat) (hK : 2 * K + KL + 2 ≤ 549755813888) (w : World) (a : Option Addr) (n c : Nat) (qs : List Rat) (h : Sl (rRatK K) 0 w a n c qs) (hL : nl (comDen qs) ≤ KL) (D : Nat) (hD : Hid (comDen qs = D)) (hn40 : n ≤ 1099511627776) :
    Calls Tryz.prog 104 #[.slice a n c] w (RCommon w D (qs.map (comNum D))) := by
  have HS := Lib.hid h
  have hmost := h.most
  have hcap := h.cap
  have hlen := Lib.hid h.len
  clear h
  go_enter Tryz.func104, Tryz.ntmps104
  go_wp2_with fail
  have r := Blk.new w 25 #[.bool false, .slice none 0 0]
  have hEW : Ext w (w.alloc (Obj.cells #[.bool false, .slice none 0 0] 25)) := ((Below.refl _ w).alloc (by simp) _)
  generalize hgW : w.alloc (Obj.cells #[.bool false, .slice none 0 0] 25) = W at *
  clear hgW
  replace r_0 := r.cell (i := 0) rfl
  replace r_1 := r.cell (i := 1) rfl
  replace r_f0 := r.free 0
  replace r_f1 := r.free 1
  replace r_lt := r.lt
  have hW : w.heap.size + 1 ≤ W.heap.size := r_lt
  refine (r3Of_any 1 W (by omega) (by omega)).mono ?_
  rintro e w1 ⟨a3, n3, c3, rfl, h3, hE1⟩
  replace r := r.ext hE1; replace r_0 := r.cell (i := 0) rfl; replace r_1 := r.cell (i := 1) rfl; replace r_f0 := r.free 0; replace r_f1 := r.free 1; replace r_lt := r.lt
  rw [show decide ((1 : Int) < 0) = false from rfl]
  have hE0 := Ext.trans hEW hE1
  replace h3 := h3.mono hW (Kept.refl _ _)
  clear hEW
  go_wp2_with fail
  have m := Blk.new w1 25 #[.bool false, .slice a3 n3 c3]
  have hEW2 : Ext w1 (w1.alloc (Obj.cells #[.bool false, .slice a3 n3 c3] 25)) := ((Below.refl _ w1).alloc (by simp) _)
  generalize hgW2 : w1.alloc (Obj.cells #[.bool false, .slice a3 n3 c3] 25) = W2 at *
  clear hgW2
  replace m_0 := m.cell (i := 0) rfl
  replace m_1 := m.cell (i := 1) rfl
  replace m_f0 := m.free 0
  replace m_f1 := m.free 1
  replace m_lt := m.lt
  replace r := r.ext hEW2; replace r_0 := r.cell (i := 0) rfl; replace r_1 := r.cell (i := 1) rfl; replace r_f0 := r.free 0; replace r_f1 := r.free 1; replace r_lt := r.lt
  replace h3 := h3.ext (Nat.le_refl _) hEW2
  replace hE0 := Ext.trans hE0 hEW2
  have hw1 : w.heap.size + 1 ≤ w1.heap.size := Nat.le_trans hW hE1.size
  have HM0 : Hid (∃ a3 n3 c3, Blk W2 w1.heap.size 25 #[.bool false, .slice a3 n3 c3] ∧ NatS (w.heap.size + 1) W2 a3 n3 c3 (limbs (comDen (qs.take 0)))) := Lib.hid ⟨a3, n3, c3, m, h3⟩
  have HR0 := Lib.hid r
  have HE0 := Lib.hid hE0
  clear h3 hE0 hE1 hEW2 m m_0 m_1 m_f0 m_f1 m_lt r r_0 r_1 r_f0 r_f1 r_lt
  go_loopg [13] n (fun q vi wr => ∃ (i : Nat), i ≤ n ∧ q = n - i ∧ vi = .int .i64 (i : Int) ∧ Hid (∃ a3 n3 c3, Blk wr w1.heap.size 25 #[.bool false, .slice a3 n3 c3] ∧ NatS (w.heap.size + 1) wr a3 n3 c3 (limbs (comDen (qs.take i)))) ∧ Hid (Blk wr w.heap.size 25 #[.bool false, .slice none 0 0]) ∧ Hid (Ext w wr))
  case atStart => exact ⟨0, Nat.zero_le _, rfl, rfl, HM0, HR0, HE0⟩
  case round =>
    clear HM0 HR0 HE0
    obtain ⟨i, hi, hq, rfl, HM, HR, HE⟩ := hrel
    by_cases hin : i < n
    · obtain ⟨b5, o5, s5, a5, n5, c5, s6, a7, n7, c7, x, rfl, hb5, hzi, hc5, hc6, hc7, hc8, h5⟩ := HS.out.getRat hin
      have hc5 := (HE.out.cell (p := ⟨b5, o5 + i * 4, none⟩) hb5).trans hc5
      have hc6 := (HE.out.cell (p := ⟨b5, o5 + i * 4 + 1, none⟩) hb5).trans hc6
      have hc7 := (HE.out.cell (p := ⟨b5, o5 + i * 4 + 2, none⟩) hb5).trans hc7
      have hc8 := (HE.out.cell (p := ⟨b5, o5 + i * 4 + 3, none⟩) hb5).trans hc8
      replace h5 := h5.ext HE.out
      obtain ⟨hil, hzi'⟩ := List.getElem?_eq_some_iff.1 hzi
      have hts : qs.take (i + 1) = qs.take i ++ [x] := by rw [List.take_succ_eq_append_getElem hil, hzi']
      have HX : Hid (comDen (qs.take (i + 1)) = Nat.lcm (comDen (qs.take i)) x.den) := Lib.hid (by rw [hts, comDen_snoc])
      have hnm : nl (comDen (qs.take i)) ≤ KL := nl_comDen _ (qs.drop i) (by rw [List.take_append_drop]; exact hL)
      have hnx : nl (comDen (qs.take (i + 1))) ≤ KL := nl_comDen _ (qs.drop (i + 1)) (by rw [List.take_append_drop]; exact hL)
      have hmp := comDen_pos (qs.take i)
      have hxp := x.den_pos
      have hxd := h5.den
      obtain ⟨a6, n6, c6, hm6, h6⟩ := HM.out
      rw [HX.out] at hnx
      generalize comDen (qs.take i) = M at *
      have hn6 : n6 ≤ KL := by have := h6.len; rw [length_limbs] at this; omega
      have r := HR.out
      have m := hm6
      clear hzi hzi' hts hm6 HR HM
      have H5 := Lib.hid h5
      clear h5
      skip
      skip
      replace r_0 := r.cell (i := 0) rfl
      replace r_1 := r.cell (i := 1) rfl
      replace r_f0 := r.free 0
      replace r_f1 := r.free 1
      replace r_lt := r.lt
      replace m_0 := m.cell (i := 0) rfl
      replace m_1 := m.cell (i := 1) rfl
      replace m_f0 := m.free 0
      replace m_f1 := m.free 1
      replace m_lt := m.lt
      go_wp2_with fail
      clear hc5 hc6 hc7 hc8
      have y := Blk.new wr 75 #[.bool s5, .slice a5 n5 c5, .bool s6, .slice a7 n7 c7]
      have hEW3 : Ext wr (wr.alloc (Obj.cells #[.bool s5, .slice a5 n5 c5, .bool s6, .slice a7 n7 c7] 75)) := ((Below.refl _ wr).alloc (by simp) _)
      generalize hgW3 : wr.alloc (Obj.cells #[.bool s5, .slice a5 n5 c5, .bool s6, .slice a7 n7 c7] 75) = W3 at *
      clear hgW3
      replace y_0 := y.cell (i := 0) rfl
      replace y_1 := y.cell (i := 1) rfl
      replace y_2 := y.cell (i := 2) rfl
      replace y_3 := y.cell (i := 3) rfl
      replace r := r.ext hEW3; replace r_0 := r.cell (i := 0) rfl; replace r_1 := r.cell (i := 1) rfl; replace r_f0 := r.free 0; replace r_f1 := r.free 1; replace r_lt := r.lt; replace m := m.ext hEW3; replace m_0 := m.cell (i := 0) rfl; replace m_1 := m.cell (i := 1) rfl; replace m_f0 := m.free 0; replace m_f1 := m.free 1; replace m_lt := m.lt
      have hd : Ext W3 W3.drew := (Below.refl _ _).drew
      replace r := r.ext hd; replace r_0 := r.cell (i := 0) rfl; replace r_1 := r.cell (i := 1) rfl; replace r_f0 := r.free 0; replace r_f1 := r.free 1; replace r_lt := r.lt; replace m := m.ext hd; replace m_0 := m.cell (i := 0) rfl; replace m_1 := m.cell (i := 1) rfl; replace m_f0 := m.free 0; replace m_f1 := m.free 1; replace m_lt := m.lt; replace y := y.ext hd; replace y_0 := y.cell (i := 0) rfl; replace y_1 := y.cell (i := 1) rfl; replace y_2 := y.cell (i := 2) rfl; replace y_3 := y.cell (i := 3) rfl
      have h5 := H5.out.ext (Ext.trans hEW3 hd)
      replace h6 := Sl.zero (h6.ext (Nat.le_refl _) (Ext.trans hEW3 hd))
      have hE0 := Ext.trans hEW3 hd
      have HLL : Hid (lcms [(M : Int), (x.den : Int)] = Nat.lcm M x.den) := Lib.hid (lcms_two M x.den)
      have HNZ : Hid (∀ z ∈ [(M : Int), (x.den : Int)], z ≠ 0) := Lib.hid (by simp; omega)
      have hsz := hE0.size
      clear hEW3 hd H5
      have hfl1 := rat_field1
      go_region_with
        (first | (go_at_call 122; refine (r5Norm_s K (by omega) _ _ _ _ _ _ _ _ _ _ h5).mono ?_; rintro e w5 ⟨a9, n9, c9, a8, n8, c8, rfl, h9, h8, hE1⟩; replace r := r.ext hE1; replace r_0 := r.cell (i := 0) rfl; replace r_1 := r.cell (i := 1) rfl; replace r_f0 := r.free 0; replace r_f1 := r.free 1; replace r_lt := r.lt; replace m := m.ext hE1; replace m_0 := m.cell (i := 0) rfl; replace m_1 := m.cell (i := 1) rfl; replace m_f0 := m.free 0; replace m_f1 := m.free 1; replace m_lt := m.lt; replace y := y.ext hE1; replace y_0 := y.cell (i := 0) rfl; replace y_1 := y.cell (i := 1) rfl; replace y_2 := y.cell (i := 2) rfl; replace y_3 := y.cell (i := 3) rfl; replace h6 := h6.ext (Nat.le_refl _) hE1; replace h8 := Sl.zero h8; replace hE0 := Ext.trans hE0 hE1; have hn8 : n8 ≤ K := (by have := h8.len; rw [length_limbs] at this; omega))
               | (go_at_call 132; have hQ := Blk.new w5 25 #[.bool false, .slice a6 n6 c6, .bool false, .slice a8 n8 c8]; have hEQ : Ext w5 (w5.alloc (.cells #[.bool false, .slice a6 n6 c6, .bool false, .slice a8 n8 c8] 25)) := (Below.refl _ _).alloc (Nat.le_refl _) _; refine (r3Lcm_any (K + KL) KL (by omega) (by omega) _ _ _ _ [(M : Int), (x.den : Int)] (intsK2 hQ (Nat.zero_le _) (h6.ext (Nat.le_refl _) hEQ) (h8.ext (Nat.le_refl _) hEQ) (by rw [ival_limbs]; rfl) (by rw [ival_limbs]; rfl) (by omega) (by omega)) HNZ (by rw [HLL.out]; exact hnx) _ HLL).mono ?_; rintro e w6 ⟨a10, n10, c10, rfl, h10, hE6⟩; rw [show decide (((Nat.lcm M x.den : Nat) : Int) < 0) = false from decide_eq_false (by omega)]; rw [Int.natAbs_natCast] at h10; have hm5 := m_lt; replace h10 := h10.mono (B' := w.heap.size + 1) (by simp; omega) (Kept.refl _ _); replace hE6 := Ext.trans hEQ hE6; replace r := r.ext hE6; replace m := m.ext hE6; replace r_0 := r.cell (i := 0) rfl; replace r_1 := r.cell (i := 1) rfl; replace r_f0 := r.free 0; replace r_f1 := r.free 1; replace r_lt := r.lt; replace m_0 := m.cell (i := 0) rfl; replace m_1 := m.cell (i := 1) rfl; replace m_f0 := m.free 0; replace m_f1 := m.free 1; replace m_lt := m.lt; replace hE0 := Ext.trans hE0 hE6))
      all_goals
        have HM8 := Lib.hid ((m.set 0 (.bool false)).set 1 (.slice a10 n10 c10))
        have HR8 := Lib.hid ((r.set_ne 0 (.bool false) (show w.heap.size ≠ w1.heap.size by omega)).set_ne 1 (.slice a10 n10 c10) (show w.heap.size ≠ w1.heap.size by omega))
        have HN8 := Lib.hid (NatS.set (NatS.set h10 m_0 (fun x => by simp) (.bool false)) ((m.set 0 (.bool false)).cell (i := 1) rfl) (fun x => by simp) (.slice a10 n10 c10))
        have HE8 := Lib.hid (Below.setCell (Below.setCell (Ext.trans HE.out hE0) (p := ⟨w1.heap.size, 0, none⟩) (show w.heap.size ≤ w1.heap.size by omega) (.bool false)) (p := ⟨w1.heap.size, 1, none⟩) (show w.heap.size ≤ w1.heap.size by omega) (.slice a10 n10 c10))
        clear h5 h6 h8 h9 h10 hE0 hE1 hE6 hEQ hQ hfl1
        go_wp2_with fail
        go_roundg (n - (i + 1))
        case measure => omega
        case rel => exact ⟨i + 1, by omega, rfl, by go_num, Lib.hid ⟨a10, n10, c10, HM8.out, by rw [HX.out]; exact HN8.out⟩, HR8, HE8⟩
    · obtain rfl : i = n := by omega
      obtain ⟨a6, n6, c6, hm6, h6⟩ := HM.out
      have hfull : comDen (qs.take i) = D := by rw [List.take_of_length_le (by rw [hlen.out]; exact Nat.le_refl _)]; exact hD.out
      rw [hfull] at h6
      rw [hD.out] at hL
      have hn6 : n6 ≤ KL := by have := h6.len; rw [length_limbs] at this; omega
      have r := HR.out
      have m := hm6
      have H6 := Lib.hid h6
      have HE2 := HE
      have hdv : Hid (∀ x ∈ qs, x.den ∣ D) := Lib.hid (fun x hx => by rw [← hD.out]; exact den_dvd_comDen qs x hx)
      clear h6 hfull hm6 HM HR hD
      skip
      skip
      replace r_0 := r.cell (i := 0) rfl
      replace r_1 := r.cell (i := 1) rfl
      replace r_f0 := r.free 0
      replace r_f1 := r.free 1
      replace r_lt := r.lt
      replace m_0 := m.cell (i := 0) rfl
      replace m_1 := m.cell (i := 1) rfl
      replace m_f0 := m.free 0
      replace m_f1 := m.free 1
      replace m_lt := m.lt
      obtain ⟨wo, rfl⟩ : ∃ wo : World, wo = wr := ⟨_, rfl⟩
      have HRo := Lib.hid r
      have HMo := Lib.hid m
      go_wp2_with fail
      go_loopg [7, 26] i (fun q vo vi wx => ∃ (j : Nat), j ≤ i ∧ q = i - j ∧ vi = .int .i64 (j : Int) ∧ Hid (∃ css, Grp rIntN wo.heap.size 25 wx vo j ((qs.take j).map (comNum D)) css) ∧ Hid (Ext wo wx))
      case atStart => exact ⟨0, Nat.zero_le _, by omega, rfl, Lib.hid ⟨[], Grp.nil _ _ _ _⟩, Lib.hid (Ext.refl _)⟩
      case round =>
        obtain ⟨j, hj, hq2, rfl, HGj, HEj⟩ := hrel
        by_cases hji : j < i
        · obtain ⟨b5, o5, s5, a5, n5, c5, s6, a7, n7, c7, x, rfl, hb5, hzi, hc5, hc6, hc7, hc8, h5⟩ := HS.out.getRat hji
          have hEw := Ext.trans HE.out HEj.out
          have hc5 := (hEw.cell (p := ⟨b5, o5 + j * 4, none⟩) hb5).trans hc5
          have hc6 := (hEw.cell (p := ⟨b5, o5 + j * 4 + 1, none⟩) hb5).trans hc6
          have hc7 := (hEw.cell (p := ⟨b5, o5 + j * 4 + 2, none⟩) hb5).trans hc7
          have hc8 := (hEw.cell (p := ⟨b5, o5 + j * 4 + 3, none⟩) hb5).trans hc8
          replace h5 := h5.ext hEw
          obtain ⟨hil, hzi'⟩ := List.getElem?_eq_some_iff.1 hzi
          have HTS : Hid ((qs.take (j + 1)).map (comNum D) = (qs.take j).map (comNum D) ++ [comNum D x]) := Lib.hid (by rw [List.take_succ_eq_append_getElem hil, hzi', List.map_append]; rfl)
          obtain ⟨q2, hq2⟩ : ∃ q2 : Rat, ((D : Int) : Rat) = q2 := ⟨_, rfl⟩
          obtain ⟨t, ht⟩ : ∃ t : Rat, ((comNum D x : Int) : Rat) = t := ⟨_, rfl⟩
          have HQ2 := Lib.hid hq2
          have HTN : Hid (t.num = comNum D x) := Lib.hid (by rw [← ht, Rat.num_intCast])
          have HXD : Hid (x * q2 = t) := Lib.hid (by rw [← hq2, ← ht]; exact comNum_eq D x (hdv.out x (List.mem_of_getElem? hzi)))
          have hkl : nl q2.num.natAbs ≤ KL + 1 := by rw [← hq2, Rat.num_intCast, Int.natAbs_natCast]; omega
          have hkl2 : nl q2.den ≤ KL + 1 := by rw [← hq2, Rat.den_intCast]; have : nl 1 = 1 := by decide
                                               omega
          clear hq2 ht
          have r := HRo.out.ext HEj.out
          have m := HMo.out.ext HEj.out
          have H5 := Lib.hid h5
          have hwoj := HEj.out.size
          clear hzi hzi' h5 hEw
          replace r_0 := r.cell (i := 0) rfl
          replace r_1 := r.cell (i := 1) rfl
          replace r_f0 := r.free 0
          replace r_f1 := r.free 1
          replace r_lt := r.lt
          replace m_0 := m.cell (i := 0) rfl
          replace m_1 := m.cell (i := 1) rfl
          replace m_f0 := m.free 0
          replace m_f1 := m.free 1
          replace m_lt := m.lt
          go_wp2_with fail
          clear hc5 hc6 hc7 hc8
          have y := Blk.new wr 75 #[.bool s5, .slice a5 n5 c5, .bool s6, .slice a7 n7 c7]
          have hEW3 : Ext wr (wr.alloc (Obj.cells #[.bool s5, .slice a5 n5 c5, .bool s6, .slice a7 n7 c7] 75)) := ((Below.refl _ wr).alloc (by simp) _)
          generalize hgW3 : wr.alloc (Obj.cells #[.bool s5, .slice a5 n5 c5, .bool s6, .slice a7 n7 c7] 75) = W3 at *
          clear hgW3
          replace y_0 := y.cell (i := 0) rfl
          replace y_1 := y.cell (i := 1) rfl
          replace y_2 := y.cell (i := 2) rfl
          replace y_3 := y.cell (i := 3) rfl
          replace r := r.ext hEW3; replace r_0 := r.cell (i := 0) rfl; replace r_1 := r.cell (i := 1) rfl; replace r_f0 := r.free 0; replace r_f1 := r.free 1; replace r_lt := r.lt; replace m := m.ext hEW3; replace m_0 := m.cell (i := 0) rfl; replace m_1 := m.cell (i := 1) rfl; replace m_f0 := m.free 0; replace m_f1 := m.free 1; replace m_lt := m.lt
          have hd : Ext W3 W3.drew := (Below.refl _ _).drew
          replace r := r.ext hd; replace r_0 := r.cell (i := 0) rfl; replace r_1 := r.cell (i := 1) rfl; replace r_f0 := r.free 0; replace r_f1 := r.free 1; replace r_lt := r.lt; replace m := m.ext hd; replace m_0 := m.cell (i := 0) rfl; replace m_1 := m.cell (i := 1) rfl; replace m_f0 := m.free 0; replace m_f1 := m.free 1; replace m_lt := m.lt; replace y := y.ext hd; replace y_0 := y.cell (i := 0) rfl; replace y_1 := y.cell (i := 1) rfl; replace y_2 := y.cell (i := 2) rfl; replace y_3 := y.cell (i := 3) rfl
          have h5 := H5.out.ext (Ext.trans hEW3 hd)
          have h6 := Sl.zero (H6.out.ext (Nat.le_refl _) (Ext.trans HEj.out (Ext.trans hEW3 hd)))
          have hE0 := Ext.trans hEW3 hd
          have hsz := hE0.size
          have hf0 := rat_field0
          have HDV : Hid (ival false (limbs D) = (D : Int)) := Lib.hid (by rw [ival_limbs]; rfl)
          obtain ⟨css, hGj⟩ := HGj.out
          have hlt := hGj.own.lt
          have hmo := HMo.out.lt
          have hro := HRo.out.lt
          obtain ⟨i0, hi0, hz0, hz1, hz2⟩ := info_parts info_int
          have hE9 : ∀ w6 : World, Ext wr w6 → Ext wr (w6.alloc (Obj.cells #[.bool (decide (t.num < 0)), .slice none 0 0] 25)) := fun w6 h => Ext.trans h ((Below.refl _ _).alloc (Nat.le_refl _) _)
          clear hE9
          clear hEW3 hd H5
          go_region_held3 (fun w' => w'.cell? ⟨w1.heap.size, 0, none⟩ = some (.bool false) ∧ w'.cell? ⟨w1.heap.size, 1, none⟩ = some (.slice a6 n6 c6) ∧ w'.cell? ⟨wr.heap.size, 0, none⟩ = some (.bool s5) ∧ w'.cell? ⟨wr.heap.size, 1, none⟩ = some (.slice a5 n5 c5) ∧ w'.cell? ⟨wr.heap.size, 2, none⟩ = some (.bool s6) ∧ w'.cell? ⟨wr.heap.size, 3, none⟩ = some (.slice a7 n7 c7)) (first | exact ⟨m_0, m_1, y_0, y_1, y_2, y_3⟩ | go_keep)
            (first | (go_at_call 133; refine (r5Int_q false 0 _ _ _ _ _ (D : Int) q2 h6 (by omega) HDV HQ2).mono ?_; rintro e w5 ⟨a9, n9, c9, a8, n8, c8, rfl, h9, h8, hE1⟩; replace r := r.ext hE1; replace r_0 := r.cell (i := 0) rfl; replace r_1 := r.cell (i := 1) rfl; replace r_f0 := r.free 0; replace r_f1 := r.free 1; replace r_lt := r.lt; replace m := m.ext hE1; replace m_0 := m.cell (i := 0) rfl; replace m_1 := m.cell (i := 1) rfl; replace m_f0 := m.free 0; replace m_f1 := m.free 1; replace m_lt := m.lt; replace y := y.ext hE1; replace y_0 := y.cell (i := 0) rfl; replace y_1 := y.cell (i := 1) rfl; replace y_2 := y.cell (i := 2) rfl; replace y_3 := y.cell (i := 3) rfl; replace h5 := h5.ext hE1; replace hE0 := Ext.trans hE0 hE1)
                   | (go_at_call 96; refine (r5Mul_s K (KL + 1) (by omega) _ _ _ _ _ _ _ _ _ _ _ _ _ _ _ _ _ _ _ h5 (RatS.of h9 h8 hkl hkl2) t HXD).mono ?_; rintro e w6 ⟨a10, n10, c10, a11, n11, c11, rfl, h10, h11, hE1⟩; have h10 := h10.mono (B' := wr.heap.size) hE0.size (Kept.refl _ _); replace r := r.ext hE1; replace r_0 := r.cell (i := 0) rfl; replace r_1 := r.cell (i := 1) rfl; replace r_f0 := r.free 0; replace r_f1 := r.free 1; replace r_lt := r.lt; replace m := m.ext hE1; replace m_0 := m.cell (i := 0) rfl; replace m_1 := m.cell (i := 1) rfl; replace m_f0 := m.free 0; replace m_f1 := m.free 1; replace m_lt := m.lt; replace y := y.ext hE1; replace y_0 := y.cell (i := 0) rfl; replace y_1 := y.cell (i := 1) rfl; replace y_2 := y.cell (i := 2) rfl; replace y_3 := y.cell (i := 3) rfl; replace hE0 := Ext.trans hE0 hE1)
                   | (have hEA : Ext w6 (w6.alloc (Obj.cells #[.bool (decide (t.num < 0)), .slice a10 n10 c10] 25)) := (Below.refl _ _).alloc (Nat.le_refl _) _; have hEB := Ext.trans hE0 hEA; have hG9 := hGj.keep hEB.size (fun b _ h2 => hEB.block b h2); have hbl := Blk.new w6 25 #[.bool (decide (t.num < 0)), .slice a10 n10 c10]; have hnews : ∀ ad, some (⟨w6.heap.size, 0, none⟩ : Addr) = some ad → ∀ (j' : Nat) (u : Value), [Value.bool (decide (t.num < 0)), .slice a10 n10 c10][j']? = some u → (w6.alloc (Obj.cells #[.bool (decide (t.num < 0)), .slice a10 n10 c10] 25)).cell? (ad.add j') = some u := (by intro ad e j' u hu; cases e; match j', hu with | 0, hu => (cases hu; exact hbl.cell (i := 0) rfl) | 1, hu => (cases hu; exact hbl.cell (i := 1) rfl) | k + 2, hu => simp at hu); refine step_append_src rfl (.tmp 30) (.tmp 36) 30 rfl wo.heap.size 25 i0 _ 2 32 under_ints hi0 hz0 hz1 hz2 rfl (by decide) _ j _ rfl hG9.own (some ⟨w6.heap.size, 0, none⟩) 1 1 [.bool (decide (t.num < 0)), .slice a10 n10 c10] rfl (by simp) rfl hnews (by simp [Value.oneCell']) (by unfold maxLen; omega) (by omega) (by have := hEB.size; omega) ?_; intro v' w7 hown' hgrow hat; replace m := Blk.grown (m.ext hEA) hgrow (fun e => by have := (hlt _ e.symm).1; omega); replace r := Blk.grown (r.ext hEA) hgrow (fun e => by have := (hlt _ e.symm).1; omega); replace y := Blk.grown (y.ext hEA) hgrow (fun e => by have := (hlt _ e.symm).2; omega); replace r_0 := r.cell (i := 0) rfl; replace r_1 := r.cell (i := 1) rfl; replace r_f0 := r.free 0; replace r_f1 := r.free 1; replace r_lt := r.lt; replace m_0 := m.cell (i := 0) rfl; replace m_1 := m.cell (i := 1) rfl; replace m_f0 := m.free 0; replace m_f1 := m.free 1; replace m_lt := m.lt; replace y_0 := y.cell (i := 0) rfl; replace y_1 := y.cell (i := 1) rfl; replace y_2 := y.cell (i := 2) rfl; replace y_3 := y.cell (i := 3) rfl))
          all_goals
            have HG9 := Lib.hid hG9
            have HN9 : Hid (rIntN.ok wr.heap.size (w6.alloc (Obj.cells #[.bool (decide (t.num < 0)), .slice a10 n10 c10] 25)) [.bool (decide (t.num < 0)), .slice a10 n10 c10] t.num) := Lib.hid ⟨a10, n10, c10, rfl, h10.ext (Nat.le_refl _) hEA⟩
            have HE9 := Lib.hid (Ext.trans HEj.out hEB)
            have HOW := Lib.hid hown'
            have HGR := Lib.hid hgrow
            have HAT := Lib.hid hat
            clear hG9 h5 h6 h9 h8 h10 h11 hEA hEB hE0 hE1 hown' hgrow hat hnews hbl hGj hf0
            go_wp2_with fail
            go_roundg (i - (j + 1))
            case measure => omega
            case rel =>
              refine ⟨j + 1, by omega, rfl, by go_num, Lib.hid ⟨css ++ [[.bool (decide (t.num < 0)), .slice a10 n10 c10]], ?_⟩, Lib.hid (HE9.out.grown HGR.out HE9.out.size (fun k e => (hlt k e).1))⟩
              rw [HTS.out, ← HTN.out]
              exact HG9.out.add HOW.out HGR.out HAT.out (x := t.num) HN9.out hwoj (fun k e => (hlt k e).2)
        · obtain rfl : j = i := by omega
          obtain ⟨css, hGj⟩ := HGj.out
          rw [List.take_of_length_le (by rw [hlen.out]; exact Nat.le_refl _)] at hGj
          obtain ⟨aa, cc, rfl, hsl⟩ := hGj.sl
          have hform := hGj.form
          have r := HRo.out.ext HEj.out
          have m := HMo.out.ext HEj.out
          have hwo : w.heap.size < wo.heap.size := HRo.out.lt
          have H6j := (H6.out.ext (Nat.le_refl _) HEj.out).mono (Nat.le_refl _) (Kept.trans (kept_set _ 0 (.bool false) (Nat.lt_succ_self w.heap.size)) (kept_set _ 1 (.slice a6 n6 c6) (Nat.lt_succ_self w.heap.size)))
          have HSj := hsl.mono (Nat.le_refl _) (Kept.trans (kept_set _ 0 (.bool false) hwo) (kept_set _ 1 (.slice a6 n6 c6) hwo))
          have HEz := Below.setCell (Below.setCell (Ext.trans HE.out HEj.out) (p := ⟨w.heap.size, 0, none⟩) (Nat.le_refl _) (.bool false)) (p := ⟨w.heap.size, 1, none⟩) (Nat.le_refl _) (.slice a6 n6 c6)
          have HF : Hid (RCommon w D (qs.map (comNum D)) (.returned (.tuple #[.agg #[.bool false, .slice a6 n6 c6], .slice aa j cc])) ((wr.setCell ⟨w.heap.size, 0, none⟩ (.bool false)).setCell ⟨w.heap.size, 1, none⟩ (.slice a6 n6 c6))) :=
            Lib.hid ⟨a6, n6, c6, aa, j, cc, rfl, H6j.mono (by omega) (Kept.refl _ _), HSj.mono (by omega) (Kept.refl _ _), HEz, hform⟩
          clear H6j HSj HEz hsl hGj hform
          replace r_0 := r.cell (i := 0) rfl
          replace r_1 := r.cell (i := 1) rfl
          replace r_f0 := r.free 0
          replace r_f1 := r.free 1
          replace r_lt := r.lt
          replace m_0 := m.cell (i := 0) rfl
          replace m_1 := m.cell (i := 1) rfl
          replace m_f0 := m.free 0
          replace m_f1 := m.free 1
          replace m_lt := m.lt
          have r2 := (r.set 0 (.bool false)).set 1 (.slice a6 n6 c6)
          have hr0 := r2.cell (i := 0) rfl
          have hr1 := r2.cell (i := 1) rfl
          go_wp2_with fail
          exact bodyPost_ret (v := .tuple #[.agg #[.bool false, .slice a6 n6 c6], .slice aa j cc]) (by simp [results, Tryz.results104, go_sem, hr0, hr1]) rfl HF.out
end Go.Proofs.YtbhenelehhiakaaGreat
/-
  A made block that is filled from the front is a list that grows: stores in place of appends. Rows of fractions that may be written. fill.
-/
namespace Go.Proofs.YtbhenelehhiakaaGreat
open Go.RowKit

/-- stores into neighbouring cells -/
def stores (w : World) (g : Nat) : Nat → List Value → World
  | _, [] => w
  | off, v :: vs => stores (w.setCell ⟨g, off, none⟩ v) g (off + 1) vs
def putAll (c : Array Value) : Nat → List Value → Array Value
  | _, [] => c
  | off, v :: vs => putAll (c.setIfInBounds off v) (off + 1) vs
theorem size_putAll (vs : List Value) : ∀ (c : Array Value) (off : Nat), (putAll c off vs).size = c.size := by
  induction vs with
  | nil => intro c off; rfl
  | cons v vs ih => intro c off; rw [putAll, ih]; simp
theorem take_putAll (vs : List Value) : ∀ (c : Array Value) (off : Nat), off + vs.length ≤ c.size → (putAll c off vs).toList.take (off + vs.length) = c.toList.take off ++ vs := by
  induction vs with
  | nil => intro c off _; simp [putAll]
  | cons v vs ih =>
    intro c off h
    simp only [List.length_cons] at h
    rw [putAll, List.length_cons, show off + (vs.length + 1) = off + 1 + vs.length by omega, ih _ _ (by simp; omega)]
    have e : (c.setIfInBounds off v).toList.take (off + 1) = c.toList.take off ++ [v] := by
      rw [Array.toList_setIfInBounds, List.take_succ_eq_append_getElem (by simp; omega)]
      rw [List.take_set_of_le (by omega)]
      simp
    rw [e]; simp
theorem Blk.stores {g : Nat} {t : TypeId} (vs : List Value) : ∀ {w : World} {c : Array Value} (off : Nat), Blk w g t c → Blk (Proofs.YtbhenelehhiakaaGreat.stores w g off vs) g t (putAll c off vs) := by
  induction vs with
  | nil => intro w c off h; exact h
  | cons v vs ih => intro w c off h; exact ih (off + 1) (h.set off v)
theorem grownBy_stores {g : Nat} (vs : List Value) : ∀ (w : World) (off : Nat), w.grownBy (stores w g off vs) (some g) := by
  induction vs with
  | nil => intro w off; exact World.grownBy.refl w _
  | cons v vs ih => intro w off; exact grownBy_trans (grownBy_setCell w g off v) (ih _ _)
theorem ownsRow_put {w : World} {base e s g k cap : Nat} {xs cs : List Value} (h : w.ownsRow base e s (.slice (some ⟨g, 0, none⟩) k cap) k xs) (hk : k < cap) (hs : cs.length = s) : (stores w g (k * s) cs).ownsRow base e s (.slice (some ⟨g, 0, none⟩) (k + 1) cap) (k + 1) (xs ++ cs) := by
  obtain ⟨h1, h2⟩ := h
  rcases h2 with ⟨h2, _⟩ | ⟨g', cap', cur, h2, h3, h4, h5, h6, h7, h8⟩
  · cases h2
  · cases h2
    have hb : Blk w g e cur := h4
    have hlt : (k + 1) * s ≤ cap * s := Nat.mul_le_mul_right _ hk
    rw [Nat.succ_mul] at hlt
    refine ⟨by rw [List.length_append, h1, hs, Nat.succ_mul], .inr ⟨g, cap, putAll cur (k * s) cs, rfl, h3, hb.stores cs (k * s), hk, h6, by rw [size_putAll, h7], ?_⟩⟩
    have := take_putAll cs cur (k * s) (by rw [hs, h7]; exact hlt)
    rw [hs, h8] at this
    rw [Nat.succ_mul]; exact this

theorem Grp.put {α : Type} {r : Rd α} {B e g k cap : Nat} {w : World} {xs : List α} {css : List (List Value)} {x : α} {cs : List Value} {Bx : Nat} (h : Grp r B e w (.slice (some ⟨g, 0, none⟩) k cap) k xs css) (hk : k < cap) (hx : r.ok Bx w cs x) (hB : B ≤ Bx) (hBx : g < Bx) :
    Grp r B e (stores w g (k * r.size) cs) (.slice (some ⟨g, 0, none⟩) (k + 1) cap) (k + 1) (xs ++ [x]) (css ++ [cs]) :=
  h.add (ownsRow_put h.own hk (r.len hx)) (by simpa [Value.ownBlock] using grownBy_stores cs w (k * r.size)) (.inl (by simp [Value.ownBlock])) hx hB (fun g' e => by
    simp [Value.ownBlock] at e; omega)

/-- a cell of the block is there and may be written -/
theorem Grp.cell {α : Type} {r : Rd α} {B e g k cap : Nat} {w : World} {xs : List α} {css : List (List Value)} (h : Grp r B e w (.slice (some ⟨g, 0, none⟩) k cap) k xs css) : g < w.heap.size ∧ B ≤ g ∧ ∀ j, j < cap * r.size → (∃ u, w.cell? ⟨g, j, none⟩ = some u) ∧ w.frozen? ⟨g, j, none⟩ = false := by
  rcases h.own.2 with ⟨h2, _⟩ | ⟨g', cap', cur, h2, h3, h4, h5, h6, h7, h8⟩
  · cases h2
  · cases h2
    have hb : Blk w g e cur := h4
    exact ⟨hb.lt, h3, fun j hj => ⟨⟨cur[j]'(by omega), hb.cell (Array.getElem?_eq_getElem (by omega))⟩, hb.free j⟩⟩

/-- a row of m fractions in a block of its own -/
def rRowG (K m : Nat) : Rd (Nat × List Rat) where
  size := 1
  ok B w cs x := cs = [.slice (some ⟨x.1, 0, none⟩) m m] ∧ Sl (rRatK K) B w (some ⟨x.1, 0, none⟩) m m x.2
  len h := by rw [h.1]; rfl
  mono h hB hk := ⟨h.1, h.2.mono hB hk⟩

/-- rows of fractions that may be written: each in a block of its own -/
structure MG (K B : Nat) (w : World) (a : Option Addr) (n c m : Nat) (L : List (Nat × List Rat)) : Prop where
  sl : Sl (rRowG K m) B w a n c L
  out : ∀ b o, a = some ⟨b, o, none⟩ → ∀ x ∈ L, b ≠ x.1
  inj : (L.map Prod.fst).Pairwise (· ≠ ·)

theorem info_rat : (Tryz.prog.info? 75).map (fun i => (i.zero, i.size, i.bytes)) = some (some (.agg #[.bool false, .slice none 0 0, .bool false, .slice none 0 0]), 4, 64) := by kernel_rfl
theorem info_rats : (Tryz.prog.info? 68).map (fun i => (i.zero, i.size, i.bytes)) = some (some (.slice none 0 0), 1, 24) := by kernel_rfl
theorem under_rats : Tryz.prog.underlying 68 = some (.slice 75) := by kernel_rfl
theorem under_ratss : Tryz.prog.underlying 53 = some (.slice 68) := by kernel_rfl
end Go.Proofs.YtbhenelehhiakaaGreat
