/-
  The references: least common multiples of lists of integers.
-/
import Derived.Test.YtbhenelehhiakaaGreatSum21
import Derived.Test.YtbhenelehhiakaaGreatSum22
import Derived.Sort.CutIn
set_option linter.unusedVariables false
set_option linter.unusedSimpArgs false
namespace Go.Proofs.YtbhenelehhiakaaGreat
open Go.RowKit

/-- words stay where a cell that holds none is written -/
theorem NatS.set {B : Nat} {w : World} {a : Option Addr} {n c : Nat} {l : Nt} (h : NatS B w a n c l) {g i : Nat} {v0 : Value} (hv : w.cell? ⟨g, i, none⟩ = some v0) (hne : ∀ x : Int, v0 ≠ .int .u32 x) (v : Value) : NatS B (w.setCell ⟨g, i, none⟩ v) a n c l :=
  ⟨h.len, h.cap, h.most, h.nil, fun k hk => by
    obtain ⟨b, o, cs, ha, hr, hc⟩ := h.at_ k hk
    refine ⟨b, o, cs, ha, hr, fun j hj => ?_⟩
    obtain ⟨h1, h2, h3⟩ := hc j hj
    have hcs := hr.1
    have hcj : cs[j] = .int .u32 ((l[k] : Nat) : Int) := by
      subst hcs
      have : j = 0 := by simp at hj; omega
      subst this; rfl
    refine ⟨h1, ?_, by rw [World.frozen?_setCell]; exact h3⟩
    rw [World.cell?_setCell_other]
    · exact h2
    · intro e
      have e2 := congrArg w.cell? e
      rw [hv, h2, hcj] at e2
      cases e2
      exact hne _ rfl⟩

/-- an integer as it lies, of at most K limbs -/
def rIntK (K : Nat) : Rd Int where
  size := 2
  ok B w cs z := ∃ b a n c l, cs = [.bool b, .slice a n c] ∧ NatS B w a n c l ∧ ival b l = z ∧ n ≤ K
  len h := by obtain ⟨b, a, n, c, l, h, _⟩ := h; rw [h]; rfl
  mono h hB hk := by
    obtain ⟨b, a, n, c, l, h, hs, hz, hn⟩ := h
    exact ⟨b, a, n, c, l, h, hs.mono hB hk, hz, hn⟩

/-- a fraction as it lies -/
def rRatK (K : Nat) : Rd Rat where
  size := 4
  ok B w cs q := ∃ b a n c b2 a2 n2 c2, cs = [.bool b, .slice a n c, .bool b2, .slice a2 n2 c2] ∧ ∃ l l2, NatS B w a n c l ∧ NatS B w a2 n2 c2 l2 ∧ ival b2 l2 ≠ 0 ∧ ratv (ival b l) (ival b2 l2) = q ∧ n ≤ K ∧ n2 ≤ K
  len h := by obtain ⟨b, a, n, c, b2, a2, n2, c2, h, _⟩ := h; rw [h]; rfl
  mono h hB hk := by
    obtain ⟨b, a, n, c, b2, a2, n2, c2, h, l, l2, h1, h2, h3⟩ := h
    exact ⟨b, a, n, c, b2, a2, n2, c2, h, l, l2, h1.mono hB hk, h2.mono hB hk, h3⟩

/-- one element of a list -/
theorem Sl.get {α : Type} {r : Rd α} {B : Nat} {w : World} {a : Option Addr} {n c : Nat} {xs : List α} (h : Sl r B w a n c xs) {i : Nat} (hi : i < n) (hs : 0 < r.size) : ∃ b o cs x, a = some ⟨b, o, none⟩ ∧ b < w.heap.size ∧ xs[i]? = some x ∧ r.ok B w cs x ∧ ∀ j (hj : j < cs.length), w.cell? ⟨b, o + i * r.size + j, none⟩ = some cs[j] := by
  have hl : i < xs.length := by rw [h.len]; exact hi
  obtain ⟨b, o, cs, ha, hr, hc⟩ := h.at_ i hl
  have := r.len hr
  exact ⟨b, o, cs, _, ha, cel_lt (hc 0 (by omega)), List.getElem?_eq_getElem hl, hr, fun j hj => (hc j hj).cell⟩
theorem Sl.getInt {K B : Nat} {w : World} {a : Option Addr} {n c : Nat} {xs : List Int} (h : Sl (rIntK K) B w a n c xs) {i : Nat} (hi : i < n) : ∃ b o s a1 n1 c1 l z, a = some ⟨b, o, none⟩ ∧ b < w.heap.size ∧ xs[i]? = some z ∧ w.cell? ⟨b, o + i * 2, none⟩ = some (.bool s) ∧ w.cell? ⟨b, o + i * 2 + 1, none⟩ = some (.slice a1 n1 c1) ∧ NatS B w a1 n1 c1 l ∧ ival s l = z ∧ n1 ≤ K := by
  obtain ⟨b, o, cs, z, h1, h2, h3, ⟨s, a1, n1, c1, l, rfl, h4, h5, h6⟩, h7⟩ := h.get hi (by show 0 < _; simp [rIntK, rRatK])
  exact ⟨b, o, s, a1, n1, c1, l, z, h1, h2, h3, h7 0 (by simp), h7 1 (by simp), h4, h5, h6⟩
theorem Sl.getRat {K B : Nat} {w : World} {a : Option Addr} {n c : Nat} {xs : List Rat} (h : Sl (rRatK K) B w a n c xs) {i : Nat} (hi : i < n) : ∃ b o s a1 n1 c1 s2 a2 n2 c2 q, a = some ⟨b, o, none⟩ ∧ b < w.heap.size ∧ xs[i]? = some q ∧ w.cell? ⟨b, o + i * 4, none⟩ = some (.bool s) ∧ w.cell? ⟨b, o + i * 4 + 1, none⟩ = some (.slice a1 n1 c1) ∧ w.cell? ⟨b, o + i * 4 + 2, none⟩ = some (.bool s2) ∧ w.cell? ⟨b, o + i * 4 + 3, none⟩ = some (.slice a2 n2 c2) ∧ RatS K w s a1 n1 c1 s2 a2 n2 c2 q := by
  obtain ⟨b, o, cs, q, h1, h2, h3, ⟨s, a1, n1, c1, s2, a2, n2, c2, rfl, l, l2, h4, h5, h6⟩, h7⟩ := h.get hi (by show 0 < _; simp [rIntK, rRatK])
  exact ⟨b, o, s, a1, n1, c1, s2, a2, n2, c2, q, h1, h2, h3, h7 0 (by simp), h7 1 (by simp), h7 2 (by simp), h7 3 (by simp), l, l2, Sl.zero h4, Sl.zero h5, h6⟩

/-- the least common multiple of a list -/
def lcms (zs : List Int) : Nat := zs.foldl (fun (m : Nat) z => Nat.lcm m z.natAbs) 1
theorem lcms_snoc (zs : List Int) (z : Int) : lcms (zs ++ [z]) = Nat.lcm (lcms zs) z.natAbs := by simp [lcms]
theorem lcms_pos (zs : List Int) (h : ∀ z ∈ zs, z ≠ 0) : 0 < lcms zs := by
  have key : ∀ (zs : List Int) (m : Nat), 0 < m → (∀ z ∈ zs, z ≠ 0) → 0 < zs.foldl (fun (m : Nat) z => Nat.lcm m z.natAbs) m := by
    intro zs
    induction zs with
    | nil => intro m hm _; exact hm
    | cons z zs ih =>
      intro m hm hz
      exact ih _ (Nat.lcm_pos hm (Int.natAbs_pos.2 (hz z (List.mem_cons_self ..)))) (fun y hy => hz y (List.mem_cons_of_mem _ hy))
  exact key zs 1 (by decide) h
theorem lcms_append_dvd (zs ys : List Int) : lcms zs ∣ lcms (zs ++ ys) := by
  have key : ∀ (ys : List Int) (m : Nat), m ∣ ys.foldl (fun (m : Nat) z => Nat.lcm m z.natAbs) m := by
    intro ys
    induction ys with
    | nil => intro m; exact Nat.dvd_refl _
    | cons z zs ih => intro m; exact Nat.dvd_trans (Nat.dvd_lcm_left _ _) (ih _)
  unfold lcms
  rw [List.foldl_append]
  exact key ys _
theorem lcm_exact (m : Nat) (z : Int) : m * (z.natAbs / Nat.gcd m z.natAbs) = Nat.lcm m z.natAbs := by
  rw [Nat.lcm, ← Nat.mul_div_assoc _ (Nat.gcd_dvd_right ..)]
end Go.Proofs.YtbhenelehhiakaaGreat
/-
  The references: Lcm of a list of integers that are not 0.
-/
namespace Go.Proofs.YtbhenelehhiakaaGreat
open Go.RowKit

theorem r3Abs_y (b : Bool) (B : Nat) (w : World) (a : Option Addr) (n c : Nat) (l : Nt) (z y : Int) (h : NatS B w a n c l) (hn : n ≤ 17592186044416) (hz : Hid (ival b l = z)) (hy : Hid ((z.natAbs : Int) = y)) :
    Calls Tryz.prog 153 #[.agg #[.bool b, .slice a n c]] w (RInt w y) := by
  have := r3Abs_z b B w a n c l z h hn hz
  rwa [hy.out] at this
theorem r3Exact_y (b b2 : Bool) (B : Nat) (w : World) (a a2 : Option Addr) (n c n2 c2 : Nat) (l l2 : Nt) (z z2 y : Int) (h : NatS B w a n c l) (h2 : NatS B w a2 n2 c2 l2) (hn : n ≤ 4398046511104) (hn2 : n2 ≤ 4398046511104) (hz : Hid (ival b l = z)) (hz2 : Hid (ival b2 l2 = z2)) (h0 : z2 ≠ 0) (hdv : z2 ∣ z) (hy : Hid (z / z2 = y)) :
    Calls Tryz.prog 126 #[.agg #[.bool b, .slice a n c], .agg #[.bool b2, .slice a2 n2 c2]] w fun e w' => ∃ a3 n3 c3, e = .returned (.tuple #[.agg #[.bool (decide (y < 0)), .slice a3 n3 c3], .bool true]) ∧ NatS w.heap.size w' a3 n3 c3 (limbs y.natAbs) ∧ Ext w w' := by
  refine (r3Exact_z b b2 B w a a2 n c n2 c2 l l2 z z2 h h2 hn hn2 hz hz2 h0 hdv).mono ?_
  rintro e w' ⟨v, rfl, ⟨a3, n3, c3, rfl, h3⟩, hE⟩
  rw [hy.out] at h3 ⊢
  exact ⟨a3, n3, c3, rfl, h3, hE⟩
theorem r3Gcd_y (b b2 : Bool) (B : Nat) (w : World) (a a2 : Option Addr) (n c n2 c2 : Nat) (l l2 : Nt) (z z2 y : Int) (h : NatS B w a n c l) (h2 : NatS B w a2 n2 c2 l2) (hn : n ≤ 549755813888) (hn2 : n2 ≤ 549755813888) (hz : Hid (ival b l = z)) (hz2 : Hid (ival b2 l2 = z2)) (hy : Hid (((Int.gcd z z2 : Nat) : Int) = y)) :
    Calls Tryz.prog 125 #[.agg #[.bool b, .slice a n c], .agg #[.bool b2, .slice a2 n2 c2]] w (RInt w y) := by
  have := r3Gcd_z b b2 B w a a2 n c n2 c2 l l2 z z2 h h2 hn hn2 hz hz2
  rwa [hy.out] at this

set_option maxRecDepth 100000 in
set_option maxHeartbeats 8000000 in
theorem r3Lcm_any (K KL : Nat) (hK : K ≤ 549755813888) (hKL : KL ≤ 549755813888) (w : World) (a : Option Addr) (n c : Nat) (zs : List Int) (h : Sl (rIntK K) 0 w a n c zs) (hz0 : Hid (∀ z ∈ zs, z ≠ 0)) (hL : nl (lcms zs) ≤ KL) (L : Nat) (hLe : Hid (lcms zs = L)) :
    Calls Tryz.prog 132 #[.slice a n c] w (RInt w (L : Int)) := by
  have HS := Lib.hid h
  have hmost := h.most
  have hcap := h.cap
  have hlen := Lib.hid h.len
  clear h
  go_enter Tryz.func132, Tryz.ntmps132
  go_wp2_with fail
  have r := Blk.new w 25 #[.bool false, .slice none 0 0]
  have hEW : Ext w (w.alloc (Obj.cells #[.bool false, .slice none 0 0] 25)) := ((Below.refl _ w).alloc (by simp) _)
  generalize hgW : w.alloc (Obj.cells #[.bool false, .slice none 0 0] 25) = W at *
  clear hgW
  replace r_0 := r.cell (i := 0) rfl
  replace r_1 := r.cell (i := 1) rfl
  replace r_f0 := r.free 0
  replace r_f1 := r.free 1
  replace r_lt := r.lt
  have hW : w.heap.size + 1 ≤ W.heap.size := r_lt
  refine (r3Of_any 1 W (by omega) (by omega)).mono ?_
  rintro e w1 ⟨a3, n3, c3, rfl, h3, hE1⟩
  replace r := r.ext hE1; replace r_0 := r.cell (i := 0) rfl; replace r_1 := r.cell (i := 1) rfl; replace r_f0 := r.free 0; replace r_f1 := r.free 1; replace r_lt := r.lt
  rw [show decide ((1 : Int) < 0) = false from rfl]
  have hE0 := Ext.trans hEW hE1
  replace h3 := h3.mono hW (Kept.refl _ _)
  clear hEW
  go_wp2_with fail
  have m := Blk.new w1 25 #[.bool false, .slice a3 n3 c3]
  have hEW2 : Ext w1 (w1.alloc (Obj.cells #[.bool false, .slice a3 n3 c3] 25)) := ((Below.refl _ w1).alloc (by simp) _)
  generalize hgW2 : w1.alloc (Obj.cells #[.bool false, .slice a3 n3 c3] 25) = W2 at *
  clear hgW2
  replace m_0 := m.cell (i := 0) rfl
  replace m_1 := m.cell (i := 1) rfl
  replace m_f0 := m.free 0
  replace m_f1 := m.free 1
  replace m_lt := m.lt
  replace r := r.ext hEW2; replace r_0 := r.cell (i := 0) rfl; replace r_1 := r.cell (i := 1) rfl; replace r_f0 := r.free 0; replace r_f1 := r.free 1; replace r_lt := r.lt
  replace h3 := h3.ext (Nat.le_refl _) hEW2
  replace hE0 := Ext.trans hE0 hEW2
  have hw1 : w.heap.size + 1 ≤ w1.heap.size := Nat.le_trans hW hE1.size
  have HM0 : Hid (∃ a3 n3 c3, Blk W2 w1.heap.size 25 #[.bool false, .slice a3 n3 c3] ∧ NatS (w.heap.size + 1) W2 a3 n3 c3 (limbs (lcms (zs.take 0)))) := Lib.hid ⟨a3, n3, c3, m, h3⟩
  have HR0 := Lib.hid r
  have HE0 := Lib.hid hE0
  clear h3 hE0 hE1 hEW2 m m_0 m_1 m_f0 m_f1 m_lt r r_0 r_1 r_f0 r_f1 r_lt
  go_loopg [11] n (fun q vi wr => ∃ (i : Nat), i ≤ n ∧ q = n - i ∧ vi = .int .i64 (i : Int) ∧ Hid (∃ a3 n3 c3, Blk wr w1.heap.size 25 #[.bool false, .slice a3 n3 c3] ∧ NatS (w.heap.size + 1) wr a3 n3 c3 (limbs (lcms (zs.take i)))) ∧ Hid (Blk wr w.heap.size 25 #[.bool false, .slice none 0 0]) ∧ Hid (Ext w wr))
  case atStart => exact ⟨0, Nat.zero_le _, rfl, rfl, HM0, HR0, HE0⟩
  case round =>
    clear HM0 HR0 HE0
    obtain ⟨i, hi, hq, rfl, HM, HR, HE⟩ := hrel
    by_cases hin : i < n
    · obtain ⟨b5, o5, s5, a5, n5, c5, l5, z, rfl, hb5, hzi, hc5, hc6, h5, hz5, hn5⟩ := HS.out.getInt hin
      have hc5 := (HE.out.cell (p := ⟨b5, o5 + i * 2, none⟩) hb5).trans hc5
      have hc6 := (HE.out.cell (p := ⟨b5, o5 + i * 2 + 1, none⟩) hb5).trans hc6
      replace h5 := h5.ext (Nat.le_refl _) HE.out
      have hz0' : z ≠ 0 := hz0.out z (List.mem_of_getElem? hzi)
      obtain ⟨hil, hzi'⟩ := List.getElem?_eq_some_iff.1 hzi
      have hts : zs.take (i + 1) = zs.take i ++ [z] := by rw [List.take_succ_eq_append_getElem hil, hzi']
      have HX : Hid (lcms (zs.take (i + 1)) = Nat.lcm (lcms (zs.take i)) z.natAbs) := Lib.hid (by rw [hts, lcms_snoc])
      have hmp : 0 < lcms (zs.take i) := lcms_pos _ (fun z hz => hz0.out z (List.mem_of_mem_take hz))
      have hnm : nl (lcms (zs.take i)) ≤ KL := by
        refine Nat.le_trans (nl_mono (Nat.le_of_dvd (lcms_pos _ hz0.out) ?_)) hL
        conv => rhs; rw [← List.take_append_drop i zs]
        exact lcms_append_dvd _ _
      have hnx : nl (lcms (zs.take (i + 1))) ≤ KL := by
        refine Nat.le_trans (nl_mono (Nat.le_of_dvd (lcms_pos _ hz0.out) ?_)) hL
        conv => rhs; rw [← List.take_append_drop (i + 1) zs]
        exact lcms_append_dvd _ _
      obtain ⟨a6, n6, c6, hm6, h6⟩ := HM.out
      have HZ5 := Lib.hid hz5
      rw [HX.out] at hnx
      generalize lcms (zs.take i) = M at *
      have hn6 : n6 ≤ KL := by have := h6.len; rw [length_limbs] at this; omega
      have r := HR.out
      have m := hm6
      clear hzi hzi' hts hz5 hm6 HR HM
      skip
      skip
      replace r_0 := r.cell (i := 0) rfl
      replace r_1 := r.cell (i := 1) rfl
      replace r_f0 := r.free 0
      replace r_f1 := r.free 1
      replace r_lt := r.lt
      replace m_0 := m.cell (i := 0) rfl
      replace m_1 := m.cell (i := 1) rfl
      replace m_f0 := m.free 0
      replace m_f1 := m.free 1
      replace m_lt := m.lt
      have m_a0 := cell_alloc m_0 (Obj.cells #[.bool s5, .slice a5 n5 c5] 25)
      have m_a1 := cell_alloc m_1 (Obj.cells #[.bool s5, .slice a5 n5 c5] 25)
      go_wp2_with fail
      clear m_a0 m_a1 hc5 hc6
      have x := Blk.new wr 25 #[.bool s5, .slice a5 n5 c5]
      have hEW3 : Ext wr (wr.alloc (Obj.cells #[.bool s5, .slice a5 n5 c5] 25)) := ((Below.refl _ wr).alloc (by simp) _)
      generalize hgW3 : wr.alloc (Obj.cells #[.bool s5, .slice a5 n5 c5] 25) = W3 at *
      clear hgW3
      replace x_0 := x.cell (i := 0) rfl
      replace x_1 := x.cell (i := 1) rfl
      replace r := r.ext hEW3; replace r_0 := r.cell (i := 0) rfl; replace r_1 := r.cell (i := 1) rfl; replace r_f0 := r.free 0; replace r_f1 := r.free 1; replace r_lt := r.lt; replace m := m.ext hEW3; replace m_0 := m.cell (i := 0) rfl; replace m_1 := m.cell (i := 1) rfl; replace m_f0 := m.free 0; replace m_f1 := m.free 1; replace m_lt := m.lt
      replace h5 := h5.ext (Nat.le_refl _) hEW3
      replace h6 := h6.ext (Nat.le_refl _) hEW3
      have hE0 := Ext.trans HE.out hEW3
      refine (r3Sign_z s5 0 W3 _ _ _ _ z h5 HZ5).mono ?_
      rintro e w4 ⟨rfl, hE4⟩
      replace r := r.ext hE4; replace r_0 := r.cell (i := 0) rfl; replace r_1 := r.cell (i := 1) rfl; replace r_f0 := r.free 0; replace r_f1 := r.free 1; replace r_lt := r.lt; replace m := m.ext hE4; replace m_0 := m.cell (i := 0) rfl; replace m_1 := m.cell (i := 1) rfl; replace m_f0 := m.free 0; replace m_f1 := m.free 1; replace m_lt := m.lt; replace x := x.ext hE4; replace x_0 := x.cell (i := 0) rfl; replace x_1 := x.cell (i := 1) rfl
      replace h5 := h5.ext (Nat.le_refl _) hE4
      replace h6 := h6.ext (Nat.le_refl _) hE4
      replace hE0 := Ext.trans hE0 hE4
      have hs0 : (z.sign == 0) = false := by simpa using hz0'
      have hgd : ((Int.gcd (M : Int) z : Nat) : Int) ∣ (z.natAbs : Int) := Int.natCast_dvd_natCast.2 (Int.gcd_dvd_natAbs_right (M : Int) z)
      have hg0 : ((Int.gcd (M : Int) z : Nat) : Int) ≠ 0 := by have := Int.gcd_pos_of_ne_zero_right (M : Int) hz0'; omega
      have HQV : Hid ((z.natAbs : Int) / ((Int.gcd (M : Int) z : Nat) : Int) = ((z.natAbs / Nat.gcd M z.natAbs : Nat) : Int)) := Lib.hid (by rw [Int.natCast_ediv]; rfl)
      have hnz : nl z.natAbs ≤ K := Nat.le_trans (nl_of h5 HZ5) hn5
      have hng : nl (Int.gcd (M : Int) z) ≤ K := Nat.le_trans (nl_mono (Int.gcd_le_natAbs_right _ hz0')) hnz
      have HLC := Lib.hid (lcm_exact M z)
      have hnq : nl (z.natAbs / Nat.gcd M z.natAbs) ≤ K := Nat.le_trans (nl_mono (Nat.div_le_self _ _)) hnz
      have hHM : Hid (ival false (limbs M) = (M : Int)) := Lib.hid (by rw [ival_limbs]; rfl)
      generalize z.sign = sg at *
      generalize hzn : (z.natAbs : Int) = zn at *
      have HZN := Lib.hid hzn
      generalize hgg : ((Int.gcd (M : Int) z : Nat) : Int) = gg at *
      have HGG := Lib.hid hgg
      generalize z.natAbs / Nat.gcd M z.natAbs = Q at *
      clear hE4 hEW3 hgg hzn
      obtain ⟨wo, rfl⟩ : ∃ wo : World, wo = w4 := ⟨_, rfl⟩
      go_upto_region 7 with (fail)
      go_cut [6, 7] (fun s6 s7 wx => ∃ (qb : Nat) (a7 : Option Addr) (n7 c7 : Nat), s6 = .pointer (some ⟨qb, 0, none⟩) ∧ wo.heap.size ≤ qb ∧ Hid (Blk wx w1.heap.size 25 #[.bool false, .slice a6 n6 c6]) ∧ Hid (Blk wx w.heap.size 25 #[.bool false, .slice none 0 0]) ∧ Hid (Blk wx qb 25 #[.bool (decide ((Q : Int) < 0)), .slice a7 n7 c7]) ∧ Hid (NatS wo.heap.size wx a7 n7 c7 (limbs Q)) ∧ Hid (Ext wo wx))
      case first =>
        have hd : Ext wo wo.drew := (Below.refl _ _).drew
        have u1 := Nat.ne_of_gt m.lt
        have u2 := Nat.ne_of_lt m.lt
        have u3 := Nat.ne_of_gt x.lt
        have u4 := Nat.ne_of_lt x.lt
        have u5 := Nat.ne_of_gt r.lt
        have u6 := Nat.ne_of_lt r.lt
        have r := r.ext hd; have r_0 := r.cell (i := 0) rfl; have r_1 := r.cell (i := 1) rfl; have r_f0 := r.free 0; have r_f1 := r.free 1; have r_lt := r.lt; have m := m.ext hd; have m_0 := m.cell (i := 0) rfl; have m_1 := m.cell (i := 1) rfl; have m_f0 := m.free 0; have m_f1 := m.free 1; have m_lt := m.lt; have x := x.ext hd; have x_0 := x.cell (i := 0) rfl; have x_1 := x.cell (i := 1) rfl
        replace h5 := h5.ext (Nat.le_refl _) hd
        replace h6 := Sl.zero (h6.ext (Nat.le_refl _) hd)
        have hE0 := hd
        go_region_held3 (fun w' => w'.cell? ⟨w1.heap.size, 0, none⟩ = some (.bool false) ∧ w'.cell? ⟨w1.heap.size, 1, none⟩ = some (.slice a6 n6 c6) ∧ w'.cell? ⟨wr.heap.size, 0, none⟩ = some (.bool s5) ∧ w'.cell? ⟨wr.heap.size, 1, none⟩ = some (.slice a5 n5 c5)) (first | exact ⟨m_0, m_1, x_0, x_1⟩ | go_keep)
          (first | (go_at_call 153; refine (r3Abs_y s5 0 _ a5 n5 c5 l5 z zn (h5.ext (Nat.le_refl _) (by first | exact Ext.refl _ | exact (Below.refl _ _).alloc (Nat.le_refl _) _ | exact (Below.refl _ _).drew)) (by omega) HZ5 HZN).mono ?_; rintro e w5 ⟨a7, n7, c7, rfl, h7, hE1⟩; have hB1 := (fun b t c h => Blk.ext h hE1 : ∀ b t c, Blk _ b t c → Blk w5 b t c); (try (replace q := hB1 _ _ _ q; have q_0 := q.cell (i := 0) rfl; have q_f0 := q.free 0; have q_1 := q.cell (i := 1) rfl; have q_f1 := q.free 1; have q_lt := q.lt)); (try ((first | (have q := hB1 _ _ _ (Blk.new _ 25 #[.bool false, .slice none 0 0])) | (have q : Blk w5 wo.heap.size 25 #[.bool false, .slice none 0 0] := hB1 _ _ _ (Blk.new wo.drew 25 #[.bool false, .slice none 0 0]))); have q_ge := Below.size hE0; have q_ne_r := Nat.ne_of_gt r.lt; have r_ne_q := Nat.ne_of_lt r.lt; have q_ne_m := Nat.ne_of_gt m.lt; have m_ne_q := Nat.ne_of_lt m.lt; have q_ne_x := Nat.ne_of_gt x.lt; have x_ne_q := Nat.ne_of_lt x.lt; have q_0 := q.cell (i := 0) rfl; have q_f0 := q.free 0; have q_1 := q.cell (i := 1) rfl; have q_f1 := q.free 1; have q_lt := q.lt)); replace r := r.ext (Ext.trans (by first | exact Ext.refl _ | exact (Below.refl _ _).alloc (Nat.le_refl _) _ | exact (Below.refl _ _).drew) hE1); replace r_0 := r.cell (i := 0) rfl; replace r_1 := r.cell (i := 1) rfl; replace r_f0 := r.free 0; replace r_f1 := r.free 1; replace r_lt := r.lt; replace m := m.ext (Ext.trans (by first | exact Ext.refl _ | exact (Below.refl _ _).alloc (Nat.le_refl _) _ | exact (Below.refl _ _).drew) hE1); replace m_0 := m.cell (i := 0) rfl; replace m_1 := m.cell (i := 1) rfl; replace m_f0 := m.free 0; replace m_f1 := m.free 1; replace m_lt := m.lt; replace x := x.ext (Ext.trans (by first | exact Ext.refl _ | exact (Below.refl _ _).alloc (Nat.le_refl _) _ | exact (Below.refl _ _).drew) hE1); replace x_0 := x.cell (i := 0) rfl; replace x_1 := x.cell (i := 1) rfl; replace h5 := h5.ext (Nat.le_refl _) (Ext.trans (by first | exact Ext.refl _ | exact (Below.refl _ _).alloc (Nat.le_refl _) _ | exact (Below.refl _ _).drew) hE1); replace h6 := h6.ext (Nat.le_refl _) (Ext.trans (by first | exact Ext.refl _ | exact (Below.refl _ _).alloc (Nat.le_refl _) _ | exact (Below.refl _ _).drew) hE1); (try replace h8 := h8.ext (Nat.le_refl _) (Ext.trans (by first | exact Ext.refl _ | exact (Below.refl _ _).alloc (Nat.le_refl _) _ | exact (Below.refl _ _).drew) hE1)); replace h7 := h7.mono (Below.size (Ext.trans hE0 (by first | exact Ext.refl _ | exact (Below.refl _ _).alloc (Nat.le_refl _) _ | exact (Below.refl _ _).drew))) (Kept.refl _ _); replace hE0 := Ext.trans hE0 (Ext.trans (by first | exact Ext.refl _ | exact (Below.refl _ _).alloc (Nat.le_refl _) _ | exact (Below.refl _ _).drew) hE1))
                 | (go_at_call 125; refine (r3Gcd_y false s5 0 _ a6 a5 n6 c6 n5 c5 _ l5 (M : Int) z gg (h6.ext (Nat.le_refl _) (by first | exact Ext.refl _ | exact (Below.refl _ _).alloc (Nat.le_refl _) _ | exact (Below.refl _ _).drew)) (h5.ext (Nat.le_refl _) (by first | exact Ext.refl _ | exact (Below.refl _ _).alloc (Nat.le_refl _) _ | exact (Below.refl _ _).drew)) (by omega) (by omega) hHM HZ5 HGG).mono ?_; rintro e w5 ⟨a8, n8, c8, rfl, h8, hE1⟩; have hB1 := (fun b t c h => Blk.ext h hE1 : ∀ b t c, Blk _ b t c → Blk w5 b t c); (try (replace q := hB1 _ _ _ q; have q_0 := q.cell (i := 0) rfl; have q_f0 := q.free 0; have q_1 := q.cell (i := 1) rfl; have q_f1 := q.free 1; have q_lt := q.lt)); (try ((first | (have q := hB1 _ _ _ (Blk.new _ 25 #[.bool false, .slice none 0 0])) | (have q : Blk w5 wo.heap.size 25 #[.bool false, .slice none 0 0] := hB1 _ _ _ (Blk.new wo.drew 25 #[.bool false, .slice none 0 0]))); have q_ge := Below.size hE0; have q_ne_r := Nat.ne_of_gt r.lt; have r_ne_q := Nat.ne_of_lt r.lt; have q_ne_m := Nat.ne_of_gt m.lt; have m_ne_q := Nat.ne_of_lt m.lt; have q_ne_x := Nat.ne_of_gt x.lt; have x_ne_q := Nat.ne_of_lt x.lt; have q_0 := q.cell (i := 0) rfl; have q_f0 := q.free 0; have q_1 := q.cell (i := 1) rfl; have q_f1 := q.free 1; have q_lt := q.lt)); replace r := r.ext (Ext.trans (by first | exact Ext.refl _ | exact (Below.refl _ _).alloc (Nat.le_refl _) _ | exact (Below.refl _ _).drew) hE1); replace r_0 := r.cell (i := 0) rfl; replace r_1 := r.cell (i := 1) rfl; replace r_f0 := r.free 0; replace r_f1 := r.free 1; replace r_lt := r.lt; replace m := m.ext (Ext.trans (by first | exact Ext.refl _ | exact (Below.refl _ _).alloc (Nat.le_refl _) _ | exact (Below.refl _ _).drew) hE1); replace m_0 := m.cell (i := 0) rfl; replace m_1 := m.cell (i := 1) rfl; replace m_f0 := m.free 0; replace m_f1 := m.free 1; replace m_lt := m.lt; replace x := x.ext (Ext.trans (by first | exact Ext.refl _ | exact (Below.refl _ _).alloc (Nat.le_refl _) _ | exact (Below.refl _ _).drew) hE1); replace x_0 := x.cell (i := 0) rfl; replace x_1 := x.cell (i := 1) rfl; replace h5 := h5.ext (Nat.le_refl _) (Ext.trans (by first | exact Ext.refl _ | exact (Below.refl _ _).alloc (Nat.le_refl _) _ | exact (Below.refl _ _).drew) hE1); replace h6 := h6.ext (Nat.le_refl _) (Ext.trans (by first | exact Ext.refl _ | exact (Below.refl _ _).alloc (Nat.le_refl _) _ | exact (Below.refl _ _).drew) hE1); (try replace h7 := h7.ext (Nat.le_refl _) (Ext.trans (by first | exact Ext.refl _ | exact (Below.refl _ _).alloc (Nat.le_refl _) _ | exact (Below.refl _ _).drew) hE1)); replace h8 := h8.mono (Below.size (Ext.trans hE0 (by first | exact Ext.refl _ | exact (Below.refl _ _).alloc (Nat.le_refl _) _ | exact (Below.refl _ _).drew))) (Kept.refl _ _); replace hE0 := Ext.trans hE0 (Ext.trans (by first | exact Ext.refl _ | exact (Below.refl _ _).alloc (Nat.le_refl _) _ | exact (Below.refl _ _).drew) hE1))
                 | (go_at_call 126; refine (r3Exact_y _ _ 0 _ a7 a8 n7 c7 n8 c8 _ _ zn gg (Q : Int) (Sl.zero (h7.ext (Nat.le_refl _) (by first | exact Ext.refl _ | exact (Below.refl _ _).alloc (Nat.le_refl _) _ | exact (Below.refl _ _).drew))) (Sl.zero (h8.ext (Nat.le_refl _) (by first | exact Ext.refl _ | exact (Below.refl _ _).alloc (Nat.le_refl _) _ | exact (Below.refl _ _).drew))) (by have := h7.len; rw [length_limbs, ← HZN.out, Int.natAbs_natCast] at this; omega) (by have := h8.len; rw [length_limbs, ← HGG.out, Int.natAbs_natCast] at this; omega) (hnorm _) (hnorm _) hg0 hgd HQV).mono ?_; rintro e w5 ⟨a9, n9, c9, rfl, h9, hE1⟩; have hB1 := (fun b t c h => Blk.ext h hE1 : ∀ b t c, Blk _ b t c → Blk w5 b t c); (try (replace q := hB1 _ _ _ q; have q_0 := q.cell (i := 0) rfl; have q_f0 := q.free 0; have q_1 := q.cell (i := 1) rfl; have q_f1 := q.free 1; have q_lt := q.lt)); (try ((first | (have q := hB1 _ _ _ (Blk.new _ 25 #[.bool false, .slice none 0 0])) | (have q : Blk w5 wo.heap.size 25 #[.bool false, .slice none 0 0] := hB1 _ _ _ (Blk.new wo.drew 25 #[.bool false, .slice none 0 0]))); have q_ge := Below.size hE0; have q_ne_r := Nat.ne_of_gt r.lt; have r_ne_q := Nat.ne_of_lt r.lt; have q_ne_m := Nat.ne_of_gt m.lt; have m_ne_q := Nat.ne_of_lt m.lt; have q_ne_x := Nat.ne_of_gt x.lt; have x_ne_q := Nat.ne_of_lt x.lt; have q_0 := q.cell (i := 0) rfl; have q_f0 := q.free 0; have q_1 := q.cell (i := 1) rfl; have q_f1 := q.free 1; have q_lt := q.lt)); replace r := r.ext (Ext.trans (by first | exact Ext.refl _ | exact (Below.refl _ _).alloc (Nat.le_refl _) _ | exact (Below.refl _ _).drew) hE1); replace r_0 := r.cell (i := 0) rfl; replace r_1 := r.cell (i := 1) rfl; replace r_f0 := r.free 0; replace r_f1 := r.free 1; replace r_lt := r.lt; replace m := m.ext (Ext.trans (by first | exact Ext.refl _ | exact (Below.refl _ _).alloc (Nat.le_refl _) _ | exact (Below.refl _ _).drew) hE1); replace m_0 := m.cell (i := 0) rfl; replace m_1 := m.cell (i := 1) rfl; replace m_f0 := m.free 0; replace m_f1 := m.free 1; replace m_lt := m.lt; replace x := x.ext (Ext.trans (by first | exact Ext.refl _ | exact (Below.refl _ _).alloc (Nat.le_refl _) _ | exact (Below.refl _ _).drew) hE1); replace x_0 := x.cell (i := 0) rfl; replace x_1 := x.cell (i := 1) rfl; replace h5 := h5.ext (Nat.le_refl _) (Ext.trans (by first | exact Ext.refl _ | exact (Below.refl _ _).alloc (Nat.le_refl _) _ | exact (Below.refl _ _).drew) hE1); replace h6 := h6.ext (Nat.le_refl _) (Ext.trans (by first | exact Ext.refl _ | exact (Below.refl _ _).alloc (Nat.le_refl _) _ | exact (Below.refl _ _).drew) hE1); replace h9 := h9.mono (Below.size (Ext.trans hE0 (by first | exact Ext.refl _ | exact (Below.refl _ _).alloc (Nat.le_refl _) _ | exact (Below.refl _ _).drew))) (Kept.refl _ _); replace hE0 := Ext.trans hE0 (Ext.trans (by first | exact Ext.refl _ | exact (Below.refl _ _).alloc (Nat.le_refl _) _ | exact (Below.refl _ _).drew) hE1)))
        all_goals (go_wp2_with fail; go_meet)
        all_goals first
          | exact ⟨_, a9, n9, c9, rfl, Below.size hE0, Lib.hid (m.ext ((Below.refl _ _).alloc (Nat.le_refl _) _)), Lib.hid (r.ext ((Below.refl _ _).alloc (Nat.le_refl _) _)), Lib.hid (Blk.new _ _ _), Lib.hid (h9.ext (Nat.le_refl _) ((Below.refl _ _).alloc (Nat.le_refl _) _)), Lib.hid (Ext.trans hE0 ((Below.refl _ _).alloc (Nat.le_refl _) _))⟩
          | exact ⟨_, a9, n9, c9, rfl, q_ge, Lib.hid ((m.set_ne 0 _ m_ne_q).set_ne 1 _ m_ne_q), Lib.hid ((r.set_ne 0 _ r_ne_q).set_ne 1 _ r_ne_q), Lib.hid ((q.set 0 _).set 1 _), Lib.hid (NatS.set (NatS.set h9 q_0 (fun x => by simp) _) ((q.set 0 _).cell (i := 1) rfl) (fun x => by simp) _), Lib.hid (Below.setCell (Below.setCell hE0 (p := ⟨_, 0, none⟩) q_ge _) (p := ⟨_, 1, none⟩) q_ge _)⟩
      case rest =>
        have hEo := hE0
        clear r m x r_0 r_1 r_f0 r_f1 r_lt m_0 m_1 m_f0 m_f1 m_lt x_0 x_1 hE0
        obtain ⟨qb, a7, n7, c7, rfl, hqb, HM, HR, HQ, H7, HE7⟩ := hcut
        have r := HR.out
        have m := HM.out
        have q := HQ.out
        have hn7 : n7 ≤ K := by have := H7.out.len; rw [length_limbs] at this; omega
        rw [show decide (((Q : Nat) : Int) < 0) = false from decide_eq_false (by omega)] at q
        skip
        skip
        skip
        replace r_0 := r.cell (i := 0) rfl
        replace r_1 := r.cell (i := 1) rfl
        replace r_f0 := r.free 0
        replace r_f1 := r.free 1
        replace r_lt := r.lt
        replace m_0 := m.cell (i := 0) rfl
        replace m_1 := m.cell (i := 1) rfl
        replace m_f0 := m.free 0
        replace m_f1 := m.free 1
        replace m_lt := m.lt
        replace q_0 := q.cell (i := 0) rfl
        replace q_1 := q.cell (i := 1) rfl
        have hEw := Ext.trans hEo HE7.out
        have HY : Hid ((M : Int) * (Q : Int) = ((Nat.lcm M z.natAbs : Nat) : Int)) := Lib.hid (by rw [← HLC.out]; exact (Int.natCast_mul _ _).symm)
        go_wp2_with fail
        refine (r3Mul_y false false 0 wc _ _ _ _ _ _ _ _ (M : Int) (Q : Int) _ (Sl.zero (h6.ext (Nat.le_refl _) HE7.out)) (Sl.zero H7.out) (by omega) (by omega) hHM (Lib.hid (by rw [ival_limbs]; rfl)) HY).mono ?_
        rintro e w8 ⟨a8, n8, c8, rfl, h8, hE8⟩
        rw [show decide (((Nat.lcm M z.natAbs : Nat) : Int) < 0) = false from decide_eq_false (by omega)]
        rw [Int.natAbs_natCast] at h8
        replace r := r.ext hE8; replace r_0 := r.cell (i := 0) rfl; replace r_1 := r.cell (i := 1) rfl; replace r_f0 := r.free 0; replace r_f1 := r.free 1; replace r_lt := r.lt; replace m := m.ext hE8; replace m_0 := m.cell (i := 0) rfl; replace m_1 := m.cell (i := 1) rfl; replace m_f0 := m.free 0; replace m_f1 := m.free 1; replace m_lt := m.lt
        have hmw := m_lt
        have hwc : w.heap.size + 1 ≤ wc.heap.size := Nat.le_trans hw1 (Nat.le_of_lt (Nat.lt_of_lt_of_le (by have := HM.out.lt; exact this) (Nat.le_refl _)))
        have H8 := Lib.hid (h8.mono hwc (Kept.refl _ _))
        have HM8 := Lib.hid ((m.set 0 (.bool false)).set 1 (.slice a8 n8 c8))
        have HR8 := Lib.hid ((r.set_ne 0 (.bool false) (show w.heap.size ≠ w1.heap.size by omega)).set_ne 1 (.slice a8 n8 c8) (show w.heap.size ≠ w1.heap.size by omega))
        have HN8 := Lib.hid (NatS.set (NatS.set H8.out m_0 (fun x => by simp) (.bool false)) ((m.set 0 (.bool false)).cell (i := 1) rfl) (fun x => by simp) (.slice a8 n8 c8))
        have HE8 := Lib.hid (Below.setCell (Below.setCell (Ext.trans hEw hE8) (p := ⟨w1.heap.size, 0, none⟩) (show w.heap.size ≤ w1.heap.size by omega) (.bool false)) (p := ⟨w1.heap.size, 1, none⟩) (show w.heap.size ≤ w1.heap.size by omega) (.slice a8 n8 c8))
        clear h8 hE8
        go_wp2_with fail
        go_roundg (n - (i + 1))
        case measure => omega
        case rel => exact ⟨i + 1, by omega, rfl, by go_num, Lib.hid ⟨a8, n8, c8, HM8.out, by rw [HX.out]; exact HN8.out⟩, HR8, HE8⟩
    · obtain rfl : i = n := by omega
      obtain ⟨a6, n6, c6, hm6, h6⟩ := HM.out
      have hfull : lcms (zs.take i) = L := by rw [List.take_of_length_le (by rw [hlen.out]; exact Nat.le_refl _)]; exact hLe.out
      rw [hfull] at h6
      have r := HR.out
      have m := hm6
      have hwl := m.lt
      have HF := Lib.hid (RInt.boxN (w := w) (z := (L : Int)) (r := w.heap.size) (u1 := .bool false) (u2 := .slice a6 n6 c6) (B := w.heap.size + 1) (Nat.le_refl _) (by omega) HE.out ⟨a6, n6, c6, by rw [decide_eq_false (by omega)], by rw [Int.natAbs_natCast]; exact h6⟩)
      clear h6 hfull hm6 HM HR
      skip
      skip
      replace r_0 := r.cell (i := 0) rfl
      replace r_1 := r.cell (i := 1) rfl
      replace r_f0 := r.free 0
      replace r_f1 := r.free 1
      replace r_lt := r.lt
      replace m_0 := m.cell (i := 0) rfl
      replace m_1 := m.cell (i := 1) rfl
      go_wp2_with fail
      have r2 : Blk (((wr).setCell ⟨w.heap.size, 0, none⟩ (.bool false)).setCell ⟨w.heap.size, 1, none⟩ (.slice a6 n6 c6)) _ _ #[.bool false, .slice a6 n6 c6] := ((r).set 0 (.bool false)).set 1 (.slice a6 n6 c6)
      have hr0 := r2.cell (i := 0) rfl
      have hr1 := r2.cell (i := 1) rfl
      go_wp2_with fail
      exact bodyPost_ret (v := .agg #[.bool false, .slice a6 n6 c6]) (by simp [results, Tryz.results132, go_sem, hr0, hr1]) rfl HF.out
end Go.Proofs.YtbhenelehhiakaaGreat
