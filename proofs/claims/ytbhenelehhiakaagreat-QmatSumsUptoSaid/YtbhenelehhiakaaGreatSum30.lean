/-
  Fractions as they lie: simileref05.May, AllMay; simileref05.Same on raw data.
-/
import Derived.Test.YtbhenelehhiakaaGreatSum28
import Derived.Test.YtbhenelehhiakaaGreatSum29
import Derived.Test.YtbhenelehhiakaaGreatSum24
set_option linter.unusedVariables false
set_option linter.unusedSimpArgs false
namespace Go.Proofs.YtbhenelehhiakaaGreat
open Go.RowKit

/-- a fraction as it lies: two integers, not too long; the second may be 0 -/
def rFr (K : Nat) : Rd (Int × Int) where
  size := 4
  ok B w cs q := ∃ b a n c b2 a2 n2 c2, cs = [.bool b, .slice a n c, .bool b2, .slice a2 n2 c2] ∧ ∃ l l2, NatS B w a n c l ∧ NatS B w a2 n2 c2 l2 ∧ ival b l = q.1 ∧ ival b2 l2 = q.2 ∧ n ≤ K ∧ n2 ≤ K
  len h := by obtain ⟨b, a, n, c, b2, a2, n2, c2, h, _⟩ := h; rw [h]; rfl
  mono h hB hk := by
    obtain ⟨b, a, n, c, b2, a2, n2, c2, h, l, l2, h1, h2, h3⟩ := h
    exact ⟨b, a, n, c, b2, a2, n2, c2, h, l, l2, h1.mono hB hk, h2.mono hB hk, h3⟩
def frR (q : Int × Int) : Rat := ratv q.1 q.2
/-- fractions that may be are fractions -/
theorem Sl.fracs {K B : Nat} {w : World} {a : Option Addr} {n c : Nat} {qs : List (Int × Int)} (h : Sl (rFr K) B w a n c qs) (hm : ∀ q ∈ qs, q.2 ≠ 0) : Sl (rRatK K) B w a n c (qs.map frR) :=
  ⟨by rw [List.length_map]; exact h.len, h.cap, h.most, h.nil, fun i hi => by
    have hi' : i < qs.length := by simpa using hi
    obtain ⟨b, o, cs, ha, ⟨s, a1, n1, c1, s2, a2, n2, c2, rfl, l, l2, h1, h2, h3, h4, h5, h6⟩, hc⟩ := h.at_ i hi'
    refine ⟨b, o, _, ha, ⟨s, a1, n1, c1, s2, a2, n2, c2, rfl, l, l2, h1, h2, ?_, ?_, h5, h6⟩, hc⟩
    · rw [h4]; exact hm _ (List.getElem_mem _)
    · rw [h3, h4, List.getElem_map]; rfl⟩
set_option maxHeartbeats 2000000 in
theorem r5May_any (w : World) (b b2 : Bool) (a a2 : Option Addr) (n c n2 c2 : Nat) (l2 : Nt) (d : Int) (h2 : NatS 0 w a2 n2 c2 l2) (hd : Hid (ival b2 l2 = d)) (s : Bool) (hs : Hid (decide (d ≠ 0) = s)) :
    Calls Tryz.prog 46 #[.agg #[.bool b, .slice a n c, .bool b2, .slice a2 n2 c2]] w fun e w' => e = .returned (.bool s) ∧ Ext w w' := by
  have HV : Hid ((d.sign != 0) = s) := Lib.hid (by
    rw [← hs.out]
    by_cases h : d = 0
    · subst h; rfl
    · have h1 : d.sign ≠ 0 := by simpa using h
      rw [decide_eq_true h]
      simpa using h1)
  go_enter Tryz.func46, Tryz.ntmps46
  go_wp2_with fail
  have p0 := Blk.new w 75 #[.bool b, .slice a n c, .bool b2, .slice a2 n2 c2]
  have hEW : Ext w (w.alloc (Obj.cells #[.bool b, .slice a n c, .bool b2, .slice a2 n2 c2] 75)) := ((Below.refl _ w).alloc (by simp) _)
  generalize hgW : w.alloc (Obj.cells #[.bool b, .slice a n c, .bool b2, .slice a2 n2 c2] 75) = W at *
  clear hgW
  replace p0_0 := p0.cell (i := 0) rfl
  replace p0_1 := p0.cell (i := 1) rfl
  replace p0_2 := p0.cell (i := 2) rfl
  replace p0_3 := p0.cell (i := 3) rfl
  refine (r3Sign_z b2 0 W a2 n2 c2 l2 d (h2.ext (Nat.le_refl _) hEW) hd).mono ?_
  rintro e w1 ⟨rfl, hE1⟩
  have HE := Lib.hid (Ext.trans hEW hE1)
  clear h2 hEW hE1
  generalize d.sign = sg at *
  go_wp2_with fail
  go_ret
  exact ⟨by rw [← HV.out]; rfl, HE.out⟩

end Go.Proofs.YtbhenelehhiakaaGreat
/-
  rat: Make, Norm.
-/
namespace Go.Proofs.YtbhenelehhiakaaGreat
open Go.RowKit

/-- an answer of package rat: a fraction in lowest terms -/
def RRatOk (w : World) (q : Rat) (e : Ending) (w' : World) : Prop := ∃ a n c a2 n2 c2, e = .returned (.tuple #[.agg #[.bool (decide (q.num < 0)), .slice a n c, .bool false, .slice a2 n2 c2], .int .i64 0]) ∧ NatS w.heap.size w' a n c (limbs q.num.natAbs) ∧ NatS w.heap.size w' a2 n2 c2 (limbs q.den) ∧ Ext w w'
def RRatErr (w : World) (s : Int) (e : Ending) (w' : World) : Prop := e = .returned (.tuple #[.agg #[.bool false, .slice none 0 0, .bool false, .slice none 0 0], .int .i64 s]) ∧ Ext w w'

/-- the greatest divisor with the second's sign -/
def gsgn (z d : Int) : Int := if d < 0 then -((Int.gcd z d : Nat) : Int) else ((Int.gcd z d : Nat) : Int)
theorem gsgn_facts (z d : Int) (hd : d ≠ 0) : gsgn z d ≠ 0 ∧ gsgn z d ∣ z ∧ gsgn z d ∣ d ∧ z / gsgn z d = (ratv z d).num ∧ d / gsgn z d = ((ratv z d).den : Int) := by
  have hg : ((Int.gcd z d : Nat) : Int) ≠ 0 := fun e => hd (Int.gcd_eq_zero_iff.1 (show Int.gcd z d = 0 by omega)).2
  have h1 : ((Int.gcd z d : Nat) : Int) ∣ z := Int.gcd_dvd_left ..
  have h2 : ((Int.gcd z d : Nat) : Int) ∣ d := Int.gcd_dvd_right ..
  unfold gsgn
  by_cases h : d < 0
  · rw [if_pos h]
    refine ⟨by omega, Int.neg_dvd.2 h1, Int.neg_dvd.2 h2, ?_, ?_⟩
    · rw [← ratv_neg, ratv_num (by omega), Int.gcd_neg, Int.neg_gcd, Int.ediv_neg, Int.neg_ediv_of_dvd h1]
    · rw [← ratv_neg, ratv_den (by omega), Int.gcd_neg, Int.neg_gcd, Int.ediv_neg, Int.neg_ediv_of_dvd h2]
  · rw [if_neg h]
    exact ⟨hg, h1, h2, (ratv_num (by omega)).symm, (ratv_den (by omega)).symm⟩

set_option maxHeartbeats 4000000 in
theorem ratMake_err (b b2 : Bool) (w : World) (a a2 : Option Addr) (n c n2 c2 : Nat) (l2 : Nt) (h2 : NatS 0 w a2 n2 c2 l2) (hn2 : n2 ≤ 17592186044416) (hz2 : Hid (ival b2 l2 = 0)) :
    Calls Tryz.prog 80 #[.agg #[.bool b, .slice a n c], .agg #[.bool b2, .slice a2 n2 c2]] w (RRatErr w 6) := by
  go_enter Tryz.func80, Tryz.ntmps80
  go_wp2_with fail
  have p0 := Blk.new w 25 #[.bool b, .slice a n c]
  have p1 := Blk.new (w.alloc (Obj.cells #[.bool b, .slice a n c] 25)) 25 #[.bool b2, .slice a2 n2 c2]
  replace p0 := p0.ext ((Below.refl _ _).alloc (Nat.le_refl _) (Obj.cells #[.bool b2, .slice a2 n2 c2] 25))
  have r0 := Blk.new ((w.alloc (Obj.cells #[.bool b, .slice a n c] 25)).alloc (Obj.cells #[.bool b2, .slice a2 n2 c2] 25)) 75 #[.bool false, .slice none 0 0, .bool false, .slice none 0 0]
  replace p0 := p0.ext ((Below.refl _ _).alloc (Nat.le_refl _) (Obj.cells #[.bool false, .slice none 0 0, .bool false, .slice none 0 0] 75))
  replace p1 := p1.ext ((Below.refl _ _).alloc (Nat.le_refl _) (Obj.cells #[.bool false, .slice none 0 0, .bool false, .slice none 0 0] 75))
  have hEW : Ext w (((w.alloc (Obj.cells #[.bool b, .slice a n c] 25)).alloc (Obj.cells #[.bool b2, .slice a2 n2 c2] 25)).alloc (Obj.cells #[.bool false, .slice none 0 0, .bool false, .slice none 0 0] 75)) := ((((Below.refl _ w).alloc (by simp) _).alloc (by simp) _).alloc (by simp; omega) _)
  generalize hgW : ((w.alloc (Obj.cells #[.bool b, .slice a n c] 25)).alloc (Obj.cells #[.bool b2, .slice a2 n2 c2] 25)).alloc (Obj.cells #[.bool false, .slice none 0 0, .bool false, .slice none 0 0] 75) = W at *
  clear hgW
  simp only [World.size_alloc] at p1 r0
  have p0_ne_p1 : ¬ w.heap.size = w.heap.size + 1 := by omega
  have p0_ne_r0 : ¬ w.heap.size = w.heap.size + 1 + 1 := by omega
  have p1_ne_p0 : ¬ w.heap.size + 1 = w.heap.size := by omega
  have p1_ne_r0 : ¬ w.heap.size + 1 = w.heap.size + 1 + 1 := by omega
  have r0_ne_p0 : ¬ w.heap.size + 1 + 1 = w.heap.size := by omega
  have r0_ne_p1 : ¬ w.heap.size + 1 + 1 = w.heap.size + 1 := by omega
  replace p0_0 := p0.cell (i := 0) rfl
  replace p0_1 := p0.cell (i := 1) rfl
  replace p1_0 := p1.cell (i := 0) rfl
  replace p1_1 := p1.cell (i := 1) rfl
  replace r0_0 := r0.cell (i := 0) rfl
  replace r0_1 := r0.cell (i := 1) rfl
  replace r0_2 := r0.cell (i := 2) rfl
  replace r0_3 := r0.cell (i := 3) rfl
  replace r0_f0 := r0.free 0
  replace r0_f1 := r0.free 1
  replace r0_f2 := r0.free 2
  replace r0_f3 := r0.free 3
  replace r0_lt := r0.lt
  refine (zintSign_z b2 0 W a2 n2 c2 l2 0 (h2.ext (Nat.le_refl _) hEW) hn2 hz2).mono ?_
  rintro e w1 ⟨rfl, hE1⟩
  rw [Int.sign_zero]
  replace r0 := r0.ext hE1; replace r0_0 := r0.cell (i := 0) rfl; replace r0_1 := r0.cell (i := 1) rfl; replace r0_2 := r0.cell (i := 2) rfl; replace r0_3 := r0.cell (i := 3) rfl; replace r0_f0 := r0.free 0; replace r0_f1 := r0.free 1; replace r0_f2 := r0.free 2; replace r0_f3 := r0.free 3; replace r0_lt := r0.lt
  have HF : Hid (RRatErr w 6 (.returned (.tuple #[.agg #[.bool false, .slice none 0 0, .bool false, .slice none 0 0], .int .i64 6])) ((((w1.setCell ⟨w.heap.size + 1 + 1, 0, none⟩ (.bool false)).setCell ⟨w.heap.size + 1 + 1, 1, none⟩ (.slice none 0 0)).setCell ⟨w.heap.size + 1 + 1, 2, none⟩ (.bool false)).setCell ⟨w.heap.size + 1 + 1, 3, none⟩ (.slice none 0 0))) := Lib.hid ⟨rfl, ext_set4 (Ext.trans hEW hE1) _ _ _ _ (by omega)⟩
  have r2 := (((r0.set 0 (.bool false)).set 1 (.slice none 0 0)).set 2 (.bool false)).set 3 (.slice none 0 0)
  have hr0 := r2.cell (i := 0) rfl
  have hr1 := r2.cell (i := 1) rfl
  have hr2 := r2.cell (i := 2) rfl
  have hr3 := r2.cell (i := 3) rfl
  clear hEW hE1 h2
  go_wp2_with fail
  exact bodyPost_ret (v := .tuple #[.agg #[.bool false, .slice none 0 0, .bool false, .slice none 0 0], .int .i64 6]) (by simp [results, Tryz.results80, go_sem, hr0, hr1, hr2, hr3]) rfl HF.out

set_option maxRecDepth 100000 in
set_option maxHeartbeats 8000000 in
theorem ratMake_neg (b b2 : Bool) (w : World) (a a2 : Option Addr) (n c n2 c2 : Nat) (l l2 : Nt) (z d : Int) (q : Rat) (h : NatS 0 w a n c l) (h2 : NatS 0 w a2 n2 c2 l2) (hn : n ≤ 8796093022208) (hn2 : n2 ≤ 8796093022208) (hz : Hid (ival b l = z)) (hz2 : Hid (ival b2 l2 = d)) (hd : d < 0) (hq : Hid (ratv z d = q)) :
    Calls Tryz.prog 80 #[.agg #[.bool b, .slice a n c], .agg #[.bool b2, .slice a2 n2 c2]] w (RRatOk w q) := by
  have hd0 : d ≠ 0 := by omega
  obtain ⟨hG0, hGz, hGd, hzq, hdq⟩ := gsgn_facts z d hd0
  rw [hq.out] at hzq hdq
  have hGe : gsgn z d = -((Int.gcd z d : Nat) : Int) := by unfold gsgn; rw [if_pos hd]
  obtain ⟨G, hGG⟩ : ∃ G, gsgn z d = G := ⟨_, rfl⟩
  rw [hGG] at hG0 hGz hGd hzq hdq hGe
  obtain ⟨gg, hgg⟩ : ∃ g, Int.gcd z d = g := ⟨_, rfl⟩
  rw [hgg] at hGe
  have HGG := Lib.hid hgg
  have HGE := Lib.hid hGe
  have hnz : nl z.natAbs ≤ n := nl_of h hz
  have hnd : nl d.natAbs ≤ n2 := nl_of h2 hz2
  have hggn : nl gg ≤ 8796093022208 := by
    have h1 : gg ≤ d.natAbs := by rw [← hgg]; exact Nat.le_of_dvd (Int.natAbs_pos.2 hd0) (Int.gcd_dvd_natAbs_right z d)
    exact Nat.le_trans (nl_mono h1) (by omega)
  have hs0 : (d.sign == 0) = false := by simpa using hd0
  have hs1 : decide (d.sign < 0) = true := by rw [Int.sign_eq_neg_one_of_neg hd]; rfl
  have HZQ := Lib.hid hzq
  have HDQ := Lib.hid hdq
  have HGZ := Lib.hid hGz
  have HGD := Lib.hid hGd
  clear hGG hgg hGe hzq hdq hGz hGd hd
  go_enter Tryz.func80, Tryz.ntmps80
  go_wp2_with fail
  have p0 := Blk.new w 25 #[.bool b, .slice a n c]
  have p1 := Blk.new (w.alloc (Obj.cells #[.bool b, .slice a n c] 25)) 25 #[.bool b2, .slice a2 n2 c2]
  replace p0 := p0.ext ((Below.refl _ _).alloc (Nat.le_refl _) (Obj.cells #[.bool b2, .slice a2 n2 c2] 25))
  have r0 := Blk.new ((w.alloc (Obj.cells #[.bool b, .slice a n c] 25)).alloc (Obj.cells #[.bool b2, .slice a2 n2 c2] 25)) 75 #[.bool false, .slice none 0 0, .bool false, .slice none 0 0]
  replace p0 := p0.ext ((Below.refl _ _).alloc (Nat.le_refl _) (Obj.cells #[.bool false, .slice none 0 0, .bool false, .slice none 0 0] 75))
  replace p1 := p1.ext ((Below.refl _ _).alloc (Nat.le_refl _) (Obj.cells #[.bool false, .slice none 0 0, .bool false, .slice none 0 0] 75))
  have hEW : Ext w (((w.alloc (Obj.cells #[.bool b, .slice a n c] 25)).alloc (Obj.cells #[.bool b2, .slice a2 n2 c2] 25)).alloc (Obj.cells #[.bool false, .slice none 0 0, .bool false, .slice none 0 0] 75)) := ((((Below.refl _ w).alloc (by simp) _).alloc (by simp) _).alloc (by simp; omega) _)
  generalize hgW : ((w.alloc (Obj.cells #[.bool b, .slice a n c] 25)).alloc (Obj.cells #[.bool b2, .slice a2 n2 c2] 25)).alloc (Obj.cells #[.bool false, .slice none 0 0, .bool false, .slice none 0 0] 75) = W at *
  clear hgW
  simp only [World.size_alloc] at p1 r0
  have p0_ne_p1 : ¬ w.heap.size = w.heap.size + 1 := by omega
  have p0_ne_r0 : ¬ w.heap.size = w.heap.size + 1 + 1 := by omega
  have p1_ne_p0 : ¬ w.heap.size + 1 = w.heap.size := by omega
  have p1_ne_r0 : ¬ w.heap.size + 1 = w.heap.size + 1 + 1 := by omega
  have r0_ne_p0 : ¬ w.heap.size + 1 + 1 = w.heap.size := by omega
  have r0_ne_p1 : ¬ w.heap.size + 1 + 1 = w.heap.size + 1 := by omega
  replace p0_0 := p0.cell (i := 0) rfl
  replace p0_1 := p0.cell (i := 1) rfl
  replace p0_f0 := p0.free 0
  replace p0_f1 := p0.free 1
  replace p0_lt := p0.lt
  replace p1_0 := p1.cell (i := 0) rfl
  replace p1_1 := p1.cell (i := 1) rfl
  replace p1_f0 := p1.free 0
  replace p1_f1 := p1.free 1
  replace p1_lt := p1.lt
  replace r0_0 := r0.cell (i := 0) rfl
  replace r0_1 := r0.cell (i := 1) rfl
  replace r0_2 := r0.cell (i := 2) rfl
  replace r0_3 := r0.cell (i := 3) rfl
  replace r0_f0 := r0.free 0
  replace r0_f1 := r0.free 1
  replace r0_f2 := r0.free 2
  replace r0_f3 := r0.free 3
  replace r0_lt := r0.lt
  have hWs : w.heap.size + 1 + 1 < W.heap.size := r0_lt
  refine (zintSign_z b2 0 W a2 n2 c2 l2 d (h2.ext (Nat.le_refl _) hEW) (by omega) hz2).mono ?_
  rintro e w1 ⟨rfl, hE1⟩
  replace p0 := p0.ext hE1; replace p0_0 := p0.cell (i := 0) rfl; replace p0_1 := p0.cell (i := 1) rfl; replace p0_f0 := p0.free 0; replace p0_f1 := p0.free 1; replace p0_lt := p0.lt; replace p1 := p1.ext hE1; replace p1_0 := p1.cell (i := 0) rfl; replace p1_1 := p1.cell (i := 1) rfl; replace p1_f0 := p1.free 0; replace p1_f1 := p1.free 1; replace p1_lt := p1.lt; replace r0 := r0.ext hE1; replace r0_0 := r0.cell (i := 0) rfl; replace r0_1 := r0.cell (i := 1) rfl; replace r0_2 := r0.cell (i := 2) rfl; replace r0_3 := r0.cell (i := 3) rfl; replace r0_f0 := r0.free 0; replace r0_f1 := r0.free 1; replace r0_f2 := r0.free 2; replace r0_f3 := r0.free 3; replace r0_lt := r0.lt
  have hE0 := Ext.trans hEW hE1
  have hsz1 := hE1.size
  clear hEW hE1
  obtain ⟨sg, hsg⟩ : ∃ s, d.sign = s := ⟨_, rfl⟩
  rw [hsg] at hs0 hs1 ⊢
  have HSGN := Lib.hid hsg
  clear hsg
  go_wp2_with fail
  have y := Blk.new w1 25 #[.bool b, .slice a n c, .bool b2, .slice a2 n2 c2]
  have hEW2 : Ext w1 (w1.alloc (Obj.cells #[.bool b, .slice a n c, .bool b2, .slice a2 n2 c2] 25)) := ((Below.refl _ w1).alloc (by simp) _)
  generalize hgW2 : w1.alloc (Obj.cells #[.bool b, .slice a n c, .bool b2, .slice a2 n2 c2] 25) = W2 at *
  clear hgW2
  replace y_0 := y.cell (i := 0) rfl
  replace y_1 := y.cell (i := 1) rfl
  replace y_2 := y.cell (i := 2) rfl
  replace y_3 := y.cell (i := 3) rfl
  replace p0 := p0.ext hEW2; replace p0_0 := p0.cell (i := 0) rfl; replace p0_1 := p0.cell (i := 1) rfl; replace p0_f0 := p0.free 0; replace p0_f1 := p0.free 1; replace p0_lt := p0.lt; replace p1 := p1.ext hEW2; replace p1_0 := p1.cell (i := 0) rfl; replace p1_1 := p1.cell (i := 1) rfl; replace p1_f0 := p1.free 0; replace p1_f1 := p1.free 1; replace p1_lt := p1.lt; replace r0 := r0.ext hEW2; replace r0_0 := r0.cell (i := 0) rfl; replace r0_1 := r0.cell (i := 1) rfl; replace r0_2 := r0.cell (i := 2) rfl; replace r0_3 := r0.cell (i := 3) rfl; replace r0_f0 := r0.free 0; replace r0_f1 := r0.free 1; replace r0_f2 := r0.free 2; replace r0_f3 := r0.free 3; replace r0_lt := r0.lt
  replace hE0 := Ext.trans hE0 hEW2
  have hsz2 := hEW2.size
  refine (zintGcd_any 0 W2 _ 2 2 (b, l) (b2, l2) (ints2 y (Nat.zero_le _) (h.ext (Nat.le_refl _) hE0) (h2.ext (Nat.le_refl _) hE0)) (by rw [h.len]; exact hn) (by rw [h2.len]; exact hn2) z d hz hz2).mono ?_
  rintro e w3 ⟨a3, n3, c3, rfl, h3, hE3⟩
  rw [HGG.out] at h3 ⊢
  rw [show decide (((gg : Nat) : Int) < 0) = false by simp]
  rw [Int.natAbs_natCast] at h3
  replace p0 := p0.ext hE3; replace p0_0 := p0.cell (i := 0) rfl; replace p0_1 := p0.cell (i := 1) rfl; replace p0_f0 := p0.free 0; replace p0_f1 := p0.free 1; replace p0_lt := p0.lt; replace p1 := p1.ext hE3; replace p1_0 := p1.cell (i := 0) rfl; replace p1_1 := p1.cell (i := 1) rfl; replace p1_f0 := p1.free 0; replace p1_f1 := p1.free 1; replace p1_lt := p1.lt; replace r0 := r0.ext hE3; replace r0_0 := r0.cell (i := 0) rfl; replace r0_1 := r0.cell (i := 1) rfl; replace r0_2 := r0.cell (i := 2) rfl; replace r0_3 := r0.cell (i := 3) rfl; replace r0_f0 := r0.free 0; replace r0_f1 := r0.free 1; replace r0_f2 := r0.free 2; replace r0_f3 := r0.free 3; replace r0_lt := r0.lt
  replace hE0 := Ext.trans hE0 hE3
  have hsz3 := hE3.size
  clear hEW2 hE3 y y_0 y_1 y_2 y_3
  go_wp2_with fail
  have g := Blk.new w3 25 #[.bool false, .slice a3 n3 c3]
  have hEW4 : Ext w3 (w3.alloc (Obj.cells #[.bool false, .slice a3 n3 c3] 25)) := ((Below.refl _ w3).alloc (by simp) _)
  generalize hgW4 : w3.alloc (Obj.cells #[.bool false, .slice a3 n3 c3] 25) = W4 at *
  clear hgW4
  replace g_0 := g.cell (i := 0) rfl
  replace g_1 := g.cell (i := 1) rfl
  replace g_f0 := g.free 0
  replace g_f1 := g.free 1
  replace g_lt := g.lt
  replace p0 := p0.ext hEW4; replace p0_0 := p0.cell (i := 0) rfl; replace p0_1 := p0.cell (i := 1) rfl; replace p0_f0 := p0.free 0; replace p0_f1 := p0.free 1; replace p0_lt := p0.lt; replace p1 := p1.ext hEW4; replace p1_0 := p1.cell (i := 0) rfl; replace p1_1 := p1.cell (i := 1) rfl; replace p1_f0 := p1.free 0; replace p1_f1 := p1.free 1; replace p1_lt := p1.lt; replace r0 := r0.ext hEW4; replace r0_0 := r0.cell (i := 0) rfl; replace r0_1 := r0.cell (i := 1) rfl; replace r0_2 := r0.cell (i := 2) rfl; replace r0_3 := r0.cell (i := 3) rfl; replace r0_f0 := r0.free 0; replace r0_f1 := r0.free 1; replace r0_f2 := r0.free 2; replace r0_f3 := r0.free 3; replace r0_lt := r0.lt
  replace hE0 := Ext.trans hE0 hEW4
  have hsz4 := hEW4.size
  have h3 := h3.ext (Nat.zero_le _) hEW4
  have hn3 : n3 ≤ 8796093022208 := by have := h3.len; rw [length_limbs] at this; omega
  refine (zintSign_z b2 0 W4 a2 n2 c2 l2 d (h2.ext (Nat.le_refl _) hE0) (by omega) hz2).mono ?_
  rintro e w5 ⟨rfl, hE5⟩
  replace p0 := p0.ext hE5; replace p0_0 := p0.cell (i := 0) rfl; replace p0_1 := p0.cell (i := 1) rfl; replace p0_f0 := p0.free 0; replace p0_f1 := p0.free 1; replace p0_lt := p0.lt; replace p1 := p1.ext hE5; replace p1_0 := p1.cell (i := 0) rfl; replace p1_1 := p1.cell (i := 1) rfl; replace p1_f0 := p1.free 0; replace p1_f1 := p1.free 1; replace p1_lt := p1.lt; replace r0 := r0.ext hE5; replace r0_0 := r0.cell (i := 0) rfl; replace r0_1 := r0.cell (i := 1) rfl; replace r0_2 := r0.cell (i := 2) rfl; replace r0_3 := r0.cell (i := 3) rfl; replace r0_f0 := r0.free 0; replace r0_f1 := r0.free 1; replace r0_f2 := r0.free 2; replace r0_f3 := r0.free 3; replace r0_lt := r0.lt; replace g := g.ext hE5; replace g_0 := g.cell (i := 0) rfl; replace g_1 := g.cell (i := 1) rfl; replace g_f0 := g.free 0; replace g_f1 := g.free 1; replace g_lt := g.lt
  replace hE0 := Ext.trans hE0 hE5
  have hsz5 := hE5.size
  have h3 := h3.ext (Nat.zero_le _) hE5
  clear hEW4 hE5
  rw [HSGN.out]
  go_wp2_with fail
  refine (zintNeg_z false 0 w5 a3 n3 c3 (limbs gg) (gg : Int) h3 (by omega) (Lib.hid (by rw [ival_limbs]; simp))).mono ?_
  rintro e w6 ⟨aG, nG, cG, rfl, h6, hE6⟩
  rw [← HGE.out] at h6 ⊢
  replace p0 := p0.ext hE6; replace p0_0 := p0.cell (i := 0) rfl; replace p0_1 := p0.cell (i := 1) rfl; replace p0_f0 := p0.free 0; replace p0_f1 := p0.free 1; replace p0_lt := p0.lt; replace p1 := p1.ext hE6; replace p1_0 := p1.cell (i := 0) rfl; replace p1_1 := p1.cell (i := 1) rfl; replace p1_f0 := p1.free 0; replace p1_f1 := p1.free 1; replace p1_lt := p1.lt; replace r0 := r0.ext hE6; replace r0_0 := r0.cell (i := 0) rfl; replace r0_1 := r0.cell (i := 1) rfl; replace r0_2 := r0.cell (i := 2) rfl; replace r0_3 := r0.cell (i := 3) rfl; replace r0_f0 := r0.free 0; replace r0_f1 := r0.free 1; replace r0_f2 := r0.free 2; replace r0_f3 := r0.free 3; replace r0_lt := r0.lt; replace g := g.ext hE6; replace g_0 := g.cell (i := 0) rfl; replace g_1 := g.cell (i := 1) rfl; replace g_f0 := g.free 0; replace g_f1 := g.free 1; replace g_lt := g.lt
  replace hE0 := Ext.trans hE0 hE6
  have hsz6 := hE6.size
  have h9 : G.natAbs = gg := by rw [HGE.out, Int.natAbs_neg, Int.natAbs_natCast]
  have hnG : nG ≤ 8796093022208 := by have := h6.len; rw [length_limbs, h9] at this; omega
  clear h9
  clear hE6 h3
  generalize hsG : decide (G < 0) = sG at *
  have HSG : Hid (ival sG (limbs G.natAbs) = G) := Lib.hid (by rw [← hsG]; exact ival_norm _)
  clear hsG
  go_wp2_with fail
  have hGN := NatS.set (NatS.set h6 g_0 (fun x => by simp) (.bool sG)) ((g.set 0 (.bool sG)).cell (i := 1) rfl) (fun x => by simp) (.slice aG nG cG)
  replace g := g.set 0 (.bool sG)
  replace p0 := p0.set_ne 0 (.bool sG) (show w.heap.size ≠ w3.heap.size by omega)
  replace p1 := p1.set_ne 0 (.bool sG) (show w.heap.size + 1 ≠ w3.heap.size by omega)
  replace r0 := r0.set_ne 0 (.bool sG) (show w.heap.size + 1 + 1 ≠ w3.heap.size by omega)
  replace g := g.set 1 (.slice aG nG cG)
  replace p0 := p0.set_ne 1 (.slice aG nG cG) (show w.heap.size ≠ w3.heap.size by omega)
  replace p1 := p1.set_ne 1 (.slice aG nG cG) (show w.heap.size + 1 ≠ w3.heap.size by omega)
  replace r0 := r0.set_ne 1 (.slice aG nG cG) (show w.heap.size + 1 + 1 ≠ w3.heap.size by omega)
  have hKV : ∀ bB_ : Nat, w3.heap.size < bB_ → Kept bB_ w6 (((w6).setCell ⟨w3.heap.size, 0, none⟩ (.bool sG)).setCell ⟨w3.heap.size, 1, none⟩ (.slice aG nG cG)) := fun bB_ h0 => (Kept.trans (kept_set _ _ _ h0) (kept_set _ _ _ h0))
  have hzV : w6.heap.size ≤ (((w6).setCell ⟨w3.heap.size, 0, none⟩ (.bool sG)).setCell ⟨w3.heap.size, 1, none⟩ (.slice aG nG cG)).heap.size := by simp only [World.setCell, Array.size_modify]; exact Nat.le_refl _
  have hSV : ∀ (nB_ : Nat) (uB_ : World), nB_ ≤ w3.heap.size → Below nB_ uB_ w6 → Below nB_ uB_ (((w6).setCell ⟨w3.heap.size, 0, none⟩ (.bool sG)).setCell ⟨w3.heap.size, 1, none⟩ (.slice aG nG cG)) := fun nB_ uB_ h0 hb => (Below.setCell (Below.setCell hb (p := ⟨w3.heap.size, 0, none⟩) h0 (.bool sG)) (p := ⟨w3.heap.size, 1, none⟩) h0 (.slice aG nG cG))
  replace g : Blk (((w6).setCell ⟨w3.heap.size, 0, none⟩ (.bool sG)).setCell ⟨w3.heap.size, 1, none⟩ (.slice aG nG cG)) (w3.heap.size) 25 #[.bool sG, .slice aG nG cG] := g
  generalize hgV : ((w6).setCell ⟨w3.heap.size, 0, none⟩ (.bool sG)).setCell ⟨w3.heap.size, 1, none⟩ (.slice aG nG cG) = V at *
  clear hgV
  replace g_0 := g.cell (i := 0) rfl
  replace g_1 := g.cell (i := 1) rfl
  replace g_f0 := g.free 0
  replace g_f1 := g.free 1
  replace g_lt := g.lt
  replace p0_0 := p0.cell (i := 0) rfl
  replace p0_1 := p0.cell (i := 1) rfl
  replace p0_f0 := p0.free 0
  replace p0_f1 := p0.free 1
  replace p0_lt := p0.lt
  replace p1_0 := p1.cell (i := 0) rfl
  replace p1_1 := p1.cell (i := 1) rfl
  replace p1_f0 := p1.free 0
  replace p1_f1 := p1.free 1
  replace p1_lt := p1.lt
  replace r0_0 := r0.cell (i := 0) rfl
  replace r0_1 := r0.cell (i := 1) rfl
  replace r0_2 := r0.cell (i := 2) rfl
  replace r0_3 := r0.cell (i := 3) rfl
  replace r0_f0 := r0.free 0
  replace r0_f1 := r0.free 1
  replace r0_f2 := r0.free 2
  replace r0_f3 := r0.free 3
  replace r0_lt := r0.lt
  have hr9 : w.heap.size + 1 + 1 < V.heap.size := r0_lt
  have hEV : Ext w V := hSV _ _ (by omega) hE0
  have hG : NatS 0 V aG nG cG (limbs G.natAbs) := hGN.mono (Nat.zero_le _) (Kept.refl _ _)
  have hh := h.ext (Nat.le_refl _) hEV
  have hh2 := h2.ext (Nat.le_refl _) hEV
  clear h6 hE0
  refine (zintExact_z b sG 0 V a aG n c nG cG l _ z G hh hG hn hz HSG hG0 HGZ.out).mono ?_
  rintro e w8 ⟨v8, rfl, ⟨a8, n8, c8, rfl, h8⟩, hE8⟩
  rw [HZQ.out] at h8 ⊢
  replace p0 := p0.ext hE8; replace p0_0 := p0.cell (i := 0) rfl; replace p0_1 := p0.cell (i := 1) rfl; replace p0_f0 := p0.free 0; replace p0_f1 := p0.free 1; replace p0_lt := p0.lt; replace p1 := p1.ext hE8; replace p1_0 := p1.cell (i := 0) rfl; replace p1_1 := p1.cell (i := 1) rfl; replace p1_f0 := p1.free 0; replace p1_f1 := p1.free 1; replace p1_lt := p1.lt; replace r0 := r0.ext hE8; replace r0_0 := r0.cell (i := 0) rfl; replace r0_1 := r0.cell (i := 1) rfl; replace r0_2 := r0.cell (i := 2) rfl; replace r0_3 := r0.cell (i := 3) rfl; replace r0_f0 := r0.free 0; replace r0_f1 := r0.free 1; replace r0_f2 := r0.free 2; replace r0_f3 := r0.free 3; replace r0_lt := r0.lt; replace g := g.ext hE8; replace g_0 := g.cell (i := 0) rfl; replace g_1 := g.cell (i := 1) rfl; replace g_f0 := g.free 0; replace g_f1 := g.free 1; replace g_lt := g.lt
  have hEx := Ext.trans hEV hE8
  have hh2 := hh2.ext (Nat.le_refl _) hE8
  have hG := hG.ext (Nat.le_refl _) hE8
  have hszV := hEV.size
  have hsz8 := hE8.size
  clear hE8 hEV
  go_wp2_with fail
  have k := Blk.new w8 25 #[.bool (decide (q.num < 0)), .slice a8 n8 c8]
  have hEW9 : Ext w8 (w8.alloc (Obj.cells #[.bool (decide (q.num < 0)), .slice a8 n8 c8] 25)) := ((Below.refl _ w8).alloc (by simp) _)
  generalize hgW9 : w8.alloc (Obj.cells #[.bool (decide (q.num < 0)), .slice a8 n8 c8] 25) = W9 at *
  clear hgW9
  replace k_0 := k.cell (i := 0) rfl
  replace k_1 := k.cell (i := 1) rfl
  replace k_f0 := k.free 0
  replace k_f1 := k.free 1
  replace k_lt := k.lt
  replace p0 := p0.ext hEW9; replace p0_0 := p0.cell (i := 0) rfl; replace p0_1 := p0.cell (i := 1) rfl; replace p0_f0 := p0.free 0; replace p0_f1 := p0.free 1; replace p0_lt := p0.lt; replace p1 := p1.ext hEW9; replace p1_0 := p1.cell (i := 0) rfl; replace p1_1 := p1.cell (i := 1) rfl; replace p1_f0 := p1.free 0; replace p1_f1 := p1.free 1; replace p1_lt := p1.lt; replace r0 := r0.ext hEW9; replace r0_0 := r0.cell (i := 0) rfl; replace r0_1 := r0.cell (i := 1) rfl; replace r0_2 := r0.cell (i := 2) rfl; replace r0_3 := r0.cell (i := 3) rfl; replace r0_f0 := r0.free 0; replace r0_f1 := r0.free 1; replace r0_f2 := r0.free 2; replace r0_f3 := r0.free 3; replace r0_lt := r0.lt; replace g := g.ext hEW9; replace g_0 := g.cell (i := 0) rfl; replace g_1 := g.cell (i := 1) rfl; replace g_f0 := g.free 0; replace g_f1 := g.free 1; replace g_lt := g.lt
  refine (zintExact_z b2 sG 0 W9 a2 aG n2 c2 nG cG l2 _ d G (hh2.ext (Nat.le_refl _) hEW9) (hG.ext (Nat.le_refl _) hEW9) hn2 hz2 HSG hG0 HGD.out).mono ?_
  rintro e w10 ⟨v10, rfl, ⟨a10, n10, c10, rfl, h10⟩, hE10⟩
  rw [HDQ.out] at h10 ⊢
  rw [show decide (((q.den : Nat) : Int) < 0) = false by simp]
  rw [Int.natAbs_natCast] at h10
  replace r0 := r0.ext hE10; replace r0_0 := r0.cell (i := 0) rfl; replace r0_1 := r0.cell (i := 1) rfl; replace r0_2 := r0.cell (i := 2) rfl; replace r0_3 := r0.cell (i := 3) rfl; replace r0_f0 := r0.free 0; replace r0_f1 := r0.free 1; replace r0_f2 := r0.free 2; replace r0_f3 := r0.free 3; replace r0_lt := r0.lt; replace k := k.ext hE10; replace k_0 := k.cell (i := 0) rfl; replace k_1 := k.cell (i := 1) rfl; replace k_f0 := k.free 0; replace k_f1 := k.free 1; replace k_lt := k.lt
  have hszW9 := hEW9.size
  have hs10 := hE10.size
  have r4 := (((r0.set 0 (.bool (decide (q.num < 0)))).set 1 (.slice a8 n8 c8)).set 2 (.bool false)).set 3 (.slice a10 n10 c10)
  have h8f := (h8.ext (Nat.le_refl _) (Ext.trans hEW9 hE10)).mono (Nat.le_refl _) (kept_set4 w10 (.bool (decide (q.num < 0))) (.slice a8 n8 c8) (.bool false) (.slice a10 n10 c10) hr9)
  have h10f := (h10.mono (Nat.le_refl _) (kept_set4 w10 (.bool (decide (q.num < 0))) (.slice a8 n8 c8) (.bool false) (.slice a10 n10 c10) (show w.heap.size + 1 + 1 < W9.heap.size by omega)))
  have hE4 := ext_set4 (Ext.trans hEx (Ext.trans hEW9 hE10)) (.bool (decide (q.num < 0))) (.slice a8 n8 c8) (.bool false) (.slice a10 n10 c10) (show w.heap.size ≤ w.heap.size + 1 + 1 by omega)
  have hEa : Ext ((((w10.setCell ⟨w.heap.size + 1 + 1, 0, none⟩ (.bool (decide (q.num < 0)))).setCell ⟨w.heap.size + 1 + 1, 1, none⟩ (.slice a8 n8 c8)).setCell ⟨w.heap.size + 1 + 1, 2, none⟩ (.bool false)).setCell ⟨w.heap.size + 1 + 1, 3, none⟩ (.slice a10 n10 c10)) (((((w10.setCell ⟨w.heap.size + 1 + 1, 0, none⟩ (.bool (decide (q.num < 0)))).setCell ⟨w.heap.size + 1 + 1, 1, none⟩ (.slice a8 n8 c8)).setCell ⟨w.heap.size + 1 + 1, 2, none⟩ (.bool false)).setCell ⟨w.heap.size + 1 + 1, 3, none⟩ (.slice a10 n10 c10)).alloc (Obj.cells #[.bool false, .slice a10 n10 c10] 25)) := (Below.refl _ _).alloc (Nat.le_refl _) _
  have HF : Hid (RRatOk w q (.returned (.tuple #[.agg #[.bool (decide (q.num < 0)), .slice a8 n8 c8, .bool false, .slice a10 n10 c10], .int .i64 0])) (((((w10.setCell ⟨w.heap.size + 1 + 1, 0, none⟩ (.bool (decide (q.num < 0)))).setCell ⟨w.heap.size + 1 + 1, 1, none⟩ (.slice a8 n8 c8)).setCell ⟨w.heap.size + 1 + 1, 2, none⟩ (.bool false)).setCell ⟨w.heap.size + 1 + 1, 3, none⟩ (.slice a10 n10 c10)).alloc (Obj.cells #[.bool false, .slice a10 n10 c10] 25))) :=
    Lib.hid ⟨a8, n8, c8, a10, n10, c10, rfl, (h8f.mono (show w.heap.size ≤ V.heap.size by omega) (Kept.refl _ _)).ext (Nat.le_refl _) hEa, (h10f.mono (show w.heap.size ≤ W9.heap.size by omega) (Kept.refl _ _)).ext (Nat.le_refl _) hEa, Ext.trans hE4 hEa⟩
  have r2 := r4.ext hEa
  have hr0 := r2.cell (i := 0) rfl
  have hr1 := r2.cell (i := 1) rfl
  have hr2 := r2.cell (i := 2) rfl
  have hr3 := r2.cell (i := 3) rfl
  have hqa := cell_alloc k_0 (Obj.cells #[.bool false, .slice a10 n10 c10] 25)
  have hqb := cell_alloc k_1 (Obj.cells #[.bool false, .slice a10 n10 c10] 25)
  generalize decide (q.num < 0) = sq at *
  clear hEx hE4 hEa h8 h10 h8f h10f hE10 hEW9 r2 r4 hh hh2 hG h h2
  go_wp2_with fail
  exact bodyPost_ret (v := .tuple #[.agg #[.bool sq, .slice a8 n8 c8, .bool false, .slice a10 n10 c10], .int .i64 0]) (by simp [results, Tryz.results80, go_sem, hr0, hr1, hr2, hr3]) rfl HF.out

set_option maxRecDepth 100000 in
set_option maxHeartbeats 8000000 in
theorem ratMake_pos (b b2 : Bool) (w : World) (a a2 : Option Addr) (n c n2 c2 : Nat) (l l2 : Nt) (z d : Int) (q : Rat) (h : NatS 0 w a n c l) (h2 : NatS 0 w a2 n2 c2 l2) (hn : n ≤ 8796093022208) (hn2 : n2 ≤ 8796093022208) (hz : Hid (ival b l = z)) (hz2 : Hid (ival b2 l2 = d)) (hd : 0 < d) (hq : Hid (ratv z d = q)) :
    Calls Tryz.prog 80 #[.agg #[.bool b, .slice a n c], .agg #[.bool b2, .slice a2 n2 c2]] w (RRatOk w q) := by
  have hd0 : d ≠ 0 := by omega
  obtain ⟨hG0, hGz, hGd, hzq, hdq⟩ := gsgn_facts z d hd0
  rw [hq.out] at hzq hdq
  have hGe : gsgn z d = ((Int.gcd z d : Nat) : Int) := by unfold gsgn; rw [if_neg (by omega)]
  obtain ⟨G, hGG⟩ : ∃ G, gsgn z d = G := ⟨_, rfl⟩
  rw [hGG] at hG0 hGz hGd hzq hdq hGe
  obtain ⟨gg, hgg⟩ : ∃ g, Int.gcd z d = g := ⟨_, rfl⟩
  rw [hgg] at hGe
  have HGG := Lib.hid hgg
  have HGE := Lib.hid hGe
  have hnz : nl z.natAbs ≤ n := nl_of h hz
  have hnd : nl d.natAbs ≤ n2 := nl_of h2 hz2
  have hggn : nl gg ≤ 8796093022208 := by
    have h1 : gg ≤ d.natAbs := by rw [← hgg]; exact Nat.le_of_dvd (Int.natAbs_pos.2 hd0) (Int.gcd_dvd_natAbs_right z d)
    exact Nat.le_trans (nl_mono h1) (by omega)
  have hs0 : (d.sign == 0) = false := by simpa using hd0
  have hs1 : decide (d.sign < 0) = false := by rw [Int.sign_eq_one_of_pos hd]; rfl
  have HZQ := Lib.hid hzq
  have HDQ := Lib.hid hdq
  have HGZ := Lib.hid hGz
  have HGD := Lib.hid hGd
  clear hGG hgg hGe hzq hdq hGz hGd hd
  go_enter Tryz.func80, Tryz.ntmps80
  go_wp2_with fail
  have p0 := Blk.new w 25 #[.bool b, .slice a n c]
  have p1 := Blk.new (w.alloc (Obj.cells #[.bool b, .slice a n c] 25)) 25 #[.bool b2, .slice a2 n2 c2]
  replace p0 := p0.ext ((Below.refl _ _).alloc (Nat.le_refl _) (Obj.cells #[.bool b2, .slice a2 n2 c2] 25))
  have r0 := Blk.new ((w.alloc (Obj.cells #[.bool b, .slice a n c] 25)).alloc (Obj.cells #[.bool b2, .slice a2 n2 c2] 25)) 75 #[.bool false, .slice none 0 0, .bool false, .slice none 0 0]
  replace p0 := p0.ext ((Below.refl _ _).alloc (Nat.le_refl _) (Obj.cells #[.bool false, .slice none 0 0, .bool false, .slice none 0 0] 75))
  replace p1 := p1.ext ((Below.refl _ _).alloc (Nat.le_refl _) (Obj.cells #[.bool false, .slice none 0 0, .bool false, .slice none 0 0] 75))
  have hEW : Ext w (((w.alloc (Obj.cells #[.bool b, .slice a n c] 25)).alloc (Obj.cells #[.bool b2, .slice a2 n2 c2] 25)).alloc (Obj.cells #[.bool false, .slice none 0 0, .bool false, .slice none 0 0] 75)) := ((((Below.refl _ w).alloc (by simp) _).alloc (by simp) _).alloc (by simp; omega) _)
  generalize hgW : ((w.alloc (Obj.cells #[.bool b, .slice a n c] 25)).alloc (Obj.cells #[.bool b2, .slice a2 n2 c2] 25)).alloc (Obj.cells #[.bool false, .slice none 0 0, .bool false, .slice none 0 0] 75) = W at *
  clear hgW
  simp only [World.size_alloc] at p1 r0
  have p0_ne_p1 : ¬ w.heap.size = w.heap.size + 1 := by omega
  have p0_ne_r0 : ¬ w.heap.size = w.heap.size + 1 + 1 := by omega
  have p1_ne_p0 : ¬ w.heap.size + 1 = w.heap.size := by omega
  have p1_ne_r0 : ¬ w.heap.size + 1 = w.heap.size + 1 + 1 := by omega
  have r0_ne_p0 : ¬ w.heap.size + 1 + 1 = w.heap.size := by omega
  have r0_ne_p1 : ¬ w.heap.size + 1 + 1 = w.heap.size + 1 := by omega
  replace p0_0 := p0.cell (i := 0) rfl
  replace p0_1 := p0.cell (i := 1) rfl
  replace p0_f0 := p0.free 0
  replace p0_f1 := p0.free 1
  replace p0_lt := p0.lt
  replace p1_0 := p1.cell (i := 0) rfl
  replace p1_1 := p1.cell (i := 1) rfl
  replace p1_f0 := p1.free 0
  replace p1_f1 := p1.free 1
  replace p1_lt := p1.lt
  replace r0_0 := r0.cell (i := 0) rfl
  replace r0_1 := r0.cell (i := 1) rfl
  replace r0_2 := r0.cell (i := 2) rfl
  replace r0_3 := r0.cell (i := 3) rfl
  replace r0_f0 := r0.free 0
  replace r0_f1 := r0.free 1
  replace r0_f2 := r0.free 2
  replace r0_f3 := r0.free 3
  replace r0_lt := r0.lt
  have hWs : w.heap.size + 1 + 1 < W.heap.size := r0_lt
  refine (zintSign_z b2 0 W a2 n2 c2 l2 d (h2.ext (Nat.le_refl _) hEW) (by omega) hz2).mono ?_
  rintro e w1 ⟨rfl, hE1⟩
  replace p0 := p0.ext hE1; replace p0_0 := p0.cell (i := 0) rfl; replace p0_1 := p0.cell (i := 1) rfl; replace p0_f0 := p0.free 0; replace p0_f1 := p0.free 1; replace p0_lt := p0.lt; replace p1 := p1.ext hE1; replace p1_0 := p1.cell (i := 0) rfl; replace p1_1 := p1.cell (i := 1) rfl; replace p1_f0 := p1.free 0; replace p1_f1 := p1.free 1; replace p1_lt := p1.lt; replace r0 := r0.ext hE1; replace r0_0 := r0.cell (i := 0) rfl; replace r0_1 := r0.cell (i := 1) rfl; replace r0_2 := r0.cell (i := 2) rfl; replace r0_3 := r0.cell (i := 3) rfl; replace r0_f0 := r0.free 0; replace r0_f1 := r0.free 1; replace r0_f2 := r0.free 2; replace r0_f3 := r0.free 3; replace r0_lt := r0.lt
  have hE0 := Ext.trans hEW hE1
  have hsz1 := hE1.size
  clear hEW hE1
  obtain ⟨sg, hsg⟩ : ∃ s, d.sign = s := ⟨_, rfl⟩
  rw [hsg] at hs0 hs1 ⊢
  have HSGN := Lib.hid hsg
  clear hsg
  go_wp2_with fail
  have y := Blk.new w1 25 #[.bool b, .slice a n c, .bool b2, .slice a2 n2 c2]
  have hEW2 : Ext w1 (w1.alloc (Obj.cells #[.bool b, .slice a n c, .bool b2, .slice a2 n2 c2] 25)) := ((Below.refl _ w1).alloc (by simp) _)
  generalize hgW2 : w1.alloc (Obj.cells #[.bool b, .slice a n c, .bool b2, .slice a2 n2 c2] 25) = W2 at *
  clear hgW2
  replace y_0 := y.cell (i := 0) rfl
  replace y_1 := y.cell (i := 1) rfl
  replace y_2 := y.cell (i := 2) rfl
  replace y_3 := y.cell (i := 3) rfl
  replace p0 := p0.ext hEW2; replace p0_0 := p0.cell (i := 0) rfl; replace p0_1 := p0.cell (i := 1) rfl; replace p0_f0 := p0.free 0; replace p0_f1 := p0.free 1; replace p0_lt := p0.lt; replace p1 := p1.ext hEW2; replace p1_0 := p1.cell (i := 0) rfl; replace p1_1 := p1.cell (i := 1) rfl; replace p1_f0 := p1.free 0; replace p1_f1 := p1.free 1; replace p1_lt := p1.lt; replace r0 := r0.ext hEW2; replace r0_0 := r0.cell (i := 0) rfl; replace r0_1 := r0.cell (i := 1) rfl; replace r0_2 := r0.cell (i := 2) rfl; replace r0_3 := r0.cell (i := 3) rfl; replace r0_f0 := r0.free 0; replace r0_f1 := r0.free 1; replace r0_f2 := r0.free 2; replace r0_f3 := r0.free 3; replace r0_lt := r0.lt
  replace hE0 := Ext.trans hE0 hEW2
  have hsz2 := hEW2.size
  refine (zintGcd_any 0 W2 _ 2 2 (b, l) (b2, l2) (ints2 y (Nat.zero_le _) (h.ext (Nat.le_refl _) hE0) (h2.ext (Nat.le_refl _) hE0)) (by rw [h.len]; exact hn) (by rw [h2.len]; exact hn2) z d hz hz2).mono ?_
  rintro e w3 ⟨a3, n3, c3, rfl, h3, hE3⟩
  rw [HGG.out] at h3 ⊢
  rw [show decide (((gg : Nat) : Int) < 0) = false by simp]
  rw [Int.natAbs_natCast] at h3
  replace p0 := p0.ext hE3; replace p0_0 := p0.cell (i := 0) rfl; replace p0_1 := p0.cell (i := 1) rfl; replace p0_f0 := p0.free 0; replace p0_f1 := p0.free 1; replace p0_lt := p0.lt; replace p1 := p1.ext hE3; replace p1_0 := p1.cell (i := 0) rfl; replace p1_1 := p1.cell (i := 1) rfl; replace p1_f0 := p1.free 0; replace p1_f1 := p1.free 1; replace p1_lt := p1.lt; replace r0 := r0.ext hE3; replace r0_0 := r0.cell (i := 0) rfl; replace r0_1 := r0.cell (i := 1) rfl; replace r0_2 := r0.cell (i := 2) rfl; replace r0_3 := r0.cell (i := 3) rfl; replace r0_f0 := r0.free 0; replace r0_f1 := r0.free 1; replace r0_f2 := r0.free 2; replace r0_f3 := r0.free 3; replace r0_lt := r0.lt
  replace hE0 := Ext.trans hE0 hE3
  have hsz3 := hE3.size
  clear hEW2 hE3 y y_0 y_1 y_2 y_3
  go_wp2_with fail
  have g := Blk.new w3 25 #[.bool false, .slice a3 n3 c3]
  have hEW4 : Ext w3 (w3.alloc (Obj.cells #[.bool false, .slice a3 n3 c3] 25)) := ((Below.refl _ w3).alloc (by simp) _)
  generalize hgW4 : w3.alloc (Obj.cells #[.bool false, .slice a3 n3 c3] 25) = W4 at *
  clear hgW4
  replace g_0 := g.cell (i := 0) rfl
  replace g_1 := g.cell (i := 1) rfl
  replace g_f0 := g.free 0
  replace g_f1 := g.free 1
  replace g_lt := g.lt
  replace p0 := p0.ext hEW4; replace p0_0 := p0.cell (i := 0) rfl; replace p0_1 := p0.cell (i := 1) rfl; replace p0_f0 := p0.free 0; replace p0_f1 := p0.free 1; replace p0_lt := p0.lt; replace p1 := p1.ext hEW4; replace p1_0 := p1.cell (i := 0) rfl; replace p1_1 := p1.cell (i := 1) rfl; replace p1_f0 := p1.free 0; replace p1_f1 := p1.free 1; replace p1_lt := p1.lt; replace r0 := r0.ext hEW4; replace r0_0 := r0.cell (i := 0) rfl; replace r0_1 := r0.cell (i := 1) rfl; replace r0_2 := r0.cell (i := 2) rfl; replace r0_3 := r0.cell (i := 3) rfl; replace r0_f0 := r0.free 0; replace r0_f1 := r0.free 1; replace r0_f2 := r0.free 2; replace r0_f3 := r0.free 3; replace r0_lt := r0.lt
  replace hE0 := Ext.trans hE0 hEW4
  have hsz4 := hEW4.size
  have h3 := h3.ext (Nat.zero_le _) hEW4
  have hn3 : n3 ≤ 8796093022208 := by have := h3.len; rw [length_limbs] at this; omega
  refine (zintSign_z b2 0 W4 a2 n2 c2 l2 d (h2.ext (Nat.le_refl _) hE0) (by omega) hz2).mono ?_
  rintro e w5 ⟨rfl, hE5⟩
  replace p0 := p0.ext hE5; replace p0_0 := p0.cell (i := 0) rfl; replace p0_1 := p0.cell (i := 1) rfl; replace p0_f0 := p0.free 0; replace p0_f1 := p0.free 1; replace p0_lt := p0.lt; replace p1 := p1.ext hE5; replace p1_0 := p1.cell (i := 0) rfl; replace p1_1 := p1.cell (i := 1) rfl; replace p1_f0 := p1.free 0; replace p1_f1 := p1.free 1; replace p1_lt := p1.lt; replace r0 := r0.ext hE5; replace r0_0 := r0.cell (i := 0) rfl; replace r0_1 := r0.cell (i := 1) rfl; replace r0_2 := r0.cell (i := 2) rfl; replace r0_3 := r0.cell (i := 3) rfl; replace r0_f0 := r0.free 0; replace r0_f1 := r0.free 1; replace r0_f2 := r0.free 2; replace r0_f3 := r0.free 3; replace r0_lt := r0.lt; replace g := g.ext hE5; replace g_0 := g.cell (i := 0) rfl; replace g_1 := g.cell (i := 1) rfl; replace g_f0 := g.free 0; replace g_f1 := g.free 1; replace g_lt := g.lt
  replace hE0 := Ext.trans hE0 hE5
  have hsz5 := hE5.size
  have h3 := h3.ext (Nat.zero_le _) hE5
  clear hEW4 hE5
  rw [HSGN.out]
  have hG : NatS 0 w5 a3 n3 c3 (limbs G.natAbs) := by rw [HGE.out, Int.natAbs_natCast]; exact h3
  have HSG : Hid (ival false (limbs G.natAbs) = G) := Lib.hid (by rw [ival_limbs, HGE.out]; simp)
  have hh := h.ext (Nat.le_refl _) hE0
  have hh2 := h2.ext (Nat.le_refl _) hE0
  have hEV := hE0
  clear h3 hE0
  obtain ⟨V, rfl⟩ : ∃ V : World, V = w5 := ⟨_, rfl⟩
  obtain ⟨aG, rfl⟩ : ∃ x, x = a3 := ⟨_, rfl⟩
  obtain ⟨nG, rfl⟩ : ∃ x, x = n3 := ⟨_, rfl⟩
  obtain ⟨cG, rfl⟩ : ∃ x, x = c3 := ⟨_, rfl⟩
  have hnG := hn3
  have hr9 : w.heap.size + 1 + 1 < V.heap.size := r0_lt
  skip
  go_wp2_with fail
  refine (zintExact_z b false 0 V a aG n c nG cG l _ z G hh hG hn hz HSG hG0 HGZ.out).mono ?_
  rintro e w8 ⟨v8, rfl, ⟨a8, n8, c8, rfl, h8⟩, hE8⟩
  rw [HZQ.out] at h8 ⊢
  replace p0 := p0.ext hE8; replace p0_0 := p0.cell (i := 0) rfl; replace p0_1 := p0.cell (i := 1) rfl; replace p0_f0 := p0.free 0; replace p0_f1 := p0.free 1; replace p0_lt := p0.lt; replace p1 := p1.ext hE8; replace p1_0 := p1.cell (i := 0) rfl; replace p1_1 := p1.cell (i := 1) rfl; replace p1_f0 := p1.free 0; replace p1_f1 := p1.free 1; replace p1_lt := p1.lt; replace r0 := r0.ext hE8; replace r0_0 := r0.cell (i := 0) rfl; replace r0_1 := r0.cell (i := 1) rfl; replace r0_2 := r0.cell (i := 2) rfl; replace r0_3 := r0.cell (i := 3) rfl; replace r0_f0 := r0.free 0; replace r0_f1 := r0.free 1; replace r0_f2 := r0.free 2; replace r0_f3 := r0.free 3; replace r0_lt := r0.lt; replace g := g.ext hE8; replace g_0 := g.cell (i := 0) rfl; replace g_1 := g.cell (i := 1) rfl; replace g_f0 := g.free 0; replace g_f1 := g.free 1; replace g_lt := g.lt
  have hEx := Ext.trans hEV hE8
  have hh2 := hh2.ext (Nat.le_refl _) hE8
  have hG := hG.ext (Nat.le_refl _) hE8
  have hszV := hEV.size
  have hsz8 := hE8.size
  clear hE8 hEV
  go_wp2_with fail
  have k := Blk.new w8 25 #[.bool (decide (q.num < 0)), .slice a8 n8 c8]
  have hEW9 : Ext w8 (w8.alloc (Obj.cells #[.bool (decide (q.num < 0)), .slice a8 n8 c8] 25)) := ((Below.refl _ w8).alloc (by simp) _)
  generalize hgW9 : w8.alloc (Obj.cells #[.bool (decide (q.num < 0)), .slice a8 n8 c8] 25) = W9 at *
  clear hgW9
  replace k_0 := k.cell (i := 0) rfl
  replace k_1 := k.cell (i := 1) rfl
  replace k_f0 := k.free 0
  replace k_f1 := k.free 1
  replace k_lt := k.lt
  replace p0 := p0.ext hEW9; replace p0_0 := p0.cell (i := 0) rfl; replace p0_1 := p0.cell (i := 1) rfl; replace p0_f0 := p0.free 0; replace p0_f1 := p0.free 1; replace p0_lt := p0.lt; replace p1 := p1.ext hEW9; replace p1_0 := p1.cell (i := 0) rfl; replace p1_1 := p1.cell (i := 1) rfl; replace p1_f0 := p1.free 0; replace p1_f1 := p1.free 1; replace p1_lt := p1.lt; replace r0 := r0.ext hEW9; replace r0_0 := r0.cell (i := 0) rfl; replace r0_1 := r0.cell (i := 1) rfl; replace r0_2 := r0.cell (i := 2) rfl; replace r0_3 := r0.cell (i := 3) rfl; replace r0_f0 := r0.free 0; replace r0_f1 := r0.free 1; replace r0_f2 := r0.free 2; replace r0_f3 := r0.free 3; replace r0_lt := r0.lt; replace g := g.ext hEW9; replace g_0 := g.cell (i := 0) rfl; replace g_1 := g.cell (i := 1) rfl; replace g_f0 := g.free 0; replace g_f1 := g.free 1; replace g_lt := g.lt
  refine (zintExact_z b2 false 0 W9 a2 aG n2 c2 nG cG l2 _ d G (hh2.ext (Nat.le_refl _) hEW9) (hG.ext (Nat.le_refl _) hEW9) hn2 hz2 HSG hG0 HGD.out).mono ?_
  rintro e w10 ⟨v10, rfl, ⟨a10, n10, c10, rfl, h10⟩, hE10⟩
  rw [HDQ.out] at h10 ⊢
  rw [show decide (((q.den : Nat) : Int) < 0) = false by simp]
  rw [Int.natAbs_natCast] at h10
  replace r0 := r0.ext hE10; replace r0_0 := r0.cell (i := 0) rfl; replace r0_1 := r0.cell (i := 1) rfl; replace r0_2 := r0.cell (i := 2) rfl; replace r0_3 := r0.cell (i := 3) rfl; replace r0_f0 := r0.free 0; replace r0_f1 := r0.free 1; replace r0_f2 := r0.free 2; replace r0_f3 := r0.free 3; replace r0_lt := r0.lt; replace k := k.ext hE10; replace k_0 := k.cell (i := 0) rfl; replace k_1 := k.cell (i := 1) rfl; replace k_f0 := k.free 0; replace k_f1 := k.free 1; replace k_lt := k.lt
  have hszW9 := hEW9.size
  have hs10 := hE10.size
  have r4 := (((r0.set 0 (.bool (decide (q.num < 0)))).set 1 (.slice a8 n8 c8)).set 2 (.bool false)).set 3 (.slice a10 n10 c10)
  have h8f := (h8.ext (Nat.le_refl _) (Ext.trans hEW9 hE10)).mono (Nat.le_refl _) (kept_set4 w10 (.bool (decide (q.num < 0))) (.slice a8 n8 c8) (.bool false) (.slice a10 n10 c10) hr9)
  have h10f := (h10.mono (Nat.le_refl _) (kept_set4 w10 (.bool (decide (q.num < 0))) (.slice a8 n8 c8) (.bool false) (.slice a10 n10 c10) (show w.heap.size + 1 + 1 < W9.heap.size by omega)))
  have hE4 := ext_set4 (Ext.trans hEx (Ext.trans hEW9 hE10)) (.bool (decide (q.num < 0))) (.slice a8 n8 c8) (.bool false) (.slice a10 n10 c10) (show w.heap.size ≤ w.heap.size + 1 + 1 by omega)
  have hEa : Ext ((((w10.setCell ⟨w.heap.size + 1 + 1, 0, none⟩ (.bool (decide (q.num < 0)))).setCell ⟨w.heap.size + 1 + 1, 1, none⟩ (.slice a8 n8 c8)).setCell ⟨w.heap.size + 1 + 1, 2, none⟩ (.bool false)).setCell ⟨w.heap.size + 1 + 1, 3, none⟩ (.slice a10 n10 c10)) (((((w10.setCell ⟨w.heap.size + 1 + 1, 0, none⟩ (.bool (decide (q.num < 0)))).setCell ⟨w.heap.size + 1 + 1, 1, none⟩ (.slice a8 n8 c8)).setCell ⟨w.heap.size + 1 + 1, 2, none⟩ (.bool false)).setCell ⟨w.heap.size + 1 + 1, 3, none⟩ (.slice a10 n10 c10)).alloc (Obj.cells #[.bool false, .slice a10 n10 c10] 25)) := (Below.refl _ _).alloc (Nat.le_refl _) _
  have HF : Hid (RRatOk w q (.returned (.tuple #[.agg #[.bool (decide (q.num < 0)), .slice a8 n8 c8, .bool false, .slice a10 n10 c10], .int .i64 0])) (((((w10.setCell ⟨w.heap.size + 1 + 1, 0, none⟩ (.bool (decide (q.num < 0)))).setCell ⟨w.heap.size + 1 + 1, 1, none⟩ (.slice a8 n8 c8)).setCell ⟨w.heap.size + 1 + 1, 2, none⟩ (.bool false)).setCell ⟨w.heap.size + 1 + 1, 3, none⟩ (.slice a10 n10 c10)).alloc (Obj.cells #[.bool false, .slice a10 n10 c10] 25))) :=
    Lib.hid ⟨a8, n8, c8, a10, n10, c10, rfl, (h8f.mono (show w.heap.size ≤ V.heap.size by omega) (Kept.refl _ _)).ext (Nat.le_refl _) hEa, (h10f.mono (show w.heap.size ≤ W9.heap.size by omega) (Kept.refl _ _)).ext (Nat.le_refl _) hEa, Ext.trans hE4 hEa⟩
  have r2 := r4.ext hEa
  have hr0 := r2.cell (i := 0) rfl
  have hr1 := r2.cell (i := 1) rfl
  have hr2 := r2.cell (i := 2) rfl
  have hr3 := r2.cell (i := 3) rfl
  have hqa := cell_alloc k_0 (Obj.cells #[.bool false, .slice a10 n10 c10] 25)
  have hqb := cell_alloc k_1 (Obj.cells #[.bool false, .slice a10 n10 c10] 25)
  generalize decide (q.num < 0) = sq at *
  clear hEx hE4 hEa h8 h10 h8f h10f hE10 hEW9 r2 r4 hh hh2 hG h h2
  go_wp2_with fail
  exact bodyPost_ret (v := .tuple #[.agg #[.bool sq, .slice a8 n8 c8, .bool false, .slice a10 n10 c10], .int .i64 0]) (by simp [results, Tryz.results80, go_sem, hr0, hr1, hr2, hr3]) rfl HF.out
end Go.Proofs.YtbhenelehhiakaaGreat
/-
  rat: Norm, Common's closure.
-/
namespace Go.Proofs.YtbhenelehhiakaaGreat
open Go.RowKit

theorem ratMake_any (b b2 : Bool) (w : World) (a a2 : Option Addr) (n c n2 c2 : Nat) (l l2 : Nt) (z d : Int) (q : Rat) (h : NatS 0 w a n c l) (h2 : NatS 0 w a2 n2 c2 l2) (hn : n ≤ 8796093022208) (hn2 : n2 ≤ 8796093022208) (hz : Hid (ival b l = z)) (hz2 : Hid (ival b2 l2 = d)) (hd : d ≠ 0) (hq : Hid (ratv z d = q)) :
    Calls Tryz.prog 80 #[.agg #[.bool b, .slice a n c], .agg #[.bool b2, .slice a2 n2 c2]] w (RRatOk w q) := by
  by_cases h0 : d < 0
  · exact ratMake_neg b b2 w a a2 n c n2 c2 l l2 z d q h h2 hn hn2 hz hz2 h0 hq
  · exact ratMake_pos b b2 w a a2 n c n2 c2 l l2 z d q h h2 hn hn2 hz hz2 (by omega) hq

set_option maxHeartbeats 2000000 in
theorem ratNorm_any (K : Nat) (hK : K ≤ 8796093022208) (w : World) (b : Bool) (a : Option Addr) (n c : Nat) (b2 : Bool) (a2 : Option Addr) (n2 c2 : Nat) (x : Int × Int) (h : (rFr K).ok 0 w [.bool b, .slice a n c, .bool b2, .slice a2 n2 c2] x) (hd : x.2 ≠ 0) (q : Rat) (hq : Hid (frR x = q)) :
    Calls Tryz.prog 99 #[.agg #[.bool b, .slice a n c, .bool b2, .slice a2 n2 c2]] w (RRatOk w q) := by
  obtain ⟨_, _, _, _, _, _, _, _, hcs, l, l2, h1, h2, hv1, hv2, hn, hn2⟩ := h
  cases hcs
  have HV1 := Lib.hid hv1
  have HV2 := Lib.hid hv2
  clear hv1 hv2
  go_enter Tryz.func99, Tryz.ntmps99
  go_wp2_with fail
  have p0 := Blk.new w 75 #[.bool b, .slice a n c, .bool b2, .slice a2 n2 c2]
  have r := Blk.new (w.alloc (Obj.cells #[.bool b, .slice a n c, .bool b2, .slice a2 n2 c2] 75)) 75 #[.bool false, .slice none 0 0, .bool false, .slice none 0 0]
  replace p0 := p0.ext ((Below.refl _ _).alloc (Nat.le_refl _) (Obj.cells #[.bool false, .slice none 0 0, .bool false, .slice none 0 0] 75))
  have hEW : Ext w ((w.alloc (Obj.cells #[.bool b, .slice a n c, .bool b2, .slice a2 n2 c2] 75)).alloc (Obj.cells #[.bool false, .slice none 0 0, .bool false, .slice none 0 0] 75)) := (((Below.refl _ w).alloc (by simp) _).alloc (by simp) _)
  generalize hgW : (w.alloc (Obj.cells #[.bool b, .slice a n c, .bool b2, .slice a2 n2 c2] 75)).alloc (Obj.cells #[.bool false, .slice none 0 0, .bool false, .slice none 0 0] 75) = W at *
  clear hgW
  simp only [World.size_alloc] at r
  have p0_ne_r : ¬ w.heap.size = w.heap.size + 1 := by omega
  have r_ne_p0 : ¬ w.heap.size + 1 = w.heap.size := by omega
  replace p0_0 := p0.cell (i := 0) rfl
  replace p0_1 := p0.cell (i := 1) rfl
  replace p0_2 := p0.cell (i := 2) rfl
  replace p0_3 := p0.cell (i := 3) rfl
  replace r_0 := r.cell (i := 0) rfl
  replace r_1 := r.cell (i := 1) rfl
  replace r_2 := r.cell (i := 2) rfl
  replace r_3 := r.cell (i := 3) rfl
  replace r_f0 := r.free 0
  replace r_f1 := r.free 1
  replace r_f2 := r.free 2
  replace r_f3 := r.free 3
  replace r_lt := r.lt
  have hrB := r_lt
  refine (ratMake_any b b2 W a a2 n c n2 c2 l l2 x.1 x.2 q (h1.ext (Nat.le_refl _) hEW) (h2.ext (Nat.le_refl _) hEW) (by omega) (by omega) HV1 HV2 hd hq).mono ?_
  rintro e w1 ⟨a3, n3, c3, a4, n4, c4, rfl, h3, h4, hE1⟩
  replace r := r.ext hE1; replace r_0 := r.cell (i := 0) rfl; replace r_1 := r.cell (i := 1) rfl; replace r_2 := r.cell (i := 2) rfl; replace r_3 := r.cell (i := 3) rfl; replace r_f0 := r.free 0; replace r_f1 := r.free 1; replace r_f2 := r.free 2; replace r_f3 := r.free 3; replace r_lt := r.lt
  have hE0 := Ext.trans hEW hE1
  have HF : Hid (RRatOk w q (.returned (.tuple #[.agg #[.bool (decide (q.num < 0)), .slice a3 n3 c3, .bool false, .slice a4 n4 c4], .int .i64 0])) ((((w1.setCell ⟨w.heap.size + 1, 0, none⟩ (.bool (decide (q.num < 0)))).setCell ⟨w.heap.size + 1, 1, none⟩ (.slice a3 n3 c3)).setCell ⟨w.heap.size + 1, 2, none⟩ (.bool false)).setCell ⟨w.heap.size + 1, 3, none⟩ (.slice a4 n4 c4))) :=
    Lib.hid ⟨a3, n3, c3, a4, n4, c4, rfl, (h3.mono (Nat.le_refl _) (kept_set4 _ _ _ _ _ hrB)).mono hEW.size (Kept.refl _ _), (h4.mono (Nat.le_refl _) (kept_set4 _ _ _ _ _ hrB)).mono hEW.size (Kept.refl _ _), ext_set4 hE0 _ _ _ _ (by omega)⟩
  generalize decide (q.num < 0) = sq at *
  have r2 := (((r.set 0 (.bool sq)).set 1 (.slice a3 n3 c3)).set 2 (.bool false)).set 3 (.slice a4 n4 c4)
  have hr0 := r2.cell (i := 0) rfl
  have hr1 := r2.cell (i := 1) rfl
  have hr2 := r2.cell (i := 2) rfl
  have hr3 := r2.cell (i := 3) rfl
  clear h1 h2 h3 h4 hE1 hE0 hEW r2
  go_wp2_with fail
  exact bodyPost_ret (v := .tuple #[.agg #[.bool sq, .slice a3 n3 c3, .bool false, .slice a4 n4 c4], .int .i64 0]) (by simp [results, Tryz.results99, go_sem, hr0, hr1, hr2, hr3]) rfl HF.out

set_option maxHeartbeats 2000000 in
theorem ratNorm_err (K : Nat) (hK : K ≤ 8796093022208) (w : World) (b : Bool) (a : Option Addr) (n c : Nat) (b2 : Bool) (a2 : Option Addr) (n2 c2 : Nat) (x : Int × Int) (h : (rFr K).ok 0 w [.bool b, .slice a n c, .bool b2, .slice a2 n2 c2] x) (hd : x.2 = 0) :
    Calls Tryz.prog 99 #[.agg #[.bool b, .slice a n c, .bool b2, .slice a2 n2 c2]] w (RRatErr w 6) := by
  obtain ⟨_, _, _, _, _, _, _, _, hcs, l, l2, h1, h2, hv1, hv2, hn, hn2⟩ := h
  cases hcs
  have HV2 : Hid (ival b2 l2 = 0) := Lib.hid (hv2.trans hd)
  clear hv1 hv2 hd
  go_enter Tryz.func99, Tryz.ntmps99
  go_wp2_with fail
  have p0 := Blk.new w 75 #[.bool b, .slice a n c, .bool b2, .slice a2 n2 c2]
  have r := Blk.new (w.alloc (Obj.cells #[.bool b, .slice a n c, .bool b2, .slice a2 n2 c2] 75)) 75 #[.bool false, .slice none 0 0, .bool false, .slice none 0 0]
  replace p0 := p0.ext ((Below.refl _ _).alloc (Nat.le_refl _) (Obj.cells #[.bool false, .slice none 0 0, .bool false, .slice none 0 0] 75))
  have hEW : Ext w ((w.alloc (Obj.cells #[.bool b, .slice a n c, .bool b2, .slice a2 n2 c2] 75)).alloc (Obj.cells #[.bool false, .slice none 0 0, .bool false, .slice none 0 0] 75)) := (((Below.refl _ w).alloc (by simp) _).alloc (by simp) _)
  generalize hgW : (w.alloc (Obj.cells #[.bool b, .slice a n c, .bool b2, .slice a2 n2 c2] 75)).alloc (Obj.cells #[.bool false, .slice none 0 0, .bool false, .slice none 0 0] 75) = W at *
  clear hgW
  simp only [World.size_alloc] at r
  have p0_ne_r : ¬ w.heap.size = w.heap.size + 1 := by omega
  have r_ne_p0 : ¬ w.heap.size + 1 = w.heap.size := by omega
  replace p0_0 := p0.cell (i := 0) rfl
  replace p0_1 := p0.cell (i := 1) rfl
  replace p0_2 := p0.cell (i := 2) rfl
  replace p0_3 := p0.cell (i := 3) rfl
  replace r_0 := r.cell (i := 0) rfl
  replace r_1 := r.cell (i := 1) rfl
  replace r_2 := r.cell (i := 2) rfl
  replace r_3 := r.cell (i := 3) rfl
  replace r_f0 := r.free 0
  replace r_f1 := r.free 1
  replace r_f2 := r.free 2
  replace r_f3 := r.free 3
  replace r_lt := r.lt
  have hrB := r_lt
  refine (ratMake_err b b2 W a a2 n c n2 c2 l2 (h2.ext (Nat.le_refl _) hEW) (by omega) HV2).mono ?_
  rintro e w1 ⟨rfl, hE1⟩
  replace r := r.ext hE1; replace r_0 := r.cell (i := 0) rfl; replace r_1 := r.cell (i := 1) rfl; replace r_2 := r.cell (i := 2) rfl; replace r_3 := r.cell (i := 3) rfl; replace r_f0 := r.free 0; replace r_f1 := r.free 1; replace r_f2 := r.free 2; replace r_f3 := r.free 3; replace r_lt := r.lt
  have hE0 := Ext.trans hEW hE1
  have HF : Hid (RRatErr w 6 (.returned (.tuple #[.agg #[.bool false, .slice none 0 0, .bool false, .slice none 0 0], .int .i64 6])) ((((w1.setCell ⟨w.heap.size + 1, 0, none⟩ (.bool false)).setCell ⟨w.heap.size + 1, 1, none⟩ (.slice none 0 0)).setCell ⟨w.heap.size + 1, 2, none⟩ (.bool false)).setCell ⟨w.heap.size + 1, 3, none⟩ (.slice none 0 0))) :=
    Lib.hid ⟨rfl, ext_set4 hE0 _ _ _ _ (by omega)⟩
  have r2 := (((r.set 0 (.bool false)).set 1 (.slice none 0 0)).set 2 (.bool false)).set 3 (.slice none 0 0)
  have hr0 := r2.cell (i := 0) rfl
  have hr1 := r2.cell (i := 1) rfl
  have hr2 := r2.cell (i := 2) rfl
  have hr3 := r2.cell (i := 3) rfl
  clear h1 h2 hE1 hE0 hEW r2
  go_wp2_with fail
  exact bodyPost_ret (v := .tuple #[.agg #[.bool false, .slice none 0 0, .bool false, .slice none 0 0], .int .i64 6]) (by simp [results, Tryz.results99, go_sem, hr0, hr1, hr2, hr3]) rfl HF.out

/-- words that lay before the own block keep through its growth -/
theorem NatS.grown {B : Nat} {W0 w w' : World} {a : Option Addr} {n c : Nat} {l : Nt} {row : Option Nat} (h : NatS B w a n c l) (h0 : NatS B W0 a n c l) (hg : w.grownBy w' row) (hr : ∀ g, row = some g → W0.heap.size ≤ g) : NatS B w' a n c l :=
  ⟨h.len, h.cap, h.most, h.nil, fun k hk => by
    obtain ⟨b, o, cs, ha, hr1, hc⟩ := h.at_ k hk
    obtain ⟨b2, o2, cs2, ha2, hr2, hc2⟩ := h0.at_ k hk
    rw [ha] at ha2; cases ha2
    have hb : b < W0.heap.size := cel_lt (hc2 0 (by rw [hr2.1]; simp))
    refine ⟨b, o, cs, ha, hr1, fun j hj => ?_⟩
    have e : w'.heap[b]? = w.heap[b]? := hg.block b (cel_lt (hc j hj)) (fun e => by have := hr b e.symm; omega)
    obtain ⟨h1, h2, h3⟩ := hc j hj
    exact ⟨h1, (World.cell?_of_block (a := ⟨b, _, none⟩) e).trans h2, (World.frozen?_of_block (a := ⟨b, _, none⟩) e).trans h3⟩⟩

end Go.Proofs.YtbhenelehhiakaaGreat
