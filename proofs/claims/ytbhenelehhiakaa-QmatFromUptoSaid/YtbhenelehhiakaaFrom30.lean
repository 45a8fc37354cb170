/-
  Fractions as they lie: simileref05.May, AllMay; simileref05.Same on raw data.
-/
import Derived.Test.YtbhenelehhiakaaFrom28
import Derived.Test.YtbhenelehhiakaaFrom29
import Derived.Test.YtbhenelehhiakaaFrom24
set_option linter.unusedVariables false
set_option linter.unusedSimpArgs false
namespace Go.Proofs.Ytbhenelehhiakaa
open Go.RowKit

/-- a fraction as it lies: two integers, not too long; the second may be 0 -/
def rFr (K : Nat) : Rd (Int × Int) where
  size := 4
  ok B w cs q := ∃ b a n c b2 a2 n2 c2, cs = [.bool b, .slice a n c, .bool b2, .slice a2 n2 c2] ∧ ∃ l l2, NatS B w a n c l ∧ NatS B w a2 n2 c2 l2 ∧ ival b l = q.1 ∧ ival b2 l2 = q.2 ∧ n ≤ K ∧ n2 ≤ K
  len h := by obtain ⟨b, a, n, c, b2, a2, n2, c2, h, _⟩ := h; rw [h]; rfl
  mono h hB hk := by
    obtain ⟨b, a, n, c, b2, a2, n2, c2, h, l, l2, h1, h2, h3⟩ := h
    exact ⟨b, a, n, c, b2, a2, n2, c2, h, l, l2, h1.mono hB hk, h2.mono hB hk, h3⟩
def frR (q : Int × Int) : Rat := ratv q.1 q.2
def frMay (q : Int × Int) : Bool := decide (q.2 ≠ 0)
/-- fractions that may be are fractions -/
theorem Sl.fracs {K B : Nat} {w : World} {a : Option Addr} {n c : Nat} {qs : List (Int × Int)} (h : Sl (rFr K) B w a n c qs) (hm : ∀ q ∈ qs, q.2 ≠ 0) : Sl (rRatK K) B w a n c (qs.map frR) :=
  ⟨by rw [List.length_map]; exact h.len, h.cap, h.most, h.nil, fun i hi => by
    have hi' : i < qs.length := by simpa using hi
    obtain ⟨b, o, cs, ha, ⟨s, a1, n1, c1, s2, a2, n2, c2, rfl, l, l2, h1, h2, h3, h4, h5, h6⟩, hc⟩ := h.at_ i hi'
    refine ⟨b, o, _, ha, ⟨s, a1, n1, c1, s2, a2, n2, c2, rfl, l, l2, h1, h2, ?_, ?_, h5, h6⟩, hc⟩
    · rw [h4]; exact hm _ (List.getElem_mem _)
    · rw [h3, h4, List.getElem_map]; rfl⟩
theorem Sl.getFr {K B : Nat} {w : World} {a : Option Addr} {n c : Nat} {xs : List (Int × Int)} (h : Sl (rFr K) B w a n c xs) {i : Nat} (hi : i < n) : ∃ b o s a1 n1 c1 s2 a2 n2 c2 q l l2, a = some ⟨b, o, none⟩ ∧ b < w.heap.size ∧ xs[i]? = some q ∧ w.cell? ⟨b, o + i * 4, none⟩ = some (.bool s) ∧ w.cell? ⟨b, o + i * 4 + 1, none⟩ = some (.slice a1 n1 c1) ∧ w.cell? ⟨b, o + i * 4 + 2, none⟩ = some (.bool s2) ∧ w.cell? ⟨b, o + i * 4 + 3, none⟩ = some (.slice a2 n2 c2) ∧ NatS 0 w a1 n1 c1 l ∧ NatS 0 w a2 n2 c2 l2 ∧ ival s l = q.1 ∧ ival s2 l2 = q.2 ∧ n1 ≤ K ∧ n2 ≤ K := by
  have hl : i < xs.length := by rw [h.len]; exact hi
  obtain ⟨b, o, cs, ha, ⟨s, a1, n1, c1, s2, a2, n2, c2, rfl, l, l2, h1, h2, h3⟩, hc⟩ := h.at_ i hl
  exact ⟨b, o, s, a1, n1, c1, s2, a2, n2, c2, _, l, l2, ha, cel_lt (hc 0 (by simp)), List.getElem?_eq_getElem hl, (hc 0 (by simp)).cell, (hc 1 (by simp)).cell, (hc 2 (by simp)).cell, (hc 3 (by simp)).cell, Sl.zero h1, Sl.zero h2, h3⟩

set_option maxHeartbeats 2000000 in
theorem r5May_any (w : World) (b b2 : Bool) (a a2 : Option Addr) (n c n2 c2 : Nat) (l2 : Nt) (d : Int) (h2 : NatS 0 w a2 n2 c2 l2) (hd : Hid (ival b2 l2 = d)) (s : Bool) (hs : Hid (decide (d ≠ 0) = s)) :
    Calls Try.prog 62 #[.agg #[.bool b, .slice a n c, .bool b2, .slice a2 n2 c2]] w fun e w' => e = .returned (.bool s) ∧ Ext w w' := by
  have HV : Hid ((d.sign != 0) = s) := Lib.hid (by
    rw [← hs.out]
    by_cases h : d = 0
    · subst h; rfl
    · have h1 : d.sign ≠ 0 := by simpa using h
      rw [decide_eq_true h]
      simpa using h1)
  go_enter Try.func62, Try.ntmps62
  go_wp2_with fail
  have p0 := Blk.new w 62 #[.bool b, .slice a n c, .bool b2, .slice a2 n2 c2]
  have hEW : Ext w (w.alloc (Obj.cells #[.bool b, .slice a n c, .bool b2, .slice a2 n2 c2] 62)) := ((Below.refl _ w).alloc (by simp) _)
  generalize hgW : w.alloc (Obj.cells #[.bool b, .slice a n c, .bool b2, .slice a2 n2 c2] 62) = W at *
  clear hgW
  replace p0_0 := p0.cell (i := 0) rfl
  replace p0_1 := p0.cell (i := 1) rfl
  replace p0_2 := p0.cell (i := 2) rfl
  replace p0_3 := p0.cell (i := 3) rfl
  refine (r3Sign_z b2 0 W a2 n2 c2 l2 d (h2.ext (Nat.le_refl _) hEW) hd).mono ?_
  rintro e w1 ⟨rfl, hE1⟩
  have HE := Lib.hid (Ext.trans hEW hE1)
  clear h2 hEW hE1
  generalize d.sign = sg at *
  go_wp2_with fail
  go_ret
  exact ⟨by rw [← HV.out]; rfl, HE.out⟩

def allMay (qs : List (Int × Int)) : Bool := qs.all fun q => decide (q.2 ≠ 0)
set_option maxHeartbeats 4000000 in
theorem r5AllMay_any (K : Nat) (w : World) (a : Option Addr) (n c : Nat) (qs : List (Int × Int)) (h : Sl (rFr K) 0 w a n c qs) (s : Bool) (hs : Hid (allMay qs = s)) :
    Calls Try.prog 24 #[.slice a n c] w fun e w' => e = .returned (.bool s) ∧ Ext w w' := by
  have HS := Lib.hid h
  have hmost := h.most
  have hcap := h.cap
  have hlen := Lib.hid h.len
  clear h
  go_enter Try.func24, Try.ntmps24
  go_wp2_with fail
  go_loopg [7] n (fun q vi wr => ∃ i : Nat, i ≤ n ∧ q = n - i ∧ vi = .int .i64 (i : Int) ∧ Hid (∀ j x, j < i → qs[j]? = some x → x.2 ≠ 0) ∧ Hid (Ext w wr))
  case atStart => exact ⟨0, Nat.zero_le _, by omega, rfl, Lib.hid (fun j _ hj => by omega), Lib.hid (Ext.refl _)⟩
  case round =>
    obtain ⟨i, hi, hq, rfl, HI, HE⟩ := hrel
    by_cases hin : i < n
    · obtain ⟨b, o, s1, a1, n1, c1, s2, a2, n2, c2, x, l, l2, rfl, hb, hx, hc0, hc1, hc2, hc3, h1, h2, hv1, hv2, hn1, hn2⟩ := (HS.out.ext (Nat.le_refl _) HE.out).getFr hin
      have HX := Lib.hid hx
      have H2 := Lib.hid h2
      have HV2 := Lib.hid hv2
      clear hx h1 h2 hv1 hv2
      by_cases hd : x.2 = 0
      · have HF : Hid (s = false) := Lib.hid (by
          rw [← hs.out]
          unfold allMay
          rw [List.all_eq_false]
          exact ⟨x, List.mem_of_getElem? HX.out, by simpa using hd⟩)
        have HD : Hid (decide (x.2 ≠ 0) = false) := Lib.hid (by simpa using hd)
        clear hd
        go_wp2_with fail
        clear hc0 hc1 hc2 hc3
        have y := Blk.new wr 62 #[.bool s1, .slice a1 n1 c1, .bool s2, .slice a2 n2 c2]
        have hEW3 : Ext wr (wr.alloc (Obj.cells #[.bool s1, .slice a1 n1 c1, .bool s2, .slice a2 n2 c2] 62)) := ((Below.refl _ wr).alloc (by simp) _)
        generalize hgW3 : wr.alloc (Obj.cells #[.bool s1, .slice a1 n1 c1, .bool s2, .slice a2 n2 c2] 62) = W3 at *
        clear hgW3
        replace y_0 := y.cell (i := 0) rfl
        replace y_1 := y.cell (i := 1) rfl
        replace y_2 := y.cell (i := 2) rfl
        replace y_3 := y.cell (i := 3) rfl
        refine (r5May_any W3 s1 s2 a1 a2 n1 c1 n2 c2 l2 x.2 (H2.out.ext (Nat.le_refl _) hEW3) HV2 false HD).mono ?_
        rintro e w4 ⟨rfl, hE4⟩
        have HE4 := Lib.hid (Ext.trans HE.out (Ext.trans hEW3 hE4))
        clear hEW3 hE4 y y_0 y_1 y_2 y_3
        go_wp2_with fail
        go_ret
        exact ⟨by rw [HF.out]; rfl, HE4.out⟩
      · have HD : Hid (decide (x.2 ≠ 0) = true) := Lib.hid (by simpa using hd)
        have HN : Hid (∀ j y, j < i + 1 → qs[j]? = some y → y.2 ≠ 0) := Lib.hid (fun j y hj hy => by
          by_cases hji : j < i
          · exact HI.out j y hji hy
          · obtain rfl : j = i := by omega
            rw [HX.out] at hy; cases hy; exact hd)
        clear hd
        go_wp2_with fail
        clear hc0 hc1 hc2 hc3
        have y := Blk.new wr 62 #[.bool s1, .slice a1 n1 c1, .bool s2, .slice a2 n2 c2]
        have hEW3 : Ext wr (wr.alloc (Obj.cells #[.bool s1, .slice a1 n1 c1, .bool s2, .slice a2 n2 c2] 62)) := ((Below.refl _ wr).alloc (by simp) _)
        generalize hgW3 : wr.alloc (Obj.cells #[.bool s1, .slice a1 n1 c1, .bool s2, .slice a2 n2 c2] 62) = W3 at *
        clear hgW3
        replace y_0 := y.cell (i := 0) rfl
        replace y_1 := y.cell (i := 1) rfl
        replace y_2 := y.cell (i := 2) rfl
        replace y_3 := y.cell (i := 3) rfl
        refine (r5May_any W3 s1 s2 a1 a2 n1 c1 n2 c2 l2 x.2 (H2.out.ext (Nat.le_refl _) hEW3) HV2 true HD).mono ?_
        rintro e w4 ⟨rfl, hE4⟩
        have HE4 := Lib.hid (Ext.trans HE.out (Ext.trans hEW3 hE4))
        clear hEW3 hE4 y y_0 y_1 y_2 y_3
        go_wp2_with fail
        go_roundg (n - (i + 1))
        case measure => omega
        case rel => exact ⟨i + 1, by omega, rfl, by go_num, HN, HE4⟩
    · obtain rfl : i = n := by omega
      have HF : Hid (s = true) := Lib.hid (by
        rw [← hs.out]
        unfold allMay
        rw [List.all_eq_true]
        intro x hx
        obtain ⟨j, hj, rfl⟩ := List.getElem_of_mem hx
        exact decide_eq_true (HI.out j _ (by rw [← hlen.out]; exact hj) (List.getElem?_eq_getElem hj)))
      go_wp2_with fail
      go_ret
      exact ⟨by rw [HF.out]; rfl, HE.out⟩
end Go.Proofs.Ytbhenelehhiakaa
/-
  rat: Make, Norm.
-/
namespace Go.Proofs.Ytbhenelehhiakaa
open Go.RowKit

/-- an answer of package rat: a fraction in lowest terms -/
def RRatOk (w : World) (q : Rat) (e : Ending) (w' : World) : Prop := ∃ a n c a2 n2 c2, e = .returned (.tuple #[.agg #[.bool (decide (q.num < 0)), .slice a n c, .bool false, .slice a2 n2 c2], .int .i64 0]) ∧ NatS w.heap.size w' a n c (limbs q.num.natAbs) ∧ NatS w.heap.size w' a2 n2 c2 (limbs q.den) ∧ Ext w w'
def RRatErr (w : World) (s : Int) (e : Ending) (w' : World) : Prop := e = .returned (.tuple #[.agg #[.bool false, .slice none 0 0, .bool false, .slice none 0 0], .int .i64 s]) ∧ Ext w w'

/-- the greatest divisor with the second's sign -/
def gsgn (z d : Int) : Int := if d < 0 then -((Int.gcd z d : Nat) : Int) else ((Int.gcd z d : Nat) : Int)
theorem gsgn_facts (z d : Int) (hd : d ≠ 0) : gsgn z d ≠ 0 ∧ gsgn z d ∣ z ∧ gsgn z d ∣ d ∧ z / gsgn z d = (ratv z d).num ∧ d / gsgn z d = ((ratv z d).den : Int) := by
  have hg : ((Int.gcd z d : Nat) : Int) ≠ 0 := fun e => hd (Int.gcd_eq_zero_iff.1 (show Int.gcd z d = 0 by omega)).2
  have h1 : ((Int.gcd z d : Nat) : Int) ∣ z := Int.gcd_dvd_left ..
  have h2 : ((Int.gcd z d : Nat) : Int) ∣ d := Int.gcd_dvd_right ..
  unfold gsgn
  by_cases h : d < 0
  · rw [if_pos h]
    refine ⟨by omega, Int.neg_dvd.2 h1, Int.neg_dvd.2 h2, ?_, ?_⟩
    · rw [← ratv_neg, ratv_num (by omega), Int.gcd_neg, Int.neg_gcd, Int.ediv_neg, Int.neg_ediv_of_dvd h1]
    · rw [← ratv_neg, ratv_den (by omega), Int.gcd_neg, Int.neg_gcd, Int.ediv_neg, Int.neg_ediv_of_dvd h2]
  · rw [if_neg h]
    exact ⟨hg, h1, h2, (ratv_num (by omega)).symm, (ratv_den (by omega)).symm⟩

set_option maxHeartbeats 4000000 in
theorem ratMake_err (b b2 : Bool) (w : World) (a a2 : Option Addr) (n c n2 c2 : Nat) (l2 : Nt) (h2 : NatS 0 w a2 n2 c2 l2) (hn2 : n2 ≤ 17592186044416) (hz2 : Hid (ival b2 l2 = 0)) :
    Calls Try.prog 68 #[.agg #[.bool b, .slice a n c], .agg #[.bool b2, .slice a2 n2 c2]] w (RRatErr w 6) := by
  go_enter Try.func68, Try.ntmps68
  go_wp2_with fail
  have p0 := Blk.new w 27 #[.bool b, .slice a n c]
  have p1 := Blk.new (w.alloc (Obj.cells #[.bool b, .slice a n c] 27)) 27 #[.bool b2, .slice a2 n2 c2]
  replace p0 := p0.ext ((Below.refl _ _).alloc (Nat.le_refl _) (Obj.cells #[.bool b2, .slice a2 n2 c2] 27))
  have r0 := Blk.new ((w.alloc (Obj.cells #[.bool b, .slice a n c] 27)).alloc (Obj.cells #[.bool b2, .slice a2 n2 c2] 27)) 62 #[.bool false, .slice none 0 0, .bool false, .slice none 0 0]
  replace p0 := p0.ext ((Below.refl _ _).alloc (Nat.le_refl _) (Obj.cells #[.bool false, .slice none 0 0, .bool false, .slice none 0 0] 62))
  replace p1 := p1.ext ((Below.refl _ _).alloc (Nat.le_refl _) (Obj.cells #[.bool false, .slice none 0 0, .bool false, .slice none 0 0] 62))
  have hEW : Ext w (((w.alloc (Obj.cells #[.bool b, .slice a n c] 27)).alloc (Obj.cells #[.bool b2, .slice a2 n2 c2] 27)).alloc (Obj.cells #[.bool false, .slice none 0 0, .bool false, .slice none 0 0] 62)) := ((((Below.refl _ w).alloc (by simp) _).alloc (by simp) _).alloc (by simp; omega) _)
  generalize hgW : ((w.alloc (Obj.cells #[.bool b, .slice a n c] 27)).alloc (Obj.cells #[.bool b2, .slice a2 n2 c2] 27)).alloc (Obj.cells #[.bool false, .slice none 0 0, .bool false, .slice none 0 0] 62) = W at *
  clear hgW
  simp only [World.size_alloc] at p1 r0
  have p0_ne_p1 : ¬ w.heap.size = w.heap.size + 1 := by omega
  have p0_ne_r0 : ¬ w.heap.size = w.heap.size + 1 + 1 := by omega
  have p1_ne_p0 : ¬ w.heap.size + 1 = w.heap.size := by omega
  have p1_ne_r0 : ¬ w.heap.size + 1 = w.heap.size + 1 + 1 := by omega
  have r0_ne_p0 : ¬ w.heap.size + 1 + 1 = w.heap.size := by omega
  have r0_ne_p1 : ¬ w.heap.size + 1 + 1 = w.heap.size + 1 := by omega
  replace p0_0 := p0.cell (i := 0) rfl
  replace p0_1 := p0.cell (i := 1) rfl
  replace p1_0 := p1.cell (i := 0) rfl
  replace p1_1 := p1.cell (i := 1) rfl
  replace r0_0 := r0.cell (i := 0) rfl
  replace r0_1 := r0.cell (i := 1) rfl
  replace r0_2 := r0.cell (i := 2) rfl
  replace r0_3 := r0.cell (i := 3) rfl
  replace r0_f0 := r0.free 0
  replace r0_f1 := r0.free 1
  replace r0_f2 := r0.free 2
  replace r0_f3 := r0.free 3
  replace r0_lt := r0.lt
  refine (zintSign_z b2 0 W a2 n2 c2 l2 0 (h2.ext (Nat.le_refl _) hEW) hn2 hz2).mono ?_
  rintro e w1 ⟨rfl, hE1⟩
  rw [Int.sign_zero]
  replace r0 := r0.ext hE1; replace r0_0 := r0.cell (i := 0) rfl; replace r0_1 := r0.cell (i := 1) rfl; replace r0_2 := r0.cell (i := 2) rfl; replace r0_3 := r0.cell (i := 3) rfl; replace r0_f0 := r0.free 0; replace r0_f1 := r0.free 1; replace r0_f2 := r0.free 2; replace r0_f3 := r0.free 3; replace r0_lt := r0.lt
  have HF : Hid (RRatErr w 6 (.returned (.tuple #[.agg #[.bool false, .slice none 0 0, .bool false, .slice none 0 0], .int .i64 6])) ((((w1.setCell ⟨w.heap.size + 1 + 1, 0, none⟩ (.bool false)).setCell ⟨w.heap.size + 1 + 1, 1, none⟩ (.slice none 0 0)).setCell ⟨w.heap.size + 1 + 1, 2, none⟩ (.bool false)).setCell ⟨w.heap.size + 1 + 1, 3, none⟩ (.slice none 0 0))) := Lib.hid ⟨rfl, ext_set4 (Ext.trans hEW hE1) _ _ _ _ (by omega)⟩
  have r2 := (((r0.set 0 (.bool false)).set 1 (.slice none 0 0)).set 2 (.bool false)).set 3 (.slice none 0 0)
  have hr0 := r2.cell (i := 0) rfl
  have hr1 := r2.cell (i := 1) rfl
  have hr2 := r2.cell (i := 2) rfl
  have hr3 := r2.cell (i := 3) rfl
  clear hEW hE1 h2
  go_wp2_with fail
  exact bodyPost_ret (v := .tuple #[.agg #[.bool false, .slice none 0 0, .bool false, .slice none 0 0], .int .i64 6]) (by simp [results, Try.results68, go_sem, hr0, hr1, hr2, hr3]) rfl HF.out

set_option maxRecDepth 100000 in
set_option maxHeartbeats 8000000 in
theorem ratMake_neg (b b2 : Bool) (w : World) (a a2 : Option Addr) (n c n2 c2 : Nat) (l l2 : Nt) (z d : Int) (q : Rat) (h : NatS 0 w a n c l) (h2 : NatS 0 w a2 n2 c2 l2) (hn : n ≤ 8796093022208) (hn2 : n2 ≤ 8796093022208) (hz : Hid (ival b l = z)) (hz2 : Hid (ival b2 l2 = d)) (hd : d < 0) (hq : Hid (ratv z d = q)) :
    Calls Try.prog 68 #[.agg #[.bool b, .slice a n c], .agg #[.bool b2, .slice a2 n2 c2]] w (RRatOk w q) := by
  have hd0 : d ≠ 0 := by omega
  obtain ⟨hG0, hGz, hGd, hzq, hdq⟩ := gsgn_facts z d hd0
  rw [hq.out] at hzq hdq
  have hGe : gsgn z d = -((Int.gcd z d : Nat) : Int) := by unfold gsgn; rw [if_pos hd]
  obtain ⟨G, hGG⟩ : ∃ G, gsgn z d = G := ⟨_, rfl⟩
  rw [hGG] at hG0 hGz hGd hzq hdq hGe
  obtain ⟨gg, hgg⟩ : ∃ g, Int.gcd z d = g := ⟨_, rfl⟩
  rw [hgg] at hGe
  have HGG := Lib.hid hgg
  have HGE := Lib.hid hGe
  have hnz : nl z.natAbs ≤ n := nl_of h hz
  have hnd : nl d.natAbs ≤ n2 := nl_of h2 hz2
  have hggn : nl gg ≤ 8796093022208 := by
    have h1 : gg ≤ d.natAbs := by rw [← hgg]; exact Nat.le_of_dvd (Int.natAbs_pos.2 hd0) (Int.gcd_dvd_natAbs_right z d)
    exact Nat.le_trans (nl_mono h1) (by omega)
  have hs0 : (d.sign == 0) = false := by simpa using hd0
  have hs1 : decide (d.sign < 0) = true := by rw [Int.sign_eq_neg_one_of_neg hd]; rfl
  have HZQ := Lib.hid hzq
  have HDQ := Lib.hid hdq
  have HGZ := Lib.hid hGz
  have HGD := Lib.hid hGd
  clear hGG hgg hGe hzq hdq hGz hGd hd
  go_enter Try.func68, Try.ntmps68
  go_wp2_with fail
  have p0 := Blk.new w 27 #[.bool b, .slice a n c]
  have p1 := Blk.new (w.alloc (Obj.cells #[.bool b, .slice a n c] 27)) 27 #[.bool b2, .slice a2 n2 c2]
  replace p0 := p0.ext ((Below.refl _ _).alloc (Nat.le_refl _) (Obj.cells #[.bool b2, .slice a2 n2 c2] 27))
  have r0 := Blk.new ((w.alloc (Obj.cells #[.bool b, .slice a n c] 27)).alloc (Obj.cells #[.bool b2, .slice a2 n2 c2] 27)) 62 #[.bool false, .slice none 0 0, .bool false, .slice none 0 0]
  replace p0 := p0.ext ((Below.refl _ _).alloc (Nat.le_refl _) (Obj.cells #[.bool false, .slice none 0 0, .bool false, .slice none 0 0] 62))
  replace p1 := p1.ext ((Below.refl _ _).alloc (Nat.le_refl _) (Obj.cells #[.bool false, .slice none 0 0, .bool false, .slice none 0 0] 62))
  have hEW : Ext w (((w.alloc (Obj.cells #[.bool b, .slice a n c] 27)).alloc (Obj.cells #[.bool b2, .slice a2 n2 c2] 27)).alloc (Obj.cells #[.bool false, .slice none 0 0, .bool false, .slice none 0 0] 62)) := ((((Below.refl _ w).alloc (by simp) _).alloc (by simp) _).alloc (by simp; omega) _)
  generalize hgW : ((w.alloc (Obj.cells #[.bool b, .slice a n c] 27)).alloc (Obj.cells #[.bool b2, .slice a2 n2 c2] 27)).alloc (Obj.cells #[.bool false, .slice none 0 0, .bool false, .slice none 0 0] 62) = W at *
  clear hgW
  simp only [World.size_alloc] at p1 r0
  have p0_ne_p1 : ¬ w.heap.size = w.heap.size + 1 := by omega
  have p0_ne_r0 : ¬ w.heap.size = w.heap.size + 1 + 1 := by omega
  have p1_ne_p0 : ¬ w.heap.size + 1 = w.heap.size := by omega
  have p1_ne_r0 : ¬ w.heap.size + 1 = w.heap.size + 1 + 1 := by omega
  have r0_ne_p0 : ¬ w.heap.size + 1 + 1 = w.heap.size := by omega
  have r0_ne_p1 : ¬ w.heap.size + 1 + 1 = w.heap.size + 1 := by omega
  replace p0_0 := p0.cell (i := 0) rfl
  replace p0_1 := p0.cell (i := 1) rfl
  replace p0_f0 := p0.free 0
  replace p0_f1 := p0.free 1
  replace p0_lt := p0.lt
  replace p1_0 := p1.cell (i := 0) rfl
  replace p1_1 := p1.cell (i := 1) rfl
  replace p1_f0 := p1.free 0
  replace p1_f1 := p1.free 1
  replace p1_lt := p1.lt
  replace r0_0 := r0.cell (i := 0) rfl
  replace r0_1 := r0.cell (i := 1) rfl
  replace r0_2 := r0.cell (i := 2) rfl
  replace r0_3 := r0.cell (i := 3) rfl
  replace r0_f0 := r0.free 0
  replace r0_f1 := r0.free 1
  replace r0_f2 := r0.free 2
  replace r0_f3 := r0.free 3
  replace r0_lt := r0.lt
  have hWs : w.heap.size + 1 + 1 < W.heap.size := r0_lt
  refine (zintSign_z b2 0 W a2 n2 c2 l2 d (h2.ext (Nat.le_refl _) hEW) (by omega) hz2).mono ?_
  rintro e w1 ⟨rfl, hE1⟩
  replace p0 := p0.ext hE1; replace p0_0 := p0.cell (i := 0) rfl; replace p0_1 := p0.cell (i := 1) rfl; replace p0_f0 := p0.free 0; replace p0_f1 := p0.free 1; replace p0_lt := p0.lt; replace p1 := p1.ext hE1; replace p1_0 := p1.cell (i := 0) rfl; replace p1_1 := p1.cell (i := 1) rfl; replace p1_f0 := p1.free 0; replace p1_f1 := p1.free 1; replace p1_lt := p1.lt; replace r0 := r0.ext hE1; replace r0_0 := r0.cell (i := 0) rfl; replace r0_1 := r0.cell (i := 1) rfl; replace r0_2 := r0.cell (i := 2) rfl; replace r0_3 := r0.cell (i := 3) rfl; replace r0_f0 := r0.free 0; replace r0_f1 := r0.free 1; replace r0_f2 := r0.free 2; replace r0_f3 := r0.free 3; replace r0_lt := r0.lt
  have hE0 := Ext.trans hEW hE1
  have hsz1 := hE1.size
  clear hEW hE1
  obtain ⟨sg, hsg⟩ : ∃ s, d.sign = s := ⟨_, rfl⟩
  rw [hsg] at hs0 hs1 ⊢
  have HSGN := Lib.hid hsg
  clear hsg
  go_wp2_with fail
  have y := Blk.new w1 27 #[.bool b, .slice a n c, .bool b2, .slice a2 n2 c2]
  have hEW2 : Ext w1 (w1.alloc (Obj.cells #[.bool b, .slice a n c, .bool b2, .slice a2 n2 c2] 27)) := ((Below.refl _ w1).alloc (by simp) _)
  generalize hgW2 : w1.alloc (Obj.cells #[.bool b, .slice a n c, .bool b2, .slice a2 n2 c2] 27) = W2 at *
  clear hgW2
  replace y_0 := y.cell (i := 0) rfl
  replace y_1 := y.cell (i := 1) rfl
  replace y_2 := y.cell (i := 2) rfl
  replace y_3 := y.cell (i := 3) rfl
  replace p0 := p0.ext hEW2; replace p0_0 := p0.cell (i := 0) rfl; replace p0_1 := p0.cell (i := 1) rfl; replace p0_f0 := p0.free 0; replace p0_f1 := p0.free 1; replace p0_lt := p0.lt; replace p1 := p1.ext hEW2; replace p1_0 := p1.cell (i := 0) rfl; replace p1_1 := p1.cell (i := 1) rfl; replace p1_f0 := p1.free 0; replace p1_f1 := p1.free 1; replace p1_lt := p1.lt; replace r0 := r0.ext hEW2; replace r0_0 := r0.cell (i := 0) rfl; replace r0_1 := r0.cell (i := 1) rfl; replace r0_2 := r0.cell (i := 2) rfl; replace r0_3 := r0.cell (i := 3) rfl; replace r0_f0 := r0.free 0; replace r0_f1 := r0.free 1; replace r0_f2 := r0.free 2; replace r0_f3 := r0.free 3; replace r0_lt := r0.lt
  replace hE0 := Ext.trans hE0 hEW2
  have hsz2 := hEW2.size
  refine (zintGcd_any 0 W2 _ 2 2 (b, l) (b2, l2) (ints2 y (Nat.zero_le _) (h.ext (Nat.le_refl _) hE0) (h2.ext (Nat.le_refl _) hE0)) (by rw [h.len]; exact hn) (by rw [h2.len]; exact hn2) z d hz hz2).mono ?_
  rintro e w3 ⟨a3, n3, c3, rfl, h3, hE3⟩
  rw [HGG.out] at h3 ⊢
  rw [show decide (((gg : Nat) : Int) < 0) = false by simp]
  rw [Int.natAbs_natCast] at h3
  replace p0 := p0.ext hE3; replace p0_0 := p0.cell (i := 0) rfl; replace p0_1 := p0.cell (i := 1) rfl; replace p0_f0 := p0.free 0; replace p0_f1 := p0.free 1; replace p0_lt := p0.lt; replace p1 := p1.ext hE3; replace p1_0 := p1.cell (i := 0) rfl; replace p1_1 := p1.cell (i := 1) rfl; replace p1_f0 := p1.free 0; replace p1_f1 := p1.free 1; replace p1_lt := p1.lt; replace r0 := r0.ext hE3; replace r0_0 := r0.cell (i := 0) rfl; replace r0_1 := r0.cell (i := 1) rfl; replace r0_2 := r0.cell (i := 2) rfl; replace r0_3 := r0.cell (i := 3) rfl; replace r0_f0 := r0.free 0; replace r0_f1 := r0.free 1; replace r0_f2 := r0.free 2; replace r0_f3 := r0.free 3; replace r0_lt := r0.lt
  replace hE0 := Ext.trans hE0 hE3
  have hsz3 := hE3.size
  clear hEW2 hE3 y y_0 y_1 y_2 y_3
  go_wp2_with fail
  have g := Blk.new w3 27 #[.bool false, .slice a3 n3 c3]
  have hEW4 : Ext w3 (w3.alloc (Obj.cells #[.bool false, .slice a3 n3 c3] 27)) := ((Below.refl _ w3).alloc (by simp) _)
  generalize hgW4 : w3.alloc (Obj.cells #[.bool false, .slice a3 n3 c3] 27) = W4 at *
  clear hgW4
  replace g_0 := g.cell (i := 0) rfl
  replace g_1 := g.cell (i := 1) rfl
  replace g_f0 := g.free 0
  replace g_f1 := g.free 1
  replace g_lt := g.lt
  replace p0 := p0.ext hEW4; replace p0_0 := p0.cell (i := 0) rfl; replace p0_1 := p0.cell (i := 1) rfl; replace p0_f0 := p0.free 0; replace p0_f1 := p0.free 1; replace p0_lt := p0.lt; replace p1 := p1.ext hEW4; replace p1_0 := p1.cell (i := 0) rfl; replace p1_1 := p1.cell (i := 1) rfl; replace p1_f0 := p1.free 0; replace p1_f1 := p1.free 1; replace p1_lt := p1.lt; replace r0 := r0.ext hEW4; replace r0_0 := r0.cell (i := 0) rfl; replace r0_1 := r0.cell (i := 1) rfl; replace r0_2 := r0.cell (i := 2) rfl; replace r0_3 := r0.cell (i := 3) rfl; replace r0_f0 := r0.free 0; replace r0_f1 := r0.free 1; replace r0_f2 := r0.free 2; replace r0_f3 := r0.free 3; replace r0_lt := r0.lt
  replace hE0 := Ext.trans hE0 hEW4
  have hsz4 := hEW4.size
  have h3 := h3.ext (Nat.zero_le _) hEW4
  have hn3 : n3 ≤ 8796093022208 := by have := h3.len; rw [length_limbs] at this; omega
  refine (zintSign_z b2 0 W4 a2 n2 c2 l2 d (h2.ext (Nat.le_refl _) hE0) (by omega) hz2).mono ?_
  rintro e w5 ⟨rfl, hE5⟩
  replace p0 := p0.ext hE5; replace p0_0 := p0.cell (i := 0) rfl; replace p0_1 := p0.cell (i := 1) rfl; replace p0_f0 := p0.free 0; replace p0_f1 := p0.free 1; replace p0_lt := p0.lt; replace p1 := p1.ext hE5; replace p1_0 := p1.cell (i := 0) rfl; replace p1_1 := p1.cell (i := 1) rfl; replace p1_f0 := p1.free 0; replace p1_f1 := p1.free 1; replace p1_lt := p1.lt; replace r0 := r0.ext hE5; replace r0_0 := r0.cell (i := 0) rfl; replace r0_1 := r0.cell (i := 1) rfl; replace r0_2 := r0.cell (i := 2) rfl; replace r0_3 := r0.cell (i := 3) rfl; replace r0_f0 := r0.free 0; replace r0_f1 := r0.free 1; replace r0_f2 := r0.free 2; replace r0_f3 := r0.free 3; replace r0_lt := r0.lt; replace g := g.ext hE5; replace g_0 := g.cell (i := 0) rfl; replace g_1 := g.cell (i := 1) rfl; replace g_f0 := g.free 0; replace g_f1 := g.free 1; replace g_lt := g.lt
  replace hE0 := Ext.trans hE0 hE5
  have hsz5 := hE5.size
  have h3 := h3.ext (Nat.zero_le _) hE5
  clear hEW4 hE5
  rw [HSGN.out]
  go_wp2_with fail
  refine (zintNeg_z false 0 w5 a3 n3 c3 (limbs gg) (gg : Int) h3 (by omega) (Lib.hid (by rw [ival_limbs]; simp))).mono ?_
  rintro e w6 ⟨aG, nG, cG, rfl, h6, hE6⟩
  rw [← HGE.out] at h6 ⊢
  replace p0 := p0.ext hE6; replace p0_0 := p0.cell (i := 0) rfl; replace p0_1 := p0.cell (i := 1) rfl; replace p0_f0 := p0.free 0; replace p0_f1 := p0.free 1; replace p0_lt := p0.lt; replace p1 := p1.ext hE6; replace p1_0 := p1.cell (i := 0) rfl; replace p1_1 := p1.cell (i := 1) rfl; replace p1_f0 := p1.free 0; replace p1_f1 := p1.free 1; replace p1_lt := p1.lt; replace r0 := r0.ext hE6; replace r0_0 := r0.cell (i := 0) rfl; replace r0_1 := r0.cell (i := 1) rfl; replace r0_2 := r0.cell (i := 2) rfl; replace r0_3 := r0.cell (i := 3) rfl; replace r0_f0 := r0.free 0; replace r0_f1 := r0.free 1; replace r0_f2 := r0.free 2; replace r0_f3 := r0.free 3; replace r0_lt := r0.lt; replace g := g.ext hE6; replace g_0 := g.cell (i := 0) rfl; replace g_1 := g.cell (i := 1) rfl; replace g_f0 := g.free 0; replace g_f1 := g.free 1; replace g_lt := g.lt
  replace hE0 := Ext.trans hE0 hE6
  have hsz6 := hE6.size
  have h9 : G.natAbs = gg := by rw [HGE.out, Int.natAbs_neg, Int.natAbs_natCast]
  have hnG : nG ≤ 8796093022208 := by have := h6.len; rw [length_limbs, h9] at this; omega
  clear h9
  clear hE6 h3
  generalize hsG : decide (G < 0) = sG at *
  have HSG : Hid (ival sG (limbs G.natAbs) = G) := Lib.hid (by rw [← hsG]; exact ival_norm _)
  clear hsG
  go_wp2_with fail
  have hGN := NatS.set (NatS.set h6 g_0 (fun x => by simp) (.bool sG)) ((g.set 0 (.bool sG)).cell (i := 1) rfl) (fun x => by simp) (.slice aG nG cG)
  replace g := g.set 0 (.bool sG)
  replace p0 := p0.set_ne 0 (.bool sG) (show w.heap.size ≠ w3.heap.size by omega)
  replace p1 := p1.set_ne 0 (.bool sG) (show w.heap.size + 1 ≠ w3.heap.size by omega)
  replace r0 := r0.set_ne 0 (.bool sG) (show w.heap.size + 1 + 1 ≠ w3.heap.size by omega)
  replace g := g.set 1 (.slice aG nG cG)
  replace p0 := p0.set_ne 1 (.slice aG nG cG) (show w.heap.size ≠ w3.heap.size by omega)
  replace p1 := p1.set_ne 1 (.slice aG nG cG) (show w.heap.size + 1 ≠ w3.heap.size by omega)
  replace r0 := r0.set_ne 1 (.slice aG nG cG) (show w.heap.size + 1 + 1 ≠ w3.heap.size by omega)
  have hKV : ∀ bB_ : Nat, w3.heap.size < bB_ → Kept bB_ w6 (((w6).setCell ⟨w3.heap.size, 0, none⟩ (.bool sG)).setCell ⟨w3.heap.size, 1, none⟩ (.slice aG nG cG)) := fun bB_ h0 => (Kept.trans (kept_set _ _ _ h0) (kept_set _ _ _ h0))
  have hzV : w6.heap.size ≤ (((w6).setCell ⟨w3.heap.size, 0, none⟩ (.bool sG)).setCell ⟨w3.heap.size, 1, none⟩ (.slice aG nG cG)).heap.size := by simp only [World.setCell, Array.size_modify]; exact Nat.le_refl _
  have hSV : ∀ (nB_ : Nat) (uB_ : World), nB_ ≤ w3.heap.size → Below nB_ uB_ w6 → Below nB_ uB_ (((w6).setCell ⟨w3.heap.size, 0, none⟩ (.bool sG)).setCell ⟨w3.heap.size, 1, none⟩ (.slice aG nG cG)) := fun nB_ uB_ h0 hb => (Below.setCell (Below.setCell hb (p := ⟨w3.heap.size, 0, none⟩) h0 (.bool sG)) (p := ⟨w3.heap.size, 1, none⟩) h0 (.slice aG nG cG))
  replace g : Blk (((w6).setCell ⟨w3.heap.size, 0, none⟩ (.bool sG)).setCell ⟨w3.heap.size, 1, none⟩ (.slice aG nG cG)) (w3.heap.size) 27 #[.bool sG, .slice aG nG cG] := g
  generalize hgV : ((w6).setCell ⟨w3.heap.size, 0, none⟩ (.bool sG)).setCell ⟨w3.heap.size, 1, none⟩ (.slice aG nG cG) = V at *
  clear hgV
  replace g_0 := g.cell (i := 0) rfl
  replace g_1 := g.cell (i := 1) rfl
  replace g_f0 := g.free 0
  replace g_f1 := g.free 1
  replace g_lt := g.lt
  replace p0_0 := p0.cell (i := 0) rfl
  replace p0_1 := p0.cell (i := 1) rfl
  replace p0_f0 := p0.free 0
  replace p0_f1 := p0.free 1
  replace p0_lt := p0.lt
  replace p1_0 := p1.cell (i := 0) rfl
  replace p1_1 := p1.cell (i := 1) rfl
  replace p1_f0 := p1.free 0
  replace p1_f1 := p1.free 1
  replace p1_lt := p1.lt
  replace r0_0 := r0.cell (i := 0) rfl
  replace r0_1 := r0.cell (i := 1) rfl
  replace r0_2 := r0.cell (i := 2) rfl
  replace r0_3 := r0.cell (i := 3) rfl
  replace r0_f0 := r0.free 0
  replace r0_f1 := r0.free 1
  replace r0_f2 := r0.free 2
  replace r0_f3 := r0.free 3
  replace r0_lt := r0.lt
  have hr9 : w.heap.size + 1 + 1 < V.heap.size := r0_lt
  have hEV : Ext w V := hSV _ _ (by omega) hE0
  have hG : NatS 0 V aG nG cG (limbs G.natAbs) := hGN.mono (Nat.zero_le _) (Kept.refl _ _)
  have hh := h.ext (Nat.le_refl _) hEV
  have hh2 := h2.ext (Nat.le_refl _) hEV
  clear h6 hE0
  refine (zintExact_z b sG 0 V a aG n c nG cG l _ z G hh hG hn hz HSG hG0 HGZ.out).mono ?_
  rintro e w8 ⟨v8, rfl, ⟨a8, n8, c8, rfl, h8⟩, hE8⟩
  rw [HZQ.out] at h8 ⊢
  replace p0 := p0.ext hE8; replace p0_0 := p0.cell (i := 0) rfl; replace p0_1 := p0.cell (i := 1) rfl; replace p0_f0 := p0.free 0; replace p0_f1 := p0.free 1; replace p0_lt := p0.lt; replace p1 := p1.ext hE8; replace p1_0 := p1.cell (i := 0) rfl; replace p1_1 := p1.cell (i := 1) rfl; replace p1_f0 := p1.free 0; replace p1_f1 := p1.free 1; replace p1_lt := p1.lt; replace r0 := r0.ext hE8; replace r0_0 := r0.cell (i := 0) rfl; replace r0_1 := r0.cell (i := 1) rfl; replace r0_2 := r0.cell (i := 2) rfl; replace r0_3 := r0.cell (i := 3) rfl; replace r0_f0 := r0.free 0; replace r0_f1 := r0.free 1; replace r0_f2 := r0.free 2; replace r0_f3 := r0.free 3; replace r0_lt := r0.lt; replace g := g.ext hE8; replace g_0 := g.cell (i := 0) rfl; replace g_1 := g.cell (i := 1) rfl; replace g_f0 := g.free 0; replace g_f1 := g.free 1; replace g_lt := g.lt
  have hEx := Ext.trans hEV hE8
  have hh2 := hh2.ext (Nat.le_refl _) hE8
  have hG := hG.ext (Nat.le_refl _) hE8
  have hszV := hEV.size
  have hsz8 := hE8.size
  clear hE8 hEV
  go_wp2_with fail
  have k := Blk.new w8 27 #[.bool (decide (q.num < 0)), .slice a8 n8 c8]
  have hEW9 : Ext w8 (w8.alloc (Obj.cells #[.bool (decide (q.num < 0)), .slice a8 n8 c8] 27)) := ((Below.refl _ w8).alloc (by simp) _)
  generalize hgW9 : w8.alloc (Obj.cells #[.bool (decide (q.num < 0)), .slice a8 n8 c8] 27) = W9 at *
  clear hgW9
  replace k_0 := k.cell (i := 0) rfl
  replace k_1 := k.cell (i := 1) rfl
  replace k_f0 := k.free 0
  replace k_f1 := k.free 1
  replace k_lt := k.lt
  replace p0 := p0.ext hEW9; replace p0_0 := p0.cell (i := 0) rfl; replace p0_1 := p0.cell (i := 1) rfl; replace p0_f0 := p0.free 0; replace p0_f1 := p0.free 1; replace p0_lt := p0.lt; replace p1 := p1.ext hEW9; replace p1_0 := p1.cell (i := 0) rfl; replace p1_1 := p1.cell (i := 1) rfl; replace p1_f0 := p1.free 0; replace p1_f1 := p1.free 1; replace p1_lt := p1.lt; replace r0 := r0.ext hEW9; replace r0_0 := r0.cell (i := 0) rfl; replace r0_1 := r0.cell (i := 1) rfl; replace r0_2 := r0.cell (i := 2) rfl; replace r0_3 := r0.cell (i := 3) rfl; replace r0_f0 := r0.free 0; replace r0_f1 := r0.free 1; replace r0_f2 := r0.free 2; replace r0_f3 := r0.free 3; replace r0_lt := r0.lt; replace g := g.ext hEW9; replace g_0 := g.cell (i := 0) rfl; replace g_1 := g.cell (i := 1) rfl; replace g_f0 := g.free 0; replace g_f1 := g.free 1; replace g_lt := g.lt
  refine (zintExact_z b2 sG 0 W9 a2 aG n2 c2 nG cG l2 _ d G (hh2.ext (Nat.le_refl _) hEW9) (hG.ext (Nat.le_refl _) hEW9) hn2 hz2 HSG hG0 HGD.out).mono ?_
  rintro e w10 ⟨v10, rfl, ⟨a10, n10, c10, rfl, h10⟩, hE10⟩
  rw [HDQ.out] at h10 ⊢
  rw [show decide (((q.den : Nat) : Int) < 0) = false by simp]
  rw [Int.natAbs_natCast] at h10
  replace r0 := r0.ext hE10; replace r0_0 := r0.cell (i := 0) rfl; replace r0_1 := r0.cell (i := 1) rfl; replace r0_2 := r0.cell (i := 2) rfl; replace r0_3 := r0.cell (i := 3) rfl; replace r0_f0 := r0.free 0; replace r0_f1 := r0.free 1; replace r0_f2 := r0.free 2; replace r0_f3 := r0.free 3; replace r0_lt := r0.lt; replace k := k.ext hE10; replace k_0 := k.cell (i := 0) rfl; replace k_1 := k.cell (i := 1) rfl; replace k_f0 := k.free 0; replace k_f1 := k.free 1; replace k_lt := k.lt
  have hszW9 := hEW9.size
  have hs10 := hE10.size
  have r4 := (((r0.set 0 (.bool (decide (q.num < 0)))).set 1 (.slice a8 n8 c8)).set 2 (.bool false)).set 3 (.slice a10 n10 c10)
  have h8f := (h8.ext (Nat.le_refl _) (Ext.trans hEW9 hE10)).mono (Nat.le_refl _) (kept_set4 w10 (.bool (decide (q.num < 0))) (.slice a8 n8 c8) (.bool false) (.slice a10 n10 c10) hr9)
  have h10f := (h10.mono (Nat.le_refl _) (kept_set4 w10 (.bool (decide (q.num < 0))) (.slice a8 n8 c8) (.bool false) (.slice a10 n10 c10) (show w.heap.size + 1 + 1 < W9.heap.size by omega)))
  have hE4 := ext_set4 (Ext.trans hEx (Ext.trans hEW9 hE10)) (.bool (decide (q.num < 0))) (.slice a8 n8 c8) (.bool false) (.slice a10 n10 c10) (show w.heap.size ≤ w.heap.size + 1 + 1 by omega)
  have hEa : Ext ((((w10.setCell ⟨w.heap.size + 1 + 1, 0, none⟩ (.bool (decide (q.num < 0)))).setCell ⟨w.heap.size + 1 + 1, 1, none⟩ (.slice a8 n8 c8)).setCell ⟨w.heap.size + 1 + 1, 2, none⟩ (.bool false)).setCell ⟨w.heap.size + 1 + 1, 3, none⟩ (.slice a10 n10 c10)) (((((w10.setCell ⟨w.heap.size + 1 + 1, 0, none⟩ (.bool (decide (q.num < 0)))).setCell ⟨w.heap.size + 1 + 1, 1, none⟩ (.slice a8 n8 c8)).setCell ⟨w.heap.size + 1 + 1, 2, none⟩ (.bool false)).setCell ⟨w.heap.size + 1 + 1, 3, none⟩ (.slice a10 n10 c10)).alloc (Obj.cells #[.bool false, .slice a10 n10 c10] 27)) := (Below.refl _ _).alloc (Nat.le_refl _) _
  have HF : Hid (RRatOk w q (.returned (.tuple #[.agg #[.bool (decide (q.num < 0)), .slice a8 n8 c8, .bool false, .slice a10 n10 c10], .int .i64 0])) (((((w10.setCell ⟨w.heap.size + 1 + 1, 0, none⟩ (.bool (decide (q.num < 0)))).setCell ⟨w.heap.size + 1 + 1, 1, none⟩ (.slice a8 n8 c8)).setCell ⟨w.heap.size + 1 + 1, 2, none⟩ (.bool false)).setCell ⟨w.heap.size + 1 + 1, 3, none⟩ (.slice a10 n10 c10)).alloc (Obj.cells #[.bool false, .slice a10 n10 c10] 27))) :=
    Lib.hid ⟨a8, n8, c8, a10, n10, c10, rfl, (h8f.mono (show w.heap.size ≤ V.heap.size by omega) (Kept.refl _ _)).ext (Nat.le_refl _) hEa, (h10f.mono (show w.heap.size ≤ W9.heap.size by omega) (Kept.refl _ _)).ext (Nat.le_refl _) hEa, Ext.trans hE4 hEa⟩
  have r2 := r4.ext hEa
  have hr0 := r2.cell (i := 0) rfl
  have hr1 := r2.cell (i := 1) rfl
  have hr2 := r2.cell (i := 2) rfl
  have hr3 := r2.cell (i := 3) rfl
  have hqa := cell_alloc k_0 (Obj.cells #[.bool false, .slice a10 n10 c10] 27)
  have hqb := cell_alloc k_1 (Obj.cells #[.bool false, .slice a10 n10 c10] 27)
  generalize decide (q.num < 0) = sq at *
  clear hEx hE4 hEa h8 h10 h8f h10f hE10 hEW9 r2 r4 hh hh2 hG h h2
  go_wp2_with fail
  exact bodyPost_ret (v := .tuple #[.agg #[.bool sq, .slice a8 n8 c8, .bool false, .slice a10 n10 c10], .int .i64 0]) (by simp [results, Try.results68, go_sem, hr0, hr1, hr2, hr3]) rfl HF.out

set_option maxRecDepth 100000 in
set_option maxHeartbeats 8000000 in
theorem ratMake_pos (b b2 : Bool) (w : World) (a a2 : Option Addr) (n c n2 c2 : Nat) (l l2 : Nt) (z d : Int) (q : Rat) (h : NatS 0 w a n c l) (h2 : NatS 0 w a2 n2 c2 l2) (hn : n ≤ 8796093022208) (hn2 : n2 ≤ 8796093022208) (hz : Hid (ival b l = z)) (hz2 : Hid (ival b2 l2 = d)) (hd : 0 < d) (hq : Hid (ratv z d = q)) :
    Calls Try.prog 68 #[.agg #[.bool b, .slice a n c], .agg #[.bool b2, .slice a2 n2 c2]] w (RRatOk w q) := by
  have hd0 : d ≠ 0 := by omega
  obtain ⟨hG0, hGz, hGd, hzq, hdq⟩ := gsgn_facts z d hd0
  rw [hq.out] at hzq hdq
  have hGe : gsgn z d = ((Int.gcd z d : Nat) : Int) := by unfold gsgn; rw [if_neg (by omega)]
  obtain ⟨G, hGG⟩ : ∃ G, gsgn z d = G := ⟨_, rfl⟩
  rw [hGG] at hG0 hGz hGd hzq hdq hGe
  obtain ⟨gg, hgg⟩ : ∃ g, Int.gcd z d = g := ⟨_, rfl⟩
  rw [hgg] at hGe
  have HGG := Lib.hid hgg
  have HGE := Lib.hid hGe
  have hnz : nl z.natAbs ≤ n := nl_of h hz
  have hnd : nl d.natAbs ≤ n2 := nl_of h2 hz2
  have hggn : nl gg ≤ 8796093022208 := by
    have h1 : gg ≤ d.natAbs := by rw [← hgg]; exact Nat.le_of_dvd (Int.natAbs_pos.2 hd0) (Int.gcd_dvd_natAbs_right z d)
    exact Nat.le_trans (nl_mono h1) (by omega)
  have hs0 : (d.sign == 0) = false := by simpa using hd0
  have hs1 : decide (d.sign < 0) = false := by rw [Int.sign_eq_one_of_pos hd]; rfl
  have HZQ := Lib.hid hzq
  have HDQ := Lib.hid hdq
  have HGZ := Lib.hid hGz
  have HGD := Lib.hid hGd
  clear hGG hgg hGe hzq hdq hGz hGd hd
  go_enter Try.func68, Try.ntmps68
  go_wp2_with fail
  have p0 := Blk.new w 27 #[.bool b, .slice a n c]
  have p1 := Blk.new (w.alloc (Obj.cells #[.bool b, .slice a n c] 27)) 27 #[.bool b2, .slice a2 n2 c2]
  replace p0 := p0.ext ((Below.refl _ _).alloc (Nat.le_refl _) (Obj.cells #[.bool b2, .slice a2 n2 c2] 27))
  have r0 := Blk.new ((w.alloc (Obj.cells #[.bool b, .slice a n c] 27)).alloc (Obj.cells #[.bool b2, .slice a2 n2 c2] 27)) 62 #[.bool false, .slice none 0 0, .bool false, .slice none 0 0]
  replace p0 := p0.ext ((Below.refl _ _).alloc (Nat.le_refl _) (Obj.cells #[.bool false, .slice none 0 0, .bool false, .slice none 0 0] 62))
  replace p1 := p1.ext ((Below.refl _ _).alloc (Nat.le_refl _) (Obj.cells #[.bool false, .slice none 0 0, .bool false, .slice none 0 0] 62))
  have hEW : Ext w (((w.alloc (Obj.cells #[.bool b, .slice a n c] 27)).alloc (Obj.cells #[.bool b2, .slice a2 n2 c2] 27)).alloc (Obj.cells #[.bool false, .slice none 0 0, .bool false, .slice none 0 0] 62)) := ((((Below.refl _ w).alloc (by simp) _).alloc (by simp) _).alloc (by simp; omega) _)
  generalize hgW : ((w.alloc (Obj.cells #[.bool b, .slice a n c] 27)).alloc (Obj.cells #[.bool b2, .slice a2 n2 c2] 27)).alloc (Obj.cells #[.bool false, .slice none 0 0, .bool false, .slice none 0 0] 62) = W at *
  clear hgW
  simp only [World.size_alloc] at p1 r0
  have p0_ne_p1 : ¬ w.heap.size = w.heap.size + 1 := by omega
  have p0_ne_r0 : ¬ w.heap.size = w.heap.size + 1 + 1 := by omega
  have p1_ne_p0 : ¬ w.heap.size + 1 = w.heap.size := by omega
  have p1_ne_r0 : ¬ w.heap.size + 1 = w.heap.size + 1 + 1 := by omega
  have r0_ne_p0 : ¬ w.heap.size + 1 + 1 = w.heap.size := by omega
  have r0_ne_p1 : ¬ w.heap.size + 1 + 1 = w.heap.size + 1 := by omega
  replace p0_0 := p0.cell (i := 0) rfl
  replace p0_1 := p0.cell (i := 1) rfl
  replace p0_f0 := p0.free 0
  replace p0_f1 := p0.free 1
  replace p0_lt := p0.lt
  replace p1_0 := p1.cell (i := 0) rfl
  replace p1_1 := p1.cell (i := 1) rfl
  replace p1_f0 := p1.free 0
  replace p1_f1 := p1.free 1
  replace p1_lt := p1.lt
  replace r0_0 := r0.cell (i := 0) rfl
  replace r0_1 := r0.cell (i := 1) rfl
  replace r0_2 := r0.cell (i := 2) rfl
  replace r0_3 := r0.cell (i := 3) rfl
  replace r0_f0 := r0.free 0
  replace r0_f1 := r0.free 1
  replace r0_f2 := r0.free 2
  replace r0_f3 := r0.free 3
  replace r0_lt := r0.lt
  have hWs : w.heap.size + 1 + 1 < W.heap.size := r0_lt
  refine (zintSign_z b2 0 W a2 n2 c2 l2 d (h2.ext (Nat.le_refl _) hEW) (by omega) hz2).mono ?_
  rintro e w1 ⟨rfl, hE1⟩
  replace p0 := p0.ext hE1; replace p0_0 := p0.cell (i := 0) rfl; replace p0_1 := p0.cell (i := 1) rfl; replace p0_f0 := p0.free 0; replace p0_f1 := p0.free 1; replace p0_lt := p0.lt; replace p1 := p1.ext hE1; replace p1_0 := p1.cell (i := 0) rfl; replace p1_1 := p1.cell (i := 1) rfl; replace p1_f0 := p1.free 0; replace p1_f1 := p1.free 1; replace p1_lt := p1.lt; replace r0 := r0.ext hE1; replace r0_0 := r0.cell (i := 0) rfl; replace r0_1 := r0.cell (i := 1) rfl; replace r0_2 := r0.cell (i := 2) rfl; replace r0_3 := r0.cell (i := 3) rfl; replace r0_f0 := r0.free 0; replace r0_f1 := r0.free 1; replace r0_f2 := r0.free 2; replace r0_f3 := r0.free 3; replace r0_lt := r0.lt
  have hE0 := Ext.trans hEW hE1
  have hsz1 := hE1.size
  clear hEW hE1
  obtain ⟨sg, hsg⟩ : ∃ s, d.sign = s := ⟨_, rfl⟩
  rw [hsg] at hs0 hs1 ⊢
  have HSGN := Lib.hid hsg
  clear hsg
  go_wp2_with fail
  have y := Blk.new w1 27 #[.bool b, .slice a n c, .bool b2, .slice a2 n2 c2]
  have hEW2 : Ext w1 (w1.alloc (Obj.cells #[.bool b, .slice a n c, .bool b2, .slice a2 n2 c2] 27)) := ((Below.refl _ w1).alloc (by simp) _)
  generalize hgW2 : w1.alloc (Obj.cells #[.bool b, .slice a n c, .bool b2, .slice a2 n2 c2] 27) = W2 at *
  clear hgW2
  replace y_0 := y.cell (i := 0) rfl
  replace y_1 := y.cell (i := 1) rfl
  replace y_2 := y.cell (i := 2) rfl
  replace y_3 := y.cell (i := 3) rfl
  replace p0 := p0.ext hEW2; replace p0_0 := p0.cell (i := 0) rfl; replace p0_1 := p0.cell (i := 1) rfl; replace p0_f0 := p0.free 0; replace p0_f1 := p0.free 1; replace p0_lt := p0.lt; replace p1 := p1.ext hEW2; replace p1_0 := p1.cell (i := 0) rfl; replace p1_1 := p1.cell (i := 1) rfl; replace p1_f0 := p1.free 0; replace p1_f1 := p1.free 1; replace p1_lt := p1.lt; replace r0 := r0.ext hEW2; replace r0_0 := r0.cell (i := 0) rfl; replace r0_1 := r0.cell (i := 1) rfl; replace r0_2 := r0.cell (i := 2) rfl; replace r0_3 := r0.cell (i := 3) rfl; replace r0_f0 := r0.free 0; replace r0_f1 := r0.free 1; replace r0_f2 := r0.free 2; replace r0_f3 := r0.free 3; replace r0_lt := r0.lt
  replace hE0 := Ext.trans hE0 hEW2
  have hsz2 := hEW2.size
  refine (zintGcd_any 0 W2 _ 2 2 (b, l) (b2, l2) (ints2 y (Nat.zero_le _) (h.ext (Nat.le_refl _) hE0) (h2.ext (Nat.le_refl _) hE0)) (by rw [h.len]; exact hn) (by rw [h2.len]; exact hn2) z d hz hz2).mono ?_
  rintro e w3 ⟨a3, n3, c3, rfl, h3, hE3⟩
  rw [HGG.out] at h3 ⊢
  rw [show decide (((gg : Nat) : Int) < 0) = false by simp]
  rw [Int.natAbs_natCast] at h3
  replace p0 := p0.ext hE3; replace p0_0 := p0.cell (i := 0) rfl; replace p0_1 := p0.cell (i := 1) rfl; replace p0_f0 := p0.free 0; replace p0_f1 := p0.free 1; replace p0_lt := p0.lt; replace p1 := p1.ext hE3; replace p1_0 := p1.cell (i := 0) rfl; replace p1_1 := p1.cell (i := 1) rfl; replace p1_f0 := p1.free 0; replace p1_f1 := p1.free 1; replace p1_lt := p1.lt; replace r0 := r0.ext hE3; replace r0_0 := r0.cell (i := 0) rfl; replace r0_1 := r0.cell (i := 1) rfl; replace r0_2 := r0.cell (i := 2) rfl; replace r0_3 := r0.cell (i := 3) rfl; replace r0_f0 := r0.free 0; replace r0_f1 := r0.free 1; replace r0_f2 := r0.free 2; replace r0_f3 := r0.free 3; replace r0_lt := r0.lt
  replace hE0 := Ext.trans hE0 hE3
  have hsz3 := hE3.size
  clear hEW2 hE3 y y_0 y_1 y_2 y_3
  go_wp2_with fail
  have g := Blk.new w3 27 #[.bool false, .slice a3 n3 c3]
  have hEW4 : Ext w3 (w3.alloc (Obj.cells #[.bool false, .slice a3 n3 c3] 27)) := ((Below.refl _ w3).alloc (by simp) _)
  generalize hgW4 : w3.alloc (Obj.cells #[.bool false, .slice a3 n3 c3] 27) = W4 at *
  clear hgW4
  replace g_0 := g.cell (i := 0) rfl
  replace g_1 := g.cell (i := 1) rfl
  replace g_f0 := g.free 0
  replace g_f1 := g.free 1
  replace g_lt := g.lt
  replace p0 := p0.ext hEW4; replace p0_0 := p0.cell (i := 0) rfl; replace p0_1 := p0.cell (i := 1) rfl; replace p0_f0 := p0.free 0; replace p0_f1 := p0.free 1; replace p0_lt := p0.lt; replace p1 := p1.ext hEW4; replace p1_0 := p1.cell (i := 0) rfl; replace p1_1 := p1.cell (i := 1) rfl; replace p1_f0 := p1.free 0; replace p1_f1 := p1.free 1; replace p1_lt := p1.lt; replace r0 := r0.ext hEW4; replace r0_0 := r0.cell (i := 0) rfl; replace r0_1 := r0.cell (i := 1) rfl; replace r0_2 := r0.cell (i := 2) rfl; replace r0_3 := r0.cell (i := 3) rfl; replace r0_f0 := r0.free 0; replace r0_f1 := r0.free 1; replace r0_f2 := r0.free 2; replace r0_f3 := r0.free 3; replace r0_lt := r0.lt
  replace hE0 := Ext.trans hE0 hEW4
  have hsz4 := hEW4.size
  have h3 := h3.ext (Nat.zero_le _) hEW4
  have hn3 : n3 ≤ 8796093022208 := by have := h3.len; rw [length_limbs] at this; omega
  refine (zintSign_z b2 0 W4 a2 n2 c2 l2 d (h2.ext (Nat.le_refl _) hE0) (by omega) hz2).mono ?_
  rintro e w5 ⟨rfl, hE5⟩
  replace p0 := p0.ext hE5; replace p0_0 := p0.cell (i := 0) rfl; replace p0_1 := p0.cell (i := 1) rfl; replace p0_f0 := p0.free 0; replace p0_f1 := p0.free 1; replace p0_lt := p0.lt; replace p1 := p1.ext hE5; replace p1_0 := p1.cell (i := 0) rfl; replace p1_1 := p1.cell (i := 1) rfl; replace p1_f0 := p1.free 0; replace p1_f1 := p1.free 1; replace p1_lt := p1.lt; replace r0 := r0.ext hE5; replace r0_0 := r0.cell (i := 0) rfl; replace r0_1 := r0.cell (i := 1) rfl; replace r0_2 := r0.cell (i := 2) rfl; replace r0_3 := r0.cell (i := 3) rfl; replace r0_f0 := r0.free 0; replace r0_f1 := r0.free 1; replace r0_f2 := r0.free 2; replace r0_f3 := r0.free 3; replace r0_lt := r0.lt; replace g := g.ext hE5; replace g_0 := g.cell (i := 0) rfl; replace g_1 := g.cell (i := 1) rfl; replace g_f0 := g.free 0; replace g_f1 := g.free 1; replace g_lt := g.lt
  replace hE0 := Ext.trans hE0 hE5
  have hsz5 := hE5.size
  have h3 := h3.ext (Nat.zero_le _) hE5
  clear hEW4 hE5
  rw [HSGN.out]
  have hG : NatS 0 w5 a3 n3 c3 (limbs G.natAbs) := by rw [HGE.out, Int.natAbs_natCast]; exact h3
  have HSG : Hid (ival false (limbs G.natAbs) = G) := Lib.hid (by rw [ival_limbs, HGE.out]; simp)
  have hh := h.ext (Nat.le_refl _) hE0
  have hh2 := h2.ext (Nat.le_refl _) hE0
  have hEV := hE0
  clear h3 hE0
  obtain ⟨V, rfl⟩ : ∃ V : World, V = w5 := ⟨_, rfl⟩
  obtain ⟨aG, rfl⟩ : ∃ x, x = a3 := ⟨_, rfl⟩
  obtain ⟨nG, rfl⟩ : ∃ x, x = n3 := ⟨_, rfl⟩
  obtain ⟨cG, rfl⟩ : ∃ x, x = c3 := ⟨_, rfl⟩
  have hnG := hn3
  have hr9 : w.heap.size + 1 + 1 < V.heap.size := r0_lt
  skip
  go_wp2_with fail
  refine (zintExact_z b false 0 V a aG n c nG cG l _ z G hh hG hn hz HSG hG0 HGZ.out).mono ?_
  rintro e w8 ⟨v8, rfl, ⟨a8, n8, c8, rfl, h8⟩, hE8⟩
  rw [HZQ.out] at h8 ⊢
  replace p0 := p0.ext hE8; replace p0_0 := p0.cell (i := 0) rfl; replace p0_1 := p0.cell (i := 1) rfl; replace p0_f0 := p0.free 0; replace p0_f1 := p0.free 1; replace p0_lt := p0.lt; replace p1 := p1.ext hE8; replace p1_0 := p1.cell (i := 0) rfl; replace p1_1 := p1.cell (i := 1) rfl; replace p1_f0 := p1.free 0; replace p1_f1 := p1.free 1; replace p1_lt := p1.lt; replace r0 := r0.ext hE8; replace r0_0 := r0.cell (i := 0) rfl; replace r0_1 := r0.cell (i := 1) rfl; replace r0_2 := r0.cell (i := 2) rfl; replace r0_3 := r0.cell (i := 3) rfl; replace r0_f0 := r0.free 0; replace r0_f1 := r0.free 1; replace r0_f2 := r0.free 2; replace r0_f3 := r0.free 3; replace r0_lt := r0.lt; replace g := g.ext hE8; replace g_0 := g.cell (i := 0) rfl; replace g_1 := g.cell (i := 1) rfl; replace g_f0 := g.free 0; replace g_f1 := g.free 1; replace g_lt := g.lt
  have hEx := Ext.trans hEV hE8
  have hh2 := hh2.ext (Nat.le_refl _) hE8
  have hG := hG.ext (Nat.le_refl _) hE8
  have hszV := hEV.size
  have hsz8 := hE8.size
  clear hE8 hEV
  go_wp2_with fail
  have k := Blk.new w8 27 #[.bool (decide (q.num < 0)), .slice a8 n8 c8]
  have hEW9 : Ext w8 (w8.alloc (Obj.cells #[.bool (decide (q.num < 0)), .slice a8 n8 c8] 27)) := ((Below.refl _ w8).alloc (by simp) _)
  generalize hgW9 : w8.alloc (Obj.cells #[.bool (decide (q.num < 0)), .slice a8 n8 c8] 27) = W9 at *
  clear hgW9
  replace k_0 := k.cell (i := 0) rfl
  replace k_1 := k.cell (i := 1) rfl
  replace k_f0 := k.free 0
  replace k_f1 := k.free 1
  replace k_lt := k.lt
  replace p0 := p0.ext hEW9; replace p0_0 := p0.cell (i := 0) rfl; replace p0_1 := p0.cell (i := 1) rfl; replace p0_f0 := p0.free 0; replace p0_f1 := p0.free 1; replace p0_lt := p0.lt; replace p1 := p1.ext hEW9; replace p1_0 := p1.cell (i := 0) rfl; replace p1_1 := p1.cell (i := 1) rfl; replace p1_f0 := p1.free 0; replace p1_f1 := p1.free 1; replace p1_lt := p1.lt; replace r0 := r0.ext hEW9; replace r0_0 := r0.cell (i := 0) rfl; replace r0_1 := r0.cell (i := 1) rfl; replace r0_2 := r0.cell (i := 2) rfl; replace r0_3 := r0.cell (i := 3) rfl; replace r0_f0 := r0.free 0; replace r0_f1 := r0.free 1; replace r0_f2 := r0.free 2; replace r0_f3 := r0.free 3; replace r0_lt := r0.lt; replace g := g.ext hEW9; replace g_0 := g.cell (i := 0) rfl; replace g_1 := g.cell (i := 1) rfl; replace g_f0 := g.free 0; replace g_f1 := g.free 1; replace g_lt := g.lt
  refine (zintExact_z b2 false 0 W9 a2 aG n2 c2 nG cG l2 _ d G (hh2.ext (Nat.le_refl _) hEW9) (hG.ext (Nat.le_refl _) hEW9) hn2 hz2 HSG hG0 HGD.out).mono ?_
  rintro e w10 ⟨v10, rfl, ⟨a10, n10, c10, rfl, h10⟩, hE10⟩
  rw [HDQ.out] at h10 ⊢
  rw [show decide (((q.den : Nat) : Int) < 0) = false by simp]
  rw [Int.natAbs_natCast] at h10
  replace r0 := r0.ext hE10; replace r0_0 := r0.cell (i := 0) rfl; replace r0_1 := r0.cell (i := 1) rfl; replace r0_2 := r0.cell (i := 2) rfl; replace r0_3 := r0.cell (i := 3) rfl; replace r0_f0 := r0.free 0; replace r0_f1 := r0.free 1; replace r0_f2 := r0.free 2; replace r0_f3 := r0.free 3; replace r0_lt := r0.lt; replace k := k.ext hE10; replace k_0 := k.cell (i := 0) rfl; replace k_1 := k.cell (i := 1) rfl; replace k_f0 := k.free 0; replace k_f1 := k.free 1; replace k_lt := k.lt
  have hszW9 := hEW9.size
  have hs10 := hE10.size
  have r4 := (((r0.set 0 (.bool (decide (q.num < 0)))).set 1 (.slice a8 n8 c8)).set 2 (.bool false)).set 3 (.slice a10 n10 c10)
  have h8f := (h8.ext (Nat.le_refl _) (Ext.trans hEW9 hE10)).mono (Nat.le_refl _) (kept_set4 w10 (.bool (decide (q.num < 0))) (.slice a8 n8 c8) (.bool false) (.slice a10 n10 c10) hr9)
  have h10f := (h10.mono (Nat.le_refl _) (kept_set4 w10 (.bool (decide (q.num < 0))) (.slice a8 n8 c8) (.bool false) (.slice a10 n10 c10) (show w.heap.size + 1 + 1 < W9.heap.size by omega)))
  have hE4 := ext_set4 (Ext.trans hEx (Ext.trans hEW9 hE10)) (.bool (decide (q.num < 0))) (.slice a8 n8 c8) (.bool false) (.slice a10 n10 c10) (show w.heap.size ≤ w.heap.size + 1 + 1 by omega)
  have hEa : Ext ((((w10.setCell ⟨w.heap.size + 1 + 1, 0, none⟩ (.bool (decide (q.num < 0)))).setCell ⟨w.heap.size + 1 + 1, 1, none⟩ (.slice a8 n8 c8)).setCell ⟨w.heap.size + 1 + 1, 2, none⟩ (.bool false)).setCell ⟨w.heap.size + 1 + 1, 3, none⟩ (.slice a10 n10 c10)) (((((w10.setCell ⟨w.heap.size + 1 + 1, 0, none⟩ (.bool (decide (q.num < 0)))).setCell ⟨w.heap.size + 1 + 1, 1, none⟩ (.slice a8 n8 c8)).setCell ⟨w.heap.size + 1 + 1, 2, none⟩ (.bool false)).setCell ⟨w.heap.size + 1 + 1, 3, none⟩ (.slice a10 n10 c10)).alloc (Obj.cells #[.bool false, .slice a10 n10 c10] 27)) := (Below.refl _ _).alloc (Nat.le_refl _) _
  have HF : Hid (RRatOk w q (.returned (.tuple #[.agg #[.bool (decide (q.num < 0)), .slice a8 n8 c8, .bool false, .slice a10 n10 c10], .int .i64 0])) (((((w10.setCell ⟨w.heap.size + 1 + 1, 0, none⟩ (.bool (decide (q.num < 0)))).setCell ⟨w.heap.size + 1 + 1, 1, none⟩ (.slice a8 n8 c8)).setCell ⟨w.heap.size + 1 + 1, 2, none⟩ (.bool false)).setCell ⟨w.heap.size + 1 + 1, 3, none⟩ (.slice a10 n10 c10)).alloc (Obj.cells #[.bool false, .slice a10 n10 c10] 27))) :=
    Lib.hid ⟨a8, n8, c8, a10, n10, c10, rfl, (h8f.mono (show w.heap.size ≤ V.heap.size by omega) (Kept.refl _ _)).ext (Nat.le_refl _) hEa, (h10f.mono (show w.heap.size ≤ W9.heap.size by omega) (Kept.refl _ _)).ext (Nat.le_refl _) hEa, Ext.trans hE4 hEa⟩
  have r2 := r4.ext hEa
  have hr0 := r2.cell (i := 0) rfl
  have hr1 := r2.cell (i := 1) rfl
  have hr2 := r2.cell (i := 2) rfl
  have hr3 := r2.cell (i := 3) rfl
  have hqa := cell_alloc k_0 (Obj.cells #[.bool false, .slice a10 n10 c10] 27)
  have hqb := cell_alloc k_1 (Obj.cells #[.bool false, .slice a10 n10 c10] 27)
  generalize decide (q.num < 0) = sq at *
  clear hEx hE4 hEa h8 h10 h8f h10f hE10 hEW9 r2 r4 hh hh2 hG h h2
  go_wp2_with fail
  exact bodyPost_ret (v := .tuple #[.agg #[.bool sq, .slice a8 n8 c8, .bool false, .slice a10 n10 c10], .int .i64 0]) (by simp [results, Try.results68, go_sem, hr0, hr1, hr2, hr3]) rfl HF.out
end Go.Proofs.Ytbhenelehhiakaa
/-
  rat: Norm, Common's closure.
-/
namespace Go.Proofs.Ytbhenelehhiakaa
open Go.RowKit

theorem ratMake_any (b b2 : Bool) (w : World) (a a2 : Option Addr) (n c n2 c2 : Nat) (l l2 : Nt) (z d : Int) (q : Rat) (h : NatS 0 w a n c l) (h2 : NatS 0 w a2 n2 c2 l2) (hn : n ≤ 8796093022208) (hn2 : n2 ≤ 8796093022208) (hz : Hid (ival b l = z)) (hz2 : Hid (ival b2 l2 = d)) (hd : d ≠ 0) (hq : Hid (ratv z d = q)) :
    Calls Try.prog 68 #[.agg #[.bool b, .slice a n c], .agg #[.bool b2, .slice a2 n2 c2]] w (RRatOk w q) := by
  by_cases h0 : d < 0
  · exact ratMake_neg b b2 w a a2 n c n2 c2 l l2 z d q h h2 hn hn2 hz hz2 h0 hq
  · exact ratMake_pos b b2 w a a2 n c n2 c2 l l2 z d q h h2 hn hn2 hz hz2 (by omega) hq

set_option maxHeartbeats 2000000 in
theorem ratNorm_any (K : Nat) (hK : K ≤ 8796093022208) (w : World) (b : Bool) (a : Option Addr) (n c : Nat) (b2 : Bool) (a2 : Option Addr) (n2 c2 : Nat) (x : Int × Int) (h : (rFr K).ok 0 w [.bool b, .slice a n c, .bool b2, .slice a2 n2 c2] x) (hd : x.2 ≠ 0) (q : Rat) (hq : Hid (frR x = q)) :
    Calls Try.prog 119 #[.agg #[.bool b, .slice a n c, .bool b2, .slice a2 n2 c2]] w (RRatOk w q) := by
  obtain ⟨_, _, _, _, _, _, _, _, hcs, l, l2, h1, h2, hv1, hv2, hn, hn2⟩ := h
  cases hcs
  have HV1 := Lib.hid hv1
  have HV2 := Lib.hid hv2
  clear hv1 hv2
  go_enter Try.func119, Try.ntmps119
  go_wp2_with fail
  have p0 := Blk.new w 62 #[.bool b, .slice a n c, .bool b2, .slice a2 n2 c2]
  have r := Blk.new (w.alloc (Obj.cells #[.bool b, .slice a n c, .bool b2, .slice a2 n2 c2] 62)) 62 #[.bool false, .slice none 0 0, .bool false, .slice none 0 0]
  replace p0 := p0.ext ((Below.refl _ _).alloc (Nat.le_refl _) (Obj.cells #[.bool false, .slice none 0 0, .bool false, .slice none 0 0] 62))
  have hEW : Ext w ((w.alloc (Obj.cells #[.bool b, .slice a n c, .bool b2, .slice a2 n2 c2] 62)).alloc (Obj.cells #[.bool false, .slice none 0 0, .bool false, .slice none 0 0] 62)) := (((Below.refl _ w).alloc (by simp) _).alloc (by simp) _)
  generalize hgW : (w.alloc (Obj.cells #[.bool b, .slice a n c, .bool b2, .slice a2 n2 c2] 62)).alloc (Obj.cells #[.bool false, .slice none 0 0, .bool false, .slice none 0 0] 62) = W at *
  clear hgW
  simp only [World.size_alloc] at r
  have p0_ne_r : ¬ w.heap.size = w.heap.size + 1 := by omega
  have r_ne_p0 : ¬ w.heap.size + 1 = w.heap.size := by omega
  replace p0_0 := p0.cell (i := 0) rfl
  replace p0_1 := p0.cell (i := 1) rfl
  replace p0_2 := p0.cell (i := 2) rfl
  replace p0_3 := p0.cell (i := 3) rfl
  replace r_0 := r.cell (i := 0) rfl
  replace r_1 := r.cell (i := 1) rfl
  replace r_2 := r.cell (i := 2) rfl
  replace r_3 := r.cell (i := 3) rfl
  replace r_f0 := r.free 0
  replace r_f1 := r.free 1
  replace r_f2 := r.free 2
  replace r_f3 := r.free 3
  replace r_lt := r.lt
  have hrB := r_lt
  refine (ratMake_any b b2 W a a2 n c n2 c2 l l2 x.1 x.2 q (h1.ext (Nat.le_refl _) hEW) (h2.ext (Nat.le_refl _) hEW) (by omega) (by omega) HV1 HV2 hd hq).mono ?_
  rintro e w1 ⟨a3, n3, c3, a4, n4, c4, rfl, h3, h4, hE1⟩
  replace r := r.ext hE1; replace r_0 := r.cell (i := 0) rfl; replace r_1 := r.cell (i := 1) rfl; replace r_2 := r.cell (i := 2) rfl; replace r_3 := r.cell (i := 3) rfl; replace r_f0 := r.free 0; replace r_f1 := r.free 1; replace r_f2 := r.free 2; replace r_f3 := r.free 3; replace r_lt := r.lt
  have hE0 := Ext.trans hEW hE1
  have HF : Hid (RRatOk w q (.returned (.tuple #[.agg #[.bool (decide (q.num < 0)), .slice a3 n3 c3, .bool false, .slice a4 n4 c4], .int .i64 0])) ((((w1.setCell ⟨w.heap.size + 1, 0, none⟩ (.bool (decide (q.num < 0)))).setCell ⟨w.heap.size + 1, 1, none⟩ (.slice a3 n3 c3)).setCell ⟨w.heap.size + 1, 2, none⟩ (.bool false)).setCell ⟨w.heap.size + 1, 3, none⟩ (.slice a4 n4 c4))) :=
    Lib.hid ⟨a3, n3, c3, a4, n4, c4, rfl, (h3.mono (Nat.le_refl _) (kept_set4 _ _ _ _ _ hrB)).mono hEW.size (Kept.refl _ _), (h4.mono (Nat.le_refl _) (kept_set4 _ _ _ _ _ hrB)).mono hEW.size (Kept.refl _ _), ext_set4 hE0 _ _ _ _ (by omega)⟩
  generalize decide (q.num < 0) = sq at *
  have r2 := (((r.set 0 (.bool sq)).set 1 (.slice a3 n3 c3)).set 2 (.bool false)).set 3 (.slice a4 n4 c4)
  have hr0 := r2.cell (i := 0) rfl
  have hr1 := r2.cell (i := 1) rfl
  have hr2 := r2.cell (i := 2) rfl
  have hr3 := r2.cell (i := 3) rfl
  clear h1 h2 h3 h4 hE1 hE0 hEW r2
  go_wp2_with fail
  exact bodyPost_ret (v := .tuple #[.agg #[.bool sq, .slice a3 n3 c3, .bool false, .slice a4 n4 c4], .int .i64 0]) (by simp [results, Try.results119, go_sem, hr0, hr1, hr2, hr3]) rfl HF.out

set_option maxHeartbeats 2000000 in
theorem ratNorm_err (K : Nat) (hK : K ≤ 8796093022208) (w : World) (b : Bool) (a : Option Addr) (n c : Nat) (b2 : Bool) (a2 : Option Addr) (n2 c2 : Nat) (x : Int × Int) (h : (rFr K).ok 0 w [.bool b, .slice a n c, .bool b2, .slice a2 n2 c2] x) (hd : x.2 = 0) :
    Calls Try.prog 119 #[.agg #[.bool b, .slice a n c, .bool b2, .slice a2 n2 c2]] w (RRatErr w 6) := by
  obtain ⟨_, _, _, _, _, _, _, _, hcs, l, l2, h1, h2, hv1, hv2, hn, hn2⟩ := h
  cases hcs
  have HV2 : Hid (ival b2 l2 = 0) := Lib.hid (hv2.trans hd)
  clear hv1 hv2 hd
  go_enter Try.func119, Try.ntmps119
  go_wp2_with fail
  have p0 := Blk.new w 62 #[.bool b, .slice a n c, .bool b2, .slice a2 n2 c2]
  have r := Blk.new (w.alloc (Obj.cells #[.bool b, .slice a n c, .bool b2, .slice a2 n2 c2] 62)) 62 #[.bool false, .slice none 0 0, .bool false, .slice none 0 0]
  replace p0 := p0.ext ((Below.refl _ _).alloc (Nat.le_refl _) (Obj.cells #[.bool false, .slice none 0 0, .bool false, .slice none 0 0] 62))
  have hEW : Ext w ((w.alloc (Obj.cells #[.bool b, .slice a n c, .bool b2, .slice a2 n2 c2] 62)).alloc (Obj.cells #[.bool false, .slice none 0 0, .bool false, .slice none 0 0] 62)) := (((Below.refl _ w).alloc (by simp) _).alloc (by simp) _)
  generalize hgW : (w.alloc (Obj.cells #[.bool b, .slice a n c, .bool b2, .slice a2 n2 c2] 62)).alloc (Obj.cells #[.bool false, .slice none 0 0, .bool false, .slice none 0 0] 62) = W at *
  clear hgW
  simp only [World.size_alloc] at r
  have p0_ne_r : ¬ w.heap.size = w.heap.size + 1 := by omega
  have r_ne_p0 : ¬ w.heap.size + 1 = w.heap.size := by omega
  replace p0_0 := p0.cell (i := 0) rfl
  replace p0_1 := p0.cell (i := 1) rfl
  replace p0_2 := p0.cell (i := 2) rfl
  replace p0_3 := p0.cell (i := 3) rfl
  replace r_0 := r.cell (i := 0) rfl
  replace r_1 := r.cell (i := 1) rfl
  replace r_2 := r.cell (i := 2) rfl
  replace r_3 := r.cell (i := 3) rfl
  replace r_f0 := r.free 0
  replace r_f1 := r.free 1
  replace r_f2 := r.free 2
  replace r_f3 := r.free 3
  replace r_lt := r.lt
  have hrB := r_lt
  refine (ratMake_err b b2 W a a2 n c n2 c2 l2 (h2.ext (Nat.le_refl _) hEW) (by omega) HV2).mono ?_
  rintro e w1 ⟨rfl, hE1⟩
  replace r := r.ext hE1; replace r_0 := r.cell (i := 0) rfl; replace r_1 := r.cell (i := 1) rfl; replace r_2 := r.cell (i := 2) rfl; replace r_3 := r.cell (i := 3) rfl; replace r_f0 := r.free 0; replace r_f1 := r.free 1; replace r_f2 := r.free 2; replace r_f3 := r.free 3; replace r_lt := r.lt
  have hE0 := Ext.trans hEW hE1
  have HF : Hid (RRatErr w 6 (.returned (.tuple #[.agg #[.bool false, .slice none 0 0, .bool false, .slice none 0 0], .int .i64 6])) ((((w1.setCell ⟨w.heap.size + 1, 0, none⟩ (.bool false)).setCell ⟨w.heap.size + 1, 1, none⟩ (.slice none 0 0)).setCell ⟨w.heap.size + 1, 2, none⟩ (.bool false)).setCell ⟨w.heap.size + 1, 3, none⟩ (.slice none 0 0))) :=
    Lib.hid ⟨rfl, ext_set4 hE0 _ _ _ _ (by omega)⟩
  have r2 := (((r.set 0 (.bool false)).set 1 (.slice none 0 0)).set 2 (.bool false)).set 3 (.slice none 0 0)
  have hr0 := r2.cell (i := 0) rfl
  have hr1 := r2.cell (i := 1) rfl
  have hr2 := r2.cell (i := 2) rfl
  have hr3 := r2.cell (i := 3) rfl
  clear h1 h2 hE1 hE0 hEW r2
  go_wp2_with fail
  exact bodyPost_ret (v := .tuple #[.agg #[.bool false, .slice none 0 0, .bool false, .slice none 0 0], .int .i64 6]) (by simp [results, Try.results119, go_sem, hr0, hr1, hr2, hr3]) rfl HF.out

/-- a fraction in normal form -/
def rRatN : Rd Rat where
  size := 4
  ok B w cs q := ∃ a n c a2 n2 c2, cs = [.bool (decide (q.num < 0)), .slice a n c, .bool false, .slice a2 n2 c2] ∧ NatS B w a n c (limbs q.num.natAbs) ∧ NatS B w a2 n2 c2 (limbs q.den)
  len h := by obtain ⟨a, n, c, a2, n2, c2, h, _⟩ := h; rw [h]; rfl
  mono h hB hk := by
    obtain ⟨a, n, c, a2, n2, c2, h, h1, h2⟩ := h
    exact ⟨a, n, c, a2, n2, c2, h, h1.mono hB hk, h2.mono hB hk⟩
theorem Sl.getRatN {B : Nat} {w : World} {a : Option Addr} {n c : Nat} {xs : List Rat} (h : Sl rRatN B w a n c xs) {i : Nat} (hi : i < n) : ∃ b o a1 n1 c1 a2 n2 c2 q, a = some ⟨b, o, none⟩ ∧ b < w.heap.size ∧ xs[i]? = some q ∧ w.cell? ⟨b, o + i * 4, none⟩ = some (.bool (decide (q.num < 0))) ∧ w.cell? ⟨b, o + i * 4 + 1, none⟩ = some (.slice a1 n1 c1) ∧ w.cell? ⟨b, o + i * 4 + 2, none⟩ = some (.bool false) ∧ w.cell? ⟨b, o + i * 4 + 3, none⟩ = some (.slice a2 n2 c2) ∧ NatS 0 w a1 n1 c1 (limbs q.num.natAbs) ∧ NatS 0 w a2 n2 c2 (limbs q.den) := by
  have hl : i < xs.length := by rw [h.len]; exact hi
  obtain ⟨b, o, cs, ha, ⟨a1, n1, c1, a2, n2, c2, rfl, h1, h2⟩, hc⟩ := h.at_ i hl
  exact ⟨b, o, a1, n1, c1, a2, n2, c2, _, ha, cel_lt (hc 0 (by simp)), List.getElem?_eq_getElem hl, (hc 0 (by simp)).cell, (hc 1 (by simp)).cell, (hc 2 (by simp)).cell, (hc 3 (by simp)).cell, Sl.zero h1, Sl.zero h2⟩

/-- a common denominator and numerators, and no error, as made's closure answers -/
def RCommonT (w : World) (D : Nat) (zs : List Int) (e : Ending) (w' : World) : Prop := ∃ a n c a2 n2 c2, e = .returned (.tuple #[.agg #[.bool false, .slice a n c, .slice a2 n2 c2], .int .i64 0]) ∧ NatS w.heap.size w' a n c (limbs D) ∧ Sl rIntN w.heap.size w' a2 n2 c2 zs ∧ Ext w w'

theorem int_zero_lt_den (q : Rat) : ((q.den : Nat) : Int) ≠ 0 := by have := q.den_pos; omega

/-- words that lay before the own block keep through its growth -/
theorem NatS.grown {B : Nat} {W0 w w' : World} {a : Option Addr} {n c : Nat} {l : Nt} {row : Option Nat} (h : NatS B w a n c l) (h0 : NatS B W0 a n c l) (hg : w.grownBy w' row) (hr : ∀ g, row = some g → W0.heap.size ≤ g) : NatS B w' a n c l :=
  ⟨h.len, h.cap, h.most, h.nil, fun k hk => by
    obtain ⟨b, o, cs, ha, hr1, hc⟩ := h.at_ k hk
    obtain ⟨b2, o2, cs2, ha2, hr2, hc2⟩ := h0.at_ k hk
    rw [ha] at ha2; cases ha2
    have hb : b < W0.heap.size := cel_lt (hc2 0 (by rw [hr2.1]; simp))
    refine ⟨b, o, cs, ha, hr1, fun j hj => ?_⟩
    have e : w'.heap[b]? = w.heap[b]? := hg.block b (cel_lt (hc j hj)) (fun e => by have := hr b e.symm; omega)
    obtain ⟨h1, h2, h3⟩ := hc j hj
    exact ⟨h1, (World.cell?_of_block (a := ⟨b, _, none⟩) e).trans h2, (World.frozen?_of_block (a := ⟨b, _, none⟩) e).trans h3⟩⟩

/-- the state of the second loop: the box with its list -/
structure CSt (w : World) (mb : Nat) (B : Nat) (a6 : Option Addr) (n6 c6 : Nat) (zs : List Int) (j : Nat) (wx : World) : Prop where
  ex : ∃ vo css, Blk wx mb 132 #[.bool false, .slice a6 n6 c6, vo] ∧ Grp rIntN B 27 wx vo j zs css
  r : Blk wx w.heap.size 132 #[.bool false, .slice none 0 0, .slice none 0 0]
  low : Ext w wx
  sz : B ≤ wx.heap.size

set_option maxRecDepth 100000 in
set_option maxHeartbeats 8000000 in
theorem common1_any (K KL : Nat) (hK : K ≤ 8796093022208) (hKL : KL ≤ 8796093022208) (w : World) (a : Option Addr) (n c : Nat) (qs : List Rat) (h : Sl rRatN 0 w a n c qs) (hq : Hid (∀ q ∈ qs, nl q.num.natAbs ≤ K ∧ nl q.den ≤ K)) (hL : nl (comDen qs) ≤ KL) (D : Nat) (hD : Hid (comDen qs = D)) (hn40 : n ≤ 1099511627776) :
    Calls Try.prog 96 #[.slice a n c] w (RCommonT w D (qs.map (comNum D))) := by
  have HS := Lib.hid h
  have hmost := h.most
  have hcap := h.cap
  have hlen := Lib.hid h.len
  clear h
  go_enter Try.func96, Try.ntmps96
  go_wp2_with fail
  have r := Blk.new w 132 #[.bool false, .slice none 0 0, .slice none 0 0]
  have hEW : Ext w (w.alloc (Obj.cells #[.bool false, .slice none 0 0, .slice none 0 0] 132)) := ((Below.refl _ w).alloc (by simp) _)
  generalize hgW : w.alloc (Obj.cells #[.bool false, .slice none 0 0, .slice none 0 0] 132) = W at *
  clear hgW
  replace r_0 := r.cell (i := 0) rfl
  replace r_1 := r.cell (i := 1) rfl
  replace r_2 := r.cell (i := 2) rfl
  replace r_f0 := r.free 0
  replace r_f1 := r.free 1
  replace r_f2 := r.free 2
  replace r_lt := r.lt
  have hW : w.heap.size + 1 ≤ W.heap.size := r_lt
  refine (zintOf_any 1 W (by omega) (by omega)).mono ?_
  rintro e w1 ⟨a3, n3, c3, rfl, h3, hE1⟩
  replace r := r.ext hE1; replace r_0 := r.cell (i := 0) rfl; replace r_1 := r.cell (i := 1) rfl; replace r_2 := r.cell (i := 2) rfl; replace r_f0 := r.free 0; replace r_f1 := r.free 1; replace r_f2 := r.free 2; replace r_lt := r.lt
  rw [show decide ((1 : Int) < 0) = false from rfl]
  have hE0 := Ext.trans hEW hE1
  replace h3 := h3.mono hW (Kept.refl _ _)
  clear hEW
  go_wp2_with fail
  have m := Blk.new w1 132 #[.bool false, .slice a3 n3 c3, .slice none 0 0]
  have hEW2 : Ext w1 (w1.alloc (Obj.cells #[.bool false, .slice a3 n3 c3, .slice none 0 0] 132)) := ((Below.refl _ w1).alloc (by simp) _)
  generalize hgW2 : w1.alloc (Obj.cells #[.bool false, .slice a3 n3 c3, .slice none 0 0] 132) = W2 at *
  clear hgW2
  replace m_0 := m.cell (i := 0) rfl
  replace m_1 := m.cell (i := 1) rfl
  replace m_2 := m.cell (i := 2) rfl
  replace m_f0 := m.free 0
  replace m_f1 := m.free 1
  replace m_f2 := m.free 2
  replace m_lt := m.lt
  replace r := r.ext hEW2; replace r_0 := r.cell (i := 0) rfl; replace r_1 := r.cell (i := 1) rfl; replace r_2 := r.cell (i := 2) rfl; replace r_f0 := r.free 0; replace r_f1 := r.free 1; replace r_f2 := r.free 2; replace r_lt := r.lt
  replace h3 := h3.ext (Nat.le_refl _) hEW2
  replace hE0 := Ext.trans hE0 hEW2
  have hw1 : w.heap.size + 1 ≤ w1.heap.size := Nat.le_trans hW hE1.size
  have HM0 : Hid (∃ a3 n3 c3, Blk W2 w1.heap.size 132 #[.bool false, .slice a3 n3 c3, .slice none 0 0] ∧ NatS (w.heap.size + 1) W2 a3 n3 c3 (limbs (comDen (qs.take 0)))) := Lib.hid ⟨a3, n3, c3, m, h3⟩
  have HR0 := Lib.hid r
  have HE0 := Lib.hid hE0
  clear h3 hE0 hE1 hEW2 m m_0 m_1 m_2 m_f0 m_f1 m_f2 m_lt r r_0 r_1 r_2 r_f0 r_f1 r_f2 r_lt
  go_loopg [15] n (fun q vi wr => ∃ (i : Nat), i ≤ n ∧ q = n - i ∧ vi = .int .i64 (i : Int) ∧ Hid (∃ a3 n3 c3, Blk wr w1.heap.size 132 #[.bool false, .slice a3 n3 c3, .slice none 0 0] ∧ NatS (w.heap.size + 1) wr a3 n3 c3 (limbs (comDen (qs.take i)))) ∧ Hid (Blk wr w.heap.size 132 #[.bool false, .slice none 0 0, .slice none 0 0]) ∧ Hid (Ext w wr))
  case atStart => exact ⟨0, Nat.zero_le _, rfl, rfl, HM0, HR0, HE0⟩
  case round =>
    clear HM0 HR0 HE0
    obtain ⟨i, hi, hq2, rfl, HM, HR, HE⟩ := hrel
    by_cases hin : i < n
    · obtain ⟨b5, o5, a5, n5, c5, a7, n7, c7, x, rfl, hb5, hzi, hc5, hc6, hc7, hc8, h5, h7⟩ := HS.out.getRatN hin
      have hc5 := (HE.out.cell (p := ⟨b5, o5 + i * 4, none⟩) hb5).trans hc5
      have hc6 := (HE.out.cell (p := ⟨b5, o5 + i * 4 + 1, none⟩) hb5).trans hc6
      have hc7 := (HE.out.cell (p := ⟨b5, o5 + i * 4 + 2, none⟩) hb5).trans hc7
      have hc8 := (HE.out.cell (p := ⟨b5, o5 + i * 4 + 3, none⟩) hb5).trans hc8
      replace h7 := h7.ext (Nat.le_refl _) HE.out
      obtain ⟨hil, hzi'⟩ := List.getElem?_eq_some_iff.1 hzi
      have hts : qs.take (i + 1) = qs.take i ++ [x] := by rw [List.take_succ_eq_append_getElem hil, hzi']
      have HX : Hid (comDen (qs.take (i + 1)) = Nat.lcm (comDen (qs.take i)) x.den) := Lib.hid (by rw [hts, comDen_snoc])
      have hnm : nl (comDen (qs.take i)) ≤ KL := nl_comDen _ (qs.drop i) (by rw [List.take_append_drop]; exact hL)
      have hxd : nl x.den ≤ K := (hq.out x (List.mem_of_getElem? hzi)).2
      obtain ⟨a6, n6, c6, hm6, h6⟩ := HM.out
      generalize comDen (qs.take i) = M at *
      have r := HR.out
      have m := hm6
      have H7 := Lib.hid h7
      clear hzi hzi' hts hm6 HR HM h5 h7
      generalize decide (x.num < 0) = s5 at *
      skip
      skip
      replace r_0 := r.cell (i := 0) rfl
      replace r_1 := r.cell (i := 1) rfl
      replace r_2 := r.cell (i := 2) rfl
      replace r_f0 := r.free 0
      replace r_f1 := r.free 1
      replace r_f2 := r.free 2
      replace r_lt := r.lt
      replace m_0 := m.cell (i := 0) rfl
      replace m_1 := m.cell (i := 1) rfl
      replace m_2 := m.cell (i := 2) rfl
      replace m_f0 := m.free 0
      replace m_f1 := m.free 1
      replace m_f2 := m.free 2
      replace m_lt := m.lt
      have hm4 := m_lt
      go_wp2_with fail
      clear hc5 hc6 hc7 hc8
      have y := Blk.new wr 62 #[.bool s5, .slice a5 n5 c5, .bool false, .slice a7 n7 c7]
      have k := Blk.new (wr.alloc (Obj.cells #[.bool s5, .slice a5 n5 c5, .bool false, .slice a7 n7 c7] 62)) 27 #[.bool false, .slice a6 n6 c6, .bool false, .slice a7 n7 c7]
      replace y := y.ext ((Below.refl _ _).alloc (Nat.le_refl _) (Obj.cells #[.bool false, .slice a6 n6 c6, .bool false, .slice a7 n7 c7] 27))
      have hEW3 : Ext wr ((wr.alloc (Obj.cells #[.bool s5, .slice a5 n5 c5, .bool false, .slice a7 n7 c7] 62)).alloc (Obj.cells #[.bool false, .slice a6 n6 c6, .bool false, .slice a7 n7 c7] 27)) := (((Below.refl _ wr).alloc (by simp) _).alloc (by simp) _)
      generalize hgW3 : (wr.alloc (Obj.cells #[.bool s5, .slice a5 n5 c5, .bool false, .slice a7 n7 c7] 62)).alloc (Obj.cells #[.bool false, .slice a6 n6 c6, .bool false, .slice a7 n7 c7] 27) = W3 at *
      clear hgW3
      simp only [World.size_alloc] at k
      have y_ne_k : ¬ wr.heap.size = wr.heap.size + 1 := by omega
      have k_ne_y : ¬ wr.heap.size + 1 = wr.heap.size := by omega
      replace y_0 := y.cell (i := 0) rfl
      replace y_1 := y.cell (i := 1) rfl
      replace y_2 := y.cell (i := 2) rfl
      replace y_3 := y.cell (i := 3) rfl
      replace k_0 := k.cell (i := 0) rfl
      replace k_1 := k.cell (i := 1) rfl
      replace k_2 := k.cell (i := 2) rfl
      replace k_3 := k.cell (i := 3) rfl
      replace r := r.ext hEW3; replace r_0 := r.cell (i := 0) rfl; replace r_1 := r.cell (i := 1) rfl; replace r_2 := r.cell (i := 2) rfl; replace r_f0 := r.free 0; replace r_f1 := r.free 1; replace r_f2 := r.free 2; replace r_lt := r.lt; replace m := m.ext hEW3; replace m_0 := m.cell (i := 0) rfl; replace m_1 := m.cell (i := 1) rfl; replace m_2 := m.cell (i := 2) rfl; replace m_f0 := m.free 0; replace m_f1 := m.free 1; replace m_f2 := m.free 2; replace m_lt := m.lt
      have hsz := hEW3.size
      refine (zintLcm_any 0 W3 _ 2 2 (false, limbs M) (false, limbs x.den) (ints2 k (Nat.zero_le _) (h6.ext (Nat.zero_le _) hEW3) (H7.out.ext (Nat.le_refl _) hEW3)) (by rw [length_limbs]; omega) (by rw [length_limbs]; omega) (M : Int) (x.den : Int) (Lib.hid (by unfold iv; rw [ival_limbs]; rfl)) (Lib.hid (by unfold iv; rw [ival_limbs]; rfl))).mono ?_
      rintro e w6 ⟨a10, n10, c10, rfl, h10, hE6⟩
      rw [show ((Int.lcm (M : Int) (x.den : Int) : Nat) : Int) = ((Nat.lcm M x.den : Nat) : Int) from rfl] at h10 ⊢
      rw [show decide (((Nat.lcm M x.den : Nat) : Int) < 0) = false from decide_eq_false (by omega)]
      rw [Int.natAbs_natCast] at h10
      replace r := r.ext hE6; replace r_0 := r.cell (i := 0) rfl; replace r_1 := r.cell (i := 1) rfl; replace r_2 := r.cell (i := 2) rfl; replace r_f0 := r.free 0; replace r_f1 := r.free 1; replace r_f2 := r.free 2; replace r_lt := r.lt; replace m := m.ext hE6; replace m_0 := m.cell (i := 0) rfl; replace m_1 := m.cell (i := 1) rfl; replace m_2 := m.cell (i := 2) rfl; replace m_f0 := m.free 0; replace m_f1 := m.free 1; replace m_f2 := m.free 2; replace m_lt := m.lt
      have hE0 := Ext.trans hEW3 hE6
      have hm5 := m_lt
      replace h10 := h10.mono (B' := w.heap.size + 1) (by omega) (Kept.refl _ _)
      have HM8 := Lib.hid ((m.set 0 (.bool false)).set 1 (.slice a10 n10 c10))
      have HR8 := Lib.hid ((r.set_ne 0 (.bool false) (show w.heap.size ≠ w1.heap.size by omega)).set_ne 1 (.slice a10 n10 c10) (show w.heap.size ≠ w1.heap.size by omega))
      have HN8 := Lib.hid (NatS.set (NatS.set h10 m_0 (fun x => by simp) (.bool false)) ((m.set 0 (.bool false)).cell (i := 1) rfl) (fun x => by simp) (.slice a10 n10 c10))
      have HE8 := Lib.hid (Below.setCell (Below.setCell (Ext.trans HE.out hE0) (p := ⟨w1.heap.size, 0, none⟩) (show w.heap.size ≤ w1.heap.size by omega) (.bool false)) (p := ⟨w1.heap.size, 1, none⟩) (show w.heap.size ≤ w1.heap.size by omega) (.slice a10 n10 c10))
      clear h6 h10 hE0 hE6 hEW3 y y_0 y_1 y_2 y_3 k k_0 k_1 k_2 k_3
      go_wp2_with fail
      go_roundg (n - (i + 1))
      case measure => omega
      case rel => exact ⟨i + 1, by omega, rfl, by go_num, Lib.hid ⟨a10, n10, c10, HM8.out, by rw [HX.out]; exact HN8.out⟩, HR8, HE8⟩
    · obtain rfl : i = n := by omega
      obtain ⟨a6, n6, c6, hm6, h6⟩ := HM.out
      have hfull : comDen (qs.take i) = D := by rw [List.take_of_length_le (by rw [hlen.out]; exact Nat.le_refl _)]; exact hD.out
      rw [hfull] at h6
      rw [hD.out] at hL
      have hn6 : n6 ≤ KL := by have := h6.len; rw [length_limbs] at this; omega
      have H6 := Lib.hid h6
      have hdv : Hid (∀ x ∈ qs, x.den ∣ D) := Lib.hid (fun x hx => by rw [← hD.out]; exact den_dvd_comDen qs x hx)
      have hmlt := hm6.lt
      have HC0 : Hid (CSt w w1.heap.size wr.heap.size a6 n6 c6 ((qs.take 0).map (comNum D)) 0 wr) := Lib.hid ⟨⟨.slice none 0 0, [], hm6, Grp.nil _ _ _ _⟩, HR.out, HE.out, Nat.le_refl _⟩
      have HN0 := H6
      have hszr := HE.out.size
      clear h6 hfull hm6 HM HR hD HE
      obtain ⟨wo, rfl⟩ : ∃ wo : World, wo = wr := ⟨_, rfl⟩
      go_wp2_with fail
      go_loopg [29] i (fun q vi wx => ∃ (j : Nat), j ≤ i ∧ q = i - j ∧ vi = .int .i64 (j : Int) ∧ Hid (CSt w w1.heap.size wo.heap.size a6 n6 c6 ((qs.take j).map (comNum D)) j wx) ∧ Hid (NatS (w.heap.size + 1) wx a6 n6 c6 (limbs D)))
      case atStart => exact ⟨0, Nat.zero_le _, by omega, rfl, HC0, HN0⟩
      case round =>
        clear HC0 HN0
        obtain ⟨j, hj, hq3, rfl, HC, HN⟩ := hrel
        by_cases hji : j < i
        · obtain ⟨b5, o5, a5, n5, c5, a7, n7, c7, x, rfl, hb5, hzi, hc5, hc6, hc7, hc8, h5, h7⟩ := HS.out.getRatN hji
          have hEw := HC.out.low
          have hc5 := (hEw.cell (p := ⟨b5, o5 + j * 4, none⟩) hb5).trans hc5
          have hc6 := (hEw.cell (p := ⟨b5, o5 + j * 4 + 1, none⟩) hb5).trans hc6
          have hc7 := (hEw.cell (p := ⟨b5, o5 + j * 4 + 2, none⟩) hb5).trans hc7
          have hc8 := (hEw.cell (p := ⟨b5, o5 + j * 4 + 3, none⟩) hb5).trans hc8
          replace h5 := h5.ext (Nat.le_refl _) hEw
          replace h7 := h7.ext (Nat.le_refl _) hEw
          obtain ⟨hil, hzi'⟩ := List.getElem?_eq_some_iff.1 hzi
          have HTS : Hid ((qs.take (j + 1)).map (comNum D) = (qs.take j).map (comNum D) ++ [comNum D x]) := Lib.hid (by rw [List.take_succ_eq_append_getElem hil, hzi', List.map_append]; rfl)
          have HDX : Hid ((x.den : Int) ∣ (D : Int)) := Lib.hid (Int.natCast_dvd_natCast.2 (hdv.out x (List.mem_of_getElem? hzi)))
          have HDN : Hid ((D : Int) / (x.den : Int) = ((D / x.den : Nat) : Int)) := Lib.hid (by rw [Int.natCast_ediv])
          have HCN : Hid (x.num * ((D / x.den : Nat) : Int) = comNum D x) := Lib.hid rfl
          have hxb := hq.out x (List.mem_of_getElem? hzi)
          have hqn : nl (D / x.den) ≤ KL := Nat.le_trans (nl_mono (Nat.div_le_self _ _)) hL
          have hx0 := int_zero_lt_den x
          have hn5 : n5 ≤ K := by rw [len_norm h5]; exact hxb.1
          have hn7 : n7 ≤ K := by rw [len_norm h7]; exact hxb.2
          obtain ⟨vo, css, m, hG⟩ := HC.out.ex
          have hlt := hG.own.lt
          have hvs : ∀ x : Int, vo ≠ .int .u32 x := by
            obtain ⟨_, _, e, _⟩ := hG.sl
            intro x; rw [e]; simp
          have r := HC.out.r
          have hBsz := HC.out.sz
          have H5 := Lib.hid h5
          have H7 := Lib.hid h7
          have HX5 : Hid (ival (decide (x.num < 0)) (limbs x.num.natAbs) = x.num) := Lib.hid (ival_norm _)
          generalize decide (x.num < 0) = s5 at *
          generalize hDq : D / x.den = dq at *
          generalize hcn : comNum D x = t at *
          clear hzi hzi' h5 h7 hEw hDq hcn
          have HG := Lib.hid hG
          clear hG
          skip
          skip
          replace r_0 := r.cell (i := 0) rfl
          replace r_1 := r.cell (i := 1) rfl
          replace r_2 := r.cell (i := 2) rfl
          replace r_f0 := r.free 0
          replace r_f1 := r.free 1
          replace r_f2 := r.free 2
          replace r_lt := r.lt
          replace m_0 := m.cell (i := 0) rfl
          replace m_1 := m.cell (i := 1) rfl
          replace m_2 := m.cell (i := 2) rfl
          replace m_f0 := m.free 0
          replace m_f1 := m.free 1
          replace m_f2 := m.free 2
          replace m_lt := m.lt
          go_wp2_with fail
          clear hc5 hc6 hc7 hc8
          have y := Blk.new wr 62 #[.bool s5, .slice a5 n5 c5, .bool false, .slice a7 n7 c7]
          have hEW3 : Ext wr (wr.alloc (Obj.cells #[.bool s5, .slice a5 n5 c5, .bool false, .slice a7 n7 c7] 62)) := ((Below.refl _ wr).alloc (by simp) _)
          generalize hgW3 : wr.alloc (Obj.cells #[.bool s5, .slice a5 n5 c5, .bool false, .slice a7 n7 c7] 62) = W3 at *
          clear hgW3
          replace y_0 := y.cell (i := 0) rfl
          replace y_1 := y.cell (i := 1) rfl
          replace y_2 := y.cell (i := 2) rfl
          replace y_3 := y.cell (i := 3) rfl
          replace r := r.ext hEW3; replace r_0 := r.cell (i := 0) rfl; replace r_1 := r.cell (i := 1) rfl; replace r_2 := r.cell (i := 2) rfl; replace r_f0 := r.free 0; replace r_f1 := r.free 1; replace r_f2 := r.free 2; replace r_lt := r.lt; replace m := m.ext hEW3; replace m_0 := m.cell (i := 0) rfl; replace m_1 := m.cell (i := 1) rfl; replace m_2 := m.cell (i := 2) rfl; replace m_f0 := m.free 0; replace m_f1 := m.free 1; replace m_f2 := m.free 2; replace m_lt := m.lt
          refine (zintExact_z false false 0 W3 a6 a7 n6 c6 n7 c7 _ _ (D : Int) (x.den : Int) ((HN.out.mono (Nat.zero_le _) (Kept.refl _ _)).ext (Nat.zero_le _) hEW3) (H7.out.ext (Nat.zero_le _) hEW3) (by omega) (Lib.hid (by rw [ival_limbs]; rfl)) (Lib.hid (by rw [ival_limbs]; rfl)) hx0 HDX.out).mono ?_
          rintro e w4 ⟨v8, rfl, ⟨a8, n8, c8, rfl, h8⟩, hE4⟩
          rw [HDN.out] at h8 ⊢
          rw [show decide (((dq : Nat) : Int) < 0) = false from decide_eq_false (by omega)]
          rw [Int.natAbs_natCast] at h8
          have hn8 : n8 ≤ KL := by have := len_norm h8; omega
          replace r := r.ext hE4; replace r_0 := r.cell (i := 0) rfl; replace r_1 := r.cell (i := 1) rfl; replace r_2 := r.cell (i := 2) rfl; replace r_f0 := r.free 0; replace r_f1 := r.free 1; replace r_f2 := r.free 2; replace r_lt := r.lt; replace m := m.ext hE4; replace m_0 := m.cell (i := 0) rfl; replace m_1 := m.cell (i := 1) rfl; replace m_2 := m.cell (i := 2) rfl; replace m_f0 := m.free 0; replace m_f1 := m.free 1; replace m_f2 := m.free 2; replace m_lt := m.lt; replace y := y.ext hE4; replace y_0 := y.cell (i := 0) rfl; replace y_1 := y.cell (i := 1) rfl; replace y_2 := y.cell (i := 2) rfl; replace y_3 := y.cell (i := 3) rfl
          have hE0 := Ext.trans hEW3 hE4
          clear hEW3 hE4
          go_wp2_with fail
          have k := Blk.new w4 27 #[.bool false, .slice a8 n8 c8]
          have hEW5 : Ext w4 (w4.alloc (Obj.cells #[.bool false, .slice a8 n8 c8] 27)) := ((Below.refl _ w4).alloc (by simp) _)
          generalize hgW5 : w4.alloc (Obj.cells #[.bool false, .slice a8 n8 c8] 27) = W5 at *
          clear hgW5
          replace k_0 := k.cell (i := 0) rfl
          replace k_1 := k.cell (i := 1) rfl
          replace r := r.ext hEW5; replace r_0 := r.cell (i := 0) rfl; replace r_1 := r.cell (i := 1) rfl; replace r_2 := r.cell (i := 2) rfl; replace r_f0 := r.free 0; replace r_f1 := r.free 1; replace r_f2 := r.free 2; replace r_lt := r.lt; replace m := m.ext hEW5; replace m_0 := m.cell (i := 0) rfl; replace m_1 := m.cell (i := 1) rfl; replace m_2 := m.cell (i := 2) rfl; replace m_f0 := m.free 0; replace m_f1 := m.free 1; replace m_f2 := m.free 2; replace m_lt := m.lt; replace y := y.ext hEW5; replace y_0 := y.cell (i := 0) rfl; replace y_1 := y.cell (i := 1) rfl; replace y_2 := y.cell (i := 2) rfl; replace y_3 := y.cell (i := 3) rfl
          have hd : Ext W5 W5.drew := (Below.refl _ _).drew
          replace r := r.ext hd; replace r_0 := r.cell (i := 0) rfl; replace r_1 := r.cell (i := 1) rfl; replace r_2 := r.cell (i := 2) rfl; replace r_f0 := r.free 0; replace r_f1 := r.free 1; replace r_f2 := r.free 2; replace r_lt := r.lt; replace m := m.ext hd; replace m_0 := m.cell (i := 0) rfl; replace m_1 := m.cell (i := 1) rfl; replace m_2 := m.cell (i := 2) rfl; replace m_f0 := m.free 0; replace m_f1 := m.free 1; replace m_f2 := m.free 2; replace m_lt := m.lt; replace y := y.ext hd; replace y_0 := y.cell (i := 0) rfl; replace y_1 := y.cell (i := 1) rfl; replace y_2 := y.cell (i := 2) rfl; replace y_3 := y.cell (i := 3) rfl; replace k := k.ext hd; replace k_0 := k.cell (i := 0) rfl; replace k_1 := k.cell (i := 1) rfl
          have h8f := Sl.zero (h8.ext (Nat.le_refl _) (Ext.trans hEW5 hd))
          have h5f := H5.out.ext (Nat.le_refl _) (Ext.trans hE0 (Ext.trans hEW5 hd))
          have hE9 := Ext.trans hE0 (Ext.trans hEW5 hd)
          have hsz9 := hE9.size
          obtain ⟨i0, hi0, hz0, hz1, hz2⟩ := info_parts info_int
          clear hE0 hEW5 hd h8
          have HG9 : Hid (Grp rIntN wo.heap.size 27 W5.drew vo j ((qs.take j).map (comNum D)) css) := Lib.hid (HG.out.keep hE9.size (fun b _ h2 => hE9.block b h2))
          have HX8 : Hid (ival false (limbs dq) = (dq : Int)) := Lib.hid (by rw [ival_limbs]; rfl)
          have hmw := m_lt
          go_region_law (first
            | (go_simp; go_at_call 55; (with_reducible refine (zintMul_z s5 false 0 _ _ _ _ _ _ _ _ _ x.num (dq : Int) h5f h8f (by omega) (by omega) HX5 HX8).mono ?_); rintro e w6 ⟨a10, n10, c10, rfl, h10, hE1⟩; rw [HCN.out] at h10 ⊢; replace r := r.ext hE1; replace m := m.ext hE1; replace r_0 := r.cell (i := 0) rfl; replace r_1 := r.cell (i := 1) rfl; replace r_2 := r.cell (i := 2) rfl; replace r_f0 := r.free 0; replace r_f1 := r.free 1; replace r_f2 := r.free 2; replace r_lt := r.lt; replace m_0 := m.cell (i := 0) rfl; replace m_1 := m.cell (i := 1) rfl; replace m_2 := m.cell (i := 2) rfl; replace m_f0 := m.free 0; replace m_f1 := m.free 1; replace m_f2 := m.free 2; replace m_lt := m.lt; go_wp2_with fail)
            | (have hEA : Ext w6 (w6.alloc (Obj.cells #[.bool (decide (t < 0)), .slice a10 n10 c10] 27)) := (Below.refl _ _).alloc (Nat.le_refl _) _
               have hEB := Ext.trans hE1 hEA
               have hG10 := HG9.out.keep hEB.size (fun b _ h2 => hEB.block b h2)
               have hbl := Blk.new w6 27 #[.bool (decide (t < 0)), .slice a10 n10 c10]
               have hnews : ∀ ad, some (⟨w6.heap.size, 0, none⟩ : Addr) = some ad → ∀ (j' : Nat) (u : Value), [Value.bool (decide (t < 0)), .slice a10 n10 c10][j']? = some u → (w6.alloc (Obj.cells #[.bool (decide (t < 0)), .slice a10 n10 c10] 27)).cell? (ad.add j') = some u := (by intro ad e j' u hu; cases e; match j', hu with | 0, hu => (cases hu; exact hbl.cell (i := 0) rfl) | 1, hu => (cases hu; exact hbl.cell (i := 1) rfl) | k + 2, hu => simp at hu)
               refine step_append_src rfl (.tmp 42) (.tmp 47) 67 rfl wo.heap.size 27 i0 _ 2 32 under_ints hi0 hz0 hz1 hz2 rfl (by decide) vo j _ rfl hG10.own (some ⟨w6.heap.size, 0, none⟩) 1 1 [.bool (decide (t < 0)), .slice a10 n10 c10] rfl (by simp) rfl hnews (by simp [Value.oneCell']) (by unfold maxLen; omega) (by omega) (by have := hEB.size; omega) ?_
               intro v' w7 hown' hgrow hat
               obtain ⟨g', cap', rfl⟩ := ownsRow_succ hown'
               have hrB := r_lt
               have hmB := m_lt
               replace m := Blk.grown (m.ext hEA) hgrow (fun e => by have := (hlt _ e.symm).1; omega)
               replace r := Blk.grown (r.ext hEA) hgrow (fun e => by have := (hlt _ e.symm).1; omega)
               replace r_0 := r.cell (i := 0) rfl
               replace r_1 := r.cell (i := 1) rfl
               replace r_2 := r.cell (i := 2) rfl
               replace r_f0 := r.free 0
               replace r_f1 := r.free 1
               replace r_f2 := r.free 2
               replace r_lt := r.lt
               replace m_0 := m.cell (i := 0) rfl
               replace m_1 := m.cell (i := 1) rfl
               replace m_2 := m.cell (i := 2) rfl
               replace m_f0 := m.free 0
               replace m_f1 := m.free 1
               replace m_f2 := m.free 2
               replace m_lt := m.lt))
          all_goals
            have HG10 := Lib.hid hG10
            have HOW := Lib.hid hown'
            have HGR := Lib.hid hgrow
            have HAT := Lib.hid hat
            have hEBs := hEB.size
            have hgs := hgrow.size
            have HN9 : Hid (rIntN.ok W5.drew.heap.size (w6.alloc (Obj.cells #[.bool (decide (t < 0)), .slice a10 n10 c10] 27)) [.bool (decide (t < 0)), .slice a10 n10 c10] t) := Lib.hid ⟨a10, n10, c10, rfl, h10.ext (Nat.le_refl _) hEA⟩
            have HGa := Lib.hid (HG10.out.add HOW.out HGR.out HAT.out (x := t) HN9.out (Nat.le_trans hBsz hsz9) (fun k e => Nat.lt_of_lt_of_le (hlt k e).2 hsz9))
            have HKa := Lib.hid (HGa.out.keep (w' := w7.setCell ⟨w1.heap.size, 2, none⟩ (.slice (some ⟨g', 0, none⟩) (j + 1) cap')) (by simp [World.setCell]) (fun b h1 _ => Below.heap_setCell _ _ _ b (by simp; omega)))
            have HMz := Lib.hid (m.set 2 (.slice (some ⟨g', 0, none⟩) (j + 1) cap'))
            have HRz := Lib.hid (r.set_ne 2 (.slice (some ⟨g', 0, none⟩) (j + 1) cap') (show w.heap.size ≠ w1.heap.size by omega))
            have hEC := Ext.trans hE9 hEB
            have HEz := Lib.hid (((Ext.trans HC.out.low hEC).grown hgrow (Ext.trans HC.out.low hEC).size (fun k e => by have := (hlt k e).1; omega)).setCell (p := ⟨w1.heap.size, 2, none⟩) (show w.heap.size ≤ w1.heap.size by omega) (.slice (some ⟨g', 0, none⟩) (j + 1) cap'))
            have hszz : wo.heap.size ≤ (w7.setCell ⟨w1.heap.size, 2, none⟩ (.slice (some ⟨g', 0, none⟩) (j + 1) cap')).heap.size := by simp only [World.setCell, Array.size_modify]; omega
            have HNz := Lib.hid (NatS.set (NatS.grown ((HN.out.ext (Nat.le_refl _) hEC)) H6.out hgrow (fun g e => (hlt g e).1)) m_2 hvs (.slice (some ⟨g', 0, none⟩) (j + 1) cap'))
            clear hG10 h5f h8f h10 hEA hEB hE1 hE9 hEC hown' hgrow hat hnews hbl
            go_wp2_with fail
            go_roundg (i - (j + 1))
            case measure => omega
            case rel => exact ⟨j + 1, by omega, rfl, by go_num, Lib.hid ⟨⟨_, css ++ [[.bool (decide (t < 0)), .slice a10 n10 c10]], HMz.out, by rw [HTS.out]; exact HKa.out⟩, HRz.out, HEz.out, hszz⟩, HNz⟩
        · obtain rfl : j = i := by omega
          obtain ⟨vo, css, m, hG⟩ := HC.out.ex
          rw [List.take_of_length_le (by rw [hlen.out]; exact Nat.le_refl _)] at hG
          obtain ⟨aa, cc, rfl, hsl⟩ := hG.sl
          have r := HC.out.r
          have hwo : w.heap.size < wo.heap.size := by omega
          have H6j := HN.out.mono (Nat.le_refl _) (kept_set3 _ (.bool false) (.slice a6 n6 c6) (.slice aa j cc) (Nat.lt_succ_self w.heap.size))
          have HSj := hsl.mono (Nat.le_refl _) (kept_set3 _ (.bool false) (.slice a6 n6 c6) (.slice aa j cc) hwo)
          have HEz := ext_set3 HC.out.low (.bool false) (.slice a6 n6 c6) (.slice aa j cc) (Nat.le_refl w.heap.size)
          have HF : Hid (RCommonT w D (qs.map (comNum D)) (.returned (.tuple #[.agg #[.bool false, .slice a6 n6 c6, .slice aa j cc], .int .i64 0])) (((wr.setCell ⟨w.heap.size, 0, none⟩ (.bool false)).setCell ⟨w.heap.size, 1, none⟩ (.slice a6 n6 c6)).setCell ⟨w.heap.size, 2, none⟩ (.slice aa j cc))) :=
            Lib.hid ⟨a6, n6, c6, aa, j, cc, rfl, H6j.mono (by omega) (Kept.refl _ _), HSj.mono (by omega) (Kept.refl _ _), HEz⟩
          clear H6j HSj HEz hsl hG
          skip
          skip
          replace r_0 := r.cell (i := 0) rfl
          replace r_1 := r.cell (i := 1) rfl
          replace r_2 := r.cell (i := 2) rfl
          replace r_f0 := r.free 0
          replace r_f1 := r.free 1
          replace r_f2 := r.free 2
          replace r_lt := r.lt
          replace m_0 := m.cell (i := 0) rfl
          replace m_1 := m.cell (i := 1) rfl
          replace m_2 := m.cell (i := 2) rfl
          replace m_f0 := m.free 0
          replace m_f1 := m.free 1
          replace m_f2 := m.free 2
          replace m_lt := m.lt
          have r2 := ((r.set 0 (.bool false)).set 1 (.slice a6 n6 c6)).set 2 (.slice aa j cc)
          have hr0 := r2.cell (i := 0) rfl
          have hr1 := r2.cell (i := 1) rfl
          have hr2 := r2.cell (i := 2) rfl
          go_wp2_with fail
          exact bodyPost_ret (v := .tuple #[.agg #[.bool false, .slice a6 n6 c6, .slice aa j cc], .int .i64 0]) (by simp [results, Try.results96, go_sem, hr0, hr1, hr2]) rfl HF.out
end Go.Proofs.Ytbhenelehhiakaa
/-
  rat: made[common], Common.
-/
namespace Go.Proofs.Ytbhenelehhiakaa
open Go.RowKit

def RCommonE (w : World) (e : Ending) (w' : World) : Prop := e = .returned (.tuple #[.agg #[.bool false, .slice none 0 0, .slice none 0 0], .int .i64 6]) ∧ Ext w w'
def RCommonP (w : World) (D : Nat) (zs : List Int) (e : Ending) (w' : World) : Prop := ∃ a n c a2 n2 c2, e = .returned (.tuple #[.agg #[.bool false, .slice a n c], .slice a2 n2 c2, .int .i64 0]) ∧ NatS w.heap.size w' a n c (limbs D) ∧ Sl rIntN w.heap.size w' a2 n2 c2 zs ∧ Ext w w'
def RCommonPE (w : World) (e : Ending) (w' : World) : Prop := e = .returned (.tuple #[.agg #[.bool false, .slice none 0 0], .slice none 0 0, .int .i64 6]) ∧ Ext w w'

theorem nl_frR {K : Nat} (z d : Int) (hz : nl z.natAbs ≤ K) (hd : nl d.natAbs ≤ K) (h0 : d ≠ 0) : nl (frR (z, d)).num.natAbs ≤ K ∧ nl (frR (z, d)).den ≤ K :=
  ⟨Nat.le_trans (nl_mono (ratv_le z d h0).1) hz, Nat.le_trans (nl_mono (ratv_le z d h0).2) hd⟩

set_option maxRecDepth 100000 in
set_option maxHeartbeats 8000000 in
theorem ratMade_any (K KL : Nat) (hK : K ≤ 8796093022208) (hKL : KL ≤ 8796093022208) (w : World) (a : Option Addr) (n c : Nat) (qs : List (Int × Int)) (h : Sl (rFr K) 0 w a n c qs) (hL : nl (comDen (qs.map frR)) ≤ KL) (D : Nat) (hD : Hid (comDen (qs.map frR) = D)) (hn40 : n ≤ 1099511627776) (s : Bool) (hs : Hid (allMay qs = s)) :
    Calls Try.prog 95 #[.func (.func 96) #[] #[], .slice a n c] w fun e w' => (s = true ∧ RCommonT w D ((qs.map frR).map (comNum D)) e w') ∨ (s = false ∧ RCommonE w e w') := by
  have hen : Enters Try.prog 96 := enters_mk Try.func96 (by kernel_rfl) rfl
  have hen' : ∀ args w, (callFunc 96 args).run Try.prog w = .ok (.enter 96 args) w := hen
  have HS := Lib.hid h
  have hmost := h.most
  have hcap := h.cap
  have hlen := Lib.hid h.len
  obtain ⟨cur, hcur, hmk⟩ := make_any under_rats info_rat 0 n (Nat.zero_le _) (by omega) (by omega)
  have hmk : ∀ w, (Instr.makeSlice 55 (.int .i64 0) (.int .i64 (n : Int))).run Try.prog w = .ok (.slice (some ⟨w.heap.size, 0, none⟩) 0 n) (w.alloc (.cells cur 62)) := hmk
  have HCur := Lib.hid hcur
  clear h hen hcur
  go_enter Try.func95, Try.ntmps95
  go_wp2_with fail
  have hz0 : ((w.alloc (Obj.cells #[.bool false, .slice none 0 0, .slice none 0 0] 132)).alloc (Obj.cells #[.bool false, .slice none 0 0, .slice none 0 0] 132)).heap.size = w.heap.size + 1 + 1 := by simp
  have r := Blk.new w 132 #[.bool false, .slice none 0 0, .slice none 0 0]
  have z := Blk.new (w.alloc (Obj.cells #[.bool false, .slice none 0 0, .slice none 0 0] 132)) 132 #[.bool false, .slice none 0 0, .slice none 0 0]
  replace r := r.ext ((Below.refl _ _).alloc (Nat.le_refl _) (Obj.cells #[.bool false, .slice none 0 0, .slice none 0 0] 132))
  have hEW : Ext w ((w.alloc (Obj.cells #[.bool false, .slice none 0 0, .slice none 0 0] 132)).alloc (Obj.cells #[.bool false, .slice none 0 0, .slice none 0 0] 132)) := (((Below.refl _ w).alloc (by simp) _).alloc (by simp) _)
  generalize hgW : (w.alloc (Obj.cells #[.bool false, .slice none 0 0, .slice none 0 0] 132)).alloc (Obj.cells #[.bool false, .slice none 0 0, .slice none 0 0] 132) = W at *
  clear hgW
  simp only [World.size_alloc] at z
  have r_ne_z : ¬ w.heap.size = w.heap.size + 1 := by omega
  have z_ne_r : ¬ w.heap.size + 1 = w.heap.size := by omega
  replace r_0 := r.cell (i := 0) rfl
  replace r_1 := r.cell (i := 1) rfl
  replace r_2 := r.cell (i := 2) rfl
  replace r_f0 := r.free 0
  replace r_f1 := r.free 1
  replace r_f2 := r.free 2
  replace r_lt := r.lt
  replace z_0 := z.cell (i := 0) rfl
  replace z_1 := z.cell (i := 1) rfl
  replace z_2 := z.cell (i := 2) rfl
  have hWs : w.heap.size + 1 ≤ W.heap.size := r_lt
  have hEA : Ext W (W.alloc (Obj.cells cur 62)) := (Below.refl _ _).alloc (Nat.le_refl _) _
  have hG0 : Grp rRatN W.heap.size 62 (W.alloc (Obj.cells cur 62)) (.slice (some ⟨W.heap.size, 0, none⟩) 0 n) 0 [] [] := ⟨rfl, rfl, World.ownsRow_made W cur n (Nat.le_refl _) (by unfold maxLen; omega) HCur.out, fun k hk => absurd hk (by simp)⟩
  have HG0 := Lib.hid hG0
  have HEA := Lib.hid hEA
  have HEW := Lib.hid hEW
  have HR0 := Lib.hid r
  have HZ0 := Lib.hid z
  clear hG0 hEA hEW r r_0 r_1 r_2 r_f0 r_f1 r_f2 r_lt z z_0 z_1 z_2
  go_loopg [7, 17] n (fun q vo vi wr => ∃ i : Nat, i ≤ n ∧ q = n - i ∧ vi = .int .i64 (i : Int) ∧ Hid (∀ j x, j < i → qs[j]? = some x → x.2 ≠ 0) ∧ Hid (∃ css, Grp rRatN W.heap.size 62 wr vo i ((qs.take i).map frR) css) ∧ Hid (Ext W wr))
  case atStart => exact ⟨0, Nat.zero_le _, by omega, rfl, Lib.hid (fun j _ hj => by omega), Lib.hid ⟨[], by rw [← hz0]; exact HG0.out⟩, HEA⟩
  case round =>
    clear HG0 HEA hmk hz0
    obtain ⟨i, hi, hq, rfl, HI, HGi, HE⟩ := hrel
    by_cases hin : i < n
    · obtain ⟨b, o, s1, a1, n1, c1, s2, a2, n2, c2, x, l, l2, rfl, hb, hx, hc0, hc1, hc2, hc3, h1, h2, hv1, hv2, hn1, hn2⟩ := (HS.out.ext (Nat.le_refl _) (Ext.trans HEW.out HE.out)).getFr hin
      have HX := Lib.hid hx
      have HOK : Hid ((rFr K).ok 0 wr [.bool s1, .slice a1 n1 c1, .bool s2, .slice a2 n2 c2] x) := Lib.hid ⟨s1, a1, n1, c1, s2, a2, n2, c2, rfl, l, l2, h1, h2, hv1, hv2, hn1, hn2⟩
      clear hx h1 h2 hv1 hv2
      by_cases hd : x.2 = 0
      · have HF : Hid (s = false) := Lib.hid (by
          rw [← hs.out]
          unfold allMay
          rw [List.all_eq_false]
          exact ⟨x, List.mem_of_getElem? HX.out, by simpa using hd⟩)
        have HD := Lib.hid hd
        clear hd
        go_wp2_with fail
        clear hc0 hc1 hc2 hc3
        have y := Blk.new wr 62 #[.bool s1, .slice a1 n1 c1, .bool s2, .slice a2 n2 c2]
        have hEW3 : Ext wr (wr.alloc (Obj.cells #[.bool s1, .slice a1 n1 c1, .bool s2, .slice a2 n2 c2] 62)) := ((Below.refl _ wr).alloc (by simp) _)
        generalize hgW3 : wr.alloc (Obj.cells #[.bool s1, .slice a1 n1 c1, .bool s2, .slice a2 n2 c2] 62) = W3 at *
        clear hgW3
        replace y_0 := y.cell (i := 0) rfl
        replace y_1 := y.cell (i := 1) rfl
        replace y_2 := y.cell (i := 2) rfl
        replace y_3 := y.cell (i := 3) rfl
        refine (ratNorm_err K hK W3 s1 a1 n1 c1 s2 a2 n2 c2 x ((rFr K).mono HOK.out (Nat.le_refl _) hEW3.kept) HD.out).mono ?_
        rintro e w4 ⟨rfl, hE4⟩
        have hE5 := Ext.trans HE.out (Ext.trans hEW3 hE4)
        clear hEW3 hE4 y y_0 y_1 y_2 y_3
        go_upto_if 27 with (fail)
        have k := Blk.new w4 62 #[.bool false, .slice none 0 0, .bool false, .slice none 0 0]
        have hEW5 : Ext w4 (w4.alloc (Obj.cells #[.bool false, .slice none 0 0, .bool false, .slice none 0 0] 62)) := ((Below.refl _ w4).alloc (by simp) _)
        generalize hgW5 : w4.alloc (Obj.cells #[.bool false, .slice none 0 0, .bool false, .slice none 0 0] 62) = W5 at *
        clear hgW5
        replace k_0 := k.cell (i := 0) rfl
        replace k_1 := k.cell (i := 1) rfl
        replace k_2 := k.cell (i := 2) rfl
        replace k_3 := k.cell (i := 3) rfl
        replace hE5 := Ext.trans hE5 hEW5
        have r := HR0.out.ext hE5
        have z := HZ0.out.ext hE5
        skip
        skip
        replace r_0 := r.cell (i := 0) rfl
        replace r_1 := r.cell (i := 1) rfl
        replace r_2 := r.cell (i := 2) rfl
        replace r_f0 := r.free 0
        replace r_f1 := r.free 1
        replace r_f2 := r.free 2
        replace r_lt := r.lt
        replace z_0 := z.cell (i := 0) rfl
        replace z_1 := z.cell (i := 1) rfl
        replace z_2 := z.cell (i := 2) rfl
        have HF2 : Hid (RCommonE w (.returned (.tuple #[.agg #[.bool false, .slice none 0 0, .slice none 0 0], .int .i64 6])) (((W5.setCell ⟨w.heap.size, 0, none⟩ (.bool false)).setCell ⟨w.heap.size, 1, none⟩ (.slice none 0 0)).setCell ⟨w.heap.size, 2, none⟩ (.slice none 0 0))) := Lib.hid ⟨rfl, ext_set3 (Ext.trans HEW.out hE5) _ _ _ (Nat.le_refl _)⟩
        have r2 := ((r.set 0 (.bool false)).set 1 (.slice none 0 0)).set 2 (.slice none 0 0)
        have hr0 := r2.cell (i := 0) rfl
        have hr1 := r2.cell (i := 1) rfl
        have hr2 := r2.cell (i := 2) rfl
        clear hE5 hEW5 r2
        go_wp2_with fail
        exact bodyPost_ret (v := .tuple #[.agg #[.bool false, .slice none 0 0, .slice none 0 0], .int .i64 6]) (by simp [results, Try.results95, go_sem, hr0, hr1, hr2]) rfl (.inr ⟨HF.out, HF2.out⟩)
      · have HN : Hid (∀ j y, j < i + 1 → qs[j]? = some y → y.2 ≠ 0) := Lib.hid (fun j y hj hy => by
          by_cases hji : j < i
          · exact HI.out j y hji hy
          · obtain rfl : j = i := by omega
            rw [HX.out] at hy; cases hy; exact hd)
        have HD := Lib.hid hd
        obtain ⟨hil, hxi⟩ := List.getElem?_eq_some_iff.1 HX.out
        have HT : Hid ((qs.take (i + 1)).map frR = (qs.take i).map frR ++ [frR x]) := Lib.hid (by rw [List.take_succ_eq_append_getElem hil, List.map_append, hxi]; rfl)
        obtain ⟨q, hqq⟩ : ∃ q, frR x = q := ⟨_, rfl⟩
        rw [hqq] at HT
        have HQQ := Lib.hid hqq
        clear hd hil hxi hqq
        go_wp2_with fail
        clear hc0 hc1 hc2 hc3
        have y := Blk.new wr 62 #[.bool s1, .slice a1 n1 c1, .bool s2, .slice a2 n2 c2]
        have hEW3 : Ext wr (wr.alloc (Obj.cells #[.bool s1, .slice a1 n1 c1, .bool s2, .slice a2 n2 c2] 62)) := ((Below.refl _ wr).alloc (by simp) _)
        generalize hgW3 : wr.alloc (Obj.cells #[.bool s1, .slice a1 n1 c1, .bool s2, .slice a2 n2 c2] 62) = W3 at *
        clear hgW3
        replace y_0 := y.cell (i := 0) rfl
        replace y_1 := y.cell (i := 1) rfl
        replace y_2 := y.cell (i := 2) rfl
        replace y_3 := y.cell (i := 3) rfl
        refine (ratNorm_any K hK W3 s1 a1 n1 c1 s2 a2 n2 c2 x ((rFr K).mono HOK.out (Nat.le_refl _) hEW3.kept) HD.out q HQQ).mono ?_
        rintro e w4 ⟨a3, n3, c3, a4, n4, c4, rfl, h3, h4, hE4⟩
        have hE5 := Ext.trans hEW3 hE4
        have hsz3 := hEW3.size
        have hsz4 := hE4.size
        clear hEW3 hE4 y y_0 y_1 y_2 y_3
        have hQ1 : Ext w4 (w4.alloc (Obj.cells #[.bool (decide (q.num < 0)), .slice a3 n3 c3, .bool false, .slice a4 n4 c4] 62)) := (Below.refl _ _).alloc (Nat.le_refl _) _
        have hQ2 := Ext.trans hQ1 ((Below.refl _ _).alloc (Nat.le_refl _) (Obj.cells #[.bool (decide (q.num < 0)), .slice a3 n3 c3, .bool false, .slice a4 n4 c4] 62))
        have hEL : Blk ((w4.alloc (Obj.cells #[.bool (decide (q.num < 0)), .slice a3 n3 c3, .bool false, .slice a4 n4 c4] 62)).alloc (Obj.cells #[.bool (decide (q.num < 0)), .slice a3 n3 c3, .bool false, .slice a4 n4 c4] 62)) (w4.heap.size + 1) 62 #[.bool (decide (q.num < 0)), .slice a3 n3 c3, .bool false, .slice a4 n4 c4] := by have := Blk.new (w4.alloc (Obj.cells #[.bool (decide (q.num < 0)), .slice a3 n3 c3, .bool false, .slice a4 n4 c4] 62)) 62 #[.bool (decide (q.num < 0)), .slice a3 n3 c3, .bool false, .slice a4 n4 c4]; simpa only [World.size_alloc] using this
        have hE9 := Ext.trans hE5 hQ2
        obtain ⟨css, hGj⟩ := HGi.out
        have hlt10 := hGj.own.lt
        have hG9 := Lib.hid (hGj.keep hE9.size (fun b _ h2 => hE9.block b h2))
        have H39 := Lib.hid (h3.ext (Nat.le_refl _) hQ2)
        have H49 := Lib.hid (h4.ext (Nat.le_refl _) hQ2)
        have HE9 := Lib.hid (Ext.trans HE.out hE9)
        obtain ⟨i0, hi0, hz0, hz1, hz2⟩ := info_parts info_rat
        have hnews : ∀ (j' : Nat) (u : Value), [Value.bool (decide (q.num < 0)), .slice a3 n3 c3, .bool false, .slice a4 n4 c4][j']? = some u → ((w4.alloc (Obj.cells #[.bool (decide (q.num < 0)), .slice a3 n3 c3, .bool false, .slice a4 n4 c4] 62)).alloc (Obj.cells #[.bool (decide (q.num < 0)), .slice a3 n3 c3, .bool false, .slice a4 n4 c4] 62)).cell? ((⟨w4.heap.size + 1, 0, none⟩ : Addr).add j') = some u := fun j' u hu => by
          match j', hu with
          | 0, hu => cases hu; exact hEL.cell (i := 0) rfl
          | 1, hu => cases hu; exact hEL.cell (i := 1) rfl
          | 2, hu => cases hu; exact hEL.cell (i := 2) rfl
          | 3, hu => cases hu; exact hEL.cell (i := 3) rfl
          | k + 4, hu => simp at hu
        clear hGj h3 h4 hE9 hEL hE5 hQ1 hQ2
        go_wp2_with (at_builtin; refine wpList_append_own_at _ rfl _ _ 55 rfl W.heap.size 62 i0 _ 4 64 under_rats hi0 hz0 hz1 hz2 rfl (by decide) _ _ _ rfl hG9.out.own ⟨w4.heap.size + 1, 0, none⟩ 1 1 [.bool (decide (q.num < 0)), .slice a3 n3 c3, .bool false, .slice a4 n4 c4] rfl rfl hnews (by simp [Value.oneCell']) (by unfold maxLen; omega) (by omega) (by exact HE9.out.size) ?_; intro v' w7 hown' hgrow _ hat)
        go_roundg (n - (i + 1))
        case measure => omega
        case rel =>
          refine ⟨i + 1, by omega, rfl, by go_num, HN, Lib.hid ⟨css ++ [[.bool (decide (q.num < 0)), .slice a3 n3 c3, .bool false, .slice a4 n4 c4]], ?_⟩, Lib.hid (HE9.out.grown hgrow HE9.out.size (fun k e => (hlt10 k e).1))⟩
          rw [HT.out]
          exact hG9.out.add hown' hgrow hat (x := q) ⟨a3, n3, c3, a4, n4, c4, rfl, H39.out, H49.out⟩ (Nat.le_trans HE.out.size hsz3) (fun k e => Nat.lt_of_lt_of_le (hlt10 k e).2 hsz3)
    · obtain rfl : i = n := by omega
      have HF : Hid (s = true) := Lib.hid (by
        rw [← hs.out]
        unfold allMay
        rw [List.all_eq_true]
        intro x hx
        obtain ⟨j, hj, rfl⟩ := List.getElem_of_mem hx
        exact decide_eq_true (HI.out j _ (by rw [← hlen.out]; exact hj) (List.getElem?_eq_getElem hj)))
      have HQ : Hid (∀ q ∈ qs.map frR, nl q.num.natAbs ≤ K ∧ nl q.den ≤ K) := Lib.hid (fun q hq => by
        obtain ⟨x, hx, rfl⟩ := List.mem_map.1 hq
        obtain ⟨j, hj, rfl⟩ := List.getElem_of_mem hx
        have hd0 := HI.out j _ (by rw [← hlen.out]; exact hj) (List.getElem?_eq_getElem hj)
        obtain ⟨_, _, _, _, _, _, _, _, _, _, y, l, l2, _, _, hy, _, _, _, _, h1, h2, hv1, hv2, hn1, hn2⟩ := HS.out.getFr (i := j) (by rw [← hlen.out]; exact hj)
        rw [List.getElem?_eq_getElem hj] at hy
        cases hy
        exact nl_frR _ _ (Nat.le_trans (nl_of h1 (Lib.hid hv1)) hn1) (Nat.le_trans (nl_of h2 (Lib.hid hv2)) hn2) hd0)
      obtain ⟨css, hG⟩ := HGi.out
      rw [List.take_of_length_le (by rw [hlen.out]; exact Nat.le_refl _)] at hG
      obtain ⟨aa, cc, rfl, hsl⟩ := hG.sl
      have HSL := Lib.hid (Sl.zero hsl)
      clear hG hsl HGi HI
      go_wp2_with fail
      refine (common1_any K KL hK hKL wr aa i cc _ HSL.out HQ hL D hD hn40).mono ?_
      rintro e w5 ⟨a5, n5, c5, a6, n6, c6, rfl, h5, h6, hE5⟩
      have hE6 := Ext.trans HE.out hE5
      have r := HR0.out.ext hE6
      skip
      replace r_0 := r.cell (i := 0) rfl
      replace r_1 := r.cell (i := 1) rfl
      replace r_2 := r.cell (i := 2) rfl
      replace r_f0 := r.free 0
      replace r_f1 := r.free 1
      replace r_f2 := r.free 2
      replace r_lt := r.lt
      have hwr : w.heap.size < wr.heap.size := Nat.lt_of_lt_of_le hWs HE.out.size
      have HF2 : Hid (RCommonT w D ((qs.map frR).map (comNum D)) (.returned (.tuple #[.agg #[.bool false, .slice a5 n5 c5, .slice a6 n6 c6], .int .i64 0])) (((w5.setCell ⟨w.heap.size, 0, none⟩ (.bool false)).setCell ⟨w.heap.size, 1, none⟩ (.slice a5 n5 c5)).setCell ⟨w.heap.size, 2, none⟩ (.slice a6 n6 c6))) :=
        Lib.hid ⟨a5, n5, c5, a6, n6, c6, rfl, (h5.mono (Nat.le_refl _) (kept_set3 _ _ _ _ hwr)).mono (by omega) (Kept.refl _ _), (h6.mono (Nat.le_refl _) (kept_set3 _ _ _ _ hwr)).mono (by omega) (Kept.refl _ _), ext_set3 (Ext.trans HEW.out hE6) _ _ _ (Nat.le_refl _)⟩
      have r2 := ((r.set 0 (.bool false)).set 1 (.slice a5 n5 c5)).set 2 (.slice a6 n6 c6)
      have hr0 := r2.cell (i := 0) rfl
      have hr1 := r2.cell (i := 1) rfl
      have hr2 := r2.cell (i := 2) rfl
      clear h5 h6 hE5 hE6 r2
      go_wp2_with fail
      exact bodyPost_ret (v := .tuple #[.agg #[.bool false, .slice a5 n5 c5, .slice a6 n6 c6], .int .i64 0]) (by simp [results, Try.results95, go_sem, hr0, hr1, hr2]) rfl (.inl ⟨HF.out, HF2.out⟩)

set_option maxHeartbeats 4000000 in
theorem ratCommon_any (K KL : Nat) (hK : K ≤ 8796093022208) (hKL : KL ≤ 8796093022208) (w : World) (a : Option Addr) (n c : Nat) (qs : List (Int × Int)) (h : Sl (rFr K) 0 w a n c qs) (hL : nl (comDen (qs.map frR)) ≤ KL) (D : Nat) (hD : Hid (comDen (qs.map frR) = D)) (hn40 : n ≤ 1099511627776) (s : Bool) (hs : Hid (allMay qs = s)) :
    Calls Try.prog 64 #[.slice a n c] w fun e w' => (s = true ∧ RCommonP w D ((qs.map frR).map (comNum D)) e w') ∨ (s = false ∧ RCommonPE w e w') := by
  go_enter Try.func64, Try.ntmps64
  go_wp2_with fail
  have r := Blk.new w 27 #[.bool false, .slice none 0 0]
  have hEW : Ext w (w.alloc (Obj.cells #[.bool false, .slice none 0 0] 27)) := ((Below.refl _ w).alloc (by simp) _)
  generalize hgW : w.alloc (Obj.cells #[.bool false, .slice none 0 0] 27) = W at *
  clear hgW
  replace r_0 := r.cell (i := 0) rfl
  replace r_1 := r.cell (i := 1) rfl
  replace r_f0 := r.free 0
  replace r_f1 := r.free 1
  replace r_lt := r.lt
  have hrB := r_lt
  refine (ratMade_any K KL hK hKL W a n c qs (h.ext (Nat.le_refl _) hEW) hL D hD hn40 s hs).mono ?_
  rintro e w1 (⟨hs1, a5, n5, c5, a6, n6, c6, rfl, h5, h6, hE1⟩ | ⟨hs1, rfl, hE1⟩)
  · have HS1 := Lib.hid hs1
    clear hs1
    replace r := r.ext hE1; replace r_0 := r.cell (i := 0) rfl; replace r_1 := r.cell (i := 1) rfl; replace r_f0 := r.free 0; replace r_f1 := r.free 1; replace r_lt := r.lt
    go_upto_region 2 with (fail)
    have k := Blk.new w1 132 #[.bool false, .slice a5 n5 c5, .slice a6 n6 c6]
    have hEW5 : Ext w1 (w1.alloc (Obj.cells #[.bool false, .slice a5 n5 c5, .slice a6 n6 c6] 132)) := ((Below.refl _ w1).alloc (by simp) _)
    generalize hgW5 : w1.alloc (Obj.cells #[.bool false, .slice a5 n5 c5, .slice a6 n6 c6] 132) = W5 at *
    clear hgW5
    replace k_0 := k.cell (i := 0) rfl
    replace k_1 := k.cell (i := 1) rfl
    replace k_2 := k.cell (i := 2) rfl
    replace r := r.ext hEW5; replace r_0 := r.cell (i := 0) rfl; replace r_1 := r.cell (i := 1) rfl; replace r_f0 := r.free 0; replace r_f1 := r.free 1; replace r_lt := r.lt
    have hE2 := hEW5
    have h5f := (h5.ext (Nat.le_refl _) hE2).mono (Nat.le_refl _) (Kept.trans (kept_set _ 0 (.bool false) hrB) (kept_set _ 1 (.slice a5 n5 c5) hrB))
    have h6f := (h6.ext (Nat.le_refl _) hE2).mono (Nat.le_refl _) (Kept.trans (kept_set _ 0 (.bool false) hrB) (kept_set _ 1 (.slice a5 n5 c5) hrB))
    have HF2 : Hid (RCommonP w D ((qs.map frR).map (comNum D)) (.returned (.tuple #[.agg #[.bool false, .slice a5 n5 c5], .slice a6 n6 c6, .int .i64 0])) ((W5.setCell ⟨w.heap.size, 0, none⟩ (.bool false)).setCell ⟨w.heap.size, 1, none⟩ (.slice a5 n5 c5)).drew) :=
      Lib.hid ⟨a5, n5, c5, a6, n6, c6, rfl, (h5f.mono hEW.size (Kept.refl _ _)).ext (Nat.le_refl _) (Below.refl _ _).drew, (h6f.mono hEW.size (Kept.refl _ _)).ext (Nat.le_refl _) (Below.refl _ _).drew, Below.drew <| Below.setCell (Below.setCell (Ext.trans hEW (Ext.trans hE1 hE2)) (p := ⟨w.heap.size, 0, none⟩) (Nat.le_refl _) _) (p := ⟨w.heap.size, 1, none⟩) (Nat.le_refl _) _⟩
    have r2 := ((r.set 0 (.bool false)).set 1 (.slice a5 n5 c5)).ext (Below.refl _ _).drew
    have hr0 := r2.cell (i := 0) rfl
    have hr1 := r2.cell (i := 1) rfl
    clear h5 h6 h5f h6f hE1 hE2 hEW hEW5 h
    go_region
    all_goals
      go_wp2_with fail
      exact bodyPost_ret (v := .tuple #[.agg #[.bool false, .slice a5 n5 c5], .slice a6 n6 c6, .int .i64 0]) (by simp [results, Try.results64, go_sem, hr0, hr1]) rfl (.inl ⟨HS1.out, HF2.out⟩)
  · have HS1 := Lib.hid hs1
    clear hs1
    replace r := r.ext hE1; replace r_0 := r.cell (i := 0) rfl; replace r_1 := r.cell (i := 1) rfl; replace r_f0 := r.free 0; replace r_f1 := r.free 1; replace r_lt := r.lt
    go_upto_region 2 with (fail)
    have k := Blk.new w1 132 #[.bool false, .slice none 0 0, .slice none 0 0]
    have hEW5 : Ext w1 (w1.alloc (Obj.cells #[.bool false, .slice none 0 0, .slice none 0 0] 132)) := ((Below.refl _ w1).alloc (by simp) _)
    generalize hgW5 : w1.alloc (Obj.cells #[.bool false, .slice none 0 0, .slice none 0 0] 132) = W5 at *
    clear hgW5
    replace k_0 := k.cell (i := 0) rfl
    replace k_1 := k.cell (i := 1) rfl
    replace k_2 := k.cell (i := 2) rfl
    replace r := r.ext hEW5; replace r_0 := r.cell (i := 0) rfl; replace r_1 := r.cell (i := 1) rfl; replace r_f0 := r.free 0; replace r_f1 := r.free 1; replace r_lt := r.lt
    have hE2 := hEW5
    have HF2 : Hid (RCommonPE w (.returned (.tuple #[.agg #[.bool false, .slice none 0 0], .slice none 0 0, .int .i64 6])) ((W5.setCell ⟨w.heap.size, 0, none⟩ (.bool false)).setCell ⟨w.heap.size, 1, none⟩ (.slice none 0 0)).drew) :=
      Lib.hid ⟨rfl, Below.drew <| Below.setCell (Below.setCell (Ext.trans hEW (Ext.trans hE1 hE2)) (p := ⟨w.heap.size, 0, none⟩) (Nat.le_refl _) _) (p := ⟨w.heap.size, 1, none⟩) (Nat.le_refl _) _⟩
    have r2 := ((r.set 0 (.bool false)).set 1 (.slice none 0 0)).ext (Below.refl _ _).drew
    have hr0 := r2.cell (i := 0) rfl
    have hr1 := r2.cell (i := 1) rfl
    clear hE1 hE2 hEW hEW5 h
    go_region
    all_goals
      go_wp2_with fail
      exact bodyPost_ret (v := .tuple #[.agg #[.bool false, .slice none 0 0], .slice none 0 0, .int .i64 6]) (by simp [results, Try.results64, go_sem, hr0, hr1]) rfl (.inr ⟨HS1.out, HF2.out⟩)
end Go.Proofs.Ytbhenelehhiakaa
