/-
  A part.
-/
import Derived.Deep.DeepCutAuto
import Derived.Deep.CutRange
import Derived.Test.YtbhenelehhiakaaFrom15
set_option linter.unusedVariables false
set_option linter.unusedSimpArgs false
namespace Go.Proofs.Ytbhenelehhiakaa
open Go.RowKit

theorem hnorm (z : Int) : Hid (ival (decide (z < 0)) (limbs z.natAbs) = z) := Lib.hid (ival_norm z)

theorem zintMul_z (b b2 : Bool) (B : Nat) (w : World) (a a2 : Option Addr) (n c n2 c2 : Nat) (l l2 : Nt) (z z2 : Int) (h : NatS B w a n c l) (h2 : NatS B w a2 n2 c2 l2) (hn : n ≤ 8796093022208) (hn2 : n2 ≤ 8796093022208) (hz : Hid (ival b l = z)) (hz2 : Hid (ival b2 l2 = z2)) :
    Calls Try.prog 55 #[.agg #[.bool b, .slice a n c], .agg #[.bool b2, .slice a2 n2 c2]] w (RInt w (z * z2)) := by
  have := zintMul_any b b2 B w a a2 n c n2 c2 l l2 h h2 hn hn2
  rwa [hz.out, hz2.out] at this

theorem zintAdd_z (b b2 : Bool) (B : Nat) (w : World) (a a2 : Option Addr) (n c n2 c2 : Nat) (l l2 : Nt) (z z2 : Int) (h : NatS B w a n c l) (h2 : NatS B w a2 n2 c2 l2) (hn : n ≤ 8796093022208) (hn2 : n2 ≤ 8796093022208) (hz : Hid (ival b l = z)) (hz2 : Hid (ival b2 l2 = z2)) :
    Calls Try.prog 74 #[.agg #[.bool b, .slice a n c], .agg #[.bool b2, .slice a2 n2 c2]] w (RInt w (z + z2)) := by
  have := zintAdd_any b b2 B w a a2 n c n2 c2 l l2 h h2 hn hn2
  rwa [hz.out, hz2.out] at this

theorem zintAbs_z (b : Bool) (B : Nat) (w : World) (a : Option Addr) (n c : Nat) (l : Nt) (z : Int) (h : NatS B w a n c l) (hn : n ≤ 17592186044416) (hz : Hid (ival b l = z)) :
    Calls Try.prog 86 #[.agg #[.bool b, .slice a n c]] w (RInt w z.natAbs) := by
  have := zintAbs_any b B w a n c l h hn
  rwa [hz.out] at this

theorem zintNeg_z (b : Bool) (B : Nat) (w : World) (a : Option Addr) (n c : Nat) (l : Nt) (z : Int) (h : NatS B w a n c l) (hn : n ≤ 17592186044416) (hz : Hid (ival b l = z)) :
    Calls Try.prog 87 #[.agg #[.bool b, .slice a n c]] w (RInt w (-z)) := by
  have := zintNeg_any b B w a n c l h hn
  rwa [hz.out] at this

theorem zintSign_z (b : Bool) (B : Nat) (w : World) (a : Option Addr) (n c : Nat) (l : Nt) (z : Int) (h : NatS B w a n c l) (hn : n ≤ 17592186044416) (hz : Hid (ival b l = z)) :
    Calls Try.prog 85 #[.agg #[.bool b, .slice a n c]] w fun e w' => e = .returned (.int .i64 z.sign) ∧ Ext w w' := by
  have := zintSign_any b B w a n c l h hn
  rwa [hz.out] at this

theorem zintExact_z (b b2 : Bool) (B : Nat) (w : World) (a a2 : Option Addr) (n c n2 c2 : Nat) (l l2 : Nt) (z z2 : Int) (h : NatS B w a n c l) (h2 : NatS B w a2 n2 c2 l2) (hn : n ≤ 8796093022208) (hz : Hid (ival b l = z)) (hz2 : Hid (ival b2 l2 = z2)) (h0 : z2 ≠ 0) (hdv : z2 ∣ z) :
    Calls Try.prog 56 #[.agg #[.bool b, .slice a n c], .agg #[.bool b2, .slice a2 n2 c2]] w fun e w' => ∃ v, e = .returned (.tuple #[v, .int .i64 0]) ∧ IntN w.heap.size w' v (z / z2) ∧ Ext w w' := by
  have hp : 0 < val l2 := by
    have := hz2.out
    cases Nat.eq_zero_or_pos (val l2) with
    | inl h => exfalso; apply h0; rw [← this]; unfold ival; rw [h]; cases b2 <;> rfl
    | inr h => exact h
  have := zintExact_any b b2 B w a a2 n c n2 c2 l l2 h h2 hn hp (by rw [hz.out, hz2.out]; exact hdv)
  rwa [hz.out, hz2.out, Int.tdiv_eq_ediv_of_dvd hdv] at this

theorem zgcd_z (b b2 : Bool) (B : Nat) (w : World) (a a2 : Option Addr) (n c n2 c2 : Nat) (l l2 : Nt) (z z2 : Int) (h : NatS B w a n c l) (h2 : NatS B w a2 n2 c2 l2) (hn : n ≤ 8796093022208) (hn2 : n2 ≤ 8796093022208) (hz : Hid (ival b l = z)) (hz2 : Hid (ival b2 l2 = z2)) :
    Calls Try.prog 113 #[.agg #[.bool b, .slice a n c], .agg #[.bool b2, .slice a2 n2 c2]] w (RInt w (Int.gcd z z2)) := by
  have := zgcd_any b b2 B w a a2 n c n2 c2 l l2 h h2 hn hn2
  rwa [hz.out, hz2.out] at this

theorem nl_of {B : Nat} {w : World} {a : Option Addr} {n c : Nat} {l : Nt} {b : Bool} {z : Int} (h : NatS B w a n c l) (hz : Hid (ival b l = z)) : nl z.natAbs ≤ n := by
  rw [← hz.out, ival_neg rfl, ← h.len]
  exact nl_val h.small

theorem len_norm {B : Nat} {w : World} {a : Option Addr} {n c m : Nat} (h : NatS B w a n c (limbs m)) : n = nl m := by rw [← h.len, length_limbs]

theorem nl_gcd {z z2 : Int} {K : Nat} (h : nl z.natAbs ≤ K) (h2 : nl z2.natAbs ≤ K) : nl (Int.gcd z z2) ≤ K := by
  by_cases h0 : z = 0
  · subst h0; rw [Int.gcd_zero_left]; exact h2
  · exact Nat.le_trans (nl_mono (Nat.le_of_dvd (by omega) (Int.gcd_dvd_natAbs_left z z2))) h

theorem nl_div {x y K : Nat} (h : nl x ≤ K) : nl (x / y) ≤ K := Nat.le_trans (nl_mono (Nat.div_le_self x y)) h

theorem intN_zero (B : Nat) (w : World) : IntN B w (.agg #[.bool false, .slice none 0 0]) 0 := ⟨none, 0, 0, rfl, by have : limbs (0 : Int).natAbs = [] := limbs_zero; rw [this]; exact natS_nil _ _⟩

theorem lcm_eq (z z2 : Int) : ((Int.lcm z z2 : Nat) : Int) = (z.natAbs : Int) / (Int.gcd z z2 : Nat) * (z2.natAbs : Int) := by
  unfold Int.lcm Int.gcd Nat.lcm
  by_cases h : Nat.gcd z.natAbs z2.natAbs = 0
  · rw [h]; simp
  · rw [← Int.natCast_ediv, ← Int.natCast_mul, Nat.div_mul_right_comm (Nat.gcd_dvd_left _ _)]

set_option maxHeartbeats 1000000 in
theorem zlcm_z (b b2 : Bool) (B : Nat) (w : World) (a a2 : Option Addr) (n c n2 c2 : Nat) (l l2 : Nt) (z z2 : Int) (h : NatS B w a n c l) (h2 : NatS B w a2 n2 c2 l2) (hn : n ≤ 8796093022208) (hn2 : n2 ≤ 8796093022208) (hz : Hid (ival b l = z)) (hz2 : Hid (ival b2 l2 = z2)) :
    Calls Try.prog 120 #[.agg #[.bool b, .slice a n c], .agg #[.bool b2, .slice a2 n2 c2]] w (RInt w (Int.lcm z z2)) := by
  go_enter Try.func120, Try.ntmps120
  go_wp2_with fail
  have p0 := Blk.new w 27 #[.bool b, .slice a n c]
  have p1 := Blk.new (w.alloc (Obj.cells #[.bool b, .slice a n c] 27)) 27 #[.bool b2, .slice a2 n2 c2]
  replace p0 := p0.ext ((Below.refl _ _).alloc (Nat.le_refl _) (Obj.cells #[.bool b2, .slice a2 n2 c2] 27))
  have r := Blk.new ((w.alloc (Obj.cells #[.bool b, .slice a n c] 27)).alloc (Obj.cells #[.bool b2, .slice a2 n2 c2] 27)) 27 #[.bool false, .slice none 0 0]
  replace p0 := p0.ext ((Below.refl _ _).alloc (Nat.le_refl _) (Obj.cells #[.bool false, .slice none 0 0] 27))
  replace p1 := p1.ext ((Below.refl _ _).alloc (Nat.le_refl _) (Obj.cells #[.bool false, .slice none 0 0] 27))
  have hEW : Ext w (((w.alloc (Obj.cells #[.bool b, .slice a n c] 27)).alloc (Obj.cells #[.bool b2, .slice a2 n2 c2] 27)).alloc (Obj.cells #[.bool false, .slice none 0 0] 27)) := ((((Below.refl _ w).alloc (by simp) _).alloc (by simp) _).alloc (by simp; omega) _)
  generalize hgW : ((w.alloc (Obj.cells #[.bool b, .slice a n c] 27)).alloc (Obj.cells #[.bool b2, .slice a2 n2 c2] 27)).alloc (Obj.cells #[.bool false, .slice none 0 0] 27) = W at *
  clear hgW
  simp only [World.size_alloc] at p1 r
  have p0_ne_p1 : ¬ w.heap.size = w.heap.size + 1 := by omega
  have p0_ne_r : ¬ w.heap.size = w.heap.size + 1 + 1 := by omega
  have p1_ne_p0 : ¬ w.heap.size + 1 = w.heap.size := by omega
  have p1_ne_r : ¬ w.heap.size + 1 = w.heap.size + 1 + 1 := by omega
  have r_ne_p0 : ¬ w.heap.size + 1 + 1 = w.heap.size := by omega
  have r_ne_p1 : ¬ w.heap.size + 1 + 1 = w.heap.size + 1 := by omega
  replace p0_0 := p0.cell (i := 0) rfl
  replace p0_1 := p0.cell (i := 1) rfl
  replace p1_0 := p1.cell (i := 0) rfl
  replace p1_1 := p1.cell (i := 1) rfl
  replace r_0 := r.cell (i := 0) rfl
  replace r_1 := r.cell (i := 1) rfl
  replace r_f0 := r.free 0
  replace r_f1 := r.free 1
  replace r_lt := r.lt
  refine (zgcd_z b b2 B W a a2 n c n2 c2 l l2 z z2 (h.ext (Nat.le_refl _) hEW) (h2.ext (Nat.le_refl _) hEW) hn hn2 hz hz2).mono ?_
  rintro e w1 ⟨a3, n3, c3, rfl, h3, hE1⟩
  replace p0 := p0.ext hE1; replace p0_0 := p0.cell (i := 0) rfl; replace p0_1 := p0.cell (i := 1) rfl; replace p1 := p1.ext hE1; replace p1_0 := p1.cell (i := 0) rfl; replace p1_1 := p1.cell (i := 1) rfl; replace r := r.ext hE1; replace r_0 := r.cell (i := 0) rfl; replace r_1 := r.cell (i := 1) rfl; replace r_f0 := r.free 0; replace r_f1 := r.free 1; replace r_lt := r.lt
  have hE0 := Ext.trans hEW hE1
  generalize hg : ((Int.gcd z z2 : Nat) : Int) = zg at *
  have HG := Lib.hid hg
  clear hg hEW hE1
  go_wp2_with fail
  have g := Blk.new w1 27 #[.bool (decide (zg < 0)), .slice a3 n3 c3]
  have hEW2 : Ext w1 (w1.alloc (Obj.cells #[.bool (decide (zg < 0)), .slice a3 n3 c3] 27)) := ((Below.refl _ w1).alloc (by simp) _)
  generalize hgW2 : w1.alloc (Obj.cells #[.bool (decide (zg < 0)), .slice a3 n3 c3] 27) = W2 at *
  clear hgW2
  replace g_0 := g.cell (i := 0) rfl
  replace g_1 := g.cell (i := 1) rfl
  replace p0 := p0.ext hEW2; replace p0_0 := p0.cell (i := 0) rfl; replace p0_1 := p0.cell (i := 1) rfl; replace p1 := p1.ext hEW2; replace p1_0 := p1.cell (i := 0) rfl; replace p1_1 := p1.cell (i := 1) rfl; replace r := r.ext hEW2; replace r_0 := r.cell (i := 0) rfl; replace r_1 := r.cell (i := 1) rfl; replace r_f0 := r.free 0; replace r_f1 := r.free 1; replace r_lt := r.lt
  have hrB := r_lt
  have h3 := h3.ext (Nat.le_refl _) hEW2
  have hn3 : n3 ≤ 8796093022208 := by
    have h1 := nl_gcd (z := z) (z2 := z2) (K := 8796093022208) (Nat.le_trans (nl_of h hz) hn) (Nat.le_trans (nl_of h2 hz2) hn2)
    have := len_norm h3
    rw [← HG.out, Int.natAbs_natCast] at this
    omega
  refine (zintSign_z _ _ W2 a3 n3 c3 _ zg h3 (by omega) (hnorm zg)).mono ?_
  rintro e w3 ⟨rfl, hE3⟩
  replace p0 := p0.ext hE3; replace p0_0 := p0.cell (i := 0) rfl; replace p0_1 := p0.cell (i := 1) rfl; replace p1 := p1.ext hE3; replace p1_0 := p1.cell (i := 0) rfl; replace p1_1 := p1.cell (i := 1) rfl; replace r := r.ext hE3; replace r_0 := r.cell (i := 0) rfl; replace r_1 := r.cell (i := 1) rfl; replace r_f0 := r.free 0; replace r_f1 := r.free 1; replace r_lt := r.lt; replace g := g.ext hE3; replace g_0 := g.cell (i := 0) rfl; replace g_1 := g.cell (i := 1) rfl
  have h3 := h3.ext (Nat.le_refl _) hE3
  have hE0 := Ext.trans hE0 (Ext.trans hEW2 hE3)
  by_cases h0 : zg = 0
  · subst h0
    rw [Int.sign_zero]
    clear hEW2 hE3
    have HF := Lib.hid (RInt.boxN (w := w) (r := w.heap.size + 1 + 1) (u1 := .bool false) (u2 := .slice none 0 0) (by omega) hrB hE0 (intN_zero _ _))
    have hL : ((Int.lcm z z2 : Nat) : Int) = 0 := by rw [lcm_eq, HG.out]; simp
    rw [← hL] at HF
    have r2 : Blk (((w3).setCell ⟨w.heap.size + 1 + 1, 0, none⟩ (.bool false)).setCell ⟨w.heap.size + 1 + 1, 1, none⟩ (.slice none 0 0)) _ _ #[.bool false, .slice none 0 0] := ((r).set 0 (.bool false)).set 1 (.slice none 0 0)
    have hr0 := r2.cell (i := 0) rfl
    have hr1 := r2.cell (i := 1) rfl
    go_wp2_with fail
    exact bodyPost_ret (v := .agg #[.bool false, .slice none 0 0]) (by simp [results, Try.results120, go_sem, hr0, hr1]) rfl HF.out
  · have hs0 : (zg.sign == 0) = false := by simpa using h0
    have hgd : zg ∣ (z.natAbs : Int) := by rw [← HG.out]; exact Int.natCast_dvd_natCast.2 (Int.gcd_dvd_natAbs_left z z2)
    have HD := Lib.hid hgd
    have H0 := Lib.hid h0
    have HS := Lib.hid h3
    generalize zg.sign = sg at *
    clear h0 hgd h3 hEW2 hE3
    have hr3 := r_lt
    go_upto_region 4 with (fail)
    go_cut [6] (fun s6 wx => ∃ (qb : Nat) (a5 : Option Addr) (n5 c5 : Nat), s6 = .pointer (some ⟨qb, 0, none⟩) ∧ w3.heap.size ≤ qb ∧ Hid (Blk wx (w.heap.size + 1) 27 #[.bool b2, .slice a2 n2 c2]) ∧ Hid (Blk wx (w.heap.size + 1 + 1) 27 #[.bool false, .slice none 0 0]) ∧ Hid (Blk wx qb 27 #[.bool (decide ((z.natAbs : Int) / zg < 0)), .slice a5 n5 c5]) ∧ Hid (NatS w3.heap.size wx a5 n5 c5 (limbs ((z.natAbs : Int) / zg).natAbs)) ∧ Hid (Ext w wx))
    case first =>
      have hd : Ext w3 w3.drew := (Below.refl _ _).drew
      have hE1 := Ext.trans hE0 hd
      have h3 := HS.out.ext (Nat.le_refl _) hd
      have p0 := p0.ext hd; have p0_0 := p0.cell (i := 0) rfl; have p0_1 := p0.cell (i := 1) rfl; have p1 := p1.ext hd; have p1_0 := p1.cell (i := 0) rfl; have p1_1 := p1.cell (i := 1) rfl; have r := r.ext hd; have r_0 := r.cell (i := 0) rfl; have r_1 := r.cell (i := 1) rfl; have r_f0 := r.free 0; have r_f1 := r.free 1; have r_lt := r.lt; have g := g.ext hd; have g_0 := g.cell (i := 0) rfl; have g_1 := g.cell (i := 1) rfl
      have hrB := r_lt
      have hK : Ext w3.drew w3.drew := Ext.refl _
      go_region_held3 (fun w' => w'.cell? ⟨w.heap.size, 0, none⟩ = some (.bool b) ∧ w'.cell? ⟨w.heap.size, 1, none⟩ = some (.slice a n c) ∧ w'.cell? ⟨w.heap.size + 1, 0, none⟩ = some (.bool b2) ∧ w'.cell? ⟨w.heap.size + 1, 1, none⟩ = some (.slice a2 n2 c2) ∧ w'.cell? ⟨w1.heap.size, 0, none⟩ = some (.bool (decide (zg < 0))) ∧ w'.cell? ⟨w1.heap.size, 1, none⟩ = some (.slice a3 n3 c3)) (first | exact ⟨p0_0, p0_1, p1_0, p1_1, g_0, g_1⟩ | go_keep)
        (first | (go_at_call 86; refine (zintAbs_z b B _ a n c l z (h.ext (Nat.le_refl _) (Ext.trans hE1 (by (first | exact Ext.refl _ | exact (Below.refl _ _).alloc (Nat.le_refl _) _ | exact (Below.refl _ _).drew)))) (by omega) hz).mono ?_; rintro e w4 ⟨a4, n4, c4, rfl, h4, hE4⟩; have hB4 := (fun b t c h => Blk.ext h hE4 : ∀ b t c, Blk _ b t c → Blk w4 b t c); have hz4 := hE4.size; (try (have q : Blk w4 w3.heap.size _ _ := hB4 _ _ _ (Blk.new w3.drew 27 #[.bool false, .slice none 0 0]); have qn6 : _ ≠ w3.heap.size := Nat.ne_of_lt r.lt; have qn0 : w3.heap.size ≠ _ := Nat.ne_of_gt p0.lt; have qn1 : w3.heap.size ≠ _ := Nat.ne_of_gt p1.lt; have qn2 : w3.heap.size ≠ _ := Nat.ne_of_gt g.lt; have qn3 : _ ≠ w3.heap.size := Nat.ne_of_lt p0.lt; have qn4 : _ ≠ w3.heap.size := Nat.ne_of_lt p1.lt; have qn5 : _ ≠ w3.heap.size := Nat.ne_of_lt g.lt; have q_0 := q.cell (i := 0) rfl; have q_1 := q.cell (i := 1) rfl; have q_f0 := q.free 0; have q_f1 := q.free 1; have q_lt := q.lt)); have hE4 : Ext w3.drew w4 := Ext.trans (by (first | exact Ext.refl _ | exact (Below.refl _ _).alloc (Nat.le_refl _) _ | exact (Below.refl _ _).drew)) hE4; replace p0 := p0.ext hE4; replace p0_0 := p0.cell (i := 0) rfl; replace p0_1 := p0.cell (i := 1) rfl; replace p1 := p1.ext hE4; replace p1_0 := p1.cell (i := 0) rfl; replace p1_1 := p1.cell (i := 1) rfl; replace r := r.ext hE4; replace r_0 := r.cell (i := 0) rfl; replace r_1 := r.cell (i := 1) rfl; replace r_f0 := r.free 0; replace r_f1 := r.free 1; replace r_lt := r.lt; replace g := g.ext hE4; replace g_0 := g.cell (i := 0) rfl; replace g_1 := g.cell (i := 1) rfl; have h4 := h4.mono (B' := w3.heap.size) (by first | exact Nat.le_refl _ | exact hd.size | (simp; done)) (Kept.refl _ _); have hE1 := Ext.trans hE1 hE4; have h3 := h3.ext (Nat.le_refl _) hE4)
               | (go_at_call 56; refine (zintExact_z _ _ 0 _ a4 a3 n4 c4 n3 c3 _ _ (z.natAbs : Int) zg (h4.ext (Nat.zero_le _) (by (first | exact Ext.refl _ | exact (Below.refl _ _).alloc (Nat.le_refl _) _ | exact (Below.refl _ _).drew))) (h3.ext (Nat.zero_le _) (by (first | exact Ext.refl _ | exact (Below.refl _ _).alloc (Nat.le_refl _) _ | exact (Below.refl _ _).drew))) (by have := len_norm h4; rw [Int.natAbs_natCast] at this; have := nl_of h hz; omega) (hnorm _) (hnorm _) H0.out HD.out).mono ?_; rintro e w5 ⟨v5, rfl, ⟨a5, n5, c5, rfl, h5⟩, hE5⟩; have hB5 := (fun b t c h => Blk.ext h hE5 : ∀ b t c, Blk _ b t c → Blk w5 b t c); have hz5 := hE5.size; (try (have q := hB5 _ _ _ (Blk.new w4 27 #[.bool false, .slice none 0 0]); have qn6 := Nat.ne_of_lt r.lt; have qn0 := Nat.ne_of_gt p0.lt; have qn1 := Nat.ne_of_gt p1.lt; have qn2 := Nat.ne_of_gt g.lt; have qn3 := Nat.ne_of_lt p0.lt; have qn4 := Nat.ne_of_lt p1.lt; have qn5 := Nat.ne_of_lt g.lt; have q_0 := q.cell (i := 0) rfl; have q_1 := q.cell (i := 1) rfl; have q_f0 := q.free 0; have q_f1 := q.free 1; have q_lt := q.lt)); (try (have q := q.ext hE5; have q_0 := q.cell (i := 0) rfl; have q_1 := q.cell (i := 1) rfl; have q_f0 := q.free 0; have q_f1 := q.free 1; have q_lt := q.lt)); have hE5 : Ext w4 w5 := Ext.trans (by (first | exact Ext.refl _ | exact (Below.refl _ _).alloc (Nat.le_refl _) _ | exact (Below.refl _ _).drew)) hE5; replace p0 := p0.ext hE5; replace p0_0 := p0.cell (i := 0) rfl; replace p0_1 := p0.cell (i := 1) rfl; replace p1 := p1.ext hE5; replace p1_0 := p1.cell (i := 0) rfl; replace p1_1 := p1.cell (i := 1) rfl; replace r := r.ext hE5; replace r_0 := r.cell (i := 0) rfl; replace r_1 := r.cell (i := 1) rfl; replace r_f0 := r.free 0; replace r_f1 := r.free 1; replace r_lt := r.lt; replace g := g.ext hE5; replace g_0 := g.cell (i := 0) rfl; replace g_1 := g.cell (i := 1) rfl; have hE1 := Ext.trans hE1 hE5))
      all_goals (go_wp2_with fail; go_meet)
      all_goals first
        | exact ⟨w5.heap.size, a5, n5, c5, rfl, Nat.le_trans hE4.size hE5.size, Lib.hid (p1.ext ((Below.refl _ _).alloc (Nat.le_refl _) _)), Lib.hid (r.ext ((Below.refl _ _).alloc (Nat.le_refl _) _)), Lib.hid (Blk.new _ _ _), Lib.hid (h5.ext hE4.size ((Below.refl _ _).alloc (Nat.le_refl _) _)), Lib.hid (Ext.trans hE1 ((Below.refl _ _).alloc (Nat.le_refl _) _))⟩
        | exact ⟨w4.heap.size, a5, n5, c5, rfl, hE4.size, Lib.hid ((p1.set_ne 0 _ qn4).set_ne 1 _ qn4), Lib.hid ((r.set_ne 0 _ qn6).set_ne 1 _ qn6), Lib.hid ((q.set 0 _).set 1 _), Lib.hid (h5.mono (by rw [World.size_alloc]; exact Nat.le_succ_of_le hE4.size) (Kept.trans (kept_set _ _ _ (by simp)) (kept_set _ _ _ (by simp)))), Lib.hid (Below.setCell (Below.setCell hE1 (p := ⟨w4.heap.size, 0, none⟩) (by simp; omega) _) (p := ⟨w4.heap.size, 1, none⟩) (by simp; omega) _)⟩
        | exact ⟨w3.heap.size, a5, n5, c5, rfl, Nat.le_refl _, Lib.hid ((p1.set_ne 0 _ qn4).set_ne 1 _ qn4), Lib.hid ((r.set_ne 0 _ qn6).set_ne 1 _ qn6), Lib.hid ((q.set 0 _).set 1 _), Lib.hid (h5.mono hE4.size (Kept.trans (kept_set _ _ _ (by simp at *; omega)) (kept_set _ _ _ (by simp at *; omega)))), Lib.hid (Below.setCell (Below.setCell hE1 (p := ⟨w3.heap.size, 0, none⟩) (by simp; omega) _) (p := ⟨w3.heap.size, 1, none⟩) (by simp; omega) _)⟩
        | trace_state
    case rest =>
      clear p0 p1 r g p0_0 p0_1 p1_0 p1_1 r_0 r_1 r_f0 r_f1 r_lt g_0 g_1
      obtain ⟨qb, a5, n5, c5, rfl, hqb, HP1, HRR, HQ, H5, HE⟩ := hcut
      go_wp2_with fail
      have hd : Ext wc wc.drew := (Below.refl _ _).drew
      have hE1 := Ext.trans HE.out hd
      have p1 := HP1.out.ext hd
      have r := HRR.out.ext hd
      have q := HQ.out.ext hd
      have h5 := H5.out.ext (Nat.zero_le _) hd
      have hrB := r.lt
      have hqr : ¬ w.heap.size + 1 + 1 = qb := by omega
      have hrq : ¬ qb = w.heap.size + 1 + 1 := by omega
      generalize hq5 : (z.natAbs : Int) / zg = z5 at *
      have HQ5 := Lib.hid hq5
      clear hq5 hE0
      skip
      replace p1_0 := p1.cell (i := 0) rfl
      replace p1_1 := p1.cell (i := 1) rfl
      replace q_0 := q.cell (i := 0) rfl
      replace q_1 := q.cell (i := 1) rfl
      replace r_0 := r.cell (i := 0) rfl
      replace r_1 := r.cell (i := 1) rfl
      replace r_f0 := r.free 0
      replace r_f1 := r.free 1
      replace r_lt := r.lt
      have hK : Ext wc.drew wc.drew := Ext.refl _
      have hn5 : n5 ≤ 8796093022208 := by
        have h1 := len_norm h5
        have h2 := nl_of h hz
        rw [← HQ5.out, ← HG.out, ← Int.natCast_ediv, Int.natAbs_natCast] at h1
        have := nl_div (y := Int.gcd z z2) h2
        omega
      go_region_held3 (fun w' => w'.cell? ⟨w.heap.size + 1, 0, none⟩ = some (.bool b2) ∧ w'.cell? ⟨w.heap.size + 1, 1, none⟩ = some (.slice a2 n2 c2) ∧ w'.cell? ⟨qb, 0, none⟩ = some (.bool (decide (z5 < 0))) ∧ w'.cell? ⟨qb, 1, none⟩ = some (.slice a5 n5 c5)) (first | exact ⟨p1_0, p1_1, q_0, q_1⟩ | go_keep)
        (first | (go_at_call 86; refine (zintAbs_z b2 B _ a2 n2 c2 l2 z2 (h2.ext (Nat.le_refl _) hE1) (by omega) hz2).mono ?_; rintro e w4 ⟨a4, n4, c4, rfl, h4, hE4⟩; replace p1 := p1.ext hE4; replace p1_0 := p1.cell (i := 0) rfl; replace p1_1 := p1.cell (i := 1) rfl; replace q := q.ext hE4; replace q_0 := q.cell (i := 0) rfl; replace q_1 := q.cell (i := 1) rfl; replace r := r.ext hE4; replace r_0 := r.cell (i := 0) rfl; replace r_1 := r.cell (i := 1) rfl; replace r_f0 := r.free 0; replace r_f1 := r.free 1; replace r_lt := r.lt; have hE1 := Ext.trans hE1 hE4; have h5 := h5.ext (Nat.le_refl _) hE4; have hK := Ext.trans hK hE4)
               | (go_at_call 55; refine (zintMul_z _ _ 0 _ a5 a4 n5 c5 n4 c4 _ _ z5 (z2.natAbs : Int) h5 (h4.mono (Nat.zero_le _) (Kept.refl _ _)) hn5 (by have := len_norm h4; rw [Int.natAbs_natCast] at this; have := nl_of h2 hz2; omega) (hnorm _) (hnorm _)).mono ?_; rintro e w6 ⟨a6, n6, c6, rfl, h6, hE6⟩; replace p1 := p1.ext hE6; replace p1_0 := p1.cell (i := 0) rfl; replace p1_1 := p1.cell (i := 1) rfl; replace q := q.ext hE6; replace q_0 := q.cell (i := 0) rfl; replace q_1 := q.cell (i := 1) rfl; replace r := r.ext hE6; replace r_0 := r.cell (i := 0) rfl; replace r_1 := r.cell (i := 1) rfl; replace r_f0 := r.free 0; replace r_f1 := r.free 1; replace r_lt := r.lt; have h6 := h6.mono hK.size (Kept.refl _ _); have hE1 := Ext.trans hE1 hE6; have hK := Ext.trans hK hE6))
      all_goals
        have HF := Lib.hid (RInt.boxN (w := w) (r := w.heap.size + 1 + 1) (u1 := .bool (decide (z5 * (z2.natAbs : Int) < 0))) (u2 := .slice a6 n6 c6) (by omega) hrB hE1 ⟨a6, n6, c6, rfl, h6⟩)
        rw [show z5 * (z2.natAbs : Int) = ((Int.lcm z z2 : Nat) : Int) by rw [lcm_eq, HG.out, HQ5.out]] at HF ⊢
        generalize ((Int.lcm z z2 : Nat) : Int) = zl at *
        clear h4 h5 h6 hE1 hK
        have r2 : Blk (((w6).setCell ⟨w.heap.size + 1 + 1, 0, none⟩ (.bool (decide (zl < 0)))).setCell ⟨w.heap.size + 1 + 1, 1, none⟩ (.slice a6 n6 c6)) _ _ #[.bool (decide (zl < 0)), .slice a6 n6 c6] := ((r).set 0 (.bool (decide (zl < 0)))).set 1 (.slice a6 n6 c6)
        generalize ((w6).setCell ⟨w.heap.size + 1 + 1, 0, none⟩ (.bool (decide (zl < 0)))).setCell ⟨w.heap.size + 1 + 1, 1, none⟩ (.slice a6 n6 c6) = W3 at *
        have hr0 := r2.cell (i := 0) rfl
        have hr1 := r2.cell (i := 1) rfl
        go_wp2_with fail
        exact bodyPost_ret (v := .agg #[.bool (decide (zl < 0)), .slice a6 n6 c6]) (by simp [results, Try.results120, go_sem, hr0, hr1]) rfl HF.out
end Go.Proofs.Ytbhenelehhiakaa
namespace Go.Proofs.Ytbhenelehhiakaa
open Go.RowKit

def gcdI (x y : Int) : Int := (Int.gcd x y : Nat)
def lcmI (x y : Int) : Int := (Int.lcm x y : Nat)

theorem op_gcd : OpOf Try.prog 113 gcdI := fun b b2 B w a a2 n c n2 c2 l l2 h h2 hn hn2 => zgcd_z b b2 B w a a2 n c n2 c2 l l2 _ _ h h2 hn hn2 (Lib.hid rfl) (Lib.hid rfl)
theorem op_lcm : OpOf Try.prog 120 lcmI := fun b b2 B w a a2 n c n2 c2 l l2 h h2 hn hn2 => zlcm_z b b2 B w a a2 n c n2 c2 l l2 _ _ h h2 hn hn2 (Lib.hid rfl) (Lib.hid rfl)

theorem foldZ_two (g : Int → Int → Int) (z : Int) (x y : It) : foldZ g z [x, y] = g (g z (iv x)) (iv y) := rfl

set_option maxHeartbeats 1000000 in
theorem zintGcd_any (B : Nat) (w : World) (a2 : Option Addr) (n2 c2 : Nat) (x y : It) (h2 : Sl rInt B w a2 n2 c2 [x, y]) (hx : x.2.length ≤ 8796093022208) (hy : y.2.length ≤ 8796093022208) (z1 z2 : Int) (hz1 : Hid (iv x = z1)) (hz2 : Hid (iv y = z2)) :
    Calls Try.prog 84 #[.slice a2 n2 c2] w (RInt w (Int.gcd z1 z2)) := by
  obtain rfl : 2 = n2 := h2.len
  have hen : Enters Try.prog 113 := enters_mk Try.func113 (by kernel_rfl) rfl
  have hf : foldZ gcdI 0 [x, y] = (Int.gcd z1 z2 : Nat) := by
    rw [foldZ_two, hz1.out, hz2.out]; unfold gcdI; rw [Int.gcd_zero_left]; simp [Int.gcd]
  have hxn : nl (iv x).natAbs ≤ 8796093022208 := by
    have : nl (val x.2) ≤ x.2.length := nl_val (by
      obtain ⟨b, o, cs, ha, hr, hc⟩ := h2.at_ 0 (by simp)
      obtain ⟨a1, n1, c1, _, h⟩ := rInt_ok hr
      exact h.small)
    unfold iv; rw [ival_neg rfl]; omega
  go_enter Try.func84, Try.ntmps84
  go_wp2_with fail
  have r := Blk.new w 27 #[.bool false, .slice none 0 0]
  have hEW : Ext w (w.alloc (Obj.cells #[.bool false, .slice none 0 0] 27)) := ((Below.refl _ w).alloc (by simp) _)
  generalize hgW : w.alloc (Obj.cells #[.bool false, .slice none 0 0] 27) = W at *
  clear hgW
  replace r_0 := r.cell (i := 0) rfl
  replace r_1 := r.cell (i := 1) rfl
  replace r_f0 := r.free 0
  replace r_f1 := r.free 1
  replace r_lt := r.lt
  have hrB := r_lt
  have hm : ∀ u ∈ [x, y], u.2.length ≤ 8796093022208 := by intro u hu; simp only [List.mem_cons, List.not_mem_nil, or_false] at hu; obtain rfl | rfl := hu <;> assumption
  refine (folded_any 113 gcdI hen (Lib.hid op_gcd) B W false none a2 0 0 2 c2 [] [x, y] (natS_nil _ _) (h2.ext (Nat.le_refl _) hEW) (by omega) (by omega) (by intro u hu; simp at hu; obtain rfl | rfl := hu <;> assumption) (by omega) ?_).mono ?_
  · intro j hj
    obtain rfl | rfl : j = 0 ∨ j = 1 := by omega
    · show nl (ival false []).natAbs ≤ _
      rw [show (ival false []).natAbs = 0 from rfl, nl_zero]; omega
    · show nl (gcdI (ival false []) (iv x)).natAbs ≤ _
      unfold gcdI
      rw [show ival false [] = 0 from rfl, Int.gcd_zero_left, Int.natAbs_natCast]; exact hxn
  rw [show ival false [] = 0 from rfl, hf]
  rintro e w1 ⟨a3, n3, c3, rfl, h3, hE1⟩
  replace r := r.ext hE1; replace r_0 := r.cell (i := 0) rfl; replace r_1 := r.cell (i := 1) rfl; replace r_f0 := r.free 0; replace r_f1 := r.free 1; replace r_lt := r.lt
  have HF := Lib.hid (RInt.boxN (w := w) (w2 := w1) (r := w.heap.size) (u1 := .bool (decide (((Int.gcd z1 z2 : Nat) : Int) < 0))) (u2 := .slice a3 n3 c3) (by omega) hrB (Ext.trans hEW hE1) ⟨a3, n3, c3, rfl, h3⟩)
  generalize ((Int.gcd z1 z2 : Nat) : Int) = z at *
  clear hEW hE1 h3 h2 hf
  have r2 : Blk (((w1).setCell ⟨w.heap.size, 0, none⟩ (.bool (decide (z < 0)))).setCell ⟨w.heap.size, 1, none⟩ (.slice a3 n3 c3)) _ _ #[.bool (decide (z < 0)), .slice a3 n3 c3] := ((r).set 0 (.bool (decide (z < 0)))).set 1 (.slice a3 n3 c3)
  have hr0 := r2.cell (i := 0) rfl
  have hr1 := r2.cell (i := 1) rfl
  go_wp2_with fail
  exact bodyPost_ret (v := .agg #[.bool (decide (z < 0)), .slice a3 n3 c3]) (by simp [results, Try.results84, go_sem, hr0, hr1]) rfl HF.out

set_option maxHeartbeats 1000000 in
theorem zintLcm_any (B : Nat) (w : World) (a2 : Option Addr) (n2 c2 : Nat) (x y : It) (h2 : Sl rInt B w a2 n2 c2 [x, y]) (hx : x.2.length ≤ 8796093022208) (hy : y.2.length ≤ 8796093022208) (z1 z2 : Int) (hz1 : Hid (iv x = z1)) (hz2 : Hid (iv y = z2)) :
    Calls Try.prog 97 #[.slice a2 n2 c2] w (RInt w (Int.lcm z1 z2)) := by
  obtain rfl : 2 = n2 := h2.len
  have hen : Enters Try.prog 120 := enters_mk Try.func120 (by kernel_rfl) rfl
  have hf : foldZ lcmI 1 [x, y] = (Int.lcm z1 z2 : Nat) := by
    rw [foldZ_two, hz1.out, hz2.out]; unfold lcmI; rw [Int.lcm_one_left]; simp [Int.lcm]
  have hxn : nl (iv x).natAbs ≤ 8796093022208 := by
    have : nl (val x.2) ≤ x.2.length := nl_val (by
      obtain ⟨b, o, cs, ha, hr, hc⟩ := h2.at_ 0 (by simp)
      obtain ⟨a1, n1, c1, _, h⟩ := rInt_ok hr
      exact h.small)
    unfold iv; rw [ival_neg rfl]; omega
  go_enter Try.func97, Try.ntmps97
  go_wp2_with fail
  have r := Blk.new w 27 #[.bool false, .slice none 0 0]
  have hEW : Ext w (w.alloc (Obj.cells #[.bool false, .slice none 0 0] 27)) := ((Below.refl _ w).alloc (by simp) _)
  generalize hgW : w.alloc (Obj.cells #[.bool false, .slice none 0 0] 27) = W at *
  clear hgW
  replace r_0 := r.cell (i := 0) rfl
  replace r_1 := r.cell (i := 1) rfl
  replace r_f0 := r.free 0
  replace r_f1 := r.free 1
  replace r_lt := r.lt
  have hrB := r_lt
  refine (zintOf_any 1 W (by omega) (by omega)).mono ?_
  rintro e w3 ⟨a4, n4, c4, rfl, h4, hE4⟩
  replace r := r.ext hE4; replace r_0 := r.cell (i := 0) rfl; replace r_1 := r.cell (i := 1) rfl; replace r_f0 := r.free 0; replace r_f1 := r.free 1; replace r_lt := r.lt
  have hE0 := Ext.trans hEW hE4
  go_wp2_with fail
  have he1 : ival false (limbs (Int.natAbs 1)) = 1 := ival_norm 1
  have hl4 : n4 = 1 := by have := len_norm h4; rw [this]; decide
  refine (folded_any 120 lcmI hen (Lib.hid op_lcm) 0 w3 _ a4 a2 n4 c4 2 c2 _ [x, y] (h4.mono (Nat.zero_le _) (Kept.refl _ _)) (h2.ext (Nat.zero_le _) hE0) (by omega) (by omega) (by intro u hu; simp at hu; obtain rfl | rfl := hu <;> assumption) (by omega) ?_).mono ?_
  · intro j hj
    obtain rfl | rfl : j = 0 ∨ j = 1 := by omega
    · show nl (ival false (limbs (Int.natAbs 1))).natAbs ≤ _
      rw [he1]; decide
    · show nl (lcmI (ival false (limbs (Int.natAbs 1))) (iv x)).natAbs ≤ _
      unfold lcmI
      rw [he1, Int.lcm_one_left, Int.natAbs_natCast]; exact hxn
  rw [he1, hf]
  rintro e w1 ⟨a3, n3, c3, rfl, h3, hE1⟩
  replace r := r.ext hE1; replace r_0 := r.cell (i := 0) rfl; replace r_1 := r.cell (i := 1) rfl; replace r_f0 := r.free 0; replace r_f1 := r.free 1; replace r_lt := r.lt
  have HF := Lib.hid (RInt.boxN (w := w) (w2 := w1) (r := w.heap.size) (u1 := .bool (decide (((Int.lcm z1 z2 : Nat) : Int) < 0))) (u2 := .slice a3 n3 c3) (by omega) (Nat.lt_of_lt_of_le hrB hE4.size) (Ext.trans hE0 hE1) ⟨a3, n3, c3, rfl, h3⟩)
  generalize ((Int.lcm z1 z2 : Nat) : Int) = z at *
  clear hEW hE1 h3 h2 hf h4 hE4 hE0 hl4 he1
  have r2 : Blk (((w1).setCell ⟨w.heap.size, 0, none⟩ (.bool (decide (z < 0)))).setCell ⟨w.heap.size, 1, none⟩ (.slice a3 n3 c3)) _ _ #[.bool (decide (z < 0)), .slice a3 n3 c3] := ((r).set 0 (.bool (decide (z < 0)))).set 1 (.slice a3 n3 c3)
  have hr0 := r2.cell (i := 0) rfl
  have hr1 := r2.cell (i := 1) rfl
  go_wp2_with fail
  exact bodyPost_ret (v := .agg #[.bool (decide (z < 0)), .slice a3 n3 c3]) (by simp [results, Try.results97, go_sem, hr0, hr1]) rfl HF.out
end Go.Proofs.Ytbhenelehhiakaa
