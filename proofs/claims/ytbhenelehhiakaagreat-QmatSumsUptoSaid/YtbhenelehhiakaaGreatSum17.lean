/-
  A part.
-/
import Derived.Deep.DeepCutAuto
import Derived.Deep.CutRange
import Derived.Test.YtbhenelehhiakaaGreatSum15
set_option linter.unusedVariables false
set_option linter.unusedSimpArgs false
namespace Go.Proofs.YtbhenelehhiakaaGreat
open Go.RowKit

theorem hnorm (z : Int) : Hid (ival (decide (z < 0)) (limbs z.natAbs) = z) := Lib.hid (ival_norm z)

theorem zintMul_z (b b2 : Bool) (B : Nat) (w : World) (a a2 : Option Addr) (n c n2 c2 : Nat) (l l2 : Nt) (z z2 : Int) (h : NatS B w a n c l) (h2 : NatS B w a2 n2 c2 l2) (hn : n ≤ 8796093022208) (hn2 : n2 ≤ 8796093022208) (hz : Hid (ival b l = z)) (hz2 : Hid (ival b2 l2 = z2)) :
    Calls Tryz.prog 71 #[.agg #[.bool b, .slice a n c], .agg #[.bool b2, .slice a2 n2 c2]] w (RInt w (z * z2)) := by
  have := zintMul_any b b2 B w a a2 n c n2 c2 l l2 h h2 hn hn2
  rwa [hz.out, hz2.out] at this

theorem zintAdd_z (b b2 : Bool) (B : Nat) (w : World) (a a2 : Option Addr) (n c n2 c2 : Nat) (l l2 : Nt) (z z2 : Int) (h : NatS B w a n c l) (h2 : NatS B w a2 n2 c2 l2) (hn : n ≤ 8796093022208) (hn2 : n2 ≤ 8796093022208) (hz : Hid (ival b l = z)) (hz2 : Hid (ival b2 l2 = z2)) :
    Calls Tryz.prog 93 #[.agg #[.bool b, .slice a n c], .agg #[.bool b2, .slice a2 n2 c2]] w (RInt w (z + z2)) := by
  have := zintAdd_any b b2 B w a a2 n c n2 c2 l l2 h h2 hn hn2
  rwa [hz.out, hz2.out] at this

theorem zintAbs_z (b : Bool) (B : Nat) (w : World) (a : Option Addr) (n c : Nat) (l : Nt) (z : Int) (h : NatS B w a n c l) (hn : n ≤ 17592186044416) (hz : Hid (ival b l = z)) :
    Calls Tryz.prog 111 #[.agg #[.bool b, .slice a n c]] w (RInt w z.natAbs) := by
  have := zintAbs_any b B w a n c l h hn
  rwa [hz.out] at this

theorem zintNeg_z (b : Bool) (B : Nat) (w : World) (a : Option Addr) (n c : Nat) (l : Nt) (z : Int) (h : NatS B w a n c l) (hn : n ≤ 17592186044416) (hz : Hid (ival b l = z)) :
    Calls Tryz.prog 112 #[.agg #[.bool b, .slice a n c]] w (RInt w (-z)) := by
  have := zintNeg_any b B w a n c l h hn
  rwa [hz.out] at this

theorem zintSign_z (b : Bool) (B : Nat) (w : World) (a : Option Addr) (n c : Nat) (l : Nt) (z : Int) (h : NatS B w a n c l) (hn : n ≤ 17592186044416) (hz : Hid (ival b l = z)) :
    Calls Tryz.prog 86 #[.agg #[.bool b, .slice a n c]] w fun e w' => e = .returned (.int .i64 z.sign) ∧ Ext w w' := by
  have := zintSign_any b B w a n c l h hn
  rwa [hz.out] at this

theorem zintExact_z (b b2 : Bool) (B : Nat) (w : World) (a a2 : Option Addr) (n c n2 c2 : Nat) (l l2 : Nt) (z z2 : Int) (h : NatS B w a n c l) (h2 : NatS B w a2 n2 c2 l2) (hn : n ≤ 8796093022208) (hz : Hid (ival b l = z)) (hz2 : Hid (ival b2 l2 = z2)) (h0 : z2 ≠ 0) (hdv : z2 ∣ z) :
    Calls Tryz.prog 70 #[.agg #[.bool b, .slice a n c], .agg #[.bool b2, .slice a2 n2 c2]] w fun e w' => ∃ v, e = .returned (.tuple #[v, .int .i64 0]) ∧ IntN w.heap.size w' v (z / z2) ∧ Ext w w' := by
  have hp : 0 < val l2 := by
    have := hz2.out
    cases Nat.eq_zero_or_pos (val l2) with
    | inl h => exfalso; apply h0; rw [← this]; unfold ival; rw [h]; cases b2 <;> rfl
    | inr h => exact h
  have := zintExact_any b b2 B w a a2 n c n2 c2 l l2 h h2 hn hp (by rw [hz.out, hz2.out]; exact hdv)
  rwa [hz.out, hz2.out, Int.tdiv_eq_ediv_of_dvd hdv] at this

theorem zgcd_z (b b2 : Bool) (B : Nat) (w : World) (a a2 : Option Addr) (n c n2 c2 : Nat) (l l2 : Nt) (z z2 : Int) (h : NatS B w a n c l) (h2 : NatS B w a2 n2 c2 l2) (hn : n ≤ 8796093022208) (hn2 : n2 ≤ 8796093022208) (hz : Hid (ival b l = z)) (hz2 : Hid (ival b2 l2 = z2)) :
    Calls Tryz.prog 135 #[.agg #[.bool b, .slice a n c], .agg #[.bool b2, .slice a2 n2 c2]] w (RInt w (Int.gcd z z2)) := by
  have := zgcd_any b b2 B w a a2 n c n2 c2 l l2 h h2 hn hn2
  rwa [hz.out, hz2.out] at this

theorem nl_of {B : Nat} {w : World} {a : Option Addr} {n c : Nat} {l : Nt} {b : Bool} {z : Int} (h : NatS B w a n c l) (hz : Hid (ival b l = z)) : nl z.natAbs ≤ n := by
  rw [← hz.out, ival_neg rfl, ← h.len]
  exact nl_val h.small

theorem len_norm {B : Nat} {w : World} {a : Option Addr} {n c m : Nat} (h : NatS B w a n c (limbs m)) : n = nl m := by rw [← h.len, length_limbs]

theorem nl_gcd {z z2 : Int} {K : Nat} (h : nl z.natAbs ≤ K) (h2 : nl z2.natAbs ≤ K) : nl (Int.gcd z z2) ≤ K := by
  by_cases h0 : z = 0
  · subst h0; rw [Int.gcd_zero_left]; exact h2
  · exact Nat.le_trans (nl_mono (Nat.le_of_dvd (by omega) (Int.gcd_dvd_natAbs_left z z2))) h

end Go.Proofs.YtbhenelehhiakaaGreat
namespace Go.Proofs.YtbhenelehhiakaaGreat
open Go.RowKit

def gcdI (x y : Int) : Int := (Int.gcd x y : Nat)
theorem op_gcd : OpOf Tryz.prog 135 gcdI := fun b b2 B w a a2 n c n2 c2 l l2 h h2 hn hn2 => zgcd_z b b2 B w a a2 n c n2 c2 l l2 _ _ h h2 hn hn2 (Lib.hid rfl) (Lib.hid rfl)
theorem foldZ_two (g : Int → Int → Int) (z : Int) (x y : It) : foldZ g z [x, y] = g (g z (iv x)) (iv y) := rfl

set_option maxHeartbeats 1000000 in
theorem zintGcd_any (B : Nat) (w : World) (a2 : Option Addr) (n2 c2 : Nat) (x y : It) (h2 : Sl rInt B w a2 n2 c2 [x, y]) (hx : x.2.length ≤ 8796093022208) (hy : y.2.length ≤ 8796093022208) (z1 z2 : Int) (hz1 : Hid (iv x = z1)) (hz2 : Hid (iv y = z2)) :
    Calls Tryz.prog 110 #[.slice a2 n2 c2] w (RInt w (Int.gcd z1 z2)) := by
  obtain rfl : 2 = n2 := h2.len
  have hen : Enters Tryz.prog 135 := enters_mk Tryz.func135 (by kernel_rfl) rfl
  have hf : foldZ gcdI 0 [x, y] = (Int.gcd z1 z2 : Nat) := by
    rw [foldZ_two, hz1.out, hz2.out]; unfold gcdI; rw [Int.gcd_zero_left]; simp [Int.gcd]
  have hxn : nl (iv x).natAbs ≤ 8796093022208 := by
    have : nl (val x.2) ≤ x.2.length := nl_val (by
      obtain ⟨b, o, cs, ha, hr, hc⟩ := h2.at_ 0 (by simp)
      obtain ⟨a1, n1, c1, _, h⟩ := rInt_ok hr
      exact h.small)
    unfold iv; rw [ival_neg rfl]; omega
  go_enter Tryz.func110, Tryz.ntmps110
  go_wp2_with fail
  have r := Blk.new w 25 #[.bool false, .slice none 0 0]
  have hEW : Ext w (w.alloc (Obj.cells #[.bool false, .slice none 0 0] 25)) := ((Below.refl _ w).alloc (by simp) _)
  generalize hgW : w.alloc (Obj.cells #[.bool false, .slice none 0 0] 25) = W at *
  clear hgW
  replace r_0 := r.cell (i := 0) rfl
  replace r_1 := r.cell (i := 1) rfl
  replace r_f0 := r.free 0
  replace r_f1 := r.free 1
  replace r_lt := r.lt
  have hrB := r_lt
  have hm : ∀ u ∈ [x, y], u.2.length ≤ 8796093022208 := by intro u hu; simp only [List.mem_cons, List.not_mem_nil, or_false] at hu; obtain rfl | rfl := hu <;> assumption
  refine (folded_any 135 gcdI hen (Lib.hid op_gcd) B W false none a2 0 0 2 c2 [] [x, y] (natS_nil _ _) (h2.ext (Nat.le_refl _) hEW) (by omega) (by omega) (by intro u hu; simp at hu; obtain rfl | rfl := hu <;> assumption) (by omega) ?_).mono ?_
  · intro j hj
    obtain rfl | rfl : j = 0 ∨ j = 1 := by omega
    · show nl (ival false []).natAbs ≤ _
      rw [show (ival false []).natAbs = 0 from rfl, nl_zero]; omega
    · show nl (gcdI (ival false []) (iv x)).natAbs ≤ _
      unfold gcdI
      rw [show ival false [] = 0 from rfl, Int.gcd_zero_left, Int.natAbs_natCast]; exact hxn
  rw [show ival false [] = 0 from rfl, hf]
  rintro e w1 ⟨a3, n3, c3, rfl, h3, hE1⟩
  replace r := r.ext hE1; replace r_0 := r.cell (i := 0) rfl; replace r_1 := r.cell (i := 1) rfl; replace r_f0 := r.free 0; replace r_f1 := r.free 1; replace r_lt := r.lt
  have HF := Lib.hid (RInt.boxN (w := w) (w2 := w1) (r := w.heap.size) (u1 := .bool (decide (((Int.gcd z1 z2 : Nat) : Int) < 0))) (u2 := .slice a3 n3 c3) (by omega) hrB (Ext.trans hEW hE1) ⟨a3, n3, c3, rfl, h3⟩)
  generalize ((Int.gcd z1 z2 : Nat) : Int) = z at *
  clear hEW hE1 h3 h2 hf
  have r2 : Blk (((w1).setCell ⟨w.heap.size, 0, none⟩ (.bool (decide (z < 0)))).setCell ⟨w.heap.size, 1, none⟩ (.slice a3 n3 c3)) _ _ #[.bool (decide (z < 0)), .slice a3 n3 c3] := ((r).set 0 (.bool (decide (z < 0)))).set 1 (.slice a3 n3 c3)
  have hr0 := r2.cell (i := 0) rfl
  have hr1 := r2.cell (i := 1) rfl
  go_wp2_with fail
  exact bodyPost_ret (v := .agg #[.bool (decide (z < 0)), .slice a3 n3 c3]) (by simp [results, Tryz.results110, go_sem, hr0, hr1]) rfl HF.out

end Go.Proofs.YtbhenelehhiakaaGreat
