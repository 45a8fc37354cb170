/-
  A part of the proof.
-/
import Derived.Test.YtmhclkagdpbadaaGreatEtr43
set_option linter.unusedVariables false
set_option linter.unusedSimpArgs false
set_option linter.unusedSimpArgs false
set_option linter.unusedVariables false
namespace Go.Mt
open Go Go.Pm Go.Proofs
theorem scaleQ_gm2 {m : MR} {K L : Nat} (hm : Gm K m) {q : Rat} (hq : ql q ≤ L) (hK : K + L < 1099511627776) : Gm (max (K + L) 1) (nm (scaleQ (valM m) q m.2.length (colsOf m.2))) := by
  have hcl := colsOf_lt hm.g
  have := ql_num q
  have := ql_den q
  have hent : ∀ i k, i < m.2.length → k < colsOf m.2 → zl (entry (zz m.2) i k * q.num) ≤ K + L := fun i k hi hk => by
    obtain ⟨_, _, e1, h1⟩ := hm.ent hi hk
    rw [e1]
    have := zl_mul (ofR m.2[i][k]) q.num
    omega
  obtain ⟨g1, g2, g3⟩ := grw_tab hK hm.g.nr hcl hent
  have h := nm_bound (D := ofR m.1 * (q.den : Int)) (Int.mul_ne_zero hm.ne (den_ne q)) g2 g1 hK (by have := zl_mul (ofR m.1) (q.den : Int); have := hm.kd; omega) g3
  rw [zz_tab, scaleZ_eq, ratv_self] at h
  exact h
theorem addQ_gm2 {a b : MR} {K L : Nat} (ha : Gm K a) (hb : Gm L b) (hK : K + L + 1 < 1099511627776) (hn : b.2.length = a.2.length) (hc : colsOf b.2 = colsOf a.2) : Gm (max (K + L + 1) 1) (nm (joinQ (· + ·) (valM a) (valM b) a.2.length (colsOf a.2))) := by
  have hcl := colsOf_lt ha.g
  have hent : ∀ i k, i < a.2.length → k < colsOf a.2 → zl (entry (zz a.2) i k * ofR b.1 + entry (zz b.2) i k * ofR a.1) ≤ K + L + 1 := fun i k hi hk => by
    obtain ⟨_, _, e1, h1⟩ := ha.ent hi hk
    obtain ⟨_, _, e2, h2⟩ := hb.ent (i := i) (k := k) (by omega) (by omega)
    rw [e1, e2]
    have := zl_mul (ofR a.2[i][k]) (ofR b.1)
    have := zl_mul (ofR b.2[i][k]) (ofR a.1)
    have := zl_add (ofR a.2[i][k] * ofR b.1) (ofR b.2[i][k] * ofR a.1)
    have := ha.kd
    have := hb.kd
    omega
  obtain ⟨g1, g2, g3⟩ := grw_tab hK ha.g.nr hcl hent
  have h := nm_bound (D := ofR a.1 * ofR b.1) (Int.mul_ne_zero ha.ne hb.ne) g2 g1 hK (by have := zl_mul (ofR a.1) (ofR b.1); have := ha.kd; have := hb.kd; omega) g3
  rw [zz_tab, addZ_eq _ _ _ _ ha.ne hb.ne] at h
  exact h
theorem Gm.mono {m : MR} {K L : Nat} (h : Gm K m) (hl : K ≤ L) : Gm L m := ⟨h.d, h.ne, h.g, h.ev, fun r hr z hz => Nat.le_trans (h.k r hr z hz) hl, Nat.le_trans h.kd hl⟩
def gq (x : QR) : Nat := max x.1.2.length x.2.2.length
theorem Lq.gq {x : QR} (h : Lq x) : Go.Mt.ql (ofQ x) ≤ Go.Mt.gq x := by
  have := ql_ratv (ofR x.1) (ofR x.2) h.ne
  have := zl_ofR h.rq.1
  have := zl_ofR h.rq.2
  unfold ofQ Go.Mt.gq
  omega
end Go.Mt
/-
  A part of the proof.
-/
set_option linter.unusedSimpArgs false
set_option linter.unusedVariables false
namespace Go.Mt
open Go Go.Pm Go.Proofs
theorem scale_g (m : MR) (x : QR) {K L : Nat} (hm : Gm K m) (hx : Lq x) (hq : ql (ofQ x) ≤ L) (hK : 2 * K + 2 * L < 1099511627776) : PCall Tryz.prog 163 [.d (md m), .d (qd x)] (.tup [.d (md (nm (scaleQ (valM m) (ofQ x) m.2.length (colsOf m.2)))), .d (.v (.int .i64 0))]) :=
  scale_p m x (K := K + L) (hm.mono (by omega)) ⟨hx.rq, hx.ne⟩ (by omega) (by omega)
theorem qadd_g (a b : MR) {K L : Nat} (ha : Gm K a) (hb : Gm L b) (hK : 2 * K + 2 * L + 2 < 1099511627776) (hn : b.2.length = a.2.length) (hc : colsOf b.2 = colsOf a.2) :
    PCall Tryz.prog 164 [.d (md a), .d (md b)] (.tup [.d (md (nm (joinQ (· + ·) (valM a) (valM b) a.2.length (colsOf a.2)))), .d (.v (.int .i64 0))]) :=
  qadd_m a b (K := K + L) (ha.mono (by omega)) (hb.mono (by omega)) (by omega) hn hc
end Go.Mt
