/-
  A part of the proof.
-/
import Derived.Test.YtpoocfmphcgmkaaQri35
import Derived.Test.YtpoocfmphcgmkaaQri32
import Derived.Test.YtpoocfmphcgmkaaQri38
import Derived.Test.YtpoocfmphcgmkaaQri31
import Derived.Test.YtpoocfmphcgmkaaRows
import Derived.WalkKit
import Derived.ProofKit
import Derived.OpenShut
import Derived.JoinedCond
set_option linter.unusedVariables false
set_option linter.unusedSimpArgs false
set_option linter.unusedSimpArgs false
set_option linter.unusedVariables false
namespace Go.Mt
open Go Go.Pm Go.Proofs
/-- what row 10 asks of a matrix -/
def okR (x : MR) (N : Nat) : Prop := checkE x = 0 ∧ x.2.length = colsOf x.2 ∧ x.2.length ≠ 0 ∧ x.2.length ≤ 8 ∧ x.2.length = N
theorem okR.bm {x : MR} {N : Nat} (h : okR x N) (hx : Im x) : Bm N 1048577 x := ⟨by have := h.2.2.1; have := h.2.2.2.2; omega, by have := h.2.2.2.1; have := h.2.2.2.2; omega, hx.gm h.1, h.2.2.2.2, by rw [← h.2.1]; exact h.2.2.2.2⟩
theorem tr_len {m : MR} {n K : Nat} (h : Bm n K m) (hK : K + 3 < 1099511627776) : (nq (trQ (valM m) n)).1.2.length < 1099511627776 ∧ (nq (trQ (valM m) n)).2.2.length < 1099511627776 := by
  have hb : zl (trZ m n) ≤ K + 2 := zl_sumZ (fun i hi => by
    obtain ⟨_, _, e1, h1⟩ := h.g.ent (i := i) (k := i) (by rw [h.l]; exact hi) (by rw [h.c]; exact hi)
    rw [e1]; exact h1) (by have := h.n1; omega)
  have hq := ql_ratv (trZ m n) (ofR m.1) h.g.ne
  rw [tr_val m n h.g.ne] at hq
  have := h.g.kd
  have h1 := ql_num (trQ (valM m) n)
  have h2 := ql_den (trQ (valM m) n)
  unfold nq
  rw [rz_len, rz_len]
  omega
theorem Bm.tr {m : MR} {n K : Nat} (h : Bm n K m) (hK : K + 3 < 1099511627776) : PCall Try.prog 10 [.d (md m)] (.tup [.d (qd (nq (trQ (valM m) n))), .d (.v (.int .i64 0))]) := by
  have := trace_p m h.g (by rw [h.l]; exact h.n0) (by rw [h.l, h.c]) hK
  rw [h.l] at this
  exact this
set_option maxRecDepth 100000 in
set_option maxHeartbeats 16000000 in
theorem qring_p (a b c : MR) (ha : Im a) (hb : Im b) (hc : Im c) : PCall Try.prog 3 [.d (md a), .d (md b), .d (md c)] (.one (.d (.v (.bool true)))) := by
  have hlv := lives_p
  have sa := size11_p a ha.g
  have sb := size11_p b hb.g
  have sc := size11_p c hc.g
  have ca := check11_p a ha.d ha.g
  have cb := check11_p b hb.d hb.g
  have cc := check11_p c hc.d hc.g
  obtain ⟨n, hLa⟩ : ∃ n, a.2.length = n := ⟨_, rfl⟩
  obtain ⟨Ca, hCa⟩ : ∃ n, colsOf a.2 = n := ⟨_, rfl⟩
  obtain ⟨Lb, hLb⟩ : ∃ n, b.2.length = n := ⟨_, rfl⟩
  obtain ⟨Cb, hCb⟩ : ∃ n, colsOf b.2 = n := ⟨_, rfl⟩
  obtain ⟨Lc, hLc⟩ : ∃ n, c.2.length = n := ⟨_, rfl⟩
  obtain ⟨Cc, hCc⟩ : ∃ n, colsOf c.2 = n := ⟨_, rfl⟩
  rw [hLa, hCa] at sa
  rw [hLb, hCb] at sb
  rw [hLc, hCc] at sc
  refine pcall_of hmo Try.func3 rfl (by kernel_rfl) (by simp [Try.ntmps3]) ?_; simp -implicitDefEqProofs [go_sem, Try.ntmps3]; (repeat refine And.intro (by first | decide +kernel | omega | kernel_rfl) ?_); (try decide +kernel)
  refine loop_rule [] (fun (i : Nat) => ⟨248, [(3, .pr 0 0 0 0), (4, .pr 4 0 0 0), (5, .pr 8 0 0 0), (58, .agg (mbx a ++ mbx b ++ mbx c)), (59, intP .i64 (i : Int))], [(8, .box (mbx c)), (4, .box (mbx b)), (0, .box (mbx a))], 1000⟩)
    (fun i => i ≤ 3 ∧ (0 < i → okR a n) ∧ (1 < i → okR b n) ∧ (2 < i → okR c n)) (fun i => 3 - i) 0 ⟨by omega, by omega, by omega, by omega⟩ (by simp) (by simp -implicitDefEqProofs [go_sem, mbx]) (fun i ⟨hi, oa, ob, oc⟩ => ?_)
  by_cases hi0 : i = 0
  · subst hi0
    by_cases h1 : checkE a = 0
    · rw [h1] at ca
      by_cases h2 : n = Ca
      · subst h2
        by_cases h3 : n = 0
        · simp -implicitDefEqProofs [go_sem, mbx]; (repeat refine And.intro (by first | decide +kernel | omega | kernel_rfl) ?_); (try decide +kernel)
          refine .inl ⟨_, sa, ?_⟩; simp -implicitDefEqProofs [go_sem, mbx]; (repeat refine And.intro (by first | decide +kernel | omega | kernel_rfl) ?_); (try decide +kernel)
          refine .inl ⟨_, ca, ?_⟩; simp -implicitDefEqProofs [go_sem, mbx, h3, undef]; (repeat refine And.intro (by first | decide +kernel | omega | kernel_rfl) ?_); (try decide +kernel)
          refine .inl ⟨_, hlv, ?_⟩; simp -implicitDefEqProofs [go_sem]; (repeat refine And.intro (by first | decide +kernel | omega | kernel_rfl) ?_); (try decide +kernel)
        · by_cases h4 : 8 < n
          · have h4z : (8 : Int) < (n : Int) := by omega
            simp -implicitDefEqProofs [go_sem, mbx]; (repeat refine And.intro (by first | decide +kernel | omega | kernel_rfl) ?_); (try decide +kernel)
            refine .inl ⟨_, sa, ?_⟩; simp -implicitDefEqProofs [go_sem, mbx]; (repeat refine And.intro (by first | decide +kernel | omega | kernel_rfl) ?_); (try decide +kernel)
            refine .inl ⟨_, ca, ?_⟩; simp -implicitDefEqProofs [go_sem, mbx, h3, h4, h4z, undef]; (repeat refine And.intro (by first | decide +kernel | omega | kernel_rfl) ?_); (try decide +kernel)
            refine .inl ⟨_, hlv, ?_⟩; simp -implicitDefEqProofs [go_sem]; (repeat refine And.intro (by first | decide +kernel | omega | kernel_rfl) ?_); (try decide +kernel)
          · have h4z : ¬ (8 : Int) < (n : Int) := by omega
            have hok : okR a n := ⟨h1, by omega, by omega, by omega, by omega⟩
            simp -implicitDefEqProofs [go_sem, mbx]; (repeat refine And.intro (by first | decide +kernel | omega | kernel_rfl) ?_); (try decide +kernel)
            refine .inl ⟨_, sa, ?_⟩; simp -implicitDefEqProofs [go_sem, mbx]; (repeat refine And.intro (by first | decide +kernel | omega | kernel_rfl) ?_); (try decide +kernel)
            refine .inl ⟨_, ca, ?_⟩; simp -implicitDefEqProofs [go_sem, mbx, h3, h4, h4z, hLa, undef]; (repeat refine And.intro (by first | decide +kernel | omega | kernel_rfl) ?_); (try decide +kernel)
            exact ⟨1, ⟨by decide, fun _ => hok, fun h => absurd h (by decide), fun h => absurd h (by decide)⟩, by decide, by decide⟩
      · have h2z : ¬ (n : Int) = (Ca : Int) := by omega
        simp -implicitDefEqProofs [go_sem, mbx]; (repeat refine And.intro (by first | decide +kernel | omega | kernel_rfl) ?_); (try decide +kernel)
        refine .inl ⟨_, sa, ?_⟩; simp -implicitDefEqProofs [go_sem, mbx]; (repeat refine And.intro (by first | decide +kernel | omega | kernel_rfl) ?_); (try decide +kernel)
        refine .inl ⟨_, ca, ?_⟩; simp -implicitDefEqProofs [go_sem, mbx, h2, h2z, undef]; (repeat refine And.intro (by first | decide +kernel | omega | kernel_rfl) ?_); (try decide +kernel)
        refine .inl ⟨_, hlv, ?_⟩; simp -implicitDefEqProofs [go_sem]; (repeat refine And.intro (by first | decide +kernel | omega | kernel_rfl) ?_); (try decide +kernel)
    · simp -implicitDefEqProofs [go_sem, mbx]; (repeat refine And.intro (by first | decide +kernel | omega | kernel_rfl) ?_); (try decide +kernel)
      refine .inl ⟨_, sa, ?_⟩; simp -implicitDefEqProofs [go_sem, mbx]; (repeat refine And.intro (by first | decide +kernel | omega | kernel_rfl) ?_); (try decide +kernel)
      refine .inl ⟨_, ca, ?_⟩; simp -implicitDefEqProofs [go_sem, mbx, h1, undef]; (repeat refine And.intro (by first | decide +kernel | omega | kernel_rfl) ?_); (try decide +kernel)
      refine .inl ⟨_, hlv, ?_⟩; simp -implicitDefEqProofs [go_sem]; (repeat refine And.intro (by first | decide +kernel | omega | kernel_rfl) ?_); (try decide +kernel)
  by_cases hi1 : i = 1
  · subst hi1
    by_cases h1 : checkE b = 0
    · rw [h1] at cb
      by_cases h2 : Lb = Cb
      · subst h2
        by_cases h3 : Lb = 0
        · simp -implicitDefEqProofs [go_sem, mbx]; (repeat refine And.intro (by first | decide +kernel | omega | kernel_rfl) ?_); (try decide +kernel)
          refine .inl ⟨_, sb, ?_⟩; simp -implicitDefEqProofs [go_sem, mbx]; (repeat refine And.intro (by first | decide +kernel | omega | kernel_rfl) ?_); (try decide +kernel)
          refine .inl ⟨_, cb, ?_⟩; simp -implicitDefEqProofs [go_sem, mbx, h3, undef]; (repeat refine And.intro (by first | decide +kernel | omega | kernel_rfl) ?_); (try decide +kernel)
          refine .inl ⟨_, hlv, ?_⟩; simp -implicitDefEqProofs [go_sem]; (repeat refine And.intro (by first | decide +kernel | omega | kernel_rfl) ?_); (try decide +kernel)
        · by_cases h4 : 8 < Lb
          · have h4z : (8 : Int) < (Lb : Int) := by omega
            simp -implicitDefEqProofs [go_sem, mbx]; (repeat refine And.intro (by first | decide +kernel | omega | kernel_rfl) ?_); (try decide +kernel)
            refine .inl ⟨_, sb, ?_⟩; simp -implicitDefEqProofs [go_sem, mbx]; (repeat refine And.intro (by first | decide +kernel | omega | kernel_rfl) ?_); (try decide +kernel)
            refine .inl ⟨_, cb, ?_⟩; simp -implicitDefEqProofs [go_sem, mbx, h3, h4, h4z, undef]; (repeat refine And.intro (by first | decide +kernel | omega | kernel_rfl) ?_); (try decide +kernel)
            refine .inl ⟨_, hlv, ?_⟩; simp -implicitDefEqProofs [go_sem]; (repeat refine And.intro (by first | decide +kernel | omega | kernel_rfl) ?_); (try decide +kernel)
          · have h4z : ¬ (8 : Int) < (Lb : Int) := by omega
            by_cases h5 : Lb = n
            · subst h5
              have hok : okR b Lb := ⟨h1, by omega, by omega, by omega, by omega⟩
              simp -implicitDefEqProofs [go_sem, mbx]; (repeat refine And.intro (by first | decide +kernel | omega | kernel_rfl) ?_); (try decide +kernel)
              refine .inl ⟨_, sb, ?_⟩; simp -implicitDefEqProofs [go_sem, mbx]; (repeat refine And.intro (by first | decide +kernel | omega | kernel_rfl) ?_); (try decide +kernel)
              refine .inl ⟨_, cb, ?_⟩; simp -implicitDefEqProofs [go_sem, mbx, h3, h4, h4z, hLa, undef]; (repeat refine And.intro (by first | decide +kernel | omega | kernel_rfl) ?_); (try decide +kernel)
              exact ⟨2, ⟨by decide, fun _ => oa (by decide), fun _ => hok, fun h => absurd h (by decide)⟩, by decide, by decide⟩
            · have h5z : ¬ (Lb : Int) = (n : Int) := by omega
              simp -implicitDefEqProofs [go_sem, mbx]; (repeat refine And.intro (by first | decide +kernel | omega | kernel_rfl) ?_); (try decide +kernel)
              refine .inl ⟨_, sb, ?_⟩; simp -implicitDefEqProofs [go_sem, mbx]; (repeat refine And.intro (by first | decide +kernel | omega | kernel_rfl) ?_); (try decide +kernel)
              refine .inl ⟨_, cb, ?_⟩; simp -implicitDefEqProofs [go_sem, mbx, h3, h4, h4z, h5, h5z, hLa, undef]; (repeat refine And.intro (by first | decide +kernel | omega | kernel_rfl) ?_); (try decide +kernel)
              refine .inl ⟨_, hlv, ?_⟩; simp -implicitDefEqProofs [go_sem]; (repeat refine And.intro (by first | decide +kernel | omega | kernel_rfl) ?_); (try decide +kernel)
      · have h2z : ¬ (Lb : Int) = (Cb : Int) := by omega
        simp -implicitDefEqProofs [go_sem, mbx]; (repeat refine And.intro (by first | decide +kernel | omega | kernel_rfl) ?_); (try decide +kernel)
        refine .inl ⟨_, sb, ?_⟩; simp -implicitDefEqProofs [go_sem, mbx]; (repeat refine And.intro (by first | decide +kernel | omega | kernel_rfl) ?_); (try decide +kernel)
        refine .inl ⟨_, cb, ?_⟩; simp -implicitDefEqProofs [go_sem, mbx, h2, h2z, undef]; (repeat refine And.intro (by first | decide +kernel | omega | kernel_rfl) ?_); (try decide +kernel)
        refine .inl ⟨_, hlv, ?_⟩; simp -implicitDefEqProofs [go_sem]; (repeat refine And.intro (by first | decide +kernel | omega | kernel_rfl) ?_); (try decide +kernel)
    · simp -implicitDefEqProofs [go_sem, mbx]; (repeat refine And.intro (by first | decide +kernel | omega | kernel_rfl) ?_); (try decide +kernel)
      refine .inl ⟨_, sb, ?_⟩; simp -implicitDefEqProofs [go_sem, mbx]; (repeat refine And.intro (by first | decide +kernel | omega | kernel_rfl) ?_); (try decide +kernel)
      refine .inl ⟨_, cb, ?_⟩; simp -implicitDefEqProofs [go_sem, mbx, h1, undef]; (repeat refine And.intro (by first | decide +kernel | omega | kernel_rfl) ?_); (try decide +kernel)
      refine .inl ⟨_, hlv, ?_⟩; simp -implicitDefEqProofs [go_sem]; (repeat refine And.intro (by first | decide +kernel | omega | kernel_rfl) ?_); (try decide +kernel)
  by_cases hi2 : i = 2
  · subst hi2
    by_cases h1 : checkE c = 0
    · rw [h1] at cc
      by_cases h2 : Lc = Cc
      · subst h2
        by_cases h3 : Lc = 0
        · simp -implicitDefEqProofs [go_sem, mbx]; (repeat refine And.intro (by first | decide +kernel | omega | kernel_rfl) ?_); (try decide +kernel)
          refine .inl ⟨_, sc, ?_⟩; simp -implicitDefEqProofs [go_sem, mbx]; (repeat refine And.intro (by first | decide +kernel | omega | kernel_rfl) ?_); (try decide +kernel)
          refine .inl ⟨_, cc, ?_⟩; simp -implicitDefEqProofs [go_sem, mbx, h3, undef]; (repeat refine And.intro (by first | decide +kernel | omega | kernel_rfl) ?_); (try decide +kernel)
          refine .inl ⟨_, hlv, ?_⟩; simp -implicitDefEqProofs [go_sem]; (repeat refine And.intro (by first | decide +kernel | omega | kernel_rfl) ?_); (try decide +kernel)
        · by_cases h4 : 8 < Lc
          · have h4z : (8 : Int) < (Lc : Int) := by omega
            simp -implicitDefEqProofs [go_sem, mbx]; (repeat refine And.intro (by first | decide +kernel | omega | kernel_rfl) ?_); (try decide +kernel)
            refine .inl ⟨_, sc, ?_⟩; simp -implicitDefEqProofs [go_sem, mbx]; (repeat refine And.intro (by first | decide +kernel | omega | kernel_rfl) ?_); (try decide +kernel)
            refine .inl ⟨_, cc, ?_⟩; simp -implicitDefEqProofs [go_sem, mbx, h3, h4, h4z, undef]; (repeat refine And.intro (by first | decide +kernel | omega | kernel_rfl) ?_); (try decide +kernel)
            refine .inl ⟨_, hlv, ?_⟩; simp -implicitDefEqProofs [go_sem]; (repeat refine And.intro (by first | decide +kernel | omega | kernel_rfl) ?_); (try decide +kernel)
          · have h4z : ¬ (8 : Int) < (Lc : Int) := by omega
            by_cases h5 : Lc = n
            · subst h5
              have hok : okR c Lc := ⟨h1, by omega, by omega, by omega, by omega⟩
              simp -implicitDefEqProofs [go_sem, mbx]; (repeat refine And.intro (by first | decide +kernel | omega | kernel_rfl) ?_); (try decide +kernel)
              refine .inl ⟨_, sc, ?_⟩; simp -implicitDefEqProofs [go_sem, mbx]; (repeat refine And.intro (by first | decide +kernel | omega | kernel_rfl) ?_); (try decide +kernel)
              refine .inl ⟨_, cc, ?_⟩; simp -implicitDefEqProofs [go_sem, mbx, h3, h4, h4z, hLa, undef]; (repeat refine And.intro (by first | decide +kernel | omega | kernel_rfl) ?_); (try decide +kernel)
              exact ⟨3, ⟨by decide, fun _ => oa (by decide), fun _ => ob (by decide), fun _ => hok⟩, by decide, by decide⟩
            · have h5z : ¬ (Lc : Int) = (n : Int) := by omega
              simp -implicitDefEqProofs [go_sem, mbx]; (repeat refine And.intro (by first | decide +kernel | omega | kernel_rfl) ?_); (try decide +kernel)
              refine .inl ⟨_, sc, ?_⟩; simp -implicitDefEqProofs [go_sem, mbx]; (repeat refine And.intro (by first | decide +kernel | omega | kernel_rfl) ?_); (try decide +kernel)
              refine .inl ⟨_, cc, ?_⟩; simp -implicitDefEqProofs [go_sem, mbx, h3, h4, h4z, h5, h5z, hLa, undef]; (repeat refine And.intro (by first | decide +kernel | omega | kernel_rfl) ?_); (try decide +kernel)
              refine .inl ⟨_, hlv, ?_⟩; simp -implicitDefEqProofs [go_sem]; (repeat refine And.intro (by first | decide +kernel | omega | kernel_rfl) ?_); (try decide +kernel)
      · have h2z : ¬ (Lc : Int) = (Cc : Int) := by omega
        simp -implicitDefEqProofs [go_sem, mbx]; (repeat refine And.intro (by first | decide +kernel | omega | kernel_rfl) ?_); (try decide +kernel)
        refine .inl ⟨_, sc, ?_⟩; simp -implicitDefEqProofs [go_sem, mbx]; (repeat refine And.intro (by first | decide +kernel | omega | kernel_rfl) ?_); (try decide +kernel)
        refine .inl ⟨_, cc, ?_⟩; simp -implicitDefEqProofs [go_sem, mbx, h2, h2z, undef]; (repeat refine And.intro (by first | decide +kernel | omega | kernel_rfl) ?_); (try decide +kernel)
        refine .inl ⟨_, hlv, ?_⟩; simp -implicitDefEqProofs [go_sem]; (repeat refine And.intro (by first | decide +kernel | omega | kernel_rfl) ?_); (try decide +kernel)
    · simp -implicitDefEqProofs [go_sem, mbx]; (repeat refine And.intro (by first | decide +kernel | omega | kernel_rfl) ?_); (try decide +kernel)
      refine .inl ⟨_, sc, ?_⟩; simp -implicitDefEqProofs [go_sem, mbx]; (repeat refine And.intro (by first | decide +kernel | omega | kernel_rfl) ?_); (try decide +kernel)
      refine .inl ⟨_, cc, ?_⟩; simp -implicitDefEqProofs [go_sem, mbx, h1, undef]; (repeat refine And.intro (by first | decide +kernel | omega | kernel_rfl) ?_); (try decide +kernel)
      refine .inl ⟨_, hlv, ?_⟩; simp -implicitDefEqProofs [go_sem]; (repeat refine And.intro (by first | decide +kernel | omega | kernel_rfl) ?_); (try decide +kernel)
  obtain rfl : i = 3 := by omega
  have oa := oa (by decide)
  have ob := ob (by decide)
  have oc := oc (by decide)
  have Ba := oa.bm ha
  have Bb := ob.bm hb
  have Bc := oc.bm hc
  have hn8 : n ≤ 31 := by have := oa.2.2.2.1; omega
  obtain ⟨c1, B1⟩ := Ba.mul Bb (by decide)
  obtain ⟨c2, B2⟩ := Bb.mul Bc (by decide)
  obtain ⟨c3, B3⟩ := B1.mul Bc (by decide)
  obtain ⟨c4, B4⟩ := Ba.mul B2 (by decide)
  obtain ⟨c5, B5⟩ := Bb.add Bc (by decide)
  obtain ⟨c6, B6⟩ := Ba.mul B5 (by decide)
  obtain ⟨c7, B7⟩ := Ba.mul Bc (by decide)
  obtain ⟨c8, B8⟩ := B1.add B7 (by decide)
  obtain ⟨c9, B9⟩ := B1.transp (by decide)
  obtain ⟨c10, B10⟩ := Ba.transp (by decide)
  obtain ⟨c11, B11⟩ := Bb.transp (by decide)
  obtain ⟨c12, B12⟩ := B11.mul B10 (by decide)
  obtain ⟨c13, B13⟩ := Bb.mul Ba (by decide)
  have c14 := B1.tr (by decide)
  have c15 := B13.tr (by decide)
  have hsl := tr_len B1 (by decide)
  obtain ⟨c16, B16⟩ := Ba.kron Bb (by decide) hn8
  obtain ⟨c17, B17⟩ := Bb.kron Bc (by decide) hn8
  obtain ⟨c18, B18⟩ := B16.mul B17 (by decide)
  obtain ⟨c19, B19⟩ := B1.kron B2 (by decide) hn8
  have c20 := Ba.pow 2 (by decide) (by decide)
  have c21 := Ba.pow 3 (by decide) (by decide)
  have P2 := pw_bm Ba 2 (by decide)
  have P3 := pw_bm Ba 3 (by decide)
  obtain ⟨c22, B22⟩ := P2.mul Ba (by decide)
  simp only [valM_nm] at c3 c4 c6 c8 c9 c12 c14 c15 c18 c19 c22 B3 B8 B9 B19 hsl
  rw [← mul_assocQ] at c4
  rw [mul_distQ] at c6
  rw [← trans_mulQ] at c12
  rw [tr_comm (valM b) (valM a)] at c15
  rw [kron_mulQ] at c18
  rw [pw_mul] at c22
  have e1 := lequal_p _ B3.g (by decide)
  have e2 := lequal_p _ B8.g (by decide)
  have e3 := lequal_p _ B9.g (by decide)
  have e4 := lequal_p _ B19.g (by decide)
  have e5 := lequal_p _ P3.g (by decide)
  have e6 := same5_p _ _ hsl hsl
  rw [decide_eq_true rfl] at e6
  clear B1 B2 B3 B4 B5 B6 B7 B8 B9 B10 B11 B12 B13 B16 B17 B18 B19 B22 P2 P3 hsl Ba Bb Bc
  generalize nm (mulQ (mulQ (valM a) (valM b) n n n) (valM c) n n n) = X1 at *
  generalize nm (joinQ (· + ·) (mulQ (valM a) (valM b) n n n) (mulQ (valM a) (valM c) n n n) n n) = X2 at *
  generalize nm (transQ (mulQ (valM a) (valM b) n n n) n n) = X3 at *
  generalize nm (kronQ (mulQ (valM a) (valM b) n n n) (mulQ (valM b) (valM c) n n n) n n n n) = X4 at *
  generalize nm (pwQ (valM a) n (2 + 1)) = X5 at *
  generalize nm (pwQ (valM a) n 3) = X5 at *
  generalize nm (pwQ (valM a) n 2) = X6 at *
  generalize nm (kronQ (valM a) (valM b) n n n n) = X7 at *
  generalize nm (kronQ (valM b) (valM c) n n n n) = X8 at *
  generalize trQ (mulQ (valM a) (valM b) n n n) n = X9 at *
  generalize nm (joinQ (· + ·) (valM b) (valM c) n n) = X10 at *
  generalize nm (transQ (valM a) n n) = X11 at *
  generalize nm (transQ (valM b) n n) = X12 at *
  generalize nm (mulQ (valM a) (valM b) n n n) = X13 at *
  generalize nm (mulQ (valM b) (valM c) n n n) = X14 at *
  generalize nm (mulQ (valM a) (valM c) n n n) = X15 at *
  generalize nm (mulQ (valM b) (valM a) n n n) = X16 at *
  simp -implicitDefEqProofs [go_sem, mbx]; (repeat refine And.intro (by first | decide +kernel | omega | kernel_rfl) ?_); (try decide +kernel)
  refine .inl ⟨_, c1, ?_⟩; simp -implicitDefEqProofs [go_sem]; (repeat refine And.intro (by first | decide +kernel | omega | kernel_rfl) ?_); (try decide +kernel)
  refine .inl ⟨_, c2, ?_⟩; simp -implicitDefEqProofs [go_sem]; (repeat refine And.intro (by first | decide +kernel | omega | kernel_rfl) ?_); (try decide +kernel)
  refine .inl ⟨_, c3, ?_⟩; simp -implicitDefEqProofs [go_sem]; (repeat refine And.intro (by first | decide +kernel | omega | kernel_rfl) ?_); (try decide +kernel)
  refine .inl ⟨_, c4, ?_⟩; simp -implicitDefEqProofs [go_sem]; (repeat refine And.intro (by first | decide +kernel | omega | kernel_rfl) ?_); (try decide +kernel)
  refine .inl ⟨_, c5, ?_⟩; simp -implicitDefEqProofs [go_sem]; (repeat refine And.intro (by first | decide +kernel | omega | kernel_rfl) ?_); (try decide +kernel)
  refine .inl ⟨_, c6, ?_⟩; simp -implicitDefEqProofs [go_sem]; (repeat refine And.intro (by first | decide +kernel | omega | kernel_rfl) ?_); (try decide +kernel)
  refine .inl ⟨_, c7, ?_⟩; simp -implicitDefEqProofs [go_sem]; (repeat refine And.intro (by first | decide +kernel | omega | kernel_rfl) ?_); (try decide +kernel)
  refine .inl ⟨_, c8, ?_⟩; simp -implicitDefEqProofs [go_sem]; (repeat refine And.intro (by first | decide +kernel | omega | kernel_rfl) ?_); (try decide +kernel)
  refine .inl ⟨_, c9, ?_⟩; simp -implicitDefEqProofs [go_sem]; (repeat refine And.intro (by first | decide +kernel | omega | kernel_rfl) ?_); (try decide +kernel)
  refine .inl ⟨_, c10, ?_⟩; simp -implicitDefEqProofs [go_sem]; (repeat refine And.intro (by first | decide +kernel | omega | kernel_rfl) ?_); (try decide +kernel)
  refine .inl ⟨_, c11, ?_⟩; simp -implicitDefEqProofs [go_sem]; (repeat refine And.intro (by first | decide +kernel | omega | kernel_rfl) ?_); (try decide +kernel)
  refine .inl ⟨_, c12, ?_⟩; simp -implicitDefEqProofs [go_sem]; (repeat refine And.intro (by first | decide +kernel | omega | kernel_rfl) ?_); (try decide +kernel)
  refine .inl ⟨_, c13, ?_⟩; simp -implicitDefEqProofs [go_sem]; (repeat refine And.intro (by first | decide +kernel | omega | kernel_rfl) ?_); (try decide +kernel)
  refine .inl ⟨_, c14, ?_⟩; simp -implicitDefEqProofs [go_sem]; (repeat refine And.intro (by first | decide +kernel | omega | kernel_rfl) ?_); (try decide +kernel)
  refine .inl ⟨_, c15, ?_⟩; simp -implicitDefEqProofs [go_sem]; (repeat refine And.intro (by first | decide +kernel | omega | kernel_rfl) ?_); (try decide +kernel)
  refine .inl ⟨_, c16, ?_⟩; simp -implicitDefEqProofs [go_sem]; (repeat refine And.intro (by first | decide +kernel | omega | kernel_rfl) ?_); (try decide +kernel)
  refine .inl ⟨_, c17, ?_⟩; simp -implicitDefEqProofs [go_sem]; (repeat refine And.intro (by first | decide +kernel | omega | kernel_rfl) ?_); (try decide +kernel)
  refine .inl ⟨_, c18, ?_⟩; simp -implicitDefEqProofs [go_sem]; (repeat refine And.intro (by first | decide +kernel | omega | kernel_rfl) ?_); (try decide +kernel)
  refine .inl ⟨_, c19, ?_⟩; simp -implicitDefEqProofs [go_sem]; (repeat refine And.intro (by first | decide +kernel | omega | kernel_rfl) ?_); (try decide +kernel)
  refine .inl ⟨_, c20, ?_⟩; simp -implicitDefEqProofs [go_sem]; (repeat refine And.intro (by first | decide +kernel | omega | kernel_rfl) ?_); (try decide +kernel)
  refine .inl ⟨_, c21, ?_⟩; simp -implicitDefEqProofs [go_sem]; (repeat refine And.intro (by first | decide +kernel | omega | kernel_rfl) ?_); (try decide +kernel)
  refine .inl ⟨_, c22, ?_⟩; simp -implicitDefEqProofs [go_sem]; (repeat refine And.intro (by first | decide +kernel | omega | kernel_rfl) ?_); (try decide +kernel)
  refine .inl ⟨_, e1, ?_⟩; simp -implicitDefEqProofs [go_sem, undef]; (repeat refine And.intro (by first | decide +kernel | omega | kernel_rfl) ?_); (try decide +kernel)
  refine .inl ⟨_, e2, ?_⟩; simp -implicitDefEqProofs [go_sem, undef]; (repeat refine And.intro (by first | decide +kernel | omega | kernel_rfl) ?_); (try decide +kernel)
  refine .inl ⟨_, e3, ?_⟩; simp -implicitDefEqProofs [go_sem, undef]; (repeat refine And.intro (by first | decide +kernel | omega | kernel_rfl) ?_); (try decide +kernel)
  refine .inl ⟨_, e6, ?_⟩; simp -implicitDefEqProofs [go_sem, undef]; (repeat refine And.intro (by first | decide +kernel | omega | kernel_rfl) ?_); (try decide +kernel)
  refine .inl ⟨_, e4, ?_⟩; simp -implicitDefEqProofs [go_sem, undef]; (repeat refine And.intro (by first | decide +kernel | omega | kernel_rfl) ?_); (try decide +kernel)
  refine .inl ⟨_, e5, ?_⟩; simp -implicitDefEqProofs [go_sem, undef]; (repeat refine And.intro (by first | decide +kernel | omega | kernel_rfl) ?_); (try decide +kernel)
  refine .inl ⟨_, hlv, ?_⟩; simp -implicitDefEqProofs [go_sem]; (repeat refine And.intro (by first | decide +kernel | omega | kernel_rfl) ?_); (try decide +kernel)
end Go.Mt
/-
  A part of the proof.
-/
set_option linter.unusedSimpArgs false
set_option linter.unusedVariables false
namespace Go.Mt
open Go Go.Pm Go.Proofs
theorem qring_a (a b c : MR) {b0 b1 b2 : Nat} (h0 : MatM a b0) (h1 : MatM b b1) (h2 : MatM c b2) (hb : b0 + b1 + b2 ≤ 1048576) : PCall Try.prog 3 [.d (md a), .d (md b), .d (md c)] (.one (.d (.v (.bool true)))) :=
  qring_p a b c (.of h0 (by omega)) (.of h1 (by omega)) (.of h2 (by omega))
end Go.Mt
/-
  A part of the proof.
-/
set_option linter.unusedSimpArgs false
set_option linter.unusedVariables false
namespace Go.Proofs.Ytpoocfmphcgmkaa.qmatRing
open Go.ChangeShapes Go.WideShapes Go.ChangeAt Go.RowKit Go.Pm Go.Mt
theorem own : ownKnob Try.prog.godebug = none := by kernel_rfl
set_option maxRecDepth 100000 in
theorem contract (H : Type) (enc : TypeId × Value → H) (W : World) (base : Nat) (args : Array Value) (ds gs : List (DataW H)) (before : List MemPlace)
    (hval : ∀ (j : Nat) t v, Try.f3.params[j]? = some t → args[j]? = some v → Value.okWide Try.prog W .any base t v)
    (hW : DataW.Whole enc Try.prog Try.f3.params.toList Rows.qmatRingSpec.vars false W args.toList ds gs before) (hk : Rows.uptoSmall H (ds ++ gs) = true) :
    Calls Try.prog 3 args W fun e W' => ∃ v, e = .returned v ∧ Rows.qmatRingSpec.post enc Try.prog Try.f3 false true false false W args v W' := by
  have hW' := hW
  obtain ⟨p, q, hA0, hV, rfl, hfz, hnd⟩ := hW
  have hA : DataW.TrodAll enc Try.prog W 0 (fun _ => true) true Try.f3.params.toList args.toList ds p := hA0
  rw [Try.params3] at hA hval
  obtain ⟨v0, vs0, d0, ds0, p0, q0, hargs, rfl, rfl, h0, r0⟩ := trodAll_cons hA
  obtain ⟨v1, vs1, d1, ds1, p1, q1, rfl, rfl, rfl, h1, r1⟩ := trodAll_cons r0
  obtain ⟨v2, vs2, d2, ds2, p2, q2, rfl, rfl, rfl, h2, r2⟩ := trodAll_cons r1
  obtain ⟨rfl, rfl, rfl⟩ := trodAll_nil r2
  obtain rfl : args = #[v0, v1, v2] := by cases args; simp_all
  obtain ⟨rfl, rfl⟩ := trodVars_none hV
  have hb : Rows.uptoBulk d0 + Rows.uptoBulk d1 + Rows.uptoBulk d2 ≤ 1048576 := by
    have h := of_decide_eq_true hk
    simp only [List.append_nil, Rows.uptoBulkAll] at h
    omega
  have hb0 : Rows.uptoBulk d0 ≤ 1048576 := by omega
  obtain ⟨cs0, rfl, _⟩ := okWide_struct Try.underlying28 (hval 0 28 v0 rfl rfl)
  obtain ⟨fuel0, hf0⟩ := h0
  obtain ⟨x0, hr0, hM0⟩ := giv_mat (K := 1048576) (by decide) fuel0 _ _ hf0 (fun b o hm => hfz b o (List.mem_append_left _ (List.mem_append_left _ hm))) hb0
  have hb1 : Rows.uptoBulk d1 ≤ 1048576 := by omega
  obtain ⟨cs1, rfl, _⟩ := okWide_struct Try.underlying28 (hval 1 28 v1 rfl rfl)
  obtain ⟨fuel1, hf1⟩ := h1
  obtain ⟨x1, hr1, hM1⟩ := giv_mat (K := 1048576) (by decide) fuel1 _ _ hf1 (fun b o hm => hfz b o (List.mem_append_left _ (List.mem_append_right _ (List.mem_append_left _ hm)))) hb1
  have hb2 : Rows.uptoBulk d2 ≤ 1048576 := by omega
  obtain ⟨cs2, rfl, _⟩ := okWide_struct Try.underlying28 (hval 2 28 v2 rfl rfl)
  obtain ⟨fuel2, hf2⟩ := h2
  obtain ⟨x2, hr2, hM2⟩ := giv_mat (K := 1048576) (by decide) fuel2 _ _ hf2 (fun b o hm => hfz b o (List.mem_append_left _ (List.mem_append_right _ (List.mem_append_right _ (List.mem_append_left _ hm))))) hb2
  have hlaw := qring_a x0 x1 x2 hM0 hM1 hM2 hb
  refine law_post (tb := 4) (xs := [.d (md x0), .d (md x1), .d (md x2)]) hW' rfl (by kernel_rfl) (by rw [Try.params3]; intro t ht; simp at ht; first | (subst ht; exact ⟨by kernel_rfl, of_decide_eq_true (by kernel_rfl)⟩) | (rcases ht with rfl | rfl <;> exact ⟨by kernel_rfl, of_decide_eq_true (by kernel_rfl)⟩)) Try.underlying4 (by kernel_rfl) (fun H ds hd => ?_) hlaw rfl (fun j p v h1 h2 => ?_)
  · match ds, hd with
    | [e0, e1, e2], _ => exact ⟨rfl, rfl, rfl⟩
  · cases j with
    | zero => cases h1; cases h2; exact .d (RdC.agg hr0)
    | succ j =>
      cases j with
      | zero => cases h1; cases h2; exact .d (RdC.agg hr1)
      | succ j =>
        cases j with
        | zero => cases h1; cases h2; exact .d (RdC.agg hr2)
        | succ j =>
          cases h1
end Go.Proofs.Ytpoocfmphcgmkaa.qmatRing
/-
  A part of the proof.
-/
set_option linter.unusedSimpArgs false
set_option linter.unusedVariables false
namespace Go.Proofs.Ytpoocfmphcgmkaa.qmatRing
open Go.ChangeShapes Go.WideShapes Go.ChangeAt Go.RowKit Go.Pm Go.Mt
set_option maxRecDepth 100000 in
theorem lifted (os : Os) (started : os.Started) (H : Type) (enc : TypeId × Value → H) (F : Stop.Interp) :
    ReturnsInHanded {} Try.checked os 3 .any ((Rows.OpenSpec.upto Rows.qmatRingSpec).pre6 enc Try.prog Try.f3 Rows.qmatRingUptoRow.domain false) (((Rows.OpenSpec.upto Rows.qmatRingSpec).at F).post enc Try.prog Try.f3 false true false false) := by
  refine returnsInHanded_of_cond (C := Try.checked) (s := (Rows.OpenSpec.upto Rows.qmatRingSpec)) (k := Rows.uptoSmall) rfl own started (by kernel_rfl) Try.func3
    (OpenSpec.witness (enc := enc) (C := Try.checked) (s := (Rows.OpenSpec.upto Rows.qmatRingSpec)) (k := Rows.uptoSmall) rfl false ⟨#[], #[.agg #[.bool false, .slice none 0 0, .slice none 0 0], .agg #[.bool false, .slice none 0 0, .slice none 0 0], .agg #[.bool false, .slice none 0 0, .slice none 0 0]], []⟩ 8 (by kernel_rfl) (by kernel_rfl) (by kernel_rfl)
      (x := ([.agg [.agg [.lit (.bool false), .nil], .nil], .agg [.agg [.lit (.bool false), .nil], .nil], .agg [.agg [.lit (.bool false), .nil], .nil]], [], [])) (by kernel_rfl) rfl (by kernel_rfl)) ?_
  intro W base args ds gs before hval hW _ hk _
  exact contract H enc W base args ds gs before hval hW hk
end Go.Proofs.Ytpoocfmphcgmkaa.qmatRing
