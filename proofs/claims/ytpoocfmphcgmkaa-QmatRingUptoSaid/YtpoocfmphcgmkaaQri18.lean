/-
  A part of the proof.
-/
import Derived.Test.YtpoocfmphcgmkaaQri14
import Derived.Test.YtpoocfmphcgmkaaQri17
import Derived.Test.YtpoocfmphcgmkaaQri2
set_option linter.unusedVariables false
set_option linter.unusedSimpArgs false
set_option linter.unusedSimpArgs false
set_option linter.unusedVariables false
namespace Go.Mt
open Go Go.Pm Go.Proofs
/-- an integer as it lies -/
def zd (p : ZR) : D := .agg [.v (.bool p.1), .sl (les p.2)]
attribute [go_sem] zd zel
abbrev Rz (p : ZR) : Prop := Raw p.2
abbrev zl (z : Int) : Nat := nl z.natAbs
theorem zl_ofR {p : ZR} (h : Rz p) : zl (ofR p) ≤ p.2.length := by
  unfold zl ofR; rw [mag]; exact nl_val h.1
theorem zl_lt {p : ZR} (h : Rz p) : zl (ofR p) < 1099511627776 := Nat.lt_of_le_of_lt (zl_ofR h) h.2
theorem rz {z : Int} (h : zl z < 1099511627776) : Rz (nrm z) := raw_limbs h
theorem sign_p (p : ZR) (hp : Rz p) : PCall Try.prog 45 [.d (zd p)] (.one (.d (.v (.int .i64 (ofR p).sign)))) := sign_ok p.1 p.2 hp.1 hp.2
theorem neg_p (p : ZR) (hp : Rz p) : PCall Try.prog 47 [.d (zd p)] (.one (.d (zd (nrm (-(ofR p)))))) := neg_ok p.1 p.2 hp
theorem abs_p (p : ZR) (hp : Rz p) : PCall Try.prog 46 [.d (zd p)] (.one (.d (zd (nrm ((ofR p).natAbs : Int))))) := by
  have := abs_ok p.1 p.2 hp
  unfold ofR
  rw [mag]
  exact this
theorem add_p (p q : ZR) (hp : Rz p) (hq : Rz q) : PCall Try.prog 27 [.d (zd p), .d (zd q)] (.one (.d (zd (nrm (ofR p + ofR q))))) := add_zok p.1 q.1 p.2 q.2 hp hq
theorem mul_p (p q : ZR) (hp : Rz p) (hq : Rz q) : PCall Try.prog 24 [.d (zd p), .d (zd q)] (.one (.d (zd (nrm (ofR p * ofR q))))) := mul_zok p.1 q.1 p.2 q.2 hp hq
theorem of_p (z : Int) (h1 : -9223372036854775808 ≤ z) (h2 : z ≤ 9223372036854775807) : PCall Try.prog 34 [.d (.v (.int .i64 z))] (.one (.d (zd (nrm z)))) := of_zok z h1 h2
theorem make1_p (b : Bool) (n : Nat) (z : Int) (h : (if b then -(n : Int) else n) = z) : PCall Try.prog 48 [.d (.v (.bool b)), .d (.sl (les (limbs n)))] (.one (.d (zd (nrm z)))) := make1_z b n h
theorem ival_zero {p : ZR} : ofR p ≠ 0 ↔ 0 < val p.2 := by
  unfold ofR ival; cases p.1 <;> simp <;> omega
theorem trunc_p (p q : ZR) (hp : Rz p) (hq : Rz q) (h0 : ofR q ≠ 0) : PCall Try.prog 58 [.d (zd p), .d (zd q)] (.tup [.d (zd (nrm ((ofR p).tdiv (ofR q)))), .d (zd (nrm ((ofR p).tmod (ofR q)))), .d (.v (.int .i64 0))]) := by
  obtain ⟨b, l⟩ := p
  obtain ⟨c, m⟩ := q
  have hv := ival_zero.1 h0
  refine pcall_of hmo Try.func58 rfl (by kernel_rfl) (by simp [Try.ntmps58]) ?_; simp -implicitDefEqProofs [go_sem, Try.ntmps58]; (repeat refine And.intro (by first | decide +kernel | omega | kernel_rfl) ?_); (try decide +kernel)
  refine .inl ⟨_, div_ok l m hp.1 hq.1 hp.2 hq.2 hv, ?_⟩; simp -implicitDefEqProofs [go_sem]; (repeat refine And.intro (by first | decide +kernel | omega | kernel_rfl) ?_); (try decide +kernel)
  refine .inl ⟨_, make1_p (b != c) (val l / val m) ((ofR (b, l)).tdiv (ofR (c, m))) (by unfold ofR ival; cases b <;> cases c <;> simp [Int.neg_tdiv, Int.tdiv_neg]), ?_⟩; simp -implicitDefEqProofs [go_sem]; (repeat refine And.intro (by first | decide +kernel | omega | kernel_rfl) ?_); (try decide +kernel)
  refine .inl ⟨_, make1_p b (val l % val m) ((ofR (b, l)).tmod (ofR (c, m))) (by unfold ofR ival; cases b <;> cases c <;> simp [Int.neg_tmod, Int.tmod_neg] <;> rfl), ?_⟩; simp -implicitDefEqProofs [go_sem]; (repeat refine And.intro (by first | decide +kernel | omega | kernel_rfl) ?_); (try decide +kernel)
theorem exact_p (p q : ZR) (hp : Rz p) (hq : Rz q) (h0 : ofR q ≠ 0) (hd : ofR q ∣ ofR p) : PCall Try.prog 40 [.d (zd p), .d (zd q)] (.tup [.d (zd (nrm (ofR p / ofR q))), .d (.v (.int .i64 0))]) := by
  have ht := trunc_p p q hp hq h0
  rw [Int.tdiv_eq_ediv_of_dvd hd, Int.tmod_eq_zero_of_dvd hd] at ht
  have hs := sign_p (nrm 0) (rz (by decide))
  rw [ofR_nrm] at hs
  refine pcall_of hmo Try.func40 rfl (by kernel_rfl) (by simp [Try.ntmps40]) ?_; simp -implicitDefEqProofs [go_sem, Try.ntmps40]; (repeat refine And.intro (by first | decide +kernel | omega | kernel_rfl) ?_); (try decide +kernel)
  refine .inl ⟨_, ht, ?_⟩; simp -implicitDefEqProofs [go_sem]; (repeat refine And.intro (by first | decide +kernel | omega | kernel_rfl) ?_); (try decide +kernel)
  refine .inl ⟨_, hs, ?_⟩; simp -implicitDefEqProofs [go_sem]; (repeat refine And.intro (by first | decide +kernel | omega | kernel_rfl) ?_); (try decide +kernel)
theorem gcd1_p (p q : ZR) (hp : Rz p) (hq : Rz q) : PCall Try.prog 62 [.d (zd p), .d (zd q)] (.one (.d (zd (nrm (gcdI (ofR p) (ofR q)))))) := by
  obtain ⟨b, l⟩ := p
  obtain ⟨c, m⟩ := q
  refine pcall_of hmo Try.func62 rfl (by kernel_rfl) (by simp [Try.ntmps62]) ?_; simp -implicitDefEqProofs [go_sem, Try.ntmps62]; (repeat refine And.intro (by first | decide +kernel | omega | kernel_rfl) ?_); (try decide +kernel)
  refine .inl ⟨_, gcd_ok l m hp.1 hq.1 hp.2 hq.2, ?_⟩; simp -implicitDefEqProofs [go_sem]; (repeat refine And.intro (by first | decide +kernel | omega | kernel_rfl) ?_); (try decide +kernel)
  refine .inl ⟨_, make1_p false (Nat.gcd (val l) (val m)) (gcdI (ofR (b, l)) (ofR (c, m))) (by unfold gcdI ofR Int.gcd; simp [mag]), ?_⟩; simp -implicitDefEqProofs [go_sem]; (repeat refine And.intro (by first | decide +kernel | omega | kernel_rfl) ?_); (try decide +kernel)
theorem zl_gcdI (a b : Int) : zl (gcdI a b) ≤ max (zl a) (zl b) := by
  unfold zl gcdI
  rw [Int.natAbs_natCast]
  rcases Nat.eq_zero_or_pos b.natAbs with h | h
  · unfold Int.gcd; rw [h, Nat.gcd_zero_right]; omega
  · have := nl_mono (Nat.le_of_dvd h (Nat.gcd_dvd_right a.natAbs b.natAbs))
    unfold Int.gcd; omega
theorem gcdl_p (l : List ZR) (hl : ∀ p ∈ l, Rz p) (hn : l.length < 1099511627776) (hne : l ≠ []) : PCall Try.prog 44 [.d (.sl (zes l))] (.one (.d (zd (nrm (gcds (l.map ofR)))))) := by
  have hf := folded_ok (g := 62) (f := gcdI) (I := fun z => zl z < 1099511627776) (fun z h => h) l hl hn (fun a x ha hI hx => ⟨gcd1_p a x ha (hl x hx), by have := zl_gcdI (ofR a) (ofR x); have := zl_lt (hl x hx); omega⟩) (false, []) ⟨small_nil, by decide⟩ (by show zl (ofR (false, [])) < _; decide) hne
  have e : l.foldl (fun z p => gcdI z (ofR p)) (ofR (false, [])) = gcds (l.map ofR) := by unfold gcds; rw [List.foldl_map]; rfl
  rw [e] at hf
  have hf : PCall Try.prog 61 [.d (zd (false, [])), .d (.sl (zes l)), .fn 62 []] (.one (.d (zd (nrm (gcds (l.map ofR)))))) := hf
  refine pcall_of hmo Try.func44 rfl (by kernel_rfl) (by simp [Try.ntmps44]) ?_; simp -implicitDefEqProofs [go_sem, Try.ntmps44]; (repeat refine And.intro (by first | decide +kernel | omega | kernel_rfl) ?_); (try decide +kernel)
  refine .inl ⟨_, hf, ?_⟩; simp -implicitDefEqProofs [go_sem]; (repeat refine And.intro (by first | decide +kernel | omega | kernel_rfl) ?_); (try decide +kernel)
end Go.Mt
