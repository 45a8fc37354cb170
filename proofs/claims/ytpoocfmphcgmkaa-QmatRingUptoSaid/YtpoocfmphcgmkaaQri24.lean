/-
  A part of the proof.
-/
import Derived.Test.YtpoocfmphcgmkaaQri23
import Derived.Test.YtpoocfmphcgmkaaQri19
set_option linter.unusedVariables false
set_option linter.unusedSimpArgs false
set_option linter.unusedSimpArgs false
set_option linter.unusedVariables false
namespace Go.Mt
open Go Go.Pm Go.Proofs
/-- a denominator with numerators -/
def cmd (p : ZR) (l : List ZR) : D := .agg [.v (.bool p.1), .sl (les p.2), .sl (zes l)]
attribute [go_sem] cmd
end Go.Mt
/-
  A part of the proof.
-/
set_option linter.unusedSimpArgs false
set_option linter.unusedVariables false
namespace Go.Mt
open Go Go.Pm Go.Proofs
theorem zl_nat (n : Nat) : zl (n : Int) = nl n := by unfold zl; rw [Int.natAbs_natCast]
end Go.Mt
/-
  A part of the proof.
-/
set_option linter.unusedSimpArgs false
set_option linter.unusedVariables false
namespace Go.Mt
open Go Go.Pm Go.Proofs
theorem ql_num (q : Rat) : zl q.num ≤ ql q := Nat.le_max_left _ _
theorem ql_den (q : Rat) : zl (q.den : Int) ≤ ql q := by rw [zl_nat]; exact Nat.le_max_right _ _
theorem zl_mul (a b : Int) : zl (a * b) ≤ zl a + zl b := by unfold zl; rw [Int.natAbs_mul]; exact nl_mul _ _
theorem zl_add (a b : Int) : zl (a + b) ≤ max (zl a) (zl b) + 1 := by
  unfold zl
  exact Nat.le_trans (nl_mono (Int.natAbs_add_le a b)) (nl_add _ _)
theorem zl_neg (a : Int) : zl (-a) = zl a := by unfold zl; rw [Int.natAbs_neg]
theorem add_n (a b : Int) (ha : zl a < 1099511627776) (hb : zl b < 1099511627776) : PCall Try.prog 27 [.d (zd (nrm a)), .d (zd (nrm b))] (.one (.d (zd (nrm (a + b))))) := by
  have h := add_p (nrm a) (nrm b) (rz ha) (rz hb)
  rwa [ofR_nrm, ofR_nrm] at h
theorem neg_n (a : Int) (ha : zl a < 1099511627776) : PCall Try.prog 47 [.d (zd (nrm a))] (.one (.d (zd (nrm (-a))))) := by
  have h := neg_p (nrm a) (rz ha)
  rwa [ofR_nrm] at h
theorem sign_n (a : Int) (ha : zl a < 1099511627776) : PCall Try.prog 45 [.d (zd (nrm a))] (.one (.d (.v (.int .i64 a.sign)))) := by
  have h := sign_p (nrm a) (rz ha)
  rwa [ofR_nrm] at h
/-- fractions that mean something -/
structure Gq (x : QR) : Prop where
  rq : Rq x
  ne : ofR x.2 ≠ 0
theorem Gq.n (q : Rat) (h : ql q < 1099511627776) : Gq (nq q) := ⟨Go.Mt.rq h, by show ofR (nrm _) ≠ 0; rw [ofR_nrm]; exact den_ne q⟩
theorem Gq.one {x : QR} (hx : Gq x) : ∀ q ∈ [x], Rq q ∧ ofR q.2 ≠ 0 := fun q hq => by
  simp only [List.mem_cons, List.not_mem_nil, or_false] at hq
  subst hq; exact ⟨hx.rq, hx.ne⟩
end Go.Mt
/-
  A part of the proof.
-/
set_option linter.unusedSimpArgs false
set_option linter.unusedVariables false
namespace Go.Mt
open Go Go.Pm Go.Proofs
/-- rows of integers, and a matrix, as they lie -/
def rel (r : List ZR) : List D := [.sl (zes r)]
def rws (rows : List (List ZR)) : List (List D) := rows.map rel
abbrev MR := ZR × List (List ZR)
def md (m : MR) : D := .agg [.v (.bool m.1.1), .sl (les m.1.2), .sl (rws m.2)]
def mel (m : MR) : List D := [.v (.bool m.1.1), .sl (les m.1.2), .sl (rws m.2)]
def mes (l : List MR) : List (List D) := l.map mel
def mE : D := .agg [.v (.bool false), .sl [], .sl []]
attribute [go_sem] rel md mel mE
@[go_sem] theorem rws_len (l : List (List ZR)) : (rws l).length = l.length := by simp [rws]
@[go_sem] theorem rws_ge {l : List (List ZR)} {i : Nat} (h : i < (rws l).length) : (rws l)[i] = rel (l[i]'(by rw [rws_len] at h; exact h)) := by simp [rws]
@[go_sem] theorem mes_len (l : List MR) : (mes l).length = l.length := by simp [mes]
@[go_sem] theorem mes_ge {l : List MR} {i : Nat} (h : i < (mes l).length) : (mes l)[i] = mel (l[i]'(by rw [mes_len] at h; exact h)) := by simp [mes]
/-- rows that a contract takes -/
structure Grw (rows : List (List ZR)) : Prop where
  rz : ∀ r ∈ rows, ∀ z ∈ r, Rz z
  nr : rows.length < 549755813888
  nc : ∀ r ∈ rows, r.length < 549755813888
theorem colsOf_lt {rows : List (List ZR)} (h : Grw rows) : colsOf rows < 549755813888 := by
  cases rows with
  | nil => show 0 < _; decide
  | cons r l => exact h.nc r (List.mem_cons_self ..)
theorem cols_p (rows : List (List ZR)) (h : Grw rows) : PCall Try.prog 42 [.d (.sl (rws rows))] (.one (.d (.v (.int .i64 (colsOf rows : Int))))) := by
  cases rows with
  | nil =>
    refine pcall_of hmo Try.func42 rfl (by kernel_rfl) (by simp [Try.ntmps42]) ?_; simp -implicitDefEqProofs [go_sem, Try.ntmps42]; (repeat refine And.intro (by first | decide +kernel | omega | kernel_rfl) ?_); (try decide +kernel)
  | cons r l =>
    have h0 : ¬ ((l.length + 1 : Nat) : Int) = 0 := by omega
    have h1 : ¬ ((l.length : Int) + 1 = 0) := by omega
    refine pcall_of hmo Try.func42 rfl (by kernel_rfl) (by simp [Try.ntmps42]) ?_; simp -implicitDefEqProofs [go_sem, Try.ntmps42]; (repeat refine And.intro (by first | decide +kernel | omega | kernel_rfl) ?_); (try decide +kernel)
    simp -implicitDefEqProofs [go_sem, h0, h1]; (repeat refine And.intro (by first | decide +kernel | omega | kernel_rfl) ?_); (try decide +kernel)
    rfl
theorem size_p (m : MR) (h : Grw m.2) : PCall Try.prog 22 [.d (md m)] (.tup [.d (.v (.int .i64 (m.2.length : Int))), .d (.v (.int .i64 (colsOf m.2 : Int)))]) := by
  refine pcall_of hmo Try.func22 rfl (by kernel_rfl) (by simp [Try.ntmps22]) ?_; simp -implicitDefEqProofs [go_sem, Try.ntmps22]; (repeat refine And.intro (by first | decide +kernel | omega | kernel_rfl) ?_); (try decide +kernel)
  refine .inl ⟨_, cols_p m.2 h, ?_⟩; simp -implicitDefEqProofs [go_sem]; (repeat refine And.intro (by first | decide +kernel | omega | kernel_rfl) ?_); (try decide +kernel)
def evenB (rows : List (List ZR)) : Bool := rows.all fun r => decide (r.length = colsOf rows)
theorem even_p (rows : List (List ZR)) (h : Grw rows) : PCall Try.prog 53 [.d (.sl (rws rows))] (.one (.d (.v (.bool (evenB rows))))) := by
  refine pcall_of hmo Try.func53 rfl (by kernel_rfl) (by simp [Try.ntmps53]) ?_; simp -implicitDefEqProofs [go_sem, Try.ntmps53]; (repeat refine And.intro (by first | decide +kernel | omega | kernel_rfl) ?_); (try decide +kernel)
  refine loop_rule [] (fun (k : Nat) => ⟨19, [(0, .d (.sl (rws rows))), (2, .d (.v (.bool false))), (5, .d (.sl (rws rows))), (6, intP .i64 (rows.length : Int)), (7, intP .i64 (k : Int))], [], 1000⟩)
    (fun k => k ≤ rows.length ∧ allK (fun r => decide (r.length = colsOf rows)) rows k) (fun k => rows.length - k) 0 ⟨Nat.zero_le _, allK_zero _ _⟩ (by simp) (by simp -implicitDefEqProofs [go_sem]) (fun k ⟨hk, ha⟩ => ?_)
  have hn := h.nr
  by_cases hkl : k < rows.length
  · have h0 : 0 < rows.length := by omega
    have e0 : ∀ hh : 0 < rows.length, (rows[0]'hh).length = colsOf rows := fun hh => by
      cases rows with
      | nil => simp at hh
      | cons r l => rfl
    by_cases hr : rows[k].length = colsOf rows
    · simp -implicitDefEqProofs [go_sem, hkl, h0, e0, hr]; (repeat refine And.intro (by first | decide +kernel | omega | kernel_rfl) ?_); (try decide +kernel)
      exact ⟨k + 1, ⟨by omega, allK_succ hkl ha (by simp [hr])⟩, by omega, by omega⟩
    · have hr' : ¬ ((rows[k].length : Nat) : Int) = ((colsOf rows : Nat) : Int) := by omega
      simp -implicitDefEqProofs [go_sem, hkl, h0, e0, hr, hr']; (repeat refine And.intro (by first | decide +kernel | omega | kernel_rfl) ?_); (try decide +kernel)
      exact allK_not hkl (decide_eq_false hr)
  · obtain rfl : k = rows.length := by omega
    simp -implicitDefEqProofs [go_sem]; (repeat refine And.intro (by first | decide +kernel | omega | kernel_rfl) ?_); (try decide +kernel)
    exact allK_all ha
/-- what Check answers -/
def checkE (m : MR) : Int := if ofR m.1 = 0 then 6 else if evenB m.2 = true then 0 else 2
theorem check_p (m : MR) (hd : Rz m.1) (h : Grw m.2) : PCall Try.prog 29 [.d (md m)] (.one (.d (.v (.int .i64 (checkE m))))) := by
  by_cases h0 : ofR m.1 = 0
  · refine pcall_of hmo Try.func29 rfl (by kernel_rfl) (by simp [Try.ntmps29]) ?_; simp -implicitDefEqProofs [go_sem, Try.ntmps29]; (repeat refine And.intro (by first | decide +kernel | omega | kernel_rfl) ?_); (try decide +kernel)
    refine .inl ⟨_, sign_p m.1 hd, ?_⟩; simp -implicitDefEqProofs [go_sem, h0]; (repeat refine And.intro (by first | decide +kernel | omega | kernel_rfl) ?_); (try decide +kernel)
    simp [checkE, h0]
  · have h1 : ¬ (ofR m.1).sign = 0 := fun h => h0 (Int.sign_eq_zero_iff_zero.1 h)
    refine pcall_of hmo Try.func29 rfl (by kernel_rfl) (by simp [Try.ntmps29]) ?_; simp -implicitDefEqProofs [go_sem, Try.ntmps29]; (repeat refine And.intro (by first | decide +kernel | omega | kernel_rfl) ?_); (try decide +kernel)
    refine .inl ⟨_, sign_p m.1 hd, ?_⟩; simp -implicitDefEqProofs [go_sem, h0, h1]; (repeat refine And.intro (by first | decide +kernel | omega | kernel_rfl) ?_); (try decide +kernel)
    have he := even_p m.2 h
    cases hb : evenB m.2 with
    | true =>
      rw [hb] at he
      refine .inl ⟨_, he, ?_⟩; simp -implicitDefEqProofs [go_sem]; (repeat refine And.intro (by first | decide +kernel | omega | kernel_rfl) ?_); (try decide +kernel)
      simp [checkE, h0, hb]
    | false =>
      rw [hb] at he
      refine .inl ⟨_, he, ?_⟩; simp -implicitDefEqProofs [go_sem]; (repeat refine And.intro (by first | decide +kernel | omega | kernel_rfl) ?_); (try decide +kernel)
      simp [checkE, h0, hb]
/-- the first error of many -/
def checksE (l : List MR) : Int := match l with
  | [] => 0
  | m :: l => if checkE m ≠ 0 then checkE m else checksE l
theorem checksE_take {l : List MR} {k : Nat} (hk : k < l.length) (h : allK (fun m => decide (checkE m = 0)) l k) (hb : checkE l[k] ≠ 0) : checksE l = checkE l[k] := by
  induction l generalizing k with
  | nil => simp at hk
  | cons m l ih =>
    cases k with
    | zero => show (if checkE m ≠ 0 then checkE m else checksE l) = checkE m; rw [if_pos (show checkE m ≠ 0 from hb)]
    | succ k =>
      have h1 : checkE m = 0 ∧ allK (fun m => decide (checkE m = 0)) l k := by
        unfold allK at h ⊢
        simpa using h
      show (if checkE m ≠ 0 then checkE m else checksE l) = checkE (l[k]'(by simpa using hk))
      rw [if_neg (by simp [h1.1])]
      exact ih (by simpa using hk) h1.2 hb
theorem checksE_zero {l : List MR} (h : l.all (fun m => decide (checkE m = 0)) = true) : checksE l = 0 := by
  induction l with
  | nil => rfl
  | cons m l ih =>
    simp only [List.all_cons, Bool.and_eq_true, decide_eq_true_eq] at h
    show (if checkE m ≠ 0 then checkE m else checksE l) = 0
    rw [if_neg (by simp [h.1])]
    exact ih h.2
theorem checks_p (l : List MR) (hl : ∀ m ∈ l, Rz m.1 ∧ Grw m.2) (hn : l.length < 549755813888) : PCall Try.prog 21 [.d (.sl (mes l))] (.one (.d (.v (.int .i64 (checksE l))))) := by
  refine pcall_of hmo Try.func21 rfl (by kernel_rfl) (by simp [Try.ntmps21]) ?_; simp -implicitDefEqProofs [go_sem, Try.ntmps21]; (repeat refine And.intro (by first | decide +kernel | omega | kernel_rfl) ?_); (try decide +kernel)
  refine loop_rule [] (fun (k : Nat) => ⟨18, [(2, intP .i64 0), (6, .d (.sl (mes l))), (7, intP .i64 (l.length : Int)), (8, intP .i64 (k : Int))], [], 1000⟩)
    (fun k => k ≤ l.length ∧ allK (fun m => decide (checkE m = 0)) l k) (fun k => l.length - k) 0 ⟨Nat.zero_le _, allK_zero _ _⟩ (by simp) (by simp -implicitDefEqProofs [go_sem]) (fun k ⟨hk, ha⟩ => ?_)
  by_cases hkl : k < l.length
  · obtain ⟨h1, h2⟩ := hl l[k] (List.getElem_mem hkl)
    have hc := check_p l[k] h1 h2
    by_cases hr : checkE l[k] = 0
    · rw [hr] at hc
      simp -implicitDefEqProofs [go_sem, hkl]; (repeat refine And.intro (by first | decide +kernel | omega | kernel_rfl) ?_); (try decide +kernel)
      refine .inl ⟨_, hc, ?_⟩; simp -implicitDefEqProofs [go_sem]; (repeat refine And.intro (by first | decide +kernel | omega | kernel_rfl) ?_); (try decide +kernel)
      exact ⟨k + 1, ⟨by omega, allK_succ hkl ha (by simp [hr])⟩, by omega, by omega⟩
    · rw [checksE_take hkl ha hr]
      simp -implicitDefEqProofs [go_sem, hkl]; (repeat refine And.intro (by first | decide +kernel | omega | kernel_rfl) ?_); (try decide +kernel)
      refine .inl ⟨_, hc, ?_⟩; simp -implicitDefEqProofs [go_sem, hr]; (repeat refine And.intro (by first | decide +kernel | omega | kernel_rfl) ?_); (try decide +kernel)
  · obtain rfl : k = l.length := by omega
    rw [checksE_zero (allK_all ha)]
    simp -implicitDefEqProofs [go_sem]; (repeat refine And.intro (by first | decide +kernel | omega | kernel_rfl) ?_); (try decide +kernel)
end Go.Mt
/-
  A part of the proof.
-/
set_option linter.unusedSimpArgs false
set_option linter.unusedVariables false
namespace Go.Mt
open Go Go.Pm Go.Proofs
theorem eachI_h (rows : List (List ZR)) (n : Nat) : HCall Try.prog 43 [.d (.sl (rws rows))] [] n (.fn 60 [.pr n 0 0 0]) [(n, .box [.d (.sl (rws rows))])] := by
  refine hcall_of (L := [n]) hmo Try.func43 rfl (by kernel_rfl) (by simp [Try.ntmps43]) (by simp -implicitDefEqProofs [go_sem]) (by simp -implicitDefEqProofs [go_sem]) ?_
  simp -implicitDefEqProofs [go_sem, Try.ntmps43]
theorem nrm_zero : nrm 0 = (false, []) := by unfold nrm; simp [limbs_zero]
theorem zl_gcds {l : List Int} {B : Nat} (hB : 0 < B) (h : ∀ z ∈ l, zl z < B) : zl (gcds l) < B := by
  have key : ∀ (l : List Int) (a : Int), zl a < B → (∀ z ∈ l, zl z < B) → zl (l.foldl gcdI a) < B := by
    intro l
    induction l with
    | nil => intro a ha _; exact ha
    | cons z l ih =>
      intro a ha hl
      refine ih _ ?_ (fun x hx => hl x (List.mem_cons_of_mem _ hx))
      have := zl_gcdI a z
      have := hl z (List.mem_cons_self ..)
      omega
  exact key l 0 (by show nl 0 < B; rw [nl_zero]; exact hB) h
theorem gcd2_p (a : Int) (p : ZR) (ha : zl a < 1099511627776) (hp : Rz p) : PCall Try.prog 44 [.d (.sl [[.v (.bool (nrm a).1), .sl (les (nrm a).2)], [.v (.bool p.1), .sl (les p.2)]])] (.one (.d (zd (nrm (gcdI a (ofR p)))))) := by
  have h := gcdl_p [nrm a, p] (by simp; exact ⟨rz ha, hp⟩) (by simp) (by simp)
  have e : gcds ([nrm a, p].map ofR) = gcdI a (ofR p) := by
    simp only [List.map_cons, List.map_nil, ofR_nrm]
    unfold gcds gcdI; simp [Int.gcd]
  rw [e] at h
  exact h
/-- the numbers that have come -/
def upTo (rows : List (List ZR)) (i : Nat) : List Int := ((rows.take i).flatten).map ofR
theorem upTo_zero (rows : List (List ZR)) : upTo rows 0 = [] := by simp [upTo]
theorem upTo_succ {rows : List (List ZR)} {i : Nat} (hi : i < rows.length) : upTo rows (i + 1) = upTo rows i ++ rows[i].map ofR := by
  unfold upTo
  rw [List.take_add_one, List.getElem?_eq_getElem hi, List.flatten_append, List.map_append]
  simp
def upIn (l : List Int) (r : List ZR) (j : Nat) : List Int := l ++ (r.take j).map ofR
theorem upIn_zero (l : List Int) (r : List ZR) : upIn l r 0 = l := by simp [upIn]
theorem gcds_step (l : List Int) (r : List ZR) {j : Nat} (hj : j < r.length) : gcds (upIn l r (j + 1)) = gcdI (gcds (upIn l r j)) (ofR r[j]) := by
  unfold upIn
  rw [List.take_add_one, List.getElem?_eq_getElem hj, List.map_append, ← List.append_assoc]
  exact gcds_snoc _ _
def ents (rows : List (List ZR)) : List Int := rows.flatten.map ofR
theorem upTo_all (rows : List (List ZR)) : upTo rows rows.length = ents rows := by unfold upTo ents; rw [List.take_length]
theorem ents_lt {rows : List (List ZR)} (h : Grw rows) : ∀ z ∈ ents rows, zl z < 1099511627776 := fun z hz => by
  obtain ⟨p, hp, rfl⟩ := List.mem_map.1 hz
  obtain ⟨r, hr, hp⟩ := List.mem_flatten.1 hp
  exact zl_lt (h.rz r hr p hp)
theorem upTo_lt {rows : List (List ZR)} (h : Grw rows) (i : Nat) : ∀ z ∈ upTo rows i, zl z < 1099511627776 := fun z hz => by
  obtain ⟨p, hp, rfl⟩ := List.mem_map.1 hz
  obtain ⟨r, hr, hp⟩ := List.mem_flatten.1 hp
  exact zl_lt (h.rz r (List.mem_of_mem_take hr) p hp)
def qrow (G : Int) (r : List ZR) : List ZR := r.map fun z => nrm (ofR z / G)
def qrows (G : Int) (rows : List (List ZR)) : List (List ZR) := rows.map (qrow G)
@[go_sem] theorem qrow_len (G : Int) (r : List ZR) : (qrow G r).length = r.length := by simp [qrow]
@[go_sem] theorem qrows_len (G : Int) (rows : List (List ZR)) : (qrows G rows).length = rows.length := by simp [qrows]
def mkD (D : Int) (rows : List (List ZR)) : Int := if colsOf rows = 0 then 1 else D / madeG D (ents rows)
/-- what made answers -/
def mkM (D : Int) (rows : List (List ZR)) : MR := (nrm (mkD D rows), qrows (madeG D (ents rows)) rows)
theorem madeG_ne {D : Int} (h0 : D ≠ 0) (l : List Int) : madeG D l ≠ 0 := by
  have := gcdI_pos (n := gcds l) h0
  unfold madeG; split <;> omega
theorem madeG_dvd (D : Int) (l : List Int) : madeG D l ∣ D ∧ ∀ z ∈ l, madeG D l ∣ z := by
  have h1 : gcdI (gcds l) D ∣ D := by unfold gcdI; exact Int.gcd_dvd_right ..
  have h2 : ∀ z ∈ l, gcdI (gcds l) D ∣ z := fun z hz => Int.dvd_trans (by unfold gcdI; exact Int.gcd_dvd_left ..) (gcds_dvd l z hz)
  unfold madeG
  split
  · exact ⟨Int.neg_dvd.2 h1, fun z hz => Int.neg_dvd.2 (h2 z hz)⟩
  · exact ⟨h1, h2⟩
set_option maxRecDepth 100000 in
set_option maxHeartbeats 4000000 in
theorem made_p (d : ZR) (rows : List (List ZR)) (hd : Rz d) (h0 : ofR d ≠ 0) (h : Grw rows) :
    PCall Try.prog 23 [.d (zd d), .d (.sl (rws rows))] (.one (.d (md (mkM (ofR d) rows)))) := by
  have hnr := h.nr
  have hgE : zl (gcds (ents rows)) < 1099511627776 := zl_gcds (by decide) (ents_lt h)
  have hg1 : zl (gcdI (gcds (ents rows)) (ofR d)) < 1099511627776 := by have := zl_gcdI (gcds (ents rows)) (ofR d); have := zl_lt hd; omega
  have hg2 : zl (madeG (ofR d) (ents rows)) < 1099511627776 := by
    unfold madeG; split
    · rw [zl_neg]; exact hg1
    · exact hg1
  refine pcallS_of Try.func23 rfl (by kernel_rfl) (by simp [Try.ntmps23]) ?_; rw [Try.ntmps23]
  refine .seq (.of_fn hmo ?_); simp -implicitDefEqProofs [go_sem]; (repeat refine And.intro (by first | decide +kernel | omega | kernel_rfl) ?_); (try decide +kernel)
  refine .seq (.of_fn hmo ?_); simp -implicitDefEqProofs [go_sem]; (repeat refine And.intro (by first | decide +kernel | omega | kernel_rfl) ?_); (try decide +kernel)
  refine .seq (.of_fn hmo ?_)
  simp -implicitDefEqProofs [go_sem]; (repeat refine And.intro (by first | decide +kernel | omega | kernel_rfl) ?_); (try decide +kernel)
  refine .inr ⟨[], _, _, eachI_h rows _, by simp -implicitDefEqProofs [go_sem], ?_⟩
  simp -implicitDefEqProofs [go_sem]; (repeat refine And.intro (by first | decide +kernel | omega | kernel_rfl) ?_); (try decide +kernel)
  refine ⟨_, rfl, by decide +kernel, ?_⟩
  simp -implicitDefEqProofs [go_sem]; (repeat refine And.intro (by first | decide +kernel | omega | kernel_rfl) ?_); (try decide +kernel)
  refine loop_rule [.nilB 8 1] (fun (i : Nat) => ⟨25, [(0, .yd), (7, .d (.sl (rws rows))), (8, intP .i64 (rows.length : Int)), (9, intP .i64 (i : Int))],
    [(8, .box [.d (.v (.bool (nrm (gcds (upTo rows i))).1)), .d (.sl (les (nrm (gcds (upTo rows i))).2))]), (4, .box [.d (.v (.bool false)), .nl, .nl]), (0, .box [.d (.v (.bool d.1)), .d (.sl (les d.2))])], 1000⟩)
    (fun i => i ≤ rows.length) (fun i => rows.length - i) 0 (Nat.zero_le _) (by simp) (by simp -implicitDefEqProofs [go_sem, upTo_zero, gcds, nrm_zero, les_nil]) (fun i hi => ?_)
  by_cases hil : i < rows.length
  · obtain ⟨row, hrow⟩ : ∃ row, row = rows[i] := ⟨_, rfl⟩
    have hrm : row ∈ rows := hrow ▸ List.getElem_mem hil
    have hrl := h.nc row hrm
    simp -implicitDefEqProofs [go_sem, hil]; (repeat refine And.intro (by first | decide +kernel | omega | kernel_rfl) ?_); (try decide +kernel)
    rw [← hrow]
    refine loop_rule [] (fun (j : Nat) => ⟨25, [(0, .yd), (7, .d (.sl (rws rows))), (8, intP .i64 (rows.length : Int)), (9, intP .i64 (i : Int)), (13, .d (.sl (zes row))), (14, intP .i64 (row.length : Int)), (15, intP .i64 (j : Int))],
      [(8, .box [.d (.v (.bool (nrm (gcds (upIn (upTo rows i) row j))).1)), .d (.sl (les (nrm (gcds (upIn (upTo rows i) row j))).2))]), (4, .box [.d (.v (.bool false)), .nl, .nl]), (0, .box [.d (.v (.bool d.1)), .d (.sl (les d.2))])], 2000⟩)
      (fun j => j ≤ row.length) (fun j => row.length - j) 0 (Nat.zero_le _) (by simp) (by simp -implicitDefEqProofs [go_sem, upIn_zero]) (fun j hj => ?_)
    by_cases hjl : j < row.length
    · have hg : zl (gcds (upIn (upTo rows i) row j)) < 1099511627776 := zl_gcds (by decide) (fun z hz => by
        rcases List.mem_append.1 hz with hz | hz
        · exact upTo_lt h i z hz
        · obtain ⟨p, hp, rfl⟩ := List.mem_map.1 hz
          exact zl_lt (h.rz row hrm p (List.mem_of_mem_take hp)))
      have hc := gcd2_p _ row[j] hg (h.rz row hrm _ (List.getElem_mem hjl))
      rw [← gcds_step (upTo rows i) row hjl] at hc
      simp -implicitDefEqProofs [go_sem, hjl]; (repeat refine And.intro (by first | decide +kernel | omega | kernel_rfl) ?_); (try decide +kernel)
      refine .inl ⟨_, hc, ?_⟩; simp -implicitDefEqProofs [go_sem]; (repeat refine And.intro (by first | decide +kernel | omega | kernel_rfl) ?_); (try decide +kernel)
      exact ⟨j + 1, by omega, by omega, by omega, rfl, rfl⟩
    · obtain rfl : j = row.length := by omega
      have e : upIn (upTo rows i) row row.length = upTo rows (i + 1) := by unfold upIn; rw [List.take_length, upTo_succ hil, hrow]
      rw [e]
      simp -implicitDefEqProofs [go_sem]; (repeat refine And.intro (by first | decide +kernel | omega | kernel_rfl) ?_); (try decide +kernel)
      exact ⟨i + 1, by omega, by omega, by omega, rfl, rfl⟩
  · obtain rfl : i = rows.length := by omega
    rw [upTo_all]
    simp -implicitDefEqProofs [go_sem]; (repeat refine And.intro (by first | decide +kernel | omega | kernel_rfl) ?_); (try decide +kernel)
    -- the divisor
    refine .cut ⟨83, [(1, .d (.sl (rws rows))), (2, .pr 0 0 0 0), (4, .pr 4 0 0 0), (5, .pr 8 0 0 0)], [(8, .box [.d (.v (.bool (nrm (gcdI (gcds (ents rows)) (ofR d))).1)), .d (.sl (les (nrm (gcdI (gcds (ents rows)) (ofR d))).2))]), (4, .box [.d (.v (.bool false)), .nl, .nl]), (0, .box [.d (.v (.bool d.1)), .d (.sl (les d.2))])], 3000⟩ (.of_fn hmo ?_) ?_
    · by_cases hz : gcds (ents rows) = 0
      · have hs := sign_n (gcds (ents rows)) hgE
        rw [hz] at hs
        have ha := abs_p d hd
        have e : ((ofR d).natAbs : Int) = gcdI (gcds (ents rows)) (ofR d) := by rw [hz]; unfold gcdI Int.gcd; simp
        rw [e, hz] at ha
        rw [hz]
        simp -implicitDefEqProofs [go_sem]; (repeat refine And.intro (by first | decide +kernel | omega | kernel_rfl) ?_); (try decide +kernel)
        refine .inl ⟨_, hs, ?_⟩; simp -implicitDefEqProofs [go_sem]; (repeat refine And.intro (by first | decide +kernel | omega | kernel_rfl) ?_); (try decide +kernel)
        refine .inl ⟨_, ha, ?_⟩; simp -implicitDefEqProofs [go_sem, cutK]; (repeat refine And.intro (by first | decide +kernel | omega | kernel_rfl) ?_); (try decide +kernel)
      · have hs := sign_n (gcds (ents rows)) hgE
        have hz' : ¬ (gcds (ents rows)).sign = 0 := fun h => hz (Int.sign_eq_zero_iff_zero.1 h)
        have hc := gcd2_p _ d hgE hd
        simp -implicitDefEqProofs [go_sem]; (repeat refine And.intro (by first | decide +kernel | omega | kernel_rfl) ?_); (try decide +kernel)
        refine .inl ⟨_, hs, ?_⟩; simp -implicitDefEqProofs [go_sem, hz, hz']; (repeat refine And.intro (by first | decide +kernel | omega | kernel_rfl) ?_); (try decide +kernel)
        refine .inl ⟨_, hc, ?_⟩; simp -implicitDefEqProofs [go_sem, cutK]; (repeat refine And.intro (by first | decide +kernel | omega | kernel_rfl) ?_); (try decide +kernel)
    refine .cut ⟨83, [(1, .d (.sl (rws rows))), (2, .pr 0 0 0 0), (4, .pr 4 0 0 0), (5, .pr 8 0 0 0)], [(8, .box [.d (.v (.bool (nrm (madeG (ofR d) (ents rows))).1)), .d (.sl (les (nrm (madeG (ofR d) (ents rows))).2))]), (4, .box [.d (.v (.bool false)), .nl, .nl]), (0, .box [.d (.v (.bool d.1)), .d (.sl (les d.2))])], 4000⟩ (.of_fn hmo ?_) ?_
    · by_cases hlt : ofR d < 0
      · have hs : (ofR d).sign < 0 := by rw [Int.sign_eq_neg_one_of_neg hlt]; decide
        have hc := neg_n _ hg1
        have e : -(gcdI (gcds (ents rows)) (ofR d)) = madeG (ofR d) (ents rows) := by unfold madeG; rw [if_pos hlt]
        rw [e] at hc
        simp -implicitDefEqProofs [go_sem]; (repeat refine And.intro (by first | decide +kernel | omega | kernel_rfl) ?_); (try decide +kernel)
        refine .inl ⟨_, sign_p d hd, ?_⟩; simp -implicitDefEqProofs [go_sem, hlt, hs]; (repeat refine And.intro (by first | decide +kernel | omega | kernel_rfl) ?_); (try decide +kernel)
        refine .inl ⟨_, hc, ?_⟩; simp -implicitDefEqProofs [go_sem, cutK]; (repeat refine And.intro (by first | decide +kernel | omega | kernel_rfl) ?_); (try decide +kernel)
      · have hs : ¬ (ofR d).sign < 0 := by rw [Int.sign_eq_one_of_pos (by omega)]; decide
        have e : gcdI (gcds (ents rows)) (ofR d) = madeG (ofR d) (ents rows) := by unfold madeG; rw [if_neg hlt]
        rw [e]
        simp -implicitDefEqProofs [go_sem]; (repeat refine And.intro (by first | decide +kernel | omega | kernel_rfl) ?_); (try decide +kernel)
        refine .inl ⟨_, sign_p d hd, ?_⟩; simp -implicitDefEqProofs [go_sem, hlt, hs, cutK]; (repeat refine And.intro (by first | decide +kernel | omega | kernel_rfl) ?_); (try decide +kernel)
    have he := exact_p d (nrm (madeG (ofR d) (ents rows))) hd (rz hg2) (by rw [ofR_nrm]; exact madeG_ne h0 _) (by rw [ofR_nrm]; exact (madeG_dvd _ _).1)
    rw [ofR_nrm] at he
    refine .seq (.of_fn hmo ?_); simp -implicitDefEqProofs [go_sem]; (repeat refine And.intro (by first | decide +kernel | omega | kernel_rfl) ?_); (try decide +kernel)
    refine .seq (.of_fn hmo ?_); simp -implicitDefEqProofs [go_sem]; (repeat refine And.intro (by first | decide +kernel | omega | kernel_rfl) ?_); (try decide +kernel)
    refine .inl ⟨_, he, ?_⟩; simp -implicitDefEqProofs [go_sem]; (repeat refine And.intro (by first | decide +kernel | omega | kernel_rfl) ?_); (try decide +kernel)
    refine .cut ⟨83, [(1, .d (.sl (rws rows))), (2, .pr 0 0 0 0), (4, .pr 4 0 0 0), (5, .pr 8 0 0 0), (7, .pr 4004 0 0 0)], [(4004, .box [.d (.v (.bool (nrm (mkD (ofR d) rows)).1)), .d (.sl (les (nrm (mkD (ofR d) rows)).2)), .nl]), (8, .box [.d (.v (.bool (nrm (madeG (ofR d) (ents rows))).1)), .d (.sl (les (nrm (madeG (ofR d) (ents rows))).2))]), (4, .box [.d (.v (.bool false)), .nl, .nl]), (0, .box [.d (.v (.bool d.1)), .d (.sl (les d.2))])], 6000⟩ (.of_fn hmo ?_) ?_
    · have hcol := cols_p rows h
      by_cases hc0 : colsOf rows = 0
      · have e : mkD (ofR d) rows = 1 := by unfold mkD; rw [if_pos hc0]
        rw [e]
        rw [hc0] at hcol
        simp -implicitDefEqProofs [go_sem]; (repeat refine And.intro (by first | decide +kernel | omega | kernel_rfl) ?_); (try decide +kernel)
        refine .inl ⟨_, hcol, ?_⟩; simp -implicitDefEqProofs [go_sem]; (repeat refine And.intro (by first | decide +kernel | omega | kernel_rfl) ?_); (try decide +kernel)
        refine .inl ⟨_, of_p 1 (by decide) (by decide), ?_⟩; simp -implicitDefEqProofs [go_sem, cutK]; (repeat refine And.intro (by first | decide +kernel | omega | kernel_rfl) ?_); (try decide +kernel)
      · have e : mkD (ofR d) rows = ofR d / madeG (ofR d) (ents rows) := by unfold mkD; rw [if_neg hc0]
        have hc1 : ¬ ((colsOf rows : Nat) : Int) = 0 := by omega
        rw [e]
        simp -implicitDefEqProofs [go_sem]; (repeat refine And.intro (by first | decide +kernel | omega | kernel_rfl) ?_); (try decide +kernel)
        refine .inl ⟨_, hcol, ?_⟩; simp -implicitDefEqProofs [go_sem, hc0, hc1, cutK]; (repeat refine And.intro (by first | decide +kernel | omega | kernel_rfl) ?_); (try decide +kernel)
    have e1 : (mkM (ofR d) rows).1 = nrm (mkD (ofR d) rows) := rfl
    have e2 : (mkM (ofR d) rows).2 = qrows (madeG (ofR d) (ents rows)) rows := rfl
    rw [e1, e2]
    generalize mkD (ofR d) rows = dn
    have hdv := (madeG_dvd (ofR d) (ents rows)).2
    have hGn := madeG_ne h0 (ents rows)
    obtain ⟨G, hG⟩ : ∃ G, G = madeG (ofR d) (ents rows) := ⟨_, rfl⟩
    rw [← hG] at hdv hGn hg2
    rw [← hG]
    refine .seq (.of_fn hmo ?_)
    simp -implicitDefEqProofs [go_sem]; (repeat refine And.intro (by first | decide +kernel | omega | kernel_rfl) ?_); (try decide +kernel)
    refine loop_rule [.arrB 4004 2 46 1] (fun (i : Nat) => ⟨83, [(2, .pr 0 0 0 0), (4, .pr 4 0 0 0), (5, .pr 8 0 0 0), (7, .pr 4004 0 0 0), (49, .d (.sl (rws rows))), (50, intP .i64 (rows.length : Int)), (51, intP .i64 (i : Int))],
      [(4004, .box [.d (.v (.bool (nrm dn).1)), .d (.sl (les (nrm dn).2)), .sr 6012 i]), (6012, .arr ⟨46, 1, i, false, rws ((qrows G rows).take i)⟩), (8, .box [.d (.v (.bool (nrm G).1)), .d (.sl (les (nrm G).2))]), (4, .box [.d (.v (.bool false)), .nl, .nl]), (0, .box [.d (.v (.bool d.1)), .d (.sl (les d.2))])], 7000⟩)
      (fun i => i ≤ rows.length) (fun i => rows.length - i) 0 (Nat.zero_le _) (by simp) (by simp -implicitDefEqProofs [go_sem, rws]) (fun i hi => ?_)
    by_cases hil : i < rows.length
    · obtain ⟨row, hrow⟩ : ∃ row, row = rows[i] := ⟨_, rfl⟩
      have hrm : row ∈ rows := hrow ▸ List.getElem_mem hil
      have hrl := h.nc row hrm
      have hrl2 : rows[i].length < 549755813888 := hrow ▸ hrl
      simp -implicitDefEqProofs [go_sem, hil]; (repeat refine And.intro (by first | decide +kernel | omega | kernel_rfl) ?_); (try decide +kernel)
      rw [← hrow]
      refine loop_rule [] (fun (j : Nat) => ⟨83, [(2, .pr 0 0 0 0), (4, .pr 4 0 0 0), (5, .pr 8 0 0 0), (7, .pr 4004 0 0 0), (10, .sr 7024 j), (49, .d (.sl (rws rows))), (50, intP .i64 (rows.length : Int)), (51, intP .i64 (i : Int)), (58, .d (.sl (zes row))), (59, intP .i64 (row.length : Int)), (60, intP .i64 (j : Int))],
        [(7024, .arr ⟨25, 2, j, false, zes ((qrow G row).take j)⟩), (4004, .box [.d (.v (.bool (nrm dn).1)), .d (.sl (les (nrm dn).2)), .sr 6012 i]), (6012, .arr ⟨46, 1, i, false, rws ((qrows G rows).take i)⟩), (8, .box [.d (.v (.bool (nrm G).1)), .d (.sl (les (nrm G).2))]), (4, .box [.d (.v (.bool false)), .nl, .nl]), (0, .box [.d (.v (.bool d.1)), .d (.sl (les d.2))])], 8000⟩)
        (fun j => j ≤ row.length) (fun j => row.length - j) 0 (Nat.zero_le _) (by simp) (by simp -implicitDefEqProofs [go_sem, zes]) (fun j hj => ?_)
      by_cases hjl : j < row.length
      · have hx := h.rz row hrm _ (List.getElem_mem hjl)
        have he := exact_p row[j] (nrm G) hx (rz hg2) (by rw [ofR_nrm]; exact hGn) (by rw [ofR_nrm]; exact hdv _ (List.mem_map.2 ⟨_, List.mem_flatten.2 ⟨row, hrm, List.getElem_mem hjl⟩, rfl⟩))
        rw [ofR_nrm] at he
        simp -implicitDefEqProofs [go_sem, hjl]; (repeat refine And.intro (by first | decide +kernel | omega | kernel_rfl) ?_); (try decide +kernel)
        refine .inl ⟨_, he, ?_⟩; simp -implicitDefEqProofs [go_sem]; (repeat refine And.intro (by first | decide +kernel | omega | kernel_rfl) ?_); (try decide +kernel)
        exact ⟨j + 1, by omega, by omega, ⟨rfl, by omega⟩, rfl, take_snoc zel (qrow G row) (by rw [qrow_len]; exact hjl) (by simp [zel, qrow])⟩
      · obtain rfl : j = row.length := by omega
        have e : (qrow G row).take row.length = qrow G row := List.take_of_length_le (by rw [qrow_len]; exact Nat.le_refl _)
        rw [e]
        simp -implicitDefEqProofs [go_sem]; (repeat refine And.intro (by first | decide +kernel | omega | kernel_rfl) ?_); (try decide +kernel)
        exact ⟨i + 1, by omega, by omega, by omega, rfl, take_snoc rel (qrows G rows) (by rw [qrows_len]; exact hil) (by simp [rel, qrows, hrow])⟩
    · obtain rfl : i = rows.length := by omega
      have e : (qrows G rows).take rows.length = qrows G rows := List.take_of_length_le (by rw [qrows_len]; exact Nat.le_refl _)
      rw [e]
      simp -implicitDefEqProofs [go_sem]; (repeat refine And.intro (by first | decide +kernel | omega | kernel_rfl) ?_); (try decide +kernel)
      refine .seq (.of_fn hmo ?_); simp -implicitDefEqProofs [go_sem]; (repeat refine And.intro (by first | decide +kernel | omega | kernel_rfl) ?_); (try decide +kernel)
      refine .of_fn hmo ?_
      simp -implicitDefEqProofs [go_sem]; (repeat refine And.intro (by first | decide +kernel | omega | kernel_rfl) ?_); (try decide +kernel)
end Go.Mt
/-
  A part of the proof.
-/
set_option linter.unusedSimpArgs false
set_option linter.unusedVariables false
namespace Go.Mt
open Go Go.Pm Go.Proofs
def zrow (f : Nat → Nat → Int) (c i : Nat) : List ZR := (List.range c).map fun k => nrm (f i k)
def ztab (f : Nat → Nat → Int) (r c : Nat) : List (List ZR) := (List.range r).map (zrow f c)
@[go_sem] theorem zrow_len (f : Nat → Nat → Int) (c i : Nat) : (zrow f c i).length = c := by simp [zrow]
@[go_sem] theorem ztab_len (f : Nat → Nat → Int) (r c : Nat) : (ztab f r c).length = r := by simp [ztab]
theorem zrow_get (f : Nat → Nat → Int) (c i : Nat) {k : Nat} (hk : k < (zrow f c i).length) : (zrow f c i)[k] = nrm (f i k) := by simp [zrow]
/-- captured values that are data or cells -/
structure Caps (caps : List PV) : Prop where
  a : ∀ hg, a2s hg caps = some caps
  g : ∀ hg, g2s hg caps = []
  r : r2s caps = []
  l : ∀ n, refsLts n caps
set_option maxHeartbeats 1000000 in
theorem table_p (f : Nat → Nat → Int) (r c : Nat) (g : FuncId) (caps : List PV) (hcap : Caps caps) (hr : r < 549755813888) (hc : c < 549755813888)
    (hf : ∀ i k, i < r → k < c → PCall Try.prog g (.d (.v (.int .i64 (i : Int))) :: .d (.v (.int .i64 (k : Int))) :: caps) (.one (.d (zd (nrm (f i k)))))) :
    PCall Try.prog 25 [.d (.v (.int .i64 (r : Int))), .d (.v (.int .i64 (c : Int))), .fn g caps] (.one (.so 46 1 (rws (ztab f r c)))) := by
  have ha := hcap.a
  have hgg := hcap.g
  have hrr := hcap.r
  have hll := hcap.l
  refine pcall_of hmo Try.func25 rfl (by kernel_rfl) (by simp [Try.ntmps25]) ?_; simp -implicitDefEqProofs [go_sem, Try.ntmps25]; (repeat refine And.intro (by first | decide +kernel | omega | kernel_rfl) ?_); (try decide +kernel)
  refine loop_rule [.arr 7 46 1] (fun (i : Nat) => ⟨35, [(1, intP .i64 (c : Int)), (2, .fn g caps), (7, .sr 16 i), (11, intP .i64 (r : Int)), (12, intP .i64 (i : Int))],
    [(16, .arr ⟨46, 1, i, false, rws ((ztab f r c).take i)⟩)], 7000⟩)
    (fun i => i ≤ r) (fun i => r - i) 0 (Nat.zero_le _) (by simp) (by simp -implicitDefEqProofs [go_sem, rws, hll]) (fun i hi => ?_)
  by_cases hil : i < r
  · simp -implicitDefEqProofs [go_sem, hil]; (repeat refine And.intro (by first | decide +kernel | omega | kernel_rfl) ?_); (try decide +kernel)
    refine loop_rule [] (fun (k : Nat) => ⟨35, [(1, intP .i64 (c : Int)), (2, .fn g caps), (7, .sr 16 i), (8, intP .i64 (i : Int)), (9, .sr 7016 k), (11, intP .i64 (r : Int)), (12, intP .i64 (i : Int)), (17, intP .i64 (c : Int)), (18, intP .i64 (k : Int))],
      [(7016, .arr ⟨25, 2, k, false, zes ((zrow f c i).take k)⟩), (16, .arr ⟨46, 1, i, false, rws ((ztab f r c).take i)⟩)], 8000⟩)
      (fun k => k ≤ c) (fun k => c - k) 0 (Nat.zero_le _) (by simp) (by simp -implicitDefEqProofs [go_sem, zes, hll]) (fun k hk => ?_)
    by_cases hkl : k < c
    · have hc1 := hf i k hil hkl
      simp -implicitDefEqProofs [go_sem, hkl, ha, hgg, hrr]; (repeat refine And.intro (by first | decide +kernel | omega | kernel_rfl) ?_); (try decide +kernel)
      refine .inl ⟨_, hc1, ?_⟩; simp -implicitDefEqProofs [go_sem, hgg, hll]; (repeat refine And.intro (by first | decide +kernel | omega | kernel_rfl) ?_); (try decide +kernel)
      refine ⟨k + 1, ?_⟩; (repeat' apply And.intro) <;> first | omega | (exact take_snoc zel (zrow f c i) (by rw [zrow_len]; exact hkl) (by simp [zel, zrow])) | assumption | rfl
    · obtain rfl : k = c := by omega
      rw [take_all (zrow_len f k i)]
      simp -implicitDefEqProofs [go_sem, hll]; (repeat refine And.intro (by first | decide +kernel | omega | kernel_rfl) ?_); (try decide +kernel)
      refine ⟨i + 1, ?_⟩; (repeat' apply And.intro) <;> first | omega | (exact take_snoc rel (ztab f r k) (by rw [ztab_len]; exact hil) (by simp [rel, ztab])) | assumption | rfl
  · obtain rfl : i = r := by omega
    rw [take_all (ztab_len f i c)]
    simp -implicitDefEqProofs [go_sem]; (repeat refine And.intro (by first | decide +kernel | omega | kernel_rfl) ?_); (try decide +kernel)
theorem caps_nil : Caps [] := ⟨fun _ => rfl, fun _ => rfl, rfl, fun _ => trivial⟩
theorem caps_bw1 (a : List D) : Caps [.bw a] := ⟨fun _ => rfl, fun _ => rfl, rfl, fun _ => ⟨trivial, trivial⟩⟩
theorem caps_bw3 (a b c : List D) : Caps [.bw a, .bw b, .bw c] := ⟨fun _ => rfl, fun _ => rfl, rfl, fun _ => ⟨trivial, trivial, trivial, trivial⟩⟩
/-- the numbers of rows -/
def zz (rows : List (List ZR)) : List (List Int) := rows.map fun r => r.map ofR
theorem zz_ent (rows : List (List ZR)) {i j : Nat} (hi : i < rows.length) (hj : j < rows[i].length) : entry (zz rows) i j = ofR rows[i][j] := by
  unfold entry zz
  simp [hi, hj]
theorem ents_zz (rows : List (List ZR)) : ents rows = (zz rows).flatten := by unfold ents zz; rw [List.map_flatten]
theorem zz_cols (rows : List (List ZR)) : colsOf (zz rows) = colsOf rows := by cases rows <;> simp [zz, colsOf]
theorem zz_tab (f : Nat → Nat → Int) (r c : Nat) : zz (ztab f r c) = tableZ f r c := by
  unfold zz ztab tableZ zrow
  simp [Function.comp_def, ofR_nrm]
theorem zl_sumZ {n K : Nat} {f : Nat → Int} (h : ∀ j, j < n → zl (f j) ≤ K) (hn : n < 18446744073709551616) : zl (sumZ n f) ≤ K + 2 := by
  have key : ∀ m, m ≤ n → (sumZ m f).natAbs ≤ m * 4294967296 ^ K := by
    intro m
    induction m with
    | zero => intro _; show (0 : Int).natAbs ≤ _; omega
    | succ m ih =>
      intro hm
      have h1 := ih (by omega)
      have h2 : (f m).natAbs < 4294967296 ^ K := Nat.lt_of_lt_of_le (lt_pow_nl _) (Nat.pow_le_pow_right (by decide) (h m (by omega)))
      have h3 : (sumZ m f + f m).natAbs ≤ (sumZ m f).natAbs + (f m).natAbs := Int.natAbs_add_le _ _
      show (sumZ m f + f m).natAbs ≤ _
      rw [Nat.add_mul, Nat.one_mul]
      omega
  refine nl_le_of_lt (Nat.lt_of_le_of_lt (key n (Nat.le_refl _)) ?_)
  rw [Nat.pow_add, Nat.mul_comm]
  exact Nat.mul_lt_mul_of_pos_left (show n < 4294967296 ^ 2 from hn) (Nat.pow_pos (by decide))
/-- rows of one length whose numbers are bounded -/
structure Gm (K : Nat) (m : MR) : Prop where
  d : Rz m.1
  ne : ofR m.1 ≠ 0
  g : Grw m.2
  ev : evenB m.2 = true
  k : ∀ r ∈ m.2, ∀ z ∈ r, zl (ofR z) ≤ K
  kd : zl (ofR m.1) ≤ K
theorem even_row {rows : List (List ZR)} (h : evenB rows = true) {r : List ZR} (hr : r ∈ rows) : r.length = colsOf rows := by
  unfold evenB at h
  rw [List.all_eq_true] at h
  exact of_decide_eq_true (h r hr)
theorem Gm.row {K : Nat} {m : MR} (h : Gm K m) {i : Nat} (hi : i < m.2.length) : m.2[i].length = colsOf m.2 := even_row h.ev (List.getElem_mem hi)
theorem Gm.check {K : Nat} {m : MR} (h : Gm K m) : checkE m = 0 := by unfold checkE; rw [if_neg h.ne, if_pos h.ev]
end Go.Mt
