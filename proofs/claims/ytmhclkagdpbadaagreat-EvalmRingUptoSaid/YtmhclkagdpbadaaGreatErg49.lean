/-
  A part of the proof.
-/
import Derived.Test.YtmhclkagdpbadaaGreatErg45
import Derived.Test.YtmhclkagdpbadaaGreatErg48
import Derived.Test.YtmhclkagdpbadaaGreatErg36
set_option linter.unusedVariables false
set_option linter.unusedSimpArgs false
set_option linter.unusedSimpArgs false
set_option linter.unusedVariables false
namespace Go.Mt
open Go Go.Pm Go.Proofs
/-- rows of whole numbers, as they are given -/
def irel (r : List Int) : List D := [.sl (ies r)]
def iws (rows : List (List Int)) : List (List D) := rows.map irel
attribute [go_sem] irel
@[go_sem] theorem iws_len (l : List (List Int)) : (iws l).length = l.length := by simp [iws]
@[go_sem] theorem iws_ge {l : List (List Int)} {i : Nat} (h : i < (iws l).length) : (iws l)[i] = irel (l[i]'(by rw [iws_len] at h; exact h)) := by simp [iws]
/-- the matrix that they say -/
def iM (rows : List (List Int)) : MR := (nrm 1, rows.map fun r => r.map nrm)
set_option maxRecDepth 100000 in
set_option maxHeartbeats 1000000 in
theorem table14_p (rows : List (List Int)) (hb : ∀ r ∈ rows, ∀ z ∈ r, -9223372036854775808 ≤ z ∧ z ≤ 9223372036854775807) (hn : rows.length < 1000000) (hw : ∀ r ∈ rows, r.length < 1000000) :
    PCall Tryz.prog 155 [.d (.sl (iws rows))] (.one (.d (md (iM rows)))) := by
  obtain ⟨R, hR⟩ : ∃ R : List (List ZR), R = rows.map fun r => r.map nrm := ⟨_, rfl⟩
  have hRl : R.length = rows.length := by rw [hR, List.length_map]
  have e : iM rows = (nrm 1, R) := by rw [hR]; rfl
  rw [e]
  refine pcall_of hmo Tryz.func155 rfl (by kernel_rfl) (by simp [Tryz.ntmps155]) ?_; simp -implicitDefEqProofs [go_sem, Tryz.ntmps155]; (repeat refine And.intro (by first | decide +kernel | omega | kernel_rfl) ?_); (try decide +kernel)
  refine .inl ⟨_, of3_1, ?_⟩; simp -implicitDefEqProofs [go_sem]; (repeat refine And.intro (by first | decide +kernel | omega | kernel_rfl) ?_); (try decide +kernel)
  refine loop_rule [.arrB 12 2 30 1] (fun (i : Nat) => ⟨37, [(2, .pr 0 0 0 0), (3, .pr 12 0 0 0), (11, .d (.sl (iws rows))), (12, intP .i64 (rows.length : Int)), (13, intP .i64 (i : Int))],
      [(12, .box [.d (.v (.bool (nrm 1).1)), .d (.sl (les (nrm 1).2)), .sr 32 i]), (32, .arr ⟨30, 1, i, false, rws (R.take i)⟩), (0, .box [.d (.v (.bool false)), .nl, .nl])], 1000⟩)
    (fun i => i ≤ rows.length) (fun i => rows.length - i) 0 (Nat.zero_le _) (by simp) (by simp -implicitDefEqProofs [go_sem, rws]) (fun i hi => ?_)
  by_cases hil : i < rows.length
  · have hrl := hw _ (List.getElem_mem hil)
    have hRi : R[i]'(by omega) = rows[i].map nrm := by subst hR; simp
    have hbi := hb _ (List.getElem_mem hil)
    have hsn := take_snoc (e := [.sl (zes (rows[i].map nrm))]) rel R (k := i) (by omega) (by rw [hRi]; rfl)
    obtain ⟨r, hr⟩ : ∃ r, r = rows[i] := ⟨_, rfl⟩
    rw [← hr] at hrl hbi hsn
    have hr2 : rows[i] = r := hr.symm
    clear hr
    simp -implicitDefEqProofs [go_sem, hil, hr2]; (repeat refine And.intro (by first | decide +kernel | omega | kernel_rfl) ?_); (try decide +kernel)
    refine loop_rule [.arr 6 25 2] (fun (k : Nat) => ⟨37, [(2, .pr 0 0 0 0), (3, .pr 12 0 0 0), (6, .sr 1032 k), (11, .d (.sl (iws rows))), (12, intP .i64 (rows.length : Int)), (13, intP .i64 (i : Int)), (17, .d (.sl (ies r))), (18, intP .i64 (r.length : Int)), (19, intP .i64 (k : Int))],
        [(1032, .arr ⟨25, 2, k, false, zes ((r.map nrm).take k)⟩), (12, .box [.d (.v (.bool (nrm 1).1)), .d (.sl (les (nrm 1).2)), .sr 32 i]), (32, .arr ⟨30, 1, i, false, rws (R.take i)⟩), (0, .box [.d (.v (.bool false)), .nl, .nl])], 2000⟩)
      (fun k => k ≤ r.length) (fun k => r.length - k) 0 (Nat.zero_le _) (by simp) (by simp -implicitDefEqProofs [go_sem, zes]) (fun k hk => ?_)
    by_cases hkl : k < r.length
    · obtain ⟨h1, h2⟩ := hbi _ (List.getElem_mem hkl)
      have hof := of3_p r[k] h1 h2
      have hsk := take_snoc (e := zel (nrm r[k])) zel (r.map nrm) (k := k) (by rw [List.length_map]; exact hkl) (by rw [List.getElem_map])
      simp -implicitDefEqProofs [go_sem, hkl]; (repeat refine And.intro (by first | decide +kernel | omega | kernel_rfl) ?_); (try decide +kernel)
      refine .inl ⟨_, hof, ?_⟩; simp -implicitDefEqProofs [go_sem, hkl]; (repeat refine And.intro (by first | decide +kernel | omega | kernel_rfl) ?_); (try decide +kernel)
      refine ⟨k + 1, ?_⟩; (repeat' apply And.intro) <;> first | omega | (exact hsk) | assumption | rfl
    · obtain rfl : k = r.length := by omega
      rw [take_all (show (r.map nrm).length = r.length by simp)]
      simp -implicitDefEqProofs [go_sem]; (repeat refine And.intro (by first | decide +kernel | omega | kernel_rfl) ?_); (try decide +kernel)
      refine ⟨i + 1, ?_⟩; (repeat' apply And.intro) <;> first | omega | (exact hsn) | assumption | rfl
  · obtain rfl : i = rows.length := by omega
    rw [take_all hRl]
    simp -implicitDefEqProofs [go_sem]; (repeat refine And.intro (by first | decide +kernel | omega | kernel_rfl) ?_); (try decide +kernel)
/-- is it 0, as it is written? -/
def isN (z : ZR) : Bool := decide (z.2.length = 0)
theorem isN_t {z : ZR} (h : z.2.length = 0) : isN z = true := decide_eq_true h
theorem isN_f {z : ZR} (h : z.2.length ≠ 0) : isN z = false := decide_eq_false h
theorem noughts_p (l : List ZR) (hn : l.length < 549755813888) (hl : ∀ z ∈ l, z.2.length < 1099511627776) : PCall Tryz.prog 170 [.d (.sl (zes l))] (.one (.d (.v (.bool (l.all isN))))) := by
  refine pcall_of hmo Tryz.func170 rfl (by kernel_rfl) (by simp [Tryz.ntmps170]) ?_; simp -implicitDefEqProofs [go_sem, Tryz.ntmps170]; (repeat refine And.intro (by first | decide +kernel | omega | kernel_rfl) ?_); (try decide +kernel)
  refine loop_rule [] (fun (k : Nat) => ⟨16, [(2, .d (.v (.bool false))), (5, .d (.sl (zes l))), (6, intP .i64 (l.length : Int)), (7, intP .i64 (k : Int))], [], 1000⟩)
    (fun k => k ≤ l.length ∧ allK isN l k) (fun k => l.length - k) 0 ⟨Nat.zero_le _, allK_zero _ _⟩ (by simp) (by simp -implicitDefEqProofs [go_sem]) (fun k ⟨hk, ha⟩ => ?_)
  by_cases hkl : k < l.length
  · have hlk := hl _ (List.getElem_mem hkl)
    by_cases h0 : l[k].2.length = 0
    · have hz : ¬ (0 : Int) < ((l[k].2.length : Nat) : Int) := by omega
      simp -implicitDefEqProofs [go_sem, hkl, hz, h0]; (repeat refine And.intro (by first | decide +kernel | omega | kernel_rfl) ?_); (try decide +kernel)
      exact ⟨k + 1, ⟨by omega, allK_succ hkl ha (isN_t h0)⟩, by omega, by omega⟩
    · have hz : 0 < l[k].2.length := by omega
      have e : l.all isN = false := by
        rw [List.all_eq_false]; exact ⟨l[k], List.getElem_mem hkl, by rw [isN_f h0]; decide⟩
      rw [e]
      simp -implicitDefEqProofs [go_sem, hkl, hz, h0]; (repeat refine And.intro (by first | decide +kernel | omega | kernel_rfl) ?_); (try decide +kernel)
  · obtain rfl : k = l.length := by omega
    have e : l.all isN = true := allK_all ha
    rw [e]
    simp -implicitDefEqProofs [go_sem]; (repeat refine And.intro (by first | decide +kernel | omega | kernel_rfl) ?_); (try decide +kernel)
/-- are all these rows 0? -/
def isR (r : List ZR) : Bool := r.all isN
set_option maxRecDepth 100000 in
set_option maxHeartbeats 1000000 in
theorem Kills_p (l : List QR) (m : MR) (hl : Ip l) (hm : Im m) :
    PCall Tryz.prog 154 [.d (.sl (qes l)), .d (md m)] (.tup [.d (.v (.bool (if fitsE l m = 0 then (nm (atQ l m)).2.all isR else false))), .d (.v (.int .i64 (fitsE l m)))]) := by
  have ha := At_p l m hl hm
  by_cases h0 : fitsE l m = 0
  · rw [h0, if_pos rfl] at ha ⊢
    have hs := at_sq hl hm h0
    have hg := hs.g.g
    have hz : ∀ r ∈ (nm (atQ l m)).2, ∀ z ∈ r, z.2.length < 1099511627776 := fun r hr z hz => by
      have := (gl_nm hs.g (by decide)).lz r hr z hz; omega
    have hw := hg.nc
    have hn := hg.nr
    generalize nm (atQ l m) = M at *
    obtain ⟨D, rows⟩ := M
    have hz : ∀ r ∈ rows, ∀ z ∈ r, z.2.length < 1099511627776 := hz
    have hw : ∀ r ∈ rows, r.length < 549755813888 := hw
    have hn : rows.length < 549755813888 := hn
    refine pcall_of hmo Tryz.func154 rfl (by kernel_rfl) (by simp [Tryz.ntmps154]) ?_; simp -implicitDefEqProofs [go_sem, Tryz.ntmps154]; (repeat refine And.intro (by first | decide +kernel | omega | kernel_rfl) ?_); (try decide +kernel)
    refine .inl ⟨_, ha, ?_⟩; simp -implicitDefEqProofs [go_sem]; (repeat refine And.intro (by first | decide +kernel | omega | kernel_rfl) ?_); (try decide +kernel)
    refine loop_rule [] (fun (k : Nat) => ⟨30, [(3, .pr 0 0 0 0), (4, .d (.v (.bool false))), (5, intP .i64 0), (20, .d (.sl (rws rows))), (21, intP .i64 (rows.length : Int)), (22, intP .i64 (k : Int))], [], 1000⟩)
      (fun k => k ≤ rows.length ∧ allK isR rows k) (fun k => rows.length - k) 0 ⟨Nat.zero_le _, allK_zero _ _⟩ (by simp) (by simp -implicitDefEqProofs [go_sem]) (fun k ⟨hk, ha⟩ => ?_)
    by_cases hkl : k < rows.length
    · have hno := noughts_p rows[k] (hw _ (List.getElem_mem hkl)) (hz _ (List.getElem_mem hkl))
      cases h1 : rows[k].all isN with
      | true =>
        rw [h1] at hno
        simp -implicitDefEqProofs [go_sem, hkl]; (repeat refine And.intro (by first | decide +kernel | omega | kernel_rfl) ?_); (try decide +kernel)
        refine .inl ⟨_, hno, ?_⟩; simp -implicitDefEqProofs [go_sem, hkl]; (repeat refine And.intro (by first | decide +kernel | omega | kernel_rfl) ?_); (try decide +kernel)
        exact ⟨k + 1, ⟨by omega, allK_succ hkl ha h1⟩, by omega, by omega⟩
      | false =>
        rw [h1] at hno
        have e : rows.all isR = false := by
          rw [List.all_eq_false]; exact ⟨rows[k], List.getElem_mem hkl, by unfold isR; rw [h1]; decide⟩
        rw [e]
        simp -implicitDefEqProofs [go_sem, hkl]; (repeat refine And.intro (by first | decide +kernel | omega | kernel_rfl) ?_); (try decide +kernel)
        refine .inl ⟨_, hno, ?_⟩; simp -implicitDefEqProofs [go_sem, hkl]; (repeat refine And.intro (by first | decide +kernel | omega | kernel_rfl) ?_); (try decide +kernel)
    · obtain rfl : k = rows.length := by omega
      have e : rows.all isR = true := allK_all ha
      rw [e]
      simp -implicitDefEqProofs [go_sem]; (repeat refine And.intro (by first | decide +kernel | omega | kernel_rfl) ?_); (try decide +kernel)
  · rw [if_neg h0] at ha ⊢
    generalize fitsE l m = E at *
    refine pcall_of hmo Tryz.func154 rfl (by kernel_rfl) (by simp [Tryz.ntmps154]) ?_; simp -implicitDefEqProofs [go_sem, Tryz.ntmps154]; (repeat refine And.intro (by first | decide +kernel | omega | kernel_rfl) ?_); (try decide +kernel)
    refine .inl ⟨_, ha, ?_⟩; simp -implicitDefEqProofs [go_sem, h0]; (repeat refine And.intro (by first | decide +kernel | omega | kernel_rfl) ?_); (try decide +kernel)
theorem poly14_d (c : List Int) (hc : ∀ z ∈ c, -9223372036854775808 ≤ z ∧ z ≤ 9223372036854775807) (hn : c.length < 549755813888) :
    PCall Tryz.prog 75 [.d (.sl (ies c))] (.one (.d (.sl (qes (c.map fun z : Int => nq (z : Rat)))))) := (poly14_p c hc hn).so_d
def awP : List QR := [nq (-1), nq 0, nq 1]
def awM : MR := iM [[0, 1], [1, 0]]
def awA : MR := iM [[0, 1], [0, 0]]
def awB : MR := iM [[0, 0], [1, 0]]
def awC : MR := iM [[1, 0], [0, -1]]
theorem flat_w {α : Type} {V : List (List α)} {w : Nat} (h : ∀ r ∈ V, r.length ≤ w) : V.flatten.length ≤ V.length * w := by
  induction V with
  | nil => simp
  | cons r V ih =>
    have h1 := h r List.mem_cons_self
    have h2 := ih fun x hx => h x (List.mem_cons_of_mem _ hx)
    rw [List.flatten_cons, List.length_append, List.length_cons, Nat.succ_mul]
    omega
theorem iM_im (rows : List (List Int)) (hb : ∀ r ∈ rows, ∀ z ∈ r, zl z < 1000) (hn : rows.length < 1000) (hw : ∀ r ∈ rows, r.length < 1000) : Im (iM rows) := by
  have hz : ∀ r ∈ (iM rows).2, ∀ z ∈ r, Rz z ∧ z.2.length < 1048577 := fun r hr z hz => by
    obtain ⟨r0, h1, rfl⟩ := List.mem_map.1 hr
    obtain ⟨x, h2, rfl⟩ := List.mem_map.1 hz
    have := hb r0 h1 x h2
    exact ⟨rz (by omega), by rw [rz_len]; omega⟩
  have hw2 : ∀ r ∈ (iM rows).2, r.length ≤ 1000 := fun r hr => by
    obtain ⟨r0, h1, rfl⟩ := List.mem_map.1 hr
    have := hw r0 h1
    rw [List.length_map]; omega
  have hn2 : (iM rows).2.length = rows.length := by show (rows.map _).length = _; rw [List.length_map]
  have hfl := flat_w hw2
  refine ⟨rz (by decide), by show (nrm 1).2.length < _; rw [rz_len]; decide, hz, by omega, fun r hr => by have := hw2 r hr; omega, ?_⟩
  have : (iM rows).2.length * 1000 ≤ 1000 * 1000 := Nat.mul_le_mul_right _ (by omega)
  omega
theorem aw_p : Ip awP := ⟨fun x hx => by
  have h : ∀ q : Rat, ql q < 1000 → Rq (nq q) ∧ (nq q).1.2.length < 1048577 ∧ (nq q).2.2.length < 1048577 := fun q hq => by
    have := ql_num q
    have := ql_den q
    exact ⟨(Lq.n (by omega)).rq, by show (nrm _).2.length < _; rw [rz_len]; omega, by show (nrm _).2.length < _; rw [rz_len]; omega⟩
  simp only [awP, List.mem_cons, List.not_mem_nil, or_false] at hx
  rcases hx with rfl | rfl | rfl
  · exact h _ (by decide +kernel)
  · exact h _ (by decide +kernel)
  · exact h _ (by decide +kernel), by decide⟩
theorem aw_e : fitsE awP awM = 0 := by decide +kernel
theorem aw_k : (nm (atQ awP awM)).2.all isR = true := by decide +kernel
theorem aw_b : brE awA awB = 0 := by decide +kernel
theorem aw_c : nm (bracketQ (valM awA) (valM awB) awA.2.length) = awC := by decide +kernel
theorem aw_im : Im awM ∧ Im awA ∧ Im awB := ⟨iM_im _ (by decide +kernel) (by decide) (by decide), iM_im _ (by decide +kernel) (by decide) (by decide), iM_im _ (by decide +kernel) (by decide) (by decide)⟩
set_option maxRecDepth 100000 in
set_option maxHeartbeats 1000000 in
theorem awake14_p : PCall Tryz.prog 69 [] (.one (.d (.v (.bool true)))) := by
  obtain ⟨i1, i2, i3⟩ := aw_im
  have hp := poly14_d [-1, 0, 1] (by decide) (by decide)
  have t1 := table14_p [[0, 1], [1, 0]] (by decide) (by decide) (by decide)
  have t2 := table14_p [[0, 1], [0, 0]] (by decide) (by decide) (by decide)
  have t3 := table14_p [[0, 0], [1, 0]] (by decide) (by decide) (by decide)
  have t4 := table14_p [[1, 0], [0, -1]] (by decide) (by decide) (by decide)
  have hk := Kills_p awP awM aw_p i1
  rw [aw_e, aw_k] at hk
  have hb := bracket_x awA awB i2.d i2.g i2.gm (by have := i2.vfl; omega) i3.d i3.g i3.gm (by have := i3.vfl; omega) (by decide)
  rw [aw_b, if_pos rfl, aw_c] at hb
  have i4 : Im awC := iM_im _ (by decide +kernel) (by decide) (by decide)
  have hd : Lz awC.1 := by have := i4.ld; unfold Lz; omega
  have hz : ∀ r ∈ awC.2, ∀ z ∈ r, Lz z := fun r hr z hz => by have := (i4.z r hr z hz).2; unfold Lz; omega
  have hs := same11_p awC awC hd hd hz hz (by decide +kernel) (by decide +kernel) (by decide) (by decide)
  rw [decide_eq_true rfl] at hs
  have hn := num14_p 0
  refine pcall_of hmo Tryz.func69 rfl (by kernel_rfl) (by simp [Tryz.ntmps69]) ?_; simp -implicitDefEqProofs [go_sem, Tryz.ntmps69]; (repeat refine And.intro (by first | decide +kernel | omega | kernel_rfl) ?_); (try decide +kernel)
  refine .inl ⟨_, hp, ?_⟩; simp -implicitDefEqProofs [go_sem]; (repeat refine And.intro (by first | decide +kernel | omega | kernel_rfl) ?_); (try decide +kernel)
  refine .inl ⟨_, t1, ?_⟩; simp -implicitDefEqProofs [go_sem]; (repeat refine And.intro (by first | decide +kernel | omega | kernel_rfl) ?_); (try decide +kernel)
  refine .inl ⟨_, hk, ?_⟩; simp -implicitDefEqProofs [go_sem]; (repeat refine And.intro (by first | decide +kernel | omega | kernel_rfl) ?_); (try decide +kernel)
  refine .inl ⟨_, t2, ?_⟩; simp -implicitDefEqProofs [go_sem]; (repeat refine And.intro (by first | decide +kernel | omega | kernel_rfl) ?_); (try decide +kernel)
  refine .inl ⟨_, t3, ?_⟩; simp -implicitDefEqProofs [go_sem]; (repeat refine And.intro (by first | decide +kernel | omega | kernel_rfl) ?_); (try decide +kernel)
  refine .inl ⟨_, hb, ?_⟩; simp -implicitDefEqProofs [go_sem]; (repeat refine And.intro (by first | decide +kernel | omega | kernel_rfl) ?_); (try decide +kernel)
  refine .inl ⟨_, hn, ?_⟩; simp -implicitDefEqProofs [go_sem]; (repeat refine And.intro (by first | decide +kernel | omega | kernel_rfl) ?_); (try decide +kernel)
  refine .inl ⟨_, hn, ?_⟩; simp -implicitDefEqProofs [go_sem]; (repeat refine And.intro (by first | decide +kernel | omega | kernel_rfl) ?_); (try decide +kernel)
  refine .inl ⟨_, t4, ?_⟩; simp -implicitDefEqProofs [go_sem]; (repeat refine And.intro (by first | decide +kernel | omega | kernel_rfl) ?_); (try decide +kernel)
  refine .inl ⟨_, hs, ?_⟩; simp -implicitDefEqProofs [go_sem]; (repeat refine And.intro (by first | decide +kernel | omega | kernel_rfl) ?_); (try decide +kernel)
end Go.Mt
