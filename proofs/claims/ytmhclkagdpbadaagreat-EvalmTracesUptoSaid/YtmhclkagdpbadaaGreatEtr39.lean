/-
  A part of the proof.
-/
import Derived.Test.YtmhclkagdpbadaaGreatEtr38
import Derived.Test.YtmhclkagdpbadaaGreatEtr36
set_option linter.unusedVariables false
set_option linter.unusedSimpArgs false
set_option linter.unusedSimpArgs false
set_option linter.unusedVariables false
namespace Go.Mt
open Go Go.Pm Go.Proofs
theorem fit11_p (m : MR) (hd : Rz m.1) (hg : Grw m.2) (hG : checkE m = 0 → Gl m) (hfl : m.2.flatten.length < 549755813888) : PCall Tryz.prog 67 [.d (md m)] (.one (.d (.v (.int .i64 (fitE m))))) := by
  have hc := check11_p m hd hg
  have hs := size11_p m hg
  by_cases h0 : checkE m = 0
  · have hh := height11_p m (hG h0) hfl
    rw [h0] at hc
    have hc' : ¬ (checkE m ≠ 0) := fun h => h h0
    by_cases h1 : m.2.length = 0
    · have e : fitE m = 3 := by unfold fitE; rw [if_neg hc', if_pos (.inl h1)]
      rw [e]
      rw [h1] at hs
      refine pcall_of hmo Tryz.func67 rfl (by kernel_rfl) (by simp [Tryz.ntmps67]) ?_; simp -implicitDefEqProofs [go_sem, Tryz.ntmps67]; (repeat refine And.intro (by first | decide +kernel | omega | kernel_rfl) ?_); (try decide +kernel)
      refine .inl ⟨_, hc, ?_⟩; simp -implicitDefEqProofs [go_sem]; (repeat refine And.intro (by first | decide +kernel | omega | kernel_rfl) ?_); (try decide +kernel)
      refine .inl ⟨_, hs, ?_⟩; simp -implicitDefEqProofs [go_sem]; (repeat refine And.intro (by first | decide +kernel | omega | kernel_rfl) ?_); (try decide +kernel)
    · have h1z : ¬ ((m.2.length : Nat) : Int) = 0 := by omega
      by_cases h2 : m.2.length = colsOf m.2
      · have h2' : ¬ (m.2.length = 0 ∨ m.2.length ≠ colsOf m.2) := by omega
        rw [← h2] at hs
        by_cases h3 : 24 < m.2.length
        · have e : fitE m = 4 := by unfold fitE; rw [if_neg hc', if_neg h2', if_pos (.inl h3)]
          have h3z : (24 : Int) < ((m.2.length : Nat) : Int) := by omega
          rw [e]
          generalize m.2.length = L at *
          refine pcall_of hmo Tryz.func67 rfl (by kernel_rfl) (by simp [Tryz.ntmps67]) ?_; simp -implicitDefEqProofs [go_sem, Tryz.ntmps67]; (repeat refine And.intro (by first | decide +kernel | omega | kernel_rfl) ?_); (try decide +kernel)
          refine .inl ⟨_, hc, ?_⟩; simp -implicitDefEqProofs [go_sem]; (repeat refine And.intro (by first | decide +kernel | omega | kernel_rfl) ?_); (try decide +kernel)
          refine .inl ⟨_, hs, ?_⟩; simp -implicitDefEqProofs [go_sem, h1, h1z, h3, h3z]; (repeat refine And.intro (by first | decide +kernel | omega | kernel_rfl) ?_); (try decide +kernel)
        · have h3z : ¬ (24 : Int) < ((m.2.length : Nat) : Int) := by omega
          by_cases h4 : 4096 < qhs (valM m).flatten
          · have e : fitE m = 4 := by unfold fitE; rw [if_neg hc', if_neg h2', if_pos (.inr h4)]
            have h4z : (4096 : Int) < ((qhs (valM m).flatten : Nat) : Int) := by omega
            rw [e]
            generalize qhs (valM m).flatten = H at *
            generalize m.2.length = L at *
            refine pcall_of hmo Tryz.func67 rfl (by kernel_rfl) (by simp [Tryz.ntmps67]) ?_; simp -implicitDefEqProofs [go_sem, Tryz.ntmps67]; (repeat refine And.intro (by first | decide +kernel | omega | kernel_rfl) ?_); (try decide +kernel)
            refine .inl ⟨_, hc, ?_⟩; simp -implicitDefEqProofs [go_sem]; (repeat refine And.intro (by first | decide +kernel | omega | kernel_rfl) ?_); (try decide +kernel)
            refine .inl ⟨_, hs, ?_⟩; simp -implicitDefEqProofs [go_sem, h1, h1z, h3, h3z]; (repeat refine And.intro (by first | decide +kernel | omega | kernel_rfl) ?_); (try decide +kernel)
            refine .inl ⟨_, hh, ?_⟩; simp -implicitDefEqProofs [go_sem, h4, h4z]; (repeat refine And.intro (by first | decide +kernel | omega | kernel_rfl) ?_); (try decide +kernel)
          · have e : fitE m = 0 := by unfold fitE; rw [if_neg hc', if_neg h2', if_neg (by omega)]
            have h4z : ¬ (4096 : Int) < ((qhs (valM m).flatten : Nat) : Int) := by omega
            rw [e]
            generalize qhs (valM m).flatten = H at *
            generalize m.2.length = L at *
            refine pcall_of hmo Tryz.func67 rfl (by kernel_rfl) (by simp [Tryz.ntmps67]) ?_; simp -implicitDefEqProofs [go_sem, Tryz.ntmps67]; (repeat refine And.intro (by first | decide +kernel | omega | kernel_rfl) ?_); (try decide +kernel)
            refine .inl ⟨_, hc, ?_⟩; simp -implicitDefEqProofs [go_sem]; (repeat refine And.intro (by first | decide +kernel | omega | kernel_rfl) ?_); (try decide +kernel)
            refine .inl ⟨_, hs, ?_⟩; simp -implicitDefEqProofs [go_sem, h1, h1z, h3, h3z]; (repeat refine And.intro (by first | decide +kernel | omega | kernel_rfl) ?_); (try decide +kernel)
            refine .inl ⟨_, hh, ?_⟩; simp -implicitDefEqProofs [go_sem, h4, h4z]; (repeat refine And.intro (by first | decide +kernel | omega | kernel_rfl) ?_); (try decide +kernel)
      · have e : fitE m = 3 := by unfold fitE; rw [if_neg hc', if_pos (.inr h2)]
        have h2z : ¬ ((m.2.length : Nat) : Int) = ((colsOf m.2 : Nat) : Int) := by omega
        rw [e]
        generalize m.2.length = L at *
        refine pcall_of hmo Tryz.func67 rfl (by kernel_rfl) (by simp [Tryz.ntmps67]) ?_; simp -implicitDefEqProofs [go_sem, Tryz.ntmps67]; (repeat refine And.intro (by first | decide +kernel | omega | kernel_rfl) ?_); (try decide +kernel)
        refine .inl ⟨_, hc, ?_⟩; simp -implicitDefEqProofs [go_sem]; (repeat refine And.intro (by first | decide +kernel | omega | kernel_rfl) ?_); (try decide +kernel)
        refine .inl ⟨_, hs, ?_⟩; simp -implicitDefEqProofs [go_sem, h1, h1z, h2, h2z]; (repeat refine And.intro (by first | decide +kernel | omega | kernel_rfl) ?_); (try decide +kernel)
  · have e : fitE m = checkE m := by unfold fitE; rw [if_pos h0]
    rw [e]
    refine pcall_of hmo Tryz.func67 rfl (by kernel_rfl) (by simp [Tryz.ntmps67]) ?_; simp -implicitDefEqProofs [go_sem, Tryz.ntmps67]; (repeat refine And.intro (by first | decide +kernel | omega | kernel_rfl) ?_); (try decide +kernel)
    refine .inl ⟨_, hc, ?_⟩; simp -implicitDefEqProofs [go_sem, h0]; (repeat refine And.intro (by first | decide +kernel | omega | kernel_rfl) ?_); (try decide +kernel)
def Lz (p : ZR) : Prop := p.2.length < 1099511627776
theorem same11_p (a b : MR) (ha : Lz a.1) (hb : Lz b.1) (ha2 : ∀ r ∈ a.2, ∀ z ∈ r, Lz z) (hb2 : ∀ r ∈ b.2, ∀ z ∈ r, Lz z) (hal : ∀ r ∈ a.2, r.length < 1099511627776) (hbl : ∀ r ∈ b.2, r.length < 1099511627776) (han : a.2.length < 1099511627776) (hbn : b.2.length < 1099511627776) :
    PCall Tryz.prog 54 [.d (md a), .d (md b)] (.one (.d (.v (.bool (decide (a = b)))))) := by
  have h1 := same3_p a.1 b.1 ha hb
  by_cases e1 : a.1 = b.1
  · rw [decide_eq_true e1] at h1
    by_cases hl : a.2.length = b.2.length
    · refine pcall_of hmo Tryz.func54 rfl (by kernel_rfl) (by simp [Tryz.ntmps54]) ?_; simp -implicitDefEqProofs [go_sem, Tryz.ntmps54]; (repeat refine And.intro (by first | decide +kernel | omega | kernel_rfl) ?_); (try decide +kernel)
      refine .inl ⟨_, h1, ?_⟩; simp -implicitDefEqProofs [go_sem, hl]; (repeat refine And.intro (by first | decide +kernel | omega | kernel_rfl) ?_); (try decide +kernel)
      refine loop_rule [] (fun (k : Nat) => ⟨40, [(2, .pr 0 0 0 0), (3, .pr 4 0 0 0), (4, .d (.v (.bool false))), (23, intP .i64 (b.2.length : Int)), (24, intP .i64 (k : Int))], [(0, .box (mbx a)), (4, .box (mbx b))], 1000⟩)
        (fun k => k ≤ b.2.length ∧ a.2.take k = b.2.take k) (fun k => b.2.length - k) 0 ⟨Nat.zero_le _, by simp⟩ (by simp) (by simp -implicitDefEqProofs [go_sem]) (fun k ⟨hk, he⟩ => ?_)
      by_cases hkl : k < b.2.length
      · have hkl2 : k < a.2.length := by omega
        have hs := sameAll3_p a.2[k] b.2[k] (ha2 _ (List.getElem_mem _)) (hb2 _ (List.getElem_mem _)) (hal _ (List.getElem_mem _)) (hbl _ (List.getElem_mem _))
        by_cases hx : a.2[k] = b.2[k]
        · have h2 : a.2.take (k + 1) = b.2.take (k + 1) := by
            rw [List.take_add_one, List.take_add_one, he, List.getElem?_eq_getElem hkl, List.getElem?_eq_getElem hkl2, hx]
          rw [decide_eq_true hx] at hs
          simp -implicitDefEqProofs [go_sem, hkl, hkl2]; (repeat refine And.intro (by first | decide +kernel | omega | kernel_rfl) ?_); (try decide +kernel)
          refine .inl ⟨_, hs, ?_⟩; simp -implicitDefEqProofs [go_sem, hkl, hkl2]; (repeat refine And.intro (by first | decide +kernel | omega | kernel_rfl) ?_); (try decide +kernel)
          refine ⟨k + 1, ?_⟩; (repeat' apply And.intro) <;> first | omega | assumption | rfl
        · have hne : ¬ a = b := fun e => hx (by subst e; rfl)
          have e2 : decide (a = b) = false := decide_eq_false hne
          rw [e2]
          rw [decide_eq_false hx] at hs
          simp -implicitDefEqProofs [go_sem, hkl, hkl2]; (repeat refine And.intro (by first | decide +kernel | omega | kernel_rfl) ?_); (try decide +kernel)
          refine .inl ⟨_, hs, ?_⟩; simp -implicitDefEqProofs [go_sem, hkl, hkl2]; (repeat refine And.intro (by first | decide +kernel | omega | kernel_rfl) ?_); (try decide +kernel)
      · obtain rfl : k = b.2.length := by omega
        have e : a.2 = b.2 := by rw [take_all hl, take_all rfl] at he; exact he
        have e2 : decide (a = b) = true := decide_eq_true (Prod.ext e1 e)
        rw [e2]
        simp -implicitDefEqProofs [go_sem]; (repeat refine And.intro (by first | decide +kernel | omega | kernel_rfl) ?_); (try decide +kernel)
    · have hz : ¬ ((a.2.length : Nat) : Int) = ((b.2.length : Nat) : Int) := by omega
      have hne : ¬ a = b := fun e => hl (by rw [e])
      have e2 : decide (a = b) = false := decide_eq_false hne
      rw [e2]
      refine pcall_of hmo Tryz.func54 rfl (by kernel_rfl) (by simp [Tryz.ntmps54]) ?_; simp -implicitDefEqProofs [go_sem, Tryz.ntmps54]; (repeat refine And.intro (by first | decide +kernel | omega | kernel_rfl) ?_); (try decide +kernel)
      refine .inl ⟨_, h1, ?_⟩; simp -implicitDefEqProofs [go_sem, hl, hz]; (repeat refine And.intro (by first | decide +kernel | omega | kernel_rfl) ?_); (try decide +kernel)
  · have hne : ¬ a = b := fun e => e1 (by rw [e])
    have e2 : decide (a = b) = false := decide_eq_false hne
    rw [e2]
    rw [decide_eq_false e1] at h1
    refine pcall_of hmo Tryz.func54 rfl (by kernel_rfl) (by simp [Tryz.ntmps54]) ?_; simp -implicitDefEqProofs [go_sem, Tryz.ntmps54]; (repeat refine And.intro (by first | decide +kernel | omega | kernel_rfl) ?_); (try decide +kernel)
    refine .inl ⟨_, h1, ?_⟩; simp -implicitDefEqProofs [go_sem]; (repeat refine And.intro (by first | decide +kernel | omega | kernel_rfl) ?_); (try decide +kernel)
set_option maxHeartbeats 1000000 in
theorem fill11_t (r c : Nat) (hr : r < 1099511627) (hc : c < 1099511627) : PCall Tryz.prog 112 [.d (.v (.int .i64 (r : Int))), .d (.v (.int .i64 (c : Int)))] (.one (.sto 68 72 4 (tqs (zeroQ r c)))) := by
  have hof := of5_p 0 (by decide) (by decide)
  have hof : PCall Tryz.prog 130 [.d (.v (.int .i64 0))] (.one (.d (qd (nq 0)))) := hof
  obtain ⟨l, hl⟩ : ∃ l : List QR, l = List.replicate c (nq 0) := ⟨_, rfl⟩
  have hll : l.length = c := by rw [hl]; simp
  have hz : ∀ k, k ≤ r → (tqs ((zeroQ r c).take k)).map some = List.replicate k (some (qes l)) := fun k hk => by
    unfold zeroQ tabQ tqs
    rw [← List.map_take, List.map_map, List.map_map]
    refine List.ext_getElem (by simp; omega) fun i h1 h2 => ?_
    simp only [List.getElem_map, List.getElem_take, List.getElem_range, List.getElem_replicate, Function.comp, hl, List.map_map]
    congr 2
    show (List.range c).map (fun _ => nq 0) = _
    rw [List.map_const', List.length_range]
  refine pcall_of hmo Tryz.func112 rfl (by kernel_rfl) (by simp [Tryz.ntmps112]) ?_; simp -implicitDefEqProofs [go_sem, Tryz.ntmps112]; (repeat refine And.intro (by first | decide +kernel | omega | kernel_rfl) ?_); (try decide +kernel)
  refine loop_rule [.tab 5 68 72 4] (fun (i : Nat) => ⟨31, [(0, intP .i64 (r : Int)), (1, intP .i64 (c : Int)), (5, .st 12 i), (6, intP .i64 (i : Int))],
    [(12, .tab ⟨68, 72, 4, i, false, List.range i, List.replicate i (some (qes l))⟩)], 1000⟩)
    (fun i => i ≤ r) (fun i => r - i) 0 (Nat.zero_le _) (by simp) (by simp -implicitDefEqProofs [go_sem]) (fun i hi => ?_)
  by_cases hil : i < r
  · simp -implicitDefEqProofs [go_sem, hil]; (repeat refine And.intro (by first | decide +kernel | omega | kernel_rfl) ?_); (try decide +kernel)
    refine loop_rule [] (fun (k : Nat) => ⟨31, [(0, intP .i64 (r : Int)), (1, intP .i64 (c : Int)), (5, .st 12 i), (6, intP .i64 (i : Int)), (7, .sr 1016 0), (17, intP .i64 (c : Int)), (18, intP .i64 (k : Int))],
      [(1016, .arr ⟨72, 4, 0, false, qfil l k⟩), (12, .tab ⟨68, 72, 4, i, false, List.range i, List.replicate i (some (qes l))⟩)], 2000⟩)
      (fun k => k ≤ c) (fun k => c - k) 0 (Nat.zero_le _) (by simp) (by simp -implicitDefEqProofs [go_sem, qfil, hll]) (fun k hk => ?_)
    have hzl : (qfil l k).length = c := by unfold qfil; rw [← hll, ← qes_len l]; exact fill_len (qes l) _ (by rw [qes_len]; omega)
    by_cases hkl : k < c
    · have hg : (qfil l k)[k]? = some [.v (.bool false), .sl [], .v (.bool false), .sl []] := by unfold qfil; rw [← qes_len l]; exact fill_get (qes l) _ (by rw [qes_len]; omega)
      have hlk : l[k]? = some (nq 0) := by rw [hl]; simp [hkl]
      have hst : (qfil l k).set k (qel (nq 0)) = qfil l (k + 1) := fill_x (qes l) _ _ (qes_len l) (by unfold qes; rw [List.getElem?_map, hlk]; rfl)
      simp -implicitDefEqProofs [go_sem, hkl]; (repeat refine And.intro (by first | decide +kernel | omega | kernel_rfl) ?_); (try decide +kernel)
      generalize (0 : Rat) = Q at *
      refine .inl ⟨_, hof, ?_⟩; simp -implicitDefEqProofs [go_sem, hzl, hg]; (repeat refine And.intro (by first | decide +kernel | omega | kernel_rfl) ?_); (try decide +kernel)
      refine ⟨k + 1, ?_⟩; (repeat' apply And.intro) <;> first | omega | (exact hst) | assumption | rfl
    · obtain rfl : k = c := by omega
      have e : qfil l k = qes l := by unfold qfil; rw [← hll, ← qes_len l]; exact fill_end (qes l) _
      simp -implicitDefEqProofs [go_sem, e]; (repeat refine And.intro (by first | decide +kernel | omega | kernel_rfl) ?_); (try decide +kernel)
      refine ⟨i + 1, ?_⟩; (repeat' apply And.intro) <;> first | omega | (exact List.replicate_succ'.symm) | (exact List.range_succ.symm) | assumption | rfl
  · obtain rfl : i = r := by omega
    have h2 := hz i (Nat.le_refl _)
    rw [take_all (show (zeroQ i c).length = i from length_tabQ _ _ _)] at h2
    rw [← h2]
    simp -implicitDefEqProofs [go_sem]; (repeat refine And.intro (by first | decide +kernel | omega | kernel_rfl) ?_); (try decide +kernel)
    exact ⟨nodup_range _, by have := row_range (tqs (zeroQ i c)); rw [tqs_len, show (zeroQ i c).length = i from length_tabQ _ _ _] at this; exact this⟩
end Go.Mt
