/-
  The pure machine, run: facts of calls, each from those it needs.
-/
import Derived.Test.YtpoocfmphcgmkaaQri15
set_option linter.unusedVariables false
set_option linter.unusedSimpArgs false
set_option linter.unusedSimpArgs false
set_option linter.unusedVariables false
namespace Go.Pm
open Go.RowKit
set_option linter.unusedVariables false

theorem eqNs_ok : ∀ {x y : List Nat}, eqN x y = true → x = y
  | [], [], _ => rfl
  | [], _ :: _, h => by cases h
  | _ :: _, [], h => by cases h
  | x :: l, y :: k, h => by
    simp only [eqN, Bool.and_eq_true, Nat.beq_eq] at h
    rw [h.1, eqNs_ok h.2]
theorem eqI_ok {x y : Int} (h : eqI x y = true) : x = y := by
  unfold eqI at h
  split at h
  · rw [eqN_ok h]
  · rw [eqN_ok h]
  · cases h
theorem eqK_ok {x y : IntKind} (h : eqK x y = true) : x = y := by
  unfold eqK at h
  split at h <;> first | rfl | cases h
theorem eqV_ok {x y : Value} (h : eqV x y = true) : x = y := by
  unfold eqV at h
  split at h
  · simp only [Bool.and_eq_true] at h
    rw [eqK_ok h.1, eqI_ok h.2]
  · rename_i a b; cases a <;> cases b <;> first | rfl | cases h
  · rfl
  · cases h
mutual
theorem eqD_ok : ∀ (x y : D), eqD x y = true → x = y
  | .v a, y, h => by
    unfold eqD at h
    split at h
    · rw [eqV_ok h]
    · cases h
  | .sl es, y, h => by
    unfold eqD at h
    split at h
    · rw [eqDss_ok es _ h]
    · cases h
  | .agg cs, y, h => by
    unfold eqD at h
    split at h
    · rw [eqDs_ok cs _ h]
    · cases h
theorem eqDs_ok : ∀ (x y : List D), eqDs x y = true → x = y
  | [], y, h => by
    unfold eqDs at h
    split at h
    · rfl
    · cases h
  | a :: l, y, h => by
    unfold eqDs at h
    split at h
    · simp only [Bool.and_eq_true] at h
      rw [eqD_ok a _ h.1, eqDs_ok l _ h.2]
    · cases h
theorem eqDss_ok : ∀ (x y : List (List D)), eqDss x y = true → x = y
  | [], y, h => by
    unfold eqDss at h
    split at h
    · rfl
    · cases h
  | a :: l, y, h => by
    unfold eqDss at h
    split at h
    · simp only [Bool.and_eq_true] at h
      rw [eqDs_ok a _ h.1, eqDss_ok l _ h.2]
    · cases h
end
mutual
theorem eqP_ok : ∀ (x y : PV), eqP x y = true → x = y
  | .any, y, h => by unfold eqP at h; split at h <;> first | rfl | cases h
  | .nl, y, h => by unfold eqP at h; split at h <;> first | rfl | cases h
  | .yd, y, h => by unfold eqP at h; split at h <;> first | rfl | cases h
  | .d a, y, h => by
    unfold eqP at h
    split at h
    · rw [eqD_ok _ _ h]
    · cases h
  | .bw a, y, h => by
    unfold eqP at h
    split at h
    · rw [eqDs_ok _ _ h]
    · cases h
  | .sr a b, y, h => by
    unfold eqP at h
    split at h
    · simp only [Bool.and_eq_true, Nat.beq_eq] at h; rw [h.1, h.2]
    · cases h
  | .pr a b c d, y, h => by
    unfold eqP at h
    split at h
    · simp only [Bool.and_eq_true, Nat.beq_eq] at h; rw [h.1.1.1, h.1.1.2, h.1.2, h.2]
    · cases h
  | .st a b, y, h => by
    unfold eqP at h
    split at h
    · simp only [Bool.and_eq_true, Nat.beq_eq] at h; rw [h.1, h.2]
    · cases h
  | .tv a b c d, y, h => by
    unfold eqP at h
    split at h
    · simp only [Bool.and_eq_true, Nat.beq_eq] at h; rw [h.1.1.1, h.1.1.2, h.1.2, h.2]
    · cases h
  | .po a b c, y, h => by
    unfold eqP at h
    split at h
    · simp only [Bool.and_eq_true, Nat.beq_eq] at h; rw [h.1.1, h.1.2, h.2]
    · cases h
  | .sw a b, y, h => by
    unfold eqP at h
    split at h
    · simp only [Bool.and_eq_true, Nat.beq_eq] at h; rw [h.1, h.2]
    · cases h
  | .pw a b c d, y, h => by
    unfold eqP at h
    split at h
    · simp only [Bool.and_eq_true, Nat.beq_eq] at h; rw [h.1.1.1, h.1.1.2, h.1.2, h.2]
    · cases h
  | .lt a, y, h => by
    unfold eqP at h
    split at h
    · rw [eqPs_ok _ _ h]
    · cases h
  | .lp a, y, h => by
    unfold eqP at h
    split at h
    · rw [eqPs_ok _ _ h]
    · cases h
  | .agg a, y, h => by
    unfold eqP at h
    split at h
    · rw [eqPs_ok _ _ h]
    · cases h
  | .tup a, y, h => by
    unfold eqP at h
    split at h
    · rw [eqPs_ok _ _ h]
    · cases h
  | .fn f a, y, h => by
    unfold eqP at h
    split at h
    · simp only [Bool.and_eq_true, Nat.beq_eq] at h; rw [h.1, eqPs_ok _ _ h.2]
    · cases h
theorem eqPs_ok : ∀ (x y : List PV), eqPs x y = true → x = y
  | [], y, h => by
    unfold eqPs at h
    split at h
    · rfl
    · cases h
  | a :: l, y, h => by
    unfold eqPs at h
    split at h
    · simp only [Bool.and_eq_true] at h
      rw [eqP_ok a _ h.1, eqPs_ok l _ h.2]
    · cases h
end
theorem eqRows_ok : ∀ (x y : List (Option (List (List D)))), eqRows x y = true → x = y
  | [], y, h => by
    unfold eqRows at h
    split at h
    · rfl
    · cases h
  | a :: l, y, h => by
    unfold eqRows at h
    split at h
    · rename_i b k
      simp only [Bool.and_eq_true] at h
      rw [eqRows_ok l _ h.2]
      have h1 := h.1
      split at h1
      · rfl
      · rw [eqDss_ok _ _ h1]
      · cases h1
    · cases h
theorem eqO_ok {x y : Ob} (h : eqO x y = true) : x = y := by
  unfold eqO at h
  split at h
  · rw [eqPs_ok _ _ h]
  · rename_i a b
    simp only [Bool.and_eq_true, Nat.beq_eq, beq_iff_eq] at h
    obtain ⟨⟨⟨⟨h1, h2⟩, h3⟩, h4⟩, h5⟩ := h
    cases a; cases b
    simp only at h1 h2 h3 h4 h5
    rw [h1, h2, h3, h4, eqDss_ok _ _ h5]
  · rename_i a b
    simp only [Bool.and_eq_true, Nat.beq_eq, beq_iff_eq] at h
    obtain ⟨⟨⟨⟨⟨⟨h1, h2⟩, h3⟩, h4⟩, h5⟩, h6⟩, h7⟩ := h
    cases a; cases b
    simp only at h1 h2 h3 h4 h5 h6 h7
    rw [h1, h2, h3, h4, h5, eqNs_ok h6, eqRows_ok _ _ h7]
  · rfl
  · cases h
theorem eqH_ok : ∀ {x y : Heap}, eqH x y = true → x = y
  | [], [], _ => rfl
  | [], _ :: _, h => by cases h
  | _ :: _, [], h => by cases h
  | (u, x) :: l, (v, y) :: k, h => by
    simp only [eqH, Bool.and_eq_true, Nat.beq_eq] at h
    rw [h.1.1, eqO_ok h.1.2, eqH_ok h.2]
mutual
def eqR1 (x y : R1) : Bool := match x with
  | .d a => (match y with | .d b => eqD a b | _ => false)
  | .so el k es => (match y with | .so el' k' es' => Nat.beq el el' && Nat.beq k k' && eqDss es es' | _ => false)
  | .sto _ _ _ _ => false
end
def eqR1s : List R1 → List R1 → Bool
  | [], [] => true
  | x :: l, y :: k => eqR1 x y && eqR1s l k
  | _, _ => false
def eqR (x y : R) : Bool := match x, y with
  | .one a, .one b => eqR1 a b
  | .tup a, .tup b => eqR1s a b
  | _, _ => false
theorem eqR1_ok {x y : R1} (h : eqR1 x y = true) : x = y := by
  unfold eqR1 at h
  split at h
  · split at h
    · rw [eqD_ok _ _ h]
    · cases h
  · split at h
    · simp only [Bool.and_eq_true, Nat.beq_eq] at h
      rw [h.1.1, h.1.2, eqDss_ok _ _ h.2]
    · cases h
  · cases h
theorem eqR1s_ok : ∀ {x y : List R1}, eqR1s x y = true → x = y
  | [], [], _ => rfl
  | [], _ :: _, h => by cases h
  | _ :: _, [], h => by cases h
  | x :: l, y :: k, h => by
    simp only [eqR1s, Bool.and_eq_true] at h
    rw [eqR1_ok h.1, eqR1s_ok h.2]
theorem eqR_ok {x y : R} (h : eqR x y = true) : x = y := by
  unfold eqR at h
  split at h
  · rw [eqR1_ok h]
  · rw [eqR1s_ok h]
  · cases h

abbrev FP := List (FuncId × List PV × R)
abbrev FH := List (FuncId × List PV × Heap × Nat × PV × Heap)
def allPL (P : Program) : FP → Prop
  | [] => True
  | (g, as, r) :: l => PCall P g as r ∧ allPL P l
def allHL (P : Program) : FH → Prop
  | [] => True
  | (g, ps, hs, n, r, h') :: l => HCall P g ps hs n r h' ∧ allHL P l
section
variable {P : Program}
theorem cn : allPL P [] := trivial
theorem ca {g : FuncId} {as : List PV} {r : R} {l : FP} (h : PCall P g as r) (t : allPL P l) : allPL P ((g, as, r) :: l) := ⟨h, t⟩
theorem hn : allHL P [] := trivial
theorem ha {g : FuncId} {ps : List PV} {hs : Heap} {n : Nat} {r : PV} {h' : Heap} {l : FH} (h : HCall P g ps hs n r h') (t : allHL P l) : allHL P ((g, ps, hs, n, r, h') :: l) := ⟨h, t⟩
theorem tabP_ok : ∀ {l : FP}, allPL P l → allP P (tabP l)
  | [], _, _, _, _, e => by cases e
  | (g', as', r') :: l, h, g, as, r, e => by
    simp only [tabP] at e
    split at e
    · rename_i hc
      simp only [Bool.and_eq_true, Nat.beq_eq] at hc
      cases e
      rw [hc.1, eqPs_ok _ _ hc.2]
      exact h.1
    · exact tabP_ok h.2 g as r e
theorem tabH_ok : ∀ {l : FH}, allHL P l → allH P (tabH l)
  | [], _, _, _, _, _, _, _, e => by cases e
  | (g', ps', hs', n', r', h'') :: l, h, g, ps, hs, n, r, h', e => by
    simp only [tabH] at e
    split at e
    · rename_i hc
      simp only [Bool.and_eq_true, Nat.beq_eq] at hc
      cases e
      rw [hc.1.1.1, hc.1.1.2, eqPs_ok _ _ hc.1.2, eqH_ok hc.2]
      exact h.1
    · exact tabH_ok h.2 g ps hs n r h' e
def chkP (P : Program) (W : Tb) (l : FP) (lh : FH) (f : Nat) (g : FuncId) (as : List PV) (r : R) : Bool := match kCall P W (tabP l) (tabH lh) f g as with
  | some r' => eqR r' r
  | none => false
def chkH (P : Program) (W : Tb) (l : FP) (lh : FH) (f : Nat) (g : FuncId) (ps : List PV) (hs : Heap) (n : Nat) (r : PV) (h' : Heap) : Bool := match kCallH P W (tabP l) (tabH lh) f g ps hs n with
  | some (r', h'') => eqP r' r && eqH h'' h'
  | none => false
variable {W : Tb} (hW : TbOk P W) (hmo : P.follows .mixedOrders = true)
include hW hmo
theorem chkP_ok {l : FP} {lh : FH} (hl : allPL P l) (hh : allHL P lh) {f : Nat} {g : FuncId} {as : List PV} {r : R} (h : chkP P W l lh f g as r = true) : PCall P g as r := by
  unfold chkP at h
  split at h
  · rename_i r' h1
    rw [← eqR_ok h]
    exact kCall_ok hW (tabP_ok hl) (tabH_ok hh) hmo h1
  · cases h
theorem chkH_ok {l : FP} {lh : FH} (hl : allPL P l) (hh : allHL P lh) {f : Nat} {g : FuncId} {ps : List PV} {hs : Heap} {n : Nat} {r : PV} {h' : Heap} (h : chkH P W l lh f g ps hs n r h' = true) : HCall P g ps hs n r h' := by
  unfold chkH at h
  split at h
  · rename_i r' h'' h1
    simp only [Bool.and_eq_true] at h
    rw [← eqP_ok _ _ h.1, ← eqH_ok h.2]
    exact kCallH_ok hW (tabP_ok hl) (tabH_ok hh) hmo h1
  · cases h
end
theorem TbOk.of {P : Program} {n : Nat} {ty : List (Option Ty)} {kd : List (Option IntKind)} {bl st : List Bool} {hs : List Nat} {gh : List (Nat × Nat × Nat × Nat × Nat × Nat)} (h1 : (List.range n).map (TY P) = ty) (h2 : (List.range n).map (kindOf P) = kd) (h3 : (List.range n).map (isBool P) = bl) (h4 : (List.range n).map (isStr P) = st) : TbOk P ⟨ty, kd, bl, st, hs, gh⟩ := by
  subst h1 h2 h3 h4
  have key : ∀ {α : Type} (f : Nat → α) (d : α) (t : Nat), (((List.range n).map f)[t]?).getD d = if t < n then f t else d := fun f d t => by
    rw [List.getElem?_map]
    by_cases ht : t < n
    · rw [List.getElem?_range ht, if_pos ht]; rfl
    · have : (List.range n)[t]? = none := List.getElem?_eq_none (by simpa using ht)
      rw [this, if_neg ht]; rfl
  refine ⟨fun t T h => ?_, fun t k h => ?_, fun t h => ?_, fun t h => ?_⟩
  · simp only [Tb.t, key] at h; split at h
    · exact h
    · cases h
  · simp only [Tb.k, key] at h; split at h
    · exact h
    · cases h
  · simp only [key] at h; split at h
    · exact h
    · cases h
  · simp only [key] at h; split at h
    · exact h
    · cases h
end Go.Pm
