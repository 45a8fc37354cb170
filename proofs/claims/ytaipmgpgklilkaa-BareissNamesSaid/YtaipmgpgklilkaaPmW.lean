/-
  The pure machine, run: what the run says is so.
-/
import Derived.Test.YtaipmgpgklilkaaPmV
set_option linter.unusedSimpArgs false
set_option linter.unusedVariables false
namespace Go.Pm
open Go.RowKit

theorem bT_some {b : Bool} {α : Type} {x : Option α} {y : α} (h : bT b x = some y) : b = true ∧ x = some y := by
  cases b with
  | true => exact ⟨rfl, h⟩
  | false => cases h
theorem oneD_ok : ∀ {x : D}, oneD x = true → x.one
  | .v x, h => by cases x <;> first | trivial | cases h
  | .sl _, _ => trivial
  | .agg _, h => by cases h
theorem oneP_ok : ∀ {p : PV}, oneP p = true → p.one := fun {p} h => by
  cases p with
  | d x => exact oneD_ok h
  | _ => first | trivial | cases h
theorem oneL_ok : ∀ {l : List PV}, oneL l = true → allOne l
  | [], _ => trivial
  | p :: l, h => by
    simp only [oneL, Bool.and_eq_true] at h
    exact ⟨oneP_ok h.1, oneL_ok h.2⟩
theorem lenAll_ok {k : Nat} : ∀ {l : List (List D)}, lenAll k l = true → ∀ e ∈ l, e.length = k
  | [], _, e, he => by cases he
  | x :: l, h, e, he => by
    simp only [lenAll, Bool.and_eq_true, Nat.beq_eq] at h
    rcases List.mem_cons.1 he with rfl | he
    · exact h.1
    · exact lenAll_ok h.2 e he
theorem memN_ok {x : Nat} : ∀ {l : List Nat}, memN x l = true ↔ x ∈ l
  | [] => by simp [memN]
  | y :: l => by simp [memN, memN_ok (l := l)]
theorem memN_no {x : Nat} {l : List Nat} (h : memN x l = false) : ¬ x ∈ l := fun hm => by rw [memN_ok.2 hm] at h; cases h
theorem agg_one {b : Bool} {n : Nat} (h : (b || Nat.beq n 1) = true) : b = false → n = 1 := fun e => by
  subst e
  simpa using h

section
variable {P : Program} {σ : St} {K : Kt}
theorem eLoad_ok {T : Ty} {x p : PV} {rd : List Nat} (h : eLoad T x σ = some (p, rd)) (hK : K σ p [] rd) : loadV T x σ K := by
  unfold eLoad at h
  unfold loadV
  split at h
  · split at h
    · rename_i cs hob
      obtain ⟨hb, h⟩ := bT_some h
      cases h
      simp only [Bool.and_eq_true, Nat.ble_eq] at hb
      exact got_mk hob ⟨⟨hb.1, agg_one hb.2⟩, hK⟩
    · rename_i a hob
      obtain ⟨hb, h⟩ := bT_some h
      split at h
      · rename_i e he
        cases h
        simp only [Bool.and_eq_true, Nat.ble_eq, Nat.beq_eq] at hb
        exact got_mk hob ⟨⟨hb.1.1, hb.1.2, agg_one hb.2⟩, e, he, hK⟩
      · cases h
    · cases h
  · split at h
    · rename_i t hob
      obtain ⟨hb, h⟩ := bT_some h
      split at h
      · rename_i r hr
        split at h
        · rename_i es hes
          cases h
          simp only [Bool.and_eq_true, Nat.beq_eq, Bool.not_eq_true'] at hb
          exact got_mk hob ⟨⟨hb.1.1, hb.1.2, hb.2⟩, r, hr, es, hes, hK⟩
        · cases h
      · cases h
    · cases h
  · split at h
    · rename_i t hob
      obtain ⟨hb, h⟩ := bT_some h
      split at h
      · rename_i es hes
        split at h
        · rename_i e he
          cases h
          simp only [Bool.and_eq_true, Nat.ble_eq] at hb
          exact got_mk hob ⟨⟨hb.1, agg_one hb.2⟩, es, hes, e, he, hK⟩
        · cases h
      · cases h
    · cases h
  · obtain ⟨hb, h⟩ := bT_some h
    cases h
    simp only [Bool.and_eq_true, Nat.ble_eq] at hb
    exact ⟨⟨hb.1, agg_one hb.2⟩, hK⟩
  · obtain ⟨hb, h⟩ := bT_some h
    cases h
    simp only [Bool.and_eq_true, Nat.ble_eq] at hb
    exact ⟨⟨hb.1, agg_one hb.2⟩, hK⟩
  · cases h
theorem eStore_ok {T : Ty} {x y : PV} {U : Heap} {rd : List Nat} (h : eStore T x y σ = some (U, rd)) (hK : K σ .any U rd) : storeV T x y σ K := by
  unfold eStore at h
  unfold storeV
  split at h
  · split at h
    · rename_i cs hob
      obtain ⟨hb, h⟩ := bT_some h
      cases h
      simp only [Bool.and_eq_true, Nat.ble_eq, Nat.beq_eq] at hb
      exact got_mk hob ⟨⟨hb.1.1, hb.1.2, oneL_ok hb.2⟩, hK⟩
    · rename_i a hob
      split at h
      · rename_i ds hds
        obtain ⟨hb, h⟩ := bT_some h
        split at h
        · rename_i e he
          cases h
          simp only [Bool.and_eq_true, Nat.ble_eq, Nat.beq_eq, Bool.not_eq_true'] at hb
          obtain ⟨⟨⟨⟨⟨b1, b2⟩, b3⟩, b4⟩, b5⟩, b6⟩ := hb
          exact got_mk hob (got_mk hds ⟨⟨b1, b2, b3, b4, oneL_ok b5, memN_no b6⟩, e, he, hK⟩)
        · cases h
      · cases h
    · cases h
  · split at h
    · rename_i t hob
      split at h
      · rename_i ds hds
        obtain ⟨hb, h⟩ := bT_some h
        split at h
        · rename_i es hes
          split at h
          · rename_i e he
            cases h
            simp only [Bool.and_eq_true, Nat.ble_eq, Nat.beq_eq, Bool.not_eq_true'] at hb
            obtain ⟨⟨⟨⟨b2, b3⟩, b4⟩, b5⟩, b6⟩ := hb
            exact got_mk hob (got_mk hds ⟨⟨b2, b3, b4, oneL_ok b5, memN_no b6⟩, es, hes, e, he, hK⟩)
          · cases h
        · cases h
      · cases h
    · cases h
  · split at h
    · rename_i t hob
      obtain ⟨hb, h⟩ := bT_some h
      simp only [Bool.and_eq_true, Nat.blt, Nat.ble_eq, Nat.beq_eq, Bool.not_eq_true'] at hb
      obtain ⟨⟨⟨b1, b2⟩, b3⟩, b4⟩ := hb
      refine got_mk hob ⟨⟨b1, b2, b3, b4⟩, ?_⟩
      split at h
      · obtain ⟨hb, h⟩ := bT_some h
        split at h
        · rename_i es hes
          cases h
          exact ⟨by simpa using hb, es, hes, hK⟩
        · cases h
      · split at h
        · rename_i a ha
          obtain ⟨hb, h⟩ := bT_some h
          cases h
          simp only [Bool.and_eq_true, Nat.beq_eq, Bool.not_eq_true'] at hb
          obtain ⟨⟨⟨⟨c1, c2⟩, c3⟩, c4⟩, c5⟩ := hb
          exact got_mk ha ⟨⟨c1, c2, c3, c4, fun e => by subst e; simp at c5⟩, hK⟩
        · cases h
      · cases h
    · cases h
  · cases h
end

/-- the tables are right -/
structure TbOk (P : Program) (W : Tb) : Prop where
  ty : ∀ t T, W.t t = some T → TY P t = some T
  kind : ∀ t k, W.k t = some k → kindOf P t = some k
  isB : ∀ t, (W.isB[t]?).getD false = true → isBool P t = true
  isS : ∀ t, (W.isS[t]?).getD false = true → isStr P t = true
section
variable {P : Program} {W : Tb} (hW : TbOk P W) {σ : St} {K : Kt} {nid : Nat}
include hW
theorem eIdx_ok {T : Ty} {x ix p : PV} {rd : List Nat} (h : eIdx W T x ix σ = some (p, rd)) (hK : K σ p [] rd) : idxV P T x ix σ K := by
  unfold eIdx at h
  unfold idxV
  split at h
  · rename_i k z
    split at h
    · rename_i hslc
      simp only [hslc, if_true]
      split at h
      · rename_i hz
        split at h
        · rename_i E hE
          have hE := hW.ty _ _ hE
          split at h
          · split at h
            · rename_i a hob
              obtain ⟨hb, h⟩ := bT_some h
              cases h
              simp only [Bool.and_eq_true, Nat.blt, Nat.ble_eq, Nat.beq_eq] at hb
              exact got_mk hob (got_mk hE ⟨⟨hb.1.1, hb.1.2, hz, hb.2⟩, hK⟩)
            · cases h
          · split at h
            · rename_i t hob
              obtain ⟨hb, h⟩ := bT_some h
              cases h
              simp only [Bool.and_eq_true, Nat.blt, Nat.ble_eq, Nat.beq_eq] at hb
              exact got_mk hob (got_mk hE ⟨⟨hb.1.1, hb.1.2, hz, hb.2⟩, hK⟩)
            · cases h
          · split at h
            · rename_i t hob
              obtain ⟨hb, h⟩ := bT_some h
              cases h
              simp only [Bool.and_eq_true, Nat.blt, Nat.ble_eq, Nat.beq_eq] at hb
              exact got_mk hob (got_mk hE ⟨⟨hb.1.1, hb.1.2, hz, hb.2⟩, hK⟩)
            · cases h
          · split at h
            · rename_i t hob
              split at h
              · rename_i es hes
                obtain ⟨hb, h⟩ := bT_some h
                cases h
                simp only [Bool.and_eq_true, Nat.blt, Nat.ble_eq, Nat.beq_eq] at hb
                exact got_mk hob (got_mk hE ⟨es, hes, ⟨hb.1, hz, hb.2⟩, hK⟩)
              · cases h
            · cases h
          · split at h
            · rename_i e he
              obtain ⟨hb, h⟩ := bT_some h
              cases h
              exact got_mk hE ⟨hz, e, he, by simpa using hb, hK⟩
            · cases h
          · obtain ⟨hb, h⟩ := bT_some h
            cases h
            simp only [Bool.and_eq_true, Nat.blt, Nat.ble_eq, Nat.beq_eq] at hb
            exact got_mk hE ⟨⟨hb.1, hz, hb.2⟩, hK⟩
          · cases h
        · cases h
      · cases h
    · cases h
  · cases h
theorem eApp_ok {T : Ty} {s x p : PV} {U : Heap} {rd : List Nat} (h : eApp W T s x nid σ = some (p, U, rd)) (hK : K σ p U rd) : appV P T s x nid σ K := by
  unfold eApp at h
  unfold appV
  split at h
  · rename_i E hE
    obtain ⟨hb, h⟩ := bT_some h
    simp only [Bool.and_eq_true, Nat.blt, Nat.ble_eq, Nat.beq_eq] at hb
    refine got_mk (hW.ty _ _ hE) ⟨⟨hb.1.1, hb.1.2, hb.2⟩, ?_⟩
    split at h
    · split at h
      · rename_i ns hns
        obtain ⟨hb, h⟩ := bT_some h
        cases h
        simp only [Bool.and_eq_true, Nat.ble_eq] at hb
        exact got_mk hns ⟨⟨lenAll_ok hb.1.1, hb.1.2, hb.2⟩, hK⟩
      · cases h
    · split at h
      · rename_i a hob
        split at h
        · rename_i ns hns
          obtain ⟨hb, h⟩ := bT_some h
          cases h
          simp only [Bool.and_eq_true, Nat.ble_eq, Nat.beq_eq, Bool.not_eq_true'] at hb
          obtain ⟨⟨⟨⟨⟨⟨c1, c2⟩, c3⟩, c4⟩, c5⟩, c6⟩, c7⟩ := hb
          exact got_mk hob (got_mk hns ⟨⟨lenAll_ok c1, c2, c3, c4, c5, c6, memN_no c7⟩, hK⟩)
        · cases h
      · cases h
    · split at h
      · rename_i t hob
        obtain ⟨hb, h⟩ := bT_some h
        simp only [Bool.and_eq_true, Nat.ble_eq, Nat.beq_eq, Bool.not_eq_true'] at hb
        obtain ⟨⟨⟨⟨⟨c1, c2⟩, c3⟩, c4⟩, c5⟩, c6⟩ := hb
        refine got_mk hob ⟨⟨c1, c2, c3, c4, c5, c6⟩, ?_⟩
        split at h
        · split at h
          · rename_i a ha
            obtain ⟨hb, h⟩ := bT_some h
            cases h
            simp only [Bool.and_eq_true, Nat.beq_eq, Bool.not_eq_true'] at hb
            obtain ⟨⟨⟨⟨d1, d2⟩, d3⟩, d4⟩, d5⟩ := hb
            exact got_mk ha ⟨⟨d1, d2, d3, d4, fun e => by subst e; simp at d5⟩, hK⟩
          · cases h
        · cases h
      · cases h
    · split at h
      · rename_i t hob
        split at h
        · rename_i ns hns
          split at h
          · rename_i es hes
            obtain ⟨hb, h⟩ := bT_some h
            cases h
            simp only [Bool.and_eq_true, Nat.ble_eq, Nat.beq_eq, Bool.not_eq_true'] at hb
            obtain ⟨⟨⟨⟨⟨⟨c1, c2⟩, c3⟩, c4⟩, c5⟩, c6⟩, c7⟩ := hb
            exact got_mk hob (got_mk hns ⟨es, hes, ⟨lenAll_ok c1, c2, c3, c4, c5, c6, by simpa using c7⟩, hK⟩)
          · cases h
        · cases h
      · cases h
    · cases h
  · cases h
theorem eCopy_ok {T : Ty} {d x p : PV} {U : Heap} {rd : List Nat} (h : eCopy W T d x σ = some (p, U, rd)) (hK : K σ p U rd) : copyV P T d x σ K := by
  unfold eCopy at h
  unfold copyV
  split at h
  · rename_i E hE
    obtain ⟨hb, h⟩ := bT_some h
    simp only [Bool.and_eq_true, Nat.beq_eq] at hb
    refine got_mk (hW.ty _ _ hE) ⟨hb, ?_⟩
    split at h
    · split at h
      · rename_i a hob
        split at h
        · rename_i ns hns
          obtain ⟨hb, h⟩ := bT_some h
          cases h
          simp only [Bool.and_eq_true, Nat.beq_eq, Bool.not_eq_true'] at hb
          obtain ⟨⟨⟨⟨c1, c2⟩, c3⟩, c4⟩, c5⟩ := hb
          exact got_mk hob (got_mk hns ⟨⟨lenAll_ok c1, c2, c3, c4, memN_no c5⟩, hK⟩)
        · cases h
      · cases h
    · cases h
  · cases h
theorem eBin_ok {op : BinOp} {t : TypeId} {x y p : PV} {L : St → PV → Prop} (h : eBin W op t x y = some p) (hL : L σ p) : binV P op t x y σ L := by
  have ar : ∀ {k : IntKind} {z : Int}, eArith k z = some p → arith k z σ L := fun {k z} h => by
    unfold eArith at h
    unfold arith
    split at h
    · split at h
      · split at h
        · cases h; exact ⟨⟨by assumption, by assumption⟩, hL⟩
        · cases h
      · cases h
    · cases h
      cases k <;> first | exact hL | contradiction
  unfold eBin at h
  split at h
  · rename_i k a k' b
    split at h
    · split at h
      · cases h; exact ⟨by assumption, hL⟩
      · cases h
    · split at h
      · cases h; exact ⟨by assumption, hL⟩
      · cases h
    · split at h
      · rename_i hk
        split at h
        · exact ⟨hk, ar h⟩
        · exact ⟨hk, ar h⟩
        · exact ⟨hk, ar h⟩
        · split at h
          · cases h
          · exact ⟨⟨hk, by assumption⟩, ar h⟩
        · split at h
          · cases h
          · cases h; exact ⟨⟨hk, by assumption⟩, hL⟩
        all_goals first | (cases h; exact ⟨hk, hL⟩) | cases h
      · cases h
  · split at h
    · rename_i hB
      split at h
      · cases h; exact ⟨hW.isB _ hB, hL⟩
      · cases h; exact ⟨hW.isB _ hB, hL⟩
      · cases h
    · cases h
  · split at h
    · rename_i T hT
      obtain ⟨hb, h⟩ := bT_some h
      have hs : slcT P t = true := by unfold slcT; rw [hW.ty _ _ hT]; exact hb
      split at h
      · cases h; exact ⟨hs, hL⟩
      · cases h; exact ⟨hs, hL⟩
      · cases h
    · cases h
  · cases h
theorem eConv_ok {s d : TypeId} {x p : PV} {L : St → PV → Prop} (h : eConv W s d x = some p) (hL : L σ p) : convV P s d x σ L := by
  unfold eConv at h
  unfold convV
  split at h
  · split at h
    · rename_i k1 k2 e1 e2
      cases h
      exact got_mk (hW.kind _ _ e1) (got_mk (hW.kind _ _ e2) hL)
    · cases h
  · cases h
omit hW in
theorem eUn_ok {op : UnOp} {x p : PV} {L : St → PV → Prop} (h : eUn op x = some p) (hL : L σ p) : unV op x σ L := by
  have ar : ∀ {k : IntKind} {z : Int}, eArith k z = some p → arith k z σ L := fun {k z} h => by
    unfold eArith at h
    unfold arith
    split at h
    · split at h
      · split at h
        · cases h; exact ⟨⟨by assumption, by assumption⟩, hL⟩
        · cases h
      · cases h
    · cases h
      cases k <;> first | exact hL | contradiction
  unfold eUn at h
  unfold unV
  split at h
  · cases h; exact hL
  · exact ar h
  · cases h; exact hL
  · cases h
end

def allP (P : Program) (CP : CPt) : Prop := ∀ g as r, CP g as = some r → PCall P g as r
def allH (P : Program) (CH : CHt) : Prop := ∀ g ps hs n r h', CH g ps hs n = some (r, h') → HCall P g ps hs n r h'

theorem rangeIs_ok : ∀ {l : List Nat} {i : Nat}, rangeIs i l = true → l = List.range' i l.length
  | [], i, _ => rfl
  | x :: l, i, h => by
    simp only [rangeIs, Bool.and_eq_true, Nat.beq_eq] at h
    rw [List.length_cons, List.range'_succ, ← rangeIs_ok h.2, h.1]
theorem range_ok {parts : Array (Nat × Operand)} {len : Nat} (h1 : Nat.beq parts.size len = true) (h2 : rangeIs 0 (parts.toList.map (·.1)) = true) : parts.toList.map (·.1) = List.range len := by
  have h1 : parts.size = len := by simpa using h1
  rw [rangeIs_ok h2, List.length_map, Array.length_toList, h1, List.range_eq_range']
theorem partsOk_ok {k : Nat} : ∀ {l : List PV}, partsOk k l = true → ∀ p ∈ l, (cellsP p).length = k
  | [], _, p, h => by cases h
  | q :: l, h, p, hp => by
    simp only [partsOk, Bool.and_eq_true, Nat.beq_eq] at h
    rcases List.mem_cons.1 hp with rfl | hp
    · exact h.1
    · exact partsOk_ok h.2 p hp
theorem allOne_cells : ∀ {l : List PV}, allOne l → ∀ p ∈ l, cellsP p = [p] ∧ p.one
  | [], _, p, h => by cases h
  | q :: l, h, p, hp => by
    rcases List.mem_cons.1 hp with rfl | hp
    · refine ⟨?_, h.1⟩
      have := h.1
      cases p with
      | d x => cases x <;> first | rfl | exact this.elim
      | _ => first | rfl | exact this.elim
    · exact allOne_cells h.2 p hp

theorem reach_has {h : Heap} : ∀ (f : Nat) (l : List Nat) (acc : Heap), hasH h acc → hasH h (reach h f l acc)
  | 0, l, acc, ha => by cases l <;> exact ha
  | f + 1, [], acc, ha => ha
  | f + 1, id :: l, acc, ha => by
    unfold reach
    split
    · exact reach_has f l acc ha
    · split
      · rename_i cs hob
        exact reach_has f _ _ ⟨hob, ha⟩
      · rename_i hob
        exact reach_has f _ _ ⟨hob, ha⟩
      · exact reach_has f l acc ha

section
variable {P : Program} {W : Tb} (hW : TbOk P W) {CP : CPt} {CH : CHt} (hP : allP P CP) (hH : allH P CH) {σ : St} {K : Kt} {nid : Nat}
include hW
theorem o_buildSlice_ok {t : TypeId} {len : Nat} {parts : Array (Nat × Operand)} {o : Oper} (ho : o.op = .buildSlice t len parts) {p : PV} {U : Heap} {rd : List Nat} (h : o_buildSlice W t len parts nid σ = some (p, U, rd)) (hK : K σ p U rd) : vcOp P o nid σ K := by
  unfold o_buildSlice at h
  unfold vcOp
  simp only [ho]
  split at h
  · rename_i T hT
    split at h
    · rename_i E hE
      refine got_mk (hW.ty _ _ hT) (got_mk (hW.ty _ _ hE) ?_)
      split at h
      · rename_i hlit
        have hlit : litT E = true ∧ 0 < len := by simpa [Nat.blt, Nat.succ_le_iff] using hlit
        rw [if_pos hlit]
        obtain ⟨hb, h⟩ := bT_some h
        cases h
        simp only [Bool.and_eq_true, Nat.ble_eq, Nat.beq_eq] at hb
        obtain ⟨⟨⟨⟨⟨⟨c1, c2⟩, c3⟩, c4⟩, c5⟩, c6⟩, c7⟩ := hb
        exact ⟨⟨c1, range_ok (by simpa using c2) c3, c4, c5, c6, fun q hq => allOne_cells (oneL_ok c7) _ (List.mem_map.2 ⟨q, hq, rfl⟩)⟩, hK⟩
      · rename_i hlit
        have hlit : ¬ (litT E = true ∧ 0 < len) := by simpa [Nat.blt, Nat.succ_le_iff] using hlit
        rw [if_neg hlit]
        split at h
        · rename_i ds hds
          obtain ⟨hb, h⟩ := bT_some h
          cases h
          simp only [Bool.and_eq_true, Nat.ble_eq, Nat.beq_eq, Nat.blt] at hb
          obtain ⟨⟨⟨⟨⟨⟨⟨c1, c2⟩, c3⟩, c4⟩, c5⟩, c6⟩, c7⟩, c8⟩ := hb
          exact got_mk hds ⟨⟨c1, range_ok (by simpa using c2) c3, c4, c5, fun q hq => partsOk_ok c6 _ (List.mem_map.2 ⟨q, hq, rfl⟩), c7, oneL_ok c8⟩, hK⟩
        · cases h
    · cases h
  · cases h
theorem o_slice_ok {t : TypeId} {x : Operand} {lo hi mx : Option Operand} {o : Oper} (ho : o.op = .slice t x lo hi mx) {p : PV} {U : Heap} {rd : List Nat} (h : o_slice W t x lo hi mx nid σ = some (p, U, rd)) (hK : K σ p U rd) : vcOp P o nid σ K := by
  unfold o_slice at h
  unfold vcOp
  simp only [ho]
  split at h
  · rename_i T n hT hn
    split at h
    · rename_i l hh hl hhi
      split at h
      · rename_i m E hm hE
        split at h
        · rename_i hc
          obtain ⟨hb, h⟩ := bT_some h
          simp only [Bool.and_eq_true, Bool.or_eq_true, Bool.not_eq_true'] at hb
          refine got_mk (hW.ty _ _ hT) (got_mk hn (got_mk hl (got_mk hhi (got_mk hm (got_mk (hW.ty _ _ hE) ⟨⟨hb.1, hc.1, hc.2.1, hc.2.2.1, hc.2.2.2, fun e => ?_⟩, ?_⟩)))))
          · rcases hb.2 with h1 | h1
            · rw [h1] at e; cases e
            · exact h1
          · split at h
            · rename_i hx
              obtain ⟨hb2, h⟩ := bT_some h
              cases h
              simp only [hx]
              exact ⟨by simpa using hb2, hK⟩
            · rename_i hne
              split at h
              · rename_i es hes
                obtain ⟨hb2, h⟩ := bT_some h
                cases h
                split
                · rename_i id ver e; exact absurd e (hne id ver)
                · exact got_mk hes ⟨lenAll_ok hb2, hK⟩
              · cases h
        · cases h
      · cases h
    · cases h
  · cases h
theorem o_fieldAddr_ok {t : TypeId} {x : Operand} {f : Nat} {o : Oper} (ho : o.op = .fieldAddr t x f) {p : PV} {U : Heap} {rd : List Nat} (h : o_fieldAddr W t x f nid σ = some (p, U, rd)) (hK : K σ p U rd) : vcOp P o nid σ K := by
  unfold o_fieldAddr at h
  unfold vcOp
  simp only [ho]
  split at h
  · rename_i T hT
    split at h
    · rename_i fo hfo
      split at h
      · rename_i hpos
        simp only [Nat.blt, Nat.ble_eq] at hpos
        refine got_mk (hW.ty _ _ hT) (got_mk hfo ?_)
        show (match ev σ.t x with
          | .pr id ver i off => _
          | .pw id r i off => _
          | .bw cs => _
          | _ => False : Prop)
        generalize ev σ.t x = X at h ⊢
        split at h
        · split at h
          · rename_i cs hob
            cases h
            exact got_mk hob ⟨hpos, hK⟩
          · rename_i a hob
            obtain ⟨hb, h⟩ := bT_some h
            cases h
            simp only [Bool.and_eq_true, Nat.beq_eq, Nat.blt, Nat.ble_eq] at hb
            exact got_mk hob ⟨⟨hpos, hb.1, hb.2⟩, hK⟩
          · cases h
        · split at h
          · rename_i t hob
            split at h
            · rename_i es hes
              obtain ⟨hb, h⟩ := bT_some h
              cases h
              exact got_mk hob ⟨es, hes, ⟨hpos, by simpa [Nat.blt, Nat.succ_le_iff] using hb⟩, hK⟩
            · cases h
          · cases h
        · cases h
          exact ⟨hpos, hK⟩
        · cases h
      · cases h
    · cases h
  · cases h
theorem o_makeSlice_ok {t : TypeId} {l c : Operand} {o : Oper} (ho : o.op = .makeSlice t l c) {p : PV} {U : Heap} {rd : List Nat} (h : o_makeSlice W t l c nid σ = some (p, U, rd)) (hK : K σ p U rd) : vcOp P o nid σ K := by
  unfold o_makeSlice at h
  unfold vcOp
  simp only [ho]
  split at h
  · rename_i hl hc
    simp only [hl, hc]
    split at h
    · rename_i T hT
      split at h
      · rename_i E hE
        split at h
        · rename_i hc
          obtain ⟨hb, h⟩ := bT_some h
          cases h
          simp only [Bool.and_eq_true, Nat.beq_eq, Nat.blt, Nat.ble_eq] at hb
          exact got_mk (hW.ty _ _ hT) (got_mk (hW.ty _ _ hE) ⟨⟨hb.1.1.1, hb.1.1.2, hb.1.2, hc.1, hc.2.1, hc.2.2.1, hc.2.2.2, oneL_ok hb.2⟩, hK⟩)
        · cases h
      · cases h
    · cases h
  · cases h
include hP hH
theorem eCall_ok {c : Call} {p : PV} {U : Heap} {rd : List Nat} (h : eCall W CP CH c nid σ = some (p, U, rd)) (hK : K σ p U rd) : callV P c nid σ K := by
  unfold eCall at h
  unfold callV
  cases hc : c.callee with
  | invoke x y => simp only [hc] at h; cases h
  | value f =>
    simp only [hc] at h ⊢
    split at h
    · rename_i g caps hf
      simp only [hf]
      split at h
      · unfold cHeap at h
        split at h
        · rename_i hr
          cases h
          exact .inr ⟨_, _, _, hH _ _ _ _ _ _ hr, reach_has _ _ [] trivial, hK⟩
        · cases h
      · unfold cPure at h
        split at h
        · rename_i as has
          split at h
          · rename_i r hr
            unfold cPure2 at h
            obtain ⟨hb, h⟩ := bT_some h
            cases h
            exact .inl (got_mk has ⟨r, hP _ _ _ hr, by simpa using hb, hK⟩)
          · cases h
        · cases h
    · cases h
  | builtin b =>
    cases b with
    | len =>
      simp only [hc] at h ⊢
      unfold cLen at h
      split at h
      · rename_i x t hx ht
        split at h
        · rename_i T n hT hn
          obtain ⟨hb, h⟩ := bT_some h
          cases h
          simp only [hx, ht]
          exact got_mk (hW.ty _ _ hT) (got_mk hn ⟨hb, hK⟩)
        · cases h
      · cases h
    | append =>
      simp only [hc] at h ⊢
      unfold cApp at h
      split at h
      · rename_i s x t t' hx ht
        split at h
        · rename_i T hT
          obtain ⟨hb, h⟩ := bT_some h
          simp only [hx, ht]
          exact got_mk (hW.ty _ _ hT) ⟨by simpa using hb, eApp_ok hW h hK⟩
        · cases h
      · cases h
    | copy =>
      simp only [hc] at h ⊢
      unfold cCopy at h
      split at h
      · rename_i s x t t' hx ht
        split at h
        · rename_i T hT
          simp only [hx, ht]
          exact got_mk (hW.ty _ _ hT) (eCopy_ok hW h hK)
        · cases h
      · cases h
    | max =>
      simp only [hc] at h ⊢
      unfold cMax at h
      split at h
      · rename_i m hm
        cases h
        exact got_mk hm hK
      · cases h
    | _ => simp only [hc] at h; cases h
theorem eOp_ok {o : Oper} {p : PV} {U : Heap} {rd : List Nat} (h : eOp W CP CH o nid σ = some (p, U, rd)) (hK : K σ p U rd) : vcOp P o nid σ K := by
  have map1 : ∀ {x : Option PV}, (x.map fun p => (p, ([] : Heap), ([] : List Nat))) = some (p, U, rd) → x = some p ∧ U = [] ∧ rd = [] := fun {x} h => by
    cases x with
    | none => cases h
    | some q => cases h; exact ⟨rfl, rfl, rfl⟩
  have q3' : ∀ {x : Option (PV × List Nat)}, q3 x = some (p, U, rd) → x = some (p, rd) ∧ U = [] := fun {x} h => by
    unfold q3 at h
    split at h
    · cases h; exact ⟨rfl, rfl⟩
    · cases h
  unfold eOp at h
  cases ho : o.op with
  | move x => simp only [ho] at h; cases h; unfold vcOp; simp only [ho]; exact hK
  | assign x => simp only [ho] at h; cases h; unfold vcOp; simp only [ho]; exact hK
  | pick c a b =>
    simp only [ho] at h
    unfold vcOp
    simp only [ho]
    split at h
    · rename_i c hc
      simp only [hc]
      cases h
      cases c with
      | true => exact ⟨fun _ => hK, fun e => by cases e⟩
      | false => exact ⟨fun e => (by cases e), fun _ => hK⟩
    · cases h
  | extract x i =>
    simp only [ho] at h
    unfold vcOp
    simp only [ho]
    split at h
    · rename_i hx
      simp only [hx]
      obtain ⟨hb, h⟩ := bT_some h
      cases h
      exact ⟨by simpa [Nat.blt, Nat.succ_le_iff] using hb, hK⟩
    · cases h
  | alloc t =>
    simp only [ho] at h
    unfold o_alloc at h
    unfold vcOp
    simp only [ho]
    split at h
    · rename_i T hT
      obtain ⟨hb, h⟩ := bT_some h
      cases h
      exact got_mk (hW.ty _ _ hT) ⟨oneL_ok hb, hK⟩
    · cases h
  | box t x =>
    simp only [ho] at h
    unfold vcOp
    simp only [ho]
    obtain ⟨hb, h⟩ := bT_some h
    cases h
    exact ⟨oneL_ok hb, hK⟩
  | build t parts =>
    simp only [ho] at h
    unfold o_build at h
    unfold vcOp
    simp only [ho]
    split at h
    · rename_i T hT
      obtain ⟨hb, h⟩ := bT_some h
      split at h
      · rename_i cs hcs
        cases h
        simp only [Bool.and_eq_true, Bool.not_eq_true'] at hb
        exact got_mk (hW.ty _ _ hT) ⟨⟨hb.1.1, hb.1.2, oneL_ok hb.2⟩, got_mk hcs hK⟩
      · cases h
    · cases h
  | buildSlice t len parts => simp only [ho] at h; exact o_buildSlice_ok hW ho h hK
  | load t x =>
    simp only [ho] at h
    unfold o_load at h
    unfold vcOp
    simp only [ho]
    split at h
    · rename_i T hT
      obtain ⟨h1, rfl⟩ := q3' h
      exact got_mk (hW.ty _ _ hT) (eLoad_ok h1 hK)
    · cases h
  | store t x y =>
    simp only [ho] at h
    unfold o_store at h
    unfold vcOp
    simp only [ho]
    split at h
    · rename_i T hT
      split at h
      · rename_i U' r hr
        cases h
        exact got_mk (hW.ty _ _ hT) (eStore_ok hr hK)
      · cases h
    · cases h
  | binOp op t x y t' =>
    simp only [ho] at h
    unfold vcOp
    simp only [ho]
    obtain ⟨h1, rfl, rfl⟩ := map1 h
    exact eBin_ok hW h1 hK
  | unOp op t x =>
    simp only [ho] at h
    unfold vcOp
    simp only [ho]
    obtain ⟨h1, rfl, rfl⟩ := map1 h
    exact eUn_ok h1 hK
  | convert s d x =>
    simp only [ho] at h
    unfold vcOp
    simp only [ho]
    obtain ⟨h1, rfl, rfl⟩ := map1 h
    exact eConv_ok hW h1 hK
  | nilCheck x =>
    simp only [ho] at h
    unfold o_nilCheck at h
    unfold vcOp
    simp only [ho]
    split at h
    · rename_i hx
      simp only [hx]
      split at h
      · rename_i cs hob
        cases h
        exact got_mk hob hK
      · cases h
    · rename_i hx; simp only [hx]; cases h; exact hK
    · rename_i hx; simp only [hx]; cases h; exact hK
    · rename_i hx; simp only [hx]; cases h; exact hK
    · cases h
  | index t x i =>
    simp only [ho] at h
    unfold o_index at h
    unfold vcOp
    simp only [ho]
    split at h
    · rename_i hx hi
      simp only [hx, hi]
      split at h
      · rename_i hz
        obtain ⟨hb, h⟩ := bT_some h
        split at h
        · rename_i b hb2
          cases h
          exact ⟨⟨hW.isS _ hb, hz⟩, got_mk hb2 hK⟩
        · cases h
      · cases h
    · cases h
  | makeFunc fn first caps =>
    unfold vcOp
    simp only [ho]
    cases fn with
    | func f =>
      simp only [ho] at h
      obtain ⟨hb, h⟩ := bT_some h
      cases h
      exact ⟨by simpa using hb, hK⟩
    | _ => simp only [ho] at h; cases h
  | makeSlice t l c => simp only [ho] at h; exact o_makeSlice_ok hW ho h hK
  | fieldAddr t x f => simp only [ho] at h; exact o_fieldAddr_ok hW ho h hK
  | indexAddr t x ix =>
    simp only [ho] at h
    unfold o_indexAddr at h
    unfold vcOp
    simp only [ho]
    split at h
    · rename_i T hT
      obtain ⟨h1, rfl⟩ := q3' h
      exact got_mk (hW.ty _ _ hT) (eIdx_ok hW h1 hK)
    · cases h
  | slice t x lo hi mx => simp only [ho] at h; exact o_slice_ok hW ho h hK
  | call c =>
    simp only [ho] at h
    unfold vcOp
    simp only [ho]
    exact eCall_ok hW hP hH h hK
  | _ => simp only [ho] at h; cases h
end
end Go.Pm
