/-
  The pure machine, part 10: calls.
-/
import Derived.Test.YtmhclkagdpbadaaGreatCtr5
set_option linter.unusedVariables false
set_option linter.unusedSimpArgs false
set_option linter.unusedSimpArgs false
set_option linter.unusedVariables false
namespace Go.Pm
open Go.RowKit

section
variable {P : Program} {E : Env} {loc : Locs} {kn : Nat → Prop} {w : World} {a : Act} {σ : St} {nid : Nat} {K : Kt} {o : Oper}

theorem upd_append (A B : Heap) (g : Nat → Option Ob) : upd (A ++ B) g = upd A (upd B g) := by
  induction A with
  | nil => rfl
  | cons x A ih => rw [List.cons_append, upd_cons, upd_cons x A, ih]

theorem ArrAt.leD {C C' : Cx} (hC : C.leD C') {a : Arr} {l : Lc} (hb : ∀ b, l.has b → C'.w.heap[b]? = C.w.heap[b]?) (h : ArrAt C a l) : ArrAt C' a l := by
  cases l with
  | no => exact h
  | tb lo rl => exact h
  | pl b cap =>
    obtain ⟨c, h1, h2, h3, h4, h5, h6⟩ := h
    refine ⟨c, (hb b rfl).trans h1, h2, h3, h4, h5, fun i j e d hi hj => ?_⟩
    obtain ⟨u, h7, h8, h9⟩ := h6 i j e d hi hj
    exact ⟨u, h7, h8, h9.leD hC⟩

theorem TabAt.leD {C C' : Cx} (hC : C.leD C') {T : Tab} {l : Lc} (hb : ∀ b, l.has b → C'.w.heap[b]? = C.w.heap[b]?) (h : TabAt C T l) : TabAt C' T l := by
  cases l with
  | no => exact h
  | pl b cap => exact h
  | tb lo rl => exact ⟨h.pos, h.out.le (fun b hl => hb b (.inl hl)), fun r es he => (h.row r es he).leD hC (fun b hl => hb b (.inr ⟨r, hl⟩)), h.gone, h.sep, h.off, h.idx⟩

/-- which objects come of an answer -/
theorem adoptL_get : ∀ (rs : List R1) (nid : Nat) (g : Nat → Option Ob) (x : Nat), upd (adoptL nid rs).2 g x = (if nid ≤ x then match (rs[x - nid]?).bind R1.ob with
    | some ob => some ob
    | none => g x else g x)
  | [], nid, g, x => by simp [adoptL, upd]
  | r :: rs, nid, g, x => by
    simp only [adoptL]
    rw [upd_append]
    have ih := adoptL_get rs (nid + 1) g x
    by_cases hx : x = nid
    · subst hx
      rw [if_pos (Nat.le_refl _), Nat.sub_self, List.getElem?_cons_zero]
      cases r with
      | d y => simp only [adopt1, upd]; rw [ih, if_neg (by omega)]; rfl
      | so el k es => simp only [adopt1, upd, if_true]; rfl
      | sto el rel k rows => simp only [adopt1, upd, if_true]; rfl
    · have h1 : upd (adopt1 nid r).2 (upd (adoptL (nid + 1) rs).2 g) x = upd (adoptL (nid + 1) rs).2 g x := by
        cases r with
        | d y => rfl
        | so el k es => simp only [adopt1, upd, if_neg (Ne.symm hx)]
        | sto el rel k rows => simp only [adopt1, upd, if_neg (Ne.symm hx)]
      rw [h1, ih]
      by_cases hlt : nid ≤ x
      · rw [if_pos (by omega), if_pos hlt, show x - nid = (x - (nid + 1)) + 1 by omega, List.getElem?_cons_succ]
      · rw [if_neg (by omega), if_neg hlt]
theorem adoptL_val : ∀ (rs : List R1) (nid : Nat), (adoptL nid rs).1.length = rs.length ∧ ∀ (j : Nat) (p : PV), (adoptL nid rs).1[j]? = some p → ∃ r, rs[j]? = some r ∧ p = (adopt1 (nid + j) r).1
  | [], nid => ⟨rfl, fun j p h => by cases h⟩
  | r :: rs, nid => by
    obtain ⟨h1, h2⟩ := adoptL_val rs (nid + 1)
    refine ⟨by simp [adoptL, h1], fun j p hj => ?_⟩
    cases j with
    | zero => simp only [adoptL, List.getElem?_cons_zero, Option.some.injEq] at hj; exact ⟨r, rfl, by rw [← hj]; rfl⟩
    | succ j =>
      simp only [adoptL, List.getElem?_cons_succ] at hj
      obtain ⟨r', h3, h4⟩ := h2 j p hj
      exact ⟨r', by simpa using h3, by rw [h4]; congr 2; omega⟩

theorem RAll_get {C : Cx} : ∀ {ls : List Lc} {rs : List R1} {vs : List Value}, RAll C ls rs vs → ls.length = rs.length ∧ vs.length = rs.length ∧ ∀ (j : Nat) (l : Lc) (r : R1) (v : Value), ls[j]? = some l → rs[j]? = some r → vs[j]? = some v → R1At C l r v
  | [], [], [], _ => ⟨rfl, rfl, fun j l r v h => by cases h⟩
  | l :: ls, r :: rs, v :: vs, h => by
    obtain ⟨h1, h2, h3⟩ := RAll_get h.2
    refine ⟨by simp [h1], by simp [h2], fun j l' r' v' a b c => ?_⟩
    cases j with
    | zero => cases a; cases b; cases c; exact h.1
    | succ j => exact h3 j l' r' v' a b c
  | [], r :: rs, _, h => by cases h
  | [], [], v :: vs, h => by cases h
  | l :: ls, [], _, h => by cases h
  | l :: ls, r :: rs, [], h => by cases h
theorem lcSep_get : ∀ {ls : List Lc}, lcSep ls → ∀ (i j : Nat) (l l' : Lc) (b : Nat), ls[i]? = some l → ls[j]? = some l' → l.has b → l'.has b → i = j
  | [], _, i, j, l, l', b, h, _, _, _ => by cases h
  | x :: ls, h, i, j, l, l', b, hi, hj, h1, h2 => by
    cases i with
    | zero =>
      cases j with
      | zero => rfl
      | succ j => cases hi; exact absurd h2 (h.1 b h1 l' (List.mem_of_getElem? hj))
    | succ i =>
      cases j with
      | zero => cases hj; exact absurd h1 (h.1 b h2 l (List.mem_of_getElem? hi))
      | succ j => rw [lcSep_get h.2 i j l l' b hi hj h1 h2]

/-- the answers of a call become objects -/
theorem Tr.adopt {hg : Nat → Option Ob} (hm : MC E hg loc kn w) {w' : World} (hE : Below w.heap.size w w') {rs : List R1} (hn : ∀ j, j < rs.length → ¬ kn (nid + j)) {ls : List Lc} {vs : List Value}
    (hr : RAll ⟨w', owl ls, fun b o => owns hg loc b o ∨ E.am b o, none⟩ ls rs vs) (hsep : lcSep ls) (hfr : ∀ l ∈ ls, ∀ b, l.has b → w.heap.size ≤ b ∧ b < w'.heap.size) :
    ∃ loc' kn', Tr E hg loc kn w (upd (adoptL nid rs).2 hg) loc' kn' w' ∧ (∀ x, kn' x → kn x ∨ (nid ≤ x ∧ x < nid + rs.length)) ∧
      ∀ (j : Nat) (p : PV) (v : Value), (adoptL nid rs).1[j]? = some p → vs[j]? = some v → PRep (cxOf E (upd (adoptL nid rs).2 hg) loc' w') (upd (adoptL nid rs).2 hg) loc' kn' p v := by
  obtain ⟨hl1, hl2, hget⟩ := RAll_get hr
  have hw0 : E.w0.heap.size ≤ w.heap.size := hm.ext.size
  let L : Locs := fun x => if nid ≤ x ∧ x < nid + rs.length then (ls[x - nid]?).getD .no else loc x
  let G := upd (adoptL nid rs).2 hg
  have hLin : ∀ x l, nid ≤ x → ls[x - nid]? = some l → L x = l := fun x l h1 h2 => by
    have : x - nid < ls.length := (List.getElem?_eq_some_iff.1 h2).1
    show (if _ then _ else _) = _
    rw [if_pos ⟨h1, by omega⟩, h2]; rfl
  have hLout : ∀ x, ¬ (nid ≤ x ∧ x < nid + rs.length) → L x = loc x := fun x h => if_neg h
  have hnone : ∀ x, nid ≤ x → x < nid + rs.length → hg x = none := fun x h1 h2 => by
    cases e : hg x with
    | none => rfl
    | some ob =>
      have := (hm.objs x ob e).1
      rw [show x = nid + (x - nid) by omega] at this
      exact absurd this (hn _ (by omega))
  -- an object is new or old
  have hG : ∀ x ob, G x = some ob → (∃ r l v, nid ≤ x ∧ rs[x - nid]? = some r ∧ r.ob = some ob ∧ ls[x - nid]? = some l ∧ vs[x - nid]? = some v ∧ L x = l) ∨ (hg x = some ob ∧ ¬ (nid ≤ x ∧ x < nid + rs.length)) := fun x ob h => by
    have h0 := adoptL_get rs nid hg x
    rw [show upd (adoptL nid rs).2 hg x = some ob from h] at h0
    by_cases hx : nid ≤ x
    · rw [if_pos hx] at h0
      by_cases hlt : x < nid + rs.length
      · have hr1 : x - nid < rs.length := by omega
        rw [List.getElem?_eq_getElem hr1, Option.bind_some] at h0
        cases hro : (rs[x - nid]).ob with
        | none => rw [hro] at h0; simp only at h0; rw [hnone x hx hlt] at h0; cases h0
        | some ob' =>
          rw [hro] at h0
          simp only [Option.some.injEq] at h0
          subst h0
          have hl : ls[x - nid]? = some ls[x - nid] := List.getElem?_eq_getElem (by omega)
          exact .inl ⟨rs[x - nid], ls[x - nid], vs[x - nid], hx, List.getElem?_eq_getElem hr1, hro, hl, List.getElem?_eq_getElem (by omega), hLin x _ hx hl⟩
      · rw [List.getElem?_eq_none (by omega)] at h0
        exact .inr ⟨h0.symm, by omega⟩
    · rw [if_neg hx] at h0
      exact .inr ⟨h0.symm, by omega⟩
  have hGold : ∀ x, ¬ (nid ≤ x ∧ x < nid + rs.length) → G x = hg x := fun x h => by
    have h0 := adoptL_get rs nid hg x
    by_cases hx : nid ≤ x
    · rw [if_pos hx, List.getElem?_eq_none (by omega)] at h0
      exact h0
    · rw [if_neg hx] at h0
      exact h0
  have hown : ∀ b o, owns G L b o → owl ls b o ∨ owns hg loc b o := fun b o ⟨x, ob, h1, h2, h3⟩ => by
    rcases hG x ob h1 with ⟨_, l, v, _, _, _, h4, _, h5⟩ | ⟨h4, h5⟩
    · rw [h5] at h2
      exact .inl ⟨l, List.mem_of_getElem? h4, h2⟩
    · rw [hLout x h5] at h2
      exact .inr ⟨x, ob, h4, h2, h3⟩
  have hC : Cx.le (cxOf E hg loc w) (cxOf E G L w') := ⟨fun b o v h1 _ => cell_old h1 (hE.block b (cell_lt h1)), fun b o v h1 h2 h3 => by
      rcases hown b o h3 with ⟨l, h4, h5⟩ | h4
      · have g1 := (hfr l h4 b h5).1
        have g2 : b < w.heap.size := cell_lt h1
        omega
      · exact h2 h4, fun _ _ _ _ _ h => h, rfl⟩
  have hD : Cx.leD ⟨w', owl ls, fun b o => owns hg loc b o ∨ E.am b o, none⟩ (cxOf E G L w') := fun b o v h1 h2 h3 => ⟨h1, fun h4 => by
      rcases hown b o h4 with h5 | h5
      · exact h2 h5
      · exact h3 (.inl h5), fun h4 => h3 (.inr h4)⟩
  have hkout : ∀ x, kn x → ¬ (nid ≤ x ∧ x < nid + rs.length) := fun x hk ⟨h1, h2⟩ => hn (x - nid) (by omega) (by rw [show nid + (x - nid) = x by omega]; exact hk)
  have hR : RefLe hg G loc L kn := ⟨fun x cs hk hx => by rw [hGold x (hkout x hk)] at hx; exact ⟨⟨_, hx⟩, hLout x (hkout x hk)⟩, fun x ar hk hx => by
      rw [hGold x (hkout x hk)] at hx; exact ⟨ar, hx, fun _ => ⟨rfl, rfl, hLout x (hkout x hk)⟩, Nat.le_refl _⟩, fun x T hk hx => by
      rw [hGold x (hkout x hk)] at hx
      refine ⟨T, hx, ?_⟩
      rw [hLout x (hkout x hk)]
      exact .refl _ _⟩
  refine ⟨L, fun x => kn x ∨ (nid ≤ x ∧ x < nid + rs.length), ⟨⟨hm.ext.trans (hE.mono hw0), fun b o ha => Nat.lt_of_lt_of_le (hm.amlt b o ha) hE.size, fun x ob hx => ?_, fun x y b hx hy hbx hby => ?_, fun x b hx hb => ?_, fun x b o hx hb ha => ?_⟩, hC, hR, fun _ h => .inl h, hE.size, fun b hb _ => hE.block b hb, fun x b hx hb => ?_⟩, fun _ h => h, fun j p v hp hv => ?_⟩
  · rcases hG x ob hx with ⟨r, l, v, h1, h2, hro, h4, h5, h6⟩ | ⟨h1, h2⟩
    · refine ⟨.inr ⟨h1, by have := (List.getElem?_eq_some_iff.1 h2).1; omega⟩, ?_⟩
      have hr1 := hget _ _ _ _ h4 h2 h5
      rw [h6]
      cases r with
      | d y => cases hro
      | so el k es => cases hro; exact ⟨hr1.1, hr1.2.1.leD hD (fun _ _ => rfl)⟩
      | sto el rel k rows => cases hro; exact TabAt.leD hD (fun _ _ => rfl) hr1.1
    · obtain ⟨g1, g2⟩ := hm.objs x ob h1
      refine ⟨.inl g1, ?_⟩
      rw [hLout x h2]
      exact g2.le hC hR (fun _ h => .inl h) (fun b hb => hE.block b (hm.fresh x b (by simp [h1]) hb).2)
  · obtain ⟨ox, hox⟩ := Option.ne_none_iff_exists'.1 hx
    obtain ⟨oy, hoy⟩ := Option.ne_none_iff_exists'.1 hy
    rcases hG x ox hox with ⟨_, l, _, h1, h2, _, h4, _, h6⟩ | ⟨h1, h2⟩ <;> rcases hG y oy hoy with ⟨_, l', _, k1, k2, _, k4, _, k6⟩ | ⟨k1, k2⟩
    · rw [h6] at hbx
      rw [k6] at hby
      have := lcSep_get hsep _ _ _ _ b h4 k4 hbx hby
      omega
    · rw [h6] at hbx
      rw [hLout y k2] at hby
      have g1 := (hfr l (List.mem_of_getElem? h4) b hbx).1
      have g2 := (hm.fresh y b (by simp [k1]) hby).2
      omega
    · rw [k6] at hby
      rw [hLout x h2] at hbx
      have g1 := (hfr l' (List.mem_of_getElem? k4) b hby).1
      have g2 := (hm.fresh x b (by simp [h1]) hbx).2
      omega
    · rw [hLout x h2] at hbx
      rw [hLout y k2] at hby
      exact hm.sep x y b (by simp [h1]) (by simp [k1]) hbx hby
  · obtain ⟨ox, hox⟩ := Option.ne_none_iff_exists'.1 hx
    rcases hG x ox hox with ⟨_, l, _, h1, h2, _, h4, _, h6⟩ | ⟨h1, h2⟩
    · rw [h6] at hb
      obtain ⟨g1, g2⟩ := hfr l (List.mem_of_getElem? h4) b hb
      exact ⟨by omega, g2⟩
    · rw [hLout x h2] at hb
      obtain ⟨g1, g2⟩ := hm.fresh x b (by simp [h1]) hb
      exact ⟨g1, Nat.lt_of_lt_of_le g2 hE.size⟩
  · obtain ⟨ox, hox⟩ := Option.ne_none_iff_exists'.1 hx
    rcases hG x ox hox with ⟨_, l, _, h1, h2, _, h4, _, h6⟩ | ⟨h1, h2⟩
    · rw [h6] at hb
      have g1 := (hfr l (List.mem_of_getElem? h4) b hb).1
      have g2 := hm.amlt b o ha
      omega
    · rw [hLout x h2] at hb
      exact hm.amno x b o (by simp [h1]) hb ha
  · obtain ⟨ox, hox⟩ := Option.ne_none_iff_exists'.1 hx
    rcases hG x ox hox with ⟨_, l, _, h1, h2, _, h4, _, h6⟩ | ⟨h1, h2⟩
    · rw [h6] at hb
      exact .inr (hfr l (List.mem_of_getElem? h4) b hb).1
    · rw [hLout x h2] at hb
      exact .inl ⟨x, by simp [h1], hb⟩
  · obtain ⟨r, h1, h2⟩ := (adoptL_val rs nid).2 j p hp
    have hjl : j < rs.length := (List.getElem?_eq_some_iff.1 h1).1
    have h3 : ls[j]? = some ls[j] := List.getElem?_eq_getElem (by omega)
    have h4 := hget j _ r v h3 h1 hv
    cases r with
    | d x =>
      subst h2
      exact .d (h4.2.leD hD)
    | so el k es =>
      obtain ⟨g1, g2, g3⟩ := h4
      have hGj : G (nid + j) = some (.arr ⟨el, k, 0, false, es⟩) := by
        have := adoptL_get rs nid hg (nid + j)
        rw [if_pos (by omega), show nid + j - nid = j by omega, h1] at this
        exact this
      have hLj : L (nid + j) = ls[j] := hLin _ _ (by omega) (by rw [show nid + j - nid = j by omega]; exact h3)
      subst h2
      refine .sr (.inr ⟨by omega, by omega⟩) (by rw [g3]; cases ls[j] <;> rfl) (fun _ _ => Nat.zero_le _) (fun ar har _ => ?_)
      have har : G (nid + j) = some (.arr ar) := har
      rw [hGj] at har
      cases har
      rw [hLj, g3]
      cases hlj : ls[j] with
      | tb a b => rw [hlj] at g2; exact g2.elim
      | _ => rfl
    | sto el rel k rows =>
      obtain ⟨g1, g2⟩ := h4
      have hGj : G (nid + j) = some (.tab ⟨el, rel, k, 0, false, List.range rows.length, rows.map some⟩) := by
        have := adoptL_get rs nid hg (nid + j)
        rw [if_pos (by omega), show nid + j - nid = j by omega, h1] at this
        exact this
      have hLj : L (nid + j) = ls[j] := hLin _ _ (by omega) (by rw [show nid + j - nid = j by omega]; exact h3)
      subst h2
      cases hlj : ls[j] with
      | no => rw [hlj] at g1; exact g1.elim
      | pl b cap => rw [hlj] at g1; exact g1.elim
      | tb lo rl =>
        have hv := g2 lo rl hlj
        refine .st (.inr ⟨by omega, by omega⟩) (by rw [hv]; cases lo <;> rfl) (fun _ _ => Nat.zero_le _) (fun T hT _ lo2 rl2 hl2 => ?_)
        have hT : G (nid + j) = some (.tab T) := hT
        rw [hGj] at hT
        cases hT
        have hl2 : L (nid + j) = .tb lo2 rl2 := hl2
        rw [hLj, hlj] at hl2
        cases hl2
        simpa using hv

/-! ### the arguments -/
theorem toCallee {hg : Nat → Option Ob} : Cx.leD (cxOf E hg loc w) ⟨w, fun _ _ => False, fun b o => owns hg loc b o ∨ E.am b o, none⟩ := fun b o v h1 h2 h3 => ⟨h1, fun h => h, fun h => by
  rcases h with h | h
  · exact h2 h
  · exact h3 h⟩

abbrev CRep (w : World) (am : Nat → Nat → Prop) (p : PV) (v : Value) : Prop := PRep ⟨w, fun _ _ => False, am, none⟩ (fun _ => none) (fun _ => .no) (fun _ => False) p v

theorem a1_rep {hg g' : Nat → Option Ob} {loc' : Locs} {kn' : Nat → Prop} (hm : MC E hg loc kn w) (ht : Tr E hg loc kn w g' loc' kn' w) {p q : PV} {v : Value} (hd : a1 hg p = some q)
    (hf : ∀ id ∈ g1 hg p, FrzAt hg g' id) (h : PRep (cxOf E hg loc w) hg loc kn p v) : CRep w (fun b o => owns g' loc' b o ∨ E.am b o) q v := by
  unfold a1 at hd
  split at hd
  · cases hd
    cases h with
    | bw f hcell hrep => exact .bw f (fun j p hj => ⟨(hcell j p hj).1, (hcell j p hj).2.1, fun h => h⟩) (fun j p hj => ((hrep j p hj).le ht.cx).leD toCallee)
  · rename_i id ver i off
    split at hd
    · rename_i cs hcs
      split at hd
      · rename_i r hr
        cases hd
        obtain ⟨b, cap, c, e0, hl, hblk, hcl, hc⟩ := hm.box hcs
        cases h with
        | pr hk ho hv hb ha =>
          have := hb cs hcs b cap hl
          subst this
          have hg1 : g1 hg (.pr id ver i off) = f0s (cs.drop off) := by simp [g1, hcs]
          have hget : ∀ (j : Nat) (p : PV), (cs.drop off)[j]? = some p → ∃ u, c[off + j]? = some u ∧ u.oneCell' = true ∧ PRep (cxOf E hg loc w) hg loc kn p u := fun j p hj => by
            rw [List.getElem?_drop] at hj
            exact hc _ p hj
          refine .bw (fun j => (c[off + j]?).getD undef) (fun j p hj => ?_) (fun j p hj => ?_)
          · obtain ⟨q, h1, h2, h3⟩ := (d0s_len hr).2 j p hj
            obtain ⟨u, h4, h5, h6⟩ := hget j q h1
            rw [h4]
            exact ⟨rd_row hblk h4, h5, fun h => h⟩
          · obtain ⟨q, h1, h2, h3⟩ := (d0s_len hr).2 j p hj
            obtain ⟨u, h4, h5, h6⟩ := hget j q h1
            rw [h4]
            exact (d0_rep ht h2 (fun id hid => hf id (by rw [hg1]; exact h3 id hid)) h6).leD toCallee
      · cases hd
    · cases hd
  · rename_i h1 h2
    have e : g1 hg p = f1 p := by
      cases p <;> first | rfl | exact absurd rfl (h2 _ _ _ _)
    split at hd
    · rename_i x hx
      cases hd
      exact .d ((d1_rep ht hx (fun id hid => hf id (by rw [e]; exact hid)) h).leD toCallee)
    · cases hd
theorem a1s_len {hg : Nat → Option Ob} : ∀ {ps qs : List PV}, a1s hg ps = some qs → qs.length = ps.length ∧ ∀ (j : Nat) (q : PV), qs[j]? = some q → ∃ p, ps[j]? = some p ∧ a1 hg p = some q ∧ ∀ id ∈ g1 hg p, id ∈ g1s hg ps
  | [], qs, h => by simp [a1s] at h; subst h; exact ⟨rfl, fun j q hj => by cases hj⟩
  | p :: l, qs, h => by
    simp only [a1s] at h
    split at h
    · rename_i x r h1 h2
      cases h
      obtain ⟨ih1, ih2⟩ := a1s_len h2
      refine ⟨by simp [ih1], fun j y hj => ?_⟩
      cases j with
      | zero => cases hj; exact ⟨p, rfl, h1, fun id hi => by simp [g1s, hi]⟩
      | succ j =>
        obtain ⟨q, k1, k2, k3⟩ := ih2 j y hj
        exact ⟨q, k1, k2, fun id hi => by simp [g1s, k3 id hi]⟩
    · cases h
theorem a2_rep {hg g' : Nat → Option Ob} {loc' : Locs} {kn' : Nat → Prop} (hm : MC E hg loc kn w) (ht : Tr E hg loc kn w g' loc' kn' w) {p q : PV} {v : Value} (hd : a2 hg p = some q)
    (hf : ∀ id ∈ g2 hg p, FrzAt hg g' id) (h : PRep (cxOf E hg loc w) hg loc kn p v) : CRep w (fun b o => owns g' loc' b o ∨ E.am b o) q v := by
  unfold a2 at hd
  split at hd
  · rename_i f caps
    split at hd
    · rename_i r hr
      cases hd
      cases h with
      | @fn _ _ vs hl hj =>
        refine .fn (by rw [hl, (a1s_len hr).1]) (fun j q v hq hv => ?_)
        obtain ⟨p, h1, h2, h3⟩ := (a1s_len hr).2 j q hq
        exact a1_rep hm ht h2 (fun id hid => hf id (h3 id hid)) (hj j p v h1 hv)
    · cases hd
  · rename_i h1
    have e : g2 hg p = g1 hg p := by
      cases p <;> first | rfl | exact absurd rfl (h1 _ _)
    exact a1_rep hm ht hd (fun id hid => hf id (by rw [e]; exact hid)) h
theorem a2s_len {hg : Nat → Option Ob} : ∀ {ps qs : List PV}, a2s hg ps = some qs → qs.length = ps.length ∧ ∀ (j : Nat) (q : PV), qs[j]? = some q → ∃ p, ps[j]? = some p ∧ a2 hg p = some q ∧ ∀ id ∈ g2 hg p, id ∈ g2s hg ps
  | [], qs, h => by simp [a2s] at h; subst h; exact ⟨rfl, fun j q hj => by cases hj⟩
  | p :: l, qs, h => by
    simp only [a2s] at h
    split at h
    · rename_i x r h1 h2
      cases h
      obtain ⟨ih1, ih2⟩ := a2s_len h2
      refine ⟨by simp [ih1], fun j y hj => ?_⟩
      cases j with
      | zero => cases hj; exact ⟨p, rfl, h1, fun id hi => by simp [g2s, hi]⟩
      | succ j =>
        obtain ⟨q, k1, k2, k3⟩ := ih2 j y hj
        exact ⟨q, k1, k2, fun id hi => by simp [g2s, k3 id hi]⟩
    · cases h

/-- a call of a function of Go -/
theorem call_run {c : Call} {f : Operand} {g : FuncId} {caps : List PV} (ho : o.op = .call c) (hc : c.callee = .value f) (hf : ev σ.t f = .fn g caps) (hent : ∀ args w, (callFunc g args).run P w = .ok (.enter g args) w) (hs : SlotsOk (cxOf E (hget σ.h) loc w) (hget σ.h) loc kn σ.t a) {ro : Option Nat} {n : Nat} {next : Act → World → Prop} {Q : Exit → Act → World → Prop}
    (h : ∀ vs : Array Value, vs.size = (c.args.toList.map (ev σ.t) ++ caps).length → (∀ (j : Nat) (p : PV) (v : Value), (c.args.toList.map (ev σ.t) ++ caps)[j]? = some p → vs[j]? = some v → PRep (cxOf E (hget σ.h) loc w) (hget σ.h) loc kn p v) →
      Calls P g vs w fun e w' => ∃ v, e = .returned v ∧ next (a.put o.dst v) w') : o.wpIn (FW ro) n P a w next Q := by
  have hfv := evRep hs f
  rw [hf] at hfv
  generalize hav : a.eval f = av at hfv
  cases hfv with
  | @fn _ _ cv hl hj =>
    have hrun : (execOp a.eval o).run P w = .ok (.enter g (c.args.map a.eval ++ cv)) w := by
      unfold execOp
      simp only [ho, resolve, hc, hav, Deferred.ofValue, Sem.run_bind, Sem.run_pure, Result.andThen_ok, invoke]
      simp [hent]
    refine ⟨fun _ _ => trivial, ?_⟩
    rw [Oper.semAt_eq _ _ _ (by simp [ho]), hrun, Oper.uponIn_enter]
    refine ⟨fun h0 => (by cases h0), calls_FW (Calls.mono (h (c.args.map a.eval ++ cv) (by simp [hl]) (fun j p v h1 hv => ?_)) ?_)⟩
    · by_cases hlt : j < c.args.size
      · rw [List.getElem?_append_left (by simpa using hlt), List.getElem?_map] at h1
        obtain ⟨x, hx, rfl⟩ := Option.map_eq_some_iff.1 h1
        rw [Array.getElem?_append_left (by simpa using hlt), Array.getElem?_map] at hv
        rw [Array.getElem?_toList] at hx
        rw [hx] at hv
        cases hv
        exact evRep hs x
      · rw [List.getElem?_append_right (by simpa using hlt)] at h1
        rw [Array.getElem?_append_right (by simpa using hlt)] at hv
        simp only [List.length_map, Array.length_toList] at h1
        simp only [Array.size_map] at hv
        exact hj _ p v h1 hv
    · rintro e w' ⟨v, rfl, h2⟩
      exact h2

theorem pcall_run {g : FuncId} {ps as : List PV} {r : R} (ha : a2s (hget σ.h) ps = some as) (hp : PCall P g as r) (hlen : r.list.length ≤ 4) (hm : MC E (hget σ.h) loc kn w) (hn : ∀ j, j < 4 → ¬ kn (nid + j)) {next : Value → World → Prop}
    (hnext : ∀ v loc' kn' w', Tr E (hget σ.h) loc kn w (upd ((adopt nid r).2 ++ if r.plain = true then [] else frz (hget σ.h) (g2s (hget σ.h) ps)) (hget σ.h)) loc' kn' w' →
      PRep (cxOf E (upd ((adopt nid r).2 ++ if r.plain = true then [] else frz (hget σ.h) (g2s (hget σ.h) ps)) (hget σ.h)) loc' w') (upd ((adopt nid r).2 ++ if r.plain = true then [] else frz (hget σ.h) (g2s (hget σ.h) ps)) (hget σ.h)) loc' kn' (adopt nid r).1 v →
      (∀ id, kn' id → kn id ∨ (nid ≤ id ∧ id < nid + 4)) → next v w')
    (vs : Array Value) (hvs : vs.size = ps.length) (hrep : ∀ (j : Nat) (p : PV) (v : Value), ps[j]? = some p → vs[j]? = some v → PRep (cxOf E (hget σ.h) loc w) (hget σ.h) loc kn p v) :
    Calls P g vs w fun e w' => ∃ v, e = .returned v ∧ next v w' := by
  obtain ⟨loc1, kn1, ht1, hk1⟩ := Tr.frz hm (g2s (hget σ.h) ps)
  have hlens := (a2s_len ha).1
  refine Calls.mono (hp.calls (fun b o => owns (upd (frz (hget σ.h) (g2s (hget σ.h) ps)) (hget σ.h)) loc1 b o ∨ E.am b o) w _ (fun b o h => ?_) ?_ (fun j q v hq hv => ?_)) ?_
  · rcases h with ⟨x, ob, h1, h2, h3⟩ | h
    · exact (ht1.mc.fresh x b (by simp [h1]) h2).2
    · exact hm.amlt b o h
  · rw [hlens]; exact hvs
  · obtain ⟨p, h1, h2, h3⟩ := (a2s_len ha).2 j q hq
    exact a2_rep hm ht1 h2 (fun id hid => frz_in id (h3 id hid)) (hrep j p v h1 hv)
  · rintro e w' ⟨v, rfl, hE, ls, vs, hv, hall, hsep, hfr⟩
    by_cases hpl : r.plain = true
    · -- an answer without memory
      rw [if_pos hpl] at hnext
      obtain ⟨hl1, hl2, hgt⟩ := RAll_get hall
      have hall1 : ∀ r1 ∈ r.list, ∃ x, r1 = .d (.v x) := fun r1 h1 => by
        have : r1.plain = true := by
          cases r with
          | one r0 => have : r1 = r0 := by simpa [R.list] using h1
                      rw [this]; exact hpl
          | tup rs => exact List.all_eq_true.1 hpl r1 h1
        cases r1 with
        | d x => cases x with
          | v x => exact ⟨x, rfl⟩
          | _ => cases this
        | _ => cases this
      have hemp : ∀ (rs : List R1) (n : Nat), (∀ r1 ∈ rs, ∃ x, r1 = .d (.v x)) → (adoptL n rs).2 = [] := fun rs => by
        induction rs with
        | nil => intros; rfl
        | cons r1 rs ih =>
          intro n h
          obtain ⟨x, rfl⟩ := h r1 List.mem_cons_self
          simp only [adoptL, adopt1, List.nil_append]
          exact ih (n + 1) (fun r h' => h r (List.mem_cons_of_mem _ h'))
      have hE2 : (adopt nid r).2 = [] := by
        cases r with
        | one r1 => have := hemp [r1] nid hall1; simpa [adoptL, adopt] using this
        | tup rs => exact hemp rs nid hall1
      have hrep : ∀ (j : Nat) (p : PV) (v : Value), (adoptL nid r.list).1[j]? = some p → vs[j]? = some v → PRep (cxOf E (hget σ.h) loc w') (hget σ.h) loc kn p v := fun j p v hp hv => by
        obtain ⟨r1, h1, h2⟩ := (adoptL_val r.list nid).2 j p hp
        obtain ⟨x, rfl⟩ := hall1 r1 (List.mem_of_getElem? h1)
        have hjl : j < r.list.length := (List.getElem?_eq_some_iff.1 h1).1
        have h4 := hgt j _ _ v (List.getElem?_eq_getElem (by omega)) h1 hv
        subst h2
        cases h4.2
        exact .d (.v _)
      have ht := Tr.ext hm hE
      rw [hE2, List.nil_append] at hnext
      show ∃ v2, Ending.returned v = .returned v2 ∧ next v2 w'
      refine ⟨v, rfl, ?_⟩
      refine hnext v loc kn w' ht ?_ (fun id h => .inl h)
      cases r with
      | one r1 =>
        have h0 : 0 < vs.length := by rw [hl2]; simp [R.list]
        have := hrep 0 (adopt1 nid r1).1 vs[0] (by simp [R.list, adoptL]) (List.getElem?_eq_getElem h0)
        rw [hv]
        simp only [R.val, List.getD_eq_getElem?_getD, List.getElem?_eq_getElem h0, Option.getD_some]
        exact this
      | tup rs =>
        rw [hv]
        refine .tup (by simp [R.list] at hl2; rw [List.size_toArray, hl2, (adoptL_val rs nid).1]) (fun j p u hp hu => hrep j p u hp (by simpa using hu))
    rw [if_neg hpl] at hnext
    obtain ⟨loc2, kn2, ht2, hk2, hrep⟩ := Tr.adopt (nid := nid) ht1.mc hE (rs := r.list) (fun j hj h => hn j (by omega) (hk1 _ h)) hall hsep hfr
    have ht := ht1.trans ht2
    obtain ⟨hl1, hl2, hget⟩ := RAll_get hall
    have hfin : ∀ x, kn2 x → kn x ∨ (nid ≤ x ∧ x < nid + 4) := fun x hx => by
      rcases hk2 x hx with h | h
      · exact .inl (hk1 x h)
      · exact .inr (by omega)
    show ∃ v2, Ending.returned v = .returned v2 ∧ next v2 w'
    refine ⟨v, rfl, ?_⟩
    cases r with
    | one r1 =>
      have hU : (adopt nid (.one r1)).2 = (adoptL nid (R.one r1).list).2 := by simp [adopt, R.list, adoptL]
      rw [← upd_append, ← hU] at ht hrep
      refine hnext v loc2 kn2 w' ht ?_ hfin
      have h0 : 0 < vs.length := by rw [hl2]; simp [R.list]
      have := hrep 0 (adopt1 nid r1).1 vs[0] (by simp [R.list, adoptL]) (List.getElem?_eq_getElem h0)
      rw [hv]
      simp only [R.val, List.getD_eq_getElem?_getD, List.getElem?_eq_getElem h0, Option.getD_some]
      exact this
    | tup rs =>
      have hU : (adopt nid (.tup rs)).2 = (adoptL nid (R.tup rs).list).2 := rfl
      rw [← upd_append, ← hU] at ht hrep
      refine hnext v loc2 kn2 w' ht ?_ hfin
      rw [hv]
      refine .tup (by simp [R.list] at hl2; rw [List.size_toArray, hl2, (adoptL_val rs nid).1]) (fun j p u hp hu => hrep j p u hp (by simpa using hu))
end
end Go.Pm
