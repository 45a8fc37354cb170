/-
  The pure machine, part 7: new objects, parts of slices, stores, appends.
-/
import Derived.Great.BuildSlice
import Derived.Test.YtpoocfmphcgmkaaQri6
set_option linter.unusedVariables false
set_option linter.unusedSimpArgs false
set_option linter.unusedSimpArgs false
set_option linter.unusedVariables false
namespace Go.Pm
open Go.RowKit

section
variable {P : Program} {E : Env} {loc : Locs} {kn : Nat → Prop} {w : World} {a : Act} {σ : St} {nid : Nat} {K : Kt} {o : Oper}

theorem one_cell {C : Cx} {hg : Nat → Option Ob} {q : PV} {u : Value} (hq : q.one) (hu : PRep C hg loc kn q u) : u.oneCell' = true := by
  cases hu with
  | any => exact hq.elim
  | d hr =>
    cases hr with
    | v => cases u <;> first | rfl | exact hq.elim
    | nil => rfl
    | emp => rfl
    | sl => rfl
    | agg => exact hq.elim
  | nl => rfl
  | yd => rfl
  | bw => rfl
  | sr hk ho => exact ho
  | pr hk ho => exact ho
  | lt => rfl
  | lp => rfl
  | st hk ho => exact ho
  | tv hk ho => exact ho
  | po hk ho => exact ho
  | sw hk ho => exact ho
  | pw hk ho => exact ho
  | agg => exact hq.elim
  | tup => exact hq.elim
  | fn => rfl
theorem allOne_mem : ∀ {l : List PV}, allOne l → ∀ q ∈ l, q.one
  | [], _, q, h => by cases h
  | p :: l, h, q, hq => by
    rcases List.mem_cons.1 hq with rfl | hq
    · exact h.1
    · exact allOne_mem h.2 q hq

/-- the cells of a value -/
theorem cells_rep {C : Cx} {hg : Nat → Option Ob} {p : PV} {v : Value} (h : PRep C hg loc kn p v) (h1 : ∀ q ∈ cellsP p, q.one) : v.cells.size = (cellsP p).length ∧ ∀ (j : Nat) (q : PV), (cellsP p)[j]? = some q → ∃ u, v.cells[j]? = some u ∧ u.oneCell' = true ∧ PRep C hg loc kn q u := by
  have single : cellsP p = [p] → v.cells.size = (cellsP p).length ∧ ∀ (j : Nat) (q : PV), (cellsP p)[j]? = some q → ∃ u, v.cells[j]? = some u ∧ u.oneCell' = true ∧ PRep C hg loc kn q u := fun e => by
    have ho : p.one := h1 p (by rw [e]; simp)
    have hv := one_cell ho h
    have hc : v.cells = #[v] := by cases v <;> first | rfl | cases hv
    rw [e, hc]
    refine ⟨rfl, fun j q hj => ?_⟩
    cases j with
    | zero => cases hj; exact ⟨v, rfl, hv, h⟩
    | succ j => cases hj
  cases p with
  | agg cs =>
    cases h with
    | agg hl hj =>
      rename_i vs
      refine ⟨hl, fun j q hq => ?_⟩
      have hq : cs[j]? = some q := hq
      have hjl : j < vs.size := by rw [hl]; exact (List.getElem?_eq_some_iff.1 hq).1
      have hp := hj j q vs[j] hq (by simp [hjl])
      exact ⟨vs[j], by simp [Value.cells, hjl], one_cell (h1 q (List.mem_of_getElem? hq)) hp, hp⟩
  | d x =>
    cases x with
    | agg cs =>
      cases h with
      | d hr =>
        cases hr with
        | agg _ vs hl hj =>
          refine ⟨by simp [cellsP, Value.cells, hl], fun j q hq => ?_⟩
          have hq0 := hq
          simp only [cellsP, List.getElem?_map] at hq
          obtain ⟨d, hd, rfl⟩ := Option.map_eq_some_iff.1 hq
          have hjl : j < vs.size := by rw [hl]; exact (List.getElem?_eq_some_iff.1 hd).1
          have hp := hj j d vs[j] hd (by simp [hjl])
          exact ⟨vs[j], by simp [Value.cells, hjl], one_cell (h1 _ (List.mem_of_getElem? hq0)) (PRep.d (hg := hg) (loc := loc) (kn := kn) hp), .d hp⟩
    | _ => exact single rfl
  | _ => exact single rfl

theorem kn_one {id : Nat} (hid : id = nid) : ∀ x, knAdd kn id x → kn x ∨ (nid ≤ x ∧ x < nid + 4) := fun x hx => by
  rcases hx with h | h
  · exact .inl h
  · exact .inr (by omega)
theorem kn_same {id : Nat} (hid : kn id) : ∀ x, knAdd kn id x → kn x ∨ (nid ≤ x ∧ x < nid + 4) := fun x hx => by
  rcases hx with h | h
  · exact .inl h
  · subst h; exact .inl hid

/-- a new box -/
theorem out_newBox {t : TypeId} {cs : List PV} {c : Array Value} (hm : MC E (hget σ.h) loc kn w) (hn : ¬ kn nid) (hl : c.size = cs.length)
    (hc : ∀ (j : Nat) (p : PV), cs[j]? = some p → ∃ u, c[j]? = some u ∧ u.oneCell' = true ∧ PRep (cxOf E (hget σ.h) loc w) (hget σ.h) loc kn p u)
    (hrun : (execOp a.eval o).run P w = .ok (.value (.pointer (some ⟨w.heap.size, 0, none⟩))) (w.alloc (.cells c t))) (h : K σ (.pr nid 0 0 0) [(nid, .box cs)] []) : Out P E o σ nid loc kn w a K := by
  have ht := Tr.newBox hm hn cs c t hl hc
  refine ⟨_, _, _, _, _, _, _, h, .inl hrun, ht, ?_, kn_one rfl⟩
  refine .pr (.inr rfl) rfl (fun a' h' => by simp [upd] at h') (fun cs' h' b cap hb => ?_) (fun a' h' => by simp [upd] at h')
  rw [show locAdd loc nid (.pl w.heap.size 0) nid = .pl w.heap.size 0 from if_pos rfl] at hb
  cases hb
  rfl

theorem out_alloc {t : TypeId} (ho : o.op = .alloc t) (h : vcOp P o nid σ K) (hm : MC E (hget σ.h) loc kn w) (hn : ¬ kn nid) : Out P E o σ nid loc kn w a K := by
  unfold vcOp at h
  simp only [ho] at h
  obtain ⟨T, hT, h1, h⟩ := got_spec h
  obtain ⟨i, d, z, hi, hd, hz, e1, e2, e3, _⟩ := TY_spec hT
  refine out_newBox (t := t) (c := z.cells) hm hn (by simp [e3]) (fun j p hj => ?_) (by unfold execOp; simp [ho, Instr.alloc, zeroValue, typeInfo, hi, hz, newVar, newRow]) h
  rw [List.getElem?_map] at hj
  obtain ⟨v, hv, rfl⟩ := Option.map_eq_some_iff.1 hj
  rw [e3, Array.getElem?_toList] at hv
  have hr : PRep (cxOf E (hget σ.h) loc w) (hget σ.h) loc kn (zPV v) v := zPVRep v
  exact ⟨v, hv, one_cell (allOne_mem h1 _ (List.mem_of_getElem? (by rw [List.getElem?_map, e3, Array.getElem?_toList, hv]; rfl))) hr, hr⟩

theorem out_box {t : TypeId} {x : Operand} (ho : o.op = .box t x) (h : vcOp P o nid σ K) (hm : MC E (hget σ.h) loc kn w) (hn : ¬ kn nid) (hs : SlotsOk (cxOf E (hget σ.h) loc w) (hget σ.h) loc kn σ.t a) : Out P E o σ nid loc kn w a K := by
  unfold vcOp at h
  simp only [ho] at h
  obtain ⟨h1, h⟩ := h
  obtain ⟨h2, h3⟩ := cells_rep (evRep hs x) (allOne_mem h1)
  exact out_newBox (t := t) (c := (a.eval x).cells) hm hn h2 h3 (by unfold execOp; simp [ho, Instr.box, newVar, newRow]) h

/-- a new array -/
theorem out_newArr {ar : Arr} {c : Array Value} {cap : Nat} {Rd : List Nat} (hm : MC E (hget σ.h) loc kn w) (hn : ¬ kn nid) (hk : 0 < ar.k) (hv : ar.ver = 0) (hl : c.size = cap * ar.k) (hle : ar.es.length ≤ cap) (hmx : cap ≤ maxLen) (hek : ∀ e ∈ ar.es, e.length = ar.k)
    (hc : ∀ (i j : Nat) (e : List D) (d : D), ar.es[i]? = some e → e[j]? = some d → ∃ u, c[i * ar.k + j]? = some u ∧ u.oneCell' = true ∧ Rep (cxOf E (hget σ.h) loc w) d u)
    (hrun : (execOp a.eval o).run P w = .ok (.value (.slice (some ⟨w.heap.size, 0, none⟩) ar.es.length cap)) (w.alloc (.cells c ar.el))) (h : K σ (.sr nid 0) [(nid, .arr ar)] Rd) : Out P E o σ nid loc kn w a K := by
  have ht := Tr.newArr hm hn ar c cap hk hl hle hmx hek hc
  refine ⟨_, _, _, _, _, _, _, h, .inl hrun, ht, ?_, kn_one rfl⟩
  refine .sr (.inr rfl) rfl (fun a' h' => Nat.zero_le _) (fun a' h' _ => ?_)
  have h' : ar = a' := by simpa [upd] using h'
  subst h'
  rw [show locAdd loc nid (.pl w.heap.size cap) nid = .pl w.heap.size cap from if_pos rfl]

theorem out_makeSlice {t : TypeId} {l c : Operand} (ho : o.op = .makeSlice t l c) (h : vcOp P o nid σ K) (hm : MC E (hget σ.h) loc kn w) (hn : ¬ kn nid) (hs : SlotsOk (cxOf E (hget σ.h) loc w) (hget σ.h) loc kn σ.t a) : Out P E o σ nid loc kn w a K := by
  unfold vcOp at h
  simp only [ho] at h
  split at h
  · rename_i k1 n k2 m e1 e2
    have hl := evRep hs l
    have hc := evRep hs c
    rw [e1] at hl
    rw [e2] at hc
    have hl := hl.val
    have hc := hc.val
    obtain ⟨T, hT, h⟩ := got_spec h
    obtain ⟨E2, hE, h⟩ := got_spec h
    obtain ⟨⟨hslc, hsz, hzl, h0, hnm, hmx, hby, hone⟩, h⟩ := h
    have hu := slc_spec hT hslc
    obtain ⟨i, d, z, hi, hd, hz, x1, x2, x3, _⟩ := TY_spec hE
    have hzs : z.cells.size = i.size := by rw [← x1, ← hzl, x3]; simp
    have hrun := run_make (P := P) w t T.elem i z hu hi hz k1 k2 n m h0 hnm (by rw [← x2]; omega) hmx
    refine out_newArr (ar := ⟨T.elem, E2.size, 0, false, List.replicate n.toNat (E2.zero.map zD)⟩) (c := madeCells z.cells (m.toNat * i.size)) (cap := m.toNat) hm hn hsz rfl (by rw [size_madeCells, x1]) (by simp; omega) (by simp only [maxLen]; omega) (fun e he => by rw [(List.mem_replicate.1 he).2]; simp [hzl]) (fun q j e dd hq hj => ?_) (by unfold execOp; simp [ho, hl, hc, hrun]) h
    have hq2 : q < n.toNat := by have := (List.getElem?_eq_some_iff.1 hq).1; simpa using this
    rw [List.getElem?_replicate, if_pos hq2] at hq
    cases hq
    rw [List.getElem?_map] at hj
    obtain ⟨v, hv, rfl⟩ := Option.map_eq_some_iff.1 hj
    have hjl : j < E2.size := by rw [← hzl]; exact (List.getElem?_eq_some_iff.1 hv).1
    rw [x3, Array.getElem?_toList] at hv
    have hlt : q * E2.size + j < m.toNat * i.size := by
      have : (q + 1) * E2.size ≤ m.toNat * E2.size := Nat.mul_le_mul_right _ (by omega)
      rw [Nat.add_mul] at this
      rw [← x1]
      omega
    refine ⟨v, ?_, one_cell (q := zPV v) (allOne_mem hone _ (List.mem_of_getElem? (i := j) (by rw [List.getElem?_map, x3, Array.getElem?_toList, hv]; rfl))) (zPVRep (C := cxOf E (hget σ.h) loc w) (hg := hget σ.h) (loc := loc) (kn := kn) v), zDRep v⟩
    have hmod : (q * E2.size + j) % z.cells.size = j := by rw [hzs, ← x1, Nat.mul_comm, Nat.mul_add_mod, Nat.mod_eq_of_lt hjl]
    simp only [madeCells, Array.getElem?_map, Array.getElem?_range, if_pos hlt, Option.map_some, hmod]
    rw [getElem!_def, hv]
  · exact h.elim

/-! ### freezing -/
def FrzAt (hg g' : Nat → Option Ob) (id : Nat) : Prop := (∀ ar, hg id = some (.arr ar) → g' id = some (.arr { ar with fz := true })) ∧ ∀ T, hg id = some (.tab T) → g' id = some (.tab { T with fz := true })
theorem frz_not {hg : Nat → Option Ob} {id : Nat} : ∀ {ids : List Nat}, ¬ id ∈ ids → upd (frz hg ids) hg id = hg id
  | [], _ => rfl
  | x :: l, hi => by
    have hx : ¬ x = id := fun e => hi (by simp [e])
    have hl : ¬ id ∈ l := fun h => hi (List.mem_cons_of_mem _ h)
    have ih := frz_not (hg := hg) (id := id) (ids := l) hl
    unfold frz
    split
    · simp only [upd, if_neg hx]; exact ih
    · simp only [upd, if_neg hx]; exact ih
    · exact ih
theorem frz_in {hg : Nat → Option Ob} : ∀ {ids : List Nat}, ∀ id ∈ ids, FrzAt hg (upd (frz hg ids) hg) id
  | [], id, hi => by cases hi
  | x :: l, id, hi => by
    by_cases hx : x = id
    · subst hx
      exact ⟨fun ar h => by simp [frz, h, upd], fun T h => by simp [frz, h, upd]⟩
    · have hl : id ∈ l := by rcases List.mem_cons.1 hi with e | e; exact absurd e.symm hx; exact e
      obtain ⟨ih1, ih2⟩ := frz_in (hg := hg) id hl
      unfold frz
      split
      · exact ⟨fun ar h => by simp only [upd, if_neg hx]; exact ih1 ar h, fun T h => by simp only [upd, if_neg hx]; exact ih2 T h⟩
      · exact ⟨fun ar h => by simp only [upd, if_neg hx]; exact ih1 ar h, fun T h => by simp only [upd, if_neg hx]; exact ih2 T h⟩
      · exact ⟨ih1, ih2⟩

theorem Tr.frz {hg : Nat → Option Ob} (hm : MC E hg loc kn w) : ∀ ids : List Nat, ∃ loc' kn', Tr E hg loc kn w (upd (frz hg ids) hg) loc' kn' w ∧ ∀ id, kn' id → kn id
  | [] => ⟨loc, kn, Tr.refl hm, fun _ h => h⟩
  | id :: l => by
    obtain ⟨loc', kn', ht, hk⟩ := Tr.frz hm l
    unfold Pm.frz
    split
    · rename_i ar har
      have hcur : ∃ ar', upd (Pm.frz hg l) hg id = some (.arr ar') ∧ { ar' with fz := true } = { ar with fz := true } := by
        by_cases hl : id ∈ l
        · exact ⟨_, (frz_in id hl).1 ar har, rfl⟩
        · exact ⟨ar, by rw [frz_not hl, har], rfl⟩
      obtain ⟨ar', h1, h2⟩ := hcur
      have hf := Tr.freeze ht.mc h1
      rw [h2] at hf
      rw [upd_cons]
      refine ⟨_, _, ht.trans hf, fun x hx => ?_⟩
      rcases hx with hx | hx
      · exact hk x hx
      · subst hx; exact (hm.objs _ _ har).1
    · rename_i T hT
      have hcur : ∃ T', upd (Pm.frz hg l) hg id = some (.tab T') ∧ { T' with fz := true } = { T with fz := true } := by
        by_cases hl : id ∈ l
        · exact ⟨_, (frz_in id hl).2 T hT, rfl⟩
        · exact ⟨T, by rw [frz_not hl, hT], rfl⟩
      obtain ⟨T', h1, h2⟩ := hcur
      have hf := Tr.freezeTab ht.mc h1
      rw [h2] at hf
      rw [upd_cons]
      refine ⟨_, _, ht.trans hf, fun x hx => ?_⟩
      rcases hx with hx | hx
      · exact hk x hx
      · subst hx; exact (hm.objs _ _ hT).1
    · exact ⟨loc', kn', ht, hk⟩

theorem tabIf_spec {T : Tab} {ver : Nat} {l : List Nat} {x : D} (h : tabIf T ver l = some x) : T.ver = ver ∧ ∃ es, T.sl l = some es ∧ x = .sl es := by
  unfold tabIf at h
  split at h
  · rename_i e
    refine ⟨e, ?_⟩
    split at h
    · rename_i es hes; cases h; exact ⟨es, hes, rfl⟩
    · cases h
  · cases h

/-- behind the freezing a reference's data may be handed on -/
theorem dz_rep {hg g' : Nat → Option Ob} {loc' : Locs} {kn' : Nat → Prop} (ht : Tr E hg loc kn w g' loc' kn' w) {p : PV} {x : D} {v : Value} (hd : dz hg p = some x)
    (hf : ∀ id ∈ fz p, FrzAt hg g' id) (h : PRep (cxOf E hg loc w) hg loc kn p v) : Rep (cxOf E g' loc' w) x v := by
  -- a table's places stay as it is frozen
  have tabs : ∀ id T, kn id → hg id = some (.tab T) → FrzAt hg g' id → ∃ lo rl, loc id = .tb lo rl ∧ g' id = some (.tab { T with fz := true }) ∧ ∃ rl', loc' id = .tb lo rl' ∧ ∀ r es, T.row r = some es → rl' r = rl r := fun id T hk hT hfz => by
    have hg' := hfz.2 T hT
    obtain ⟨T0, h1, g1, g2, g3, g4, g5, g6⟩ := ht.rf.tab id _ hk hg'
    rw [hT] at h1
    cases h1
    obtain ⟨lo', rl', hl', _⟩ := ht.mc.tab hg'
    obtain ⟨lo, rl, k1, k2, k3⟩ := g6 lo' rl' hl'
    have k4 := k2 rfl
    subst k4
    refine ⟨lo, rl, k1, hg', rl', hl', fun r es hr => (k3 r es ?_ hr).symm⟩
    unfold Tab.row at hr
    cases hq : T.rows[r]? with
    | none => rw [hq] at hr; cases hr
    | some q => exact (List.getElem?_eq_some_iff.1 hq).1
  unfold dz at hd
  split at hd
  · cases hd
    cases h with
    | d hr => exact hr.le ht.cx
  · cases hd
    cases h
    exact .nil
  · rename_i id ver
    split at hd
    · rename_i ar har
      split at hd
      · rename_i hver
        cases hd
        have hg' := (hf id (by simp [fz])).1 ar har
        cases h with
        | sr hk ho hv hh =>
          have hh := hh ar har hver
          obtain ⟨a0, h1, h2, h3⟩ := ht.rf.arr id _ hk hg'
          rw [har] at h1
          cases h1
          have hloc := (h2 rfl).2.2
          exact ht.mc.frozen hg' rfl (v := v) (by rw [hloc]; exact hh)
      · cases hd
    · cases hd
  · rename_i id ver
    split at hd
    · rename_i T hT
      obtain ⟨hver, es, hes, rfl⟩ := tabIf_spec hd
      cases h with
      | st hk ho hv hh =>
        obtain ⟨lo, rl, k1, k2, rl', k3, k4⟩ := tabs id T hk hT (hf id (by simp [fz]))
        have hv := hh T hT hver lo rl k1
        obtain ⟨_, _, q1, q2⟩ := ht.mc.tab k2
        rw [k3] at q1
        cases q1
        refine ht.mc.frozenTab k2 rfl (hl := k3) (o := 0) (n := T.out.length) (by simp) (es := es) (by rw [List.drop_zero, List.take_length]; exact (sl_rows (T := { T with fz := true }) (T' := T) rfl _).trans hes) ?_
        have hout := q2.out
        cases lo with
        | no => have hout : T.out = [] := hout; exact ⟨hv, by rw [hout]; rfl⟩
        | tb a b => exact hout.elim
        | pl b cap =>
          obtain ⟨c, _, _, g3, g4, _⟩ := hout
          exact ⟨0, cap, hv, fun _ => rfl, g3, g4⟩
    · cases hd
  · rename_i id ver o n
    split at hd
    · rename_i T hT
      obtain ⟨hver, es, hes, rfl⟩ := tabIf_spec hd
      cases h with
      | tv hk ho hv hh =>
        obtain ⟨lo, rl, k1, k2, rl', k3, k4⟩ := tabs id T hk hT (hf id (by simp [fz]))
        obtain ⟨hon, hv⟩ := hh T hT hver lo rl k1
        exact ht.mc.frozenTab k2 rfl hon ((sl_rows (T := { T with fz := true }) (T' := T) rfl _).trans hes) hv k3
    · cases hd
  · rename_i id r
    split at hd
    · rename_i T hT
      split at hd
      · rename_i es hes
        cases hd
        cases h with
        | sw hk ho hv hh =>
          obtain ⟨lo, rl, k1, k2, rl', k3, k4⟩ := tabs id T hk hT (hf id (by simp [fz]))
          rw [hh T es hT hes lo rl k1, ← k4 r es hes]
          exact ht.mc.frozenRow k2 rfl k3 hes
      · cases hd
    · cases hd
  · cases hd

theorem dzs_len {hg : Nat → Option Ob} : ∀ {ps : List PV} {xs : List D}, dzs hg ps = some xs → xs.length = ps.length ∧ ∀ (j : Nat) (x : D), xs[j]? = some x → ∃ p, ps[j]? = some p ∧ dz hg p = some x ∧ ∀ id ∈ fz p, id ∈ fzs ps
  | [], xs, h => by simp [dzs] at h; subst h; exact ⟨rfl, fun j x hj => by cases hj⟩
  | p :: l, xs, h => by
    simp only [dzs] at h
    split at h
    · rename_i x r h1 h2
      cases h
      obtain ⟨ih1, ih2⟩ := dzs_len h2
      refine ⟨by simp [ih1], fun j y hj => ?_⟩
      cases j with
      | zero => cases hj; exact ⟨p, rfl, h1, fun id hi => by simp [fzs, hi]⟩
      | succ j =>
        obtain ⟨q, g1, g2, g3⟩ := ih2 j y hj
        exact ⟨q, g1, g2, fun id hi => by simp [fzs, g3 id hi]⟩
    · cases h

theorem d0_rep {hg g' : Nat → Option Ob} {loc' : Locs} {kn' : Nat → Prop} (ht : Tr E hg loc kn w g' loc' kn' w) {p : PV} {x : D} {v : Value} (hd : d0 hg p = some x)
    (hf : ∀ id ∈ f0 p, FrzAt hg g' id) (h : PRep (cxOf E hg loc w) hg loc kn p v) : Rep (cxOf E g' loc' w) x v := by
  unfold d0 at hd
  split at hd
  · rename_i ps
    split at hd
    · rename_i ds hds
      cases hd
      obtain ⟨h1, h2⟩ := dzs_len hds
      cases h with
      | @lt _ b c f hc hmx hcell hh =>
        have e : ps.length = (ds.map fun x => [x]).length := by simp [h1]
        rw [e]
        have get : ∀ (i j : Nat) (e : List D) (y : D), (ds.map fun x => [x])[i]? = some e → e[j]? = some y → j = 0 ∧ ∃ p, ps[i]? = some p ∧ dz hg p = some y ∧ ∀ id ∈ fz p, id ∈ fzs ps := fun i j e y he hy => by
          rw [List.getElem?_map] at he
          obtain ⟨z, hz, rfl⟩ := Option.map_eq_some_iff.1 he
          have hj : j = 0 := by have := (List.getElem?_eq_some_iff.1 hy).1; simpa using this
          subst hj
          cases hy
          exact ⟨rfl, h2 i _ hz⟩
        refine .sl _ 1 c b 0 (fun i _ => f i) (by simp; omega) hmx (fun e he => by obtain ⟨z, _, rfl⟩ := List.mem_map.1 he; rfl) (fun i j e y he hy => ?_) (fun i j e y he hy => ?_)
        · obtain ⟨rfl, p, g1, g2, g3⟩ := get i j e y he hy
          obtain ⟨k1, k2, k3, k4⟩ := hcell i p g1
          rw [Nat.zero_add, Nat.mul_one, Nat.add_zero]
          exact ⟨ht.cx.cell _ _ _ k1 k3, k2, ht.cx.ow _ _ _ k1 k3, ht.cx.am _ _ _ k1 k3 k4⟩
        · obtain ⟨rfl, p, g1, g2, g3⟩ := get i j e y he hy
          exact dz_rep ht g2 (fun id hi => hf id (g3 id hi)) (hh i p g1)
    · cases hd
  · rename_i hne
    have e : f0 p = fz p := by cases p <;> first | rfl | exact absurd rfl (hne _)
    rw [e] at hf
    exact dz_rep ht hd hf h

theorem d0s_len {hg : Nat → Option Ob} : ∀ {ps : List PV} {xs : List D}, d0s hg ps = some xs → xs.length = ps.length ∧ ∀ (j : Nat) (x : D), xs[j]? = some x → ∃ p, ps[j]? = some p ∧ d0 hg p = some x ∧ ∀ id ∈ f0 p, id ∈ f0s ps
  | [], xs, h => by simp [d0s] at h; subst h; exact ⟨rfl, fun j x hj => by cases hj⟩
  | p :: l, xs, h => by
    simp only [d0s] at h
    split at h
    · rename_i x r h1 h2
      cases h
      obtain ⟨ih1, ih2⟩ := d0s_len h2
      refine ⟨by simp [ih1], fun j y hj => ?_⟩
      cases j with
      | zero => cases hj; exact ⟨p, rfl, h1, fun id hi => by simp [f0s, hi]⟩
      | succ j =>
        obtain ⟨q, g1, g2, g3⟩ := ih2 j y hj
        exact ⟨q, g1, g2, fun id hi => by simp [f0s, g3 id hi]⟩
    · cases h

theorem d0s_rep {hg g' : Nat → Option Ob} {loc' : Locs} {kn' : Nat → Prop} (ht : Tr E hg loc kn w g' loc' kn' w) {ps : List PV} {xs : List D} (hd : d0s hg ps = some xs)
    (hf : ∀ id ∈ f0s ps, FrzAt hg g' id) {c : Nat → Value} (h : ∀ (j : Nat) (p : PV), ps[j]? = some p → PRep (cxOf E hg loc w) hg loc kn p (c j)) :
    ∀ (j : Nat) (x : D), xs[j]? = some x → Rep (cxOf E g' loc' w) x (c j) := fun j x hj => by
  obtain ⟨p, h1, h2, h3⟩ := (d0s_len hd).2 j x hj
  exact d0_rep ht h2 (fun id hi => hf id (h3 id hi)) (h j p h1)

theorem d1_rep {hg g' : Nat → Option Ob} {loc' : Locs} {kn' : Nat → Prop} (ht : Tr E hg loc kn w g' loc' kn' w) {p : PV} {x : D} {v : Value} (hd : d1 hg p = some x)
    (hf : ∀ id ∈ f1 p, FrzAt hg g' id) (h : PRep (cxOf E hg loc w) hg loc kn p v) : Rep (cxOf E g' loc' w) x v := by
  unfold d1 at hd
  split at hd
  · rename_i cs
    split at hd
    · rename_i r hr
      cases hd
      cases h with
      | @agg _ vs hl hj =>
        refine .agg _ _ (by rw [hl, (d0s_len hr).1]) (fun j x u hx hu => ?_)
        obtain ⟨q, h1, h2, h3⟩ := (d0s_len hr).2 j x hx
        exact d0_rep ht h2 (fun id hi => hf id (h3 id hi)) (hj j q u h1 hu)
    · cases hd
  · rename_i hne
    have hff : f1 p = f0 p := by
      cases p <;> first | rfl | exact absurd rfl (hne _)
    exact d0_rep ht hd (fun id hi => hf id (by rw [hff]; exact hi)) h

/-! ### parts of slices -/
theorem els_spec {hg : Nat → Option Ob} {p : PV} {es : List (List D)} (h : els hg p = some es) : d0 hg p = some (.sl es) := by
  unfold els at h
  split at h
  · rename_i e; cases h; exact e
  · cases h

theorem rep_sl_shape {C : Cx} {es : List (List D)} {v : Value} (h : Rep C (.sl es) v) : (∃ a c, v = .slice a 0 c ∧ es = [] ∧ c ≤ maxLen) ∨ ∃ b q c, v = .slice (some ⟨b, q, none⟩) es.length c ∧ es.length ≤ c ∧ c ≤ maxLen := by
  cases h with
  | nil => exact .inl ⟨none, 0, rfl, rfl, Nat.zero_le _⟩
  | emp a c hm => exact .inl ⟨a, c, rfl, rfl, hm⟩
  | sl _ k c b q f hc hm => exact .inr ⟨b, q, c, rfl, hc, hm⟩

/-- some elements of a slice -/
theorem rep_part {C : Cx} {es : List (List D)} {b q c : Nat} (h : Rep C (.sl es) (.slice (some ⟨b, q, none⟩) es.length c)) (size : Nat) (hsz : ∀ e ∈ es, e.length = size) (l k m : Nat) (hk : l + k ≤ es.length) (hm : l + k ≤ m) (hmc : m ≤ c) :
    Rep C (.sl ((es.drop l).take k)) (.slice (if m = l then some ⟨b, q, none⟩ else some ⟨b, q + l * size, none⟩) k (m - l)) := by
  have hlen : ((es.drop l).take k).length = k := by rw [List.length_take, List.length_drop]; omega
  generalize hn : es.length = n at h
  cases h with
  | emp _ _ hm2 =>
    have hk0 : k = 0 := by simp at hk; omega
    subst hk0
    simp only [List.take_zero]
    exact .emp _ _ (by omega)
  | sl _ k' c b q f hc hmx hke hcell hrep =>
    by_cases hml : m = l
    · have : k = 0 := by omega
      subst this
      rw [if_pos hml]
      simp only [List.take_zero]
      exact .sl [] 0 _ b q f (by simp) (by omega) (by simp) (by simp) (by simp)
    · rw [if_neg hml]
      have := Rep.sl (C := C) ((es.drop l).take k) k' (m - l) b (q + l * size) (fun i j => f (l + i) j) (by rw [hlen]; omega) (by omega) (fun e he => hke e (List.mem_of_mem_drop (List.mem_of_mem_take he))) (fun i j e p hi hj => ?_) (fun i j e p hi hj => ?_)
      · rw [hlen] at this; exact this
      · have hil : i < k := by rw [← hlen]; exact (List.getElem?_eq_some_iff.1 hi).1
        rw [List.getElem?_take_of_lt hil, List.getElem?_drop] at hi
        have hmem := List.mem_of_getElem? hi
        have hkk : k' = size := (hke e hmem).symm.trans (hsz e hmem)
        obtain ⟨g1, g2, g3, g4⟩ := hcell _ j e p hi hj
        have e1 : q + l * size + i * k' + j = q + (l + i) * k' + j := by rw [hkk, Nat.add_mul]; omega
        rw [e1]
        exact ⟨g1, g2, g3, g4⟩
      · have hil : i < k := by rw [← hlen]; exact (List.getElem?_eq_some_iff.1 hi).1
        rw [List.getElem?_take_of_lt hil, List.getElem?_drop] at hi
        exact hrep _ j e p hi hj

theorem len_rep {hg : Nat → Option Ob} (hm : MC E hg loc kn w) {p : PV} {n : Nat} {v : Value} (hn : lenOf hg p = some n) (h : PRep (cxOf E hg loc w) hg loc kn p v) : ∃ ad cap, v = .slice ad n cap := by
  unfold lenOf at hn
  split at hn
  · cases hn; cases h; exact ⟨_, _, rfl⟩
  · cases hn
    cases h with
    | d hr =>
      cases hr with
      | nil => exact ⟨_, _, rfl⟩
      | emp => exact ⟨_, _, rfl⟩
      | sl => exact ⟨_, _, rfl⟩
  · cases hn; cases h; exact ⟨_, _, rfl⟩
  · rename_i id ver
    split at hn
    · rename_i ar har
      split at hn
      · rename_i hver
        cases hn
        cases h with
        | sr hk ho hv hh =>
          have hh := hh ar har hver
          obtain ⟨hk0, hA⟩ := hm.arr har
          cases hl : loc id with
          | no => rw [hl] at hA hh; have hA : ar.es = [] := hA; rw [hA]; exact ⟨_, _, hh⟩
          | pl b cap => rw [hl] at hh; exact ⟨_, _, hh⟩
          | tb lo rl => rw [hl] at hh; exact hh.elim
      · cases hn
    · cases hn
  · rename_i id ver
    split at hn
    · rename_i T hT
      split at hn
      · rename_i hver
        cases hn
        cases h with
        | st hk ho hv hh =>
          obtain ⟨lo, rl, hl, hTi⟩ := hm.tab hT
          have hh := hh T hT hver lo rl hl
          have hout := hTi.out
          cases lo with
          | no => have hout : T.out = [] := hout; rw [hout]; exact ⟨_, _, hh⟩
          | pl b cap => exact ⟨_, _, hh⟩
          | tb a b => exact hout.elim
      · cases hn
    · cases hn
  · rename_i id ver o m
    split at hn
    · rename_i T hT
      split at hn
      · rename_i hver
        cases hn
        cases h with
        | tv hk ho hv hh =>
          obtain ⟨lo, rl, hl, hTi⟩ := hm.tab hT
          obtain ⟨_, hh⟩ := hh T hT hver lo rl hl
          cases lo with
          | no => obtain ⟨h1, h2⟩ := hh; rw [h2]; exact ⟨_, _, h1⟩
          | pl b cap => obtain ⟨q, c, h1, _⟩ := hh; exact ⟨_, _, h1⟩
          | tb a b => exact hh.elim
      · cases hn
    · cases hn
  · rename_i id r
    split at hn
    · rename_i T hT
      split at hn
      · rename_i es hes
        cases hn
        cases h with
        | sw hk ho hv hh =>
          obtain ⟨lo, rl, hl, hTi⟩ := hm.tab hT
          have hh := hh T es hT hes lo rl hl
          have hA := hTi.row r es hes
          cases hr : rl r with
          | no => rw [hr] at hA hh; have hA : es = [] := hA; rw [hA]; exact ⟨_, _, hh⟩
          | pl b cap => rw [hr] at hh; exact ⟨_, _, hh⟩
          | tb a b => rw [hr] at hA; exact hA.elim
      · cases hn
    · cases hn
  · cases hn

theorem out_len {c : Call} {x : Operand} {t : TypeId} (ho : o.op = .call c) (hc : c.callee = .builtin .len) (ha : c.args.toList = [x]) (ht : c.argTypes.toList = [t]) (h : callV P c nid σ K) (hm : MC E (hget σ.h) loc kn w) (hs : SlotsOk (cxOf E (hget σ.h) loc w) (hget σ.h) loc kn σ.t a) : Out P E o σ nid loc kn w a K := by
  unfold callV at h
  simp only [hc, ha, ht] at h
  obtain ⟨T, hT, h⟩ := got_spec h
  obtain ⟨n, hn, h⟩ := got_spec h
  obtain ⟨hslc, h⟩ := h
  have hu := slc_spec hT hslc
  obtain ⟨ad, cap, hx⟩ := len_rep hm hn (evRep hs x)
  have e1 : c.args = #[x] := by cases hh : c.args; rw [hh] at ha; simp at ha; rw [ha]
  have e2 : c.argTypes = #[t] := by cases hh : c.argTypes; rw [hh] at ht; simp at ht; rw [ht]
  refine Out.quiet hm h (v := .int .i64 n) ?_ (.d (.v _))
  unfold execOp
  simp [ho, resolve, hc, e1, e2, invoke, builtin, Builtin.len_, run_underlying hu, hx, goInt]
end
end Go.Pm
/-
  The pure machine, part 8: parts of slices, stores, literals, appends.
-/
set_option linter.unusedSimpArgs false
set_option linter.unusedVariables false
namespace Go.Pm
open Go.RowKit

section
variable {P : Program} {E : Env} {loc : Locs} {kn : Nat → Prop} {w : World} {a : Act} {σ : St} {nid : Nat} {K : Kt} {o : Oper}

theorem bound_rep {C : Cx} {hg : Nat → Option Ob} {t : Slots} (hs : SlotsOk C hg loc kn t a) {d z : Int} {x : Option Operand} (h : bound d (x.map (ev t)) = some z) : (x = none ∧ z = d) ∨ ∃ y k, x = some y ∧ a.eval y = .int k z := by
  cases x with
  | none => left; simp [bound] at h; exact ⟨rfl, h.symm⟩
  | some y =>
    right
    simp only [Option.map_some] at h
    have hy := evRep hs y
    generalize ev t y = p at h hy
    unfold bound at h
    split at h
    · rename_i e; cases e
    · rename_i k z' e
      cases e
      cases h
      exact ⟨y, k, rfl, hy.val⟩
    · cases h

theorem run_bound {y : Value} {z : Int} {k : IntKind} {c : Nat} {code : BoundsCode} (e : y = .int k z) (g0 : 0 ≤ z) (g1 : z ≤ (c : Int)) : (Instr.sliceBound y c code).run P w = .ok z.toNat w := by
  simp [Instr.sliceBound, e, asIntOf, g0, g1]
/-- an operand that may be missing -/
def optIs (x : Option Value) (d z : Int) : Prop := (x = none ∧ z = d) ∨ ∃ k, x = some (.int k z)
theorem run_bounds {lo hi mx : Option Value} {l h m : Int} {n c : Nat} (hl : optIs lo 0 l) (hh : optIs hi n h) (hm : optIs mx h m) (hmh : mx.isSome = true → hi.isSome = true) (h0 : 0 ≤ l) (h1 : l ≤ h) (h2 : h ≤ m) (h3 : m ≤ n) (hc : n ≤ c) :
    ∃ mm : Nat, (mx = none → mm = c) ∧ h.toNat ≤ mm ∧ mm ≤ c ∧ (Instr.sliceBounds true n c lo hi mx).run P w = .ok (l.toNat, h.toNat, mm) w := by
  rcases hm with ⟨rfl, hm2⟩ | ⟨k3, rfl⟩
  · refine ⟨c, fun _ => rfl, by omega, Nat.le_refl _, ?_⟩
    rcases hh with ⟨rfl, hh2⟩ | ⟨k2, rfl⟩ <;> rcases hl with ⟨rfl, hl2⟩ | ⟨k1, rfl⟩
    · simp [Instr.sliceBounds, hh2, hl2]
    · have s1 := run_bound (P := P) (w := w) (k := k1) (c := n) (code := .sliceB) rfl h0 (by omega)
      simp [Instr.sliceBounds, hh2, s1]
    · have s2 := run_bound (P := P) (w := w) (k := k2) (c := c) (code := .sliceAcap) rfl (show 0 ≤ h by omega) (by omega)
      simp [Instr.sliceBounds, hl2, s2]
    · have s1 := run_bound (P := P) (w := w) (k := k1) (c := h.toNat) (code := .sliceB) rfl h0 (by omega)
      have s2 := run_bound (P := P) (w := w) (k := k2) (c := c) (code := .sliceAcap) rfl (show 0 ≤ h by omega) (by omega)
      simp [Instr.sliceBounds, s1, s2]
  · refine ⟨m.toNat, fun e => (by cases e), by omega, by omega, ?_⟩
    rcases hh with ⟨rfl, hh2⟩ | ⟨k2, rfl⟩
    · exact absurd (hmh rfl) (by simp)
    · have s3 := run_bound (P := P) (w := w) (k := k3) (c := c) (code := .slice3Acap) rfl (show 0 ≤ m by omega) (by omega)
      have s2 := run_bound (P := P) (w := w) (k := k2) (c := m.toNat) (code := .slice3B) rfl (show 0 ≤ h by omega) (by omega)
      rcases hl with ⟨rfl, hl2⟩ | ⟨k1, rfl⟩
      · simp [Instr.sliceBounds, hl2, s2, s3]
      · have s1 := run_bound (P := P) (w := w) (k := k1) (c := h.toNat) (code := .slice3C) rfl h0 (by omega)
        simp [Instr.sliceBounds, s1, s2, s3]

theorem trunc_spec {hg : Nat → Option Ob} {lo mx : Bool} {p : PV} {id ver : Nat} {a : Arr} (h : trunc hg lo mx p = some (id, ver, a)) : p = .sr id ver ∧ hg id = some (.arr a) ∧ a.ver = ver ∧ a.fz = false ∧ lo = false ∧ mx = false := by
  unfold trunc at h
  split at h
  · split at h
    · rename_i hob
      split at h
      · rename_i hc; cases h; exact ⟨rfl, hob, hc⟩
      · cases h
    · cases h
  · cases h
theorem truncT_spec {hg : Nat → Option Ob} {lo mx : Bool} {p : PV} {id ver : Nat} {a : Tab} (h : truncT hg lo mx p = some (id, ver, a)) : p = .st id ver ∧ hg id = some (.tab a) ∧ a.ver = ver ∧ a.fz = false ∧ lo = false ∧ mx = false := by
  unfold truncT at h
  split at h
  · split at h
    · rename_i hob
      split at h
      · rename_i hc; cases h; exact ⟨rfl, hob, hc⟩
      · cases h
    · cases h
  · cases h
theorem out_slice {t : TypeId} {x : Operand} {lo hi mx : Option Operand} (ho : o.op = .slice t x lo hi mx) (h : vcOp P o nid σ K) (hm : MC E (hget σ.h) loc kn w) (hs : SlotsOk (cxOf E (hget σ.h) loc w) (hget σ.h) loc kn σ.t a) : Out P E o σ nid loc kn w a K := by
  unfold vcOp at h
  simp only [ho] at h
  obtain ⟨T, hT, h⟩ := got_spec h
  obtain ⟨n, hn, h⟩ := got_spec h
  obtain ⟨l, hl, h⟩ := got_spec h
  obtain ⟨hh, hhi, h⟩ := got_spec h
  obtain ⟨m, hmx, h⟩ := got_spec h
  obtain ⟨E2, hE, h⟩ := got_spec h
  obtain ⟨⟨hslc, h0, hlh, hhm, hmn, hmh⟩, h⟩ := h
  have hu := slc_spec hT hslc
  have hszr := size_run (w := w) hE
  have opt : ∀ {d z : Int} {y : Option Operand}, bound d (y.map (ev σ.t)) = some z → optIs (y.map a.eval) d z := fun {d z y} g => by
    rcases bound_rep hs g with ⟨rfl, g2⟩ | ⟨y', k, rfl, g2⟩
    · exact .inl ⟨rfl, g2⟩
    · exact .inr ⟨k, by simp [g2]⟩
  have main : ∀ (ad : Option Addr) (c : Nat), a.eval x = .slice ad n c → n ≤ c → ∃ mm, (mx = none → mm = c) ∧ hh.toNat ≤ mm ∧ mm ≤ c ∧
      (execOp a.eval o).run P w = .ok (.value (.slice (if mm = l.toNat then ad else ad.map (·.add (l.toNat * E2.size))) (hh.toNat - l.toNat) (mm - l.toNat))) w := fun ad c e hc => by
    obtain ⟨mm, g0, g1, g2, g3⟩ := run_bounds (P := P) (w := w) (opt hl) (opt hhi) (opt hmx) (by simpa using hmh) h0 hlh hhm hmn hc
    exact ⟨mm, fun e => g0 (by rw [e]; rfl), g1, g2, by unfold execOp; simp [ho, Instr.sliceAt, Instr.slice, run_underlying hu, e, g3, hszr]⟩
  split at h
  · rename_i id ver a' ht
    obtain ⟨he, hob, hver, hfz, hlo, hmx0⟩ := trunc_spec ht
    have hx := evRep hs x
    rw [he] at hx hn
    have hn0 : n = a'.es.length := by
      simp only [lenOf, hob, hver] at hn
      simpa using hn.symm
    have hmxn : mx = none := by cases mx with
      | none => rfl
      | some _ => cases hmx0
    have hl0 : l = 0 := by
      cases lo with
      | none => cases hl; rfl
      | some _ => cases hlo
    have ht' := Tr.shrink hm hob hfz hh.toNat
    obtain ⟨_, hA⟩ := hm.arr hob
    generalize hav : a.eval x = av at hx
    cases hx with
    | sr hk ho1 hv hh1 =>
      have hh1 := hh1 a' hob hver
      have e0 : upd [(id, .arr { a' with es := a'.es.take hh.toNat, ver := a'.ver + 1 })] (hget σ.h) = upd [(id, .arr { a' with es := a'.es.take hh.toNat, ver := ver + 1 })] (hget σ.h) := by rw [hver]
      rw [e0] at ht'
      have fin : ∀ v : Value, v.oneCell' = true → (execOp a.eval o).run P w = .ok (.value v) w → (match loc id with
          | .no => v = .slice none 0 0
          | .pl b cap => v = .slice (some ⟨b, 0, none⟩) (a'.es.take hh.toNat).length cap
          | .tb _ _ => False) → Out P E o σ nid loc kn w a K := fun v hv1 hrun hval => by
        refine ⟨_, _, _, v, _, _, w, h, .inl hrun, ht', .sr (.inr rfl) hv1 (fun a2 h2 => ?_) (fun a2 h2 _ => ?_), fun i hi => ?_⟩
        · simp only [upd, if_true] at h2; cases h2; exact Nat.le_refl _
        · simp only [upd, if_true] at h2
          cases h2
          rw [show locAdd loc id (loc id) id = loc id from if_pos rfl]
          exact hval
        · rcases hi with hi | hi
          · exact .inl hi
          · subst hi; exact .inl hk
      cases hloc : loc id with
      | tb lo2 rl => rw [hloc] at hA; exact hA.elim
      | no =>
        rw [hloc] at hA hh1
        have hA : a'.es = [] := hA
        have hn1 : n = 0 := by rw [hn0, hA]; rfl
        obtain ⟨mm, _, g1, g2, hrun⟩ := main none 0 (by rw [hav, hh1, hn1]) (by omega)
        have z2 : hh.toNat = 0 := by omega
        have z3 : mm = 0 := by omega
        rw [hl0, z2, z3] at hrun
        exact fin _ rfl hrun (by rw [hloc]; simp)
      | pl b cap =>
        rw [hloc] at hA hh1
        obtain ⟨c, c1, c2, c3, c4, c5, c6⟩ := hA
        obtain ⟨mm, g0, g1, g2, hrun⟩ := main (some ⟨b, 0, none⟩) cap (by rw [hav, hh1, hn0]) (by omega)
        have z3 := g0 hmxn
        rw [hl0, z3] at hrun
        have e9 : (if cap = (0 : Int).toNat then some (⟨b, 0, none⟩ : Addr) else (some (⟨b, 0, none⟩ : Addr)).map (·.add ((0 : Int).toNat * E2.size))) = some ⟨b, 0, none⟩ := by
          split
          · rfl
          · simp [Addr.add_lit]
        rw [e9] at hrun
        refine fin _ rfl hrun ?_
        rw [hloc]
        have : (a'.es.take hh.toNat).length = hh.toNat - (0 : Int).toNat := by rw [List.length_take]; simp; omega
        rw [this]
        simp
  split at h
  · rename_i id ver a' ht
    obtain ⟨hsz1, h⟩ := h
    obtain ⟨he, hob, hver, hfz, hlo, hmx0⟩ := truncT_spec ht
    have hx := evRep hs x
    rw [he] at hx hn
    have hn0 : n = a'.out.length := by
      simp only [lenOf, hob, hver] at hn
      simpa using hn.symm
    have hmxn : mx = none := by cases mx with
      | none => rfl
      | some _ => cases hmx0
    have hl0 : l = 0 := by
      cases lo with
      | none => cases hl; rfl
      | some _ => cases hlo
    have ht' := Tr.shrinkTab hm hob hfz hh.toNat
    obtain ⟨lo', rl, hloc, hTi⟩ := hm.tab hob
    have hout := hTi.out
    generalize hav : a.eval x = av at hx
    cases hx with
    | st hk ho1 hv hh1 =>
      have hh1 := hh1 a' hob hver lo' rl hloc
      have e0 : upd [(id, .tab { a' with out := a'.out.take hh.toNat, ver := a'.ver + 1 })] (hget σ.h) = upd [(id, .tab { a' with out := a'.out.take hh.toNat, ver := ver + 1 })] (hget σ.h) := by rw [hver]
      rw [e0] at ht'
      have fin : ∀ v : Value, v.oneCell' = true → (execOp a.eval o).run P w = .ok (.value v) w → v = lo'.val (a'.out.take hh.toNat).length → Out P E o σ nid loc kn w a K := fun v hv1 hrun hval => by
        refine ⟨_, _, _, v, _, _, w, h, .inl hrun, ht', .st (.inr rfl) hv1 (fun a2 h2 => ?_) (fun a2 h2 _ lo2 rl2 hl2 => ?_), fun i hi => ?_⟩
        · simp only [upd, if_true] at h2; cases h2; exact Nat.le_refl _
        · simp only [upd, if_true] at h2
          cases h2
          rw [show locAdd loc id (loc id) id = loc id from if_pos rfl, hloc] at hl2
          cases hl2
          exact hval
        · rcases hi with hi | hi
          · exact .inl hi
          · subst hi; exact .inl hk
      cases lo' with
      | tb a b => exact hout.elim
      | no =>
        have hout : a'.out = [] := hout
        have hn1 : n = 0 := by rw [hn0, hout]; rfl
        obtain ⟨mm, _, g1, g2, hrun⟩ := main none 0 (by rw [hav, hh1, hn1]; rfl) (by omega)
        have z2 : hh.toNat = 0 := by omega
        have z3 : mm = 0 := by omega
        rw [hl0, z2, z3] at hrun
        exact fin _ rfl hrun rfl
      | pl b cap =>
        obtain ⟨c, c1, c2, c3, c4, c5⟩ := hout
        obtain ⟨mm, g0, g1, g2, hrun⟩ := main (some ⟨b, 0, none⟩) cap (by rw [hav, hh1, hn0]; rfl) (by omega)
        have z3 := g0 hmxn
        rw [hl0, z3] at hrun
        have e9 : (if cap = (0 : Int).toNat then some (⟨b, 0, none⟩ : Addr) else (some (⟨b, 0, none⟩ : Addr)).map (·.add ((0 : Int).toNat * E2.size))) = some ⟨b, 0, none⟩ := by
          split
          · rfl
          · simp [Addr.add_lit]
        rw [e9] at hrun
        refine fin _ rfl hrun ?_
        have : (a'.out.take hh.toNat).length = hh.toNat - (0 : Int).toNat := by rw [List.length_take]; simp; omega
        rw [this]
        simp [Lc.val]
  split at h
  · rename_i id ver he
    obtain ⟨hsz1, hfin⟩ := h
    have hx := evRep hs x
    rw [he] at hx hn
    simp only [lenOf] at hn
    split at hn
    · rename_i tt hob
      split at hn
      · rename_i hver
        cases hn
        obtain ⟨lo', rl, hloc, hTi⟩ := hm.tab hob
        generalize hav : a.eval x = av at hx
        cases hx with
        | st hk ho1 hv hh1 =>
          have hh1 := hh1 tt hob hver lo' rl hloc
          have hout := hTi.out
          cases lo' with
          | tb a b => exact hout.elim
          | no =>
            have hout : tt.out = [] := hout
            have e3 : tt.out.length = 0 := by rw [hout]; rfl
            obtain ⟨mm, _, g1, g2, hrun⟩ := main none 0 (by rw [hav, hh1, e3]; rfl) (by omega)
            have z1 : l.toNat = 0 := by omega
            have z2 : hh.toNat = 0 := by omega
            have z3 : mm = 0 := by omega
            rw [z1, z2, z3] at hrun
            refine Out.quiet hm hfin hrun ?_
            rw [z1, z2]
            refine .tv hk rfl hv (fun T' h' _ lo2 rl2 hl2 => ?_)
            rw [hloc] at hl2
            cases hl2
            exact ⟨by omega, rfl, rfl⟩
          | pl b cap =>
            obtain ⟨c, c1, c2, c3, c4, c5⟩ := hout
            obtain ⟨mm, _, g1, g2, hrun⟩ := main (some ⟨b, 0, none⟩) cap (by rw [hav, hh1]; rfl) c3
            refine Out.quiet hm hfin hrun (.tv hk rfl hv (fun T' h' _ lo2 rl2 hl2 => ?_))
            rw [hob] at h'
            cases h'
            rw [hloc] at hl2
            cases hl2
            refine ⟨by omega, if mm = l.toNat then 0 else l.toNat, mm - l.toNat, ?_, fun h1 => ?_, by omega, by omega⟩
            · rw [hsz1, Option.map_some, Addr.add_lit, Nat.mul_one, Nat.zero_add]
              split <;> rfl
            · rw [if_neg (by omega)]
      · cases hn
    · cases hn
  · obtain ⟨es, hes, hsz, hfin⟩ := got_spec h
    obtain ⟨loc', kn', ht', hk'⟩ := Tr.frz hm (f0 (ev σ.t x))
    have hr := d0_rep ht' (els_spec hes) (fun id hi => frz_in id hi) (evRep hs x)
    obtain ⟨ad0, cap0, hx0⟩ := len_rep hm hn (evRep hs x)
    rcases rep_sl_shape hr with ⟨a0, c0, e, e2, hc0⟩ | ⟨b, q, c, e, hc, _⟩
    · have hn0 : n = 0 := by rw [e] at hx0; cases hx0; rfl
      obtain ⟨mm, _, g1, g2, hrun⟩ := main a0 c0 (by rw [e, hn0]) (by omega)
      have z1 : l.toNat = 0 := by omega
      have z2 : hh.toNat = 0 := by omega
      rw [z1, z2] at hrun
      refine ⟨_, _, _, _, loc', kn', w, hfin, .inl hrun, ht', ?_, fun id hi => .inl (hk' id hi)⟩
      rw [z1, z2, e2]
      exact .d (.emp _ _ (by omega))
    · have hn0 : n = es.length := by rw [e] at hx0; cases hx0; rfl
      obtain ⟨mm, _, g1, g2, hrun⟩ := main (some ⟨b, q, none⟩) c (by rw [e, hn0]) (by omega)
      refine ⟨_, _, _, _, loc', kn', w, hfin, .inl hrun, ht', ?_, fun id hi => .inl (hk' id hi)⟩
      have := rep_part (by rw [e] at hr; exact hr) E2.size hsz l.toNat (hh.toNat - l.toNat) mm (by omega) (by omega) g2
      rw [Option.map_some, Addr.add_lit]
      exact .d this

/-! ### stores -/
theorem splice_get {α : Type} {cs new : List α} {off : Nat} (h : off + new.length ≤ cs.length) (j : Nat) : (splice cs off new)[j]? = if off ≤ j ∧ j < off + new.length then new[j - off]? else cs[j]? := by
  unfold splice
  by_cases h1 : j < off
  · rw [if_neg (by omega), List.append_assoc, List.getElem?_append_left (by rw [List.length_take]; omega), List.getElem?_take_of_lt h1]
  · by_cases h2 : j < off + new.length
    · rw [if_pos ⟨by omega, h2⟩, List.append_assoc, List.getElem?_append_right (by rw [List.length_take]; omega), List.length_take, Nat.min_eq_left (by omega), List.getElem?_append_left (by omega)]
    · rw [if_neg (by omega), List.getElem?_append_right (by rw [List.length_append, List.length_take]; omega), List.getElem?_drop, List.length_append, List.length_take, Nat.min_eq_left (by omega)]
      congr 1; omega
theorem splice_len {α : Type} {cs new : List α} {off : Nat} (h : off + new.length ≤ cs.length) : (splice cs off new).length = cs.length := by
  simp only [splice, List.length_append, List.length_take, List.length_drop]; omega

theorem run_store_at {t : TypeId} {T : Ty} (hT : TY P t = some T) {b q : Nat} {c : Array Value} {e : TypeId} (hb : w.heap[b]? = some (.cells c e (0, 0))) {v : Value} (hv : v.cells.size = T.size) (hq : q + T.size ≤ c.size) (h1 : ∀ u ∈ v.cells.toList, u.oneCell' = true) :
    (storeVar t ⟨b, q, none⟩ v).run P w = .ok () (w.setRow b (splice c.toList q v.cells.toList).toArray) := by
  have hst := run_storeCells_at (P := P) b q e v.cells.toList 0 c w hb (by simp; omega) h1
  simp only [Nat.add_zero] at hst
  have hz := size_run (w := w) hT
  simp [storeVar, hz, hv, hst, splice]

theorem out_store {t : TypeId} {x y : Operand} (ho : o.op = .store t x y) (h : vcOp P o nid σ K) (hm : MC E (hget σ.h) loc kn w) (hs : SlotsOk (cxOf E (hget σ.h) loc w) (hget σ.h) loc kn σ.t a) : Out P E o σ nid loc kn w a K := by
  unfold vcOp at h
  simp only [ho] at h
  obtain ⟨T, hT, h⟩ := got_spec h
  unfold storeV at h
  have hx := evRep hs x
  split at h
  · rename_i id ver i off he
    obtain ⟨ob, hob, h⟩ := got_spec h
    rw [he] at hx
    split at h
    · rename_i cs
      obtain ⟨⟨hl1, hl2, h1⟩, h⟩ := h
      obtain ⟨g1, g2⟩ := cells_rep (evRep hs y) (allOne_mem h1)
      obtain ⟨b, cap, c, e0, hl, hblk, hcl, hcs⟩ := hm.box hob
      cases hx with
      | @pr _ _ _ _ _ hk ho1 hv hb ha =>
        have e1 := hb cs hob b cap hl
        have hone : ∀ u ∈ (a.eval y).cells.toList, u.oneCell' = true := fun u hu => by
          obtain ⟨j, hj, rfl⟩ := List.getElem_of_mem hu
          rw [Array.length_toList, g1] at hj
          obtain ⟨u', g3, g4, _⟩ := g2 j _ (List.getElem?_eq_getElem hj)
          rw [Array.getElem?_eq_getElem (by omega)] at g3
          cases g3
          simpa using g4
        have hrun := run_store_at hT hblk (v := a.eval y) (q := off) (by omega) (by omega) hone
        have ht := Tr.setBox hm hob hl (splice cs off (cellsP (ev σ.t y))) (splice c.toList off (a.eval y).cells.toList).toArray (by
            rw [List.size_toArray, splice_len (by rw [Array.length_toList, Array.length_toList]; omega), splice_len (by omega), Array.length_toList, hcl]) (fun j p hj => by
          rw [splice_get (by omega)] at hj
          rw [List.getElem?_toArray, splice_get (by rw [Array.length_toList, Array.length_toList]; omega), Array.length_toList, g1]
          by_cases hc : off ≤ j ∧ j < off + (cellsP (ev σ.t y)).length
          · rw [if_pos hc] at hj ⊢
            rw [Array.getElem?_toList]
            exact g2 _ p hj
          · rw [if_neg hc] at hj ⊢
            rw [Array.getElem?_toList]
            exact hcs j p hj)
        refine ⟨_, _, _, _, _, _, _, h, .inr ⟨?_, rfl⟩, ht, .any _, kn_same (hm.objs _ _ hob).1⟩
        unfold execOp
        simp [ho, e1, Instr.storeAt, Instr.sureAddr, hrun]
    · rename_i ar
      obtain ⟨ds, hds, h⟩ := got_spec h
      obtain ⟨⟨hver, hfz, hl1, hl2, h1, hno⟩, e, he', h⟩ := h
      have hlc : (cellsP (ev σ.t y)).length = T.size := by rw [← (d0s_len hds).1, hl1]
      obtain ⟨g1, g2⟩ := cells_rep (evRep hs y) (allOne_mem h1)
      have hone : ∀ u ∈ (a.eval y).cells.toList, u.oneCell' = true := fun u hu => by
        obtain ⟨j, hj, rfl⟩ := List.getElem_of_mem hu
        rw [Array.length_toList, g1] at hj
        obtain ⟨u', g3, g4, _⟩ := g2 j _ (List.getElem?_eq_getElem hj)
        rw [Array.getElem?_eq_getElem (by omega)] at g3
        cases g3
        simpa using g4
      -- what is stored is frozen first
      obtain ⟨loc', kn', ht', hk'⟩ := Tr.frz hm (f0s (cellsP (ev σ.t y)))
      have hob' : upd (frz (hget σ.h) (f0s (cellsP (ev σ.t y)))) (hget σ.h) id = some (.arr ar) := by rw [frz_not hno, hob]
      have hcell : ∀ (j : Nat) (x : D), ds[j]? = some x → Rep (cxOf E (upd (frz (hget σ.h) (f0s (cellsP (ev σ.t y)))) (hget σ.h)) loc' w) x (((a.eval y).cells[j]?).getD undef) := d0s_rep ht' hds (fun id hi => frz_in id hi) (fun j p hj => by
        obtain ⟨u, g3, _, g5⟩ := g2 j p hj
        rw [g3]; exact g5)
      obtain ⟨hk0, hA⟩ := ht'.mc.arr hob'
      cases hl : loc' id with
      | no =>
        rw [hl] at hA
        have hA : ar.es = [] := hA
        rw [hA] at he'
        cases he'
      | tb lo rl => rw [hl] at hA; exact hA.elim
      | pl b cap =>
        rw [hl] at hA
        obtain ⟨c, h2, h3, h4, h5, h6, h7⟩ := hA
        have hel : e.length = ar.k := h6 e (List.mem_of_getElem? he')
        have hil : i < ar.es.length := (List.getElem?_eq_some_iff.1 he').1
        have hir : (i + 1) * ar.k ≤ cap * ar.k := Nat.mul_le_mul_right _ (by omega)
        rw [Nat.add_mul, Nat.one_mul] at hir
        have hx' := hx.le ht'.cx ht'.rf (fun _ h => ht'.kn _ h)
        cases hx' with
        | @pr _ _ _ _ _ hk ho1 hv hb ha =>
          have e1 := ha ar hob' hver b cap hl
          have hrun := run_store_at hT (show w.heap[b]? = _ from h2) (v := a.eval y) (q := i * ar.k + off) (by omega) (by omega) hone
          have ht := Tr.setArr ht'.mc hob' hl hfz (ar.es.set i (splice e off ds)) (by simp) (fun x hx => by
              rcases List.mem_or_eq_of_mem_set hx with hx | rfl
              · exact h6 x hx
              · rw [splice_len (by omega)]; exact hel) (splice c.toList (i * ar.k + off) (a.eval y).cells.toList).toArray (by
              rw [List.size_toArray, splice_len (by rw [Array.length_toList, Array.length_toList]; omega), Array.length_toList, h3]) (fun i' j x d hx hd => by
            rw [List.getElem?_toArray, splice_get (by rw [Array.length_toList, Array.length_toList]; omega), Array.length_toList, g1, hlc]
            have hjl : j < x.length := (List.getElem?_eq_some_iff.1 hd).1
            by_cases hii : i' = i
            · subst hii
              rw [List.getElem?_set_self hil] at hx
              cases hx
              rw [splice_get (by omega), hl1] at hd
              rw [splice_len (by omega), hel] at hjl
              by_cases hc : off ≤ j ∧ j < off + T.size
              · rw [if_pos hc] at hd
                rw [if_pos (by omega), Array.getElem?_toList, show i' * ar.k + j - (i' * ar.k + off) = j - off by omega]
                have hr := hcell _ d hd
                have hjy : j - off < (a.eval y).cells.size := by omega
                refine ⟨_, Array.getElem?_eq_getElem hjy, hone _ (by simp), ?_⟩
                rw [Array.getElem?_eq_getElem hjy] at hr
                exact hr
              · rw [if_neg hc] at hd
                rw [if_neg (by omega), Array.getElem?_toList]
                exact h7 i' j e d he' hd
            · rw [List.getElem?_set_ne (Ne.symm hii)] at hx
              rw [h6 x (List.mem_of_getElem? hx)] at hjl
              have hne : ¬ (i * ar.k + off ≤ i' * ar.k + j ∧ i' * ar.k + j < i * ar.k + off + T.size) := by
                rcases Nat.lt_or_gt_of_ne hii with h8 | h8
                · have : (i' + 1) * ar.k ≤ i * ar.k := Nat.mul_le_mul_right _ h8
                  rw [Nat.add_mul, Nat.one_mul] at this
                  omega
                · have : (i + 1) * ar.k ≤ i' * ar.k := Nat.mul_le_mul_right _ h8
                  rw [Nat.add_mul, Nat.one_mul] at this
                  omega
              rw [if_neg hne, Array.getElem?_toList]
              exact h7 i' j x d hx hd)
          have ht2 := ht'.trans ht
          rw [← upd_cons] at ht2
          refine ⟨_, _, _, _, _, _, _, h, .inr ⟨?_, rfl⟩, ht2, .any _, ?_⟩
          · unfold execOp
            simp only [ho, e1, Instr.storeAt, Instr.sureAddr, Sem.run_bind, Sem.run_pure, Result.andThen_ok, hrun]
          · intro x hx
            rcases hx with hx | hx
            · exact .inl (hk' x hx)
            · subst hx; exact .inl (hm.objs _ _ hob).1
    · exact h.elim
  · rename_i id r i off he
    obtain ⟨ob, hob, h⟩ := got_spec h
    rw [he] at hx
    split at h
    · rename_i t
      obtain ⟨ds, hds, h⟩ := got_spec h
      obtain ⟨⟨hfz, hl1, hl2, h1, hno⟩, es, hes, e, he', h⟩ := h
      have hlc : (cellsP (ev σ.t y)).length = T.size := by rw [← (d0s_len hds).1, hl1]
      obtain ⟨g1, g2⟩ := cells_rep (evRep hs y) (allOne_mem h1)
      have hone : ∀ u ∈ (a.eval y).cells.toList, u.oneCell' = true := fun u hu => by
        obtain ⟨j, hj, rfl⟩ := List.getElem_of_mem hu
        rw [Array.length_toList, g1] at hj
        obtain ⟨u', g3, g4, _⟩ := g2 j _ (List.getElem?_eq_getElem hj)
        rw [Array.getElem?_eq_getElem (by omega)] at g3
        cases g3
        simpa using g4
      obtain ⟨loc', kn', ht', hk'⟩ := Tr.frz hm (f0s (cellsP (ev σ.t y)))
      have hob' : upd (frz (hget σ.h) (f0s (cellsP (ev σ.t y)))) (hget σ.h) id = some (.tab t) := by rw [frz_not hno, hob]
      have hcell : ∀ (j : Nat) (x : D), ds[j]? = some x → Rep (cxOf E (upd (frz (hget σ.h) (f0s (cellsP (ev σ.t y)))) (hget σ.h)) loc' w) x (((a.eval y).cells[j]?).getD undef) := d0s_rep ht' hds (fun id hi => frz_in id hi) (fun j p hj => by
        obtain ⟨u, g3, _, g5⟩ := g2 j p hj
        rw [g3]; exact g5)
      obtain ⟨lo, rl, hl, hTi⟩ := ht'.mc.tab hob'
      have hA := hTi.row r es hes
      have hil : i < es.length := (List.getElem?_eq_some_iff.1 he').1
      obtain ⟨b, cap, hrl⟩ := hA.at hil
      rw [hrl] at hA
      obtain ⟨c, h2, h3, h4, h5, h6, h7⟩ := hA
      have h3 : c.size = cap * t.k := h3
      have h4 : es.length ≤ cap := h4
      have h6 : ∀ e ∈ es, e.length = t.k := h6
      have h7 : ∀ (i j : Nat) (e : List D) (d : D), es[i]? = some e → e[j]? = some d → ∃ u, c[i * t.k + j]? = some u ∧ u.oneCell' = true ∧ Rep (cxOf E (upd (frz (hget σ.h) (f0s (cellsP (ev σ.t y)))) (hget σ.h)) loc' w) d u := h7
      have hel : e.length = t.k := h6 e (List.mem_of_getElem? he')
      have hir : (i + 1) * t.k ≤ cap * t.k := Nat.mul_le_mul_right _ (by omega)
      rw [Nat.add_mul, Nat.one_mul] at hir
      have hx' := hx.le ht'.cx ht'.rf (fun _ h => ht'.kn _ h)
      cases hx' with
      | @pw _ _ _ _ _ hk ho1 hv hh =>
        have e1 := hh t es hob' hes lo rl b cap hl hrl
        have hrun := run_store_at hT (show w.heap[b]? = _ from h2) (v := a.eval y) (q := i * t.k + off) (by omega) (by omega) hone
        have ht := Tr.setEl ht'.mc hob' hl hfz hes hrl (es.set i (splice e off ds)) (by simp) (fun x hx => by
            rcases List.mem_or_eq_of_mem_set hx with hx | rfl
            · exact h6 x hx
            · rw [splice_len (by omega)]; exact hel) (splice c.toList (i * t.k + off) (a.eval y).cells.toList).toArray (by
            rw [List.size_toArray, splice_len (by rw [Array.length_toList, Array.length_toList]; omega), Array.length_toList, h3]) (fun i' j x d hx hd => by
          rw [List.getElem?_toArray, splice_get (by rw [Array.length_toList, Array.length_toList]; omega), Array.length_toList, g1, hlc]
          have hjl : j < x.length := (List.getElem?_eq_some_iff.1 hd).1
          by_cases hii : i' = i
          · subst hii
            rw [List.getElem?_set_self hil] at hx
            cases hx
            rw [splice_get (by omega), hl1] at hd
            rw [splice_len (by omega), hel] at hjl
            by_cases hc : off ≤ j ∧ j < off + T.size
            · rw [if_pos hc] at hd
              rw [if_pos (by omega), Array.getElem?_toList, show i' * t.k + j - (i' * t.k + off) = j - off by omega]
              have hr := hcell _ d hd
              have hjy : j - off < (a.eval y).cells.size := by omega
              refine ⟨_, Array.getElem?_eq_getElem hjy, hone _ (by simp), ?_⟩
              rw [Array.getElem?_eq_getElem hjy] at hr
              exact hr
            · rw [if_neg hc] at hd
              rw [if_neg (by omega), Array.getElem?_toList]
              exact h7 i' j e d he' hd
          · rw [List.getElem?_set_ne (Ne.symm hii)] at hx
            rw [h6 x (List.mem_of_getElem? hx)] at hjl
            have hne : ¬ (i * t.k + off ≤ i' * t.k + j ∧ i' * t.k + j < i * t.k + off + T.size) := by
              rcases Nat.lt_or_gt_of_ne hii with h8 | h8
              · have : (i' + 1) * t.k ≤ i * t.k := Nat.mul_le_mul_right _ h8
                rw [Nat.add_mul, Nat.one_mul] at this
                omega
              · have : (i + 1) * t.k ≤ i' * t.k := Nat.mul_le_mul_right _ h8
                rw [Nat.add_mul, Nat.one_mul] at this
                omega
            rw [if_neg hne, Array.getElem?_toList]
            exact h7 i' j x d hx hd)
        have ht2 := ht'.trans ht
        rw [← upd_cons] at ht2
        refine ⟨_, _, _, _, _, _, _, h, .inr ⟨?_, rfl⟩, ht2, .any _, ?_⟩
        · unfold execOp
          simp only [ho, e1, Instr.storeAt, Instr.sureAddr, Sem.run_bind, Sem.run_pure, Result.andThen_ok, hrun]
        · intro x hx
          rcases hx with hx | hx
          · exact .inl (hk' x hx)
          · subst hx; exact .inl (hm.objs _ _ hob).1
    · exact h.elim
  · rename_i id ver i he
    obtain ⟨ob, hob, h⟩ := got_spec h
    rw [he] at hx
    split at h
    · rename_i t
      obtain ⟨⟨hver, hfz, hsz1, hil⟩, h⟩ := h
      obtain ⟨lo, rl, hl, hTi⟩ := hm.tab hob
      have hout := hTi.out
      cases lo with
      | no => have hout : t.out = [] := hout; rw [hout] at hil; exact absurd hil (by simp)
      | tb _ _ => exact hout.elim
      | pl b cap =>
        obtain ⟨c, c1, c2, c3, c4, c5⟩ := hout
        have hlt : i < c.size := by omega
        have hset : ∀ v : Value, (splice c.toList i [v]).toArray = c.setIfInBounds i v := fun v => by
          apply Array.ext_getElem?
          intro j
          rw [List.getElem?_toArray, splice_get (by simp; omega)]
          by_cases hji : j = i
          · subst hji
            rw [if_pos (by simp), Nat.sub_self, Array.getElem?_setIfInBounds_self_of_lt hlt]
            rfl
          · rw [if_neg (by simp; omega), Array.getElem?_setIfInBounds_ne (Ne.symm hji), Array.getElem?_toList]
        have runs : ∀ v : Value, v.cells = #[v] → v.oneCell' = true → a.eval x = .pointer (some ⟨b, i, none⟩) → a.eval y = v → (execOp a.eval o).run P w = .ok .skip (w.setRow b (c.setIfInBounds i v)) := fun v hv1 hv2 ex ey => by
          have hrun := run_store_at hT (show w.heap[b]? = _ from c1) (v := v) (q := i) (by rw [hv1, hsz1]; rfl) (by omega) (fun u hu => by rw [hv1] at hu; have : u = v := by simpa using hu
                                                                                                                                           rw [this]; exact hv2)
          rw [hv1] at hrun
          rw [← hset v]
          unfold execOp
          simp only [ho, ex, ey, Instr.storeAt, Instr.sureAddr, Sem.run_bind, Sem.run_pure, Result.andThen_ok, hrun]
        have hxp : a.eval x = .pointer (some ⟨b, i, none⟩) := by
          cases hx with
          | po hk ho1 hv hh => exact hh t hob hver b cap rl hl
        have hval : ∀ (l : Lc) (n : Nat), (l.val n).cells = #[l.val n] ∧ (l.val n).oneCell' = true := fun l n => by cases l <;> exact ⟨rfl, rfl⟩
        have hy := evRep hs y
        split at h
        · rename_i id1 r hy1
          obtain ⟨rfl, es, hes, h⟩ := h
          rw [hy1] at hy
          have hyv : a.eval y = (rl r).val es.length := by
            cases hy with
            | sw hk ho1 hv hh => exact hh t es hob hes _ rl hl
          exact ⟨_, _, _, _, _, _, _, h, .inr ⟨runs _ (hval _ _).1 (hval _ _).2 hxp hyv, rfl⟩, Tr.setOut hm hob hl hfz hes hil c1, .any _, kn_same (hm.objs _ _ hob).1⟩
        · rename_i id1 ver1 hy1
          obtain ⟨ob1, hob1, h⟩ := got_spec h
          split at h
          · rename_i ar
            obtain ⟨⟨hv1, haf, hae, hak, hne⟩, h⟩ := h
            rw [hy1] at hy
            have hyv : a.eval y = (loc id1).val ar.es.length := by
              cases hy with
              | sr hk ho1 hv hh =>
                have := hh ar hob1 hv1
                cases hl1 : loc id1 <;> rw [hl1] at this <;> first | exact this | exact this.elim
            have hother : ∀ x, x ≠ b → (w.setRow b (c.setIfInBounds i ((loc id1).val ar.es.length))).heap[x]? = w.heap[x]? := fun x hx => setRow_other w b x _ hx
            have hbn : rl t.rows.length = .no := hTi.gone _ (by simp [Tab.row])
            have ht := Tr.adoptRow hm hob hl hfz hob1 hne haf hae hak (t.out.set i t.rows.length) t.ver (.pl b cap) (w.setRow b (c.setIfInBounds i ((loc id1).val ar.es.length))) (by rw [setRow_size]; exact Nat.le_refl _) rfl rfl rfl
              (fun x hx hno => hother x (fun e => hno e)) (fun x hx => .inl hx) (Nat.le_refl _) (fun _ => ⟨by simp, rfl⟩) (fun j q hq => by
                by_cases hji : j = i
                · subst hji
                  rw [List.getElem?_set_self hil] at hq
                  cases hq
                  omega
                · rw [List.getElem?_set_ne (Ne.symm hji)] at hq
                  have := hTi.idx j q hq
                  omega) ⟨_, heap_setRow_same w b c _ t.el c1, by simp [c2], by simpa using c3, c4, fun j q es2 hq h2 => by
                by_cases hji : j = i
                · subst hji
                  rw [List.getElem?_set_self hil] at hq
                  cases hq
                  simp only [Tab.row, List.getElem?_append_right (Nat.le_refl _), Nat.sub_self, List.getElem?_cons_zero, Option.getD_some, Option.some.injEq] at h2
                  subst h2
                  rw [Array.getElem?_setIfInBounds_self_of_lt hlt]
                  exact congrArg (fun l : Lc => some (l.val ar.es.length)) (if_pos rfl).symm
                · rw [List.getElem?_set_ne (Ne.symm hji)] at hq
                  rw [Array.getElem?_setIfInBounds_ne (Ne.symm hji)]
                  have hqn := hTi.idx j q hq
                  simp only [Tab.row, List.getElem?_append_left hqn] at h2
                  rw [c5 j q es2 hq h2]
                  exact congrArg (fun l : Lc => some (l.val es2.length)) (if_neg (by omega)).symm⟩
            refine ⟨_, _, _, _, _, _, _, h, .inr ⟨runs _ (hval _ _).1 (hval _ _).2 hxp hyv, rfl⟩, ht, .any _, fun x hx => ?_⟩
            rcases hx with hx | rfl | rfl
            · exact .inl hx
            · exact .inl (hm.objs _ _ hob).1
            · exact .inl (hm.objs _ _ hob1).1
          · exact h.elim
        · exact h.elim
    · exact h.elim
  · exact h.elim

/-! ### literals -/
theorem fill_rep {C : Cx} {hg : Nat → Option Ob} {flds : List (Nat × Nat)} {pl : Nat → Option (Nat × Nat)} (hpl : ∀ i x, flds[i]? = some x → pl i = some x) : ∀ {ps : List (Nat × PV)} {vs : List (Nat × Value)} {cells r : List PV} {c : Array Value},
    (∀ (j : Nat) (p : Nat × PV), ps[j]? = some p → (∀ q ∈ cellsP p.2, q.one) ∧ ∃ v, vs[j]? = some (p.1, v) ∧ PRep C hg loc kn p.2 v) → ps.length = vs.length → fillP flds ps cells = some r → c.size = cells.length →
    (∀ (j : Nat) (p : PV), cells[j]? = some p → ∃ u, c[j]? = some u ∧ PRep C hg loc kn p u) →
    ∃ c', Instr.fill pl c vs = some c' ∧ c'.size = r.length ∧ ∀ (j : Nat) (p : PV), r[j]? = some p → ∃ u, c'[j]? = some u ∧ PRep C hg loc kn p u
  | [], vs, cells, r, c, _, hl, h, hc, hj => by
    have : vs = [] := List.eq_nil_of_length_eq_zero hl.symm
    subst this
    cases h
    exact ⟨c, rfl, hc, hj⟩
  | (i, p) :: ps, [], _, _, _, _, hl, _, _, _ => by cases hl
  | (i, p) :: ps, (i', v) :: vs, cells, r, c, hp, hl, h, hc, hj => by
    obtain ⟨h1p, v', hv, hr⟩ := hp 0 (i, p) rfl
    cases hv
    unfold fillP at h
    split at h
    · rename_i off sz hf
      split at h
      · rename_i hcond
        obtain ⟨h1, h2⟩ := hcond
        have hsz : v.cells.size = (cellsP p).length ∧ ∀ (j : Nat) (q : PV), (cellsP p)[j]? = some q → ∃ u, v.cells[j]? = some u ∧ PRep C hg loc kn q u := by
          obtain ⟨x1, x2⟩ := cells_rep hr h1p
          exact ⟨x1, fun j q hq => by obtain ⟨u, y1, _, y3⟩ := x2 j q hq; exact ⟨u, y1, y3⟩⟩
        obtain ⟨g1, g2⟩ := hsz
        obtain ⟨f1, f2⟩ := Great.foldl_set off v.cells.toList 0 c
        have := fill_rep hpl (ps := ps) (vs := vs) (cells := splice cells off (cellsP p)) (r := r) (c := (v.cells.toList.zipIdx 0).foldl (fun cs (x : Value × Nat) => cs.setIfInBounds (off + x.2) x.1) c)
          (fun j q hq => hp (j + 1) q hq) (by simpa using hl) h (by rw [f1, splice_len (by omega), hc]) (fun j q hq => by
            rw [f2 j, Array.length_toList, g1, Nat.add_zero]
            rw [splice_get (by omega)] at hq
            by_cases hin : off ≤ j ∧ j < off + (cellsP p).length
            · rw [if_pos hin] at hq
              rw [if_pos ⟨hin.1, hin.2, by omega⟩, Array.getElem?_toList]
              exact g2 _ q hq
            · rw [if_neg hin] at hq
              rw [if_neg (by omega)]
              exact hj j q hq)
        obtain ⟨c', k1, k2, k3⟩ := this
        refine ⟨c', ?_, k2, k3⟩
        unfold Instr.fill
        simp only [hpl i _ hf]
        rw [if_neg (by simp [g1, h1]; omega), ← Array.foldl_toList, Array.toList_zipIdx]
        exact k1
      · cases h
    · cases h

theorem out_build {t : TypeId} {parts : Array (Nat × Operand)} (ho : o.op = .build t parts) (h : vcOp P o nid σ K) (hm : MC E (hget σ.h) loc kn w) (hs : SlotsOk (cxOf E (hget σ.h) loc w) (hget σ.h) loc kn σ.t a) : Out P E o σ nid loc kn w a K := by
  unfold vcOp at h
  simp only [ho] at h
  obtain ⟨T, hT, h⟩ := got_spec h
  obtain ⟨⟨hagg, hone⟩, h⟩ := h
  obtain ⟨pl0, hpl0, h⟩ := got_spec h
  obtain ⟨cs, hcs, h⟩ := got_spec h
  obtain ⟨i, d, z, hi, hd, hz, e1, e2, e3, e4, e5, e6, e7, e8⟩ := TY_spec hT
  have hA : ∀ (j : Nat) (p : Nat × PV), (parts.toList.map fun p => (p.1, ev σ.t p.2))[j]? = some p → (∀ q ∈ cellsP p.2, q.one) ∧ ∃ v, ((parts.map fun (i, x) => (i, a.eval x)).toList)[j]? = some (p.1, v) ∧ PRep (cxOf E (hget σ.h) loc w) (hget σ.h) loc kn p.2 v := fun j p hp => by
    rw [List.getElem?_map] at hp
    obtain ⟨q, hq, rfl⟩ := Option.map_eq_some_iff.1 hp
    refine ⟨fun r hr => allOne_mem hone r ?_, a.eval q.2, ?_, evRep hs q.2⟩
    · exact List.mem_flatMap.2 ⟨_, List.mem_map.2 ⟨q, List.mem_of_getElem? hq, rfl⟩, hr⟩
    · rw [Array.toList_map, List.getElem?_map, hq]
      rfl
  have hB : ∀ (j : Nat) (p : PV), (T.zero.map zPV)[j]? = some p → ∃ u, z.cells[j]? = some u ∧ PRep (cxOf E (hget σ.h) loc w) (hget σ.h) loc kn p u := fun j p hj => by
    rw [List.getElem?_map] at hj
    obtain ⟨v, hv, rfl⟩ := Option.map_eq_some_iff.1 hj
    rw [e3, Array.getElem?_toList] at hv
    exact ⟨v, hv, zPVRep v⟩
  have key : ∀ (pl : Nat → Option (Nat × Nat)), (∀ i x, pl0[i]? = some x → pl i = some x) → (∀ c', Instr.fill pl z.cells (parts.map fun (i, x) => (i, a.eval x)).toList = some c' → P.built t (parts.map fun (i, x) => (i, a.eval x)).toList = some c') → Out P E o σ nid loc kn w a K := fun pl hpl hbl => by
    obtain ⟨c', k1, k2, k3⟩ := fill_rep (pl := pl) hpl hA (by simp) hcs (by simp [e3]) hB
    have hb := hbl _ k1
    refine Out.quiet hm h (v := .agg c') (by unfold execOp; simp only [ho, Sem.run_bind, run_build w t _ _ hb, Result.andThen_ok, Sem.run_pure]) (.agg k2 (fun j p v hp hv => ?_))
    obtain ⟨u, g1, g2⟩ := k3 j p hp
    rw [hv] at g1
    cases g1
    exact g2
  cases d with
  | struct fs =>
    have hfl : fs.toList.mapM (fun f : Field => (P.info? f.type).map fun i => (f.offset, i.size)) = some T.flds := e6
    rw [plcs, if_neg (by rw [e7]; simp)] at hpl0
    cases hpl0
    refine key (T.flds.toArray[·]?) (fun i x hx => by simpa using hx) fun c' k1 => ?_
    unfold Program.built
    simp only [hi, hd, hz, hfl]
    exact k1
  | array n el =>
    rw [plcs, if_pos e7, e8] at hpl0
    obtain ⟨E2, hE2, hfl⟩ := Option.map_eq_some_iff.1 hpl0
    obtain ⟨ie, _, _, hie, _, _, g1, _⟩ := TY_spec hE2
    rw [g1] at hfl
    refine key (fun i => some (i * ie.size, ie.size)) (fun i x hx => ?_) fun c' k1 => ?_
    · rw [← hfl, List.getElem?_map] at hx
      obtain ⟨j, hj, rfl⟩ := Option.map_eq_some_iff.1 hx
      have := List.getElem?_eq_some_iff.1 hj
      obtain ⟨_, h9⟩ := this
      simp only [List.getElem_range] at h9
      rw [h9]
    · unfold Program.built
      simp only [hi, hd, hz, hie]
      exact k1
  | _ => rw [hagg] at e4; cases e4

theorem d0s_sub {hg : Nat → Option Ob} : ∀ {ps qs : List PV} {xs : List D}, d0s hg ps = some xs → (∀ q ∈ qs, q ∈ ps) → ∃ ys, d0s hg qs = some ys
  | ps, [], xs, _, _ => ⟨[], rfl⟩
  | ps, q :: qs, xs, h, hs => by
    obtain ⟨ys, hy⟩ := d0s_sub h (fun r hr => hs r (List.mem_cons_of_mem _ hr))
    obtain ⟨j, hj⟩ := List.mem_iff_getElem?.1 (hs q List.mem_cons_self)
    have hjl : j < xs.length := by rw [(d0s_len h).1]; exact (List.getElem?_eq_some_iff.1 hj).1
    obtain ⟨p, h1, h2, _⟩ := (d0s_len h).2 j _ (List.getElem?_eq_getElem hjl)
    rw [hj] at h1
    cases h1
    exact ⟨xs[j] :: ys, by simp only [d0s, h2, hy]⟩
theorem f0s_sub : ∀ {ps : List PV} {q : PV}, q ∈ ps → ∀ id ∈ f0 q, id ∈ f0s ps
  | [], q, h, _, _ => by cases h
  | p :: ps, q, h, id, hid => by
    rcases List.mem_cons.1 h with rfl | h
    · simp [f0s, hid]
    · simp [f0s, f0s_sub h id hid]

theorem run_lit {t : TypeId} {len : Nat} {parts : Array (Nat × Operand)} {T E2 : Ty} (hT : TY P t = some T) (hE : TY P T.elem = some E2) (hslc : T.slc = true) (hidx : parts.toList.map (·.1) = List.range len) (hsz : 0 < E2.size) (hzl : E2.zero.length = E2.size) (hsm : len * E2.size ≤ 16777216) (hvs0 : ∀ p ∈ parts.toList, (a.eval p.2).cells.size = E2.size) :
    ∃ r : Array Value, r.size = len * E2.size ∧ (∀ (q j : Nat) (p : Nat × Operand) (u : Value), parts.toList[q]? = some p → (a.eval p.2).cells[j]? = some u → r[q * E2.size + j]? = some u) ∧
      (Instr.buildSlice t len (parts.map fun (i, x) => (i, a.eval x))).run P w = .ok (.slice (some ⟨w.heap.size, 0, none⟩) len len) (w.alloc (.cells r T.elem)) := by
  have hu := slc_spec hT hslc
  obtain ⟨i, d, z, hi, hd, hz, x1, x2, x3, _⟩ := TY_spec hE
  have hzs : z.cells.size = E2.size := by rw [← hzl, x3]; simp
  have hlen : parts.toList.length = len := by have := congrArg List.length hidx; simpa using this
  have hvs : ∀ v ∈ parts.toList.map (fun p => a.eval p.2), v.cells.size = E2.size := fun v hv => by
    obtain ⟨p, hp, rfl⟩ := List.mem_map.1 hv
    exact hvs0 p hp
  have hpe : (parts.map fun (i, x) => (i, a.eval x)).toList = ((parts.toList.map (fun p => a.eval p.2)).zipIdx 0).map fun x => (x.2, x.1) := by
    rw [Array.toList_map]
    apply List.ext_getElem?
    intro j
    rw [List.getElem?_map, List.getElem?_map, List.getElem?_zipIdx, List.getElem?_map]
    cases hj : parts.toList[j]? with
    | none => rfl
    | some p =>
      have h1 : (parts.toList.map (·.1))[j]? = some p.1 := by rw [List.getElem?_map, hj]; rfl
      have hjl : j < len := by rw [← hlen]; exact (List.getElem?_eq_some_iff.1 hj).1
      rw [hidx, List.getElem?_range hjl] at h1
      cases h1
      simp
  obtain ⟨r, k1, k2, k3⟩ := Great.fill_dense hsz (parts.toList.map (fun p => a.eval p.2)) 0 ((Array.range (len * i.size)).map (z.cells[· % z.cells.size]!)) hvs (by simp [hlen, x1])
  refine ⟨r, by rw [k2]; simp [x1], fun q j p u hp hu' => ?_, ?_⟩
  · have hql : q < len := by rw [← hlen]; exact (List.getElem?_eq_some_iff.1 hp).1
    have hjl : j < E2.size := by rw [← hvs0 p (List.mem_of_getElem? hp)]; exact (Array.getElem?_eq_some_iff.1 hu').1
    have hin : (q + 1) * E2.size ≤ len * E2.size := Nat.mul_le_mul_right _ hql
    rw [Nat.add_mul, Nat.one_mul] at hin
    rw [k3, if_pos ⟨by omega, by rw [List.length_map, hlen, Nat.zero_add]; omega⟩, Nat.sub_zero]
    have e1 : (q * E2.size + j) / E2.size = q := by rw [Nat.mul_comm, Nat.mul_add_div hsz, Nat.div_eq_of_lt hjl, Nat.add_zero]
    have e2 : (q * E2.size + j) % E2.size = j := by rw [Nat.mul_comm, Nat.mul_add_mod, Nat.mod_eq_of_lt hjl]
    rw [e1, e2, List.getElem?_map, hp]
    exact hu'
  · by_cases hl0 : len = 0
    · subst hl0
      have hp0 : parts.toList = [] := List.eq_nil_of_length_eq_zero hlen
      have hp1 : parts = #[] := by cases parts; simpa using hp0
      subst hp1
      have : r = #[] := by apply Array.eq_empty_of_size_eq_zero; rw [k2]; simp
      subst this
      simp [Instr.buildSlice, run_underlying hu, sizeOf, typeInfo, hi, Instr.fill, newRow, Array.range_zero']
    · exact run_buildSlice w t T.elem len _ r i z hu hi hz (by rw [← x1]; omega) (by rw [← x1]; intro e; rcases Nat.mul_eq_zero.1 e with e | e <;> omega) (by rw [hpe]; rw [x1] at k1; exact k1)

theorem out_lit {t : TypeId} {len : Nat} {parts : Array (Nat × Operand)} (ho : o.op = .buildSlice t len parts) {T E2 : Ty} (hT : TY P t = some T) (hE : TY P T.elem = some E2) (hslc : T.slc = true) (hidx : parts.toList.map (·.1) = List.range len) (hsz : E2.size = 1) (hzl : E2.zero.length = 1) (hlm : len ≤ 16777216)
    (hp : ∀ p ∈ parts.toList, cellsP (ev σ.t p.2) = [ev σ.t p.2] ∧ (ev σ.t p.2).one) (h : K σ (.lt (parts.toList.map fun p => ev σ.t p.2)) [] []) (hm : MC E (hget σ.h) loc kn w) (hs : SlotsOk (cxOf E (hget σ.h) loc w) (hget σ.h) loc kn σ.t a) : Out P E o σ nid loc kn w a K := by
  have hlen : parts.toList.length = len := by have := congrArg List.length hidx; simpa using this
  have part : ∀ p ∈ parts.toList, (a.eval p.2).cells = #[a.eval p.2] ∧ (a.eval p.2).oneCell' = true := fun p hpp => by
    obtain ⟨g1, g2⟩ := hp p hpp
    have hv := one_cell g2 (evRep hs p.2)
    exact ⟨by cases hx : a.eval p.2 <;> first | rfl | (rw [hx] at hv; cases hv), hv⟩
  obtain ⟨r, k1, k2, hrun⟩ := run_lit (a := a) (w := w) hT hE hslc hidx (by omega) (by omega) (by rw [hsz]; omega) (fun p hpp => by rw [(part p hpp).1, hsz]; rfl)
  have ht := Tr.ext hm (w' := w.alloc (.cells r T.elem)) ((Below.refl _ _).alloc (Nat.le_refl _) _)
  have hcell : ∀ (j : Nat) (q : PV), (parts.toList.map fun p => ev σ.t p.2)[j]? = some q → ∃ p, parts.toList[j]? = some p ∧ q = ev σ.t p.2 ∧ r[j]? = some (a.eval p.2) := fun j q hj => by
    rw [List.getElem?_map] at hj
    obtain ⟨p, hpj, rfl⟩ := Option.map_eq_some_iff.1 hj
    have := k2 j 0 p (a.eval p.2) hpj (by rw [(part p (List.mem_of_getElem? hpj)).1]; rfl)
    rw [hsz, Nat.mul_one, Nat.add_zero] at this
    exact ⟨p, hpj, rfl, this⟩
  have hblk : (w.alloc (.cells r T.elem)).heap[w.heap.size]? = some (.cells r T.elem (0, 0)) := alloc_new w _
  refine ⟨_, _, _, .slice (some ⟨w.heap.size, 0, none⟩) len len, loc, kn, _, h, .inl ?_, ht, ?_, fun id hi => .inl hi⟩
  · unfold execOp
    simp [ho, hrun]
  · have e : len = (parts.toList.map fun p => ev σ.t p.2).length := by simp [hlen]
    rw [show PRep _ _ _ _ _ (Value.slice (some ⟨w.heap.size, 0, none⟩) len len) = PRep _ _ _ _ _ (Value.slice (some ⟨w.heap.size, 0, none⟩) (parts.toList.map fun p => ev σ.t p.2).length len) by rw [← e]]
    refine .lt (fun j => (r[j]?).getD undef) (by omega) (by simp only [maxLen]; omega) (fun j q hj => ?_) (fun j q hj => ?_)
    · obtain ⟨p, g1, rfl, g3⟩ := hcell j q hj
      rw [g3]
      refine ⟨rd_row hblk g3, (part p (List.mem_of_getElem? g1)).2, fun ⟨id, ob, h1, h2, _⟩ => ?_, fun ham => ?_⟩
      · have := (hm.fresh id _ (by rw [show hget σ.h id = some ob from h1]; simp) h2).2
        omega
      · have := hm.amlt _ _ ham
        have := hm.ext.size
        omega
    · obtain ⟨p, g1, rfl, g3⟩ := hcell j q hj
      rw [g3]
      exact (evRep hs p.2).le ht.cx ht.rf ht.kn

theorem out_buildSlice {t : TypeId} {len : Nat} {parts : Array (Nat × Operand)} (ho : o.op = .buildSlice t len parts) (h : vcOp P o nid σ K) (hm : MC E (hget σ.h) loc kn w) (hn : ¬ kn nid) (hs : SlotsOk (cxOf E (hget σ.h) loc w) (hget σ.h) loc kn σ.t a) : Out P E o σ nid loc kn w a K := by
  unfold vcOp at h
  simp only [ho] at h
  obtain ⟨T, hT, h⟩ := got_spec h
  obtain ⟨E2, hE, h⟩ := got_spec h
  by_cases hlit : litT E2 = true ∧ 0 < len
  · rw [if_pos hlit] at h
    obtain ⟨⟨hslc, hidx, hsz, hzl, hlm, hp⟩, h⟩ := h
    exact out_lit ho hT hE hslc hidx hsz hzl hlm hp h hm hs
  rw [if_neg hlit] at h
  obtain ⟨ds, hds, h⟩ := got_spec h
  obtain ⟨⟨hslc, hidx, hsz, hzl, hpl, hsm, hone⟩, h⟩ := h
  have hu := slc_spec hT hslc
  obtain ⟨i, d, z, hi, hd, hz, x1, x2, x3, _⟩ := TY_spec hE
  have hzs : z.cells.size = E2.size := by rw [← hzl, x3]; simp
  obtain ⟨loc', kn', ht', hk'⟩ := Tr.frz hm (f0s ((parts.toList.map fun p => ev σ.t p.2).flatMap cellsP))
  have hlen : parts.toList.length = len := by have := congrArg List.length hidx; simpa using this
  -- one part
  have part : ∀ p ∈ parts.toList, ∃ e, d0s (hget σ.h) (cellsP (ev σ.t p.2)) = some e ∧ e.length = E2.size ∧ (a.eval p.2).cells.size = E2.size ∧ ∀ (j : Nat) (x : D), e[j]? = some x → ∃ u, (a.eval p.2).cells[j]? = some u ∧ u.oneCell' = true ∧
      Rep (cxOf E (upd (frz (hget σ.h) (f0s ((parts.toList.map fun p => ev σ.t p.2).flatMap cellsP))) (hget σ.h)) loc' w) x u := fun p hp => by
    have hsub : ∀ q ∈ cellsP (ev σ.t p.2), q ∈ (parts.toList.map fun p => ev σ.t p.2).flatMap cellsP := fun q hq => List.mem_flatMap.2 ⟨_, List.mem_map.2 ⟨p, hp, rfl⟩, hq⟩
    obtain ⟨e, he⟩ := d0s_sub hds hsub
    obtain ⟨g1, g2⟩ := cells_rep (evRep hs p.2) (fun q hq => allOne_mem hone q (hsub q hq))
    refine ⟨e, he, by rw [(d0s_len he).1, hpl p hp], by rw [g1, hpl p hp], fun j x hj => ?_⟩
    obtain ⟨q, y1, y2, y3⟩ := (d0s_len he).2 j x hj
    obtain ⟨u, y4, y5, y6⟩ := g2 j q y1
    exact ⟨u, y4, y5, d0_rep ht' y2 (fun id hid => frz_in id (f0s_sub (hsub q (List.mem_of_getElem? y1)) id hid)) y6⟩
  obtain ⟨r, k2, k3, hrun⟩ := run_lit (a := a) (w := w) hT hE hslc hidx hsz hzl hsm (fun p hp => by obtain ⟨e, _, _, y, _⟩ := part p hp; exact y)
  have hmax : len ≤ maxLen := by
    have : len * 1 ≤ len * E2.size := Nat.mul_le_mul_left _ hsz
    simp only [maxLen]; omega
  have hn' : ¬ kn' nid := fun hh => hn (hk' _ hh)
  have hes : ∀ (q : Nat) (e : List D), (parts.toList.map fun p => ((d0s (hget σ.h) (cellsP (ev σ.t p.2))).getD []))[q]? = some e → ∃ p, parts.toList[q]? = some p ∧ d0s (hget σ.h) (cellsP (ev σ.t p.2)) = some e := fun q e hq => by
    rw [List.getElem?_map] at hq
    obtain ⟨p, hp, rfl⟩ := Option.map_eq_some_iff.1 hq
    obtain ⟨e', he', _⟩ := part p (List.mem_of_getElem? hp)
    exact ⟨p, hp, by rw [he']; rfl⟩
  have ht := Tr.newArr ht'.mc hn' ⟨T.elem, E2.size, 0, false, (parts.toList.map fun p => ((d0s (hget σ.h) (cellsP (ev σ.t p.2))).getD []))⟩ r len hsz (by rw [k2]) (by simp [hlen]) hmax (fun e he => by
      obtain ⟨q, hq⟩ := List.mem_iff_getElem?.1 he
      obtain ⟨p, hp, hpe'⟩ := hes q e hq
      obtain ⟨e', he', hl', _⟩ := part p (List.mem_of_getElem? hp)
      rw [hpe'] at he'
      cases he'
      exact hl') (fun q j e dd hq hj => by
    obtain ⟨p, hp, hpe'⟩ := hes q e hq
    obtain ⟨e', he', hl', hv', hc'⟩ := part p (List.mem_of_getElem? hp)
    rw [hpe'] at he'
    cases he'
    obtain ⟨u, y1, y2, y3⟩ := hc' j dd hj
    exact ⟨u, k3 q j p u hp y1, y2, y3⟩)
  have ht2 := ht'.trans ht
  rw [← upd_cons] at ht2
  refine ⟨_, _, _, .slice (some ⟨w.heap.size, 0, none⟩) len len, _, _, _, h, .inl (by unfold execOp; simp only [ho, Sem.run_bind, hrun, Result.andThen_ok, Sem.run_pure]), ht2, ?_, fun x hx => ?_⟩
  · refine .sr (.inr rfl) rfl (fun a' h' => Nat.zero_le _) (fun a' h' _ => ?_)
    unfold upd at h'
    rw [if_pos rfl] at h'
    cases h'
    rw [show locAdd loc' nid (.pl w.heap.size len) nid = .pl w.heap.size len from if_pos rfl]
    simp [hlen]
  · rcases hx with hx | hx
    · exact .inl (hk' x hx)
    · exact .inr (by omega)
end
end Go.Pm
/-
  The pure machine, part 9: appends.
-/
set_option linter.unusedSimpArgs false
set_option linter.unusedVariables false
namespace Go.Pm
open Go.RowKit

section
variable {P : Program} {E : Env} {loc : Locs} {kn : Nat → Prop} {w : World} {a : Act} {σ : St} {nid : Nat} {K : Kt} {o : Oper}

/-- what is appended, as it lies -/
def Src (C : Cx) (v : Value) (ns : List (List D)) (size : Nat) : Prop :=
  ∃ (A : Option Addr) (c : Nat) (news : List Value), v = .slice A ns.length c ∧ (A = none → ns.length = 0) ∧ news.length = ns.length * size ∧ (∀ ad, A = some ad → ∀ (j : Nat) (u : Value), news[j]? = some u → C.w.cell? (ad.add j) = some u) ∧ (∀ u ∈ news, u.oneCell' = true) ∧
    ∀ (i j : Nat) (e : List D) (d : D), ns[i]? = some e → e[j]? = some d → ∃ u, news[i * size + j]? = some u ∧ u.oneCell' = true ∧ Rep C d u
theorem Src.nil {C : Cx} {size : Nat} : Src C (.slice none 0 0) [] size := ⟨none, 0, [], rfl, fun _ => rfl, by simp, by simp, by simp, by simp⟩
theorem Src.le {C C' : Cx} (hC : C.le C') (hw : C'.w = C.w) {v : Value} {ns : List (List D)} {size : Nat} (h : Src C v ns size) : Src C' v ns size := by
  obtain ⟨A, c, news, h1, h2, h3, h4, h5, h6⟩ := h
  refine ⟨A, c, news, h1, h2, h3, by rw [hw]; exact h4, h5, fun i j e d he hd => ?_⟩
  obtain ⟨u, g1, g2, g3⟩ := h6 i j e d he hd
  exact ⟨u, g1, g2, g3.le hC⟩
theorem src_d {C : Cx} {es : List (List D)} {v : Value} (hr : Rep C (.sl es) v) {size : Nat} (hsz : 0 < size) (hk : ∀ e ∈ es, e.length = size) : Src C v es size := by
  cases hr with
  | nil => exact .nil
  | emp ad c hm => exact ⟨ad, c, [], rfl, fun _ => rfl, by simp, by simp, by simp, by simp⟩
  | sl _ k c b q f hc hmx hke hcell hrep =>
    have get : ∀ q', q' < es.length * size → ∃ e d, es[q' / size]? = some e ∧ e[q' % size]? = some d := fun q' hq' => by
      have h1 : q' / size < es.length := (Nat.div_lt_iff_lt_mul hsz).2 hq'
      have h2 := hk _ (List.getElem_mem h1)
      exact ⟨_, _, List.getElem?_eq_getElem h1, List.getElem?_eq_getElem (by rw [h2]; exact Nat.mod_lt _ hsz)⟩
    have kz : ∀ e ∈ es, k = size := fun e he => by rw [← hke e he, hk e he]
    refine ⟨some ⟨b, q, none⟩, c, (List.range (es.length * size)).map fun q' => f (q' / size) (q' % size), rfl, fun h => (by cases h), by simp, fun ad hA j u hj => ?_, fun u hu => ?_, fun i j e d hi hj => ?_⟩
    · cases hA
      rw [List.getElem?_map] at hj
      obtain ⟨q', hq', rfl⟩ := Option.map_eq_some_iff.1 hj
      have hjl : j < es.length * size := by have := (List.getElem?_eq_some_iff.1 hq').1; simpa using this
      rw [List.getElem?_range hjl] at hq'
      cases hq'
      obtain ⟨e, d, h1, h2⟩ := get j hjl
      rw [Addr.add_lit]
      have := (hcell _ _ e d h1 h2).1
      rw [kz e (List.mem_of_getElem? h1)] at this
      have hdm := Nat.div_add_mod j size
      rw [Nat.mul_comm] at hdm
      rw [show q + j = q + j / size * size + j % size by omega]
      exact this.1
    · obtain ⟨q', hq', rfl⟩ := List.mem_map.1 hu
      obtain ⟨e, d, h1, h2⟩ := get q' (List.mem_range.1 hq')
      exact (hcell _ _ e d h1 h2).2.1
    · have hil : i < es.length := (List.getElem?_eq_some_iff.1 hi).1
      have hjl : j < size := by rw [← hk e (List.mem_of_getElem? hi)]; exact (List.getElem?_eq_some_iff.1 hj).1
      have hlt : i * size + j < es.length * size := by
        have : (i + 1) * size ≤ es.length * size := Nat.mul_le_mul_right _ hil
        rw [Nat.add_mul, Nat.one_mul] at this
        omega
      refine ⟨f i j, ?_, (hcell i j e d hi hj).2.1, hrep i j e d hi hj⟩
      rw [List.getElem?_map, List.getElem?_range hlt]
      have e1 : (i * size + j) / size = i := by rw [Nat.mul_comm, Nat.mul_add_div hsz, Nat.div_eq_of_lt hjl, Nat.add_zero]
      have e2 : (i * size + j) % size = j := by rw [Nat.mul_comm, Nat.mul_add_mod, Nat.mod_eq_of_lt hjl]
      simp [e1, e2]
theorem src_arr {C : Cx} {ar : Arr} {l : Lc} (hA : ArrAt C ar l) {size : Nat} (hsz : 0 < size) (hk : ∀ e ∈ ar.es, e.length = size) : Src C (l.val ar.es.length) ar.es size := by
  cases l with
  | no => have hA : ar.es = [] := hA; rw [hA]; exact .nil
  | tb a b => exact hA.elim
  | pl b cap =>
    obtain ⟨c, h2, h3, h4, h5, h6, h7⟩ := hA
    have kz : ∀ e ∈ ar.es, ar.k = size := fun e he => by rw [← h6 e he, hk e he]
    refine ⟨some ⟨b, 0, none⟩, cap, (List.range (ar.es.length * size)).map fun q' => (c[q']?).getD undef, rfl, fun h => (by cases h), by simp, fun ad hA j u hj => ?_, fun u hu => ?_, fun i j e d hi hj => ?_⟩
    · cases hA
      rw [List.getElem?_map] at hj
      obtain ⟨q', hq', rfl⟩ := Option.map_eq_some_iff.1 hj
      have hjl : j < ar.es.length * size := by have := (List.getElem?_eq_some_iff.1 hq').1; simpa using this
      rw [List.getElem?_range hjl] at hq'
      cases hq'
      have h1 : j / size < ar.es.length := (Nat.div_lt_iff_lt_mul hsz).2 hjl
      have hkk := kz _ (List.getElem_mem h1)
      have hjc : j < c.size := by
        rw [h3, hkk]; exact Nat.lt_of_lt_of_le hjl (Nat.mul_le_mul_right _ h4)
      rw [Addr.add_lit, Nat.zero_add]
      exact (rd_row h2 (by rw [Array.getElem?_eq_getElem hjc]; rfl)).1
    · obtain ⟨q', hq', rfl⟩ := List.mem_map.1 hu
      have hq' := List.mem_range.1 hq'
      have h1 : q' / size < ar.es.length := (Nat.div_lt_iff_lt_mul hsz).2 hq'
      have hx := hk _ (List.getElem_mem h1)
      obtain ⟨u, g1, g2, _⟩ := h7 (q' / size) (q' % size) _ _ (List.getElem?_eq_getElem h1) (List.getElem?_eq_getElem (by rw [hx]; exact Nat.mod_lt _ hsz))
      rw [kz _ (List.getElem_mem h1)] at g1
      have hdm := Nat.div_add_mod q' size
      rw [Nat.mul_comm] at hdm
      rw [hdm] at g1
      rw [g1]
      exact g2
    · have hil : i < ar.es.length := (List.getElem?_eq_some_iff.1 hi).1
      have hjl : j < size := by rw [← hk e (List.mem_of_getElem? hi)]; exact (List.getElem?_eq_some_iff.1 hj).1
      have hlt : i * size + j < ar.es.length * size := by
        have : (i + 1) * size ≤ ar.es.length * size := Nat.mul_le_mul_right _ hil
        rw [Nat.add_mul, Nat.one_mul] at this
        omega
      obtain ⟨u, g1, g2, g3⟩ := h7 i j e d hi hj
      rw [kz e (List.mem_of_getElem? hi)] at g1
      refine ⟨u, ?_, g2, g3⟩
      rw [List.getElem?_map, List.getElem?_range hlt]
      simp [g1]
/-- what is appended without being frozen, or is frozen -/
theorem src_of {hg : Nat → Option Ob} (hm : MC E hg loc kn w) {p : PV} {v : Value} {ns : List (List D)} (he : els hg p = some ns) (h : PRep (cxOf E hg loc w) hg loc kn p v) {size : Nat} (hsz : 0 < size) (hk : ∀ e ∈ ns, e.length = size) {loc' : Locs} {kn' : Nat → Prop} (ht : Tr E hg loc kn w (upd (frz hg (fa p)) hg) loc' kn' w) :
    Src (cxOf E (upd (frz hg (fa p)) hg) loc' w) v ns size := by
  have hd := els_spec he
  have viaRep : fa p = f0 p → Src (cxOf E (upd (frz hg (fa p)) hg) loc' w) v ns size := fun e => src_d (d0_rep ht hd (fun id hi => by rw [e]; exact frz_in id hi) h) hsz hk
  cases p with
  | sr id ver =>
    simp only [d0, dz] at hd
    split at hd
    · rename_i ar har
      split at hd
      · rename_i hver
        cases hd
        cases h with
        | sr hk' ho hv hh =>
          have hh := hh ar har hver
          obtain ⟨hk0, hA⟩ := hm.arr har
          have := (src_arr hA hsz hk).le ht.cx rfl
          cases hl : loc id <;> rw [hl] at hh this <;> first | exact hh.elim | (rw [hh]; exact this)
      · cases hd
    · cases hd
  | sw id r =>
    simp only [d0, dz] at hd
    split at hd
    · rename_i T hT
      split at hd
      · rename_i es hes
        cases hd
        cases h with
        | sw hk' ho hv hh =>
          obtain ⟨lo, rl, hl, hTi⟩ := hm.tab hT
          rw [hh T _ hT hes lo rl hl]
          exact (src_arr (hTi.row r _ hes) hsz hk).le ht.cx rfl
      · cases hd
    · cases hd
  | _ => exact viaRep rfl

/-- an append, once the row that is appended to is an object -/
theorem run_app {hg : Nat → Option Ob} (hm : MC E hg loc kn w) {t : TypeId} {T E2 : Ty} (hT : TY P t = some T) (hE : TY P T.elem = some E2) (hslc : T.slc = true) (hsz : 0 < E2.size) (hzl : E2.zero.length = E2.size)
    {id : Nat} {ar : Arr} (hi : hg id = some (.arr ar)) (hel : ar.el = T.elem) (hak : ar.k = E2.size) {v : Value} {ns : List (List D)} (hsrc : Src (cxOf E hg loc w) v ns E2.size) (hk : ∀ e ∈ ns, e.length = E2.size)
    (hb : (ar.es.length + ns.length) * E2.bytes ≤ 140737488355328) (h63 : ar.es.length + ns.length ≤ 9223372036854775807) (ty : TypeId) :
    ∃ l' w', (Builtin.append_ #[t, t] ty #[(loc id).val ar.es.length, v]).run P w = .ok (l'.val (ar.es.length + ns.length)) w' ∧ Tr E hg loc kn w (upd [(id, .arr { ar with es := ar.es ++ ns, ver := ar.ver + 1 })] hg) (locAdd loc id l') (knAdd kn id) w' := by
  obtain ⟨A, c, news, rfl, hA, hl, hr, h1, hj⟩ := hsrc
  obtain ⟨xs, ho1, ho2⟩ := hm.owns hi
  obtain ⟨i, d, z, hi', hd, hz, x1, x2, x3, _⟩ := TY_spec hE
  have hu := slc_spec hT hslc
  have hzs : z.cells.size = i.size := by rw [← x1, ← hzl, x3]; simp
  have hki : ar.k = i.size := hak.trans x1
  rw [hel, hki] at ho1
  obtain ⟨v', w', g1, g2, g3⟩ := run_append_row (P := P) w E.w0.heap.size t ty T.elem i z hu hi' hz hzs (by omega) _ _ xs ho1 A ns.length c news hA (by rw [hl, x1]) hr h1 (by simp only [maxLen]; omega) (by rw [← x2]; exact hb) hm.ext.size
  rw [← hel, ← hki] at g2
  have hxl : xs.length = ar.es.length * ar.k := by rw [hki]; exact ho1.1
  obtain ⟨l', g4, g5⟩ := Tr.append hm hi ho2 hxl (fun b cap hl cc hcc => by
      rcases ho1.2 with ⟨e1, e2⟩ | ⟨g, cap', cur, e1, _, e3, _, _, _, e4⟩
      · rw [hl] at e1; cases e1
      · rw [hl] at e1
        simp only [Lc.val, Value.slice.injEq, Option.some.injEq, Addr.mk.injEq] at e1
        obtain ⟨⟨rfl, _⟩, _⟩ := e1
        rw [hel] at hcc
        rw [e3] at hcc
        cases hcc
        rw [hki]
        exact e4) ns (fun e he => by rw [hak]; exact hk e he) (fun q j e d hq hd => by rw [hak]; exact hj q j e d hq hd) g2 g3
  exact ⟨l', w', by rw [g1, g4], g5⟩

theorem upd_twice (id : Nat) (x y : Ob) (g : Nat → Option Ob) : upd [(id, x)] (upd [(id, y)] g) = upd [(id, x)] g := by
  funext t
  simp only [upd]
  split <;> rfl

/-- an own array becomes a table's last row -/
theorem run_appRow {hg : Nat → Option Ob} (hm : MC E hg loc kn w) {t : TypeId} {T E2 : Ty} (hT : TY P t = some T) (hE : TY P T.elem = some E2) (hslc : T.slc = true) (hsz : E2.size = 1) (hzl : E2.zero.length = E2.size)
    {id : Nat} {tt : Tab} (hi : hg id = some (.tab tt)) {lo : Lc} {rl : Nat → Lc} (hl : loc id = .tb lo rl) (hfz : tt.fz = false) (hel : tt.el = T.elem) {id1 ver1 : Nat} {ar : Arr} (h1 : hg id1 = some (.arr ar)) (hv1 : ar.ver = ver1) (hne : ¬ id1 = id) (haf : ar.fz = false) (hae : ar.el = tt.rel) (hak : ar.k = tt.k)
    {v : Value} (h : PRep (cxOf E hg loc w) hg loc kn (.lt [.sr id1 ver1]) v) (hb : (tt.out.length + 1) * E2.bytes ≤ 140737488355328) (h63 : tt.out.length + 1 ≤ 9223372036854775807) (ty : TypeId) :
    ∃ lo' w', (Builtin.append_ #[t, t] ty #[lo.val tt.out.length, v]).run P w = .ok (lo'.val (tt.out.length + 1)) w' ∧
      Tr E hg loc kn w (upd [(id, .tab { tt with ver := tt.ver + 1, out := tt.out ++ [tt.rows.length], rows := tt.rows ++ [some ar.es] }), (id1, .dead)] hg)
        (fun x => if x = id then .tb lo' (fun r => if r = tt.rows.length then loc id1 else rl r) else if x = id1 then .no else loc x) (fun x => kn x ∨ (x = id ∨ x = id1)) w' := by
  obtain ⟨lo2, rl2, hl2, hTi⟩ := hm.tab hi
  rw [hl] at hl2
  cases hl2
  obtain ⟨i, d, z, hi', hd, hz, x1, x2, x3, _⟩ := TY_spec hE
  have hu := slc_spec hT hslc
  have hzs : z.cells.size = i.size := by rw [← x1, ← hzl, x3]; simp
  have hi1 : i.size = 1 := by omega
  -- the row's head
  obtain ⟨hd0, hhd, hval⟩ : ∃ hd0, hd0 = (loc id1).val ar.es.length ∧ ∃ b c, v = .slice (some ⟨b, 0, none⟩) 1 c ∧ w.cell? ⟨b, 0, none⟩ = some hd0 := by
    cases h with
    | @lt _ b c f hc hmx hcell hh =>
      refine ⟨_, rfl, b, c, rfl, ?_⟩
      have e := (hcell 0 _ rfl).1.1
      have hs := hh 0 _ rfl
      have : f 0 = (loc id1).val ar.es.length := by
        generalize f 0 = u at hs
        cases hs with
        | sr hk ho1 hv hh2 =>
          have hh2 := hh2 ar h1 hv1
          cases hl1 : loc id1 <;> rw [hl1] at hh2 <;> first | exact hh2 | exact hh2.elim
      rw [← this]
      exact e
  obtain ⟨b0, c0, rfl, hcell⟩ := hval
  have hone : hd0.oneCell' = true := by rw [hhd]; cases loc id1 <;> rfl
  -- the places, as the law on append has them
  have hout := hTi.out
  have hown : ∃ xs, w.ownsRow E.w0.heap.size T.elem i.size (lo.val tt.out.length) tt.out.length xs ∧ xs.length = tt.out.length ∧ ∀ (j r : Nat) (es : List (List D)), tt.out[j]? = some r → tt.row r = some es → xs[j]? = some ((rl r).val es.length) := by
    rw [hi1]
    cases lo with
    | no =>
      have hout : tt.out = [] := hout
      exact ⟨[], ⟨by simp [hout], .inl ⟨rfl, by simp [hout]⟩⟩, by simp [hout], fun j r es hj => by simp [hout] at hj⟩
    | tb _ _ => exact hout.elim
    | pl b cap =>
      obtain ⟨c, k1, k2, k3, k4, k5⟩ := hout
      have hlen : (c.toList.take (tt.out.length * 1)).length = tt.out.length := by rw [List.length_take, Array.length_toList]; omega
      refine ⟨c.toList.take (tt.out.length * 1), ⟨by rw [hlen, Nat.mul_one], .inr ⟨b, cap, c, rfl, (hm.fresh id b (by simp [hi]) (by rw [hl]; exact .inl rfl)).1, by rw [← hel]; exact k1, k3, k4, by rw [k2, Nat.mul_one], rfl⟩⟩, hlen, fun j r es hj hr => ?_⟩
      have hjl : j < tt.out.length := (List.getElem?_eq_some_iff.1 hj).1
      rw [List.getElem?_take_of_lt (by omega), Array.getElem?_toList]
      exact k5 j r es hj hr
  obtain ⟨xs, ho1, hxl, hxs⟩ := hown
  obtain ⟨v', w', g1, g2, g3⟩ := run_append_row (P := P) w E.w0.heap.size t ty T.elem i z hu hi' hz hzs (by omega) _ _ xs ho1 (some ⟨b0, 0, none⟩) 1 c0 [hd0] (fun h => (by cases h)) (by simp [hi1]) (fun ad had j u hj => by
      cases had
      cases j with
      | zero => cases hj; rw [Addr.add_lit]; exact hcell
      | succ j => cases hj) (fun u hu => by rw [show u = hd0 by simpa using hu]; exact hone) (by simp only [maxLen]; omega) (by rw [← x2]; exact hb) hm.ext.size
  have hgr : w.grownBy w' (lo.val tt.out.length).ownBlock := by
    rcases g3 with h1 | h1
    · exact h1.2
    · exact ⟨h1.2.os, h1.2.tape, h1.2.output, h1.2.size, fun k hk _ => h1.2.block k hk (by simp)⟩
  rcases g2.2 with ⟨_, hz0⟩ | ⟨g, cap', cur, rfl, hbg, hg', hnc, hcm, hcs, htake⟩
  · exact absurd hz0 (by simp)
  · rw [hi1, Nat.mul_one] at hcs
    rw [hi1, Nat.mul_one] at htake
    refine ⟨.pl g cap', w', g1, Tr.adoptRow hm hi hl hfz h1 hne haf hae hak (tt.out ++ [tt.rows.length]) (tt.ver + 1) (.pl g cap') w' hgr.size hgr.os hgr.tape hgr.output (fun b hb hno => hgr.block b hb (fun e => hno ?_)) (fun b hb => ?_) (by omega) (fun e => absurd e (by omega)) (fun j q hq => ?_) ⟨cur, by rw [hel]; exact hg', hcs, by simpa using hnc, hcm, fun j q es hq hr => ?_⟩⟩
    · cases lo with
      | no => simp [Lc.val, Value.ownBlock] at e
      | tb _ _ => exact hout.elim
      | pl b' cap => show b = b'; simpa [Lc.val, Value.ownBlock] using e
    · obtain rfl : b = g := hb
      rcases g3 with ⟨h2, _⟩ | ⟨h2, _⟩
      · left
        cases lo with
        | no => simp [Lc.val, Value.ownBlock] at h2
        | tb _ _ => exact hout.elim
        | pl b' cap => show b = b'; simpa [Lc.val, Value.ownBlock] using h2
      · right
        have : b = w.heap.size := by simpa [Value.ownBlock] using h2
        exact ⟨by omega, (Array.getElem?_eq_some_iff.1 hg').1⟩
    · by_cases hj : j < tt.out.length
      · rw [List.getElem?_append_left hj] at hq
        have := hTi.idx j q hq
        omega
      · rw [List.getElem?_append_right (by omega)] at hq
        have : q = tt.rows.length := by
          cases hz : j - tt.out.length with
          | zero => rw [hz] at hq; simpa using hq.symm
          | succ n => rw [hz] at hq; cases hq
        omega
    · have hj : j < tt.out.length + 1 := by have := (List.getElem?_eq_some_iff.1 hq).1; simpa using this
      have hcur : cur[j]? = (xs ++ [hd0])[j]? := by
        rw [← htake, List.getElem?_take_of_lt (by simpa using hj), Array.getElem?_toList]
      rw [hcur]
      by_cases hjl : j < tt.out.length
      · rw [List.getElem?_append_left hjl] at hq
        have hql := hTi.idx j q hq
        simp only [Tab.row, List.getElem?_append_left hql] at hr
        rw [List.getElem?_append_left (by omega), hxs j q es hq hr]
        exact congrArg (fun l : Lc => some (l.val es.length)) (if_neg (by omega)).symm
      · have hje : j = tt.out.length := by omega
        subst hje
        rw [List.getElem?_append_right (Nat.le_refl _), Nat.sub_self] at hq
        have hq : tt.rows.length = q := by simpa using hq
        subst hq
        simp only [Tab.row, List.getElem?_append_right (Nat.le_refl _), Nat.sub_self, List.getElem?_cons_zero, Option.getD_some, Option.some.injEq] at hr
        subst hr
        rw [← hxl, List.getElem?_append_right (Nat.le_refl _), Nat.sub_self]
        rw [List.getElem?_cons_zero, hhd]
        exact congrArg (fun l : Lc => some (l.val ar.es.length)) (if_pos rfl).symm

theorem out_append {c : Call} {s x : Operand} {t : TypeId} (ho : o.op = .call c) (hc : c.callee = .builtin .append) (ha : c.args.toList = [s, x]) (ht : c.argTypes.toList = [t, t]) {T : Ty} (hT : TY P t = some T) (h : appV P T (ev σ.t s) (ev σ.t x) nid σ K) (hm : MC E (hget σ.h) loc kn w) (hn : ¬ kn nid)
    (hs : SlotsOk (cxOf E (hget σ.h) loc w) (hget σ.h) loc kn σ.t a) : Out P E o σ nid loc kn w a K := by
  have e1 : c.args = #[s, x] := by cases hh : c.args; rw [hh] at ha; simp at ha; rw [ha]
  have e2 : c.argTypes = #[t, t] := by cases hh : c.argTypes; rw [hh] at ht; simp at ht; rw [ht]
  have key : ∀ {r : Value} {w' : World}, (Builtin.append_ #[t, t] o.type #[a.eval s, a.eval x]).run P w = .ok r w' → (execOp a.eval o).run P w = .ok (.value r) w' := fun {r w'} hr => by
    unfold execOp
    simp [ho, resolve, hc, e1, e2, invoke, builtin, hr]
  unfold appV at h
  obtain ⟨E2, hE, h⟩ := got_spec h
  obtain ⟨⟨hslc, hsz, hzl⟩, h⟩ := h
  have hsv := evRep hs s
  have hxv := evRep hs x
  split at h
  · rename_i es
    obtain ⟨ns, hns, ⟨hk, hb, h63⟩, h⟩ := got_spec h
    rw [es] at hsv
    generalize hav : a.eval s = av at hsv
    cases hsv
    obtain ⟨loc1, kn1, ht1, hk1⟩ := Tr.frz hm (fa (ev σ.t x))
    have hsrc := src_of hm hns hxv hsz hk ht1
    have hn1 : ¬ kn1 nid := fun hh => hn (hk1 _ hh)
    have h0 := Tr.newNil ht1.mc hn1 ⟨T.elem, E2.size, 0, false, []⟩ hsz rfl
    have hid : upd [(nid, Ob.arr ⟨T.elem, E2.size, 0, false, []⟩)] (upd (frz (hget σ.h) (fa (ev σ.t x))) (hget σ.h)) nid = some (.arr ⟨T.elem, E2.size, 0, false, []⟩) := by simp [upd]
    have hl0 : locAdd loc1 nid .no nid = .no := if_pos rfl
    obtain ⟨l', w', g1, g2⟩ := run_app h0.mc hT hE hslc hsz hzl hid rfl rfl (hsrc.le h0.cx rfl) hk (by simpa using hb) (by simpa using h63) o.type
    have g3 := (ht1.trans h0).trans g2
    rw [upd_twice, ← upd_cons] at g3
    rw [hl0] at g1
    simp only [List.nil_append, Nat.zero_add, List.length_nil] at g1 g3
    refine ⟨_, _, _, _, _, _, _, h, .inl (key (by rw [hav]; exact g1)), g3, ?_, fun y hy => ?_⟩
    · refine .sr (.inr rfl) (by cases l' <;> rfl) (fun a' h' => ?_) (fun a' h' _ => ?_)
      · unfold upd at h'; rw [if_pos rfl] at h'; cases h'; exact Nat.le_refl _
      · have hA := (g3.mc.arr h').2
        unfold upd at h'
        rw [if_pos rfl] at h'
        cases h'
        rw [show locAdd (locAdd loc1 nid .no) nid l' nid = l' from if_pos rfl] at hA ⊢
        cases l' with
        | tb _ _ => exact hA.elim
        | _ => rfl
    · rcases hy with (hy | hy) | hy
      · exact .inl (hk1 _ hy)
      · exact .inr (by omega)
      · exact .inr (by omega)
  · rename_i id ver es
    obtain ⟨ob, hob, h⟩ := got_spec h
    split at h
    · rename_i ar
      obtain ⟨ns, hns, ⟨hk, hver, hel, hak, hb, h63, hnf⟩, h⟩ := got_spec h
      rw [es] at hsv
      obtain ⟨loc1, kn1, ht1, hk1⟩ := Tr.frz hm (fa (ev σ.t x))
      have hsrc := src_of hm hns hxv hsz hk ht1
      have hob1 : upd (frz (hget σ.h) (fa (ev σ.t x))) (hget σ.h) id = some (.arr ar) := by rw [frz_not hnf, hob]
      have hval : a.eval s = (loc1 id).val ar.es.length := by
        have hsv1 := hsv.le ht1.cx ht1.rf ht1.kn
        cases hsv1 with
        | sr hk' ho' hv hh =>
          have := hh ar hob1 hver
          cases hl : loc1 id <;> rw [hl] at this <;> first | exact this | exact this.elim
      obtain ⟨l', w', g1, g2⟩ := run_app ht1.mc hT hE hslc hsz hzl hob1 hel hak hsrc hk hb h63 o.type
      rw [hver] at g2
      have g3 := ht1.trans g2
      rw [← upd_cons] at g3
      refine ⟨_, _, _, _, _, _, _, h, .inl (key (by rw [hval]; exact g1)), g3, ?_, fun y hy => ?_⟩
      · refine .sr (.inr rfl) (by cases l' <;> rfl) (fun a' h' => ?_) (fun a' h' _ => ?_)
        · unfold upd at h'; rw [if_pos rfl] at h'; cases h'; exact Nat.le_refl _
        · have hA := (g3.mc.arr h').2
          unfold upd at h'
          rw [if_pos rfl] at h'
          cases h'
          rw [show locAdd loc1 id l' id = l' from if_pos rfl] at hA ⊢
          cases l' with
          | tb _ _ => exact hA.elim
          | _ => simp [Lc.val]
      · rcases hy with hy | rfl
        · exact .inl (hk1 _ hy)
        · exact .inl (hm.objs _ _ hob).1
    · exact h.elim
  · rename_i id ver es
    obtain ⟨ob, hob, h⟩ := got_spec h
    split at h
    · rename_i tt
      obtain ⟨⟨hver, hfz, hel, hsz1, hb, h63⟩, h⟩ := h
      rw [es] at hsv
      obtain ⟨lo, rl, hl, hTi⟩ := hm.tab hob
      have hval : a.eval s = lo.val tt.out.length := by
        cases hsv with
        | st hk' ho' hv hh => exact hh tt hob hver lo rl hl
      split at h
      · rename_i id1 ver1 ex
        obtain ⟨ob1, hob1, h⟩ := got_spec h
        split at h
        · rename_i ar
          obtain ⟨⟨hv1, haf, hae, hak, hne⟩, h⟩ := h
          rw [ex] at hxv
          obtain ⟨lo', w', g1, g2⟩ := run_appRow hm hT hE hslc hsz1 hzl hob hl hfz hel hob1 hv1 hne haf hae hak hxv hb h63 o.type
          rw [hver] at g2
          refine ⟨_, _, _, _, _, _, _, h, .inl (key (by rw [hval]; exact g1)), g2, ?_, fun y hy => ?_⟩
          · refine .st (.inr (.inl rfl)) (by cases lo' <;> rfl) (fun a' h' => ?_) (fun a' h' _ lo2 rl2 hl2 => ?_)
            · unfold upd at h'; rw [if_pos rfl] at h'; cases h'; exact Nat.le_refl _
            · unfold upd at h'
              rw [if_pos rfl] at h'
              cases h'
              rw [if_pos rfl] at hl2
              cases hl2
              simp
          · rcases hy with hy | rfl | rfl
            · exact .inl hy
            · exact .inl (hm.objs _ _ hob).1
            · exact .inl (hm.objs _ _ hob1).1
        · exact h.elim
      · exact h.elim
    · exact h.elim
  · rename_i id r es
    obtain ⟨ob, hob, h⟩ := got_spec h
    split at h
    · rename_i tt
      obtain ⟨ns, hns, row, hrow, ⟨hk, hfz, hel, hak, hb, h63, hf0⟩, h⟩ := got_spec h
      rw [es] at hsv
      obtain ⟨lo, rl, hl, hTi⟩ := hm.tab hob
      have hval : a.eval s = (rl r).val row.length := by
        cases hsv with
        | sw hk' ho' hv hh => exact hh tt row hob hrow lo rl hl
      have hfa : fa (ev σ.t x) = [] := by
        generalize ev σ.t x = q at hf0
        cases q <;> first | rfl | exact hf0
      have hsrc := src_of hm hns hxv hsz hk (loc' := loc) (kn' := kn) (by rw [hfa]; exact Tr.refl hm)
      rw [hfa] at hsrc
      have h0 := Tr.release hm hob hl hfz hn hrow
      have hid : upd [(nid, .arr (tt.arr row)), (id, .tab { tt with rows := tt.rows.set r none })] (hget σ.h) nid = some (.arr (tt.arr row)) := by simp [upd]
      obtain ⟨l', w', g1, g2⟩ := run_app h0.mc hT hE hslc hsz hzl hid hel hak (hsrc.le h0.cx rfl) hk hb h63 o.type
      have g3 := h0.trans g2
      have hU : upd [(nid, .arr { tt.arr row with es := row ++ ns, ver := (tt.arr row).ver + 1 })] (upd [(nid, .arr (tt.arr row)), (id, .tab { tt with rows := tt.rows.set r none })] (hget σ.h)) = upd [(nid, .arr ⟨tt.rel, tt.k, 1, false, row ++ ns⟩), (id, .tab { tt with rows := tt.rows.set r none })] (hget σ.h) := by
        funext y
        simp only [upd]
        split <;> rfl
      rw [hU] at g3
      rw [if_pos rfl] at g1
      refine ⟨_, _, _, _, _, _, _, h, .inl (key (by rw [hval]; exact g1)), g3, ?_, fun y hy => ?_⟩
      · refine .sr (.inr rfl) (by cases l' <;> rfl) (fun a' h' => ?_) (fun a' h' _ => ?_)
        · unfold upd at h'; rw [if_pos rfl] at h'; cases h'; exact Nat.le_refl _
        · have hA := (g3.mc.arr h').2
          unfold upd at h'
          rw [if_pos rfl] at h'
          cases h'
          rw [show locAdd (fun x => if x = nid then rl r else if x = id then Lc.tb lo (fun q => if q = r then .no else rl q) else loc x) nid l' nid = l' from if_pos rfl] at hA ⊢
          cases l' with
          | tb _ _ => exact hA.elim
          | _ => simp [Lc.val]
      · rcases hy with (hy | rfl | rfl) | rfl
        · exact .inl hy
        · exact .inr (by omega)
        · exact .inl (hm.objs _ _ hob).1
        · exact .inr (by omega)
    · exact h.elim
  · exact h.elim

theorem out_copy {c : Call} {s x : Operand} {t t' : TypeId} (ho : o.op = .call c) (hc : c.callee = .builtin .copy) (ha : c.args.toList = [s, x]) (htt : c.argTypes.toList = [t, t']) {T : Ty} (hT : TY P t = some T) (h : copyV P T (ev σ.t s) (ev σ.t x) σ K)
    (hm : MC E (hget σ.h) loc kn w) (hs : SlotsOk (cxOf E (hget σ.h) loc w) (hget σ.h) loc kn σ.t a) : Out P E o σ nid loc kn w a K := by
  unfold copyV at h
  obtain ⟨E2, hE, ⟨hslc, hsz⟩, h⟩ := got_spec h
  have hx := evRep hs s
  split at h
  · rename_i id ver he
    obtain ⟨ob, hob, h⟩ := got_spec h
    rw [he] at hx
    split at h
    · rename_i ar
      obtain ⟨ns, hns, ⟨hnk, hver, hfz, hk1, hno⟩, h⟩ := got_spec h
      obtain ⟨loc1, kn1, ht1, hkk⟩ := Tr.frz hm (fa (ev σ.t x))
      have hob' : upd (frz (hget σ.h) (fa (ev σ.t x))) (hget σ.h) id = some (.arr ar) := by rw [frz_not hno, hob]
      have hsrc := src_of hm hns (evRep hs x) (size := E2.size) (by omega) hnk ht1
      obtain ⟨A, cc, news, hv, hA, hl, hr, h1, hj⟩ := hsrc
      rw [hsz, Nat.mul_one] at hl
      have hu := slc_spec hT hslc
      obtain ⟨i, d, z, hi, hd, hz, x1, _⟩ := TY_spec hE
      have hi1 : (P.info? T.elem).map (·.size) = some 1 := by rw [hi]; simp [← x1, hsz]
      have eargs : c.args = #[s, x] := by cases hh : c.args; rw [hh] at ha; simp at ha; rw [ha]
      have etys : c.argTypes = #[t, t'] := by cases hh : c.argTypes; rw [hh] at htt; simp at htt; rw [htt]
      have hx' := hx.le ht1.cx ht1.rf (fun _ h => ht1.kn _ h)
      have hexec : ∀ (v : Value) (w' : World), (Builtin.copy_ #[t, t'] o.type #[a.eval s, a.eval x]).run P w = .ok v w' → (execOp a.eval o).run P w = .ok (.value v) w' := fun v w' hh => by
        unfold execOp
        simp [ho, resolve, hc, eargs, etys, invoke, builtin, hh]
      -- nothing goes over
      have noneC : min ns.length ar.es.length = 0 → (∃ ad n cap, a.eval s = .slice ad n cap ∧ n = ar.es.length) → Out P E o σ nid loc kn w a K := fun h0 ⟨ad, n, cap, hs1, hs2⟩ => by
        have hrun := run_copy_none (P := P) w t t' o.type T.elem ad A n cap ns.length cc hu hi1 (by subst hs2; exact h0)
        have e1 : ({ ar with es := ns.take ar.es.length ++ ar.es.drop ns.length } : Arr) = ar := by
          have : ns.take ar.es.length ++ ar.es.drop ns.length = ar.es := by
            rcases Nat.lt_or_ge 0 ns.length with h2 | h2
            · have : ar.es = [] := List.eq_nil_of_length_eq_zero (by omega)
              simp [this]
            · have : ns = [] := List.eq_nil_of_length_eq_zero (by omega)
              simp [this]
          rw [this]
        have e2 : upd ((id, .arr { ar with es := ns.take ar.es.length ++ ar.es.drop ns.length }) :: frz (hget σ.h) (fa (ev σ.t x))) (hget σ.h) = upd (frz (hget σ.h) (fa (ev σ.t x))) (hget σ.h) := by
          rw [e1, upd_cons]
          funext q
          simp only [upd]
          split
          · rename_i e; subst e; exact hob'.symm
          · rfl
        refine ⟨_, _, _, .int .i64 ((min ns.length ar.es.length : Nat) : Int), loc1, kn1, w, h, .inl (hexec _ _ ?_), by rw [e2]; exact ht1, .d (.v _), fun id hi => .inl (hkk id hi)⟩
        rw [hs1, hv, hrun, h0]
        rfl
      obtain ⟨hk0, hAr⟩ := ht1.mc.arr hob'
      have hdst : match loc1 id with
          | .no => a.eval s = .slice none 0 0
          | .pl b cap => a.eval s = .slice (some ⟨b, 0, none⟩) ar.es.length cap
          | .tb _ _ => False := by
        cases hx' with
        | sr hk ho1 hv1 hh => exact hh ar hob' hver
      cases hll : loc1 id with
      | no =>
        rw [hll] at hAr hdst
        have hAr : ar.es = [] := hAr
        exact noneC (by simp [hAr]) ⟨_, _, _, hdst, by simp [hAr]⟩
      | tb lo rl => rw [hll] at hdst; exact hdst.elim
      | pl b cap =>
        rw [hll] at hAr hdst
        by_cases h0 : min ns.length ar.es.length = 0
        · exact noneC h0 ⟨_, _, _, hdst, rfl⟩
        obtain ⟨cur, h2, h3, h4, h5, h6, h7⟩ := hAr
        cases A with
        | none => have := hA rfl; exact absurd (show min ns.length ar.es.length = 0 by omega) h0
        | some ad =>
          have hlen : (news.take ar.es.length).length = min ns.length ar.es.length := by rw [List.length_take, hl, Nat.min_comm]
          rw [hk1, Nat.mul_one] at h3
          have hrun := run_copy_row (P := P) w t t' o.type T.elem b 0 ar.es.length cap ad ns.length cc cur ar.el (news.take ar.es.length) hu hi1 h2 hlen (fun j v hv => by
            have hjl := (List.getElem?_eq_some_iff.1 hv).1
            rw [List.getElem?_take_of_lt (by rw [hlen] at hjl; omega)] at hv
            exact hr ad rfl j v hv) (by rw [hlen]; omega) (fun v hv => h1 v (List.mem_of_mem_take hv))
          have ht := Tr.setArr ht1.mc hob' hll hfz (ns.take ar.es.length ++ ar.es.drop ns.length) (by simp only [List.length_append, List.length_take, List.length_drop]; omega) (fun e he => by
              rcases List.mem_append.1 he with he | he
              · rw [hnk e (List.mem_of_mem_take he), hsz, hk1]
              · exact h6 e (List.mem_of_mem_drop he)) (cur.toList.take 0 ++ news.take ar.es.length ++ cur.toList.drop (0 + (news.take ar.es.length).length)).toArray (by
              rw [hk1, Nat.mul_one, List.size_toArray, List.length_append, List.length_append, hlen, List.length_drop, List.length_take, Array.length_toList]; omega) (fun q j e dd hq hd => by
            rw [hk1, Nat.mul_one, List.getElem?_toArray, List.take_zero, List.nil_append]
            have hel : e.length = 1 := by
              rcases List.mem_append.1 (List.mem_of_getElem? hq) with he | he
              · rw [hnk e (List.mem_of_mem_take he), hsz]
              · rw [h6 e (List.mem_of_mem_drop he), hk1]
            have hj0 : j = 0 := by have := (List.getElem?_eq_some_iff.1 hd).1; omega
            subst hj0
            rw [Nat.add_zero]
            have hl1 : (ns.take ar.es.length).length = min ns.length ar.es.length := by rw [List.length_take, Nat.min_comm]
            by_cases hql : q < min ns.length ar.es.length
            · rw [List.getElem?_append_left (by omega), List.getElem?_take_of_lt (by omega)] at hq
              rw [List.getElem?_append_left (by omega), List.getElem?_take_of_lt (by omega)]
              have := hj q 0 e dd hq hd
              rw [hsz, Nat.mul_one, Nat.add_zero] at this
              exact this
            · rw [List.getElem?_append_right (by omega), hl1] at hq
              rw [List.getElem?_append_right (by omega), hlen, List.getElem?_drop, Nat.zero_add, show min ns.length ar.es.length + (q - min ns.length ar.es.length) = q by omega, Array.getElem?_toList]
              rw [List.getElem?_drop] at hq
              have hlt := (List.getElem?_eq_some_iff.1 hq).1
              rw [show ns.length + (q - min ns.length ar.es.length) = q by omega] at hq
              have := h7 q 0 e dd hq hd
              rw [hk1, Nat.mul_one, Nat.add_zero] at this
              exact this)
          have ht2 := ht1.trans ht
          rw [← upd_cons] at ht2
          refine ⟨_, _, _, .int .i64 ((min ns.length ar.es.length : Nat) : Int), _, _, _, h, .inl (hexec _ _ ?_), ht2, .d (.v _), fun x hx => ?_⟩
          · rw [hdst, hv, hrun, hlen]
            rfl
          · rcases hx with hx | hx
            · exact .inl (hkk x hx)
            · subst hx; exact .inl (hm.objs _ _ hob).1
    · exact h.elim
  · exact h.elim
end
end Go.Pm
/-
  The pure machine, part 10: calls.
-/
set_option linter.unusedSimpArgs false
set_option linter.unusedVariables false
namespace Go.Pm
open Go.RowKit

section
variable {P : Program} {E : Env} {loc : Locs} {kn : Nat → Prop} {w : World} {a : Act} {σ : St} {nid : Nat} {K : Kt} {o : Oper}

theorem upd_append (A B : Heap) (g : Nat → Option Ob) : upd (A ++ B) g = upd A (upd B g) := by
  induction A with
  | nil => rfl
  | cons x A ih => rw [List.cons_append, upd_cons, upd_cons x A, ih]

theorem ArrAt.leD {C C' : Cx} (hC : C.leD C') {a : Arr} {l : Lc} (hb : ∀ b, l.has b → C'.w.heap[b]? = C.w.heap[b]?) (h : ArrAt C a l) : ArrAt C' a l := by
  cases l with
  | no => exact h
  | tb lo rl => exact h
  | pl b cap =>
    obtain ⟨c, h1, h2, h3, h4, h5, h6⟩ := h
    refine ⟨c, (hb b rfl).trans h1, h2, h3, h4, h5, fun i j e d hi hj => ?_⟩
    obtain ⟨u, h7, h8, h9⟩ := h6 i j e d hi hj
    exact ⟨u, h7, h8, h9.leD hC⟩

theorem TabAt.leD {C C' : Cx} (hC : C.leD C') {T : Tab} {l : Lc} (hb : ∀ b, l.has b → C'.w.heap[b]? = C.w.heap[b]?) (h : TabAt C T l) : TabAt C' T l := by
  cases l with
  | no => exact h
  | pl b cap => exact h
  | tb lo rl => exact ⟨h.pos, h.out.le (fun b hl => hb b (.inl hl)), fun r es he => (h.row r es he).leD hC (fun b hl => hb b (.inr ⟨r, hl⟩)), h.gone, h.sep, h.off, h.idx⟩

/-- which objects come of an answer -/
theorem adoptL_get : ∀ (rs : List R1) (nid : Nat) (g : Nat → Option Ob) (x : Nat), upd (adoptL nid rs).2 g x = (if nid ≤ x then match (rs[x - nid]?).bind R1.ob with
    | some ob => some ob
    | none => g x else g x)
  | [], nid, g, x => by simp [adoptL, upd]
  | r :: rs, nid, g, x => by
    simp only [adoptL]
    rw [upd_append]
    have ih := adoptL_get rs (nid + 1) g x
    by_cases hx : x = nid
    · subst hx
      rw [if_pos (Nat.le_refl _), Nat.sub_self, List.getElem?_cons_zero]
      cases r with
      | d y => simp only [adopt1, upd]; rw [ih, if_neg (by omega)]; rfl
      | so el k es => simp only [adopt1, upd, if_true]; rfl
      | sto el rel k rows => simp only [adopt1, upd, if_true]; rfl
    · have h1 : upd (adopt1 nid r).2 (upd (adoptL (nid + 1) rs).2 g) x = upd (adoptL (nid + 1) rs).2 g x := by
        cases r with
        | d y => rfl
        | so el k es => simp only [adopt1, upd, if_neg (Ne.symm hx)]
        | sto el rel k rows => simp only [adopt1, upd, if_neg (Ne.symm hx)]
      rw [h1, ih]
      by_cases hlt : nid ≤ x
      · rw [if_pos (by omega), if_pos hlt, show x - nid = (x - (nid + 1)) + 1 by omega, List.getElem?_cons_succ]
      · rw [if_neg (by omega), if_neg hlt]
theorem adoptL_val : ∀ (rs : List R1) (nid : Nat), (adoptL nid rs).1.length = rs.length ∧ ∀ (j : Nat) (p : PV), (adoptL nid rs).1[j]? = some p → ∃ r, rs[j]? = some r ∧ p = (adopt1 (nid + j) r).1
  | [], nid => ⟨rfl, fun j p h => by cases h⟩
  | r :: rs, nid => by
    obtain ⟨h1, h2⟩ := adoptL_val rs (nid + 1)
    refine ⟨by simp [adoptL, h1], fun j p hj => ?_⟩
    cases j with
    | zero => simp only [adoptL, List.getElem?_cons_zero, Option.some.injEq] at hj; exact ⟨r, rfl, by rw [← hj]; rfl⟩
    | succ j =>
      simp only [adoptL, List.getElem?_cons_succ] at hj
      obtain ⟨r', h3, h4⟩ := h2 j p hj
      exact ⟨r', by simpa using h3, by rw [h4]; congr 2; omega⟩

theorem RAll_get {C : Cx} : ∀ {ls : List Lc} {rs : List R1} {vs : List Value}, RAll C ls rs vs → ls.length = rs.length ∧ vs.length = rs.length ∧ ∀ (j : Nat) (l : Lc) (r : R1) (v : Value), ls[j]? = some l → rs[j]? = some r → vs[j]? = some v → R1At C l r v
  | [], [], [], _ => ⟨rfl, rfl, fun j l r v h => by cases h⟩
  | l :: ls, r :: rs, v :: vs, h => by
    obtain ⟨h1, h2, h3⟩ := RAll_get h.2
    refine ⟨by simp [h1], by simp [h2], fun j l' r' v' a b c => ?_⟩
    cases j with
    | zero => cases a; cases b; cases c; exact h.1
    | succ j => exact h3 j l' r' v' a b c
  | [], r :: rs, _, h => by cases h
  | [], [], v :: vs, h => by cases h
  | l :: ls, [], _, h => by cases h
  | l :: ls, r :: rs, [], h => by cases h
theorem lcSep_get : ∀ {ls : List Lc}, lcSep ls → ∀ (i j : Nat) (l l' : Lc) (b : Nat), ls[i]? = some l → ls[j]? = some l' → l.has b → l'.has b → i = j
  | [], _, i, j, l, l', b, h, _, _, _ => by cases h
  | x :: ls, h, i, j, l, l', b, hi, hj, h1, h2 => by
    cases i with
    | zero =>
      cases j with
      | zero => rfl
      | succ j => cases hi; exact absurd h2 (h.1 b h1 l' (List.mem_of_getElem? hj))
    | succ i =>
      cases j with
      | zero => cases hj; exact absurd h1 (h.1 b h2 l (List.mem_of_getElem? hi))
      | succ j => rw [lcSep_get h.2 i j l l' b hi hj h1 h2]

/-- the answers of a call become objects -/
theorem Tr.adopt {hg : Nat → Option Ob} (hm : MC E hg loc kn w) {w' : World} (hE : Below w.heap.size w w') {rs : List R1} (hn : ∀ j, j < rs.length → ¬ kn (nid + j)) {ls : List Lc} {vs : List Value}
    (hr : RAll ⟨w', owl ls, fun b o => owns hg loc b o ∨ E.am b o, none⟩ ls rs vs) (hsep : lcSep ls) (hfr : ∀ l ∈ ls, ∀ b, l.has b → w.heap.size ≤ b ∧ b < w'.heap.size) :
    ∃ loc' kn', Tr E hg loc kn w (upd (adoptL nid rs).2 hg) loc' kn' w' ∧ (∀ x, kn' x → kn x ∨ (nid ≤ x ∧ x < nid + rs.length)) ∧
      ∀ (j : Nat) (p : PV) (v : Value), (adoptL nid rs).1[j]? = some p → vs[j]? = some v → PRep (cxOf E (upd (adoptL nid rs).2 hg) loc' w') (upd (adoptL nid rs).2 hg) loc' kn' p v := by
  obtain ⟨hl1, hl2, hget⟩ := RAll_get hr
  have hw0 : E.w0.heap.size ≤ w.heap.size := hm.ext.size
  let L : Locs := fun x => if nid ≤ x ∧ x < nid + rs.length then (ls[x - nid]?).getD .no else loc x
  let G := upd (adoptL nid rs).2 hg
  have hLin : ∀ x l, nid ≤ x → ls[x - nid]? = some l → L x = l := fun x l h1 h2 => by
    have : x - nid < ls.length := (List.getElem?_eq_some_iff.1 h2).1
    show (if _ then _ else _) = _
    rw [if_pos ⟨h1, by omega⟩, h2]; rfl
  have hLout : ∀ x, ¬ (nid ≤ x ∧ x < nid + rs.length) → L x = loc x := fun x h => if_neg h
  have hnone : ∀ x, nid ≤ x → x < nid + rs.length → hg x = none := fun x h1 h2 => by
    cases e : hg x with
    | none => rfl
    | some ob =>
      have := (hm.objs x ob e).1
      rw [show x = nid + (x - nid) by omega] at this
      exact absurd this (hn _ (by omega))
  -- an object is new or old
  have hG : ∀ x ob, G x = some ob → (∃ r l v, nid ≤ x ∧ rs[x - nid]? = some r ∧ r.ob = some ob ∧ ls[x - nid]? = some l ∧ vs[x - nid]? = some v ∧ L x = l) ∨ (hg x = some ob ∧ ¬ (nid ≤ x ∧ x < nid + rs.length)) := fun x ob h => by
    have h0 := adoptL_get rs nid hg x
    rw [show upd (adoptL nid rs).2 hg x = some ob from h] at h0
    by_cases hx : nid ≤ x
    · rw [if_pos hx] at h0
      by_cases hlt : x < nid + rs.length
      · have hr1 : x - nid < rs.length := by omega
        rw [List.getElem?_eq_getElem hr1, Option.bind_some] at h0
        cases hro : (rs[x - nid]).ob with
        | none => rw [hro] at h0; simp only at h0; rw [hnone x hx hlt] at h0; cases h0
        | some ob' =>
          rw [hro] at h0
          simp only [Option.some.injEq] at h0
          subst h0
          have hl : ls[x - nid]? = some ls[x - nid] := List.getElem?_eq_getElem (by omega)
          exact .inl ⟨rs[x - nid], ls[x - nid], vs[x - nid], hx, List.getElem?_eq_getElem hr1, hro, hl, List.getElem?_eq_getElem (by omega), hLin x _ hx hl⟩
      · rw [List.getElem?_eq_none (by omega)] at h0
        exact .inr ⟨h0.symm, by omega⟩
    · rw [if_neg hx] at h0
      exact .inr ⟨h0.symm, by omega⟩
  have hGold : ∀ x, ¬ (nid ≤ x ∧ x < nid + rs.length) → G x = hg x := fun x h => by
    have h0 := adoptL_get rs nid hg x
    by_cases hx : nid ≤ x
    · rw [if_pos hx, List.getElem?_eq_none (by omega)] at h0
      exact h0
    · rw [if_neg hx] at h0
      exact h0
  have hown : ∀ b o, owns G L b o → owl ls b o ∨ owns hg loc b o := fun b o ⟨x, ob, h1, h2, h3⟩ => by
    rcases hG x ob h1 with ⟨_, l, v, _, _, _, h4, _, h5⟩ | ⟨h4, h5⟩
    · rw [h5] at h2
      exact .inl ⟨l, List.mem_of_getElem? h4, h2⟩
    · rw [hLout x h5] at h2
      exact .inr ⟨x, ob, h4, h2, h3⟩
  have hC : Cx.le (cxOf E hg loc w) (cxOf E G L w') := ⟨fun b o v h1 _ => cell_old h1 (hE.block b (cell_lt h1)), fun b o v h1 h2 h3 => by
      rcases hown b o h3 with ⟨l, h4, h5⟩ | h4
      · have g1 := (hfr l h4 b h5).1
        have g2 : b < w.heap.size := cell_lt h1
        omega
      · exact h2 h4, fun _ _ _ _ _ h => h, rfl⟩
  have hD : Cx.leD ⟨w', owl ls, fun b o => owns hg loc b o ∨ E.am b o, none⟩ (cxOf E G L w') := fun b o v h1 h2 h3 => ⟨h1, fun h4 => by
      rcases hown b o h4 with h5 | h5
      · exact h2 h5
      · exact h3 (.inl h5), fun h4 => h3 (.inr h4)⟩
  have hkout : ∀ x, kn x → ¬ (nid ≤ x ∧ x < nid + rs.length) := fun x hk ⟨h1, h2⟩ => hn (x - nid) (by omega) (by rw [show nid + (x - nid) = x by omega]; exact hk)
  have hR : RefLe hg G loc L kn := ⟨fun x cs hk hx => by rw [hGold x (hkout x hk)] at hx; exact ⟨⟨_, hx⟩, hLout x (hkout x hk)⟩, fun x ar hk hx => by
      rw [hGold x (hkout x hk)] at hx; exact ⟨ar, hx, fun _ => ⟨rfl, rfl, hLout x (hkout x hk)⟩, Nat.le_refl _⟩, fun x T hk hx => by
      rw [hGold x (hkout x hk)] at hx
      refine ⟨T, hx, ?_⟩
      rw [hLout x (hkout x hk)]
      exact .refl _ _⟩
  refine ⟨L, fun x => kn x ∨ (nid ≤ x ∧ x < nid + rs.length), ⟨⟨hm.ext.trans (hE.mono hw0), fun b o ha => Nat.lt_of_lt_of_le (hm.amlt b o ha) hE.size, fun x ob hx => ?_, fun x y b hx hy hbx hby => ?_, fun x b hx hb => ?_, fun x b o hx hb ha => ?_⟩, hC, hR, fun _ h => .inl h, hE.size, fun b hb _ => hE.block b hb, fun x b hx hb => ?_⟩, fun _ h => h, fun j p v hp hv => ?_⟩
  · rcases hG x ob hx with ⟨r, l, v, h1, h2, hro, h4, h5, h6⟩ | ⟨h1, h2⟩
    · refine ⟨.inr ⟨h1, by have := (List.getElem?_eq_some_iff.1 h2).1; omega⟩, ?_⟩
      have hr1 := hget _ _ _ _ h4 h2 h5
      rw [h6]
      cases r with
      | d y => cases hro
      | so el k es => cases hro; exact ⟨hr1.1, hr1.2.1.leD hD (fun _ _ => rfl)⟩
      | sto el rel k rows => cases hro; exact TabAt.leD hD (fun _ _ => rfl) hr1.1
    · obtain ⟨g1, g2⟩ := hm.objs x ob h1
      refine ⟨.inl g1, ?_⟩
      rw [hLout x h2]
      exact g2.le hC hR (fun _ h => .inl h) (fun b hb => hE.block b (hm.fresh x b (by simp [h1]) hb).2)
  · obtain ⟨ox, hox⟩ := Option.ne_none_iff_exists'.1 hx
    obtain ⟨oy, hoy⟩ := Option.ne_none_iff_exists'.1 hy
    rcases hG x ox hox with ⟨_, l, _, h1, h2, _, h4, _, h6⟩ | ⟨h1, h2⟩ <;> rcases hG y oy hoy with ⟨_, l', _, k1, k2, _, k4, _, k6⟩ | ⟨k1, k2⟩
    · rw [h6] at hbx
      rw [k6] at hby
      have := lcSep_get hsep _ _ _ _ b h4 k4 hbx hby
      omega
    · rw [h6] at hbx
      rw [hLout y k2] at hby
      have g1 := (hfr l (List.mem_of_getElem? h4) b hbx).1
      have g2 := (hm.fresh y b (by simp [k1]) hby).2
      omega
    · rw [k6] at hby
      rw [hLout x h2] at hbx
      have g1 := (hfr l' (List.mem_of_getElem? k4) b hby).1
      have g2 := (hm.fresh x b (by simp [h1]) hbx).2
      omega
    · rw [hLout x h2] at hbx
      rw [hLout y k2] at hby
      exact hm.sep x y b (by simp [h1]) (by simp [k1]) hbx hby
  · obtain ⟨ox, hox⟩ := Option.ne_none_iff_exists'.1 hx
    rcases hG x ox hox with ⟨_, l, _, h1, h2, _, h4, _, h6⟩ | ⟨h1, h2⟩
    · rw [h6] at hb
      obtain ⟨g1, g2⟩ := hfr l (List.mem_of_getElem? h4) b hb
      exact ⟨by omega, g2⟩
    · rw [hLout x h2] at hb
      obtain ⟨g1, g2⟩ := hm.fresh x b (by simp [h1]) hb
      exact ⟨g1, Nat.lt_of_lt_of_le g2 hE.size⟩
  · obtain ⟨ox, hox⟩ := Option.ne_none_iff_exists'.1 hx
    rcases hG x ox hox with ⟨_, l, _, h1, h2, _, h4, _, h6⟩ | ⟨h1, h2⟩
    · rw [h6] at hb
      have g1 := (hfr l (List.mem_of_getElem? h4) b hb).1
      have g2 := hm.amlt b o ha
      omega
    · rw [hLout x h2] at hb
      exact hm.amno x b o (by simp [h1]) hb ha
  · obtain ⟨ox, hox⟩ := Option.ne_none_iff_exists'.1 hx
    rcases hG x ox hox with ⟨_, l, _, h1, h2, _, h4, _, h6⟩ | ⟨h1, h2⟩
    · rw [h6] at hb
      exact .inr (hfr l (List.mem_of_getElem? h4) b hb).1
    · rw [hLout x h2] at hb
      exact .inl ⟨x, by simp [h1], hb⟩
  · obtain ⟨r, h1, h2⟩ := (adoptL_val rs nid).2 j p hp
    have hjl : j < rs.length := (List.getElem?_eq_some_iff.1 h1).1
    have h3 : ls[j]? = some ls[j] := List.getElem?_eq_getElem (by omega)
    have h4 := hget j _ r v h3 h1 hv
    cases r with
    | d x =>
      subst h2
      exact .d (h4.2.leD hD)
    | so el k es =>
      obtain ⟨g1, g2, g3⟩ := h4
      have hGj : G (nid + j) = some (.arr ⟨el, k, 0, false, es⟩) := by
        have := adoptL_get rs nid hg (nid + j)
        rw [if_pos (by omega), show nid + j - nid = j by omega, h1] at this
        exact this
      have hLj : L (nid + j) = ls[j] := hLin _ _ (by omega) (by rw [show nid + j - nid = j by omega]; exact h3)
      subst h2
      refine .sr (.inr ⟨by omega, by omega⟩) (by rw [g3]; cases ls[j] <;> rfl) (fun _ _ => Nat.zero_le _) (fun ar har _ => ?_)
      have har : G (nid + j) = some (.arr ar) := har
      rw [hGj] at har
      cases har
      rw [hLj, g3]
      cases hlj : ls[j] with
      | tb a b => rw [hlj] at g2; exact g2.elim
      | _ => rfl
    | sto el rel k rows =>
      obtain ⟨g1, g2⟩ := h4
      have hGj : G (nid + j) = some (.tab ⟨el, rel, k, 0, false, List.range rows.length, rows.map some⟩) := by
        have := adoptL_get rs nid hg (nid + j)
        rw [if_pos (by omega), show nid + j - nid = j by omega, h1] at this
        exact this
      have hLj : L (nid + j) = ls[j] := hLin _ _ (by omega) (by rw [show nid + j - nid = j by omega]; exact h3)
      subst h2
      cases hlj : ls[j] with
      | no => rw [hlj] at g1; exact g1.elim
      | pl b cap => rw [hlj] at g1; exact g1.elim
      | tb lo rl =>
        have hv := g2 lo rl hlj
        refine .st (.inr ⟨by omega, by omega⟩) (by rw [hv]; cases lo <;> rfl) (fun _ _ => Nat.zero_le _) (fun T hT _ lo2 rl2 hl2 => ?_)
        have hT : G (nid + j) = some (.tab T) := hT
        rw [hGj] at hT
        cases hT
        have hl2 : L (nid + j) = .tb lo2 rl2 := hl2
        rw [hLj, hlj] at hl2
        cases hl2
        simpa using hv

/-! ### the arguments -/
theorem toCallee {hg : Nat → Option Ob} : Cx.leD (cxOf E hg loc w) ⟨w, fun _ _ => False, fun b o => owns hg loc b o ∨ E.am b o, none⟩ := fun b o v h1 h2 h3 => ⟨h1, fun h => h, fun h => by
  rcases h with h | h
  · exact h2 h
  · exact h3 h⟩

abbrev CRep (w : World) (am : Nat → Nat → Prop) (p : PV) (v : Value) : Prop := PRep ⟨w, fun _ _ => False, am, none⟩ (fun _ => none) (fun _ => .no) (fun _ => False) p v

theorem a1_rep {hg g' : Nat → Option Ob} {loc' : Locs} {kn' : Nat → Prop} (hm : MC E hg loc kn w) (ht : Tr E hg loc kn w g' loc' kn' w) {p q : PV} {v : Value} (hd : a1 hg p = some q)
    (hf : ∀ id ∈ g1 hg p, FrzAt hg g' id) (h : PRep (cxOf E hg loc w) hg loc kn p v) : CRep w (fun b o => owns g' loc' b o ∨ E.am b o) q v := by
  unfold a1 at hd
  split at hd
  · cases hd
    cases h with
    | bw f hcell hrep => exact .bw f (fun j p hj => ⟨(hcell j p hj).1, (hcell j p hj).2.1, fun h => h⟩) (fun j p hj => ((hrep j p hj).le ht.cx).leD toCallee)
  · rename_i id ver i off
    split at hd
    · rename_i cs hcs
      split at hd
      · rename_i r hr
        cases hd
        obtain ⟨b, cap, c, e0, hl, hblk, hcl, hc⟩ := hm.box hcs
        cases h with
        | pr hk ho hv hb ha =>
          have := hb cs hcs b cap hl
          subst this
          have hg1 : g1 hg (.pr id ver i off) = f0s (cs.drop off) := by simp [g1, hcs]
          have hget : ∀ (j : Nat) (p : PV), (cs.drop off)[j]? = some p → ∃ u, c[off + j]? = some u ∧ u.oneCell' = true ∧ PRep (cxOf E hg loc w) hg loc kn p u := fun j p hj => by
            rw [List.getElem?_drop] at hj
            exact hc _ p hj
          refine .bw (fun j => (c[off + j]?).getD undef) (fun j p hj => ?_) (fun j p hj => ?_)
          · obtain ⟨q, h1, h2, h3⟩ := (d0s_len hr).2 j p hj
            obtain ⟨u, h4, h5, h6⟩ := hget j q h1
            rw [h4]
            exact ⟨rd_row hblk h4, h5, fun h => h⟩
          · obtain ⟨q, h1, h2, h3⟩ := (d0s_len hr).2 j p hj
            obtain ⟨u, h4, h5, h6⟩ := hget j q h1
            rw [h4]
            exact (d0_rep ht h2 (fun id hid => hf id (by rw [hg1]; exact h3 id hid)) h6).leD toCallee
      · cases hd
    · cases hd
  · rename_i h1 h2
    have e : g1 hg p = f1 p := by
      cases p <;> first | rfl | exact absurd rfl (h2 _ _ _ _)
    split at hd
    · rename_i x hx
      cases hd
      exact .d ((d1_rep ht hx (fun id hid => hf id (by rw [e]; exact hid)) h).leD toCallee)
    · cases hd
theorem a1s_len {hg : Nat → Option Ob} : ∀ {ps qs : List PV}, a1s hg ps = some qs → qs.length = ps.length ∧ ∀ (j : Nat) (q : PV), qs[j]? = some q → ∃ p, ps[j]? = some p ∧ a1 hg p = some q ∧ ∀ id ∈ g1 hg p, id ∈ g1s hg ps
  | [], qs, h => by simp [a1s] at h; subst h; exact ⟨rfl, fun j q hj => by cases hj⟩
  | p :: l, qs, h => by
    simp only [a1s] at h
    split at h
    · rename_i x r h1 h2
      cases h
      obtain ⟨ih1, ih2⟩ := a1s_len h2
      refine ⟨by simp [ih1], fun j y hj => ?_⟩
      cases j with
      | zero => cases hj; exact ⟨p, rfl, h1, fun id hi => by simp [g1s, hi]⟩
      | succ j =>
        obtain ⟨q, k1, k2, k3⟩ := ih2 j y hj
        exact ⟨q, k1, k2, fun id hi => by simp [g1s, k3 id hi]⟩
    · cases h
theorem a2_rep {hg g' : Nat → Option Ob} {loc' : Locs} {kn' : Nat → Prop} (hm : MC E hg loc kn w) (ht : Tr E hg loc kn w g' loc' kn' w) {p q : PV} {v : Value} (hd : a2 hg p = some q)
    (hf : ∀ id ∈ g2 hg p, FrzAt hg g' id) (h : PRep (cxOf E hg loc w) hg loc kn p v) : CRep w (fun b o => owns g' loc' b o ∨ E.am b o) q v := by
  unfold a2 at hd
  split at hd
  · rename_i f caps
    split at hd
    · rename_i r hr
      cases hd
      cases h with
      | @fn _ _ vs hl hj =>
        refine .fn (by rw [hl, (a1s_len hr).1]) (fun j q v hq hv => ?_)
        obtain ⟨p, h1, h2, h3⟩ := (a1s_len hr).2 j q hq
        exact a1_rep hm ht h2 (fun id hid => hf id (h3 id hid)) (hj j p v h1 hv)
    · cases hd
  · rename_i h1
    have e : g2 hg p = g1 hg p := by
      cases p <;> first | rfl | exact absurd rfl (h1 _ _)
    exact a1_rep hm ht hd (fun id hid => hf id (by rw [e]; exact hid)) h
theorem a2s_len {hg : Nat → Option Ob} : ∀ {ps qs : List PV}, a2s hg ps = some qs → qs.length = ps.length ∧ ∀ (j : Nat) (q : PV), qs[j]? = some q → ∃ p, ps[j]? = some p ∧ a2 hg p = some q ∧ ∀ id ∈ g2 hg p, id ∈ g2s hg ps
  | [], qs, h => by simp [a2s] at h; subst h; exact ⟨rfl, fun j q hj => by cases hj⟩
  | p :: l, qs, h => by
    simp only [a2s] at h
    split at h
    · rename_i x r h1 h2
      cases h
      obtain ⟨ih1, ih2⟩ := a2s_len h2
      refine ⟨by simp [ih1], fun j y hj => ?_⟩
      cases j with
      | zero => cases hj; exact ⟨p, rfl, h1, fun id hi => by simp [g2s, hi]⟩
      | succ j =>
        obtain ⟨q, k1, k2, k3⟩ := ih2 j y hj
        exact ⟨q, k1, k2, fun id hi => by simp [g2s, k3 id hi]⟩
    · cases h

/-- a call of a function of Go -/
theorem call_run {c : Call} {f : Operand} {g : FuncId} {caps : List PV} (ho : o.op = .call c) (hc : c.callee = .value f) (hf : ev σ.t f = .fn g caps) (hent : ∀ args w, (callFunc g args).run P w = .ok (.enter g args) w) (hs : SlotsOk (cxOf E (hget σ.h) loc w) (hget σ.h) loc kn σ.t a) {ro : Option Nat} {n : Nat} {next : Act → World → Prop} {Q : Exit → Act → World → Prop}
    (h : ∀ vs : Array Value, vs.size = (c.args.toList.map (ev σ.t) ++ caps).length → (∀ (j : Nat) (p : PV) (v : Value), (c.args.toList.map (ev σ.t) ++ caps)[j]? = some p → vs[j]? = some v → PRep (cxOf E (hget σ.h) loc w) (hget σ.h) loc kn p v) →
      Calls P g vs w fun e w' => ∃ v, e = .returned v ∧ next (a.put o.dst v) w') : o.wpIn (FW ro) n P a w next Q := by
  have hfv := evRep hs f
  rw [hf] at hfv
  generalize hav : a.eval f = av at hfv
  cases hfv with
  | @fn _ _ cv hl hj =>
    have hrun : (execOp a.eval o).run P w = .ok (.enter g (c.args.map a.eval ++ cv)) w := by
      unfold execOp
      simp only [ho, resolve, hc, hav, Deferred.ofValue, Sem.run_bind, Sem.run_pure, Result.andThen_ok, invoke]
      simp [hent]
    refine ⟨fun _ _ => trivial, ?_⟩
    rw [Oper.semAt_eq _ _ _ (by simp [ho]), hrun, Oper.uponIn_enter]
    refine ⟨fun h0 => (by cases h0), calls_FW (Calls.mono (h (c.args.map a.eval ++ cv) (by simp [hl]) (fun j p v h1 hv => ?_)) ?_)⟩
    · by_cases hlt : j < c.args.size
      · rw [List.getElem?_append_left (by simpa using hlt), List.getElem?_map] at h1
        obtain ⟨x, hx, rfl⟩ := Option.map_eq_some_iff.1 h1
        rw [Array.getElem?_append_left (by simpa using hlt), Array.getElem?_map] at hv
        rw [Array.getElem?_toList] at hx
        rw [hx] at hv
        cases hv
        exact evRep hs x
      · rw [List.getElem?_append_right (by simpa using hlt)] at h1
        rw [Array.getElem?_append_right (by simpa using hlt)] at hv
        simp only [List.length_map, Array.length_toList] at h1
        simp only [Array.size_map] at hv
        exact hj _ p v h1 hv
    · rintro e w' ⟨v, rfl, h2⟩
      exact h2

theorem pcall_run {g : FuncId} {ps as : List PV} {r : R} (ha : a2s (hget σ.h) ps = some as) (hp : PCall P g as r) (hlen : r.list.length ≤ 4) (hm : MC E (hget σ.h) loc kn w) (hn : ∀ j, j < 4 → ¬ kn (nid + j)) {next : Value → World → Prop}
    (hnext : ∀ v loc' kn' w', Tr E (hget σ.h) loc kn w (upd ((adopt nid r).2 ++ if r.plain = true then [] else frz (hget σ.h) (g2s (hget σ.h) ps)) (hget σ.h)) loc' kn' w' →
      PRep (cxOf E (upd ((adopt nid r).2 ++ if r.plain = true then [] else frz (hget σ.h) (g2s (hget σ.h) ps)) (hget σ.h)) loc' w') (upd ((adopt nid r).2 ++ if r.plain = true then [] else frz (hget σ.h) (g2s (hget σ.h) ps)) (hget σ.h)) loc' kn' (adopt nid r).1 v →
      (∀ id, kn' id → kn id ∨ (nid ≤ id ∧ id < nid + 4)) → next v w')
    (vs : Array Value) (hvs : vs.size = ps.length) (hrep : ∀ (j : Nat) (p : PV) (v : Value), ps[j]? = some p → vs[j]? = some v → PRep (cxOf E (hget σ.h) loc w) (hget σ.h) loc kn p v) :
    Calls P g vs w fun e w' => ∃ v, e = .returned v ∧ next v w' := by
  obtain ⟨loc1, kn1, ht1, hk1⟩ := Tr.frz hm (g2s (hget σ.h) ps)
  have hlens := (a2s_len ha).1
  refine Calls.mono (hp.calls (fun b o => owns (upd (frz (hget σ.h) (g2s (hget σ.h) ps)) (hget σ.h)) loc1 b o ∨ E.am b o) w _ (fun b o h => ?_) ?_ (fun j q v hq hv => ?_)) ?_
  · rcases h with ⟨x, ob, h1, h2, h3⟩ | h
    · exact (ht1.mc.fresh x b (by simp [h1]) h2).2
    · exact hm.amlt b o h
  · rw [hlens]; exact hvs
  · obtain ⟨p, h1, h2, h3⟩ := (a2s_len ha).2 j q hq
    exact a2_rep hm ht1 h2 (fun id hid => frz_in id (h3 id hid)) (hrep j p v h1 hv)
  · rintro e w' ⟨v, rfl, hE, ls, vs, hv, hall, hsep, hfr⟩
    by_cases hpl : r.plain = true
    · -- an answer without memory
      rw [if_pos hpl] at hnext
      obtain ⟨hl1, hl2, hgt⟩ := RAll_get hall
      have hall1 : ∀ r1 ∈ r.list, ∃ x, r1 = .d (.v x) := fun r1 h1 => by
        have : r1.plain = true := by
          cases r with
          | one r0 => have : r1 = r0 := by simpa [R.list] using h1
                      rw [this]; exact hpl
          | tup rs => exact List.all_eq_true.1 hpl r1 h1
        cases r1 with
        | d x => cases x with
          | v x => exact ⟨x, rfl⟩
          | _ => cases this
        | _ => cases this
      have hemp : ∀ (rs : List R1) (n : Nat), (∀ r1 ∈ rs, ∃ x, r1 = .d (.v x)) → (adoptL n rs).2 = [] := fun rs => by
        induction rs with
        | nil => intros; rfl
        | cons r1 rs ih =>
          intro n h
          obtain ⟨x, rfl⟩ := h r1 List.mem_cons_self
          simp only [adoptL, adopt1, List.nil_append]
          exact ih (n + 1) (fun r h' => h r (List.mem_cons_of_mem _ h'))
      have hE2 : (adopt nid r).2 = [] := by
        cases r with
        | one r1 => have := hemp [r1] nid hall1; simpa [adoptL, adopt] using this
        | tup rs => exact hemp rs nid hall1
      have hrep : ∀ (j : Nat) (p : PV) (v : Value), (adoptL nid r.list).1[j]? = some p → vs[j]? = some v → PRep (cxOf E (hget σ.h) loc w') (hget σ.h) loc kn p v := fun j p v hp hv => by
        obtain ⟨r1, h1, h2⟩ := (adoptL_val r.list nid).2 j p hp
        obtain ⟨x, rfl⟩ := hall1 r1 (List.mem_of_getElem? h1)
        have hjl : j < r.list.length := (List.getElem?_eq_some_iff.1 h1).1
        have h4 := hgt j _ _ v (List.getElem?_eq_getElem (by omega)) h1 hv
        subst h2
        cases h4.2
        exact .d (.v _)
      have ht := Tr.ext hm hE
      rw [hE2, List.nil_append] at hnext
      show ∃ v2, Ending.returned v = .returned v2 ∧ next v2 w'
      refine ⟨v, rfl, ?_⟩
      refine hnext v loc kn w' ht ?_ (fun id h => .inl h)
      cases r with
      | one r1 =>
        have h0 : 0 < vs.length := by rw [hl2]; simp [R.list]
        have := hrep 0 (adopt1 nid r1).1 vs[0] (by simp [R.list, adoptL]) (List.getElem?_eq_getElem h0)
        rw [hv]
        simp only [R.val, List.getD_eq_getElem?_getD, List.getElem?_eq_getElem h0, Option.getD_some]
        exact this
      | tup rs =>
        rw [hv]
        refine .tup (by simp [R.list] at hl2; rw [List.size_toArray, hl2, (adoptL_val rs nid).1]) (fun j p u hp hu => hrep j p u hp (by simpa using hu))
    rw [if_neg hpl] at hnext
    obtain ⟨loc2, kn2, ht2, hk2, hrep⟩ := Tr.adopt (nid := nid) ht1.mc hE (rs := r.list) (fun j hj h => hn j (by omega) (hk1 _ h)) hall hsep hfr
    have ht := ht1.trans ht2
    obtain ⟨hl1, hl2, hget⟩ := RAll_get hall
    have hfin : ∀ x, kn2 x → kn x ∨ (nid ≤ x ∧ x < nid + 4) := fun x hx => by
      rcases hk2 x hx with h | h
      · exact .inl (hk1 x h)
      · exact .inr (by omega)
    show ∃ v2, Ending.returned v = .returned v2 ∧ next v2 w'
    refine ⟨v, rfl, ?_⟩
    cases r with
    | one r1 =>
      have hU : (adopt nid (.one r1)).2 = (adoptL nid (R.one r1).list).2 := by simp [adopt, R.list, adoptL]
      rw [← upd_append, ← hU] at ht hrep
      refine hnext v loc2 kn2 w' ht ?_ hfin
      have h0 : 0 < vs.length := by rw [hl2]; simp [R.list]
      have := hrep 0 (adopt1 nid r1).1 vs[0] (by simp [R.list, adoptL]) (List.getElem?_eq_getElem h0)
      rw [hv]
      simp only [R.val, List.getD_eq_getElem?_getD, List.getElem?_eq_getElem h0, Option.getD_some]
      exact this
    | tup rs =>
      have hU : (adopt nid (.tup rs)).2 = (adoptL nid (R.tup rs).list).2 := rfl
      rw [← upd_append, ← hU] at ht hrep
      refine hnext v loc2 kn2 w' ht ?_ hfin
      rw [hv]
      refine .tup (by simp [R.list] at hl2; rw [List.size_toArray, hl2, (adoptL_val rs nid).1]) (fun j p u hp hu => hrep j p u hp (by simpa using hu))
end
end Go.Pm
