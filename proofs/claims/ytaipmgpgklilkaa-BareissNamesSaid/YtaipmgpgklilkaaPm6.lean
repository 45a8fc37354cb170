/-
  The pure machine, part 7: new objects, parts of slices, stores, appends.
-/
import Derived.Test.YtaipmgpgklilkaaPm5
import Derived.Great.BuildSlice
set_option linter.unusedSimpArgs false
set_option linter.unusedVariables false
namespace Go.Pm
open Go.RowKit

section
variable {P : Program} {E : Env} {loc : Locs} {kn : Nat → Prop} {w : World} {a : Act} {σ : St} {nid : Nat} {K : Kt} {o : Oper}

theorem one_cell {C : Cx} {hg : Nat → Option Ob} {q : PV} {u : Value} (hq : q.one) (hu : PRep C hg loc kn q u) : u.oneCell' = true := by
  cases hu with
  | any => exact hq.elim
  | d hr =>
    cases hr with
    | v => cases u <;> first | rfl | exact hq.elim
    | nil => rfl
    | sl => rfl
    | agg => exact hq.elim
  | nl => rfl
  | yd => rfl
  | bw => rfl
  | sr hk ho => exact ho
  | pr hk ho => exact ho
  | lt => rfl
  | lp => rfl
  | st hk ho => exact ho
  | tv hk ho => exact ho
  | po hk ho => exact ho
  | sw hk ho => exact ho
  | pw hk ho => exact ho
  | agg => exact hq.elim
  | tup => exact hq.elim
  | fn => rfl
theorem allOne_mem : ∀ {l : List PV}, allOne l → ∀ q ∈ l, q.one
  | [], _, q, h => by cases h
  | p :: l, h, q, hq => by
    rcases List.mem_cons.1 hq with rfl | hq
    · exact h.1
    · exact allOne_mem h.2 q hq

/-- the cells of a value -/
theorem cells_rep {C : Cx} {hg : Nat → Option Ob} {p : PV} {v : Value} (h : PRep C hg loc kn p v) (h1 : ∀ q ∈ cellsP p, q.one) : v.cells.size = (cellsP p).length ∧ ∀ (j : Nat) (q : PV), (cellsP p)[j]? = some q → ∃ u, v.cells[j]? = some u ∧ u.oneCell' = true ∧ PRep C hg loc kn q u := by
  have single : cellsP p = [p] → v.cells.size = (cellsP p).length ∧ ∀ (j : Nat) (q : PV), (cellsP p)[j]? = some q → ∃ u, v.cells[j]? = some u ∧ u.oneCell' = true ∧ PRep C hg loc kn q u := fun e => by
    have ho : p.one := h1 p (by rw [e]; simp)
    have hv := one_cell ho h
    have hc : v.cells = #[v] := by cases v <;> first | rfl | cases hv
    rw [e, hc]
    refine ⟨rfl, fun j q hj => ?_⟩
    cases j with
    | zero => cases hj; exact ⟨v, rfl, hv, h⟩
    | succ j => cases hj
  cases p with
  | agg cs =>
    cases h with
    | agg hl hj =>
      rename_i vs
      refine ⟨hl, fun j q hq => ?_⟩
      have hq : cs[j]? = some q := hq
      have hjl : j < vs.size := by rw [hl]; exact (List.getElem?_eq_some_iff.1 hq).1
      have hp := hj j q vs[j] hq (by simp [hjl])
      exact ⟨vs[j], by simp [Value.cells, hjl], one_cell (h1 q (List.mem_of_getElem? hq)) hp, hp⟩
  | d x =>
    cases x with
    | agg cs =>
      cases h with
      | d hr =>
        cases hr with
        | agg _ vs hl hj =>
          refine ⟨by simp [cellsP, Value.cells, hl], fun j q hq => ?_⟩
          have hq0 := hq
          simp only [cellsP, List.getElem?_map] at hq
          obtain ⟨d, hd, rfl⟩ := Option.map_eq_some_iff.1 hq
          have hjl : j < vs.size := by rw [hl]; exact (List.getElem?_eq_some_iff.1 hd).1
          have hp := hj j d vs[j] hd (by simp [hjl])
          exact ⟨vs[j], by simp [Value.cells, hjl], one_cell (h1 _ (List.mem_of_getElem? hq0)) (PRep.d (hg := hg) (loc := loc) (kn := kn) hp), .d hp⟩
    | _ => exact single rfl
  | _ => exact single rfl

theorem kn_one {id : Nat} (hid : id = nid) : ∀ x, knAdd kn id x → kn x ∨ (nid ≤ x ∧ x < nid + 4) := fun x hx => by
  rcases hx with h | h
  · exact .inl h
  · exact .inr (by omega)
theorem kn_same {id : Nat} (hid : kn id) : ∀ x, knAdd kn id x → kn x ∨ (nid ≤ x ∧ x < nid + 4) := fun x hx => by
  rcases hx with h | h
  · exact .inl h
  · subst h; exact .inl hid

/-- a new box -/
theorem out_newBox {t : TypeId} {cs : List PV} {c : Array Value} (hm : MC E (hget σ.h) loc kn w) (hn : ¬ kn nid) (hl : c.size = cs.length)
    (hc : ∀ (j : Nat) (p : PV), cs[j]? = some p → ∃ u, c[j]? = some u ∧ u.oneCell' = true ∧ PRep (cxOf E (hget σ.h) loc w) (hget σ.h) loc kn p u)
    (hrun : (execOp a.eval o).run P w = .ok (.value (.pointer (some ⟨w.heap.size, 0, none⟩))) (w.alloc (.cells c t))) (h : K σ (.pr nid 0 0 0) [(nid, .box cs)] []) : Out P E o σ nid loc kn w a K := by
  have ht := Tr.newBox hm hn cs c t hl hc
  refine ⟨_, _, _, _, _, _, _, h, .inl hrun, ht, ?_, kn_one rfl⟩
  refine .pr (.inr rfl) rfl (fun a' h' => by simp [upd] at h') (fun cs' h' b cap hb => ?_) (fun a' h' => by simp [upd] at h')
  rw [show locAdd loc nid (.pl w.heap.size 0) nid = .pl w.heap.size 0 from if_pos rfl] at hb
  cases hb
  rfl

theorem out_alloc {t : TypeId} (ho : o.op = .alloc t) (h : vcOp P o nid σ K) (hm : MC E (hget σ.h) loc kn w) (hn : ¬ kn nid) : Out P E o σ nid loc kn w a K := by
  unfold vcOp at h
  simp only [ho] at h
  obtain ⟨T, hT, h1, h⟩ := got_spec h
  obtain ⟨i, d, z, hi, hd, hz, e1, e2, e3, _⟩ := TY_spec hT
  refine out_newBox (t := t) (c := z.cells) hm hn (by simp [e3]) (fun j p hj => ?_) (by unfold execOp; simp [ho, Instr.alloc, zeroValue, typeInfo, hi, hz, newVar, newRow]) h
  rw [List.getElem?_map] at hj
  obtain ⟨v, hv, rfl⟩ := Option.map_eq_some_iff.1 hj
  rw [e3, Array.getElem?_toList] at hv
  have hr : PRep (cxOf E (hget σ.h) loc w) (hget σ.h) loc kn (zPV v) v := zPVRep v
  exact ⟨v, hv, one_cell (allOne_mem h1 _ (List.mem_of_getElem? (by rw [List.getElem?_map, e3, Array.getElem?_toList, hv]; rfl))) hr, hr⟩

theorem out_box {t : TypeId} {x : Operand} (ho : o.op = .box t x) (h : vcOp P o nid σ K) (hm : MC E (hget σ.h) loc kn w) (hn : ¬ kn nid) (hs : SlotsOk (cxOf E (hget σ.h) loc w) (hget σ.h) loc kn σ.t a) : Out P E o σ nid loc kn w a K := by
  unfold vcOp at h
  simp only [ho] at h
  obtain ⟨h1, h⟩ := h
  obtain ⟨h2, h3⟩ := cells_rep (evRep hs x) (allOne_mem h1)
  exact out_newBox (t := t) (c := (a.eval x).cells) hm hn h2 h3 (by unfold execOp; simp [ho, Instr.box, newVar, newRow]) h

/-- a new array -/
theorem out_newArr {ar : Arr} {c : Array Value} {cap : Nat} {Rd : List Nat} (hm : MC E (hget σ.h) loc kn w) (hn : ¬ kn nid) (hk : 0 < ar.k) (hv : ar.ver = 0) (hl : c.size = cap * ar.k) (hle : ar.es.length ≤ cap) (hmx : cap ≤ maxLen) (hek : ∀ e ∈ ar.es, e.length = ar.k)
    (hc : ∀ (i j : Nat) (e : List D) (d : D), ar.es[i]? = some e → e[j]? = some d → ∃ u, c[i * ar.k + j]? = some u ∧ u.oneCell' = true ∧ Rep (cxOf E (hget σ.h) loc w) d u)
    (hrun : (execOp a.eval o).run P w = .ok (.value (.slice (some ⟨w.heap.size, 0, none⟩) ar.es.length cap)) (w.alloc (.cells c ar.el))) (h : K σ (.sr nid 0) [(nid, .arr ar)] Rd) : Out P E o σ nid loc kn w a K := by
  have ht := Tr.newArr hm hn ar c cap hk hl hle hmx hek hc
  refine ⟨_, _, _, _, _, _, _, h, .inl hrun, ht, ?_, kn_one rfl⟩
  refine .sr (.inr rfl) rfl (fun a' h' => Nat.zero_le _) (fun a' h' _ => ?_)
  have h' : ar = a' := by simpa [upd] using h'
  subst h'
  rw [show locAdd loc nid (.pl w.heap.size cap) nid = .pl w.heap.size cap from if_pos rfl]

theorem out_makeSlice {t : TypeId} {l c : Operand} (ho : o.op = .makeSlice t l c) (h : vcOp P o nid σ K) (hm : MC E (hget σ.h) loc kn w) (hn : ¬ kn nid) (hs : SlotsOk (cxOf E (hget σ.h) loc w) (hget σ.h) loc kn σ.t a) : Out P E o σ nid loc kn w a K := by
  unfold vcOp at h
  simp only [ho] at h
  split at h
  · rename_i k1 n k2 m e1 e2
    have hl := evRep hs l
    have hc := evRep hs c
    rw [e1] at hl
    rw [e2] at hc
    have hl := hl.val
    have hc := hc.val
    obtain ⟨T, hT, h⟩ := got_spec h
    obtain ⟨E2, hE, h⟩ := got_spec h
    obtain ⟨⟨hslc, hsz, hzl, h0, hnm, hmx, hby, hone⟩, h⟩ := h
    have hu := slc_spec hT hslc
    obtain ⟨i, d, z, hi, hd, hz, x1, x2, x3, _⟩ := TY_spec hE
    have hzs : z.cells.size = i.size := by rw [← x1, ← hzl, x3]; simp
    have hrun := run_make (P := P) w t T.elem i z hu hi hz k1 k2 n m h0 hnm (by rw [← x2]; omega) hmx
    refine out_newArr (ar := ⟨T.elem, E2.size, 0, false, List.replicate n.toNat (E2.zero.map zD)⟩) (c := madeCells z.cells (m.toNat * i.size)) (cap := m.toNat) hm hn hsz rfl (by rw [size_madeCells, x1]) (by simp; omega) (by simp only [maxLen]; omega) (fun e he => by rw [(List.mem_replicate.1 he).2]; simp [hzl]) (fun q j e dd hq hj => ?_) (by unfold execOp; simp [ho, hl, hc, hrun]) h
    have hq2 : q < n.toNat := by have := (List.getElem?_eq_some_iff.1 hq).1; simpa using this
    rw [List.getElem?_replicate, if_pos hq2] at hq
    cases hq
    rw [List.getElem?_map] at hj
    obtain ⟨v, hv, rfl⟩ := Option.map_eq_some_iff.1 hj
    have hjl : j < E2.size := by rw [← hzl]; exact (List.getElem?_eq_some_iff.1 hv).1
    rw [x3, Array.getElem?_toList] at hv
    have hlt : q * E2.size + j < m.toNat * i.size := by
      have : (q + 1) * E2.size ≤ m.toNat * E2.size := Nat.mul_le_mul_right _ (by omega)
      rw [Nat.add_mul] at this
      rw [← x1]
      omega
    refine ⟨v, ?_, one_cell (q := zPV v) (allOne_mem hone _ (List.mem_of_getElem? (i := j) (by rw [List.getElem?_map, x3, Array.getElem?_toList, hv]; rfl))) (zPVRep (C := cxOf E (hget σ.h) loc w) (hg := hget σ.h) (loc := loc) (kn := kn) v), zDRep v⟩
    have hmod : (q * E2.size + j) % z.cells.size = j := by rw [hzs, ← x1, Nat.mul_comm, Nat.mul_add_mod, Nat.mod_eq_of_lt hjl]
    simp only [madeCells, Array.getElem?_map, Array.getElem?_range, if_pos hlt, Option.map_some, hmod]
    rw [getElem!_def, hv]
  · exact h.elim

/-! ### freezing -/
def FrzAt (hg g' : Nat → Option Ob) (id : Nat) : Prop := (∀ ar, hg id = some (.arr ar) → g' id = some (.arr { ar with fz := true })) ∧ ∀ T, hg id = some (.tab T) → g' id = some (.tab { T with fz := true })
theorem frz_not {hg : Nat → Option Ob} {id : Nat} : ∀ {ids : List Nat}, ¬ id ∈ ids → upd (frz hg ids) hg id = hg id
  | [], _ => rfl
  | x :: l, hi => by
    have hx : ¬ x = id := fun e => hi (by simp [e])
    have hl : ¬ id ∈ l := fun h => hi (List.mem_cons_of_mem _ h)
    have ih := frz_not (hg := hg) (id := id) (ids := l) hl
    unfold frz
    split
    · simp only [upd, if_neg hx]; exact ih
    · simp only [upd, if_neg hx]; exact ih
    · exact ih
theorem frz_in {hg : Nat → Option Ob} : ∀ {ids : List Nat}, ∀ id ∈ ids, FrzAt hg (upd (frz hg ids) hg) id
  | [], id, hi => by cases hi
  | x :: l, id, hi => by
    by_cases hx : x = id
    · subst hx
      exact ⟨fun ar h => by simp [frz, h, upd], fun T h => by simp [frz, h, upd]⟩
    · have hl : id ∈ l := by rcases List.mem_cons.1 hi with e | e; exact absurd e.symm hx; exact e
      obtain ⟨ih1, ih2⟩ := frz_in (hg := hg) id hl
      unfold frz
      split
      · exact ⟨fun ar h => by simp only [upd, if_neg hx]; exact ih1 ar h, fun T h => by simp only [upd, if_neg hx]; exact ih2 T h⟩
      · exact ⟨fun ar h => by simp only [upd, if_neg hx]; exact ih1 ar h, fun T h => by simp only [upd, if_neg hx]; exact ih2 T h⟩
      · exact ⟨ih1, ih2⟩

theorem Tr.frz {hg : Nat → Option Ob} (hm : MC E hg loc kn w) : ∀ ids : List Nat, ∃ loc' kn', Tr E hg loc kn w (upd (frz hg ids) hg) loc' kn' w ∧ ∀ id, kn' id → kn id
  | [] => ⟨loc, kn, Tr.refl hm, fun _ h => h⟩
  | id :: l => by
    obtain ⟨loc', kn', ht, hk⟩ := Tr.frz hm l
    unfold Pm.frz
    split
    · rename_i ar har
      have hcur : ∃ ar', upd (Pm.frz hg l) hg id = some (.arr ar') ∧ { ar' with fz := true } = { ar with fz := true } := by
        by_cases hl : id ∈ l
        · exact ⟨_, (frz_in id hl).1 ar har, rfl⟩
        · exact ⟨ar, by rw [frz_not hl, har], rfl⟩
      obtain ⟨ar', h1, h2⟩ := hcur
      have hf := Tr.freeze ht.mc h1
      rw [h2] at hf
      rw [upd_cons]
      refine ⟨_, _, ht.trans hf, fun x hx => ?_⟩
      rcases hx with hx | hx
      · exact hk x hx
      · subst hx; exact (hm.objs _ _ har).1
    · rename_i T hT
      have hcur : ∃ T', upd (Pm.frz hg l) hg id = some (.tab T') ∧ { T' with fz := true } = { T with fz := true } := by
        by_cases hl : id ∈ l
        · exact ⟨_, (frz_in id hl).2 T hT, rfl⟩
        · exact ⟨T, by rw [frz_not hl, hT], rfl⟩
      obtain ⟨T', h1, h2⟩ := hcur
      have hf := Tr.freezeTab ht.mc h1
      rw [h2] at hf
      rw [upd_cons]
      refine ⟨_, _, ht.trans hf, fun x hx => ?_⟩
      rcases hx with hx | hx
      · exact hk x hx
      · subst hx; exact (hm.objs _ _ hT).1
    · exact ⟨loc', kn', ht, hk⟩

theorem tabIf_spec {T : Tab} {ver : Nat} {l : List Nat} {x : D} (h : tabIf T ver l = some x) : T.ver = ver ∧ ∃ es, T.sl l = some es ∧ x = .sl es := by
  unfold tabIf at h
  split at h
  · rename_i e
    refine ⟨e, ?_⟩
    split at h
    · rename_i es hes; cases h; exact ⟨es, hes, rfl⟩
    · cases h
  · cases h

/-- behind the freezing a reference's data may be handed on -/
theorem dz_rep {hg g' : Nat → Option Ob} {loc' : Locs} {kn' : Nat → Prop} (ht : Tr E hg loc kn w g' loc' kn' w) {p : PV} {x : D} {v : Value} (hd : dz hg p = some x)
    (hf : ∀ id ∈ fz p, FrzAt hg g' id) (h : PRep (cxOf E hg loc w) hg loc kn p v) : Rep (cxOf E g' loc' w) x v := by
  -- a table's places stay as it is frozen
  have tabs : ∀ id T, kn id → hg id = some (.tab T) → FrzAt hg g' id → ∃ lo rl, loc id = .tb lo rl ∧ g' id = some (.tab { T with fz := true }) ∧ ∃ rl', loc' id = .tb lo rl' ∧ ∀ r es, T.row r = some es → rl' r = rl r := fun id T hk hT hfz => by
    have hg' := hfz.2 T hT
    obtain ⟨T0, h1, g1, g2, g3, g4, g5, g6⟩ := ht.rf.tab id _ hk hg'
    rw [hT] at h1
    cases h1
    obtain ⟨lo', rl', hl', _⟩ := ht.mc.tab hg'
    obtain ⟨lo, rl, k1, k2, k3⟩ := g6 lo' rl' hl'
    have k4 := k2 rfl
    subst k4
    refine ⟨lo, rl, k1, hg', rl', hl', fun r es hr => (k3 r es ?_ hr).symm⟩
    unfold Tab.row at hr
    cases hq : T.rows[r]? with
    | none => rw [hq] at hr; cases hr
    | some q => exact (List.getElem?_eq_some_iff.1 hq).1
  unfold dz at hd
  split at hd
  · cases hd
    cases h with
    | d hr => exact hr.le ht.cx
  · cases hd
    cases h
    exact .nil
  · rename_i id ver
    split at hd
    · rename_i ar har
      split at hd
      · rename_i hver
        cases hd
        have hg' := (hf id (by simp [fz])).1 ar har
        cases h with
        | sr hk ho hv hh =>
          have hh := hh ar har hver
          obtain ⟨a0, h1, h2, h3⟩ := ht.rf.arr id _ hk hg'
          rw [har] at h1
          cases h1
          have hloc := (h2 rfl).2.2
          exact ht.mc.frozen hg' rfl (v := v) (by rw [hloc]; exact hh)
      · cases hd
    · cases hd
  · rename_i id ver
    split at hd
    · rename_i T hT
      obtain ⟨hver, es, hes, rfl⟩ := tabIf_spec hd
      cases h with
      | st hk ho hv hh =>
        obtain ⟨lo, rl, k1, k2, rl', k3, k4⟩ := tabs id T hk hT (hf id (by simp [fz]))
        have hv := hh T hT hver lo rl k1
        obtain ⟨_, _, q1, q2⟩ := ht.mc.tab k2
        rw [k3] at q1
        cases q1
        refine ht.mc.frozenTab k2 rfl (hl := k3) (o := 0) (n := T.out.length) (by simp) (es := es) (by rw [List.drop_zero, List.take_length]; exact (sl_rows (T := { T with fz := true }) (T' := T) rfl _).trans hes) ?_
        have hout := q2.out
        cases lo with
        | no => have hout : T.out = [] := hout; exact ⟨hv, by rw [hout]; rfl⟩
        | tb a b => exact hout.elim
        | pl b cap =>
          obtain ⟨c, _, _, g3, g4, _⟩ := hout
          exact ⟨0, cap, hv, fun _ => rfl, g3, g4⟩
    · cases hd
  · rename_i id ver o n
    split at hd
    · rename_i T hT
      obtain ⟨hver, es, hes, rfl⟩ := tabIf_spec hd
      cases h with
      | tv hk ho hv hh =>
        obtain ⟨lo, rl, k1, k2, rl', k3, k4⟩ := tabs id T hk hT (hf id (by simp [fz]))
        obtain ⟨hon, hv⟩ := hh T hT hver lo rl k1
        exact ht.mc.frozenTab k2 rfl hon ((sl_rows (T := { T with fz := true }) (T' := T) rfl _).trans hes) hv k3
    · cases hd
  · rename_i id r
    split at hd
    · rename_i T hT
      split at hd
      · rename_i es hes
        cases hd
        cases h with
        | sw hk ho hv hh =>
          obtain ⟨lo, rl, k1, k2, rl', k3, k4⟩ := tabs id T hk hT (hf id (by simp [fz]))
          rw [hh T es hT hes lo rl k1, ← k4 r es hes]
          exact ht.mc.frozenRow k2 rfl k3 hes
      · cases hd
    · cases hd
  · cases hd

theorem dzs_len {hg : Nat → Option Ob} : ∀ {ps : List PV} {xs : List D}, dzs hg ps = some xs → xs.length = ps.length ∧ ∀ (j : Nat) (x : D), xs[j]? = some x → ∃ p, ps[j]? = some p ∧ dz hg p = some x ∧ ∀ id ∈ fz p, id ∈ fzs ps
  | [], xs, h => by simp [dzs] at h; subst h; exact ⟨rfl, fun j x hj => by cases hj⟩
  | p :: l, xs, h => by
    simp only [dzs] at h
    split at h
    · rename_i x r h1 h2
      cases h
      obtain ⟨ih1, ih2⟩ := dzs_len h2
      refine ⟨by simp [ih1], fun j y hj => ?_⟩
      cases j with
      | zero => cases hj; exact ⟨p, rfl, h1, fun id hi => by simp [fzs, hi]⟩
      | succ j =>
        obtain ⟨q, g1, g2, g3⟩ := ih2 j y hj
        exact ⟨q, g1, g2, fun id hi => by simp [fzs, g3 id hi]⟩
    · cases h

theorem d0_rep {hg g' : Nat → Option Ob} {loc' : Locs} {kn' : Nat → Prop} (ht : Tr E hg loc kn w g' loc' kn' w) {p : PV} {x : D} {v : Value} (hd : d0 hg p = some x)
    (hf : ∀ id ∈ f0 p, FrzAt hg g' id) (h : PRep (cxOf E hg loc w) hg loc kn p v) : Rep (cxOf E g' loc' w) x v := by
  unfold d0 at hd
  split at hd
  · rename_i ps
    split at hd
    · rename_i ds hds
      cases hd
      obtain ⟨h1, h2⟩ := dzs_len hds
      cases h with
      | @lt _ b c f hc hmx hcell hh =>
        have e : ps.length = (ds.map fun x => [x]).length := by simp [h1]
        rw [e]
        have get : ∀ (i j : Nat) (e : List D) (y : D), (ds.map fun x => [x])[i]? = some e → e[j]? = some y → j = 0 ∧ ∃ p, ps[i]? = some p ∧ dz hg p = some y ∧ ∀ id ∈ fz p, id ∈ fzs ps := fun i j e y he hy => by
          rw [List.getElem?_map] at he
          obtain ⟨z, hz, rfl⟩ := Option.map_eq_some_iff.1 he
          have hj : j = 0 := by have := (List.getElem?_eq_some_iff.1 hy).1; simpa using this
          subst hj
          cases hy
          exact ⟨rfl, h2 i _ hz⟩
        refine .sl _ 1 c b 0 (fun i _ => f i) (by simp; omega) hmx (fun e he => by obtain ⟨z, _, rfl⟩ := List.mem_map.1 he; rfl) (fun i j e y he hy => ?_) (fun i j e y he hy => ?_)
        · obtain ⟨rfl, p, g1, g2, g3⟩ := get i j e y he hy
          obtain ⟨k1, k2, k3, k4⟩ := hcell i p g1
          rw [Nat.zero_add, Nat.mul_one, Nat.add_zero]
          exact ⟨ht.cx.cell _ _ _ k1 k3, k2, ht.cx.ow _ _ _ k1 k3, ht.cx.am _ _ _ k1 k3 k4⟩
        · obtain ⟨rfl, p, g1, g2, g3⟩ := get i j e y he hy
          exact dz_rep ht g2 (fun id hi => hf id (g3 id hi)) (hh i p g1)
    · cases hd
  · rename_i hne
    have e : f0 p = fz p := by cases p <;> first | rfl | exact absurd rfl (hne _)
    rw [e] at hf
    exact dz_rep ht hd hf h

theorem d0s_len {hg : Nat → Option Ob} : ∀ {ps : List PV} {xs : List D}, d0s hg ps = some xs → xs.length = ps.length ∧ ∀ (j : Nat) (x : D), xs[j]? = some x → ∃ p, ps[j]? = some p ∧ d0 hg p = some x ∧ ∀ id ∈ f0 p, id ∈ f0s ps
  | [], xs, h => by simp [d0s] at h; subst h; exact ⟨rfl, fun j x hj => by cases hj⟩
  | p :: l, xs, h => by
    simp only [d0s] at h
    split at h
    · rename_i x r h1 h2
      cases h
      obtain ⟨ih1, ih2⟩ := d0s_len h2
      refine ⟨by simp [ih1], fun j y hj => ?_⟩
      cases j with
      | zero => cases hj; exact ⟨p, rfl, h1, fun id hi => by simp [f0s, hi]⟩
      | succ j =>
        obtain ⟨q, g1, g2, g3⟩ := ih2 j y hj
        exact ⟨q, g1, g2, fun id hi => by simp [f0s, g3 id hi]⟩
    · cases h

theorem d0s_rep {hg g' : Nat → Option Ob} {loc' : Locs} {kn' : Nat → Prop} (ht : Tr E hg loc kn w g' loc' kn' w) {ps : List PV} {xs : List D} (hd : d0s hg ps = some xs)
    (hf : ∀ id ∈ f0s ps, FrzAt hg g' id) {c : Nat → Value} (h : ∀ (j : Nat) (p : PV), ps[j]? = some p → PRep (cxOf E hg loc w) hg loc kn p (c j)) :
    ∀ (j : Nat) (x : D), xs[j]? = some x → Rep (cxOf E g' loc' w) x (c j) := fun j x hj => by
  obtain ⟨p, h1, h2, h3⟩ := (d0s_len hd).2 j x hj
  exact d0_rep ht h2 (fun id hi => hf id (h3 id hi)) (h j p h1)

theorem d1_rep {hg g' : Nat → Option Ob} {loc' : Locs} {kn' : Nat → Prop} (ht : Tr E hg loc kn w g' loc' kn' w) {p : PV} {x : D} {v : Value} (hd : d1 hg p = some x)
    (hf : ∀ id ∈ f1 p, FrzAt hg g' id) (h : PRep (cxOf E hg loc w) hg loc kn p v) : Rep (cxOf E g' loc' w) x v := by
  unfold d1 at hd
  split at hd
  · rename_i cs
    split at hd
    · rename_i r hr
      cases hd
      cases h with
      | @agg _ vs hl hj =>
        refine .agg _ _ (by rw [hl, (d0s_len hr).1]) (fun j x u hx hu => ?_)
        obtain ⟨q, h1, h2, h3⟩ := (d0s_len hr).2 j x hx
        exact d0_rep ht h2 (fun id hi => hf id (h3 id hi)) (hj j q u h1 hu)
    · cases hd
  · rename_i hne
    have hff : f1 p = f0 p := by
      cases p <;> first | rfl | exact absurd rfl (hne _)
    exact d0_rep ht hd (fun id hi => hf id (by rw [hff]; exact hi)) h

/-! ### parts of slices -/
theorem els_spec {hg : Nat → Option Ob} {p : PV} {es : List (List D)} (h : els hg p = some es) : d0 hg p = some (.sl es) := by
  unfold els at h
  split at h
  · rename_i e; cases h; exact e
  · cases h

theorem rep_sl_shape {C : Cx} {es : List (List D)} {v : Value} (h : Rep C (.sl es) v) : (v = .slice none 0 0 ∧ es = []) ∨ ∃ b q c, v = .slice (some ⟨b, q, none⟩) es.length c ∧ es.length ≤ c ∧ c ≤ maxLen := by
  cases h with
  | nil => exact .inl ⟨rfl, rfl⟩
  | sl _ k c b q f hc hm => exact .inr ⟨b, q, c, rfl, hc, hm⟩

/-- some elements of a slice -/
theorem rep_part {C : Cx} {es : List (List D)} {b q c : Nat} (h : Rep C (.sl es) (.slice (some ⟨b, q, none⟩) es.length c)) (size : Nat) (hsz : ∀ e ∈ es, e.length = size) (l k m : Nat) (hk : l + k ≤ es.length) (hm : l + k ≤ m) (hmc : m ≤ c) :
    Rep C (.sl ((es.drop l).take k)) (.slice (if m = l then some ⟨b, q, none⟩ else some ⟨b, q + l * size, none⟩) k (m - l)) := by
  have hlen : ((es.drop l).take k).length = k := by rw [List.length_take, List.length_drop]; omega
  generalize hn : es.length = n at h
  cases h with
  | sl _ k' c b q f hc hmx hke hcell hrep =>
    by_cases hml : m = l
    · have : k = 0 := by omega
      subst this
      rw [if_pos hml]
      simp only [List.take_zero]
      exact .sl [] 0 _ b q f (by simp) (by omega) (by simp) (by simp) (by simp)
    · rw [if_neg hml]
      have := Rep.sl (C := C) ((es.drop l).take k) k' (m - l) b (q + l * size) (fun i j => f (l + i) j) (by rw [hlen]; omega) (by omega) (fun e he => hke e (List.mem_of_mem_drop (List.mem_of_mem_take he))) (fun i j e p hi hj => ?_) (fun i j e p hi hj => ?_)
      · rw [hlen] at this; exact this
      · have hil : i < k := by rw [← hlen]; exact (List.getElem?_eq_some_iff.1 hi).1
        rw [List.getElem?_take_of_lt hil, List.getElem?_drop] at hi
        have hmem := List.mem_of_getElem? hi
        have hkk : k' = size := (hke e hmem).symm.trans (hsz e hmem)
        obtain ⟨g1, g2, g3, g4⟩ := hcell _ j e p hi hj
        have e1 : q + l * size + i * k' + j = q + (l + i) * k' + j := by rw [hkk, Nat.add_mul]; omega
        rw [e1]
        exact ⟨g1, g2, g3, g4⟩
      · have hil : i < k := by rw [← hlen]; exact (List.getElem?_eq_some_iff.1 hi).1
        rw [List.getElem?_take_of_lt hil, List.getElem?_drop] at hi
        exact hrep _ j e p hi hj

theorem len_rep {hg : Nat → Option Ob} (hm : MC E hg loc kn w) {p : PV} {n : Nat} {v : Value} (hn : lenOf hg p = some n) (h : PRep (cxOf E hg loc w) hg loc kn p v) : ∃ ad cap, v = .slice ad n cap := by
  unfold lenOf at hn
  split at hn
  · cases hn; cases h; exact ⟨_, _, rfl⟩
  · cases hn
    cases h with
    | d hr =>
      cases hr with
      | nil => exact ⟨_, _, rfl⟩
      | sl => exact ⟨_, _, rfl⟩
  · cases hn; cases h; exact ⟨_, _, rfl⟩
  · rename_i id ver
    split at hn
    · rename_i ar har
      split at hn
      · rename_i hver
        cases hn
        cases h with
        | sr hk ho hv hh =>
          have hh := hh ar har hver
          obtain ⟨hk0, hA⟩ := hm.arr har
          cases hl : loc id with
          | no => rw [hl] at hA hh; have hA : ar.es = [] := hA; rw [hA]; exact ⟨_, _, hh⟩
          | pl b cap => rw [hl] at hh; exact ⟨_, _, hh⟩
          | tb lo rl => rw [hl] at hh; exact hh.elim
      · cases hn
    · cases hn
  · rename_i id ver
    split at hn
    · rename_i T hT
      split at hn
      · rename_i hver
        cases hn
        cases h with
        | st hk ho hv hh =>
          obtain ⟨lo, rl, hl, hTi⟩ := hm.tab hT
          have hh := hh T hT hver lo rl hl
          have hout := hTi.out
          cases lo with
          | no => have hout : T.out = [] := hout; rw [hout]; exact ⟨_, _, hh⟩
          | pl b cap => exact ⟨_, _, hh⟩
          | tb a b => exact hout.elim
      · cases hn
    · cases hn
  · rename_i id ver o m
    split at hn
    · rename_i T hT
      split at hn
      · rename_i hver
        cases hn
        cases h with
        | tv hk ho hv hh =>
          obtain ⟨lo, rl, hl, hTi⟩ := hm.tab hT
          obtain ⟨_, hh⟩ := hh T hT hver lo rl hl
          cases lo with
          | no => obtain ⟨h1, h2⟩ := hh; rw [h2]; exact ⟨_, _, h1⟩
          | pl b cap => obtain ⟨q, c, h1, _⟩ := hh; exact ⟨_, _, h1⟩
          | tb a b => exact hh.elim
      · cases hn
    · cases hn
  · rename_i id r
    split at hn
    · rename_i T hT
      split at hn
      · rename_i es hes
        cases hn
        cases h with
        | sw hk ho hv hh =>
          obtain ⟨lo, rl, hl, hTi⟩ := hm.tab hT
          have hh := hh T es hT hes lo rl hl
          have hA := hTi.row r es hes
          cases hr : rl r with
          | no => rw [hr] at hA hh; have hA : es = [] := hA; rw [hA]; exact ⟨_, _, hh⟩
          | pl b cap => rw [hr] at hh; exact ⟨_, _, hh⟩
          | tb a b => rw [hr] at hA; exact hA.elim
      · cases hn
    · cases hn
  · cases hn

theorem out_len {c : Call} {x : Operand} {t : TypeId} (ho : o.op = .call c) (hc : c.callee = .builtin .len) (ha : c.args.toList = [x]) (ht : c.argTypes.toList = [t]) (h : callV P c nid σ K) (hm : MC E (hget σ.h) loc kn w) (hs : SlotsOk (cxOf E (hget σ.h) loc w) (hget σ.h) loc kn σ.t a) : Out P E o σ nid loc kn w a K := by
  unfold callV at h
  simp only [hc, ha, ht] at h
  obtain ⟨T, hT, h⟩ := got_spec h
  obtain ⟨n, hn, h⟩ := got_spec h
  obtain ⟨hslc, h⟩ := h
  have hu := slc_spec hT hslc
  obtain ⟨ad, cap, hx⟩ := len_rep hm hn (evRep hs x)
  have e1 : c.args = #[x] := by cases hh : c.args; rw [hh] at ha; simp at ha; rw [ha]
  have e2 : c.argTypes = #[t] := by cases hh : c.argTypes; rw [hh] at ht; simp at ht; rw [ht]
  refine Out.quiet hm h (v := .int .i64 n) ?_ (.d (.v _))
  unfold execOp
  simp [ho, resolve, hc, e1, e2, invoke, builtin, Builtin.len_, run_underlying hu, hx, goInt]
end
end Go.Pm
