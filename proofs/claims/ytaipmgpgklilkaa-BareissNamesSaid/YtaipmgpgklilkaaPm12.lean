/-
  The pure machine, part 13: functions.
-/
import Derived.Test.YtaipmgpgklilkaaPmF
set_option linter.unusedSimpArgs false
set_option linter.unusedVariables false
namespace Go.Pm
open Go.RowKit

def retPV (P : Program) (t : Slots) (hg : Nat → Option Ob) : ResultVar → Option PV
  | .tmp u => some (get t u)
  | .cell u ty => match get t u with
    | .pr id _ _ off => match hg id, TY P ty with
      | some (.box cs), some T => if off + T.size ≤ cs.length ∧ (T.agg = false → T.size = 1) then some (mk T.agg ((cs.drop off).take T.size)) else none
      | _, _ => none
    | _ => none
def retPVs (P : Program) (t : Slots) (hg : Nat → Option Ob) : List ResultVar → Option (List PV)
  | [] => some []
  | x :: l => match retPV P t hg x, retPVs P t hg l with
    | some p, some ps => some (p :: ps)
    | _, _ => none
def retIs (hg : Nat → Option Ob) (p : PV) : R1 → Prop
  | .d x => d1 hg p = some x
  | .so el k es => match p with
    | .sr id ver => match hg id with
      | some (.arr a) => a.ver = ver ∧ a.fz = false ∧ a.el = el ∧ a.k = k ∧ a.es = es
      | _ => False
    | .nl => es = [] ∧ 0 < k
    | _ => False
  | .sto el rel k rows => match p with
    | .st id ver => match hg id with
      | some (.tab T) => T.ver = ver ∧ T.fz = false ∧ T.el = el ∧ T.rel = rel ∧ T.k = k ∧ T.out.Nodup ∧ T.out.map T.row = rows.map some
      | _ => False
    | .nl => rows = [] ∧ 0 < k
    | _ => False
def retsIs (hg : Nat → Option Ob) : List PV → List R1 → Prop
  | [], [] => True
  | p :: ps, r :: rs => retIs hg p r ∧ retsIs hg ps rs
  | _, _ => False
def ownId : PV → R1 → List Nat
  | .sr id _, .so _ _ _ => [id]
  | .st id _, .sto _ _ _ _ => [id]
  | _, _ => []
def ownIds : List PV → List R1 → List Nat
  | p :: ps, r :: rs => ownId p r ++ ownIds ps rs
  | _, _ => []
def frIds : List PV → List R1 → List Nat
  | p :: ps, .d _ :: rs => f1 p ++ frIds ps rs
  | _ :: ps, _ :: rs => frIds ps rs
  | _, _ => []
def apart : List Nat → List Nat → Prop
  | [], _ => True
  | i :: l, fr => ¬ i ∈ l ∧ ¬ i ∈ fr ∧ apart l fr
def RetS (P : Program) (fn : Func) (r : R) (σ : St) : Prop :=
  Got (retPVs P σ.t (hget σ.h) fn.results.toList) σ fun σ ps => (match r with
    | .one _ => ps.length = 1
    | .tup _ => ps.length ≠ 1) ∧ retsIs (hget σ.h) ps r.list ∧ apart (ownIds ps r.list) (frIds ps r.list)
def retK (P : Program) (fn : Func) (r : R) : Exit → St → Prop
  | .ret, σ => RetS P fn r σ
  | .normal, σ => RetS P fn r σ
  | _, _ => False

section
variable {P : Program} {E : Env} {loc : Locs} {kn : Nat → Prop} {w : World} {a : Act} {σ : St}

def resOne (a : Act) : ResultVar → Sem Value
  | .tmp t => pure (a.tmps.getD t undef)
  | .cell u t => do loadVar t (← asAddr (a.tmps.getD u undef))
theorem retPV_run (hc : Conc E σ loc kn a w) {x : ResultVar} {p : PV} (h : retPV P σ.t (hget σ.h) x = some p) :
    ∃ v, (resOne a x).run P w = .ok v w ∧ PRep (cxOf E (hget σ.h) loc w) (hget σ.h) loc kn p v := by
  cases x with
  | tmp u => cases h; exact ⟨_, rfl, hc.slots u⟩
  | cell u ty =>
    simp only [retPV] at h
    split at h
    · rename_i id ver i off hu
      split at h
      · rename_i cs T hcs hT
        split at h
        · rename_i hcond
          cases h
          obtain ⟨hsz, h1⟩ := hcond
          have hx := hc.slots u
          rw [hu] at hx
          obtain ⟨b, cap, c, e0, hl, hblk, hcl, hcell⟩ := hc.mc.box hcs
          generalize hav : a.tmps.getD u undef = av at hx
          cases hx with
          | pr hk ho hv hb ha =>
            have e1 := hb cs hcs b cap hl
            subst e1
            have hlen : ((c.toList.drop off).take T.size).length = T.size := by rw [List.length_take, List.length_drop, Array.length_toList]; omega
            have hrun := run_load_cells (w := w) hT b off ((c.toList.drop off).take T.size) hlen (fun j v hj => by
              have hjl : j < T.size := by rw [← hlen]; exact (List.getElem?_eq_some_iff.1 hj).1
              rw [List.getElem?_take_of_lt hjl, List.getElem?_drop, Array.getElem?_toList] at hj
              exact (rd_row hblk hj).1) h1
            refine ⟨_, by simp only [resOne]; rw [hav]; simp only [asAddr, Sem.run_bind, Sem.run_pure, Result.andThen_ok]; exact hrun, mkRep (by rw [hlen, List.length_take, List.length_drop]; omega) (fun hg => by rw [List.length_take, List.length_drop]; have := h1 hg; omega) (fun j p v hp hj => ?_)⟩
            have hjl : j < T.size := by rw [← hlen]; exact (List.getElem?_eq_some_iff.1 hj).1
            rw [List.getElem?_take_of_lt hjl, List.getElem?_drop] at hp hj
            rw [Array.getElem?_toList] at hj
            obtain ⟨u, h2, h3, h4⟩ := hcell _ p hp
            rw [hj] at h2
            cases h2
            exact h4
        · cases h
      · cases h
    · cases h

theorem retPVs_run (hc : Conc E σ loc kn a w) : ∀ {l : List ResultVar} {ps : List PV}, retPVs P σ.t (hget σ.h) l = some ps →
    ∃ vs : List Value, (l.mapM (resOne a)).run P w = .ok vs w ∧ vs.length = ps.length ∧ ps.length = l.length ∧ ∀ (j : Nat) (p : PV) (v : Value), ps[j]? = some p → vs[j]? = some v → PRep (cxOf E (hget σ.h) loc w) (hget σ.h) loc kn p v
  | [], ps, h => by cases h; exact ⟨[], rfl, rfl, rfl, fun j p v h => by cases h⟩
  | x :: l, ps, h => by
    simp only [retPVs] at h
    split at h
    · rename_i p ps' h1 h2
      cases h
      obtain ⟨v, g1, g2⟩ := retPV_run hc h1
      obtain ⟨vs, g3, g4, g5, g6⟩ := retPVs_run hc h2
      refine ⟨v :: vs, ?_, by simp [g4], by simp [g5], fun j p v hp hv => ?_⟩
      · rw [List.mapM_cons]
        simp only [Sem.run_bind, g1, Result.andThen_ok, g3, Sem.run_pure]
      · cases j with
        | zero => cases hp; cases hv; exact g2
        | succ j => exact g6 j p v hp hv
    · cases h

theorem results_run {fn : Func} (hc : Conc E σ loc kn a w) {ps : List PV} (h : retPVs P σ.t (hget σ.h) fn.results.toList = some ps) :
    ∃ vs : List Value, (results fn a.tmps).run P w = .ok (if vs.length = 1 then vs.getD 0 undef else .tuple vs.toArray) w ∧ vs.length = ps.length ∧ ∀ (j : Nat) (p : PV) (v : Value), ps[j]? = some p → vs[j]? = some v → PRep (cxOf E (hget σ.h) loc w) (hget σ.h) loc kn p v := by
  obtain ⟨vs, g1, g2, g3, g4⟩ := retPVs_run hc h
  refine ⟨vs, ?_, g2, g4⟩
  unfold results
  rw [Array.mapM_eq_mapM_toList]
  have g1' : (fn.results.toList.mapM (fun (x : ResultVar) => match x with
      | .tmp t => (pure (a.tmps.getD t undef) : Sem Value)
      | .cell a_1 t => do loadVar t (← asAddr (a.tmps.getD a_1 undef)))).run P w = .ok vs w := by
    rw [← g1]; congr 2
  rw [Sem.run_bind, Sem.run_map]
  erw [g1']
  by_cases h1 : vs.length = 1
  · match vs, h1 with
    | [v], _ => rfl
  · rw [if_neg h1]
    simp [h1]

theorem apart_spec : ∀ {l fr : List Nat}, apart l fr → (∀ i ∈ l, ¬ i ∈ fr) ∧ l.Nodup
  | [], _, _ => ⟨fun i h => (by cases h), List.nodup_nil⟩
  | i :: l, fr, ⟨h1, h2, h3⟩ => by
    obtain ⟨g1, g2⟩ := apart_spec h3
    exact ⟨fun j hj => by rcases List.mem_cons.1 hj with rfl | hj; exact h2; exact g1 j hj, List.nodup_cons.2 ⟨h1, g2⟩⟩

/-- a table's rows in the order in which they stand -/
def renum (out : List Nat) : Lc → Lc
  | .tb lo rl => .tb lo fun i => match out[i]? with
    | some r => rl r
    | none => .no
  | l => l
theorem renum_has {out : List Nat} {l : Lc} {b : Nat} (h : (renum out l).has b) : l.has b := by
  cases l with
  | no => exact h
  | pl _ _ => exact h
  | tb lo rl =>
    rcases h with h | ⟨i, h⟩
    · exact .inl h
    · cases ho : out[i]? with
      | none => simp only [ho] at h; exact h.elim
      | some r => simp only [ho] at h; exact .inr ⟨r, h⟩
/-- where the answers that are own objects lie -/
def retLc (hg : Nat → Option Ob) (loc : Locs) : PV → R1 → Lc
  | .sr id _, .so _ _ _ => loc id
  | .st id _, .sto _ _ _ _ => match hg id with
    | some (.tab T) => renum T.out (loc id)
    | _ => .no
  | .nl, .sto _ _ _ _ => .tb .no fun _ => .no
  | _, _ => .no
def retLcs (hg : Nat → Option Ob) (loc : Locs) : List PV → List R1 → List Lc
  | p :: ps, r :: rs => retLc hg loc p r :: retLcs hg loc ps rs
  | _, _ => []
theorem retLc_has {hg : Nat → Option Ob} {loc : Locs} {p : PV} {r : R1} {b : Nat} (h : (retLc hg loc p r).has b) : ∃ id ∈ ownId p r, (loc id).has b := by
  unfold retLc at h
  split at h
  · exact ⟨_, by simp [ownId], h⟩
  · split at h
    · exact ⟨_, by simp [ownId], renum_has h⟩
    · exact h.elim
  · rcases h with h | ⟨_, h⟩ <;> exact h.elim
  · exact h.elim
theorem retLcs_has {hg : Nat → Option Ob} {loc : Locs} : ∀ {ps : List PV} {rs : List R1} {l : Lc} {b : Nat}, l ∈ retLcs hg loc ps rs → l.has b → ∃ id ∈ ownIds ps rs, (loc id).has b
  | [], _, l, b, h, _ => by cases h
  | _ :: _, [], l, b, h, _ => by cases h
  | p :: ps, r :: rs, l, b, h, hb => by
    rcases List.mem_cons.1 h with rfl | h
    · obtain ⟨id, h1, h2⟩ := retLc_has hb
      exact ⟨id, List.mem_append_left _ h1, h2⟩
    · obtain ⟨id, h1, h2⟩ := retLcs_has h hb
      exact ⟨id, List.mem_append_right _ h1, h2⟩

/-- rows in the order in which they stand -/
theorem renum_at {C : Cx} {T : Tab} {l : Lc} {rows : List (List (List D))} (h : TabAt C T l) (hn : T.out.Nodup) (hr : T.out.map T.row = rows.map some) {el rel : TypeId} {k : Nat} (he : T.el = el) (hre : T.rel = rel) (hk : T.k = k) :
    TabAt C ⟨el, rel, k, 0, false, List.range rows.length, rows.map some⟩ (renum T.out l) ∧ T.out.length = rows.length := by
  subst he hre hk
  have hlen : T.out.length = rows.length := by have := congrArg List.length hr; simpa using this
  refine ⟨?_, hlen⟩
  cases l with
  | no => exact h
  | pl b cap => exact h
  | tb lo rl =>
    have hget : ∀ (i : Nat) (es : List (List D)), rows[i]? = some es → ∃ r, T.out[i]? = some r ∧ T.row r = some es := fun i es hi => by
      have := congrArg (·[i]?) hr
      simp only [List.getElem?_map, hi, Option.map_some] at this
      cases ho : T.out[i]? with
      | none => rw [ho] at this; cases this
      | some r => rw [ho] at this; exact ⟨r, rfl, by simpa using this⟩
    have hrow : ∀ (i : Nat), (⟨T.el, T.rel, T.k, 0, false, List.range rows.length, rows.map some⟩ : Tab).row i = rows[i]? := fun i => by
      simp only [Tab.row, List.getElem?_map]
      cases rows[i]? <;> rfl
    have hat : ∀ (i r : Nat), T.out[i]? = some r → (match T.out[i]? with
      | some r => rl r
      | none => .no) = rl r := fun i r hi => by rw [hi]
    refine ⟨h.pos, ?_, fun i es hi => ?_, fun i hi => ?_, fun i j b hb hb' => ?_, fun i b hb hb' => ?_, fun i r hi => ?_⟩
    · have hout := h.out
      cases lo with
      | no => have hout : T.out = [] := hout; show List.range rows.length = []; rw [← hlen, hout]; rfl
      | tb _ _ => exact hout.elim
      | pl b cap =>
        obtain ⟨c, k1, k2, k3, k4, k5⟩ := hout
        refine ⟨c, k1, k2, by simpa [← hlen] using k3, k4, fun i q es hq hes => ?_⟩
        have hil : i < rows.length := by have := (List.getElem?_eq_some_iff.1 hq).1; simpa using this
        rw [List.getElem?_range hil] at hq
        cases hq
        rw [hrow] at hes
        obtain ⟨r, h1, h2⟩ := hget i es hes
        rw [k5 i r es h1 h2]
        exact congrArg (fun l : Lc => some (l.val es.length)) (hat i r h1).symm
    · rw [hrow] at hi
      obtain ⟨r, h1, h2⟩ := hget i es hi
      have := h.row r es h2
      rw [← hat i r h1] at this
      exact this
    · rw [hrow] at hi
      have : T.out[i]? = none := List.getElem?_eq_none (by rw [hlen]; exact List.getElem?_eq_none_iff.1 hi)
      simp only [this]
    · cases hi : T.out[i]? with
      | none => simp only [hi] at hb; exact hb.elim
      | some r =>
        cases hj : T.out[j]? with
        | none => simp only [hj] at hb'; exact hb'.elim
        | some q =>
          simp only [hi] at hb
          simp only [hj] at hb'
          have := h.sep r q b hb hb'
          subst this
          obtain ⟨g1, g2⟩ := List.getElem?_eq_some_iff.1 hi
          obtain ⟨g3, g4⟩ := List.getElem?_eq_some_iff.1 hj
          have hp := List.pairwise_iff_getElem.1 hn
          rcases Nat.lt_trichotomy i j with h1 | h1 | h1
          · exact absurd (g2.trans g4.symm) (hp i j g1 g3 h1)
          · exact h1
          · exact absurd (g4.trans g2.symm) (hp j i g3 g1 h1)
    · cases hi : T.out[i]? with
      | none => simp only [hi] at hb'; exact hb'.elim
      | some r => simp only [hi] at hb'; exact h.off r b hb hb'
    · have hil : i < rows.length := by have := (List.getElem?_eq_some_iff.1 hi).1; simpa using this
      rw [List.getElem?_range hil] at hi
      cases hi
      simpa using hil

/-- what is handed back represents the answer -/
theorem rets_rep {am : Nat → Nat → Prop} {w0 : World} (hE : E = ⟨w0, am, none⟩) {hg : Nat → Option Ob} (hm : MC E hg loc kn w) {ps : List PV} {rs : List R1} {vs : List Value} (hr : retsIs hg ps rs) (hl : vs.length = ps.length)
    (hj : ∀ (j : Nat) (p : PV) (v : Value), ps[j]? = some p → vs[j]? = some v → PRep (cxOf E hg loc w) hg loc kn p v) (hap : apart (ownIds ps rs) (frIds ps rs)) :
    RRep am w0 w (.tup rs) (.tuple vs.toArray) := by
  obtain ⟨hap1, hap2⟩ := apart_spec hap
  obtain ⟨loc', kn', ht, hk'⟩ := Tr.frz hm (frIds ps rs)
  -- an own object of the answer is one that is not frozen
  have hown1 : ∀ (p : PV) (r : R1), retIs hg p r → ∀ id ∈ ownId p r, (∃ ar, hg id = some (.arr ar) ∧ ar.fz = false) ∨ ∃ T, hg id = some (.tab T) ∧ T.fz = false := fun p r h id hid => by
    unfold ownId at hid
    split at hid
    · rename_i i ver el k es
      have e : id = i := by simpa using hid
      subst e
      simp only [retIs] at h
      split at h
      · rename_i ar har; exact .inl ⟨ar, har, h.2.1⟩
      · exact h.elim
    · rename_i i ver el rel k rows
      have e : id = i := by simpa using hid
      subst e
      simp only [retIs] at h
      split at h
      · rename_i T hT; exact .inr ⟨T, hT, h.2.1⟩
      · exact h.elim
    · cases hid
  have hown : ∀ (ps : List PV) (rs : List R1), retsIs hg ps rs → ∀ id ∈ ownIds ps rs, (∃ ar, hg id = some (.arr ar) ∧ ar.fz = false) ∨ ∃ T, hg id = some (.tab T) ∧ T.fz = false := by
    intro ps
    induction ps with
    | nil => intro rs _ id h; cases rs <;> cases h
    | cons p ps ih =>
      intro rs h id hid
      cases rs with
      | nil => cases hid
      | cons r rs =>
        rcases List.mem_append.1 hid with h1 | h1
        · exact hown1 p r h.1 id h1
        · exact ih rs h.2 id h1
  have hsome : ∀ id ∈ ownIds ps rs, hg id ≠ none := fun id hid => by
    rcases hown ps rs hr id hid with ⟨_, h, _⟩ | ⟨_, h, _⟩ <;> simp [h]
  have hsame : ∀ id ∈ ownIds ps rs, upd (frz hg (frIds ps rs)) hg id = hg id := fun id hid => frz_not (hap1 id hid)
  have hhas : ∀ id ∈ ownIds ps rs, ∀ b, (loc' id).has b ↔ (loc id).has b := fun id hid b => by
    -- blocks of the elder place are blocks of the new one: the object was not touched
    have h1 := hsame id hid
    rcases hown ps rs hr id hid with ⟨ar, h2, _⟩ | ⟨T, h2, _⟩
    · obtain ⟨ar', h3, h4, _⟩ := ht.rf.arr id ar (hm.objs id _ h2).1 (h1.trans h2)
      rw [h2] at h3
      cases h3
      rw [(h4 rfl).2.2]
    · obtain ⟨T', h3, h4⟩ := ht.rf.tab id T (hm.objs id _ h2).1 (h1.trans h2)
      rw [h2] at h3
      cases h3
      obtain ⟨lo', rl', hl', hT'⟩ := ht.mc.tab (h1.trans h2)
      obtain ⟨lo, rl, hl2, hT2⟩ := hm.tab h2
      obtain ⟨lo3, rl3, g1, g2, g3⟩ := h4.2.2.2.2.2 lo' rl' hl'
      rw [hl2] at g1
      cases g1
      have hlo := g2 rfl
      subst hlo
      have hrl : ∀ r, rl r = rl' r := fun r => by
        cases hq : T.row r with
        | none => rw [hT2.gone r hq, hT'.gone r hq]
        | some es => exact g3 r es (row_lt hq) hq
      rw [hl', hl2]
      simp only [Lc.has, hrl]
  have hloc : ∀ id ∈ ownIds ps rs, (∀ ar, hg id = some (.arr ar) → loc' id = loc id) ∧ (∀ T, hg id = some (.tab T) → loc' id = loc id) := fun id hid => by
    have h1 := hsame id hid
    refine ⟨fun ar h2 => ?_, fun T h2 => ?_⟩
    · obtain ⟨ar', h3, h4, _⟩ := ht.rf.arr id ar (hm.objs id _ h2).1 (h1.trans h2)
      rw [h2] at h3
      cases h3
      exact (h4 rfl).2.2
    · obtain ⟨T', h3, h4⟩ := ht.rf.tab id T (hm.objs id _ h2).1 (h1.trans h2)
      rw [h2] at h3
      cases h3
      obtain ⟨lo', rl', hl', hT'⟩ := ht.mc.tab (h1.trans h2)
      obtain ⟨lo, rl, hl2, hT2⟩ := hm.tab h2
      obtain ⟨lo3, rl3, g1, g2, g3⟩ := h4.2.2.2.2.2 lo' rl' hl'
      rw [hl2] at g1
      cases g1
      have hlo := g2 rfl
      subst hlo
      have hrl : rl' = rl := funext fun r => by
        cases hq : T.row r with
        | none => rw [hT2.gone r hq, hT'.gone r hq]
        | some es => exact (g3 r es (row_lt hq) hq).symm
      rw [hl', hl2, hrl]
  have hD : Cx.leD (cxOf E (upd (frz hg (frIds ps rs)) hg) loc' w) ⟨w, owl (retLcs hg loc ps rs), am, none⟩ := fun b o v h1 h2 h3 => ⟨h1, fun ⟨l, h4, h5⟩ => by
      obtain ⟨id, h6, h7⟩ := retLcs_has h4 h5
      have h9 := hsame id h6
      have h10 := (hhas id h6 b).2 h7
      rcases hown ps rs hr id h6 with ⟨ar, g1, g2⟩ | ⟨T, g1, g2⟩
      · exact h2 ⟨id, _, h9.trans g1, h10, fun h => by rw [g2] at h; cases h⟩
      · exact h2 ⟨id, _, h9.trans g1, h10, g2⟩, by rw [hE] at h3; exact h3⟩
  refine ⟨retLcs hg loc ps rs, vs, rfl, ?_, ?_, fun l hl b hb => ?_⟩
  · -- one by one
    have key : ∀ (ps0 : List PV) (rs0 : List R1) (vs : List Value), retsIs hg ps0 rs0 → vs.length = ps0.length → (∀ i ∈ frIds ps0 rs0, i ∈ frIds ps rs) → (∀ i ∈ ownIds ps0 rs0, i ∈ ownIds ps rs) →
        (∀ (j : Nat) (p : PV) (v : Value), ps0[j]? = some p → vs[j]? = some v → PRep (cxOf E hg loc w) hg loc kn p v) → RAll ⟨w, owl (retLcs hg loc ps rs), am, none⟩ (retLcs hg loc ps0 rs0) rs0 vs := by
      intro ps0
      induction ps0 with
      | nil =>
        intro rs0 vs h hl _ _ _
        cases rs0 with
        | nil => cases vs with
          | nil => trivial
          | cons => cases hl
        | cons => cases h
      | cons p ps0 ih =>
        intro rs0 vs h hl hf ho hj
        cases rs0 with
        | nil => cases h
        | cons r rs0 =>
          cases vs with
          | nil => cases hl
          | cons v vs =>
            obtain ⟨h1, h2⟩ := h
            have hv := hj 0 p v rfl rfl
            refine ⟨?_, ih rs0 vs h2 (by simpa using hl) (fun i hi => hf i (by cases r <;> first | exact List.mem_append_right _ hi | exact hi)) (fun i hi => ho i (List.mem_append_right _ hi)) (fun j p v a b => hj (j + 1) p v a b)⟩
            cases r with
            | d x =>
              have e1 : retLc hg loc p (.d x) = .no := by cases p <;> rfl
              rw [e1]
              exact ⟨rfl, (d1_rep ht h1 (fun id hid => frz_in id (hf id (List.mem_append_left _ hid))) hv).leD hD⟩
            | so el k es =>
              simp only [retIs] at h1
              split at h1
              · rename_i id ver
                split at h1
                · rename_i ar har
                  obtain ⟨g1, g2, rfl, rfl, rfl⟩ := h1
                  have hid : id ∈ ownIds ps rs := ho id (List.mem_append_left _ (by simp [ownId]))
                  obtain ⟨k1, k2⟩ := ht.mc.arr ((hsame id hid).trans har)
                  rw [(hloc id hid).1 ar har] at k2
                  have k3 := ArrAt.leD hD (fun _ _ => rfl) k2
                  refine ⟨k1, ?_, ?_⟩
                  · show ArrAt _ _ (loc id)
                    cases hll : loc id with
                    | no => rw [hll] at k3; exact k3
                    | pl b cap => rw [hll] at k3; exact k3
                    | tb a b => rw [hll] at k3; exact k3
                  · show v = (loc id).val _
                    cases hv with
                    | sr _ _ _ hh =>
                      have := hh ar har g1
                      cases hll : loc id <;> rw [hll] at this <;> first | exact this | exact this.elim
                · exact h1.elim
              · obtain ⟨rfl, hk⟩ := h1
                cases hv
                exact ⟨hk, rfl, rfl⟩
              · exact h1.elim
            | sto el rel k rows =>
              simp only [retIs] at h1
              split at h1
              · rename_i id ver
                split at h1
                · rename_i T hT
                  obtain ⟨g1, g2, g3, g4, g5, g6, g7⟩ := h1
                  have hid : id ∈ ownIds ps rs := ho id (List.mem_append_left _ (by simp [ownId]))
                  obtain ⟨lo, rl, hl2, _⟩ := hm.tab hT
                  have k2 := (ht.mc.objs id _ ((hsame id hid).trans hT)).2
                  rw [(hloc id hid).2 T hT] at k2
                  have k3 := TabAt.leD (T := T) hD (fun _ _ => rfl) k2
                  obtain ⟨k4, k5⟩ := renum_at k3 g6 g7 g3 g4 g5
                  have e1 : retLc hg loc (.st id ver) (.sto el rel k rows) = renum T.out (loc id) := by simp only [retLc, hT]
                  rw [e1]
                  refine ⟨k4, fun lo2 rl2 hl3 => ?_⟩
                  rw [hl2] at hl3
                  cases hl3
                  cases hv with
                  | st _ _ _ hh => rw [hh T hT g1 _ _ hl2, k5]
                · exact h1.elim
              · obtain ⟨rfl, hk⟩ := h1
                cases hv
                refine ⟨⟨hk, rfl, fun r es he => ?_, fun _ _ => rfl, fun _ _ _ hb => hb.elim, fun _ _ hb => hb.elim, fun i r hi => by cases hi⟩, fun lo rl h => ?_⟩
                · simp [Tab.row] at he
                · cases h; rfl
              · exact h1.elim
    exact key ps rs vs hr hl (fun _ h => h) (fun _ h => h) hj
  · have key : ∀ (ps0 : List PV) (rs0 : List R1), (ownIds ps0 rs0).Nodup → (∀ i ∈ ownIds ps0 rs0, hg i ≠ none) → lcSep (retLcs hg loc ps0 rs0) := by
      intro ps0
      induction ps0 with
      | nil => intro rs0 _ _; cases rs0 <;> trivial
      | cons p ps0 ih =>
        intro rs0 hn hs
        cases rs0 with
        | nil => trivial
        | cons r rs0 =>
          obtain ⟨n1, n2, n3⟩ := List.nodup_append.1 hn
          refine ⟨fun b hb l hl hb' => ?_, ih rs0 n2 (fun i hi => hs i (List.mem_append_right _ hi))⟩
          obtain ⟨id, h1, h2⟩ := retLc_has hb
          obtain ⟨id', h3, h4⟩ := retLcs_has hl hb'
          exact n3 id h1 id' h3 (hm.sep id id' b (hs id (List.mem_append_left _ h1)) (hs id' (List.mem_append_right _ h3)) h2 h4)
    exact key ps rs hap2 hsome
  · obtain ⟨id, h1, h2⟩ := retLcs_has hl hb
    have := hm.fresh id b (hsome id h1) h2
    rw [hE] at this
    exact this

/-- a call, out of its body's condition -/
theorem SC.of_fn (hmo : P.follows .mixedOrders = true) {c : Code} {K : Exit → St → Prop} {σ : St} (h : vc P (fnM P) c K σ) : SC P false noM.Y c K σ := fun E Φ ro n loc kn a w h1 _ hc => by
  obtain rfl := h1 rfl
  exact vc_sound (M := fnM P) hmo .no (range_sound hmo) c K σ loc kn a w h hc
theorem body_calls {f : FuncId} {fn : Func} {c : Code} (hf : P.funcs[f]? = some fn) (hb : fn.body = some c) {Φ : Fr} {vs : Array Value} {K : Exit → St → Prop} (h : SC P false noM.Y c K σ) (hci : CI E Φ σ loc kn { tmps := vs ++ Array.replicate (fn.ntmps - vs.size) undef, defers := [] } w)
    {R : Ending → World → Prop} (hK : ∀ e τ, K e τ → e = .ret ∨ e = .normal) (hend : ∀ e a' τ l k w', K e τ → Conc E τ l k a' w' → In E Φ (hget τ.h) l k w' → ∃ v, (results fn a'.tmps).run P w' = .ok v w' ∧ R (.returned v) w') : Calls P f vs w R := by
  refine (callsIn_wide (n := 0)).1 (show CallsIn (FW none) 0 P f vs w R from callsIn_of_wp_marks hf hb trivial (wpIn_mono (h E Φ none 0 loc kn _ w (fun _ => rfl) .no hci) (fun e a' w' ⟨τ, l, k, h1, h2⟩ => ?_)))
  have fin : LeavesInM (FW none) 0 P fn a'.tmps R a'.defers .returning w' := by
    obtain ⟨bs, hbs, hnd, hmk⟩ := h2.nod
    rw [hbs]
    refine leaves_marks bs w' hnd hmk (fun w'' hraw => ?_)
    obtain ⟨g1, g2⟩ := h2.rawTo hraw
    exact hend e a' τ l k w'' h1 g1 g2
  rcases hK e τ h1 with rfl | rfl <;> exact fin

/-- A FUNCTION's CONTRACT, out of its body's condition -/
theorem pcallS_of {f : FuncId} {fn : Func} {c : Code} {args : List PV} {r : R} (hf : P.funcs[f]? = some fn) (hb : fn.body = some c) (hname : (fn.name == "runtime.NumGoroutine") = false) (hargs : args.length ≤ fn.ntmps)
    (h : SC P false noM.Y c (retK P fn r) ⟨fn.ntmps, argSlots 0 args, [], 0⟩) : PCall P f args r where
  enters as w := by
    have h1 : fn.name ≠ "runtime.NumGoroutine" := by simpa using hname
    simp [callFunc, hf, h1, hb]
  calls am w vs ham hl hrep := by
    have hm : MC ⟨w, am, none⟩ (hget []) (fun _ => .no) (fun _ => False) w := ⟨Below.refl _ _, ham, fun id ob h => (by cases h), fun id id' b h => (by exact absurd rfl h), fun id b h => (by exact absurd rfl h), fun id b o h => (by exact absurd rfl h)⟩
    have hC : Cx.le ⟨w, fun _ _ => False, am, none⟩ (cxOf ⟨w, am, none⟩ (hget []) (fun _ => .no) w) := ⟨fun _ _ _ h _ => h, fun b o v _ _ h => (by obtain ⟨id, ob, h, _⟩ := h; cases h), fun _ _ _ _ _ h => h, rfl⟩
    have hR : RefLe (fun _ => none) (hget []) (fun _ => .no) (fun _ => .no) (fun _ => False) := ⟨fun id cs hk => hk.elim, fun id ar hk => hk.elim, fun id T hk => hk.elim⟩
    let Φ : Fr := ⟨fun _ => False, hget [], fun _ => .no, fun _ => False, w, 0, fun _ => none⟩
    have hci : CI ⟨w, am, none⟩ Φ ⟨fn.ntmps, argSlots 0 args, [], 0⟩ (fun _ => .no) (fun _ => False) { tmps := vs ++ Array.replicate (fn.ntmps - vs.size) undef, defers := [] } w :=
      ⟨⟨hm, args_slots hl (fun j p v h1 h2 => (hrep j p v h1 h2).le hC hR (fun _ h => h)) [], by simp; omega, fun id h => h.elim⟩, ⟨⟨.refl _, .refl _ _ _, fun _ h => h, Nat.le_refl _, fun _ _ _ _ => rfl, fun id b h1 h2 => .inl ⟨id, h1, h2⟩⟩, fun b o hb => (by cases hb), fun id h => h.elim, fun b o hb => (by cases hb), Nat.le_refl _⟩, Nat.le_refl _, .nil _ _⟩
    refine body_calls hf hb h hci (fun e τ hk => ?_) (fun e a' τ l k w' h1 h2 _ => ?_)
    · cases e <;> first | exact .inl rfl | exact .inr rfl | exact hk.elim
    have fin : RetS P fn r τ → ∃ v, (results fn a'.tmps).run P w' = .ok v w' ∧ ∃ v', Ending.returned v = .returned v' ∧ Below w.heap.size w w' ∧ RRep am w w' r v' := fun hr => by
      obtain ⟨ps, hps, hone, hrs, hap⟩ := got_spec hr
      obtain ⟨vs', g1, g2, g3⟩ := results_run h2 hps
      have hrr := rets_rep rfl h2.mc hrs g2 g3 hap
      refine ⟨_, g1, _, rfl, h2.mc.ext, ?_⟩
      obtain ⟨ls, vs2, k1, k2, k3, k4⟩ := hrr
      have e : vs2 = vs' := by
        have : (vs'.toArray) = vs2.toArray := by simpa [R.val] using k1
        simpa using this.symm
      subst e
      cases r with
      | one r1 =>
        have h1 : vs2.length = 1 := g2.trans hone
        rw [if_pos h1]
        exact ⟨ls, vs2, rfl, k2, k3, k4⟩
      | tup rs =>
        have h1 : ¬ vs2.length = 1 := fun e => hone (g2.symm.trans e)
        rw [if_neg h1]
        exact ⟨ls, vs2, rfl, k2, k3, k4⟩
    cases e with
    | ret => exact fin h1
    | normal => exact fin h1
    | _ => exact h1.elim
theorem pcall_of (hmo : P.follows .mixedOrders = true) {f : FuncId} {fn : Func} {c : Code} {args : List PV} {r : R} (hf : P.funcs[f]? = some fn) (hb : fn.body = some c) (hname : (fn.name == "runtime.NumGoroutine") = false) (hargs : args.length ≤ fn.ntmps)
    (h : vc P (fnM P) c (retK P fn r) ⟨fn.ntmps, argSlots 0 args, [], 0⟩) : PCall P f args r := pcallS_of hf hb hname hargs (.of_fn hmo h)
end
end Go.Pm
