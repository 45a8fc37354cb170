/-
  The pure machine, part 9: appends.
-/
import Derived.Test.YtaipmgpgklilkaaPm7
set_option linter.unusedSimpArgs false
set_option linter.unusedVariables false
namespace Go.Pm
open Go.RowKit

section
variable {P : Program} {E : Env} {loc : Locs} {kn : Nat → Prop} {w : World} {a : Act} {σ : St} {nid : Nat} {K : Kt} {o : Oper}

/-- what is appended, as it lies -/
def Src (C : Cx) (v : Value) (ns : List (List D)) (size : Nat) : Prop :=
  ∃ (A : Option Addr) (c : Nat) (news : List Value), v = .slice A ns.length c ∧ (A = none → ns.length = 0) ∧ news.length = ns.length * size ∧ (∀ ad, A = some ad → ∀ (j : Nat) (u : Value), news[j]? = some u → C.w.cell? (ad.add j) = some u) ∧ (∀ u ∈ news, u.oneCell' = true) ∧
    ∀ (i j : Nat) (e : List D) (d : D), ns[i]? = some e → e[j]? = some d → ∃ u, news[i * size + j]? = some u ∧ u.oneCell' = true ∧ Rep C d u
theorem Src.nil {C : Cx} {size : Nat} : Src C (.slice none 0 0) [] size := ⟨none, 0, [], rfl, fun _ => rfl, by simp, by simp, by simp, by simp⟩
theorem Src.le {C C' : Cx} (hC : C.le C') (hw : C'.w = C.w) {v : Value} {ns : List (List D)} {size : Nat} (h : Src C v ns size) : Src C' v ns size := by
  obtain ⟨A, c, news, h1, h2, h3, h4, h5, h6⟩ := h
  refine ⟨A, c, news, h1, h2, h3, by rw [hw]; exact h4, h5, fun i j e d he hd => ?_⟩
  obtain ⟨u, g1, g2, g3⟩ := h6 i j e d he hd
  exact ⟨u, g1, g2, g3.le hC⟩
theorem src_d {C : Cx} {es : List (List D)} {v : Value} (hr : Rep C (.sl es) v) {size : Nat} (hsz : 0 < size) (hk : ∀ e ∈ es, e.length = size) : Src C v es size := by
  cases hr with
  | nil => exact .nil
  | sl _ k c b q f hc hmx hke hcell hrep =>
    have get : ∀ q', q' < es.length * size → ∃ e d, es[q' / size]? = some e ∧ e[q' % size]? = some d := fun q' hq' => by
      have h1 : q' / size < es.length := (Nat.div_lt_iff_lt_mul hsz).2 hq'
      have h2 := hk _ (List.getElem_mem h1)
      exact ⟨_, _, List.getElem?_eq_getElem h1, List.getElem?_eq_getElem (by rw [h2]; exact Nat.mod_lt _ hsz)⟩
    have kz : ∀ e ∈ es, k = size := fun e he => by rw [← hke e he, hk e he]
    refine ⟨some ⟨b, q, none⟩, c, (List.range (es.length * size)).map fun q' => f (q' / size) (q' % size), rfl, fun h => (by cases h), by simp, fun ad hA j u hj => ?_, fun u hu => ?_, fun i j e d hi hj => ?_⟩
    · cases hA
      rw [List.getElem?_map] at hj
      obtain ⟨q', hq', rfl⟩ := Option.map_eq_some_iff.1 hj
      have hjl : j < es.length * size := by have := (List.getElem?_eq_some_iff.1 hq').1; simpa using this
      rw [List.getElem?_range hjl] at hq'
      cases hq'
      obtain ⟨e, d, h1, h2⟩ := get j hjl
      rw [Addr.add_lit]
      have := (hcell _ _ e d h1 h2).1
      rw [kz e (List.mem_of_getElem? h1)] at this
      have hdm := Nat.div_add_mod j size
      rw [Nat.mul_comm] at hdm
      rw [show q + j = q + j / size * size + j % size by omega]
      exact this.1
    · obtain ⟨q', hq', rfl⟩ := List.mem_map.1 hu
      obtain ⟨e, d, h1, h2⟩ := get q' (List.mem_range.1 hq')
      exact (hcell _ _ e d h1 h2).2.1
    · have hil : i < es.length := (List.getElem?_eq_some_iff.1 hi).1
      have hjl : j < size := by rw [← hk e (List.mem_of_getElem? hi)]; exact (List.getElem?_eq_some_iff.1 hj).1
      have hlt : i * size + j < es.length * size := by
        have : (i + 1) * size ≤ es.length * size := Nat.mul_le_mul_right _ hil
        rw [Nat.add_mul, Nat.one_mul] at this
        omega
      refine ⟨f i j, ?_, (hcell i j e d hi hj).2.1, hrep i j e d hi hj⟩
      rw [List.getElem?_map, List.getElem?_range hlt]
      have e1 : (i * size + j) / size = i := by rw [Nat.mul_comm, Nat.mul_add_div hsz, Nat.div_eq_of_lt hjl, Nat.add_zero]
      have e2 : (i * size + j) % size = j := by rw [Nat.mul_comm, Nat.mul_add_mod, Nat.mod_eq_of_lt hjl]
      simp [e1, e2]
theorem src_arr {C : Cx} {ar : Arr} {l : Lc} (hA : ArrAt C ar l) {size : Nat} (hsz : 0 < size) (hk : ∀ e ∈ ar.es, e.length = size) : Src C (l.val ar.es.length) ar.es size := by
  cases l with
  | no => have hA : ar.es = [] := hA; rw [hA]; exact .nil
  | tb a b => exact hA.elim
  | pl b cap =>
    obtain ⟨c, h2, h3, h4, h5, h6, h7⟩ := hA
    have kz : ∀ e ∈ ar.es, ar.k = size := fun e he => by rw [← h6 e he, hk e he]
    refine ⟨some ⟨b, 0, none⟩, cap, (List.range (ar.es.length * size)).map fun q' => (c[q']?).getD undef, rfl, fun h => (by cases h), by simp, fun ad hA j u hj => ?_, fun u hu => ?_, fun i j e d hi hj => ?_⟩
    · cases hA
      rw [List.getElem?_map] at hj
      obtain ⟨q', hq', rfl⟩ := Option.map_eq_some_iff.1 hj
      have hjl : j < ar.es.length * size := by have := (List.getElem?_eq_some_iff.1 hq').1; simpa using this
      rw [List.getElem?_range hjl] at hq'
      cases hq'
      have h1 : j / size < ar.es.length := (Nat.div_lt_iff_lt_mul hsz).2 hjl
      have hkk := kz _ (List.getElem_mem h1)
      have hjc : j < c.size := by
        rw [h3, hkk]; exact Nat.lt_of_lt_of_le hjl (Nat.mul_le_mul_right _ h4)
      rw [Addr.add_lit, Nat.zero_add]
      exact (rd_row h2 (by rw [Array.getElem?_eq_getElem hjc]; rfl)).1
    · obtain ⟨q', hq', rfl⟩ := List.mem_map.1 hu
      have hq' := List.mem_range.1 hq'
      have h1 : q' / size < ar.es.length := (Nat.div_lt_iff_lt_mul hsz).2 hq'
      have hx := hk _ (List.getElem_mem h1)
      obtain ⟨u, g1, g2, _⟩ := h7 (q' / size) (q' % size) _ _ (List.getElem?_eq_getElem h1) (List.getElem?_eq_getElem (by rw [hx]; exact Nat.mod_lt _ hsz))
      rw [kz _ (List.getElem_mem h1)] at g1
      have hdm := Nat.div_add_mod q' size
      rw [Nat.mul_comm] at hdm
      rw [hdm] at g1
      rw [g1]
      exact g2
    · have hil : i < ar.es.length := (List.getElem?_eq_some_iff.1 hi).1
      have hjl : j < size := by rw [← hk e (List.mem_of_getElem? hi)]; exact (List.getElem?_eq_some_iff.1 hj).1
      have hlt : i * size + j < ar.es.length * size := by
        have : (i + 1) * size ≤ ar.es.length * size := Nat.mul_le_mul_right _ hil
        rw [Nat.add_mul, Nat.one_mul] at this
        omega
      obtain ⟨u, g1, g2, g3⟩ := h7 i j e d hi hj
      rw [kz e (List.mem_of_getElem? hi)] at g1
      refine ⟨u, ?_, g2, g3⟩
      rw [List.getElem?_map, List.getElem?_range hlt]
      simp [g1]
/-- what is appended without being frozen, or is frozen -/
theorem src_of {hg : Nat → Option Ob} (hm : MC E hg loc kn w) {p : PV} {v : Value} {ns : List (List D)} (he : els hg p = some ns) (h : PRep (cxOf E hg loc w) hg loc kn p v) {size : Nat} (hsz : 0 < size) (hk : ∀ e ∈ ns, e.length = size) {loc' : Locs} {kn' : Nat → Prop} (ht : Tr E hg loc kn w (upd (frz hg (fa p)) hg) loc' kn' w) :
    Src (cxOf E (upd (frz hg (fa p)) hg) loc' w) v ns size := by
  have hd := els_spec he
  have viaRep : fa p = f0 p → Src (cxOf E (upd (frz hg (fa p)) hg) loc' w) v ns size := fun e => src_d (d0_rep ht hd (fun id hi => by rw [e]; exact frz_in id hi) h) hsz hk
  cases p with
  | sr id ver =>
    simp only [d0, dz] at hd
    split at hd
    · rename_i ar har
      split at hd
      · rename_i hver
        cases hd
        cases h with
        | sr hk' ho hv hh =>
          have hh := hh ar har hver
          obtain ⟨hk0, hA⟩ := hm.arr har
          have := (src_arr hA hsz hk).le ht.cx rfl
          cases hl : loc id <;> rw [hl] at hh this <;> first | exact hh.elim | (rw [hh]; exact this)
      · cases hd
    · cases hd
  | sw id r =>
    simp only [d0, dz] at hd
    split at hd
    · rename_i T hT
      split at hd
      · rename_i es hes
        cases hd
        cases h with
        | sw hk' ho hv hh =>
          obtain ⟨lo, rl, hl, hTi⟩ := hm.tab hT
          rw [hh T _ hT hes lo rl hl]
          exact (src_arr (hTi.row r _ hes) hsz hk).le ht.cx rfl
      · cases hd
    · cases hd
  | _ => exact viaRep rfl

/-- an append, once the row that is appended to is an object -/
theorem run_app {hg : Nat → Option Ob} (hm : MC E hg loc kn w) {t : TypeId} {T E2 : Ty} (hT : TY P t = some T) (hE : TY P T.elem = some E2) (hslc : T.slc = true) (hsz : 0 < E2.size) (hzl : E2.zero.length = E2.size)
    {id : Nat} {ar : Arr} (hi : hg id = some (.arr ar)) (hel : ar.el = T.elem) (hak : ar.k = E2.size) {v : Value} {ns : List (List D)} (hsrc : Src (cxOf E hg loc w) v ns E2.size) (hk : ∀ e ∈ ns, e.length = E2.size)
    (hb : (ar.es.length + ns.length) * E2.bytes ≤ 140737488355328) (h63 : ar.es.length + ns.length ≤ 9223372036854775807) (ty : TypeId) :
    ∃ l' w', (Builtin.append_ #[t, t] ty #[(loc id).val ar.es.length, v]).run P w = .ok (l'.val (ar.es.length + ns.length)) w' ∧ Tr E hg loc kn w (upd [(id, .arr { ar with es := ar.es ++ ns, ver := ar.ver + 1 })] hg) (locAdd loc id l') (knAdd kn id) w' := by
  obtain ⟨A, c, news, rfl, hA, hl, hr, h1, hj⟩ := hsrc
  obtain ⟨xs, ho1, ho2⟩ := hm.owns hi
  obtain ⟨i, d, z, hi', hd, hz, x1, x2, x3, _⟩ := TY_spec hE
  have hu := slc_spec hT hslc
  have hzs : z.cells.size = i.size := by rw [← x1, ← hzl, x3]; simp
  have hki : ar.k = i.size := hak.trans x1
  rw [hel, hki] at ho1
  obtain ⟨v', w', g1, g2, g3⟩ := run_append_row (P := P) w E.w0.heap.size t ty T.elem i z hu hi' hz hzs (by omega) _ _ xs ho1 A ns.length c news hA (by rw [hl, x1]) hr h1 (by simp only [maxLen]; omega) (by rw [← x2]; exact hb) hm.ext.size
  rw [← hel, ← hki] at g2
  have hxl : xs.length = ar.es.length * ar.k := by rw [hki]; exact ho1.1
  obtain ⟨l', g4, g5⟩ := Tr.append hm hi ho2 hxl (fun b cap hl cc hcc => by
      rcases ho1.2 with ⟨e1, e2⟩ | ⟨g, cap', cur, e1, _, e3, _, _, _, e4⟩
      · rw [hl] at e1; cases e1
      · rw [hl] at e1
        simp only [Lc.val, Value.slice.injEq, Option.some.injEq, Addr.mk.injEq] at e1
        obtain ⟨⟨rfl, _⟩, _⟩ := e1
        rw [hel] at hcc
        rw [e3] at hcc
        cases hcc
        rw [hki]
        exact e4) ns (fun e he => by rw [hak]; exact hk e he) (fun q j e d hq hd => by rw [hak]; exact hj q j e d hq hd) g2 g3
  exact ⟨l', w', by rw [g1, g4], g5⟩

theorem upd_twice (id : Nat) (x y : Ob) (g : Nat → Option Ob) : upd [(id, x)] (upd [(id, y)] g) = upd [(id, x)] g := by
  funext t
  simp only [upd]
  split <;> rfl

/-- an own array becomes a table's last row -/
theorem run_appRow {hg : Nat → Option Ob} (hm : MC E hg loc kn w) {t : TypeId} {T E2 : Ty} (hT : TY P t = some T) (hE : TY P T.elem = some E2) (hslc : T.slc = true) (hsz : E2.size = 1) (hzl : E2.zero.length = E2.size)
    {id : Nat} {tt : Tab} (hi : hg id = some (.tab tt)) {lo : Lc} {rl : Nat → Lc} (hl : loc id = .tb lo rl) (hfz : tt.fz = false) (hel : tt.el = T.elem) {id1 ver1 : Nat} {ar : Arr} (h1 : hg id1 = some (.arr ar)) (hv1 : ar.ver = ver1) (hne : ¬ id1 = id) (haf : ar.fz = false) (hae : ar.el = tt.rel) (hak : ar.k = tt.k)
    {v : Value} (h : PRep (cxOf E hg loc w) hg loc kn (.lt [.sr id1 ver1]) v) (hb : (tt.out.length + 1) * E2.bytes ≤ 140737488355328) (h63 : tt.out.length + 1 ≤ 9223372036854775807) (ty : TypeId) :
    ∃ lo' w', (Builtin.append_ #[t, t] ty #[lo.val tt.out.length, v]).run P w = .ok (lo'.val (tt.out.length + 1)) w' ∧
      Tr E hg loc kn w (upd [(id, .tab { tt with ver := tt.ver + 1, out := tt.out ++ [tt.rows.length], rows := tt.rows ++ [some ar.es] }), (id1, .dead)] hg)
        (fun x => if x = id then .tb lo' (fun r => if r = tt.rows.length then loc id1 else rl r) else if x = id1 then .no else loc x) (fun x => kn x ∨ (x = id ∨ x = id1)) w' := by
  obtain ⟨lo2, rl2, hl2, hTi⟩ := hm.tab hi
  rw [hl] at hl2
  cases hl2
  obtain ⟨i, d, z, hi', hd, hz, x1, x2, x3, _⟩ := TY_spec hE
  have hu := slc_spec hT hslc
  have hzs : z.cells.size = i.size := by rw [← x1, ← hzl, x3]; simp
  have hi1 : i.size = 1 := by omega
  -- the row's head
  obtain ⟨hd0, hhd, hval⟩ : ∃ hd0, hd0 = (loc id1).val ar.es.length ∧ ∃ b c, v = .slice (some ⟨b, 0, none⟩) 1 c ∧ w.cell? ⟨b, 0, none⟩ = some hd0 := by
    cases h with
    | @lt _ b c f hc hmx hcell hh =>
      refine ⟨_, rfl, b, c, rfl, ?_⟩
      have e := (hcell 0 _ rfl).1.1
      have hs := hh 0 _ rfl
      have : f 0 = (loc id1).val ar.es.length := by
        generalize f 0 = u at hs
        cases hs with
        | sr hk ho1 hv hh2 =>
          have hh2 := hh2 ar h1 hv1
          cases hl1 : loc id1 <;> rw [hl1] at hh2 <;> first | exact hh2 | exact hh2.elim
      rw [← this]
      exact e
  obtain ⟨b0, c0, rfl, hcell⟩ := hval
  have hone : hd0.oneCell' = true := by rw [hhd]; cases loc id1 <;> rfl
  -- the places, as the law on append has them
  have hout := hTi.out
  have hown : ∃ xs, w.ownsRow E.w0.heap.size T.elem i.size (lo.val tt.out.length) tt.out.length xs ∧ xs.length = tt.out.length ∧ ∀ (j r : Nat) (es : List (List D)), tt.out[j]? = some r → tt.row r = some es → xs[j]? = some ((rl r).val es.length) := by
    rw [hi1]
    cases lo with
    | no =>
      have hout : tt.out = [] := hout
      exact ⟨[], ⟨by simp [hout], .inl ⟨rfl, by simp [hout]⟩⟩, by simp [hout], fun j r es hj => by simp [hout] at hj⟩
    | tb _ _ => exact hout.elim
    | pl b cap =>
      obtain ⟨c, k1, k2, k3, k4, k5⟩ := hout
      have hlen : (c.toList.take (tt.out.length * 1)).length = tt.out.length := by rw [List.length_take, Array.length_toList]; omega
      refine ⟨c.toList.take (tt.out.length * 1), ⟨by rw [hlen, Nat.mul_one], .inr ⟨b, cap, c, rfl, (hm.fresh id b (by simp [hi]) (by rw [hl]; exact .inl rfl)).1, by rw [← hel]; exact k1, k3, k4, by rw [k2, Nat.mul_one], rfl⟩⟩, hlen, fun j r es hj hr => ?_⟩
      have hjl : j < tt.out.length := (List.getElem?_eq_some_iff.1 hj).1
      rw [List.getElem?_take_of_lt (by omega), Array.getElem?_toList]
      exact k5 j r es hj hr
  obtain ⟨xs, ho1, hxl, hxs⟩ := hown
  obtain ⟨v', w', g1, g2, g3⟩ := run_append_row (P := P) w E.w0.heap.size t ty T.elem i z hu hi' hz hzs (by omega) _ _ xs ho1 (some ⟨b0, 0, none⟩) 1 c0 [hd0] (fun h => (by cases h)) (by simp [hi1]) (fun ad had j u hj => by
      cases had
      cases j with
      | zero => cases hj; rw [Addr.add_lit]; exact hcell
      | succ j => cases hj) (fun u hu => by rw [show u = hd0 by simpa using hu]; exact hone) (by simp only [maxLen]; omega) (by rw [← x2]; exact hb) hm.ext.size
  have hgr : w.grownBy w' (lo.val tt.out.length).ownBlock := by
    rcases g3 with h1 | h1
    · exact h1.2
    · exact ⟨h1.2.os, h1.2.tape, h1.2.output, h1.2.size, fun k hk _ => h1.2.block k hk (by simp)⟩
  rcases g2.2 with ⟨_, hz0⟩ | ⟨g, cap', cur, rfl, hbg, hg', hnc, hcm, hcs, htake⟩
  · exact absurd hz0 (by simp)
  · rw [hi1, Nat.mul_one] at hcs
    rw [hi1, Nat.mul_one] at htake
    refine ⟨.pl g cap', w', g1, Tr.adoptRow hm hi hl hfz h1 hne haf hae hak (tt.out ++ [tt.rows.length]) (tt.ver + 1) (.pl g cap') w' hgr.size hgr.os hgr.tape hgr.output (fun b hb hno => hgr.block b hb (fun e => hno ?_)) (fun b hb => ?_) (by omega) (fun e => absurd e (by omega)) (fun j q hq => ?_) ⟨cur, by rw [hel]; exact hg', hcs, by simpa using hnc, hcm, fun j q es hq hr => ?_⟩⟩
    · cases lo with
      | no => simp [Lc.val, Value.ownBlock] at e
      | tb _ _ => exact hout.elim
      | pl b' cap => show b = b'; simpa [Lc.val, Value.ownBlock] using e
    · obtain rfl : b = g := hb
      rcases g3 with ⟨h2, _⟩ | ⟨h2, _⟩
      · left
        cases lo with
        | no => simp [Lc.val, Value.ownBlock] at h2
        | tb _ _ => exact hout.elim
        | pl b' cap => show b = b'; simpa [Lc.val, Value.ownBlock] using h2
      · right
        have : b = w.heap.size := by simpa [Value.ownBlock] using h2
        exact ⟨by omega, (Array.getElem?_eq_some_iff.1 hg').1⟩
    · by_cases hj : j < tt.out.length
      · rw [List.getElem?_append_left hj] at hq
        have := hTi.idx j q hq
        omega
      · rw [List.getElem?_append_right (by omega)] at hq
        have : q = tt.rows.length := by
          cases hz : j - tt.out.length with
          | zero => rw [hz] at hq; simpa using hq.symm
          | succ n => rw [hz] at hq; cases hq
        omega
    · have hj : j < tt.out.length + 1 := by have := (List.getElem?_eq_some_iff.1 hq).1; simpa using this
      have hcur : cur[j]? = (xs ++ [hd0])[j]? := by
        rw [← htake, List.getElem?_take_of_lt (by simpa using hj), Array.getElem?_toList]
      rw [hcur]
      by_cases hjl : j < tt.out.length
      · rw [List.getElem?_append_left hjl] at hq
        have hql := hTi.idx j q hq
        simp only [Tab.row, List.getElem?_append_left hql] at hr
        rw [List.getElem?_append_left (by omega), hxs j q es hq hr]
        exact congrArg (fun l : Lc => some (l.val es.length)) (if_neg (by omega)).symm
      · have hje : j = tt.out.length := by omega
        subst hje
        rw [List.getElem?_append_right (Nat.le_refl _), Nat.sub_self] at hq
        have hq : tt.rows.length = q := by simpa using hq
        subst hq
        simp only [Tab.row, List.getElem?_append_right (Nat.le_refl _), Nat.sub_self, List.getElem?_cons_zero, Option.getD_some, Option.some.injEq] at hr
        subst hr
        rw [← hxl, List.getElem?_append_right (Nat.le_refl _), Nat.sub_self]
        rw [List.getElem?_cons_zero, hhd]
        exact congrArg (fun l : Lc => some (l.val ar.es.length)) (if_pos rfl).symm

theorem out_append {c : Call} {s x : Operand} {t : TypeId} (ho : o.op = .call c) (hc : c.callee = .builtin .append) (ha : c.args.toList = [s, x]) (ht : c.argTypes.toList = [t, t]) {T : Ty} (hT : TY P t = some T) (h : appV P T (ev σ.t s) (ev σ.t x) nid σ K) (hm : MC E (hget σ.h) loc kn w) (hn : ¬ kn nid)
    (hs : SlotsOk (cxOf E (hget σ.h) loc w) (hget σ.h) loc kn σ.t a) : Out P E o σ nid loc kn w a K := by
  have e1 : c.args = #[s, x] := by cases hh : c.args; rw [hh] at ha; simp at ha; rw [ha]
  have e2 : c.argTypes = #[t, t] := by cases hh : c.argTypes; rw [hh] at ht; simp at ht; rw [ht]
  have key : ∀ {r : Value} {w' : World}, (Builtin.append_ #[t, t] o.type #[a.eval s, a.eval x]).run P w = .ok r w' → (execOp a.eval o).run P w = .ok (.value r) w' := fun {r w'} hr => by
    unfold execOp
    simp [ho, resolve, hc, e1, e2, invoke, builtin, hr]
  unfold appV at h
  obtain ⟨E2, hE, h⟩ := got_spec h
  obtain ⟨⟨hslc, hsz, hzl⟩, h⟩ := h
  have hsv := evRep hs s
  have hxv := evRep hs x
  split at h
  · rename_i es
    obtain ⟨ns, hns, ⟨hk, hb, h63⟩, h⟩ := got_spec h
    rw [es] at hsv
    generalize hav : a.eval s = av at hsv
    cases hsv
    obtain ⟨loc1, kn1, ht1, hk1⟩ := Tr.frz hm (fa (ev σ.t x))
    have hsrc := src_of hm hns hxv hsz hk ht1
    have hn1 : ¬ kn1 nid := fun hh => hn (hk1 _ hh)
    have h0 := Tr.newNil ht1.mc hn1 ⟨T.elem, E2.size, 0, false, []⟩ hsz rfl
    have hid : upd [(nid, Ob.arr ⟨T.elem, E2.size, 0, false, []⟩)] (upd (frz (hget σ.h) (fa (ev σ.t x))) (hget σ.h)) nid = some (.arr ⟨T.elem, E2.size, 0, false, []⟩) := by simp [upd]
    have hl0 : locAdd loc1 nid .no nid = .no := if_pos rfl
    obtain ⟨l', w', g1, g2⟩ := run_app h0.mc hT hE hslc hsz hzl hid rfl rfl (hsrc.le h0.cx rfl) hk (by simpa using hb) (by simpa using h63) o.type
    have g3 := (ht1.trans h0).trans g2
    rw [upd_twice, ← upd_cons] at g3
    rw [hl0] at g1
    simp only [List.nil_append, Nat.zero_add, List.length_nil] at g1 g3
    refine ⟨_, _, _, _, _, _, _, h, .inl (key (by rw [hav]; exact g1)), g3, ?_, fun y hy => ?_⟩
    · refine .sr (.inr rfl) (by cases l' <;> rfl) (fun a' h' => ?_) (fun a' h' _ => ?_)
      · unfold upd at h'; rw [if_pos rfl] at h'; cases h'; exact Nat.le_refl _
      · have hA := (g3.mc.arr h').2
        unfold upd at h'
        rw [if_pos rfl] at h'
        cases h'
        rw [show locAdd (locAdd loc1 nid .no) nid l' nid = l' from if_pos rfl] at hA ⊢
        cases l' with
        | tb _ _ => exact hA.elim
        | _ => rfl
    · rcases hy with (hy | hy) | hy
      · exact .inl (hk1 _ hy)
      · exact .inr (by omega)
      · exact .inr (by omega)
  · rename_i id ver es
    obtain ⟨ob, hob, h⟩ := got_spec h
    split at h
    · rename_i ar
      obtain ⟨ns, hns, ⟨hk, hver, hel, hak, hb, h63, hnf⟩, h⟩ := got_spec h
      rw [es] at hsv
      obtain ⟨loc1, kn1, ht1, hk1⟩ := Tr.frz hm (fa (ev σ.t x))
      have hsrc := src_of hm hns hxv hsz hk ht1
      have hob1 : upd (frz (hget σ.h) (fa (ev σ.t x))) (hget σ.h) id = some (.arr ar) := by rw [frz_not hnf, hob]
      have hval : a.eval s = (loc1 id).val ar.es.length := by
        have hsv1 := hsv.le ht1.cx ht1.rf ht1.kn
        cases hsv1 with
        | sr hk' ho' hv hh =>
          have := hh ar hob1 hver
          cases hl : loc1 id <;> rw [hl] at this <;> first | exact this | exact this.elim
      obtain ⟨l', w', g1, g2⟩ := run_app ht1.mc hT hE hslc hsz hzl hob1 hel hak hsrc hk hb h63 o.type
      rw [hver] at g2
      have g3 := ht1.trans g2
      rw [← upd_cons] at g3
      refine ⟨_, _, _, _, _, _, _, h, .inl (key (by rw [hval]; exact g1)), g3, ?_, fun y hy => ?_⟩
      · refine .sr (.inr rfl) (by cases l' <;> rfl) (fun a' h' => ?_) (fun a' h' _ => ?_)
        · unfold upd at h'; rw [if_pos rfl] at h'; cases h'; exact Nat.le_refl _
        · have hA := (g3.mc.arr h').2
          unfold upd at h'
          rw [if_pos rfl] at h'
          cases h'
          rw [show locAdd loc1 id l' id = l' from if_pos rfl] at hA ⊢
          cases l' with
          | tb _ _ => exact hA.elim
          | _ => simp [Lc.val]
      · rcases hy with hy | rfl
        · exact .inl (hk1 _ hy)
        · exact .inl (hm.objs _ _ hob).1
    · exact h.elim
  · rename_i id ver es
    obtain ⟨ob, hob, h⟩ := got_spec h
    split at h
    · rename_i tt
      obtain ⟨⟨hver, hfz, hel, hsz1, hb, h63⟩, h⟩ := h
      rw [es] at hsv
      obtain ⟨lo, rl, hl, hTi⟩ := hm.tab hob
      have hval : a.eval s = lo.val tt.out.length := by
        cases hsv with
        | st hk' ho' hv hh => exact hh tt hob hver lo rl hl
      split at h
      · rename_i id1 ver1 ex
        obtain ⟨ob1, hob1, h⟩ := got_spec h
        split at h
        · rename_i ar
          obtain ⟨⟨hv1, haf, hae, hak, hne⟩, h⟩ := h
          rw [ex] at hxv
          obtain ⟨lo', w', g1, g2⟩ := run_appRow hm hT hE hslc hsz1 hzl hob hl hfz hel hob1 hv1 hne haf hae hak hxv hb h63 o.type
          rw [hver] at g2
          refine ⟨_, _, _, _, _, _, _, h, .inl (key (by rw [hval]; exact g1)), g2, ?_, fun y hy => ?_⟩
          · refine .st (.inr (.inl rfl)) (by cases lo' <;> rfl) (fun a' h' => ?_) (fun a' h' _ lo2 rl2 hl2 => ?_)
            · unfold upd at h'; rw [if_pos rfl] at h'; cases h'; exact Nat.le_refl _
            · unfold upd at h'
              rw [if_pos rfl] at h'
              cases h'
              rw [if_pos rfl] at hl2
              cases hl2
              simp
          · rcases hy with hy | rfl | rfl
            · exact .inl hy
            · exact .inl (hm.objs _ _ hob).1
            · exact .inl (hm.objs _ _ hob1).1
        · exact h.elim
      · exact h.elim
    · exact h.elim
  · rename_i id r es
    obtain ⟨ob, hob, h⟩ := got_spec h
    split at h
    · rename_i tt
      obtain ⟨ns, hns, row, hrow, ⟨hk, hfz, hel, hak, hb, h63, hf0⟩, h⟩ := got_spec h
      rw [es] at hsv
      obtain ⟨lo, rl, hl, hTi⟩ := hm.tab hob
      have hval : a.eval s = (rl r).val row.length := by
        cases hsv with
        | sw hk' ho' hv hh => exact hh tt row hob hrow lo rl hl
      have hfa : fa (ev σ.t x) = [] := by
        generalize ev σ.t x = q at hf0
        cases q <;> first | rfl | exact hf0
      have hsrc := src_of hm hns hxv hsz hk (loc' := loc) (kn' := kn) (by rw [hfa]; exact Tr.refl hm)
      rw [hfa] at hsrc
      have h0 := Tr.release hm hob hl hfz hn hrow
      have hid : upd [(nid, .arr (tt.arr row)), (id, .tab { tt with rows := tt.rows.set r none })] (hget σ.h) nid = some (.arr (tt.arr row)) := by simp [upd]
      obtain ⟨l', w', g1, g2⟩ := run_app h0.mc hT hE hslc hsz hzl hid hel hak (hsrc.le h0.cx rfl) hk hb h63 o.type
      have g3 := h0.trans g2
      have hU : upd [(nid, .arr { tt.arr row with es := row ++ ns, ver := (tt.arr row).ver + 1 })] (upd [(nid, .arr (tt.arr row)), (id, .tab { tt with rows := tt.rows.set r none })] (hget σ.h)) = upd [(nid, .arr ⟨tt.rel, tt.k, 1, false, row ++ ns⟩), (id, .tab { tt with rows := tt.rows.set r none })] (hget σ.h) := by
        funext y
        simp only [upd]
        split <;> rfl
      rw [hU] at g3
      rw [if_pos rfl] at g1
      refine ⟨_, _, _, _, _, _, _, h, .inl (key (by rw [hval]; exact g1)), g3, ?_, fun y hy => ?_⟩
      · refine .sr (.inr rfl) (by cases l' <;> rfl) (fun a' h' => ?_) (fun a' h' _ => ?_)
        · unfold upd at h'; rw [if_pos rfl] at h'; cases h'; exact Nat.le_refl _
        · have hA := (g3.mc.arr h').2
          unfold upd at h'
          rw [if_pos rfl] at h'
          cases h'
          rw [show locAdd (fun x => if x = nid then rl r else if x = id then Lc.tb lo (fun q => if q = r then .no else rl q) else loc x) nid l' nid = l' from if_pos rfl] at hA ⊢
          cases l' with
          | tb _ _ => exact hA.elim
          | _ => simp [Lc.val]
      · rcases hy with (hy | rfl | rfl) | rfl
        · exact .inl hy
        · exact .inr (by omega)
        · exact .inl (hm.objs _ _ hob).1
        · exact .inr (by omega)
    · exact h.elim
  · exact h.elim

theorem out_copy {c : Call} {s x : Operand} {t t' : TypeId} (ho : o.op = .call c) (hc : c.callee = .builtin .copy) (ha : c.args.toList = [s, x]) (htt : c.argTypes.toList = [t, t']) {T : Ty} (hT : TY P t = some T) (h : copyV P T (ev σ.t s) (ev σ.t x) σ K)
    (hm : MC E (hget σ.h) loc kn w) (hs : SlotsOk (cxOf E (hget σ.h) loc w) (hget σ.h) loc kn σ.t a) : Out P E o σ nid loc kn w a K := by
  unfold copyV at h
  obtain ⟨E2, hE, ⟨hslc, hsz⟩, h⟩ := got_spec h
  have hx := evRep hs s
  split at h
  · rename_i id ver he
    obtain ⟨ob, hob, h⟩ := got_spec h
    rw [he] at hx
    split at h
    · rename_i ar
      obtain ⟨ns, hns, ⟨hnk, hver, hfz, hk1, hno⟩, h⟩ := got_spec h
      obtain ⟨loc1, kn1, ht1, hkk⟩ := Tr.frz hm (fa (ev σ.t x))
      have hob' : upd (frz (hget σ.h) (fa (ev σ.t x))) (hget σ.h) id = some (.arr ar) := by rw [frz_not hno, hob]
      have hsrc := src_of hm hns (evRep hs x) (size := E2.size) (by omega) hnk ht1
      obtain ⟨A, cc, news, hv, hA, hl, hr, h1, hj⟩ := hsrc
      rw [hsz, Nat.mul_one] at hl
      have hu := slc_spec hT hslc
      obtain ⟨i, d, z, hi, hd, hz, x1, _⟩ := TY_spec hE
      have hi1 : (P.info? T.elem).map (·.size) = some 1 := by rw [hi]; simp [← x1, hsz]
      have eargs : c.args = #[s, x] := by cases hh : c.args; rw [hh] at ha; simp at ha; rw [ha]
      have etys : c.argTypes = #[t, t'] := by cases hh : c.argTypes; rw [hh] at htt; simp at htt; rw [htt]
      have hx' := hx.le ht1.cx ht1.rf (fun _ h => ht1.kn _ h)
      have hexec : ∀ (v : Value) (w' : World), (Builtin.copy_ #[t, t'] o.type #[a.eval s, a.eval x]).run P w = .ok v w' → (execOp a.eval o).run P w = .ok (.value v) w' := fun v w' hh => by
        unfold execOp
        simp [ho, resolve, hc, eargs, etys, invoke, builtin, hh]
      -- nothing goes over
      have noneC : min ns.length ar.es.length = 0 → (∃ ad n cap, a.eval s = .slice ad n cap ∧ n = ar.es.length) → Out P E o σ nid loc kn w a K := fun h0 ⟨ad, n, cap, hs1, hs2⟩ => by
        have hrun := run_copy_none (P := P) w t t' o.type T.elem ad A n cap ns.length cc hu hi1 (by subst hs2; exact h0)
        have e1 : ({ ar with es := ns.take ar.es.length ++ ar.es.drop ns.length } : Arr) = ar := by
          have : ns.take ar.es.length ++ ar.es.drop ns.length = ar.es := by
            rcases Nat.lt_or_ge 0 ns.length with h2 | h2
            · have : ar.es = [] := List.eq_nil_of_length_eq_zero (by omega)
              simp [this]
            · have : ns = [] := List.eq_nil_of_length_eq_zero (by omega)
              simp [this]
          rw [this]
        have e2 : upd ((id, .arr { ar with es := ns.take ar.es.length ++ ar.es.drop ns.length }) :: frz (hget σ.h) (fa (ev σ.t x))) (hget σ.h) = upd (frz (hget σ.h) (fa (ev σ.t x))) (hget σ.h) := by
          rw [e1, upd_cons]
          funext q
          simp only [upd]
          split
          · rename_i e; subst e; exact hob'.symm
          · rfl
        refine ⟨_, _, _, .int .i64 ((min ns.length ar.es.length : Nat) : Int), loc1, kn1, w, h, .inl (hexec _ _ ?_), by rw [e2]; exact ht1, .d (.v _), fun id hi => .inl (hkk id hi)⟩
        rw [hs1, hv, hrun, h0]
        rfl
      obtain ⟨hk0, hAr⟩ := ht1.mc.arr hob'
      have hdst : match loc1 id with
          | .no => a.eval s = .slice none 0 0
          | .pl b cap => a.eval s = .slice (some ⟨b, 0, none⟩) ar.es.length cap
          | .tb _ _ => False := by
        cases hx' with
        | sr hk ho1 hv1 hh => exact hh ar hob' hver
      cases hll : loc1 id with
      | no =>
        rw [hll] at hAr hdst
        have hAr : ar.es = [] := hAr
        exact noneC (by simp [hAr]) ⟨_, _, _, hdst, by simp [hAr]⟩
      | tb lo rl => rw [hll] at hdst; exact hdst.elim
      | pl b cap =>
        rw [hll] at hAr hdst
        by_cases h0 : min ns.length ar.es.length = 0
        · exact noneC h0 ⟨_, _, _, hdst, rfl⟩
        obtain ⟨cur, h2, h3, h4, h5, h6, h7⟩ := hAr
        cases A with
        | none => have := hA rfl; exact absurd (show min ns.length ar.es.length = 0 by omega) h0
        | some ad =>
          have hlen : (news.take ar.es.length).length = min ns.length ar.es.length := by rw [List.length_take, hl, Nat.min_comm]
          rw [hk1, Nat.mul_one] at h3
          have hrun := run_copy_row (P := P) w t t' o.type T.elem b 0 ar.es.length cap ad ns.length cc cur ar.el (news.take ar.es.length) hu hi1 h2 hlen (fun j v hv => by
            have hjl := (List.getElem?_eq_some_iff.1 hv).1
            rw [List.getElem?_take_of_lt (by rw [hlen] at hjl; omega)] at hv
            exact hr ad rfl j v hv) (by rw [hlen]; omega) (fun v hv => h1 v (List.mem_of_mem_take hv))
          have ht := Tr.setArr ht1.mc hob' hll hfz (ns.take ar.es.length ++ ar.es.drop ns.length) (by simp only [List.length_append, List.length_take, List.length_drop]; omega) (fun e he => by
              rcases List.mem_append.1 he with he | he
              · rw [hnk e (List.mem_of_mem_take he), hsz, hk1]
              · exact h6 e (List.mem_of_mem_drop he)) (cur.toList.take 0 ++ news.take ar.es.length ++ cur.toList.drop (0 + (news.take ar.es.length).length)).toArray (by
              rw [hk1, Nat.mul_one, List.size_toArray, List.length_append, List.length_append, hlen, List.length_drop, List.length_take, Array.length_toList]; omega) (fun q j e dd hq hd => by
            rw [hk1, Nat.mul_one, List.getElem?_toArray, List.take_zero, List.nil_append]
            have hel : e.length = 1 := by
              rcases List.mem_append.1 (List.mem_of_getElem? hq) with he | he
              · rw [hnk e (List.mem_of_mem_take he), hsz]
              · rw [h6 e (List.mem_of_mem_drop he), hk1]
            have hj0 : j = 0 := by have := (List.getElem?_eq_some_iff.1 hd).1; omega
            subst hj0
            rw [Nat.add_zero]
            have hl1 : (ns.take ar.es.length).length = min ns.length ar.es.length := by rw [List.length_take, Nat.min_comm]
            by_cases hql : q < min ns.length ar.es.length
            · rw [List.getElem?_append_left (by omega), List.getElem?_take_of_lt (by omega)] at hq
              rw [List.getElem?_append_left (by omega), List.getElem?_take_of_lt (by omega)]
              have := hj q 0 e dd hq hd
              rw [hsz, Nat.mul_one, Nat.add_zero] at this
              exact this
            · rw [List.getElem?_append_right (by omega), hl1] at hq
              rw [List.getElem?_append_right (by omega), hlen, List.getElem?_drop, Nat.zero_add, show min ns.length ar.es.length + (q - min ns.length ar.es.length) = q by omega, Array.getElem?_toList]
              rw [List.getElem?_drop] at hq
              have hlt := (List.getElem?_eq_some_iff.1 hq).1
              rw [show ns.length + (q - min ns.length ar.es.length) = q by omega] at hq
              have := h7 q 0 e dd hq hd
              rw [hk1, Nat.mul_one, Nat.add_zero] at this
              exact this)
          have ht2 := ht1.trans ht
          rw [← upd_cons] at ht2
          refine ⟨_, _, _, .int .i64 ((min ns.length ar.es.length : Nat) : Int), _, _, _, h, .inl (hexec _ _ ?_), ht2, .d (.v _), fun x hx => ?_⟩
          · rw [hdst, hv, hrun, hlen]
            rfl
          · rcases hx with hx | hx
            · exact .inl (hkk x hx)
            · subst hx; exact .inl (hm.objs _ _ hob).1
    · exact h.elim
  · exact h.elim
end
end Go.Pm
