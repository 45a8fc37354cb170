/-
  The pure machine, part 3: the steps that own memory takes.
-/
import Derived.Test.YtaipmgpgklilkaaPm1
import Derived.Test.YtaipmgpgklilkaaRunApp
set_option linter.unusedSimpArgs false
set_option linter.unusedVariables false
namespace Go.Pm
open Go.RowKit

section
variable {E : Env} {hg : Nat → Option Ob} {loc : Locs} {kn : Nat → Prop} {w : World}

abbrev locAdd (loc : Locs) (id : Nat) (l : Lc) : Locs := fun x => if x = id then l else loc x
abbrev knAdd (kn : Nat → Prop) (id : Nat) : Nat → Prop := fun x => kn x ∨ x = id

theorem alloc_size (w : World) (o : Obj) : (w.alloc o).heap.size = w.heap.size + 1 := by simp
theorem alloc_new (w : World) (o : Obj) : (w.alloc o).heap[w.heap.size]? = some o := by
  show (w.heap.push _)[w.heap.size]? = _
  rw [Array.getElem?_push, if_pos rfl]

/-- a new object in a new block -/
theorem Tr.new (h : MC E hg loc kn w) {id : Nat} (hid : ¬ kn id) (ob : Ob) (cap : Nat) (o : Obj)
    (hob : ∀ C, C = cxOf E (upd [(id, ob)] hg) (locAdd loc id (.pl w.heap.size cap)) (w.alloc o) → Cx.le (cxOf E hg loc w) C → RefLe hg (upd [(id, ob)] hg) loc (locAdd loc id (.pl w.heap.size cap)) kn → 
      ObAt C (upd [(id, ob)] hg) (locAdd loc id (.pl w.heap.size cap)) (knAdd kn id) (.pl w.heap.size cap) ob) :
    Tr E hg loc kn w (upd [(id, ob)] hg) (locAdd loc id (.pl w.heap.size cap)) (knAdd kn id) (w.alloc o) := by
  have hn : hg id = none := by
    cases e : hg id with
    | none => rfl
    | some x => exact absurd (h.objs id x e).1 hid
  refine Tr.one h id ob (.pl w.heap.size cap) (w.alloc o) (by rw [alloc_size]; omega) rfl rfl rfl (fun b hb => .inr ⟨by cases hb; exact Nat.le_refl _, by cases hb; rw [alloc_size]; omega⟩)
    (fun b hb _ => Below.heap_alloc w o b hb) (fun b o' v h1 => absurd hn h1) (fun cs _ hk => absurd hk hid) (fun a' _ hk => absurd hk hid) (fun T' _ hk => absurd hk hid) (fun hC hR => hob _ rfl hC hR)

theorem Tr.newBox (h : MC E hg loc kn w) {id : Nat} (hid : ¬ kn id) (cs : List PV) (c : Array Value) (t : TypeId) (hl : c.size = cs.length)
    (hc : ∀ (j : Nat) (p : PV), cs[j]? = some p → ∃ u, c[j]? = some u ∧ u.oneCell' = true ∧ PRep (cxOf E hg loc w) hg loc kn p u) :
    Tr E hg loc kn w (upd [(id, .box cs)] hg) (locAdd loc id (.pl w.heap.size 0)) (knAdd kn id) (w.alloc (.cells c t)) :=
  Tr.new h hid _ _ _ fun C hC1 hC hR => by
    refine ⟨c, t, by rw [hC1]; exact alloc_new w _, hl, fun j p hj => ?_⟩
    obtain ⟨u, h1, h2, h3⟩ := hc j p hj
    exact ⟨u, h1, h2, h3.le hC hR (fun _ h => .inl h)⟩

theorem Tr.newArr (h : MC E hg loc kn w) {id : Nat} (hid : ¬ kn id) (a : Arr) (c : Array Value) (cap : Nat) (hk : 0 < a.k) (hl : c.size = cap * a.k) (hle : a.es.length ≤ cap) (hm : cap ≤ maxLen) (hek : ∀ e ∈ a.es, e.length = a.k)
    (hc : ∀ (i j : Nat) (e : List D) (d : D), a.es[i]? = some e → e[j]? = some d → ∃ u, c[i * a.k + j]? = some u ∧ u.oneCell' = true ∧ Rep (cxOf E hg loc w) d u) :
    Tr E hg loc kn w (upd [(id, .arr a)] hg) (locAdd loc id (.pl w.heap.size cap)) (knAdd kn id) (w.alloc (.cells c a.el)) :=
  Tr.new h hid _ _ _ fun C hC1 hC hR => by
    refine ⟨hk, c, by rw [hC1]; exact alloc_new w _, hl, hle, hm, hek, fun i j e d hi hj => ?_⟩
    obtain ⟨u, h1, h2, h3⟩ := hc i j e d hi hj
    exact ⟨u, h1, h2, h3.le hC⟩

/-- an empty array of no memory -/
theorem Tr.newNil (h : MC E hg loc kn w) {id : Nat} (hid : ¬ kn id) (a : Arr) (hk : 0 < a.k) (he : a.es = []) :
    Tr E hg loc kn w (upd [(id, .arr a)] hg) (locAdd loc id .no) (knAdd kn id) w := by
  have hn : hg id = none := by
    cases e : hg id with
    | none => rfl
    | some x => exact absurd (h.objs id x e).1 hid
  exact Tr.one h id _ .no w (Nat.le_refl _) rfl rfl rfl (fun b hb => hb.elim) (fun b _ _ => rfl) (fun b o' v h1 => absurd hn h1) (fun cs _ hk => absurd hk hid) (fun a' _ hk => absurd hk hid) (fun T' _ hk => absurd hk hid) (fun _ _ => ⟨hk, he⟩)

/-- a draw -/
theorem Tr.drew (h : MC E hg loc kn w) : Tr E hg loc kn w hg loc kn w.drew := Tr.ext h ((Below.refl _ _).drew)

theorem heap_setRow_same (w : World) (b : Nat) (c c' : Array Value) (t : TypeId) (h : w.heap[b]? = some (.cells c t (0, 0))) : (w.setRow b c').heap[b]? = some (.cells c' t (0, 0)) := setRow_heap w b c c' t _ h
theorem setRow_size (w : World) (b : Nat) (c : Array Value) : (w.setRow b c).heap.size = w.heap.size := by simp [World.setRow]

/-- the cells of an own box are turned -/
theorem Tr.setBox (h : MC E hg loc kn w) {id b cap : Nat} {cs : List PV} (hi : hg id = some (.box cs)) (hl : loc id = .pl b cap) (cs' : List PV) (c' : Array Value) (hc' : c'.size = cs'.length)
    (hc : ∀ (j : Nat) (p : PV), cs'[j]? = some p → ∃ u, c'[j]? = some u ∧ u.oneCell' = true ∧ PRep (cxOf E hg loc w) hg loc kn p u) :
    Tr E hg loc kn w (upd [(id, .box cs')] hg) (locAdd loc id (.pl b cap)) (knAdd kn id) (w.setRow b c') := by
  obtain ⟨_, c0, e0, h1, h2, _⟩ : kn id ∧ BoxAt (cxOf E hg loc w) hg loc kn cs (.pl b cap) := by have := h.objs id _ hi; rw [hl] at this; exact this
  refine Tr.one h id _ (.pl b cap) _ (by rw [setRow_size]; exact Nat.le_refl _) rfl rfl rfl (fun x hx => .inl ⟨by simp [hi], by rw [hl]; exact hx⟩)
    (fun x hx hno => setRow_other w b x _ (fun e => hno ⟨by simp [hi], by rw [hl]; exact e⟩)) (fun x o v _ hx _ hno => ?_) (fun x _ _ => ⟨⟨cs, hi⟩, hl.symm⟩) (fun a ha _ => by cases ha) (fun T hT _ => by cases hT) (fun hC hR => ?_)
  · exact absurd ⟨id, _, hi, hx, trivial⟩ hno
  · refine ⟨c', e0, heap_setRow_same w b c0 c' e0 h1, hc', fun j p hj => ?_⟩
    obtain ⟨u, h3, h4, h5⟩ := hc j p hj
    exact ⟨u, h3, h4, h5.le hC hR (fun _ h => .inl h)⟩

/-- the cells of an own array are turned, its length stays -/
theorem Tr.setArr (h : MC E hg loc kn w) {id b cap : Nat} {a : Arr} (hi : hg id = some (.arr a)) (hl : loc id = .pl b cap) (hfz : a.fz = false) (es' : List (List D)) (hlen : es'.length = a.es.length) (hek : ∀ e ∈ es', e.length = a.k) (c' : Array Value) (hc' : c'.size = cap * a.k)
    (hc : ∀ (i j : Nat) (e : List D) (d : D), es'[i]? = some e → e[j]? = some d → ∃ u, c'[i * a.k + j]? = some u ∧ u.oneCell' = true ∧ Rep (cxOf E hg loc w) d u) :
    Tr E hg loc kn w (upd [(id, .arr { a with es := es' })] hg) (locAdd loc id (.pl b cap)) (knAdd kn id) (w.setRow b c') := by
  obtain ⟨_, hk, c0, h1, h2, h3, h4, h5, _⟩ : kn id ∧ 0 < a.k ∧ ArrAt (cxOf E hg loc w) a (.pl b cap) := by have := h.objs id _ hi; rw [hl] at this; exact this
  refine Tr.one h id _ (.pl b cap) _ (by rw [setRow_size]; exact Nat.le_refl _) rfl rfl rfl (fun x hx => .inl ⟨by simp [hi], by rw [hl]; exact hx⟩)
    (fun x hx hno => setRow_other w b x _ (fun e => hno ⟨by simp [hi], by rw [hl]; exact e⟩)) (fun x o v _ hx _ hno => ?_) (fun x hx _ => by cases hx) (fun a' ha _ => ?_) (fun T hT _ => by cases hT) (fun hC hR => ?_)
  · exact absurd ⟨id, _, hi, hx, fun hf => by rw [hfz] at hf; cases hf⟩ hno
  · cases ha
    exact ⟨a, hi, fun _ => ⟨hlen.symm, rfl, hl.symm⟩, Nat.le_refl _⟩
  · refine ⟨hk, c', heap_setRow_same w b c0 c' a.el h1, hc', by show es'.length ≤ cap; omega, h4, hek, fun i j e d hi hj => ?_⟩
    obtain ⟨u, h3, h4, h5⟩ := hc i j e d hi hj
    exact ⟨u, h3, h4, h5.le hC⟩

/-- an own array is written no more -/
theorem Tr.freeze (h : MC E hg loc kn w) {id : Nat} {a : Arr} (hi : hg id = some (.arr a)) :
    Tr E hg loc kn w (upd [(id, .arr { a with fz := true })] hg) (locAdd loc id (loc id)) (knAdd kn id) w := by
  obtain ⟨_, hk, h0⟩ : kn id ∧ 0 < a.k ∧ ArrAt (cxOf E hg loc w) a (loc id) := h.objs id _ hi
  refine Tr.one h id _ (loc id) _ (Nat.le_refl _) rfl rfl rfl (fun x hx => .inl ⟨by simp [hi], hx⟩) (fun x _ _ => rfl) (fun x o v _ hx hv hno => ⟨hv, fun ⟨_, h2⟩ => hno ⟨id, _, hi, hx, fun _ => h2 rfl⟩⟩) (fun x hx _ => by cases hx) (fun a' ha _ => ?_) (fun T hT _ => by cases hT) (fun hC hR => ?_)
  · cases ha
    exact ⟨a, hi, fun _ => ⟨rfl, rfl, rfl⟩, Nat.le_refl _⟩
  · exact ⟨hk, ArrAt.le (a := a) hC (fun _ _ => rfl) h0⟩

/-- what an own array holds -/
theorem MC.arr (h : MC E hg loc kn w) {id : Nat} {a : Arr} (hi : hg id = some (.arr a)) : 0 < a.k ∧ ArrAt (cxOf E hg loc w) a (loc id) := (h.objs id _ hi).2
theorem MC.box (h : MC E hg loc kn w) {id : Nat} {cs : List PV} (hi : hg id = some (.box cs)) : ∃ b cap c e, loc id = .pl b cap ∧ w.heap[b]? = some (.cells c e (0, 0)) ∧ c.size = cs.length ∧ ∀ (j : Nat) (p : PV), cs[j]? = some p → ∃ u, c[j]? = some u ∧ u.oneCell' = true ∧ PRep (cxOf E hg loc w) hg loc kn p u := by
  have := (h.objs id _ hi).2
  cases e : loc id with
  | no => rw [e] at this; exact this.elim
  | tb lo rl => rw [e] at this; exact this.elim
  | pl b cap =>
    rw [e] at this
    obtain ⟨c, t, h1, h2, h3⟩ := this
    exact ⟨b, cap, c, t, rfl, h1, h2, h3⟩

/-- what an own table holds -/
theorem MC.tab (h : MC E hg loc kn w) {id : Nat} {T : Tab} (hi : hg id = some (.tab T)) : ∃ lo rl, loc id = .tb lo rl ∧ TabIn (cxOf E hg loc w) T lo rl := by
  have := (h.objs id _ hi).2
  cases e : loc id with
  | no => rw [e] at this; exact this.elim
  | pl b cap => rw [e] at this; exact this.elim
  | tb lo rl => rw [e] at this; exact ⟨lo, rl, rfl, this⟩
theorem ArrAt.at {C : Cx} {a : Arr} {l : Lc} (h : ArrAt C a l) {i : Nat} (hi : i < a.es.length) : ∃ b cap, l = .pl b cap := by
  cases l with
  | no => have h : a.es = [] := h; rw [h] at hi; exact absurd hi (by simp)
  | pl b cap => exact ⟨b, cap, rfl⟩
  | tb lo rl => exact h.elim

/-- a frozen own array, as data -/
theorem MC.frozen (h : MC E hg loc kn w) {id : Nat} {a : Arr} (hi : hg id = some (.arr a)) (hf : a.fz = true) {v : Value} (hv : match loc id with
      | .no => v = .slice none 0 0
      | .pl b cap => v = .slice (some ⟨b, 0, none⟩) a.es.length cap
      | .tb _ _ => False) : Rep (cxOf E hg loc w) (.sl a.es) v := by
  obtain ⟨hk, h0⟩ := h.arr hi
  cases e : loc id with
  | no =>
    rw [e] at h0 hv
    have h0 : a.es = [] := h0
    subst hv
    rw [h0]
    exact .nil
  | tb lo rl => rw [e] at h0; exact h0.elim
  | pl b cap =>
    rw [e] at h0 hv
    obtain ⟨c, h1, h2, h3, h4, h5, h6⟩ := h0
    subst hv
    refine .sl a.es a.k cap b 0 (fun i j => (c[i * a.k + j]?).getD undef) h3 h4 h5 (fun i j x p hx hp => ?_) (fun i j x p hx hp => ?_)
    · obtain ⟨u, h7, h8, h9⟩ := h6 i j x p hx hp
      refine ⟨?_, by rw [h7]; exact h8, ?_, fun ham => ?_⟩
      · rw [Nat.zero_add, h7]
        exact rd_row h1 h7
      · rintro ⟨id', ob', h10, h11, h12⟩
        have := h.sep id' id b (by simp [h10]) (by simp [hi]) h11 (by rw [e]; rfl)
        subst this
        rw [hi] at h10
        cases h10
        have := h12 hf
        have hil : i < a.es.length := (List.getElem?_eq_some_iff.1 hx).1
        have hjl : j < x.length := (List.getElem?_eq_some_iff.1 hp).1
        rw [h5 x (List.mem_of_getElem? hx)] at hjl
        have : (i + 1) * a.k ≤ a.es.length * a.k := Nat.mul_le_mul_right _ (by omega)
        rw [Nat.add_mul] at this
        omega
      · exact h.amno id b _ (by simp [hi]) (by rw [e]; rfl) ham
    · obtain ⟨u, h7, h8, h9⟩ := h6 i j x p hx hp
      rw [h7]
      exact h9

/-- an array that nobody writes, as data -/
theorem arr_rep {C : Cx} {a : Arr} {l : Lc} (h : ArrAt C a l) (hno : ∀ b o, l.has b → o < a.es.length * a.k → ¬ C.ow b o ∧ ¬ C.am b o) : Rep C (.sl a.es) (l.val a.es.length) := by
  cases l with
  | no =>
    have h : a.es = [] := h
    rw [h]
    exact .nil
  | tb lo rl => exact h.elim
  | pl b cap =>
    obtain ⟨c, h1, h2, h3, h4, h5, h6⟩ := h
    refine .sl a.es a.k cap b 0 (fun i j => (c[i * a.k + j]?).getD undef) h3 h4 h5 (fun i j x p hx hp => ?_) (fun i j x p hx hp => ?_)
    · obtain ⟨u, h7, h8, h9⟩ := h6 i j x p hx hp
      have hil : i < a.es.length := (List.getElem?_eq_some_iff.1 hx).1
      have hjl : j < x.length := (List.getElem?_eq_some_iff.1 hp).1
      rw [h5 x (List.mem_of_getElem? hx)] at hjl
      have : (i + 1) * a.k ≤ a.es.length * a.k := Nat.mul_le_mul_right _ (by omega)
      rw [Nat.add_mul] at this
      rw [Nat.zero_add, h7]
      exact ⟨rd_row h1 h7, h8, hno b _ rfl (by omega)⟩
    · obtain ⟨u, h7, h8, h9⟩ := h6 i j x p hx hp
      rw [h7]
      exact h9

/-- a table is written no more -/
theorem Tr.freezeTab (h : MC E hg loc kn w) {id : Nat} {T : Tab} (hi : hg id = some (.tab T)) :
    Tr E hg loc kn w (upd [(id, .tab { T with fz := true })] hg) (locAdd loc id (loc id)) (knAdd kn id) w := by
  obtain ⟨lo, rl, hl, hT⟩ := h.tab hi
  refine Tr.one h id _ (loc id) _ (Nat.le_refl _) rfl rfl rfl (fun x hx => .inl ⟨by simp [hi], hx⟩) (fun x _ _ => rfl) (fun x o v _ hx hv hno => ⟨hv, fun ⟨_, h2⟩ => by cases h2⟩) (fun x hx _ => by cases hx) (fun a' ha _ => by cases ha) (fun T' hT' _ => ?_) (fun hC hR => ?_)
  · cases hT'
    exact ⟨T, hi, TabLe.refl T _⟩
  · have := TabAt.le (T := T) hC (l := loc id) (fun _ _ => rfl) (by rw [hl]; exact hT)
    rw [hl] at this ⊢
    exact ⟨this.pos, this.out, this.row, this.gone, this.sep, this.off, this.idx⟩

theorem sl_rows {T T' : Tab} (h : T.rows = T'.rows) : ∀ l, T.sl l = T'.sl l
  | [] => rfl
  | r :: l => by simp only [Tab.sl, Tab.row, h, sl_rows h l]
theorem sl_get {T : Tab} : ∀ {l : List Nat} {es : List (List D)}, T.sl l = some es → es.length = l.length ∧ ∀ (i : Nat) (e : List D), es[i]? = some e → ∃ r xs, l[i]? = some r ∧ T.row r = some xs ∧ e = [.sl xs]
  | [], es, h => by cases h; exact ⟨rfl, fun i e h => by cases h⟩
  | r :: l, es, h => by
    simp only [Tab.sl] at h
    split at h
    · rename_i xs rest h1 h2
      cases h
      obtain ⟨ih1, ih2⟩ := sl_get h2
      refine ⟨by simp [ih1], fun i e hi => ?_⟩
      cases i with
      | zero => cases hi; exact ⟨r, xs, rfl, h1, rfl⟩
      | succ i => exact ih2 i e hi
    · cases h

/-- the rows of a frozen table -/
theorem MC.frozenRow (h : MC E hg loc kn w) {id : Nat} {T : Tab} (hi : hg id = some (.tab T)) (hf : T.fz = true) {lo : Lc} {rl : Nat → Lc} (hl : loc id = .tb lo rl) {r : Nat} {es : List (List D)} (hr : T.row r = some es) :
    Rep (cxOf E hg loc w) (.sl es) ((rl r).val es.length) := by
  obtain ⟨lo', rl', hl', hT⟩ := h.tab hi
  rw [hl] at hl'
  cases hl'
  refine arr_rep (a := T.arr es) (hT.row r es hr) (fun b o hb ho => ⟨?_, fun ham => ?_⟩)
  · rintro ⟨id', ob', h10, h11, h12⟩
    have := h.sep id' id b (by simp [h10]) (by simp [hi]) h11 (by rw [hl]; exact .inr ⟨r, hb⟩)
    subst this
    rw [hi] at h10
    cases h10
    have h12 : T.fz = false := h12
    rw [hf] at h12
    cases h12
  · exact h.amno id b _ (by simp [hi]) (by rw [hl]; exact .inr ⟨r, hb⟩) ham
/-- a frozen table, or a part of it, as data -/
theorem MC.frozenTab (h : MC E hg loc kn w) {id : Nat} {T : Tab} (hi : hg id = some (.tab T)) (hf : T.fz = true) {lo : Lc} {rl : Nat → Lc} {o n : Nat} (hon : o + n ≤ T.out.length) {es : List (List D)} (hes : T.sl ((T.out.drop o).take n) = some es) {v : Value}
    (hv : match lo with
      | .no => v = .slice none 0 0 ∧ n = 0
      | .pl b _ => ∃ q c, v = .slice (some ⟨b, q, none⟩) n c ∧ (0 < n → q = o) ∧ n ≤ c ∧ c ≤ maxLen
      | .tb _ _ => False) (hl : loc id = .tb lo rl) : Rep (cxOf E hg loc w) (.sl es) v := by
  obtain ⟨lo', rl', hl', hT⟩ := h.tab hi
  rw [hl] at hl'
  cases hl'
  obtain ⟨e1, e2⟩ := sl_get hes
  have hlen : es.length = n := by rw [e1, List.length_take, List.length_drop]; omega
  have hout := hT.out
  cases lo with
  | tb lo' rl' => exact hv.elim
  | no =>
    obtain ⟨rfl, rfl⟩ := hv
    have : es = [] := List.eq_nil_of_length_eq_zero hlen
    subst this
    exact .nil
  | pl b cap =>
    obtain ⟨q, c, rfl, hq, hnc, hcm⟩ := hv
    obtain ⟨cc, h1, h2, h3, h4, h5⟩ := hout
    rw [← hlen]
    have get : ∀ (i j : Nat) (e : List D) (p : D), es[i]? = some e → e[j]? = some p → ∃ r xs, j = 0 ∧ p = .sl xs ∧ q = o ∧ T.row r = some xs ∧ cc[o + i]? = some ((rl r).val xs.length) := fun i j e p he hp => by
      obtain ⟨r, xs, g1, g2, rfl⟩ := e2 i e he
      have hin : i < n := by rw [← hlen]; exact (List.getElem?_eq_some_iff.1 he).1
      have hj : j = 0 := by have := (List.getElem?_eq_some_iff.1 hp).1; simpa using this
      subst hj
      rw [List.getElem?_take_of_lt hin, List.getElem?_drop] at g1
      exact ⟨r, xs, rfl, by simpa using hp.symm, hq (by omega), g2, h5 _ r xs g1 g2⟩
    refine .sl es 1 c b q (fun i _ => (cc[o + i]?).getD undef) (by omega) hcm (fun e he => ?_) (fun i j e p he hp => ?_) (fun i j e p he hp => ?_)
    · obtain ⟨i, hi'⟩ := List.mem_iff_getElem?.1 he
      obtain ⟨r, xs, _, _, rfl⟩ := e2 i e hi'
      rfl
    · obtain ⟨r, xs, rfl, rfl, rfl, g2, g3⟩ := get i j e p he hp
      rw [g3]
      have hone : ((rl r).val xs.length).oneCell' = true := by cases rl r <;> rfl
      refine ⟨?_, hone, ?_, fun ham => ?_⟩
      · rw [Nat.mul_one, Nat.add_zero]; exact rd_row h1 g3
      · rintro ⟨id', ob', h10, h11, h12⟩
        have := h.sep id' id b (by simp [h10]) (by simp [hi]) h11 (by rw [hl]; exact .inl rfl)
        subst this
        rw [hi] at h10
        cases h10
        have h12 : T.fz = false := h12
        rw [hf] at h12
        cases h12
      · exact h.amno id b _ (by simp [hi]) (by rw [hl]; exact .inl rfl) ham
    · obtain ⟨r, xs, rfl, rfl, rfl, g2, g3⟩ := get i j e p he hp
      rw [g3]
      exact h.frozenRow hi hf hl g2

/-- an own array, as the laws on append have it -/
theorem MC.owns (h : MC E hg loc kn w) {id : Nat} {a : Arr} (hi : hg id = some (.arr a)) : ∃ xs, w.ownsRow E.w0.heap.size a.el a.k ((loc id).val a.es.length) a.es.length xs ∧
    ∀ (i j : Nat) (e : List D) (d : D), a.es[i]? = some e → e[j]? = some d → ∃ u, xs[i * a.k + j]? = some u ∧ u.oneCell' = true ∧ Rep (cxOf E hg loc w) d u := by
  obtain ⟨hk, h0⟩ := h.arr hi
  cases e : loc id with
  | no =>
    rw [e] at h0
    have h0 : a.es = [] := h0
    refine ⟨[], ⟨by simp [h0], .inl ⟨rfl, by simp [h0]⟩⟩, fun i j x d hx _ => by simp [h0] at hx⟩
  | tb lo rl => rw [e] at h0; exact h0.elim
  | pl b cap =>
    rw [e] at h0
    obtain ⟨c, h1, h2, h3, h4, h5, h6⟩ := h0
    have hle : a.es.length * a.k ≤ c.toList.length := by rw [Array.length_toList, h2]; exact Nat.mul_le_mul_right _ h3
    refine ⟨c.toList.take (a.es.length * a.k), ⟨by rw [List.length_take]; omega, .inr ⟨b, cap, c, rfl, (h.fresh id b (by simp [hi]) (by rw [e]; rfl)).1, h1, h3, h4, h2, rfl⟩⟩, fun i j x d hx hd => ?_⟩
    obtain ⟨u, h7, h8, h9⟩ := h6 i j x d hx hd
    refine ⟨u, ?_, h8, h9⟩
    have hil : i < a.es.length := (List.getElem?_eq_some_iff.1 hx).1
    have hjl : j < x.length := (List.getElem?_eq_some_iff.1 hd).1
    rw [h5 x (List.mem_of_getElem? hx)] at hjl
    have : (i + 1) * a.k ≤ a.es.length * a.k := Nat.mul_le_mul_right _ (by omega)
    rw [Nat.add_mul] at this
    rw [List.getElem?_take_of_lt (by omega), Array.getElem?_toList, h7]

/-- behind an append -/
theorem Tr.append (h : MC E hg loc kn w) {id : Nat} {a : Arr} (hi : hg id = some (.arr a)) {xs news : List Value}
    (hxs : ∀ (i j : Nat) (e : List D) (d : D), a.es[i]? = some e → e[j]? = some d → ∃ u, xs[i * a.k + j]? = some u ∧ u.oneCell' = true ∧ Rep (cxOf E hg loc w) d u) (hxl : xs.length = a.es.length * a.k)
    (hout : ∀ b cap, loc id = .pl b cap → ∀ c, w.heap[b]? = some (.cells c a.el (0, 0)) → c.toList.take (a.es.length * a.k) = xs)
    (ns : List (List D)) (hnk : ∀ e ∈ ns, e.length = a.k)
    (hns : ∀ (i j : Nat) (e : List D) (d : D), ns[i]? = some e → e[j]? = some d → ∃ u, news[i * a.k + j]? = some u ∧ u.oneCell' = true ∧ Rep (cxOf E hg loc w) d u) {v' : Value} {w' : World}
    (hown : w'.ownsRow E.w0.heap.size a.el a.k v' (a.es.length + ns.length) (xs ++ news)) (hat : (v'.ownBlock = ((loc id).val a.es.length).ownBlock ∧ w.grownBy w' ((loc id).val a.es.length).ownBlock) ∨ (v'.ownBlock = some w.heap.size ∧ w.grownBy w' none)) :
    ∃ l', v' = l'.val (a.es.length + ns.length) ∧ Tr E hg loc kn w (upd [(id, .arr { a with es := a.es ++ ns, ver := a.ver + 1 })] hg) (locAdd loc id l') (knAdd kn id) w' := by
  obtain ⟨hk, h0⟩ := h.arr hi
  have hkn : kn id := (h.objs id _ hi).1
  have hsame : ∀ C : Cx, Cx.le (cxOf E hg loc w) C → ∀ (i j : Nat) (e : List D) (d : D), (a.es ++ ns)[i]? = some e → e[j]? = some d → ∃ u, (xs ++ news)[i * a.k + j]? = some u ∧ u.oneCell' = true ∧ Rep C d u := fun C hC i j e d he hd => by
    by_cases hil : i < a.es.length
    · rw [List.getElem?_append_left hil] at he
      obtain ⟨u, h1, h2, h3⟩ := hxs i j e d he hd
      refine ⟨u, ?_, h2, h3.le hC⟩
      rw [List.getElem?_append_left (List.getElem?_eq_some_iff.1 h1).1, h1]
    · rw [List.getElem?_append_right (by omega)] at he
      obtain ⟨u, h1, h2, h3⟩ := hns _ j e d he hd
      refine ⟨u, ?_, h2, h3.le hC⟩
      have hij : i * a.k = a.es.length * a.k + (i - a.es.length) * a.k := by rw [← Nat.add_mul]; congr 1; omega
      rw [List.getElem?_append_right (by omega), hxl, hij]
      rw [show a.es.length * a.k + (i - a.es.length) * a.k + j - a.es.length * a.k = (i - a.es.length) * a.k + j by omega]
      exact h1
  have hnk' : ∀ e ∈ a.es ++ ns, e.length = a.k := fun e he => by
    rcases List.mem_append.1 he with h1 | h1
    · cases el : loc id with
      | no => rw [el] at h0; have h0 : a.es = [] := h0; rw [h0] at h1; cases h1
      | tb lo rl => rw [el] at h0; exact h0.elim
      | pl b cap => rw [el] at h0; obtain ⟨_, _, _, _, _, h5, _⟩ := h0; exact h5 e h1
    · exact hnk e h1
  have hgr : w.grownBy w' ((loc id).val a.es.length).ownBlock := by
    rcases hat with h1 | h1
    · exact h1.2
    · exact ⟨h1.2.os, h1.2.tape, h1.2.output, h1.2.size, fun k hk _ => h1.2.block k hk (by simp)⟩
  rcases hown.2 with ⟨rfl, hz⟩ | ⟨g, cap', cur, rfl, hbg, hg', hnc, hcm, hcs, htake⟩
  · -- nothing came
    have e1 : a.es = [] := List.eq_nil_of_length_eq_zero (by omega)
    have e2 : ns = [] := List.eq_nil_of_length_eq_zero (by omega)
    have hno : loc id = .no := by
      cases el : loc id with
      | no => rfl
      | tb lo rl => rw [el] at h0; exact h0.elim
      | pl b cap => rw [el] at hat; simp [Lc.val, Value.ownBlock] at hat
    refine ⟨.no, by simp [Lc.val], ?_⟩
    refine Tr.one h id _ .no w' hgr.size hgr.os hgr.tape hgr.output (fun b hb => hb.elim) (fun b hb _ => hgr.block b hb (by rw [hno]; simp [Lc.val, Value.ownBlock])) (fun b o v _ hb => by rw [hno] at hb; exact hb.elim) (fun _ hx _ => by cases hx) (fun a' ha _ => ?_) (fun T hT _ => by cases hT) (fun hC hR => ⟨hk, by show a.es ++ ns = []; rw [e1, e2]; rfl⟩)
    cases ha
    exact ⟨a, hi, fun hv => absurd hv (by simp), by simp⟩
  · refine ⟨.pl g cap', rfl, ?_⟩
    refine Tr.one h id _ (.pl g cap') w' hgr.size hgr.os hgr.tape hgr.output (fun b hb => ?_) (fun b hb hno => hgr.block b hb (fun e => hno ⟨by simp [hi], ?_⟩)) (fun b o v _ hb hc how => ?_) (fun _ hx _ => by cases hx) (fun a' ha _ => ?_) (fun T hT _ => by cases hT) (fun hC hR => ⟨hk, cur, hg', hcs, by simpa using hnc, hcm, hnk', fun i j e d he hd => ?_⟩)
    · obtain rfl : b = g := hb
      rcases hat with ⟨h1, _⟩ | ⟨h1, _⟩
      · left
        refine ⟨by simp [hi], ?_⟩
        cases el : loc id with
        | no => rw [el] at h1; simp [Lc.val, Value.ownBlock] at h1
        | tb lo rl => rw [el] at h0; exact h0.elim
        | pl b' cap => rw [el] at h1; show b = b'; simpa [Lc.val, Value.ownBlock] using h1
      · right
        have : b = w.heap.size := by simpa [Value.ownBlock] using h1
        exact ⟨by omega, (Array.getElem?_eq_some_iff.1 hg').1⟩
    · cases el : loc id with
      | no => rw [el] at e; simp [Lc.val, Value.ownBlock] at e
      | tb lo rl => rw [el] at h0; exact h0.elim
      | pl b' cap => rw [el] at e; show b = b'; simpa [Lc.val, Value.ownBlock] using e
    · -- a cell of the elder block that was frozen stays
      cases el : loc id with
      | no => rw [el] at hb; exact hb.elim
      | tb lo rl => rw [el] at h0; exact h0.elim
      | pl b' cap =>
        obtain rfl : b = b' := by rw [el] at hb; exact hb
        have hA := h0
        rw [el] at hA
        obtain ⟨c, h1, h2, h3, h4, h5, h6⟩ := hA
        have hfo : a.fz = true ∧ o < a.es.length * a.k := by
          have := mt (fun hx => (⟨id, _, hi, by rw [el]; rfl, hx⟩ : owns hg loc b o)) how
          simp only [Ob.owns, Classical.not_imp, Nat.not_le] at this
          exact this
        refine ⟨?_, fun ⟨h7, h8⟩ => ?_⟩
        · rw [el] at hat
          rcases hat with ⟨h9, _⟩ | ⟨_, h9⟩
          · obtain rfl : g = b := by simpa [Lc.val, Value.ownBlock] using h9
            have hv : c[o]? = some v := by
              have : w.cell? ⟨g, o, none⟩ = c[o]? := by simp only [World.cell?]; rw [show w.heap[g]? = some (.cells c a.el (0, 0)) from h1]; simp
              rw [← this]; exact hc.1
            have hxo : xs[o]? = some v := by
              rw [← hout g cap el c h1, List.getElem?_take_of_lt hfo.2, Array.getElem?_toList, hv]
            have : cur[o]? = some v := by
              have h9 : (cur.toList.take ((a.es.length + ns.length) * a.k))[o]? = some v := by
                rw [htake, List.getElem?_append_left (List.getElem?_eq_some_iff.1 hxo).1, hxo]
              rw [List.getElem?_take_of_lt (by rw [Nat.add_mul]; omega), Array.getElem?_toList] at h9
              exact h9
            exact rd_row hg' this
          · exact cell_old hc (h9.block b (cell_lt hc) (by simp))
        · have h8 : a.fz = true → (a.es ++ ns).length * a.k ≤ o := h8
          have := h8 hfo.1
          rw [List.length_append, Nat.add_mul] at this
          omega
    · cases ha
      exact ⟨a, hi, fun hv => absurd hv (by simp), by simp⟩
    · obtain ⟨u, h7, h8, h9⟩ := hsame _ hC i j e d he hd
      refine ⟨u, ?_, h8, h9⟩
      have hil : i < (a.es ++ ns).length := (List.getElem?_eq_some_iff.1 he).1
      have hjl : j < e.length := (List.getElem?_eq_some_iff.1 hd).1
      rw [hnk' e (List.mem_of_getElem? he)] at hjl
      have : (i + 1) * a.k ≤ (a.es ++ ns).length * a.k := Nat.mul_le_mul_right _ (by omega)
      rw [Nat.add_mul, List.length_append] at this
      rw [← htake, List.getElem?_take_of_lt (by omega), Array.getElem?_toList] at h7
      exact h7
end
end Go.Pm
