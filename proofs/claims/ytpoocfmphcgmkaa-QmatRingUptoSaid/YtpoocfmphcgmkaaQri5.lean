/-
  The pure machine, part 3: the steps that own memory takes.
-/
import Derived.Test.YtpoocfmphcgmkaaQri3
import Derived.Test.YtpoocfmphcgmkaaQri4
set_option linter.unusedVariables false
set_option linter.unusedSimpArgs false
set_option linter.unusedSimpArgs false
set_option linter.unusedVariables false
namespace Go.Pm
open Go.RowKit

section
variable {E : Env} {hg : Nat → Option Ob} {loc : Locs} {kn : Nat → Prop} {w : World}

abbrev locAdd (loc : Locs) (id : Nat) (l : Lc) : Locs := fun x => if x = id then l else loc x
abbrev knAdd (kn : Nat → Prop) (id : Nat) : Nat → Prop := fun x => kn x ∨ x = id

theorem alloc_size (w : World) (o : Obj) : (w.alloc o).heap.size = w.heap.size + 1 := by simp
theorem alloc_new (w : World) (o : Obj) : (w.alloc o).heap[w.heap.size]? = some o := by
  show (w.heap.push _)[w.heap.size]? = _
  rw [Array.getElem?_push, if_pos rfl]

/-- a new object in a new block -/
theorem Tr.new (h : MC E hg loc kn w) {id : Nat} (hid : ¬ kn id) (ob : Ob) (cap : Nat) (o : Obj)
    (hob : ∀ C, C = cxOf E (upd [(id, ob)] hg) (locAdd loc id (.pl w.heap.size cap)) (w.alloc o) → Cx.le (cxOf E hg loc w) C → RefLe hg (upd [(id, ob)] hg) loc (locAdd loc id (.pl w.heap.size cap)) kn → 
      ObAt C (upd [(id, ob)] hg) (locAdd loc id (.pl w.heap.size cap)) (knAdd kn id) (.pl w.heap.size cap) ob) :
    Tr E hg loc kn w (upd [(id, ob)] hg) (locAdd loc id (.pl w.heap.size cap)) (knAdd kn id) (w.alloc o) := by
  have hn : hg id = none := by
    cases e : hg id with
    | none => rfl
    | some x => exact absurd (h.objs id x e).1 hid
  refine Tr.one h id ob (.pl w.heap.size cap) (w.alloc o) (by rw [alloc_size]; omega) rfl rfl rfl (fun b hb => .inr ⟨by cases hb; exact Nat.le_refl _, by cases hb; rw [alloc_size]; omega⟩)
    (fun b hb _ => Below.heap_alloc w o b hb) (fun b o' v h1 => absurd hn h1) (fun cs _ hk => absurd hk hid) (fun a' _ hk => absurd hk hid) (fun T' _ hk => absurd hk hid) (fun hC hR => hob _ rfl hC hR)

theorem Tr.newBox (h : MC E hg loc kn w) {id : Nat} (hid : ¬ kn id) (cs : List PV) (c : Array Value) (t : TypeId) (hl : c.size = cs.length)
    (hc : ∀ (j : Nat) (p : PV), cs[j]? = some p → ∃ u, c[j]? = some u ∧ u.oneCell' = true ∧ PRep (cxOf E hg loc w) hg loc kn p u) :
    Tr E hg loc kn w (upd [(id, .box cs)] hg) (locAdd loc id (.pl w.heap.size 0)) (knAdd kn id) (w.alloc (.cells c t)) :=
  Tr.new h hid _ _ _ fun C hC1 hC hR => by
    refine ⟨c, t, by rw [hC1]; exact alloc_new w _, hl, fun j p hj => ?_⟩
    obtain ⟨u, h1, h2, h3⟩ := hc j p hj
    exact ⟨u, h1, h2, h3.le hC hR (fun _ h => .inl h)⟩

theorem Tr.newArr (h : MC E hg loc kn w) {id : Nat} (hid : ¬ kn id) (a : Arr) (c : Array Value) (cap : Nat) (hk : 0 < a.k) (hl : c.size = cap * a.k) (hle : a.es.length ≤ cap) (hm : cap ≤ maxLen) (hek : ∀ e ∈ a.es, e.length = a.k)
    (hc : ∀ (i j : Nat) (e : List D) (d : D), a.es[i]? = some e → e[j]? = some d → ∃ u, c[i * a.k + j]? = some u ∧ u.oneCell' = true ∧ Rep (cxOf E hg loc w) d u) :
    Tr E hg loc kn w (upd [(id, .arr a)] hg) (locAdd loc id (.pl w.heap.size cap)) (knAdd kn id) (w.alloc (.cells c a.el)) :=
  Tr.new h hid _ _ _ fun C hC1 hC hR => by
    refine ⟨hk, c, by rw [hC1]; exact alloc_new w _, hl, hle, hm, hek, fun i j e d hi hj => ?_⟩
    obtain ⟨u, h1, h2, h3⟩ := hc i j e d hi hj
    exact ⟨u, h1, h2, h3.le hC⟩

/-- an empty array of no memory -/
theorem Tr.newNil (h : MC E hg loc kn w) {id : Nat} (hid : ¬ kn id) (a : Arr) (hk : 0 < a.k) (he : a.es = []) :
    Tr E hg loc kn w (upd [(id, .arr a)] hg) (locAdd loc id .no) (knAdd kn id) w := by
  have hn : hg id = none := by
    cases e : hg id with
    | none => rfl
    | some x => exact absurd (h.objs id x e).1 hid
  exact Tr.one h id _ .no w (Nat.le_refl _) rfl rfl rfl (fun b hb => hb.elim) (fun b _ _ => rfl) (fun b o' v h1 => absurd hn h1) (fun cs _ hk => absurd hk hid) (fun a' _ hk => absurd hk hid) (fun T' _ hk => absurd hk hid) (fun _ _ => ⟨hk, he⟩)

/-- a draw -/
theorem Tr.drew (h : MC E hg loc kn w) : Tr E hg loc kn w hg loc kn w.drew := Tr.ext h ((Below.refl _ _).drew)

theorem heap_setRow_same (w : World) (b : Nat) (c c' : Array Value) (t : TypeId) (h : w.heap[b]? = some (.cells c t (0, 0))) : (w.setRow b c').heap[b]? = some (.cells c' t (0, 0)) := setRow_heap w b c c' t _ h
theorem setRow_size (w : World) (b : Nat) (c : Array Value) : (w.setRow b c).heap.size = w.heap.size := by simp [World.setRow]

/-- the cells of an own box are turned -/
theorem Tr.setBox (h : MC E hg loc kn w) {id b cap : Nat} {cs : List PV} (hi : hg id = some (.box cs)) (hl : loc id = .pl b cap) (cs' : List PV) (c' : Array Value) (hc' : c'.size = cs'.length)
    (hc : ∀ (j : Nat) (p : PV), cs'[j]? = some p → ∃ u, c'[j]? = some u ∧ u.oneCell' = true ∧ PRep (cxOf E hg loc w) hg loc kn p u) :
    Tr E hg loc kn w (upd [(id, .box cs')] hg) (locAdd loc id (.pl b cap)) (knAdd kn id) (w.setRow b c') := by
  obtain ⟨_, c0, e0, h1, h2, _⟩ : kn id ∧ BoxAt (cxOf E hg loc w) hg loc kn cs (.pl b cap) := by have := h.objs id _ hi; rw [hl] at this; exact this
  refine Tr.one h id _ (.pl b cap) _ (by rw [setRow_size]; exact Nat.le_refl _) rfl rfl rfl (fun x hx => .inl ⟨by simp [hi], by rw [hl]; exact hx⟩)
    (fun x hx hno => setRow_other w b x _ (fun e => hno ⟨by simp [hi], by rw [hl]; exact e⟩)) (fun x o v _ hx _ hno => ?_) (fun x _ _ => ⟨⟨cs, hi⟩, hl.symm⟩) (fun a ha _ => by cases ha) (fun T hT _ => by cases hT) (fun hC hR => ?_)
  · exact absurd ⟨id, _, hi, hx, trivial⟩ hno
  · refine ⟨c', e0, heap_setRow_same w b c0 c' e0 h1, hc', fun j p hj => ?_⟩
    obtain ⟨u, h3, h4, h5⟩ := hc j p hj
    exact ⟨u, h3, h4, h5.le hC hR (fun _ h => .inl h)⟩

/-- the cells of an own array are turned, its length stays -/
theorem Tr.setArr (h : MC E hg loc kn w) {id b cap : Nat} {a : Arr} (hi : hg id = some (.arr a)) (hl : loc id = .pl b cap) (hfz : a.fz = false) (es' : List (List D)) (hlen : es'.length = a.es.length) (hek : ∀ e ∈ es', e.length = a.k) (c' : Array Value) (hc' : c'.size = cap * a.k)
    (hc : ∀ (i j : Nat) (e : List D) (d : D), es'[i]? = some e → e[j]? = some d → ∃ u, c'[i * a.k + j]? = some u ∧ u.oneCell' = true ∧ Rep (cxOf E hg loc w) d u) :
    Tr E hg loc kn w (upd [(id, .arr { a with es := es' })] hg) (locAdd loc id (.pl b cap)) (knAdd kn id) (w.setRow b c') := by
  obtain ⟨_, hk, c0, h1, h2, h3, h4, h5, _⟩ : kn id ∧ 0 < a.k ∧ ArrAt (cxOf E hg loc w) a (.pl b cap) := by have := h.objs id _ hi; rw [hl] at this; exact this
  refine Tr.one h id _ (.pl b cap) _ (by rw [setRow_size]; exact Nat.le_refl _) rfl rfl rfl (fun x hx => .inl ⟨by simp [hi], by rw [hl]; exact hx⟩)
    (fun x hx hno => setRow_other w b x _ (fun e => hno ⟨by simp [hi], by rw [hl]; exact e⟩)) (fun x o v _ hx _ hno => ?_) (fun x hx _ => by cases hx) (fun a' ha _ => ?_) (fun T hT _ => by cases hT) (fun hC hR => ?_)
  · exact absurd ⟨id, _, hi, hx, fun hf => by rw [hfz] at hf; cases hf⟩ hno
  · cases ha
    exact ⟨a, hi, fun _ => ⟨hlen.symm, rfl, hl.symm⟩, Nat.le_refl _⟩
  · refine ⟨hk, c', heap_setRow_same w b c0 c' a.el h1, hc', by show es'.length ≤ cap; omega, h4, hek, fun i j e d hi hj => ?_⟩
    obtain ⟨u, h3, h4, h5⟩ := hc i j e d hi hj
    exact ⟨u, h3, h4, h5.le hC⟩

theorem ArrAt.take {C C' : Cx} {a : Arr} {l : Lc} (h : ArrAt C a l) (hC : C.le C') (hw : C'.w = C.w) (k v : Nat) : ArrAt C' { a with es := a.es.take k, ver := v } l := by
  cases l with
  | no =>
    have h0 : a.es = [] := h
    show a.es.take k = []
    rw [h0]; simp
  | tb lo rl => exact h.elim
  | pl b cap =>
    obtain ⟨c, h1, h2, h3, h4, h5, h6⟩ := h
    refine ⟨c, by rw [hw]; exact h1, h2, ?_, h4, fun e he => h5 e (List.mem_of_mem_take he), fun i j e d he hd => ?_⟩
    · show (a.es.take k).length ≤ cap
      rw [List.length_take]; omega
    · have he : (a.es.take k)[i]? = some e := he
      have hik : i < k := by
        have := (List.getElem?_eq_some_iff.1 he).1
        rw [List.length_take] at this; omega
      rw [List.getElem?_take_of_lt hik] at he
      obtain ⟨u, g1, g2, g3⟩ := h6 i j e d he hd
      exact ⟨u, g1, g2, g3.le hC⟩
/-- an own array is cut behind a place -/
theorem Tr.shrink (h : MC E hg loc kn w) {id : Nat} {a : Arr} (hi : hg id = some (.arr a)) (hfz : a.fz = false) (k : Nat) :
    Tr E hg loc kn w (upd [(id, .arr { a with es := a.es.take k, ver := a.ver + 1 })] hg) (locAdd loc id (loc id)) (knAdd kn id) w := by
  obtain ⟨_, hk, h0⟩ : kn id ∧ 0 < a.k ∧ ArrAt (cxOf E hg loc w) a (loc id) := h.objs id _ hi
  refine Tr.one h id _ (loc id) _ (Nat.le_refl _) rfl rfl rfl (fun x hx => .inl ⟨by simp [hi], hx⟩) (fun x _ _ => rfl) (fun x o v _ hx _ hno => absurd ⟨id, _, hi, hx, fun hf => by rw [hfz] at hf; cases hf⟩ hno) (fun x hx _ => by cases hx) (fun a' ha _ => ?_) (fun T hT _ => by cases hT) (fun hC hR => ⟨hk, h0.take hC rfl k _⟩)
  cases ha
  exact ⟨a, hi, fun hv => absurd hv (by simp), by simp⟩
/-- an own array is written no more -/
theorem Tr.freeze (h : MC E hg loc kn w) {id : Nat} {a : Arr} (hi : hg id = some (.arr a)) :
    Tr E hg loc kn w (upd [(id, .arr { a with fz := true })] hg) (locAdd loc id (loc id)) (knAdd kn id) w := by
  obtain ⟨_, hk, h0⟩ : kn id ∧ 0 < a.k ∧ ArrAt (cxOf E hg loc w) a (loc id) := h.objs id _ hi
  refine Tr.one h id _ (loc id) _ (Nat.le_refl _) rfl rfl rfl (fun x hx => .inl ⟨by simp [hi], hx⟩) (fun x _ _ => rfl) (fun x o v _ hx hv hno => ⟨hv, fun ⟨_, h2⟩ => hno ⟨id, _, hi, hx, fun _ => h2 rfl⟩⟩) (fun x hx _ => by cases hx) (fun a' ha _ => ?_) (fun T hT _ => by cases hT) (fun hC hR => ?_)
  · cases ha
    exact ⟨a, hi, fun _ => ⟨rfl, rfl, rfl⟩, Nat.le_refl _⟩
  · exact ⟨hk, ArrAt.le (a := a) hC (fun _ _ => rfl) h0⟩

/-- what an own array holds -/
theorem MC.arr (h : MC E hg loc kn w) {id : Nat} {a : Arr} (hi : hg id = some (.arr a)) : 0 < a.k ∧ ArrAt (cxOf E hg loc w) a (loc id) := (h.objs id _ hi).2
theorem MC.box (h : MC E hg loc kn w) {id : Nat} {cs : List PV} (hi : hg id = some (.box cs)) : ∃ b cap c e, loc id = .pl b cap ∧ w.heap[b]? = some (.cells c e (0, 0)) ∧ c.size = cs.length ∧ ∀ (j : Nat) (p : PV), cs[j]? = some p → ∃ u, c[j]? = some u ∧ u.oneCell' = true ∧ PRep (cxOf E hg loc w) hg loc kn p u := by
  have := (h.objs id _ hi).2
  cases e : loc id with
  | no => rw [e] at this; exact this.elim
  | tb lo rl => rw [e] at this; exact this.elim
  | pl b cap =>
    rw [e] at this
    obtain ⟨c, t, h1, h2, h3⟩ := this
    exact ⟨b, cap, c, t, rfl, h1, h2, h3⟩

/-- what an own table holds -/
theorem MC.tab (h : MC E hg loc kn w) {id : Nat} {T : Tab} (hi : hg id = some (.tab T)) : ∃ lo rl, loc id = .tb lo rl ∧ TabIn (cxOf E hg loc w) T lo rl := by
  have := (h.objs id _ hi).2
  cases e : loc id with
  | no => rw [e] at this; exact this.elim
  | pl b cap => rw [e] at this; exact this.elim
  | tb lo rl => rw [e] at this; exact ⟨lo, rl, rfl, this⟩
theorem ArrAt.at {C : Cx} {a : Arr} {l : Lc} (h : ArrAt C a l) {i : Nat} (hi : i < a.es.length) : ∃ b cap, l = .pl b cap := by
  cases l with
  | no => have h : a.es = [] := h; rw [h] at hi; exact absurd hi (by simp)
  | pl b cap => exact ⟨b, cap, rfl⟩
  | tb lo rl => exact h.elim

/-- a frozen own array, as data -/
theorem MC.frozen (h : MC E hg loc kn w) {id : Nat} {a : Arr} (hi : hg id = some (.arr a)) (hf : a.fz = true) {v : Value} (hv : match loc id with
      | .no => v = .slice none 0 0
      | .pl b cap => v = .slice (some ⟨b, 0, none⟩) a.es.length cap
      | .tb _ _ => False) : Rep (cxOf E hg loc w) (.sl a.es) v := by
  obtain ⟨hk, h0⟩ := h.arr hi
  cases e : loc id with
  | no =>
    rw [e] at h0 hv
    have h0 : a.es = [] := h0
    subst hv
    rw [h0]
    exact .nil
  | tb lo rl => rw [e] at h0; exact h0.elim
  | pl b cap =>
    rw [e] at h0 hv
    obtain ⟨c, h1, h2, h3, h4, h5, h6⟩ := h0
    subst hv
    refine .sl a.es a.k cap b 0 (fun i j => (c[i * a.k + j]?).getD undef) h3 h4 h5 (fun i j x p hx hp => ?_) (fun i j x p hx hp => ?_)
    · obtain ⟨u, h7, h8, h9⟩ := h6 i j x p hx hp
      refine ⟨?_, by rw [h7]; exact h8, ?_, fun ham => ?_⟩
      · rw [Nat.zero_add, h7]
        exact rd_row h1 h7
      · rintro ⟨id', ob', h10, h11, h12⟩
        have := h.sep id' id b (by simp [h10]) (by simp [hi]) h11 (by rw [e]; rfl)
        subst this
        rw [hi] at h10
        cases h10
        have := h12 hf
        have hil : i < a.es.length := (List.getElem?_eq_some_iff.1 hx).1
        have hjl : j < x.length := (List.getElem?_eq_some_iff.1 hp).1
        rw [h5 x (List.mem_of_getElem? hx)] at hjl
        have : (i + 1) * a.k ≤ a.es.length * a.k := Nat.mul_le_mul_right _ (by omega)
        rw [Nat.add_mul] at this
        omega
      · exact h.amno id b _ (by simp [hi]) (by rw [e]; rfl) ham
    · obtain ⟨u, h7, h8, h9⟩ := h6 i j x p hx hp
      rw [h7]
      exact h9

/-- an array that nobody writes, as data -/
theorem arr_rep {C : Cx} {a : Arr} {l : Lc} (h : ArrAt C a l) (hno : ∀ b o, l.has b → o < a.es.length * a.k → ¬ C.ow b o ∧ ¬ C.am b o) : Rep C (.sl a.es) (l.val a.es.length) := by
  cases l with
  | no =>
    have h : a.es = [] := h
    rw [h]
    exact .nil
  | tb lo rl => exact h.elim
  | pl b cap =>
    obtain ⟨c, h1, h2, h3, h4, h5, h6⟩ := h
    refine .sl a.es a.k cap b 0 (fun i j => (c[i * a.k + j]?).getD undef) h3 h4 h5 (fun i j x p hx hp => ?_) (fun i j x p hx hp => ?_)
    · obtain ⟨u, h7, h8, h9⟩ := h6 i j x p hx hp
      have hil : i < a.es.length := (List.getElem?_eq_some_iff.1 hx).1
      have hjl : j < x.length := (List.getElem?_eq_some_iff.1 hp).1
      rw [h5 x (List.mem_of_getElem? hx)] at hjl
      have : (i + 1) * a.k ≤ a.es.length * a.k := Nat.mul_le_mul_right _ (by omega)
      rw [Nat.add_mul] at this
      rw [Nat.zero_add, h7]
      exact ⟨rd_row h1 h7, h8, hno b _ rfl (by omega)⟩
    · obtain ⟨u, h7, h8, h9⟩ := h6 i j x p hx hp
      rw [h7]
      exact h9

/-- a table is written no more -/
theorem Tr.freezeTab (h : MC E hg loc kn w) {id : Nat} {T : Tab} (hi : hg id = some (.tab T)) :
    Tr E hg loc kn w (upd [(id, .tab { T with fz := true })] hg) (locAdd loc id (loc id)) (knAdd kn id) w := by
  obtain ⟨lo, rl, hl, hT⟩ := h.tab hi
  refine Tr.one h id _ (loc id) _ (Nat.le_refl _) rfl rfl rfl (fun x hx => .inl ⟨by simp [hi], hx⟩) (fun x _ _ => rfl) (fun x o v _ hx hv hno => ⟨hv, fun ⟨_, h2⟩ => by cases h2⟩) (fun x hx _ => by cases hx) (fun a' ha _ => by cases ha) (fun T' hT' _ => ?_) (fun hC hR => ?_)
  · cases hT'
    exact ⟨T, hi, TabLe.refl T _⟩
  · have := TabAt.le (T := T) hC (l := loc id) (fun _ _ => rfl) (by rw [hl]; exact hT)
    rw [hl] at this ⊢
    exact ⟨this.pos, this.out, this.row, this.gone, this.sep, this.off, this.idx⟩

/-- a table is cut behind a place -/
theorem Tr.shrinkTab (h : MC E hg loc kn w) {id : Nat} {T : Tab} (hi : hg id = some (.tab T)) (hfz : T.fz = false) (k : Nat) :
    Tr E hg loc kn w (upd [(id, .tab { T with out := T.out.take k, ver := T.ver + 1 })] hg) (locAdd loc id (loc id)) (knAdd kn id) w := by
  obtain ⟨lo, rl, hl, hT⟩ := h.tab hi
  refine Tr.one h id _ (loc id) _ (Nat.le_refl _) rfl rfl rfl (fun x hx => .inl ⟨by simp [hi], hx⟩) (fun x _ _ => rfl) (fun x o v _ hx _ hno => absurd ⟨id, _, hi, hx, hfz⟩ hno) (fun x hx _ => by cases hx) (fun a' ha _ => by cases ha) (fun T' hT' _ => ?_) (fun hC hR => ?_)
  · cases hT'
    refine ⟨T, hi, Nat.le_succ _, rfl, fun hv => absurd hv (by simp), Nat.le_refl _, fun q es2 hq h2 => ⟨es2, h2, rfl⟩, fun lo2 rl2 h2 => ?_⟩
    exact ⟨lo2, rl2, h2, fun _ => rfl, fun _ _ _ _ => rfl⟩
  · have := TabAt.le (T := T) hC (l := loc id) (fun _ _ => rfl) (by rw [hl]; exact hT)
    rw [hl] at this ⊢
    have hidx : ∀ (i r : Nat), (T.out.take k)[i]? = some r → T.out[i]? = some r := fun i r hir => by
      have hik : i < k := by
        have := (List.getElem?_eq_some_iff.1 hir).1
        rw [List.length_take] at this; omega
      rwa [List.getElem?_take_of_lt hik] at hir
    refine ⟨this.pos, ?_, this.row, this.gone, this.sep, this.off, fun i r hir => this.idx i r (hidx i r hir)⟩
    have hout := this.out
    cases lo with
    | no =>
      have h0 : T.out = [] := hout
      show T.out.take k = []
      rw [h0]; simp
    | tb a b => exact hout.elim
    | pl b cap =>
      obtain ⟨c, k1, k2, k3, k4, k5⟩ := hout
      refine ⟨c, k1, k2, ?_, k4, fun i r es hir h2 => k5 i r es (hidx i r hir) h2⟩
      show (T.out.take k).length ≤ cap
      rw [List.length_take]; omega

theorem sl_rows {T T' : Tab} (h : T.rows = T'.rows) : ∀ l, T.sl l = T'.sl l
  | [] => rfl
  | r :: l => by simp only [Tab.sl, Tab.row, h, sl_rows h l]
theorem sl_get {T : Tab} : ∀ {l : List Nat} {es : List (List D)}, T.sl l = some es → es.length = l.length ∧ ∀ (i : Nat) (e : List D), es[i]? = some e → ∃ r xs, l[i]? = some r ∧ T.row r = some xs ∧ e = [.sl xs]
  | [], es, h => by cases h; exact ⟨rfl, fun i e h => by cases h⟩
  | r :: l, es, h => by
    simp only [Tab.sl] at h
    split at h
    · rename_i xs rest h1 h2
      cases h
      obtain ⟨ih1, ih2⟩ := sl_get h2
      refine ⟨by simp [ih1], fun i e hi => ?_⟩
      cases i with
      | zero => cases hi; exact ⟨r, xs, rfl, h1, rfl⟩
      | succ i => exact ih2 i e hi
    · cases h

/-- the rows of a frozen table -/
theorem MC.frozenRow (h : MC E hg loc kn w) {id : Nat} {T : Tab} (hi : hg id = some (.tab T)) (hf : T.fz = true) {lo : Lc} {rl : Nat → Lc} (hl : loc id = .tb lo rl) {r : Nat} {es : List (List D)} (hr : T.row r = some es) :
    Rep (cxOf E hg loc w) (.sl es) ((rl r).val es.length) := by
  obtain ⟨lo', rl', hl', hT⟩ := h.tab hi
  rw [hl] at hl'
  cases hl'
  refine arr_rep (a := T.arr es) (hT.row r es hr) (fun b o hb ho => ⟨?_, fun ham => ?_⟩)
  · rintro ⟨id', ob', h10, h11, h12⟩
    have := h.sep id' id b (by simp [h10]) (by simp [hi]) h11 (by rw [hl]; exact .inr ⟨r, hb⟩)
    subst this
    rw [hi] at h10
    cases h10
    have h12 : T.fz = false := h12
    rw [hf] at h12
    cases h12
  · exact h.amno id b _ (by simp [hi]) (by rw [hl]; exact .inr ⟨r, hb⟩) ham
/-- a frozen table, or a part of it, as data -/
theorem MC.frozenTab (h : MC E hg loc kn w) {id : Nat} {T : Tab} (hi : hg id = some (.tab T)) (hf : T.fz = true) {lo : Lc} {rl : Nat → Lc} {o n : Nat} (hon : o + n ≤ T.out.length) {es : List (List D)} (hes : T.sl ((T.out.drop o).take n) = some es) {v : Value}
    (hv : match lo with
      | .no => v = .slice none 0 0 ∧ n = 0
      | .pl b _ => ∃ q c, v = .slice (some ⟨b, q, none⟩) n c ∧ (0 < n → q = o) ∧ n ≤ c ∧ c ≤ maxLen
      | .tb _ _ => False) (hl : loc id = .tb lo rl) : Rep (cxOf E hg loc w) (.sl es) v := by
  obtain ⟨lo', rl', hl', hT⟩ := h.tab hi
  rw [hl] at hl'
  cases hl'
  obtain ⟨e1, e2⟩ := sl_get hes
  have hlen : es.length = n := by rw [e1, List.length_take, List.length_drop]; omega
  have hout := hT.out
  cases lo with
  | tb lo' rl' => exact hv.elim
  | no =>
    obtain ⟨rfl, rfl⟩ := hv
    have : es = [] := List.eq_nil_of_length_eq_zero hlen
    subst this
    exact .nil
  | pl b cap =>
    obtain ⟨q, c, rfl, hq, hnc, hcm⟩ := hv
    obtain ⟨cc, h1, h2, h3, h4, h5⟩ := hout
    rw [← hlen]
    have get : ∀ (i j : Nat) (e : List D) (p : D), es[i]? = some e → e[j]? = some p → ∃ r xs, j = 0 ∧ p = .sl xs ∧ q = o ∧ T.row r = some xs ∧ cc[o + i]? = some ((rl r).val xs.length) := fun i j e p he hp => by
      obtain ⟨r, xs, g1, g2, rfl⟩ := e2 i e he
      have hin : i < n := by rw [← hlen]; exact (List.getElem?_eq_some_iff.1 he).1
      have hj : j = 0 := by have := (List.getElem?_eq_some_iff.1 hp).1; simpa using this
      subst hj
      rw [List.getElem?_take_of_lt hin, List.getElem?_drop] at g1
      exact ⟨r, xs, rfl, by simpa using hp.symm, hq (by omega), g2, h5 _ r xs g1 g2⟩
    refine .sl es 1 c b q (fun i _ => (cc[o + i]?).getD undef) (by omega) hcm (fun e he => ?_) (fun i j e p he hp => ?_) (fun i j e p he hp => ?_)
    · obtain ⟨i, hi'⟩ := List.mem_iff_getElem?.1 he
      obtain ⟨r, xs, _, _, rfl⟩ := e2 i e hi'
      rfl
    · obtain ⟨r, xs, rfl, rfl, rfl, g2, g3⟩ := get i j e p he hp
      rw [g3]
      have hone : ((rl r).val xs.length).oneCell' = true := by cases rl r <;> rfl
      refine ⟨?_, hone, ?_, fun ham => ?_⟩
      · rw [Nat.mul_one, Nat.add_zero]; exact rd_row h1 g3
      · rintro ⟨id', ob', h10, h11, h12⟩
        have := h.sep id' id b (by simp [h10]) (by simp [hi]) h11 (by rw [hl]; exact .inl rfl)
        subst this
        rw [hi] at h10
        cases h10
        have h12 : T.fz = false := h12
        rw [hf] at h12
        cases h12
      · exact h.amno id b _ (by simp [hi]) (by rw [hl]; exact .inl rfl) ham
    · obtain ⟨r, xs, rfl, rfl, rfl, g2, g3⟩ := get i j e p he hp
      rw [g3]
      exact h.frozenRow hi hf hl g2

/-- an own array, as the laws on append have it -/
theorem MC.owns (h : MC E hg loc kn w) {id : Nat} {a : Arr} (hi : hg id = some (.arr a)) : ∃ xs, w.ownsRow E.w0.heap.size a.el a.k ((loc id).val a.es.length) a.es.length xs ∧
    ∀ (i j : Nat) (e : List D) (d : D), a.es[i]? = some e → e[j]? = some d → ∃ u, xs[i * a.k + j]? = some u ∧ u.oneCell' = true ∧ Rep (cxOf E hg loc w) d u := by
  obtain ⟨hk, h0⟩ := h.arr hi
  cases e : loc id with
  | no =>
    rw [e] at h0
    have h0 : a.es = [] := h0
    refine ⟨[], ⟨by simp [h0], .inl ⟨rfl, by simp [h0]⟩⟩, fun i j x d hx _ => by simp [h0] at hx⟩
  | tb lo rl => rw [e] at h0; exact h0.elim
  | pl b cap =>
    rw [e] at h0
    obtain ⟨c, h1, h2, h3, h4, h5, h6⟩ := h0
    have hle : a.es.length * a.k ≤ c.toList.length := by rw [Array.length_toList, h2]; exact Nat.mul_le_mul_right _ h3
    refine ⟨c.toList.take (a.es.length * a.k), ⟨by rw [List.length_take]; omega, .inr ⟨b, cap, c, rfl, (h.fresh id b (by simp [hi]) (by rw [e]; rfl)).1, h1, h3, h4, h2, rfl⟩⟩, fun i j x d hx hd => ?_⟩
    obtain ⟨u, h7, h8, h9⟩ := h6 i j x d hx hd
    refine ⟨u, ?_, h8, h9⟩
    have hil : i < a.es.length := (List.getElem?_eq_some_iff.1 hx).1
    have hjl : j < x.length := (List.getElem?_eq_some_iff.1 hd).1
    rw [h5 x (List.mem_of_getElem? hx)] at hjl
    have : (i + 1) * a.k ≤ a.es.length * a.k := Nat.mul_le_mul_right _ (by omega)
    rw [Nat.add_mul] at this
    rw [List.getElem?_take_of_lt (by omega), Array.getElem?_toList, h7]

/-- behind an append -/
theorem Tr.append (h : MC E hg loc kn w) {id : Nat} {a : Arr} (hi : hg id = some (.arr a)) {xs news : List Value}
    (hxs : ∀ (i j : Nat) (e : List D) (d : D), a.es[i]? = some e → e[j]? = some d → ∃ u, xs[i * a.k + j]? = some u ∧ u.oneCell' = true ∧ Rep (cxOf E hg loc w) d u) (hxl : xs.length = a.es.length * a.k)
    (hout : ∀ b cap, loc id = .pl b cap → ∀ c, w.heap[b]? = some (.cells c a.el (0, 0)) → c.toList.take (a.es.length * a.k) = xs)
    (ns : List (List D)) (hnk : ∀ e ∈ ns, e.length = a.k)
    (hns : ∀ (i j : Nat) (e : List D) (d : D), ns[i]? = some e → e[j]? = some d → ∃ u, news[i * a.k + j]? = some u ∧ u.oneCell' = true ∧ Rep (cxOf E hg loc w) d u) {v' : Value} {w' : World}
    (hown : w'.ownsRow E.w0.heap.size a.el a.k v' (a.es.length + ns.length) (xs ++ news)) (hat : (v'.ownBlock = ((loc id).val a.es.length).ownBlock ∧ w.grownBy w' ((loc id).val a.es.length).ownBlock) ∨ (v'.ownBlock = some w.heap.size ∧ w.grownBy w' none)) :
    ∃ l', v' = l'.val (a.es.length + ns.length) ∧ Tr E hg loc kn w (upd [(id, .arr { a with es := a.es ++ ns, ver := a.ver + 1 })] hg) (locAdd loc id l') (knAdd kn id) w' := by
  obtain ⟨hk, h0⟩ := h.arr hi
  have hkn : kn id := (h.objs id _ hi).1
  have hsame : ∀ C : Cx, Cx.le (cxOf E hg loc w) C → ∀ (i j : Nat) (e : List D) (d : D), (a.es ++ ns)[i]? = some e → e[j]? = some d → ∃ u, (xs ++ news)[i * a.k + j]? = some u ∧ u.oneCell' = true ∧ Rep C d u := fun C hC i j e d he hd => by
    by_cases hil : i < a.es.length
    · rw [List.getElem?_append_left hil] at he
      obtain ⟨u, h1, h2, h3⟩ := hxs i j e d he hd
      refine ⟨u, ?_, h2, h3.le hC⟩
      rw [List.getElem?_append_left (List.getElem?_eq_some_iff.1 h1).1, h1]
    · rw [List.getElem?_append_right (by omega)] at he
      obtain ⟨u, h1, h2, h3⟩ := hns _ j e d he hd
      refine ⟨u, ?_, h2, h3.le hC⟩
      have hij : i * a.k = a.es.length * a.k + (i - a.es.length) * a.k := by rw [← Nat.add_mul]; congr 1; omega
      rw [List.getElem?_append_right (by omega), hxl, hij]
      rw [show a.es.length * a.k + (i - a.es.length) * a.k + j - a.es.length * a.k = (i - a.es.length) * a.k + j by omega]
      exact h1
  have hnk' : ∀ e ∈ a.es ++ ns, e.length = a.k := fun e he => by
    rcases List.mem_append.1 he with h1 | h1
    · cases el : loc id with
      | no => rw [el] at h0; have h0 : a.es = [] := h0; rw [h0] at h1; cases h1
      | tb lo rl => rw [el] at h0; exact h0.elim
      | pl b cap => rw [el] at h0; obtain ⟨_, _, _, _, _, h5, _⟩ := h0; exact h5 e h1
    · exact hnk e h1
  have hgr : w.grownBy w' ((loc id).val a.es.length).ownBlock := by
    rcases hat with h1 | h1
    · exact h1.2
    · exact ⟨h1.2.os, h1.2.tape, h1.2.output, h1.2.size, fun k hk _ => h1.2.block k hk (by simp)⟩
  rcases hown.2 with ⟨rfl, hz⟩ | ⟨g, cap', cur, rfl, hbg, hg', hnc, hcm, hcs, htake⟩
  · -- nothing came
    have e1 : a.es = [] := List.eq_nil_of_length_eq_zero (by omega)
    have e2 : ns = [] := List.eq_nil_of_length_eq_zero (by omega)
    have hno : loc id = .no := by
      cases el : loc id with
      | no => rfl
      | tb lo rl => rw [el] at h0; exact h0.elim
      | pl b cap => rw [el] at hat; simp [Lc.val, Value.ownBlock] at hat
    refine ⟨.no, by simp [Lc.val], ?_⟩
    refine Tr.one h id _ .no w' hgr.size hgr.os hgr.tape hgr.output (fun b hb => hb.elim) (fun b hb _ => hgr.block b hb (by rw [hno]; simp [Lc.val, Value.ownBlock])) (fun b o v _ hb => by rw [hno] at hb; exact hb.elim) (fun _ hx _ => by cases hx) (fun a' ha _ => ?_) (fun T hT _ => by cases hT) (fun hC hR => ⟨hk, by show a.es ++ ns = []; rw [e1, e2]; rfl⟩)
    cases ha
    exact ⟨a, hi, fun hv => absurd hv (by simp), by simp⟩
  · refine ⟨.pl g cap', rfl, ?_⟩
    refine Tr.one h id _ (.pl g cap') w' hgr.size hgr.os hgr.tape hgr.output (fun b hb => ?_) (fun b hb hno => hgr.block b hb (fun e => hno ⟨by simp [hi], ?_⟩)) (fun b o v _ hb hc how => ?_) (fun _ hx _ => by cases hx) (fun a' ha _ => ?_) (fun T hT _ => by cases hT) (fun hC hR => ⟨hk, cur, hg', hcs, by simpa using hnc, hcm, hnk', fun i j e d he hd => ?_⟩)
    · obtain rfl : b = g := hb
      rcases hat with ⟨h1, _⟩ | ⟨h1, _⟩
      · left
        refine ⟨by simp [hi], ?_⟩
        cases el : loc id with
        | no => rw [el] at h1; simp [Lc.val, Value.ownBlock] at h1
        | tb lo rl => rw [el] at h0; exact h0.elim
        | pl b' cap => rw [el] at h1; show b = b'; simpa [Lc.val, Value.ownBlock] using h1
      · right
        have : b = w.heap.size := by simpa [Value.ownBlock] using h1
        exact ⟨by omega, (Array.getElem?_eq_some_iff.1 hg').1⟩
    · cases el : loc id with
      | no => rw [el] at e; simp [Lc.val, Value.ownBlock] at e
      | tb lo rl => rw [el] at h0; exact h0.elim
      | pl b' cap => rw [el] at e; show b = b'; simpa [Lc.val, Value.ownBlock] using e
    · -- a cell of the elder block that was frozen stays
      cases el : loc id with
      | no => rw [el] at hb; exact hb.elim
      | tb lo rl => rw [el] at h0; exact h0.elim
      | pl b' cap =>
        obtain rfl : b = b' := by rw [el] at hb; exact hb
        have hA := h0
        rw [el] at hA
        obtain ⟨c, h1, h2, h3, h4, h5, h6⟩ := hA
        have hfo : a.fz = true ∧ o < a.es.length * a.k := by
          have := mt (fun hx => (⟨id, _, hi, by rw [el]; rfl, hx⟩ : owns hg loc b o)) how
          simp only [Ob.owns, Classical.not_imp, Nat.not_le] at this
          exact this
        refine ⟨?_, fun ⟨h7, h8⟩ => ?_⟩
        · rw [el] at hat
          rcases hat with ⟨h9, _⟩ | ⟨_, h9⟩
          · obtain rfl : g = b := by simpa [Lc.val, Value.ownBlock] using h9
            have hv : c[o]? = some v := by
              have : w.cell? ⟨g, o, none⟩ = c[o]? := by simp only [World.cell?]; rw [show w.heap[g]? = some (.cells c a.el (0, 0)) from h1]; simp
              rw [← this]; exact hc.1
            have hxo : xs[o]? = some v := by
              rw [← hout g cap el c h1, List.getElem?_take_of_lt hfo.2, Array.getElem?_toList, hv]
            have : cur[o]? = some v := by
              have h9 : (cur.toList.take ((a.es.length + ns.length) * a.k))[o]? = some v := by
                rw [htake, List.getElem?_append_left (List.getElem?_eq_some_iff.1 hxo).1, hxo]
              rw [List.getElem?_take_of_lt (by rw [Nat.add_mul]; omega), Array.getElem?_toList] at h9
              exact h9
            exact rd_row hg' this
          · exact cell_old hc (h9.block b (cell_lt hc) (by simp))
        · have h8 : a.fz = true → (a.es ++ ns).length * a.k ≤ o := h8
          have := h8 hfo.1
          rw [List.length_append, Nat.add_mul] at this
          omega
    · cases ha
      exact ⟨a, hi, fun hv => absurd hv (by simp), by simp⟩
    · obtain ⟨u, h7, h8, h9⟩ := hsame _ hC i j e d he hd
      refine ⟨u, ?_, h8, h9⟩
      have hil : i < (a.es ++ ns).length := (List.getElem?_eq_some_iff.1 he).1
      have hjl : j < e.length := (List.getElem?_eq_some_iff.1 hd).1
      rw [hnk' e (List.mem_of_getElem? he)] at hjl
      have : (i + 1) * a.k ≤ (a.es ++ ns).length * a.k := Nat.mul_le_mul_right _ (by omega)
      rw [Nat.add_mul, List.length_append] at this
      rw [← htake, List.getElem?_take_of_lt (by omega), Array.getElem?_toList] at h7
      exact h7
end
end Go.Pm
/-
  The pure machine: the steps that tables take.
-/
set_option linter.unusedSimpArgs false
set_option linter.unusedVariables false
namespace Go.Pm
open Go.RowKit

section
variable {E : Env} {hg : Nat → Option Ob} {loc : Locs} {kn : Nat → Prop} {w : World}

/-- some objects replaced at once: what has to be shown -/
theorem Tr.many (h : MC E hg loc kn w) (S : Nat → Prop) (hg' : Nat → Option Ob) (loc' : Locs) (w' : World)
    (hsz : w.heap.size ≤ w'.heap.size) (hos : w'.os = w.os) (htape : w'.tape = w.tape) (hout : w'.output = w.output)
    (hsame : ∀ x, ¬ S x → hg' x = hg x ∧ loc' x = loc x)
    (hnew : ∀ x b, S x → hg' x ≠ none → (loc' x).has b → (∃ y, S y ∧ hg y ≠ none ∧ (loc y).has b) ∨ (w.heap.size ≤ b ∧ b < w'.heap.size))
    (hblk : ∀ b, b < w.heap.size → ¬ (∃ y, S y ∧ hg y ≠ none ∧ (loc y).has b) → w'.heap[b]? = w.heap[b]?)
    (hcell : ∀ y b o v, S y → hg y ≠ none → (loc y).has b → rd w b o v → ¬ owns hg loc b o → rd w' b o v ∧ ¬ ∃ x ob, S x ∧ hg' x = some ob ∧ (loc' x).has b ∧ ob.owns o)
    (hsep : ∀ x y b, S x → S y → hg' x ≠ none → hg' y ≠ none → (loc' x).has b → (loc' y).has b → x = y)
    (hR : RefLe hg hg' loc loc' kn)
    (hob : Cx.le (cxOf E hg loc w) (cxOf E hg' loc' w') → ∀ x ob, S x → hg' x = some ob → ObAt (cxOf E hg' loc' w') hg' loc' (fun x => kn x ∨ S x) (loc' x) ob) :
    Tr E hg loc kn w hg' loc' (fun x => kn x ∨ S x) w' := by
  have hw0 : E.w0.heap.size ≤ w.heap.size := h.ext.size
  have hown : ∀ x b, ¬ S x → hg x ≠ none → (loc x).has b → ∀ y, S y → hg' y ≠ none → ¬ (loc' y).has b := fun x b hx hgx hb y hy hgy hl => by
    rcases hnew y b hy hgy hl with ⟨z, h1, h2, h3⟩ | ⟨h1, _⟩
    · exact hx (h.sep x z b hgx h2 hb h3 ▸ h1)
    · exact absurd (h.fresh x b hgx hb).2 (by omega)
  have hblk' : ∀ x b, ¬ S x → hg x ≠ none → (loc x).has b → w'.heap[b]? = w.heap[b]? := fun x b hx hgx hb =>
    hblk b (h.fresh x b hgx hb).2 (fun ⟨y, h1, h2, h3⟩ => hx (h.sep x y b hgx h2 hb h3 ▸ h1))
  have hC : Cx.le (cxOf E hg loc w) (cxOf E hg' loc' w') := by
    have key : ∀ b o v, rd w b o v → ¬ owns hg loc b o → rd w' b o v ∧ ¬ ∃ x ob, S x ∧ hg' x = some ob ∧ (loc' x).has b ∧ ob.owns o := fun b o v h1 h2 => by
      by_cases hc : ∃ y, S y ∧ hg y ≠ none ∧ (loc y).has b
      · obtain ⟨y, c1, c2, c3⟩ := hc
        exact hcell y b o v c1 c2 c3 h1 h2
      · refine ⟨cell_old h1 (hblk b (cell_lt h1) hc), fun ⟨x, ob, h3, h4, h5, _⟩ => ?_⟩
        rcases hnew x b h3 (by simp [h4]) h5 with h6 | ⟨h6, _⟩
        · exact hc h6
        · exact absurd (cell_lt h1) (by omega)
    refine ⟨fun b o v h1 h2 => (key b o v h1 h2).1, fun b o v h1 h2 h3 => ?_, fun _ _ _ _ _ h => h, rfl⟩
    obtain ⟨x, ox, h4, h5, h6⟩ := h3
    by_cases hx : S x
    · exact (key b o v h1 h2).2 ⟨x, ox, hx, h4, h5, h6⟩
    · rw [(hsame x hx).1] at h4
      rw [(hsame x hx).2] at h5
      exact h2 ⟨x, ox, h4, h5, h6⟩
  refine ⟨⟨?_, fun b o ha => Nat.lt_of_lt_of_le (h.amlt b o ha) hsz, fun x ox hx => ?_, fun x y b hx hy hbx hby => ?_, fun x b hx hb => ?_, fun x b o hx hb ha => ?_⟩, hC, hR, fun _ h => .inl h, hsz, fun b hb hno => hblk b hb (fun ⟨y, _, h2, h3⟩ => hno ⟨y, h2, h3⟩), fun x b hx hb => ?_⟩
  · refine ⟨hos.trans h.ext.os, htape.trans h.ext.tape, hout.trans h.ext.output, Nat.le_trans hw0 hsz, fun k hk => ?_⟩
    rw [hblk k (by omega) (fun ⟨y, _, h1, h2⟩ => absurd (h.fresh y k h1 h2).1 (by omega))]
    exact h.ext.block k hk
  · by_cases e : S x
    · exact ⟨.inr e, hob hC x ox e hx⟩
    · have hx' := hx
      rw [(hsame x e).1] at hx
      obtain ⟨h1, h2⟩ := h.objs x ox hx
      refine ⟨.inl h1, ?_⟩
      rw [(hsame x e).2]
      exact h2.le hC hR (fun _ h => .inl h) (fun b hb => hblk' x b e (by simp [hx]) hb)
  · by_cases ex : S x <;> by_cases ey : S y
    · exact hsep x y b ex ey hx hy hbx hby
    · rw [(hsame y ey).1] at hy
      rw [(hsame y ey).2] at hby
      exact absurd hbx (hown y b ey hy hby x ex hx)
    · rw [(hsame x ex).1] at hx
      rw [(hsame x ex).2] at hbx
      exact absurd hby (hown x b ex hx hbx y ey hy)
    · rw [(hsame x ex).1] at hx
      rw [(hsame y ey).1] at hy
      rw [(hsame x ex).2] at hbx
      rw [(hsame y ey).2] at hby
      exact h.sep x y b hx hy hbx hby
  · by_cases ex : S x
    · rcases hnew x b ex hx hb with ⟨y, _, h1, h2⟩ | ⟨h1, h2⟩
      · obtain ⟨h3, h4⟩ := h.fresh y b h1 h2
        exact ⟨h3, by omega⟩
      · exact ⟨by omega, h2⟩
    · rw [(hsame x ex).1] at hx
      rw [(hsame x ex).2] at hb
      obtain ⟨h3, h4⟩ := h.fresh x b hx hb
      exact ⟨h3, by omega⟩
  · by_cases ex : S x
    · rcases hnew x b ex hx hb with ⟨y, _, h1, h2⟩ | ⟨h1, _⟩
      · exact h.amno y b o h1 h2 ha
      · exact absurd (h.amlt b o ha) (by omega)
    · rw [(hsame x ex).1] at hx
      rw [(hsame x ex).2] at hb
      exact h.amno x b o hx hb ha
  · by_cases ex : S x
    · rcases hnew x b ex hx hb with ⟨y, _, h1, h2⟩ | ⟨h1, _⟩
      · exact .inl ⟨y, h1, h2⟩
      · exact .inr h1
    · rw [(hsame x ex).1] at hx
      rw [(hsame x ex).2] at hb
      exact .inl ⟨x, hx, hb⟩

theorem row_lt {T : Tab} {r : Nat} {es : List (List D)} (h : T.row r = some es) : r < T.rows.length := by
  unfold Tab.row at h
  cases hq : T.rows[r]? with
  | none => rw [hq] at h; cases h
  | some q => exact (List.getElem?_eq_some_iff.1 hq).1
theorem row_set_self {T : Tab} {r : Nat} (h : r < T.rows.length) (x : Option (List (List D))) : ({ T with rows := T.rows.set r x } : Tab).row r = x := by
  simp [Tab.row, h]
theorem row_set_ne {T : Tab} {r q : Nat} (h : q ≠ r) (x : Option (List (List D))) : ({ T with rows := T.rows.set r x } : Tab).row q = T.row q := by
  simp [Tab.row, List.getElem?_set_ne (Ne.symm h)]

/-- an element of a row is turned -/
theorem Tr.setEl (h : MC E hg loc kn w) {id : Nat} {T : Tab} (hi : hg id = some (.tab T)) {lo : Lc} {rl : Nat → Lc} (hl : loc id = .tb lo rl) (hfz : T.fz = false) {r : Nat} {es : List (List D)} (hr : T.row r = some es) {b cap : Nat} (hrl : rl r = .pl b cap)
    (es' : List (List D)) (hlen : es'.length = es.length) (hek : ∀ e ∈ es', e.length = T.k) (c' : Array Value) (hc' : c'.size = cap * T.k)
    (hc : ∀ (i j : Nat) (e : List D) (d : D), es'[i]? = some e → e[j]? = some d → ∃ u, c'[i * T.k + j]? = some u ∧ u.oneCell' = true ∧ Rep (cxOf E hg loc w) d u) :
    Tr E hg loc kn w (upd [(id, .tab { T with rows := T.rows.set r (some es') })] hg) (locAdd loc id (.tb lo rl)) (knAdd kn id) (w.setRow b c') := by
  obtain ⟨lo', rl', hl', hT⟩ := h.tab hi
  rw [hl] at hl'
  cases hl'
  have hrlt := row_lt hr
  have hbo : (Lc.tb lo rl).has b := .inr ⟨r, by rw [hrl]; rfl⟩
  have hself : ∀ es2, ({ T with rows := T.rows.set r (some es') } : Tab).row r = some es2 → es2 = es' := fun es2 h2 => by rw [row_set_self hrlt] at h2; exact (Option.some.inj h2).symm
  have hA := hT.row r es hr
  rw [hrl] at hA
  obtain ⟨c0, h1, h2, h3, h4, h5, _⟩ := hA
  refine Tr.one h id _ (.tb lo rl) _ (by rw [setRow_size]; exact Nat.le_refl _) rfl rfl rfl (fun x hx => .inl ⟨by simp [hi], by rw [hl]; exact hx⟩)
    (fun x hx hno => setRow_other w b x _ (fun e => hno ⟨by simp [hi], by rw [hl, e]; exact hbo⟩)) (fun x o v _ hx _ hno => ?_) (fun x hx _ => by cases hx) (fun a' ha _ => by cases ha) (fun T' hT' _ => ?_) (fun hC hR => ?_)
  · exact absurd ⟨id, _, hi, hx, hfz⟩ hno
  · cases hT'
    refine ⟨T, hi, Nat.le_refl _, rfl, fun _ => rfl, by simp, fun q es2 hq h2 => ?_, fun lo2 rl2 h2 => ?_⟩
    · by_cases hqr : q = r
      · subst hqr
        rw [hself es2 h2]
        exact ⟨es, hr, hlen.symm⟩
      · rw [row_set_ne hqr] at h2
        exact ⟨es2, h2, rfl⟩
    · cases h2
      exact ⟨lo, rl, hl, fun _ => rfl, fun _ _ _ _ => rfl⟩
  · have hother : ∀ x, x ≠ b → (w.setRow b c').heap[x]? = w.heap[x]? := fun x hx => setRow_other w b x _ hx
    refine ⟨hT.pos, ?_, fun q es2 h6 => ?_, fun q h6 => ?_, hT.sep, hT.off, fun i q hq => by rw [List.length_set]; exact hT.idx i q hq⟩
    · have hout := hT.out
      cases lo with
      | no => exact hout
      | tb a b => exact hout.elim
      | pl b0 cap0 =>
        obtain ⟨c, k1, k2, k3, k4, k5⟩ := hout
        have hne : b0 ≠ b := fun e => hT.off r b0 rfl (by rw [hrl]; exact e)
        refine ⟨c, (hother b0 hne).trans k1, k2, k3, k4, fun i q es2 hiq h6 => ?_⟩
        by_cases hqr : q = r
        · subst hqr
          rw [hself es2 h6, hlen]
          exact k5 i q es hiq hr
        · rw [row_set_ne hqr] at h6
          exact k5 i q es2 hiq h6
    · by_cases hqr : q = r
      · subst hqr
        have := hself es2 h6
        subst this
        rw [hrl]
        refine ⟨c', heap_setRow_same w b c0 c' T.rel h1, hc', by show es2.length ≤ cap; rw [hlen]; exact h3, h4, hek, fun i j e d hi hj => ?_⟩
        obtain ⟨u, g1, g2, g3⟩ := hc i j e d hi hj
        exact ⟨u, g1, g2, g3.le hC⟩
      · rw [row_set_ne hqr] at h6
        exact (hT.row q es2 h6).le hC (fun x hx => hother x (fun e => hqr (hT.sep q r b (e ▸ hx) (by rw [hrl]; rfl))))
    · by_cases hqr : q = r
      · subst hqr
        rw [row_set_self hrlt] at h6
        cases h6
      · rw [row_set_ne hqr] at h6
        exact hT.gone q h6

/-- a row is put to another place -/
theorem Tr.setOut (h : MC E hg loc kn w) {id : Nat} {T : Tab} (hi : hg id = some (.tab T)) {b cap : Nat} {rl : Nat → Lc} (hl : loc id = .tb (.pl b cap) rl) (hfz : T.fz = false) {r i : Nat} {es : List (List D)} (hr : T.row r = some es) (hil : i < T.out.length)
    {c : Array Value} (hcb : w.heap[b]? = some (.cells c T.el (0, 0))) :
    Tr E hg loc kn w (upd [(id, .tab { T with out := T.out.set i r })] hg) (locAdd loc id (.tb (.pl b cap) rl)) (knAdd kn id) (w.setRow b (c.setIfInBounds i ((rl r).val es.length))) := by
  obtain ⟨lo', rl', hl', hT⟩ := h.tab hi
  rw [hl] at hl'
  cases hl'
  obtain ⟨c0, k1, k2, k3, k4, k5⟩ := hT.out
  rw [show w.heap[b]? = _ from k1] at hcb
  cases hcb
  have hbo : (Lc.tb (.pl b cap) rl).has b := .inl rfl
  have hother : ∀ x, x ≠ b → (w.setRow b (c.setIfInBounds i ((rl r).val es.length))).heap[x]? = w.heap[x]? := fun x hx => setRow_other w b x _ hx
  refine Tr.one h id _ (.tb (.pl b cap) rl) _ (by rw [setRow_size]; exact Nat.le_refl _) rfl rfl rfl (fun x hx => .inl ⟨by simp [hi], by rw [hl]; exact hx⟩)
    (fun x hx hno => hother x (fun e => hno ⟨by simp [hi], by rw [hl, e]; exact hbo⟩)) (fun x o v _ hx _ hno => absurd ⟨id, _, hi, hx, hfz⟩ hno) (fun x hx _ => by cases hx) (fun a' ha _ => by cases ha) (fun T' hT' _ => ?_) (fun hC hR => ?_)
  · cases hT'
    refine ⟨T, hi, Nat.le_refl _, rfl, fun _ => by simp, Nat.le_refl _, fun q es2 hq h2 => ⟨es2, h2, rfl⟩, fun lo2 rl2 h2 => ?_⟩
    cases h2
    exact ⟨_, _, hl, fun _ => rfl, fun _ _ _ _ => rfl⟩
  · refine ⟨hT.pos, ?_, fun q es2 h6 => (hT.row q es2 h6).le hC (fun x hx => hother x (fun e => hT.off q x (by rw [e]; rfl) hx)), hT.gone, hT.sep, hT.off, fun j q hq => by
      by_cases hji : j = i
      · subst hji
        rw [List.getElem?_set_self hil] at hq
        cases hq
        exact row_lt hr
      · rw [List.getElem?_set_ne (Ne.symm hji)] at hq
        exact hT.idx j q hq⟩
    refine ⟨_, heap_setRow_same w b c _ T.el k1, by simp [k2], by simpa using k3, k4, fun j q es2 hq h2 => ?_⟩
    by_cases hji : j = i
    · subst hji
      rw [List.getElem?_set_self hil] at hq
      cases hq
      have h2 : T.row r = some es2 := h2
      rw [hr] at h2
      cases h2
      rw [Array.getElem?_setIfInBounds_self_of_lt (by omega)]
    · rw [List.getElem?_set_ne (Ne.symm hji)] at hq
      rw [Array.getElem?_setIfInBounds_ne (Ne.symm hji)]
      exact k5 j q es2 hq h2

/-- an own array becomes a row -/
theorem Tr.adoptRow (h : MC E hg loc kn w) {id id1 : Nat} {T : Tab} (hi : hg id = some (.tab T)) {lo : Lc} {rl : Nat → Lc} (hl : loc id = .tb lo rl) (hfz : T.fz = false) {a : Arr} (h1 : hg id1 = some (.arr a)) (hne : ¬ id1 = id) (haf : a.fz = false) (hae : a.el = T.rel) (hak : a.k = T.k)
    (out' : List Nat) (ver' : Nat) (lo' : Lc) (w' : World) (hsz : w.heap.size ≤ w'.heap.size) (hos : w'.os = w.os) (htape : w'.tape = w.tape) (hou : w'.output = w.output)
    (hblk : ∀ b, b < w.heap.size → ¬ lo.has b → w'.heap[b]? = w.heap[b]?) (hlo : ∀ b, lo'.has b → lo.has b ∨ (w.heap.size ≤ b ∧ b < w'.heap.size)) (hv : T.ver ≤ ver') (hsame : ver' = T.ver → T.out.length = out'.length ∧ lo = lo') (hidx : ∀ (i r : Nat), out'[i]? = some r → r < T.rows.length + 1)
    (hout : OutAt ⟨w', fun _ _ => False, fun _ _ => False, none⟩ { T with ver := ver', out := out', rows := T.rows ++ [some a.es] } (fun r => if r = T.rows.length then loc id1 else rl r) lo') :
    Tr E hg loc kn w (upd [(id, .tab { T with ver := ver', out := out', rows := T.rows ++ [some a.es] }), (id1, .dead)] hg)
      (fun x => if x = id then .tb lo' (fun r => if r = T.rows.length then loc id1 else rl r) else if x = id1 then .no else loc x) (fun x => kn x ∨ (x = id ∨ x = id1)) w' := by
  obtain ⟨lo2, rl2, hl2, hT⟩ := h.tab hi
  rw [hl] at hl2
  cases hl2
  obtain ⟨hk0, hA⟩ := h.arr h1
  have gid : upd [(id, .tab { T with ver := ver', out := out', rows := T.rows ++ [some a.es] }), (id1, .dead)] hg id = some (.tab { T with ver := ver', out := out', rows := T.rows ++ [some a.es] }) := by simp [upd]
  have gid1 : upd [(id, .tab { T with ver := ver', out := out', rows := T.rows ++ [some a.es] }), (id1, .dead)] hg id1 = some .dead := by simp [upd, Ne.symm hne]
  have goth : ∀ x, ¬ (x = id ∨ x = id1) → upd [(id, .tab { T with ver := ver', out := out', rows := T.rows ++ [some a.es] }), (id1, .dead)] hg x = hg x := fun x hx => by
    have e1 : ¬ id = x := fun e => hx (.inl e.symm)
    have e2 : ¬ id1 = x := fun e => hx (.inr e.symm)
    simp [upd, e1, e2]
  have hrn : rl T.rows.length = .no := hT.gone _ (by simp [Tab.row])
  -- rows of the new table
  have hrow : ∀ q es, ({ T with ver := ver', out := out', rows := T.rows ++ [some a.es] } : Tab).row q = some es → (q = T.rows.length ∧ es = a.es) ∨ (q < T.rows.length ∧ T.row q = some es) := fun q es hq => by
    unfold Tab.row at hq
    by_cases hlt : q < T.rows.length
    · rw [List.getElem?_append_left hlt] at hq
      exact .inr ⟨hlt, hq⟩
    · rw [List.getElem?_append_right (by omega)] at hq
      cases hz : q - T.rows.length with
      | zero => rw [hz] at hq; exact .inl ⟨by omega, (Option.some.inj hq).symm⟩
      | succ z => rw [hz] at hq; cases hq
  have hhas : ∀ b, (Lc.tb lo' (fun r => if r = T.rows.length then loc id1 else rl r)).has b → lo'.has b ∨ (loc id1).has b ∨ ∃ r, r ≠ T.rows.length ∧ (rl r).has b := fun b hb => by
    rcases hb with hb | ⟨r, hb⟩
    · exact .inl hb
    · dsimp only at hb
      by_cases hr : r = T.rows.length
      · rw [if_pos hr] at hb; exact .inr (.inl hb)
      · rw [if_neg hr] at hb; exact .inr (.inr ⟨r, hr, hb⟩)
  refine Tr.many h (fun x => x = id ∨ x = id1) _ _ w' hsz hos htape hou (fun x hx => ⟨goth x hx, by rw [if_neg (fun e => hx (.inl e)), if_neg (fun e => hx (.inr e))]⟩) (fun x b hx hgx hb => ?_) (fun b hb hno => hblk b hb (fun hlo => hno ⟨id, .inl rfl, by simp [hi], by rw [hl]; exact .inl hlo⟩)) (fun y b o v hy hgy hb _ hno => ?_) (fun x y b hx hy hgx hgy hbx hby => ?_) ?_ (fun hC x ob hx hgx => ?_)
  · rcases hx with rfl | rfl
    · rw [if_pos rfl] at hb
      rcases hhas b hb with h2 | h2 | ⟨r, _, h2⟩
      · rcases hlo b h2 with h3 | h3
        · exact .inl ⟨x, .inl rfl, by simp [hi], by rw [hl]; exact .inl h3⟩
        · exact .inr h3
      · exact .inl ⟨id1, .inr rfl, by simp [h1], h2⟩
      · exact .inl ⟨x, .inl rfl, by simp [hi], by rw [hl]; exact .inr ⟨r, h2⟩⟩
    · rw [if_neg hne, if_pos rfl] at hb
      exact hb.elim
  · rcases hy with rfl | rfl
    · exact absurd ⟨y, _, hi, hb, hfz⟩ hno
    · exact absurd ⟨y, _, h1, hb, fun e => by rw [haf] at e; cases e⟩ hno
  · rcases hx with rfl | rfl <;> rcases hy with rfl | rfl
    · rfl
    · rw [if_neg hne, if_pos rfl] at hby; exact hby.elim
    · rw [if_neg hne, if_pos rfl] at hbx; exact hbx.elim
    · rfl
  · refine ⟨fun x cs hk hx => ?_, fun x ar hk hx => ?_, fun x T' hk hx => ?_⟩
    · by_cases e : x = id ∨ x = id1
      · rcases e with rfl | rfl
        · rw [gid] at hx; cases hx
        · rw [gid1] at hx; cases hx
      · rw [goth x e] at hx
        exact ⟨⟨_, hx⟩, by rw [if_neg (fun e' => e (.inl e')), if_neg (fun e' => e (.inr e'))]⟩
    · by_cases e : x = id ∨ x = id1
      · rcases e with rfl | rfl
        · rw [gid] at hx; cases hx
        · rw [gid1] at hx; cases hx
      · rw [goth x e] at hx
        exact ⟨ar, hx, fun _ => ⟨rfl, rfl, by rw [if_neg (fun e' => e (.inl e')), if_neg (fun e' => e (.inr e'))]⟩, Nat.le_refl _⟩
    · by_cases e : x = id ∨ x = id1
      · rcases e with rfl | rfl
        · rw [gid] at hx
          cases hx
          refine ⟨T, hi, hv, rfl, fun e => (hsame e).1, by simp, fun q es hq h2 => ?_, fun lo3 rl3 h3 => ?_⟩
          · rcases hrow q es h2 with ⟨h3, _⟩ | ⟨_, h3⟩
            · omega
            · exact ⟨es, h3, rfl⟩
          · rw [if_pos rfl] at h3
            cases h3
            exact ⟨lo, rl, hl, fun e => (hsame e).2, fun q es hq _ => by dsimp only; rw [if_neg (by omega)]⟩
        · rw [gid1] at hx; cases hx
      · rw [goth x e] at hx
        refine ⟨T', hx, ?_⟩
        rw [if_neg (fun e' => e (.inl e')), if_neg (fun e' => e (.inr e'))]
        exact .refl _ _
  · rcases hx with rfl | rfl
    · rw [gid] at hgx
      cases hgx
      rw [if_pos rfl]
      have hoff : ∀ b, lo'.has b → ¬ ((loc id1).has b ∨ ∃ r, (rl r).has b) := fun b hb hh => by
        rcases hlo b hb with h3 | ⟨h3, h4⟩
        · rcases hh with h5 | ⟨r, h5⟩
          · exact hne (h.sep id1 x b (by simp [h1]) (by simp [hi]) h5 (by rw [hl]; exact .inl h3))
          · exact hT.off r b h3 h5
        · rcases hh with h5 | ⟨r, h5⟩
          · have := (h.fresh id1 b (by simp [h1]) h5).2
            omega
          · have := (h.fresh x b (by simp [hi]) (by rw [hl]; exact .inr ⟨r, h5⟩)).2
            omega
      refine ⟨hT.pos, ?_, fun q es hq => ?_, fun q hq => ?_, fun q q' b hb hb' => ?_, fun q b hb hb' => ?_, fun i q hq => by rw [List.length_append]; exact hidx i q hq⟩
      · cases lo' with
        | no => exact hout
        | tb _ _ => exact hout.elim
        | pl b cap => exact hout
      · skip
        rcases hrow q es hq with ⟨rfl, rfl⟩ | ⟨h2, h3⟩
        · rw [if_pos rfl]
          have : ArrAt (cxOf E hg loc w) ⟨T.rel, T.k, 0, false, a.es⟩ (loc id1) := by
            cases hl1 : loc id1 with
            | no => rw [hl1] at hA; exact hA
            | tb _ _ => rw [hl1] at hA; exact hA
            | pl b cap =>
              rw [hl1] at hA
              obtain ⟨c, g1, g2, g3, g4, g5, g6⟩ := hA
              rw [hae] at g1
              rw [hak] at g2 g5 g6
              exact ⟨c, g1, g2, g3, g4, g5, g6⟩
          exact this.le hC (fun b hb => hblk b (h.fresh id1 b (by simp [h1]) hb).2 (fun h3 => hne (h.sep id1 x b (by simp [h1]) (by simp [hi]) hb (by rw [hl]; exact .inl h3))))
        · rw [if_neg (by omega)]
          exact (hT.row q es h3).le hC (fun b hb => hblk b (h.fresh x b (by simp [hi]) (by rw [hl]; exact .inr ⟨q, hb⟩)).2 (fun h4 => hT.off q b h4 hb))
      · skip
        by_cases hqn : q = T.rows.length
        · subst hqn
          simp [Tab.row] at hq
        · rw [if_neg hqn]
          refine hT.gone q ?_
          unfold Tab.row at hq ⊢
          by_cases hlt : q < T.rows.length
          · rw [List.getElem?_append_left hlt] at hq; exact hq
          · rw [List.getElem?_eq_none (by omega)]; rfl
      · skip
        by_cases hq : q = T.rows.length <;> by_cases hq' : q' = T.rows.length
        · rw [hq, hq']
        · rw [if_pos hq] at hb
          rw [if_neg hq'] at hb'
          exact absurd (h.sep id1 x b (by simp [h1]) (by simp [hi]) hb (by rw [hl]; exact .inr ⟨q', hb'⟩)) hne
        · rw [if_neg hq] at hb
          rw [if_pos hq'] at hb'
          exact absurd (h.sep id1 x b (by simp [h1]) (by simp [hi]) hb' (by rw [hl]; exact .inr ⟨q, hb⟩)) hne
        · rw [if_neg hq] at hb
          rw [if_neg hq'] at hb'
          exact hT.sep q q' b hb hb'
      · skip
        by_cases hq : q = T.rows.length
        · rw [if_pos hq] at hb'
          exact hoff b hb (.inl hb')
        · rw [if_neg hq] at hb'
          exact hoff b hb (.inr ⟨q, hb'⟩)
    · rw [gid1] at hgx
      cases hgx
      rw [if_neg hne, if_pos rfl]
      rfl

/-- a row becomes an own array -/
theorem Tr.release (h : MC E hg loc kn w) {id nid : Nat} {T : Tab} (hi : hg id = some (.tab T)) {lo : Lc} {rl : Nat → Lc} (hl : loc id = .tb lo rl) (hfz : T.fz = false) (hn : ¬ kn nid) {r : Nat} {es : List (List D)} (hr : T.row r = some es) :
    Tr E hg loc kn w (upd [(nid, .arr (T.arr es)), (id, .tab { T with rows := T.rows.set r none })] hg) (fun x => if x = nid then rl r else if x = id then .tb lo (fun q => if q = r then .no else rl q) else loc x) (fun x => kn x ∨ (x = nid ∨ x = id)) w := by
  obtain ⟨lo2, rl2, hl2, hT⟩ := h.tab hi
  rw [hl] at hl2
  cases hl2
  have hki : kn id := (h.objs id _ hi).1
  have hne : ¬ id = nid := fun e => hn (e ▸ hki)
  have hnn : hg nid = none := by
    cases e : hg nid with
    | none => rfl
    | some x => exact absurd (h.objs nid x e).1 hn
  have hrlt := row_lt hr
  have gn : upd [(nid, .arr (T.arr es)), (id, .tab { T with rows := T.rows.set r none })] hg nid = some (.arr (T.arr es)) := by simp [upd]
  have gid : upd [(nid, .arr (T.arr es)), (id, .tab { T with rows := T.rows.set r none })] hg id = some (.tab { T with rows := T.rows.set r none }) := by simp [upd, Ne.symm hne]
  have goth : ∀ x, ¬ (x = nid ∨ x = id) → upd [(nid, .arr (T.arr es)), (id, .tab { T with rows := T.rows.set r none })] hg x = hg x := fun x hx => by
    have e1 : ¬ nid = x := fun e => hx (.inl e.symm)
    have e2 : ¬ id = x := fun e => hx (.inr e.symm)
    simp [upd, e1, e2]
  have hrow : ∀ q xs, ({ T with rows := T.rows.set r none } : Tab).row q = some xs → q ≠ r ∧ T.row q = some xs := fun q xs hq => by
    by_cases hqr : q = r
    · subst hqr
      rw [row_set_self hrlt] at hq
      cases hq
    · rw [row_set_ne hqr] at hq
      exact ⟨hqr, hq⟩
  have hall : ∀ b, (rl r).has b → (Lc.tb lo rl).has b := fun b hb => .inr ⟨r, hb⟩
  have hpart : ∀ b, (Lc.tb lo (fun q => if q = r then Lc.no else rl q)).has b → (Lc.tb lo rl).has b ∧ ¬ (rl r).has b := fun b hb => by
    rcases hb with hb | ⟨q, hb⟩
    · exact ⟨.inl hb, hT.off r b hb⟩
    · dsimp only at hb
      by_cases hq : q = r
      · rw [if_pos hq] at hb; exact hb.elim
      · rw [if_neg hq] at hb
        exact ⟨.inr ⟨q, hb⟩, fun h2 => hq (hT.sep q r b hb h2)⟩
  refine Tr.many h (fun x => x = nid ∨ x = id) _ _ w (Nat.le_refl _) rfl rfl rfl (fun x hx => ⟨goth x hx, by rw [if_neg (fun e => hx (.inl e)), if_neg (fun e => hx (.inr e))]⟩) (fun x b hx hgx hb => ?_) (fun b hb hno => rfl) (fun y b o v hy hgy hb _ hno => ?_) (fun x y b hx hy hgx hgy hbx hby => ?_) ?_ (fun hC x ob hx hgx => ?_)
  · left
    refine ⟨id, .inr rfl, by simp [hi], ?_⟩
    rw [hl]
    rcases hx with rfl | rfl
    · rw [if_pos rfl] at hb; exact hall b hb
    · rw [if_neg hne, if_pos rfl] at hb; exact (hpart b hb).1
  · rcases hy with rfl | rfl
    · exact absurd hnn hgy
    · exact absurd ⟨y, _, hi, hb, hfz⟩ hno
  · rcases hx with rfl | rfl <;> rcases hy with rfl | rfl
    · rfl
    · rw [if_pos rfl] at hbx
      rw [if_neg hne, if_pos rfl] at hby
      exact absurd hbx (hpart b hby).2
    · rw [if_pos rfl] at hby
      rw [if_neg hne, if_pos rfl] at hbx
      exact absurd hby (hpart b hbx).2
    · rfl
  · refine ⟨fun x cs hk hx => ?_, fun x ar hk hx => ?_, fun x T' hk hx => ?_⟩
    · by_cases e : x = nid ∨ x = id
      · rcases e with rfl | rfl
        · exact absurd hk hn
        · rw [gid] at hx; cases hx
      · rw [goth x e] at hx
        exact ⟨⟨_, hx⟩, by rw [if_neg (fun e' => e (.inl e')), if_neg (fun e' => e (.inr e'))]⟩
    · by_cases e : x = nid ∨ x = id
      · rcases e with rfl | rfl
        · exact absurd hk hn
        · rw [gid] at hx; cases hx
      · rw [goth x e] at hx
        exact ⟨ar, hx, fun _ => ⟨rfl, rfl, by rw [if_neg (fun e' => e (.inl e')), if_neg (fun e' => e (.inr e'))]⟩, Nat.le_refl _⟩
    · by_cases e : x = nid ∨ x = id
      · rcases e with rfl | rfl
        · exact absurd hk hn
        · rw [gid] at hx
          cases hx
          refine ⟨T, hi, Nat.le_refl _, rfl, fun _ => rfl, by simp, fun q xs hq h2 => ⟨xs, (hrow q xs h2).2, rfl⟩, fun lo3 rl3 h3 => ?_⟩
          rw [if_neg hne, if_pos rfl] at h3
          cases h3
          exact ⟨lo, rl, hl, fun _ => rfl, fun q xs hq h2 => by dsimp only; rw [if_neg (hrow q xs h2).1]⟩
      · rw [goth x e] at hx
        refine ⟨T', hx, ?_⟩
        rw [if_neg (fun e' => e (.inl e')), if_neg (fun e' => e (.inr e'))]
        exact .refl _ _
  · rcases hx with rfl | rfl
    · rw [gn] at hgx
      cases hgx
      rw [if_pos rfl]
      exact ⟨hT.pos, (hT.row r es hr).le hC (fun _ _ => rfl)⟩
    · rw [gid] at hgx
      cases hgx
      rw [if_neg hne, if_pos rfl]
      refine ⟨hT.pos, ?_, fun q xs hq => ?_, fun q hq => ?_, fun q q' b hb hb' => ?_, fun q b hb hb' => ?_, fun i q hq => by rw [List.length_set]; exact hT.idx i q hq⟩
      · have hout := hT.out
        cases lo with
        | no => exact hout
        | tb _ _ => exact hout.elim
        | pl b cap =>
          obtain ⟨c, k1, k2, k3, k4, k5⟩ := hout
          refine ⟨c, k1, k2, k3, k4, fun i q xs hiq hq => ?_⟩
          obtain ⟨h2, h3⟩ := hrow q xs hq
          dsimp only
          rw [if_neg h2]
          exact k5 i q xs hiq h3
      · obtain ⟨h2, h3⟩ := hrow q xs hq
        skip
        rw [if_neg h2]
        exact (hT.row q xs h3).le hC (fun _ _ => rfl)
      · skip
        by_cases hqr : q = r
        · rw [if_pos hqr]
        · rw [if_neg hqr]
          rw [row_set_ne hqr] at hq
          exact hT.gone q hq
      · skip
        by_cases hq : q = r
        · rw [if_pos hq] at hb; exact hb.elim
        · by_cases hq' : q' = r
          · rw [if_pos hq'] at hb'; exact hb'.elim
          · rw [if_neg hq] at hb
            rw [if_neg hq'] at hb'
            exact hT.sep q q' b hb hb'
      · skip
        by_cases hq : q = r
        · rw [if_pos hq] at hb'; exact hb'.elim
        · rw [if_neg hq] at hb'
          exact hT.off q b hb hb'

/-- a table without rows -/
theorem Tr.newTab (h : MC E hg loc kn w) {id : Nat} (hid : ¬ kn id) (T : Tab) (hk : 0 < T.k) (ho : T.out = []) (hr : T.rows = []) :
    Tr E hg loc kn w (upd [(id, .tab T)] hg) (locAdd loc id (.tb .no fun _ => .no)) (knAdd kn id) w := by
  have hn : hg id = none := by
    cases e : hg id with
    | none => rfl
    | some x => exact absurd (h.objs id x e).1 hid
  have hno : ∀ b, ¬ (Lc.tb .no fun _ => .no).has b := fun b hb => by
    rcases hb with hb | ⟨_, hb⟩ <;> exact hb
  refine Tr.one h id _ (.tb .no fun _ => .no) w (Nat.le_refl _) rfl rfl rfl (fun b hb => absurd hb (hno b)) (fun b _ _ => rfl) (fun b o' v h1 => absurd hn h1) (fun cs _ hk => absurd hk hid) (fun a' _ hk => absurd hk hid) (fun T' _ hk => absurd hk hid) (fun _ _ => ?_)
  exact ⟨hk, ho, fun r es he => by simp [Tab.row, hr] at he, fun _ _ => rfl, fun _ _ _ hb => hb.elim, fun _ _ hb => hb.elim, fun i q hq => by rw [ho] at hq; cases hq⟩
end
end Go.Pm
/-
  The pure machine: objects under other names.
-/
set_option linter.unusedSimpArgs false
set_option linter.unusedVariables false
namespace Go.Pm
open Go.RowKit

mutual
def ren (γ : Nat → Nat) : PV → PV
  | .sr id v => .sr (γ id) v
  | .pr id v i o => .pr (γ id) v i o
  | .st id v => .st (γ id) v
  | .tv id v o n => .tv (γ id) v o n
  | .po id v i => .po (γ id) v i
  | .sw id r => .sw (γ id) r
  | .pw id r i o => .pw (γ id) r i o
  | .lt cs => .lt (rens γ cs)
  | .lp cs => .lp (rens γ cs)
  | .agg cs => .agg (rens γ cs)
  | .tup cs => .tup (rens γ cs)
  | .fn f cs => .fn f (rens γ cs)
  | .any => .any
  | .d x => .d x
  | .nl => .nl
  | .yd => .yd
  | .bw cs => .bw cs
def rens (γ : Nat → Nat) : List PV → List PV
  | [] => []
  | p :: l => ren γ p :: rens γ l
end
mutual
def refsIn (S : Nat → Prop) (B : Prop) : PV → Prop
  | .sr id _ => S id
  | .pr id _ _ _ => S id
  | .st id _ => S id
  | .tv id _ _ _ => S id
  | .po id _ _ => S id
  | .sw id _ => S id
  | .pw id _ _ _ => S id
  | .lt cs => refsIns S B cs
  | .lp cs => refsIns S B cs
  | .agg cs => refsIns S B cs
  | .tup cs => refsIns S B cs
  | .fn _ cs => refsIns S B cs
  | .any => True
  | .d _ => True
  | .nl => True
  | .yd => False
  | .bw _ => B
def refsIns (S : Nat → Prop) (B : Prop) : List PV → Prop
  | [] => True
  | p :: l => refsIn S B p ∧ refsIns S B l
end
theorem rens_map (γ : Nat → Nat) (l : List PV) : rens γ l = l.map (ren γ) := by
  induction l with
  | nil => rfl
  | cons p l ih => simp only [rens, List.map_cons, ih]
theorem refsIns_get {S : Nat → Prop} {B : Prop} : ∀ {l : List PV}, refsIns S B l → ∀ (j : Nat) (p : PV), l[j]? = some p → refsIn S B p
  | [], _, j, p, h => by cases h
  | q :: l, h, j, p, hj => by
    cases j with
    | zero => cases hj; exact h.1
    | succ j => exact refsIns_get h.2 j p hj
def renOb (γ : Nat → Nat) : Ob → Ob
  | .box cs => .box (rens γ cs)
  | o => o
/-- the same object, but for names -/
def Ob.sim : Ob → Ob → Prop
  | .box _, .box _ => True
  | .arr a, .arr b => a = b
  | .tab a, .tab b => a = b
  | .dead, .dead => True
  | _, _ => False
theorem sim_ren (γ : Nat → Nat) (o : Ob) : o.sim (renOb γ o) := by
  cases o <;> first | trivial | rfl

theorem PRep.ren {C C' : Cx} {hg hg' : Nat → Option Ob} {loc loc' : Locs} {kn kn' : Nat → Prop} {γ : Nat → Nat} {S : Nat → Prop} {B : Prop} (hC : C.leD C') (hB : B → C.le C') (hk : ∀ id, kn id → S id → kn' (γ id)) (hob : ∀ id, kn id → S id → ∀ ob', hg' (γ id) = some ob' → ∃ ob, hg id = some ob ∧ ob.sim ob' ∧ loc' (γ id) = loc id)
    {p : PV} {v : Value} (h : PRep C hg loc kn p v) (hs : refsIn S B p) : PRep C' hg' loc' kn' (Pm.ren γ p) v := by
  have arr : ∀ id, kn id → S id → ∀ a, hg' (γ id) = some (.arr a) → hg id = some (.arr a) ∧ loc' (γ id) = loc id := fun id h1 h2 a h3 => by
    obtain ⟨ob, g1, g2, g3⟩ := hob id h1 h2 _ h3
    cases ob <;> first | exact g2.elim | (cases g2; exact ⟨g1, g3⟩)
  have tab : ∀ id, kn id → S id → ∀ a, hg' (γ id) = some (.tab a) → hg id = some (.tab a) ∧ loc' (γ id) = loc id := fun id h1 h2 a h3 => by
    obtain ⟨ob, g1, g2, g3⟩ := hob id h1 h2 _ h3
    cases ob <;> first | exact g2.elim | (cases g2; exact ⟨g1, g3⟩)
  have box : ∀ id, kn id → S id → ∀ a, hg' (γ id) = some (.box a) → (∃ b, hg id = some (.box b)) ∧ loc' (γ id) = loc id := fun id h1 h2 a h3 => by
    obtain ⟨ob, g1, g2, g3⟩ := hob id h1 h2 _ h3
    cases ob <;> first | exact g2.elim | exact ⟨⟨_, g1⟩, g3⟩
  induction h with
  | any v => exact .any v
  | d h => exact .d (h.leD hC)
  | nl => exact .nl
  | yd h => exact hs.elim
  | bw f hcell hrep =>
    have hb := hB hs
    refine .bw f (fun j p h1 => ?_) (fun j p h1 => (hrep j p h1).le hb)
    obtain ⟨a1, a2, a3⟩ := hcell j p h1
    exact ⟨hb.cell _ _ _ a1 a3, a2, hb.ow _ _ _ a1 a3⟩
  | sr hk1 ho hv h =>
    have hs : S _ := hs
    refine .sr (hk _ hk1 hs) ho (fun a ha => hv a (arr _ hk1 hs a ha).1) (fun a ha hver => ?_)
    obtain ⟨g1, g2⟩ := arr _ hk1 hs a ha
    rw [g2]
    exact h a g1 hver
  | pr hk1 ho hv hb ha =>
    have hs : S _ := hs
    refine .pr (hk _ hk1 hs) ho (fun a ha => hv a (arr _ hk1 hs a ha).1) (fun cs hcs b cap hl => ?_) (fun a har hver b cap hl => ?_)
    · obtain ⟨⟨cs', g1⟩, g2⟩ := box _ hk1 hs cs hcs
      exact hb cs' g1 b cap (by rw [← g2]; exact hl)
    · obtain ⟨g1, g2⟩ := arr _ hk1 hs a har
      exact ha a g1 hver b cap (by rw [← g2]; exact hl)
  | @lt cs b c f hc hm hcell _ ih =>
    have hs : refsIns S B cs := hs
    have e : cs.length = (rens γ cs).length := by rw [rens_map, List.length_map]
    show PRep C' hg' loc' kn' (.lt (rens γ cs)) _
    rw [e]
    have get : ∀ (j : Nat) (p : PV), (rens γ cs)[j]? = some p → ∃ q, cs[j]? = some q ∧ p = Pm.ren γ q := fun j p hj => by
      rw [rens_map, List.getElem?_map] at hj
      obtain ⟨q, h1, h2⟩ := Option.map_eq_some_iff.1 hj
      exact ⟨q, h1, h2.symm⟩
    refine .lt f (by rw [← e]; exact hc) hm (fun j p hj => ?_) (fun j p hj => ?_)
    · obtain ⟨q, h1, rfl⟩ := get j p hj
      obtain ⟨a1, a2, a3, a4⟩ := hcell j q h1
      obtain ⟨b1, b2, b3⟩ := hC _ _ _ a1 a3 a4
      exact ⟨b1, a2, b2, b3⟩
    · obtain ⟨q, h1, rfl⟩ := get j p hj
      exact ih j q h1 (refsIns_get hs j q h1)
  | @lp cs b c f hcell _ ih =>
    have hs : refsIns S B cs := hs
    have get : ∀ (j : Nat) (p : PV), (rens γ cs)[j]? = some p → ∃ q, cs[j]? = some q ∧ p = Pm.ren γ q := fun j p hj => by
      rw [rens_map, List.getElem?_map] at hj
      obtain ⟨q, h1, h2⟩ := Option.map_eq_some_iff.1 hj
      exact ⟨q, h1, h2.symm⟩
    refine .lp f (fun j p hj => ?_) (fun j p hj => ?_)
    · obtain ⟨q, h1, rfl⟩ := get j p hj
      obtain ⟨a1, a2, a3, a4⟩ := hcell j q h1
      obtain ⟨b1, b2, b3⟩ := hC _ _ _ a1 a3 a4
      exact ⟨b1, a2, b2, b3⟩
    · obtain ⟨q, h1, rfl⟩ := get j p hj
      exact ih j q h1 (refsIns_get hs j q h1)
  | st hk1 ho hv h =>
    have hs : S _ := hs
    refine .st (hk _ hk1 hs) ho (fun a ha => hv a (tab _ hk1 hs a ha).1) (fun a ha hver lo rl hl => ?_)
    obtain ⟨g1, g2⟩ := tab _ hk1 hs a ha
    exact h a g1 hver lo rl (by rw [← g2]; exact hl)
  | tv hk1 ho hv h =>
    have hs : S _ := hs
    refine .tv (hk _ hk1 hs) ho (fun a ha => hv a (tab _ hk1 hs a ha).1) (fun a ha hver lo rl hl => ?_)
    obtain ⟨g1, g2⟩ := tab _ hk1 hs a ha
    exact h a g1 hver lo rl (by rw [← g2]; exact hl)
  | po hk1 ho hv h =>
    have hs : S _ := hs
    refine .po (hk _ hk1 hs) ho (fun a ha => hv a (tab _ hk1 hs a ha).1) (fun a ha hver b cap rl hl => ?_)
    obtain ⟨g1, g2⟩ := tab _ hk1 hs a ha
    exact h a g1 hver b cap rl (by rw [← g2]; exact hl)
  | sw hk1 ho hv h =>
    have hs : S _ := hs
    refine .sw (hk _ hk1 hs) ho (fun a ha => hv a (tab _ hk1 hs a ha).1) (fun a es ha he lo rl hl => ?_)
    obtain ⟨g1, g2⟩ := tab _ hk1 hs a ha
    exact h a es g1 he lo rl (by rw [← g2]; exact hl)
  | pw hk1 ho hv h =>
    have hs : S _ := hs
    refine .pw (hk _ hk1 hs) ho (fun a ha => hv a (tab _ hk1 hs a ha).1) (fun a es ha he lo rl b cap hl hr => ?_)
    obtain ⟨g1, g2⟩ := tab _ hk1 hs a ha
    exact h a es g1 he lo rl b cap (by rw [← g2]; exact hl) hr
  | @agg cs vs hl _ ih =>
    have hs : refsIns S B cs := hs
    refine .agg (by rw [rens_map, List.length_map]; exact hl) (fun j p v hj hv => ?_)
    rw [rens_map, List.getElem?_map] at hj
    obtain ⟨q, h1, rfl⟩ := Option.map_eq_some_iff.1 hj
    exact ih j q v h1 hv (refsIns_get hs j q h1)
  | @tup cs vs hl _ ih =>
    have hs : refsIns S B cs := hs
    refine .tup (by rw [rens_map, List.length_map]; exact hl) (fun j p v hj hv => ?_)
    rw [rens_map, List.getElem?_map] at hj
    obtain ⟨q, h1, rfl⟩ := Option.map_eq_some_iff.1 hj
    exact ih j q v h1 hv (refsIns_get hs j q h1)
  | @fn f caps vs hl _ ih =>
    have hs : refsIns S B caps := hs
    refine .fn (by rw [rens_map, List.length_map]; exact hl) (fun j p v hj hv => ?_)
    rw [rens_map, List.getElem?_map] at hj
    obtain ⟨q, h1, rfl⟩ := Option.map_eq_some_iff.1 hj
    exact ih j q v h1 hv (refsIns_get hs j q h1)
end Go.Pm
/-
  The pure machine, part 4: what an operation does to an abstract state, as a condition (vcOp).
-/
set_option linter.unusedSimpArgs false
set_option linter.unusedVariables false
namespace Go.Pm
open Go.RowKit

/-- what is used of a type -/
structure Ty where
  size : Nat
  bytes : Nat
  agg : Bool
  zero : List Value
  elem : TypeId
  flds : List (Nat × Nat)
  arr : Bool
  slc : Bool

def fldsOf (P : Program) : TypeDesc → Option (List (Nat × Nat))
  | .struct fs => fs.toList.mapM fun f => (P.info? f.type).map fun i => (f.offset, i.size)
  | _ => some []
def TY (P : Program) (t : TypeId) : Option Ty :=
  match P.info? t, P.underlying t with
  | some i, some d => match i.zero, fldsOf P d with
    | some z, some fl => some ⟨i.size, i.bytes, (match d with | .struct _ | .array _ _ => true | _ => false), z.cells.toList, (match d with | .slice e => e | .array _ e => e | _ => 0), fl, (match d with | .array _ _ => true | _ => false), (match d with | .slice _ => true | _ => false)⟩
    | _, _ => none
  | _, _ => none

/-- where the parts of a struct or an array lie -/
def plcs (P : Program) (T : Ty) : Option (List (Nat × Nat)) := if T.arr then (TY P T.elem).map fun E => (List.range T.zero.length).map fun j => (j * E.size, E.size) else some T.flds
/-- a field of a struct: where it lies, and its type -/
def fldOf (P : Program) (t : TypeId) (f : Nat) : Option (Nat × Ty) :=
  match P.underlying t with
  | some (.struct fs) => match fs[f]? with
    | some x => (TY P x.type).map fun T => (x.offset, T)
    | none => none
  | _ => none
/-- an array's length and the type of its elements -/
def arrOf (P : Program) (t : TypeId) : Option (Nat × Ty) :=
  match P.underlying t with
  | some (.array n e) => (TY P e).map fun T => (n, T)
  | _ => none
def litT (E : Ty) : Bool := E.slc || match E.zero with
  | [.nilFunc] => true
  | _ => false
def zPV : Value → PV
  | .slice none 0 0 => .nl
  | v => .d (.v v)
def zD : Value → D
  | .slice none 0 0 => .sl []
  | v => .v v
def ev (t : Slots) : Operand → PV
  | .tmp u => get t u
  | .const v => zPV v
  | .global _ => .any
  | .func f => .fn f []
def cellsP : PV → List PV
  | .agg cs => cs
  | .d (.agg cs) => cs.map .d
  | p => [p]
def D.one : D → Prop
  | .v (.agg _) => False
  | .v (.tuple _) => False
  | .agg _ => False
  | _ => True
def PV.one : PV → Prop
  | .d x => x.one
  | .agg _ => False
  | .tup _ => False
  | .any => False
  | _ => True
def allOne : List PV → Prop
  | [] => True
  | p :: l => p.one ∧ allOne l
/-- the cells of a struct or an array that is at hand as a value -/
def aggP : PV → Option (List PV)
  | .agg cs => some cs
  | .d (.agg cs) => some (cs.map .d)
  | _ => none
def mk (agg : Bool) (cs : List PV) : PV := if agg then .agg cs else match cs with
  | [p] => p
  | _ => .any
def splice {α : Type} (cs : List α) (off : Nat) (new : List α) : List α := cs.take off ++ new ++ cs.drop (off + new.length)
def fillP (flds : List (Nat × Nat)) : List (Nat × PV) → List PV → Option (List PV)
  | [], cells => some cells
  | (i, p) :: rest, cells => match flds[i]? with
    | some (off, sz) => if (cellsP p).length = sz ∧ off + sz ≤ cells.length then fillP flds rest (splice cells off (cellsP p)) else none
    | none => none

/-! ### own arrays as data -/
def tabIf (T : Tab) (ver : Nat) (l : List Nat) : Option D := if T.ver = ver then match T.sl l with
  | some es => some (.sl es)
  | none => none else none
def dz (hg : Nat → Option Ob) : PV → Option D
  | .d x => some x
  | .nl => some (.sl [])
  | .sr id ver => match hg id with
    | some (.arr a) => if a.ver = ver then some (.sl a.es) else none
    | _ => none
  | .st id ver => match hg id with
    | some (.tab T) => tabIf T ver T.out
    | _ => none
  | .tv id ver o n => match hg id with
    | some (.tab T) => tabIf T ver ((T.out.drop o).take n)
    | _ => none
  | .sw id r => match hg id with
    | some (.tab T) => match T.row r with
      | some es => some (.sl es)
      | none => none
    | _ => none
  | _ => none
def dzs (hg : Nat → Option Ob) : List PV → Option (List D)
  | [] => some []
  | p :: l => match dz hg p, dzs hg l with
    | some x, some r => some (x :: r)
    | _, _ => none
def d0 (hg : Nat → Option Ob) : PV → Option D
  | .lt ps => match dzs hg ps with
    | some ds => some (.sl (ds.map fun x => [x]))
    | none => none
  | p => dz hg p
def d0s (hg : Nat → Option Ob) : List PV → Option (List D)
  | [] => some []
  | p :: l => match d0 hg p, d0s hg l with
    | some x, some r => some (x :: r)
    | _, _ => none
def d1 (hg : Nat → Option Ob) : PV → Option D
  | .agg cs => match d0s hg cs with
    | some r => some (.agg r)
    | none => none
  | p => d0 hg p
def fz : PV → List Nat
  | .sr id _ => [id]
  | .st id _ => [id]
  | .tv id _ _ _ => [id]
  | .sw id _ => [id]
  | _ => []
def fzs : List PV → List Nat
  | [] => []
  | p :: l => fz p ++ fzs l
def f0 : PV → List Nat
  | .lt ps => fzs ps
  | p => fz p
def f0s : List PV → List Nat
  | [] => []
  | p :: l => f0 p ++ f0s l
def f1 : PV → List Nat
  | .agg cs => f0s cs
  | p => f0 p
/-- the arrays that are frozen, as replacements -/
def frz (hg : Nat → Option Ob) : List Nat → Heap
  | [] => []
  | id :: l => match hg id with
    | some (.arr a) => (id, .arr { a with fz := true }) :: frz hg l
    | some (.tab T) => (id, .tab { T with fz := true }) :: frz hg l
    | _ => frz hg l
def dcells : D → List D
  | .agg cs => cs
  | x => [x]
/-- an argument: data, or a pointer to cells that the callee may read -/
def a1 (hg : Nat → Option Ob) : PV → Option PV
  | .bw cs => some (.bw cs)
  | .pr id _ _ off => match hg id with
    | some (.box cs) => match d0s hg (cs.drop off) with
      | some r => some (.bw r)
      | none => none
    | _ => none
  | p => match d1 hg p with
    | some x => some (.d x)
    | none => none
def a1s (hg : Nat → Option Ob) : List PV → Option (List PV)
  | [] => some []
  | p :: l => match a1 hg p, a1s hg l with
    | some x, some r => some (x :: r)
    | _, _ => none
def a2 (hg : Nat → Option Ob) : PV → Option PV
  | .fn f caps => match a1s hg caps with
    | some r => some (.fn f r)
    | none => none
  | p => a1 hg p
def a2s (hg : Nat → Option Ob) : List PV → Option (List PV)
  | [] => some []
  | p :: l => match a2 hg p, a2s hg l with
    | some x, some r => some (x :: r)
    | _, _ => none
def g1 (hg : Nat → Option Ob) : PV → List Nat
  | .pr id _ _ off => match hg id with
    | some (.box cs) => f0s (cs.drop off)
    | _ => []
  | p => f1 p
def g1s (hg : Nat → Option Ob) : List PV → List Nat
  | [] => []
  | p :: l => g1 hg p ++ g1s hg l
def g2 (hg : Nat → Option Ob) : PV → List Nat
  | .fn _ caps => g1s hg caps
  | p => g1 hg p
def g2s (hg : Nat → Option Ob) : List PV → List Nat
  | [] => []
  | p :: l => g2 hg p ++ g2s hg l
/-- the objects that are looked at -/
def r1 : PV → List Nat
  | .pr id _ _ _ => [id]
  | .agg cs => f0s cs
  | p => f0 p
def r1s : List PV → List Nat
  | [] => []
  | p :: l => r1 p ++ r1s l
def r2 : PV → List Nat
  | .fn _ caps => r1s caps
  | p => r1 p
def r2s : List PV → List Nat
  | [] => []
  | p :: l => r2 p ++ r2s l

/-! ### answers of calls -/
inductive R1 where
  | d (x : D)
  | so (el : TypeId) (k : Nat) (es : List (List D))
  | sto (el rel : TypeId) (k : Nat) (rows : List (List (List D)))
inductive R where
  | one (r : R1)
  | tup (rs : List R1)
/-- an answer without memory: the arguments need not be frozen for it -/
def R1.plain : R1 → Bool
  | .d (.v _) => true
  | _ => false
def R.plain : R → Bool
  | .one r => r.plain
  | .tup rs => rs.all R1.plain
def R1At (C : Cx) (l : Lc) : R1 → Value → Prop
  | .d x, v => l = .no ∧ Rep C x v
  | .so el k es, v => 0 < k ∧ ArrAt C ⟨el, k, 0, false, es⟩ l ∧ v = l.val es.length
  | .sto el rel k rows, v => TabAt C ⟨el, rel, k, 0, false, List.range rows.length, rows.map some⟩ l ∧ ∀ lo rl, l = .tb lo rl → v = lo.val rows.length
def owl (ls : List Lc) (b _ : Nat) : Prop := ∃ l ∈ ls, l.has b
def RAll (C : Cx) : List Lc → List R1 → List Value → Prop
  | [], [], [] => True
  | l :: ls, r :: rs, v :: vs => R1At C l r v ∧ RAll C ls rs vs
  | _, _, _ => False
def lcSep : List Lc → Prop
  | [] => True
  | l :: ls => (∀ b, l.has b → ∀ l' ∈ ls, ¬ l'.has b) ∧ lcSep ls
def R.list : R → List R1
  | .one r => [r]
  | .tup rs => rs
def R.val : R → List Value → Value
  | .one _, vs => vs.getD 0 undef
  | .tup _, vs => .tuple vs.toArray
def RRep (am : Nat → Nat → Prop) (w w' : World) (r : R) (v : Value) : Prop :=
  ∃ ls vs, v = r.val vs ∧ RAll ⟨w', owl ls, am, none⟩ ls r.list vs ∧ lcSep ls ∧ ∀ l ∈ ls, ∀ b, l.has b → w.heap.size ≤ b ∧ b < w'.heap.size

/-- f, called with these arguments, answers r, wherever it is called; it writes nothing that was there -/
structure PCall (P : Program) (f : FuncId) (args : List PV) (r : R) : Prop where
  enters : ∀ args w, (callFunc f args).run P w = .ok (.enter f args) w
  calls : ∀ (am : Nat → Nat → Prop) (w : World) (vs : Array Value), (∀ b o, am b o → b < w.heap.size) → vs.size = args.length →
    (∀ (j : Nat) (p : PV) (v : Value), args[j]? = some p → vs[j]? = some v → PRep ⟨w, fun _ _ => False, am, none⟩ (fun _ => none) (fun _ => .no) (fun _ => False) p v) →
    Calls P f vs w fun e w' => ∃ v, e = .returned v ∧ Below w.heap.size w w' ∧ RRep am w w' r v

/-- f, called over objects of the caller's, answers r and leaves those objects as h' says, with new ones from nid on -/
structure HCall (P : Program) (f : FuncId) (args : List PV) (hs : Heap) (nid : Nat) (r : PV) (h' : Heap) : Prop where
  enters : ∀ args w, (callFunc f args).run P w = .ok (.enter f args) w
  calls : ∀ (E : Env) (hg : Nat → Option Ob) (loc : Locs) (kn : Nat → Prop) (w : World) (vs : Array Value), MC E hg loc kn w → (∀ id ob, hget hs id = some ob → hg id = some ob) → (∀ j, j < 4 → ¬ kn (nid + j)) → vs.size = args.length →
    (∀ (j : Nat) (p : PV) (v : Value), args[j]? = some p → vs[j]? = some v → PRep (cxOf E hg loc w) hg loc kn p v) →
    Calls P f vs w fun e w' => ∃ v loc' kn', e = .returned v ∧ Tr E hg loc kn w (upd h' hg) loc' kn' w' ∧ PRep (cxOf E (upd h' hg) loc' w') (upd h' hg) loc' kn' r v ∧ ∀ id, kn' id → kn id ∨ (nid ≤ id ∧ id < nid + 4)
/-- these objects are there -/
def hasH (h : Heap) : Heap → Prop
  | [] => True
  | (id, ob) :: l => hget h id = some ob ∧ hasH h l
theorem hasH_get {h : Heap} : ∀ {s : Heap}, hasH h s → ∀ id ob, hget s id = some ob → hget h id = some ob
  | [], _, id, ob, e => by cases e
  | (v, p) :: s, hh, id, ob, e => by
    simp only [hget] at e
    split at e
    · rename_i e2; subst e2; rw [← e]; exact hh.1
    · exact hasH_get hh.2 id ob e
theorem hasH_loc {h h' : Heap} : ∀ {s : Heap}, (∀ id ∈ s.map (·.1), hget h' id = hget h id) → hasH h s → hasH h' s
  | [], _, _ => trivial
  | (v, p) :: s, he, hh => ⟨(he v (by simp)).trans hh.1, hasH_loc (fun id hi => he id (by simp only [List.map_cons, List.mem_cons]; exact .inr hi)) hh.2⟩

def R1.ob : R1 → Option Ob
  | .d _ => none
  | .so el k es => some (.arr ⟨el, k, 0, false, es⟩)
  | .sto el rel k rows => some (.tab ⟨el, rel, k, 0, false, List.range rows.length, rows.map some⟩)
def adopt1 (nid : Nat) : R1 → PV × Heap
  | .d x => (.d x, [])
  | .so el k es => (.sr nid 0, [(nid, .arr ⟨el, k, 0, false, es⟩)])
  | .sto el rel k rows => (.st nid 0, [(nid, .tab ⟨el, rel, k, 0, false, List.range rows.length, rows.map some⟩)])
def adoptL : Nat → List R1 → List PV × Heap
  | _, [] => ([], [])
  | nid, r :: rs => ((adopt1 nid r).1 :: (adoptL (nid + 1) rs).1, (adopt1 nid r).2 ++ (adoptL (nid + 1) rs).2)
def adopt (nid : Nat) : R → PV × Heap
  | .one r => adopt1 nid r
  | .tup rs => (.tup (adoptL nid rs).1, (adoptL nid rs).2)

/-! ### where a walk over abstract states stops -/
def Side (p : Prop) (σ : St) (k : St → Prop) : Prop := p ∧ k σ
def Elem (es : List (List D)) (i : Nat) (σ : St) (k : St → List D → Prop) : Prop := ∃ e, es[i]? = some e ∧ k σ e
def IfB (b : Bool) (σ : St) (k1 k2 : St → Prop) : Prop := (b = true → k1 σ) ∧ (b = false → k2 σ)
def CallS (P : Program) (f : FuncId) (args : List PV) (σ : St) (k : St → R → Prop) : Prop := ∃ r, PCall P f args r ∧ k σ r
def Got {α : Type} (x : Option α) (σ : St) (k : St → α → Prop) : Prop := match x with
  | some a => k σ a
  | none => False

abbrev Kt := St → PV → Heap → List Nat → Prop
def intP (k : IntKind) (z : Int) : PV := .d (.v (.int k z))
def boolP (b : Bool) : PV := .d (.v (.bool b))

/-- sums, products, comparisons of integers and Booleans: signed ones must fit, unsigned ones wrap -/
def arith (k : IntKind) (z : Int) (σ : St) (K : St → PV → Prop) : Prop := match k with
  | .i64 => Side (-9223372036854775808 ≤ z ∧ z ≤ 9223372036854775807) σ fun σ => K σ (intP .i64 z)
  | k => K σ (intP k (k.wrap z))
def isStr (P : Program) (t : TypeId) : Bool := match P.underlying t with
  | some .string => true
  | _ => false
def isBool (P : Program) (t : TypeId) : Bool := match P.underlying t with
  | some .bool => true
  | _ => false
def slcT (P : Program) (t : TypeId) : Bool := match TY P t with
  | some T => T.slc
  | none => false
def binV (P : Program) (op : BinOp) (t : TypeId) (x y : PV) (σ : St) (K : St → PV → Prop) : Prop :=
  match op, x, y with
  | .add, .d (.v (.int k a)), .d (.v (.int k' b)) => Side (k' = k) σ fun σ => arith k (a + b) σ K
  | .sub, .d (.v (.int k a)), .d (.v (.int k' b)) => Side (k' = k) σ fun σ => arith k (a - b) σ K
  | .mul, .d (.v (.int k a)), .d (.v (.int k' b)) => Side (k' = k) σ fun σ => arith k (a * b) σ K
  | .quo, .d (.v (.int k a)), .d (.v (.int k' b)) => Side (k' = k ∧ b ≠ 0) σ fun σ => arith k (a.tdiv b) σ K
  | .rem, .d (.v (.int k a)), .d (.v (.int k' b)) => Side (k' = k ∧ b ≠ 0) σ fun σ => K σ (intP k (a.tmod b))
  | .and, .d (.v (.int k a)), .d (.v (.int k' b)) => Side (k' = k) σ fun σ => K σ (intP k (k.wrap (BitVec.ofInt k.bits a &&& BitVec.ofInt k.bits b).toNat))
  | .or, .d (.v (.int k a)), .d (.v (.int k' b)) => Side (k' = k) σ fun σ => K σ (intP k (k.wrap (BitVec.ofInt k.bits a ||| BitVec.ofInt k.bits b).toNat))
  | .xor, .d (.v (.int k a)), .d (.v (.int k' b)) => Side (k' = k) σ fun σ => K σ (intP k (k.wrap (BitVec.ofInt k.bits a ^^^ BitVec.ofInt k.bits b).toNat))
  | .shl, .d (.v (.int k a)), .d (.v (.int _ b)) => Side (0 ≤ b) σ fun σ => K σ (intP k (k.wrap (a * 2 ^ min b.toNat k.bits)))
  | .shr, .d (.v (.int k a)), .d (.v (.int _ b)) => Side (0 ≤ b) σ fun σ => K σ (intP k (a.fdiv (2 ^ min b.toNat k.bits)))
  | .eql, .d (.v (.int k a)), .d (.v (.int k' b)) => Side (k' = k) σ fun σ => K σ (boolP (decide (a = b)))
  | .neq, .d (.v (.int k a)), .d (.v (.int k' b)) => Side (k' = k) σ fun σ => K σ (boolP (decide (a ≠ b)))
  | .lss, .d (.v (.int k a)), .d (.v (.int k' b)) => Side (k' = k) σ fun σ => K σ (boolP (decide (a < b)))
  | .leq, .d (.v (.int k a)), .d (.v (.int k' b)) => Side (k' = k) σ fun σ => K σ (boolP (decide (a ≤ b)))
  | .gtr, .d (.v (.int k a)), .d (.v (.int k' b)) => Side (k' = k) σ fun σ => K σ (boolP (decide (b < a)))
  | .geq, .d (.v (.int k a)), .d (.v (.int k' b)) => Side (k' = k) σ fun σ => K σ (boolP (decide (b ≤ a)))
  | .eql, .d (.v (.bool a)), .d (.v (.bool b)) => Side (isBool P t = true) σ fun σ => K σ (boolP (a == b))
  | .neq, .d (.v (.bool a)), .d (.v (.bool b)) => Side (isBool P t = true) σ fun σ => K σ (boolP (a != b))
  | .eql, .d (.sl (_ :: _)), .nl => Side (slcT P t = true) σ fun σ => K σ (boolP false)
  | .neq, .d (.sl (_ :: _)), .nl => Side (slcT P t = true) σ fun σ => K σ (boolP true)
  | _, _, _ => False
def unV (op : UnOp) (x : PV) (σ : St) (K : St → PV → Prop) : Prop :=
  match op, x with
  | .not, .d (.v (.bool b)) => K σ (boolP (!b))
  | .neg, .d (.v (.int k a)) => arith k (0 - a) σ K
  | .xor, .d (.v (.int k a)) => K σ (intP k (k.wrap (BitVec.ofInt k.bits (if k.signed then -1 else k.max) ^^^ BitVec.ofInt k.bits a).toNat))
  | _, _ => False
def kindOf (P : Program) (t : TypeId) : Option IntKind := match P.underlying t with
  | some (.int k) => some k
  | _ => none
def convV (P : Program) (src dst : TypeId) (x : PV) (σ : St) (K : St → PV → Prop) : Prop :=
  match x with
  | .d (.v (.int _ a)) => Got (kindOf P src) σ fun σ _ => Got (kindOf P dst) σ fun σ k => K σ (intP k (k.wrap a))
  | _ => False

/-- the elements of a slice -/
def els (hg : Nat → Option Ob) (p : PV) : Option (List (List D)) := match d0 hg p with
  | some (.sl es) => some es
  | _ => none
/-- how many there are -/
def lenOf (hg : Nat → Option Ob) : PV → Option Nat
  | .nl => some 0
  | .d (.sl es) => some es.length
  | .lt ps => some ps.length
  | .sr id ver => match hg id with
    | some (.arr a) => if a.ver = ver then some a.es.length else none
    | _ => none
  | .st id ver => match hg id with
    | some (.tab T) => if T.ver = ver then some T.out.length else none
    | _ => none
  | .tv id ver _ n => match hg id with
    | some (.tab T) => if T.ver = ver then some n else none
    | _ => none
  | .sw id r => match hg id with
    | some (.tab T) => match T.row r with
      | some es => some es.length
      | none => none
    | _ => none
  | _ => none
/-- a row of a table -/
def RowAt (T : Tab) (r : Nat) (σ : St) (k : St → List (List D) → Prop) : Prop := ∃ es, T.row r = some es ∧ k σ es
def ElemR (T : Tab) (i : Nat) (σ : St) (k : St → Nat → Prop) : Prop := ∃ r, T.out[i]? = some r ∧ ∃ es, T.row r = some es ∧ k σ r
/-- an own array that is cut behind a place stays one's own -/
def trunc (hg : Nat → Option Ob) (lo mx : Bool) : PV → Option (Nat × Nat × Arr)
  | .sr id ver => match hg id with
    | some (.arr a) => if a.ver = ver ∧ a.fz = false ∧ lo = false ∧ mx = false then some (id, ver, a) else none
    | _ => none
  | _ => none
/-- likewise a table -/
def truncT (hg : Nat → Option Ob) (lo mx : Bool) : PV → Option (Nat × Nat × Tab)
  | .st id ver => match hg id with
    | some (.tab T) => if T.ver = ver ∧ T.fz = false ∧ lo = false ∧ mx = false then some (id, ver, T) else none
    | _ => none
  | _ => none
def bound (d : Int) : Option PV → Option Int
  | none => some d
  | some (.d (.v (.int _ z))) => some z
  | some _ => none

def loadV (T : Ty) (x : PV) (σ : St) (K : Kt) : Prop := match x with
  | .pr id ver i off => Got (hget σ.h id) σ fun σ ob => match ob with
    | .box cs => Side (off + T.size ≤ cs.length ∧ (T.agg = false → T.size = 1)) σ fun σ => K σ (mk T.agg ((cs.drop off).take T.size)) [] [id]
    | .arr a => Side (a.ver = ver ∧ off + T.size ≤ a.k ∧ (T.agg = false → T.size = 1)) σ fun σ => Elem a.es i σ fun σ e => K σ (mk T.agg (((e.drop off).take T.size).map .d)) [] [id]
    | _ => False
  | .po id ver i => Got (hget σ.h id) σ fun σ ob => match ob with
    | .tab t => Side (t.ver = ver ∧ T.agg = false ∧ T.size = 1) σ fun σ => ElemR t i σ fun σ r => K σ (.sw id r) [] [id]
    | _ => False
  | .pw id r i off => Got (hget σ.h id) σ fun σ ob => match ob with
    | .tab t => Side (off + T.size ≤ t.k ∧ (T.agg = false → T.size = 1)) σ fun σ => RowAt t r σ fun σ es => Elem es i σ fun σ e => K σ (mk T.agg (((e.drop off).take T.size).map .d)) [] [id]
    | _ => False
  | .bw cs => Side (T.size ≤ cs.length ∧ (T.agg = false → T.size = 1)) σ fun σ => K σ (mk T.agg ((cs.take T.size).map .d)) [] []
  | .lp cs => Side (T.size ≤ cs.length ∧ (T.agg = false → T.size = 1)) σ fun σ => K σ (mk T.agg (cs.take T.size)) [] []
  | _ => False
def storeV (T : Ty) (x y : PV) (σ : St) (K : Kt) : Prop := match x with
  | .pr id ver i off => Got (hget σ.h id) σ fun σ ob => match ob with
    | .box cs => Side ((cellsP y).length = T.size ∧ off + T.size ≤ cs.length ∧ allOne (cellsP y)) σ fun σ => K σ .any [(id, .box (splice cs off (cellsP y)))] [id]
    | .arr a => Got (d0s (hget σ.h) (cellsP y)) σ fun σ ds => Side (a.ver = ver ∧ a.fz = false ∧ ds.length = T.size ∧ off + T.size ≤ a.k ∧ allOne (cellsP y) ∧ ¬ id ∈ f0s (cellsP y)) σ fun σ =>
        Elem a.es i σ fun σ e => K σ .any ((id, .arr { a with es := a.es.set i (splice e off ds) }) :: frz (hget σ.h) (f0s (cellsP y))) (id :: f0s (cellsP y))
    | _ => False
  | .pw id r i off => Got (hget σ.h id) σ fun σ ob => match ob with
    | .tab t => Got (d0s (hget σ.h) (cellsP y)) σ fun σ ds => Side (t.fz = false ∧ ds.length = T.size ∧ off + T.size ≤ t.k ∧ allOne (cellsP y) ∧ ¬ id ∈ f0s (cellsP y)) σ fun σ => RowAt t r σ fun σ es =>
        Elem es i σ fun σ e => K σ .any ((id, .tab { t with rows := t.rows.set r (some (es.set i (splice e off ds))) }) :: frz (hget σ.h) (f0s (cellsP y))) (id :: f0s (cellsP y))
    | _ => False
  | .po id ver i => Got (hget σ.h id) σ fun σ ob => match ob with
    | .tab t => Side (t.ver = ver ∧ t.fz = false ∧ T.size = 1 ∧ i < t.out.length) σ fun σ => match y with
      | .sw id1 r => Side (id1 = id) σ fun σ => RowAt t r σ fun σ _ => K σ .any [(id, .tab { t with out := t.out.set i r })] [id]
      | .sr id1 ver1 => Got (hget σ.h id1) σ fun σ ob => match ob with
        | .arr a => Side (a.ver = ver1 ∧ a.fz = false ∧ a.el = t.rel ∧ a.k = t.k ∧ ¬ id1 = id) σ fun σ => K σ .any [(id, .tab { t with out := t.out.set i t.rows.length, rows := t.rows ++ [some a.es] }), (id1, .dead)] [id, id1]
        | _ => False
      | _ => False
    | _ => False
  | _ => False
def idxV (P : Program) (T : Ty) (x ix : PV) (σ : St) (K : Kt) : Prop := match ix with
  | .d (.v (.int _ z)) => if T.slc then match x with
      | .sr id ver => Got (hget σ.h id) σ fun σ ob => match ob with
        | .arr a => Got (TY P T.elem) σ fun σ E => Side (a.ver = ver ∧ a.k = E.size ∧ 0 ≤ z ∧ z.toNat < a.es.length) σ fun σ => K σ (.pr id ver z.toNat 0) [] [id]
        | _ => False
      | .st id ver => Got (hget σ.h id) σ fun σ ob => match ob with
        | .tab t => Got (TY P T.elem) σ fun σ E => Side (t.ver = ver ∧ E.size = 1 ∧ 0 ≤ z ∧ z.toNat < t.out.length) σ fun σ => K σ (.po id ver z.toNat) [] [id]
        | _ => False
      | .tv id ver o n => Got (hget σ.h id) σ fun σ ob => match ob with
        | .tab t => Got (TY P T.elem) σ fun σ E => Side (t.ver = ver ∧ E.size = 1 ∧ 0 ≤ z ∧ z.toNat < n) σ fun σ => K σ (.po id ver (o + z.toNat)) [] [id]
        | _ => False
      | .sw id r => Got (hget σ.h id) σ fun σ ob => match ob with
        | .tab t => Got (TY P T.elem) σ fun σ E => RowAt t r σ fun σ es => Side (t.k = E.size ∧ 0 ≤ z ∧ z.toNat < es.length) σ fun σ => K σ (.pw id r z.toNat 0) [] [id]
        | _ => False
      | .d (.sl es) => Got (TY P T.elem) σ fun σ E => Side (0 ≤ z) σ fun σ => Elem es z.toNat σ fun σ e => Side (e.length = E.size) σ fun σ => K σ (.bw e) [] []
      | .lt cs => Got (TY P T.elem) σ fun σ E => Side (E.size = 1 ∧ 0 ≤ z ∧ z.toNat < cs.length) σ fun σ => K σ (.lp (cs.drop z.toNat)) [] []
      | _ => False
    else False
  | _ => False
/-- what a literal holds is frozen as it is appended -/
def fa : PV → List Nat
  | .lt ps => fzs ps
  | .st id _ => [id]
  | .tv id _ _ _ => [id]
  | _ => []
def appV (P : Program) (T : Ty) (s x : PV) (nid : Nat) (σ : St) (K : Kt) : Prop :=
  Got (TY P T.elem) σ fun σ E => Side (T.slc = true ∧ 0 < E.size ∧ E.zero.length = E.size) σ fun σ => match s with
  | .nl => Got (els (hget σ.h) x) σ fun σ ns => Side ((∀ e ∈ ns, e.length = E.size) ∧ ns.length * E.bytes ≤ 140737488355328 ∧ ns.length ≤ 9223372036854775807) σ fun σ =>
      K σ (.sr nid 1) ((nid, .arr ⟨T.elem, E.size, 1, false, ns⟩) :: frz (hget σ.h) (fa x)) (f0 x)
  | .sr id ver => Got (hget σ.h id) σ fun σ ob => match ob with
    | .arr a => Got (els (hget σ.h) x) σ fun σ ns => Side ((∀ e ∈ ns, e.length = E.size) ∧ a.ver = ver ∧ a.el = T.elem ∧ a.k = E.size ∧ (a.es.length + ns.length) * E.bytes ≤ 140737488355328 ∧ a.es.length + ns.length ≤ 9223372036854775807 ∧ ¬ id ∈ fa x) σ fun σ =>
        K σ (.sr id (ver + 1)) ((id, .arr { a with es := a.es ++ ns, ver := ver + 1 }) :: frz (hget σ.h) (fa x)) (id :: f0 x)
    | _ => False
  | .st id ver => Got (hget σ.h id) σ fun σ ob => match ob with
    | .tab t => Side (t.ver = ver ∧ t.fz = false ∧ t.el = T.elem ∧ E.size = 1 ∧ (t.out.length + 1) * E.bytes ≤ 140737488355328 ∧ t.out.length + 1 ≤ 9223372036854775807) σ fun σ => match x with
      | .lt [.sr id1 ver1] => Got (hget σ.h id1) σ fun σ ob => match ob with
        | .arr a => Side (a.ver = ver1 ∧ a.fz = false ∧ a.el = t.rel ∧ a.k = t.k ∧ ¬ id1 = id) σ fun σ =>
            K σ (.st id (ver + 1)) [(id, .tab { t with ver := ver + 1, out := t.out ++ [t.rows.length], rows := t.rows ++ [some a.es] }), (id1, .dead)] [id, id1]
        | _ => False
      | _ => False
    | _ => False
  | .sw id r => Got (hget σ.h id) σ fun σ ob => match ob with
    | .tab t => Got (els (hget σ.h) x) σ fun σ ns => RowAt t r σ fun σ es => Side ((∀ e ∈ ns, e.length = E.size) ∧ t.fz = false ∧ t.rel = T.elem ∧ t.k = E.size ∧ (es.length + ns.length) * E.bytes ≤ 140737488355328 ∧ es.length + ns.length ≤ 9223372036854775807 ∧ f0 x = []) σ fun σ =>
        K σ (.sr nid 1) [(nid, .arr ⟨t.rel, t.k, 1, false, es ++ ns⟩), (id, .tab { t with rows := t.rows.set r none })] [id]
    | _ => False
  | _ => False

/-- elements of another slice over those of an own array -/
def copyV (P : Program) (T : Ty) (d x : PV) (σ : St) (K : Kt) : Prop :=
  Got (TY P T.elem) σ fun σ E => Side (T.slc = true ∧ E.size = 1) σ fun σ => match d with
  | .sr id ver => Got (hget σ.h id) σ fun σ ob => match ob with
    | .arr a => Got (els (hget σ.h) x) σ fun σ ns => Side ((∀ e ∈ ns, e.length = E.size) ∧ a.ver = ver ∧ a.fz = false ∧ a.k = 1 ∧ ¬ id ∈ fa x) σ fun σ =>
        K σ (intP .i64 (min ns.length a.es.length : Nat)) ((id, .arr { a with es := ns.take a.es.length ++ a.es.drop ns.length }) :: frz (hget σ.h) (fa x)) (id :: f0 x)
    | _ => False
  | _ => False
def maxL : List PV → Option (IntKind × Int)
  | [] => none
  | .d (.v (.int k a)) :: l => maxG k a l
  | _ :: _ => none
where maxG (k : IntKind) (a : Int) : List PV → Option (IntKind × Int)
  | [] => some (k, a)
  | .d (.v (.int _ b)) :: l => maxG k (if b > a then b else a) l
  | _ :: _ => none

/-- a call of f with what the arguments stand for, as data -/
def CallP (P : Program) (g : FuncId) (ps : List PV) (nid : Nat) (σ : St) (K : Kt) : Prop :=
  Got (a2s (hget σ.h) ps) σ fun σ as => CallS P g as σ fun σ r => Side (r.list.length ≤ 4) σ fun σ =>
    K σ (adopt nid r).1 ((adopt nid r).2 ++ if r.plain = true then [] else frz (hget σ.h) (g2s (hget σ.h) ps)) (r2s ps ++ g2s (hget σ.h) ps)
/-- a call of f that turns some objects -/
def CallH (P : Program) (g : FuncId) (ps : List PV) (nid : Nat) (σ : St) (K : Kt) : Prop :=
  ∃ hs r h', HCall P g ps hs nid r h' ∧ hasH σ.h hs ∧ K σ r h' (hs.map (·.1))
def CallB (P : Program) (g : FuncId) (ps : List PV) (nid : Nat) (σ : St) (K : Kt) : Prop := CallP P g ps nid σ K ∨ CallH P g ps nid σ K
def callV (P : Program) (c : Call) (nid : Nat) (σ : St) (K : Kt) : Prop :=
  match c.callee with
  | .builtin .len => match c.args.toList, c.argTypes.toList with
    | [x], [t] => Got (TY P t) σ fun σ T => Got (lenOf (hget σ.h) (ev σ.t x)) σ fun σ n => Side (T.slc = true) σ fun σ => K σ (intP .i64 n) [] (fz (ev σ.t x))
    | _, _ => False
  | .builtin .append => match c.args.toList, c.argTypes.toList with
    | [s, x], [t, t'] => Got (TY P t) σ fun σ T => Side (t' = t) σ fun σ => appV P T (ev σ.t s) (ev σ.t x) nid σ K
    | _, _ => False
  | .builtin .max => Got (maxL (c.args.toList.map (ev σ.t))) σ fun σ m => K σ (intP m.1 m.2) [] []
  | .builtin .copy => match c.args.toList, c.argTypes.toList with
    | [s, x], [t, _] => Got (TY P t) σ fun σ T => copyV P T (ev σ.t s) (ev σ.t x) σ K
    | _, _ => False
  | .builtin _ => False
  | .value f => match ev σ.t f with
    | .fn g caps => CallB P g (c.args.toList.map (ev σ.t) ++ caps) nid σ K
    | _ => False
  | .invoke _ _ => False

/-- an array that is at hand as a value: one of its elements -/
def idxA (P : Program) (t : TypeId) (cs : List PV) (z : Int) (σ : St) (K : Kt) : Prop :=
  Got (arrOf P t) σ fun σ e => Side (0 ≤ z ∧ z < e.1 ∧ z.toNat * e.2.size + e.2.size ≤ cs.length ∧ (e.2.agg = false → e.2.size = 1)) σ fun σ => K σ (mk e.2.agg ((cs.drop (z.toNat * e.2.size)).take e.2.size)) [] []
/-- what an operation asks for and leaves -/
def vcOp (P : Program) (o : Oper) (nid : Nat) (σ : St) (K : Kt) : Prop :=
  match o.op with
  | .move x | .assign x => K σ (ev σ.t x) [] []
  | .pick c a b => match ev σ.t c with
    | .d (.v (.bool c)) => IfB c σ (fun σ => K σ (ev σ.t a) [] []) (fun σ => K σ (ev σ.t b) [] [])
    | _ => False
  | .extract x i => match ev σ.t x with
    | .tup vs => Side (i < vs.length) σ fun σ => K σ (vs.getD i .any) [] []
    | _ => False
  | .alloc t => Got (TY P t) σ fun σ T => Side (allOne (T.zero.map zPV)) σ fun σ => K σ (.pr nid 0 0 0) [(nid, .box (T.zero.map zPV))] []
  | .box _ x => Side (allOne (cellsP (ev σ.t x))) σ fun σ => K σ (.pr nid 0 0 0) [(nid, .box (cellsP (ev σ.t x)))] []
  | .build t parts => Got (TY P t) σ fun σ T => Side (T.agg = true ∧ allOne ((parts.toList.map fun p => ev σ.t p.2).flatMap cellsP)) σ fun σ => Got (plcs P T) σ fun σ pl => Got (fillP pl (parts.toList.map fun p => (p.1, ev σ.t p.2)) (T.zero.map zPV)) σ fun σ cs => K σ (.agg cs) [] []
  | .buildSlice t len parts => Got (TY P t) σ fun σ T => Got (TY P T.elem) σ fun σ E => if litT E = true ∧ 0 < len then
        Side (T.slc = true ∧ parts.toList.map (·.1) = List.range len ∧ E.size = 1 ∧ E.zero.length = 1 ∧ len ≤ 16777216 ∧ ∀ p ∈ parts.toList, (cellsP (ev σ.t p.2)) = [ev σ.t p.2] ∧ (ev σ.t p.2).one) σ fun σ => K σ (.lt (parts.toList.map fun p => ev σ.t p.2)) [] []
      else Got (d0s (hget σ.h) ((parts.toList.map fun p => ev σ.t p.2).flatMap cellsP)) σ fun σ _ =>
      Side (T.slc = true ∧ parts.toList.map (·.1) = List.range len ∧ 0 < E.size ∧ E.zero.length = E.size ∧ (∀ p ∈ parts.toList, (cellsP (ev σ.t p.2)).length = E.size) ∧ len * E.size ≤ 16777216 ∧ allOne ((parts.toList.map fun p => ev σ.t p.2).flatMap cellsP)) σ fun σ =>
        K σ (.sr nid 0) ((nid, .arr ⟨T.elem, E.size, 0, false, (parts.toList.map fun p => ((d0s (hget σ.h) (cellsP (ev σ.t p.2))).getD []))⟩) :: frz (hget σ.h) (f0s ((parts.toList.map fun p => ev σ.t p.2).flatMap cellsP)))
          (f0s ((parts.toList.map fun p => ev σ.t p.2).flatMap cellsP))
  | .load t x => Got (TY P t) σ fun σ T => loadV T (ev σ.t x) σ K
  | .store t x y => Got (TY P t) σ fun σ T => storeV T (ev σ.t x) (ev σ.t y) σ K
  | .binOp op t x y _ => binV P op t (ev σ.t x) (ev σ.t y) σ fun σ v => K σ v [] []
  | .unOp op _ x => unV op (ev σ.t x) σ fun σ v => K σ v [] []
  | .nilCheck x => match ev σ.t x with
    | .pr id ver i off => Got (hget σ.h id) σ fun σ ob => match ob with
      | .box _ => K σ (.pr id ver i off) [] [id]
      | _ => False
    | .bw cs => K σ (.bw cs) [] []
    | .lp cs => K σ (.lp cs) [] []
    | .fn f cs => K σ (.fn f cs) [] []
    | _ => False
  | .index t x i => match ev σ.t x, ev σ.t i with
    | .d (.v (.string s)), .d (.v (.int _ z)) => Side (isStr P t = true ∧ 0 ≤ z) σ fun σ => Got (s[z.toNat]?) σ fun σ b => K σ (intP .u8 b.toNat) [] []
    | .agg cs, .d (.v (.int _ z)) => idxA P t cs z σ K
    | .d (.agg cs), .d (.v (.int _ z)) => idxA P t (cs.map .d) z σ K
    | _, _ => False
  | .convert src dst x => convV P src dst (ev σ.t x) σ fun σ v => K σ v [] []
  | .makeFunc fn first caps => match fn with
    | .func f => Side (first.size = 0) σ fun σ => K σ (.fn f (caps.toList.map (ev σ.t))) [] []
    | _ => False
  | .makeSlice t l c => match ev σ.t l, ev σ.t c with
    | .d (.v (.int _ n)), .d (.v (.int _ m)) => Got (TY P t) σ fun σ T => Got (TY P T.elem) σ fun σ E =>
        Side (T.slc = true ∧ 0 < E.size ∧ E.zero.length = E.size ∧ 0 ≤ n ∧ n ≤ m ∧ m ≤ 9223372036854775807 ∧ (E.bytes : Int) * m ≤ 140737488355328 ∧ allOne (E.zero.map zPV)) σ fun σ => K σ (.sr nid 0) [(nid, .arr ⟨T.elem, E.size, 0, false, List.replicate n.toNat (E.zero.map zD)⟩)] []
    | _, _ => False
  | .fieldAddr s x f => Got (TY P s) σ fun σ T => Got (T.flds[f]?) σ fun σ fo => match ev σ.t x with
    | .pr id ver i off => Got (hget σ.h id) σ fun σ ob => match ob with
      | .box _ => Side (0 < fo.2) σ fun σ => K σ (.pr id ver i (off + fo.1)) [] [id]
      | .arr a => Side (0 < fo.2 ∧ a.ver = ver ∧ i < a.es.length) σ fun σ => K σ (.pr id ver i (off + fo.1)) [] [id]
      | _ => False
    | .pw id r i off => Got (hget σ.h id) σ fun σ ob => match ob with
      | .tab t => RowAt t r σ fun σ es => Side (0 < fo.2 ∧ i < es.length) σ fun σ => K σ (.pw id r i (off + fo.1)) [] [id]
      | _ => False
    | .bw cs => Side (0 < fo.2) σ fun σ => K σ (.bw (cs.drop fo.1)) [] []
    | _ => False
  | .field s x f => Got (aggP (ev σ.t x)) σ fun σ cs => Got (fldOf P s f) σ fun σ e => Side (e.1 + e.2.size ≤ cs.length ∧ (e.2.agg = false → e.2.size = 1)) σ fun σ => K σ (mk e.2.agg ((cs.drop e.1).take e.2.size)) [] []
  | .indexAddr t x ix => Got (TY P t) σ fun σ T => idxV P T (ev σ.t x) (ev σ.t ix) σ K
  | .slice t x lo hi mx => Got (TY P t) σ fun σ T => Got (lenOf (hget σ.h) (ev σ.t x)) σ fun σ n => Got (bound 0 (lo.map (ev σ.t))) σ fun σ l => Got (bound n (hi.map (ev σ.t))) σ fun σ h => Got (bound h (mx.map (ev σ.t))) σ fun σ m => Got (TY P T.elem) σ fun σ E =>
      Side (T.slc = true ∧ 0 ≤ l ∧ l ≤ h ∧ h ≤ m ∧ m ≤ n ∧ (mx.isSome = true → hi.isSome = true)) σ fun σ => match trunc (hget σ.h) lo.isSome mx.isSome (ev σ.t x) with
      | some (id, ver, a) => K σ (.sr id (ver + 1)) [(id, .arr { a with es := a.es.take h.toNat, ver := ver + 1 })] [id]
      | none => match truncT (hget σ.h) lo.isSome mx.isSome (ev σ.t x) with
      | some (id, ver, T') => Side (E.size = 1) σ fun σ => K σ (.st id (ver + 1)) [(id, .tab { T' with out := T'.out.take h.toNat, ver := ver + 1 })] [id]
      | none => match ev σ.t x with
      | .st id ver => Side (E.size = 1) σ fun σ => K σ (.tv id ver l.toNat (h.toNat - l.toNat)) [] [id]
      | p => Got (els (hget σ.h) p) σ fun σ es => Side (∀ e ∈ es, e.length = E.size) σ fun σ => K σ (.d (.sl ((es.drop l.toNat).take (h.toNat - l.toNat)))) (frz (hget σ.h) (f0 p)) (f0 p)
  | .call c => callV P c nid σ K
  | _ => False
end Go.Pm
