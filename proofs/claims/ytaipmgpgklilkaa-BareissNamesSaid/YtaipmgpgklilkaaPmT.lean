/-
  The pure machine: the steps that tables take.
-/
import Derived.Test.YtaipmgpgklilkaaPm2
set_option linter.unusedSimpArgs false
set_option linter.unusedVariables false
namespace Go.Pm
open Go.RowKit

section
variable {E : Env} {hg : Nat → Option Ob} {loc : Locs} {kn : Nat → Prop} {w : World}

/-- some objects replaced at once: what has to be shown -/
theorem Tr.many (h : MC E hg loc kn w) (S : Nat → Prop) (hg' : Nat → Option Ob) (loc' : Locs) (w' : World)
    (hsz : w.heap.size ≤ w'.heap.size) (hos : w'.os = w.os) (htape : w'.tape = w.tape) (hout : w'.output = w.output)
    (hsame : ∀ x, ¬ S x → hg' x = hg x ∧ loc' x = loc x)
    (hnew : ∀ x b, S x → hg' x ≠ none → (loc' x).has b → (∃ y, S y ∧ hg y ≠ none ∧ (loc y).has b) ∨ (w.heap.size ≤ b ∧ b < w'.heap.size))
    (hblk : ∀ b, b < w.heap.size → ¬ (∃ y, S y ∧ hg y ≠ none ∧ (loc y).has b) → w'.heap[b]? = w.heap[b]?)
    (hcell : ∀ y b o v, S y → hg y ≠ none → (loc y).has b → rd w b o v → ¬ owns hg loc b o → rd w' b o v ∧ ¬ ∃ x ob, S x ∧ hg' x = some ob ∧ (loc' x).has b ∧ ob.owns o)
    (hsep : ∀ x y b, S x → S y → hg' x ≠ none → hg' y ≠ none → (loc' x).has b → (loc' y).has b → x = y)
    (hR : RefLe hg hg' loc loc' kn)
    (hob : Cx.le (cxOf E hg loc w) (cxOf E hg' loc' w') → ∀ x ob, S x → hg' x = some ob → ObAt (cxOf E hg' loc' w') hg' loc' (fun x => kn x ∨ S x) (loc' x) ob) :
    Tr E hg loc kn w hg' loc' (fun x => kn x ∨ S x) w' := by
  have hw0 : E.w0.heap.size ≤ w.heap.size := h.ext.size
  have hown : ∀ x b, ¬ S x → hg x ≠ none → (loc x).has b → ∀ y, S y → hg' y ≠ none → ¬ (loc' y).has b := fun x b hx hgx hb y hy hgy hl => by
    rcases hnew y b hy hgy hl with ⟨z, h1, h2, h3⟩ | ⟨h1, _⟩
    · exact hx (h.sep x z b hgx h2 hb h3 ▸ h1)
    · exact absurd (h.fresh x b hgx hb).2 (by omega)
  have hblk' : ∀ x b, ¬ S x → hg x ≠ none → (loc x).has b → w'.heap[b]? = w.heap[b]? := fun x b hx hgx hb =>
    hblk b (h.fresh x b hgx hb).2 (fun ⟨y, h1, h2, h3⟩ => hx (h.sep x y b hgx h2 hb h3 ▸ h1))
  have hC : Cx.le (cxOf E hg loc w) (cxOf E hg' loc' w') := by
    have key : ∀ b o v, rd w b o v → ¬ owns hg loc b o → rd w' b o v ∧ ¬ ∃ x ob, S x ∧ hg' x = some ob ∧ (loc' x).has b ∧ ob.owns o := fun b o v h1 h2 => by
      by_cases hc : ∃ y, S y ∧ hg y ≠ none ∧ (loc y).has b
      · obtain ⟨y, c1, c2, c3⟩ := hc
        exact hcell y b o v c1 c2 c3 h1 h2
      · refine ⟨cell_old h1 (hblk b (cell_lt h1) hc), fun ⟨x, ob, h3, h4, h5, _⟩ => ?_⟩
        rcases hnew x b h3 (by simp [h4]) h5 with h6 | ⟨h6, _⟩
        · exact hc h6
        · exact absurd (cell_lt h1) (by omega)
    refine ⟨fun b o v h1 h2 => (key b o v h1 h2).1, fun b o v h1 h2 h3 => ?_, fun _ _ _ _ _ h => h, rfl⟩
    obtain ⟨x, ox, h4, h5, h6⟩ := h3
    by_cases hx : S x
    · exact (key b o v h1 h2).2 ⟨x, ox, hx, h4, h5, h6⟩
    · rw [(hsame x hx).1] at h4
      rw [(hsame x hx).2] at h5
      exact h2 ⟨x, ox, h4, h5, h6⟩
  refine ⟨⟨?_, fun b o ha => Nat.lt_of_lt_of_le (h.amlt b o ha) hsz, fun x ox hx => ?_, fun x y b hx hy hbx hby => ?_, fun x b hx hb => ?_, fun x b o hx hb ha => ?_⟩, hC, hR, fun _ h => .inl h, hsz, fun b hb hno => hblk b hb (fun ⟨y, _, h2, h3⟩ => hno ⟨y, h2, h3⟩), fun x b hx hb => ?_⟩
  · refine ⟨hos.trans h.ext.os, htape.trans h.ext.tape, hout.trans h.ext.output, Nat.le_trans hw0 hsz, fun k hk => ?_⟩
    rw [hblk k (by omega) (fun ⟨y, _, h1, h2⟩ => absurd (h.fresh y k h1 h2).1 (by omega))]
    exact h.ext.block k hk
  · by_cases e : S x
    · exact ⟨.inr e, hob hC x ox e hx⟩
    · have hx' := hx
      rw [(hsame x e).1] at hx
      obtain ⟨h1, h2⟩ := h.objs x ox hx
      refine ⟨.inl h1, ?_⟩
      rw [(hsame x e).2]
      exact h2.le hC hR (fun _ h => .inl h) (fun b hb => hblk' x b e (by simp [hx]) hb)
  · by_cases ex : S x <;> by_cases ey : S y
    · exact hsep x y b ex ey hx hy hbx hby
    · rw [(hsame y ey).1] at hy
      rw [(hsame y ey).2] at hby
      exact absurd hbx (hown y b ey hy hby x ex hx)
    · rw [(hsame x ex).1] at hx
      rw [(hsame x ex).2] at hbx
      exact absurd hby (hown x b ex hx hbx y ey hy)
    · rw [(hsame x ex).1] at hx
      rw [(hsame y ey).1] at hy
      rw [(hsame x ex).2] at hbx
      rw [(hsame y ey).2] at hby
      exact h.sep x y b hx hy hbx hby
  · by_cases ex : S x
    · rcases hnew x b ex hx hb with ⟨y, _, h1, h2⟩ | ⟨h1, h2⟩
      · obtain ⟨h3, h4⟩ := h.fresh y b h1 h2
        exact ⟨h3, by omega⟩
      · exact ⟨by omega, h2⟩
    · rw [(hsame x ex).1] at hx
      rw [(hsame x ex).2] at hb
      obtain ⟨h3, h4⟩ := h.fresh x b hx hb
      exact ⟨h3, by omega⟩
  · by_cases ex : S x
    · rcases hnew x b ex hx hb with ⟨y, _, h1, h2⟩ | ⟨h1, _⟩
      · exact h.amno y b o h1 h2 ha
      · exact absurd (h.amlt b o ha) (by omega)
    · rw [(hsame x ex).1] at hx
      rw [(hsame x ex).2] at hb
      exact h.amno x b o hx hb ha
  · by_cases ex : S x
    · rcases hnew x b ex hx hb with ⟨y, _, h1, h2⟩ | ⟨h1, _⟩
      · exact .inl ⟨y, h1, h2⟩
      · exact .inr h1
    · rw [(hsame x ex).1] at hx
      rw [(hsame x ex).2] at hb
      exact .inl ⟨x, hx, hb⟩

theorem row_lt {T : Tab} {r : Nat} {es : List (List D)} (h : T.row r = some es) : r < T.rows.length := by
  unfold Tab.row at h
  cases hq : T.rows[r]? with
  | none => rw [hq] at h; cases h
  | some q => exact (List.getElem?_eq_some_iff.1 hq).1
theorem row_set_self {T : Tab} {r : Nat} (h : r < T.rows.length) (x : Option (List (List D))) : ({ T with rows := T.rows.set r x } : Tab).row r = x := by
  simp [Tab.row, h]
theorem row_set_ne {T : Tab} {r q : Nat} (h : q ≠ r) (x : Option (List (List D))) : ({ T with rows := T.rows.set r x } : Tab).row q = T.row q := by
  simp [Tab.row, List.getElem?_set_ne (Ne.symm h)]

/-- an element of a row is turned -/
theorem Tr.setEl (h : MC E hg loc kn w) {id : Nat} {T : Tab} (hi : hg id = some (.tab T)) {lo : Lc} {rl : Nat → Lc} (hl : loc id = .tb lo rl) (hfz : T.fz = false) {r : Nat} {es : List (List D)} (hr : T.row r = some es) {b cap : Nat} (hrl : rl r = .pl b cap)
    (es' : List (List D)) (hlen : es'.length = es.length) (hek : ∀ e ∈ es', e.length = T.k) (c' : Array Value) (hc' : c'.size = cap * T.k)
    (hc : ∀ (i j : Nat) (e : List D) (d : D), es'[i]? = some e → e[j]? = some d → ∃ u, c'[i * T.k + j]? = some u ∧ u.oneCell' = true ∧ Rep (cxOf E hg loc w) d u) :
    Tr E hg loc kn w (upd [(id, .tab { T with rows := T.rows.set r (some es') })] hg) (locAdd loc id (.tb lo rl)) (knAdd kn id) (w.setRow b c') := by
  obtain ⟨lo', rl', hl', hT⟩ := h.tab hi
  rw [hl] at hl'
  cases hl'
  have hrlt := row_lt hr
  have hbo : (Lc.tb lo rl).has b := .inr ⟨r, by rw [hrl]; rfl⟩
  have hself : ∀ es2, ({ T with rows := T.rows.set r (some es') } : Tab).row r = some es2 → es2 = es' := fun es2 h2 => by rw [row_set_self hrlt] at h2; exact (Option.some.inj h2).symm
  have hA := hT.row r es hr
  rw [hrl] at hA
  obtain ⟨c0, h1, h2, h3, h4, h5, _⟩ := hA
  refine Tr.one h id _ (.tb lo rl) _ (by rw [setRow_size]; exact Nat.le_refl _) rfl rfl rfl (fun x hx => .inl ⟨by simp [hi], by rw [hl]; exact hx⟩)
    (fun x hx hno => setRow_other w b x _ (fun e => hno ⟨by simp [hi], by rw [hl, e]; exact hbo⟩)) (fun x o v _ hx _ hno => ?_) (fun x hx _ => by cases hx) (fun a' ha _ => by cases ha) (fun T' hT' _ => ?_) (fun hC hR => ?_)
  · exact absurd ⟨id, _, hi, hx, hfz⟩ hno
  · cases hT'
    refine ⟨T, hi, Nat.le_refl _, rfl, fun _ => rfl, by simp, fun q es2 hq h2 => ?_, fun lo2 rl2 h2 => ?_⟩
    · by_cases hqr : q = r
      · subst hqr
        rw [hself es2 h2]
        exact ⟨es, hr, hlen.symm⟩
      · rw [row_set_ne hqr] at h2
        exact ⟨es2, h2, rfl⟩
    · cases h2
      exact ⟨lo, rl, hl, fun _ => rfl, fun _ _ _ _ => rfl⟩
  · have hother : ∀ x, x ≠ b → (w.setRow b c').heap[x]? = w.heap[x]? := fun x hx => setRow_other w b x _ hx
    refine ⟨hT.pos, ?_, fun q es2 h6 => ?_, fun q h6 => ?_, hT.sep, hT.off, fun i q hq => by rw [List.length_set]; exact hT.idx i q hq⟩
    · have hout := hT.out
      cases lo with
      | no => exact hout
      | tb a b => exact hout.elim
      | pl b0 cap0 =>
        obtain ⟨c, k1, k2, k3, k4, k5⟩ := hout
        have hne : b0 ≠ b := fun e => hT.off r b0 rfl (by rw [hrl]; exact e)
        refine ⟨c, (hother b0 hne).trans k1, k2, k3, k4, fun i q es2 hiq h6 => ?_⟩
        by_cases hqr : q = r
        · subst hqr
          rw [hself es2 h6, hlen]
          exact k5 i q es hiq hr
        · rw [row_set_ne hqr] at h6
          exact k5 i q es2 hiq h6
    · by_cases hqr : q = r
      · subst hqr
        have := hself es2 h6
        subst this
        rw [hrl]
        refine ⟨c', heap_setRow_same w b c0 c' T.rel h1, hc', by show es2.length ≤ cap; rw [hlen]; exact h3, h4, hek, fun i j e d hi hj => ?_⟩
        obtain ⟨u, g1, g2, g3⟩ := hc i j e d hi hj
        exact ⟨u, g1, g2, g3.le hC⟩
      · rw [row_set_ne hqr] at h6
        exact (hT.row q es2 h6).le hC (fun x hx => hother x (fun e => hqr (hT.sep q r b (e ▸ hx) (by rw [hrl]; rfl))))
    · by_cases hqr : q = r
      · subst hqr
        rw [row_set_self hrlt] at h6
        cases h6
      · rw [row_set_ne hqr] at h6
        exact hT.gone q h6

/-- a row is put to another place -/
theorem Tr.setOut (h : MC E hg loc kn w) {id : Nat} {T : Tab} (hi : hg id = some (.tab T)) {b cap : Nat} {rl : Nat → Lc} (hl : loc id = .tb (.pl b cap) rl) (hfz : T.fz = false) {r i : Nat} {es : List (List D)} (hr : T.row r = some es) (hil : i < T.out.length)
    {c : Array Value} (hcb : w.heap[b]? = some (.cells c T.el (0, 0))) :
    Tr E hg loc kn w (upd [(id, .tab { T with out := T.out.set i r })] hg) (locAdd loc id (.tb (.pl b cap) rl)) (knAdd kn id) (w.setRow b (c.setIfInBounds i ((rl r).val es.length))) := by
  obtain ⟨lo', rl', hl', hT⟩ := h.tab hi
  rw [hl] at hl'
  cases hl'
  obtain ⟨c0, k1, k2, k3, k4, k5⟩ := hT.out
  rw [show w.heap[b]? = _ from k1] at hcb
  cases hcb
  have hbo : (Lc.tb (.pl b cap) rl).has b := .inl rfl
  have hother : ∀ x, x ≠ b → (w.setRow b (c.setIfInBounds i ((rl r).val es.length))).heap[x]? = w.heap[x]? := fun x hx => setRow_other w b x _ hx
  refine Tr.one h id _ (.tb (.pl b cap) rl) _ (by rw [setRow_size]; exact Nat.le_refl _) rfl rfl rfl (fun x hx => .inl ⟨by simp [hi], by rw [hl]; exact hx⟩)
    (fun x hx hno => hother x (fun e => hno ⟨by simp [hi], by rw [hl, e]; exact hbo⟩)) (fun x o v _ hx _ hno => absurd ⟨id, _, hi, hx, hfz⟩ hno) (fun x hx _ => by cases hx) (fun a' ha _ => by cases ha) (fun T' hT' _ => ?_) (fun hC hR => ?_)
  · cases hT'
    refine ⟨T, hi, Nat.le_refl _, rfl, fun _ => by simp, Nat.le_refl _, fun q es2 hq h2 => ⟨es2, h2, rfl⟩, fun lo2 rl2 h2 => ?_⟩
    cases h2
    exact ⟨_, _, hl, fun _ => rfl, fun _ _ _ _ => rfl⟩
  · refine ⟨hT.pos, ?_, fun q es2 h6 => (hT.row q es2 h6).le hC (fun x hx => hother x (fun e => hT.off q x (by rw [e]; rfl) hx)), hT.gone, hT.sep, hT.off, fun j q hq => by
      by_cases hji : j = i
      · subst hji
        rw [List.getElem?_set_self hil] at hq
        cases hq
        exact row_lt hr
      · rw [List.getElem?_set_ne (Ne.symm hji)] at hq
        exact hT.idx j q hq⟩
    refine ⟨_, heap_setRow_same w b c _ T.el k1, by simp [k2], by simpa using k3, k4, fun j q es2 hq h2 => ?_⟩
    by_cases hji : j = i
    · subst hji
      rw [List.getElem?_set_self hil] at hq
      cases hq
      have h2 : T.row r = some es2 := h2
      rw [hr] at h2
      cases h2
      rw [Array.getElem?_setIfInBounds_self_of_lt (by omega)]
    · rw [List.getElem?_set_ne (Ne.symm hji)] at hq
      rw [Array.getElem?_setIfInBounds_ne (Ne.symm hji)]
      exact k5 j q es2 hq h2

/-- an own array becomes a row -/
theorem Tr.adoptRow (h : MC E hg loc kn w) {id id1 : Nat} {T : Tab} (hi : hg id = some (.tab T)) {lo : Lc} {rl : Nat → Lc} (hl : loc id = .tb lo rl) (hfz : T.fz = false) {a : Arr} (h1 : hg id1 = some (.arr a)) (hne : ¬ id1 = id) (haf : a.fz = false) (hae : a.el = T.rel) (hak : a.k = T.k)
    (out' : List Nat) (ver' : Nat) (lo' : Lc) (w' : World) (hsz : w.heap.size ≤ w'.heap.size) (hos : w'.os = w.os) (htape : w'.tape = w.tape) (hou : w'.output = w.output)
    (hblk : ∀ b, b < w.heap.size → ¬ lo.has b → w'.heap[b]? = w.heap[b]?) (hlo : ∀ b, lo'.has b → lo.has b ∨ (w.heap.size ≤ b ∧ b < w'.heap.size)) (hv : T.ver ≤ ver') (hsame : ver' = T.ver → T.out.length = out'.length ∧ lo = lo') (hidx : ∀ (i r : Nat), out'[i]? = some r → r < T.rows.length + 1)
    (hout : OutAt ⟨w', fun _ _ => False, fun _ _ => False, none⟩ { T with ver := ver', out := out', rows := T.rows ++ [some a.es] } (fun r => if r = T.rows.length then loc id1 else rl r) lo') :
    Tr E hg loc kn w (upd [(id, .tab { T with ver := ver', out := out', rows := T.rows ++ [some a.es] }), (id1, .dead)] hg)
      (fun x => if x = id then .tb lo' (fun r => if r = T.rows.length then loc id1 else rl r) else if x = id1 then .no else loc x) (fun x => kn x ∨ (x = id ∨ x = id1)) w' := by
  obtain ⟨lo2, rl2, hl2, hT⟩ := h.tab hi
  rw [hl] at hl2
  cases hl2
  obtain ⟨hk0, hA⟩ := h.arr h1
  have gid : upd [(id, .tab { T with ver := ver', out := out', rows := T.rows ++ [some a.es] }), (id1, .dead)] hg id = some (.tab { T with ver := ver', out := out', rows := T.rows ++ [some a.es] }) := by simp [upd]
  have gid1 : upd [(id, .tab { T with ver := ver', out := out', rows := T.rows ++ [some a.es] }), (id1, .dead)] hg id1 = some .dead := by simp [upd, Ne.symm hne]
  have goth : ∀ x, ¬ (x = id ∨ x = id1) → upd [(id, .tab { T with ver := ver', out := out', rows := T.rows ++ [some a.es] }), (id1, .dead)] hg x = hg x := fun x hx => by
    have e1 : ¬ id = x := fun e => hx (.inl e.symm)
    have e2 : ¬ id1 = x := fun e => hx (.inr e.symm)
    simp [upd, e1, e2]
  have hrn : rl T.rows.length = .no := hT.gone _ (by simp [Tab.row])
  -- rows of the new table
  have hrow : ∀ q es, ({ T with ver := ver', out := out', rows := T.rows ++ [some a.es] } : Tab).row q = some es → (q = T.rows.length ∧ es = a.es) ∨ (q < T.rows.length ∧ T.row q = some es) := fun q es hq => by
    unfold Tab.row at hq
    by_cases hlt : q < T.rows.length
    · rw [List.getElem?_append_left hlt] at hq
      exact .inr ⟨hlt, hq⟩
    · rw [List.getElem?_append_right (by omega)] at hq
      cases hz : q - T.rows.length with
      | zero => rw [hz] at hq; exact .inl ⟨by omega, (Option.some.inj hq).symm⟩
      | succ z => rw [hz] at hq; cases hq
  have hhas : ∀ b, (Lc.tb lo' (fun r => if r = T.rows.length then loc id1 else rl r)).has b → lo'.has b ∨ (loc id1).has b ∨ ∃ r, r ≠ T.rows.length ∧ (rl r).has b := fun b hb => by
    rcases hb with hb | ⟨r, hb⟩
    · exact .inl hb
    · dsimp only at hb
      by_cases hr : r = T.rows.length
      · rw [if_pos hr] at hb; exact .inr (.inl hb)
      · rw [if_neg hr] at hb; exact .inr (.inr ⟨r, hr, hb⟩)
  refine Tr.many h (fun x => x = id ∨ x = id1) _ _ w' hsz hos htape hou (fun x hx => ⟨goth x hx, by rw [if_neg (fun e => hx (.inl e)), if_neg (fun e => hx (.inr e))]⟩) (fun x b hx hgx hb => ?_) (fun b hb hno => hblk b hb (fun hlo => hno ⟨id, .inl rfl, by simp [hi], by rw [hl]; exact .inl hlo⟩)) (fun y b o v hy hgy hb _ hno => ?_) (fun x y b hx hy hgx hgy hbx hby => ?_) ?_ (fun hC x ob hx hgx => ?_)
  · rcases hx with rfl | rfl
    · rw [if_pos rfl] at hb
      rcases hhas b hb with h2 | h2 | ⟨r, _, h2⟩
      · rcases hlo b h2 with h3 | h3
        · exact .inl ⟨x, .inl rfl, by simp [hi], by rw [hl]; exact .inl h3⟩
        · exact .inr h3
      · exact .inl ⟨id1, .inr rfl, by simp [h1], h2⟩
      · exact .inl ⟨x, .inl rfl, by simp [hi], by rw [hl]; exact .inr ⟨r, h2⟩⟩
    · rw [if_neg hne, if_pos rfl] at hb
      exact hb.elim
  · rcases hy with rfl | rfl
    · exact absurd ⟨y, _, hi, hb, hfz⟩ hno
    · exact absurd ⟨y, _, h1, hb, fun e => by rw [haf] at e; cases e⟩ hno
  · rcases hx with rfl | rfl <;> rcases hy with rfl | rfl
    · rfl
    · rw [if_neg hne, if_pos rfl] at hby; exact hby.elim
    · rw [if_neg hne, if_pos rfl] at hbx; exact hbx.elim
    · rfl
  · refine ⟨fun x cs hk hx => ?_, fun x ar hk hx => ?_, fun x T' hk hx => ?_⟩
    · by_cases e : x = id ∨ x = id1
      · rcases e with rfl | rfl
        · rw [gid] at hx; cases hx
        · rw [gid1] at hx; cases hx
      · rw [goth x e] at hx
        exact ⟨⟨_, hx⟩, by rw [if_neg (fun e' => e (.inl e')), if_neg (fun e' => e (.inr e'))]⟩
    · by_cases e : x = id ∨ x = id1
      · rcases e with rfl | rfl
        · rw [gid] at hx; cases hx
        · rw [gid1] at hx; cases hx
      · rw [goth x e] at hx
        exact ⟨ar, hx, fun _ => ⟨rfl, rfl, by rw [if_neg (fun e' => e (.inl e')), if_neg (fun e' => e (.inr e'))]⟩, Nat.le_refl _⟩
    · by_cases e : x = id ∨ x = id1
      · rcases e with rfl | rfl
        · rw [gid] at hx
          cases hx
          refine ⟨T, hi, hv, rfl, fun e => (hsame e).1, by simp, fun q es hq h2 => ?_, fun lo3 rl3 h3 => ?_⟩
          · rcases hrow q es h2 with ⟨h3, _⟩ | ⟨_, h3⟩
            · omega
            · exact ⟨es, h3, rfl⟩
          · rw [if_pos rfl] at h3
            cases h3
            exact ⟨lo, rl, hl, fun e => (hsame e).2, fun q es hq _ => by dsimp only; rw [if_neg (by omega)]⟩
        · rw [gid1] at hx; cases hx
      · rw [goth x e] at hx
        refine ⟨T', hx, ?_⟩
        rw [if_neg (fun e' => e (.inl e')), if_neg (fun e' => e (.inr e'))]
        exact .refl _ _
  · rcases hx with rfl | rfl
    · rw [gid] at hgx
      cases hgx
      rw [if_pos rfl]
      have hoff : ∀ b, lo'.has b → ¬ ((loc id1).has b ∨ ∃ r, (rl r).has b) := fun b hb hh => by
        rcases hlo b hb with h3 | ⟨h3, h4⟩
        · rcases hh with h5 | ⟨r, h5⟩
          · exact hne (h.sep id1 x b (by simp [h1]) (by simp [hi]) h5 (by rw [hl]; exact .inl h3))
          · exact hT.off r b h3 h5
        · rcases hh with h5 | ⟨r, h5⟩
          · have := (h.fresh id1 b (by simp [h1]) h5).2
            omega
          · have := (h.fresh x b (by simp [hi]) (by rw [hl]; exact .inr ⟨r, h5⟩)).2
            omega
      refine ⟨hT.pos, ?_, fun q es hq => ?_, fun q hq => ?_, fun q q' b hb hb' => ?_, fun q b hb hb' => ?_, fun i q hq => by rw [List.length_append]; exact hidx i q hq⟩
      · cases lo' with
        | no => exact hout
        | tb _ _ => exact hout.elim
        | pl b cap => exact hout
      · skip
        rcases hrow q es hq with ⟨rfl, rfl⟩ | ⟨h2, h3⟩
        · rw [if_pos rfl]
          have : ArrAt (cxOf E hg loc w) ⟨T.rel, T.k, 0, false, a.es⟩ (loc id1) := by
            cases hl1 : loc id1 with
            | no => rw [hl1] at hA; exact hA
            | tb _ _ => rw [hl1] at hA; exact hA
            | pl b cap =>
              rw [hl1] at hA
              obtain ⟨c, g1, g2, g3, g4, g5, g6⟩ := hA
              rw [hae] at g1
              rw [hak] at g2 g5 g6
              exact ⟨c, g1, g2, g3, g4, g5, g6⟩
          exact this.le hC (fun b hb => hblk b (h.fresh id1 b (by simp [h1]) hb).2 (fun h3 => hne (h.sep id1 x b (by simp [h1]) (by simp [hi]) hb (by rw [hl]; exact .inl h3))))
        · rw [if_neg (by omega)]
          exact (hT.row q es h3).le hC (fun b hb => hblk b (h.fresh x b (by simp [hi]) (by rw [hl]; exact .inr ⟨q, hb⟩)).2 (fun h4 => hT.off q b h4 hb))
      · skip
        by_cases hqn : q = T.rows.length
        · subst hqn
          simp [Tab.row] at hq
        · rw [if_neg hqn]
          refine hT.gone q ?_
          unfold Tab.row at hq ⊢
          by_cases hlt : q < T.rows.length
          · rw [List.getElem?_append_left hlt] at hq; exact hq
          · rw [List.getElem?_eq_none (by omega)]; rfl
      · skip
        by_cases hq : q = T.rows.length <;> by_cases hq' : q' = T.rows.length
        · rw [hq, hq']
        · rw [if_pos hq] at hb
          rw [if_neg hq'] at hb'
          exact absurd (h.sep id1 x b (by simp [h1]) (by simp [hi]) hb (by rw [hl]; exact .inr ⟨q', hb'⟩)) hne
        · rw [if_neg hq] at hb
          rw [if_pos hq'] at hb'
          exact absurd (h.sep id1 x b (by simp [h1]) (by simp [hi]) hb' (by rw [hl]; exact .inr ⟨q, hb⟩)) hne
        · rw [if_neg hq] at hb
          rw [if_neg hq'] at hb'
          exact hT.sep q q' b hb hb'
      · skip
        by_cases hq : q = T.rows.length
        · rw [if_pos hq] at hb'
          exact hoff b hb (.inl hb')
        · rw [if_neg hq] at hb'
          exact hoff b hb (.inr ⟨q, hb'⟩)
    · rw [gid1] at hgx
      cases hgx
      rw [if_neg hne, if_pos rfl]
      rfl

/-- a row becomes an own array -/
theorem Tr.release (h : MC E hg loc kn w) {id nid : Nat} {T : Tab} (hi : hg id = some (.tab T)) {lo : Lc} {rl : Nat → Lc} (hl : loc id = .tb lo rl) (hfz : T.fz = false) (hn : ¬ kn nid) {r : Nat} {es : List (List D)} (hr : T.row r = some es) :
    Tr E hg loc kn w (upd [(nid, .arr (T.arr es)), (id, .tab { T with rows := T.rows.set r none })] hg) (fun x => if x = nid then rl r else if x = id then .tb lo (fun q => if q = r then .no else rl q) else loc x) (fun x => kn x ∨ (x = nid ∨ x = id)) w := by
  obtain ⟨lo2, rl2, hl2, hT⟩ := h.tab hi
  rw [hl] at hl2
  cases hl2
  have hki : kn id := (h.objs id _ hi).1
  have hne : ¬ id = nid := fun e => hn (e ▸ hki)
  have hnn : hg nid = none := by
    cases e : hg nid with
    | none => rfl
    | some x => exact absurd (h.objs nid x e).1 hn
  have hrlt := row_lt hr
  have gn : upd [(nid, .arr (T.arr es)), (id, .tab { T with rows := T.rows.set r none })] hg nid = some (.arr (T.arr es)) := by simp [upd]
  have gid : upd [(nid, .arr (T.arr es)), (id, .tab { T with rows := T.rows.set r none })] hg id = some (.tab { T with rows := T.rows.set r none }) := by simp [upd, Ne.symm hne]
  have goth : ∀ x, ¬ (x = nid ∨ x = id) → upd [(nid, .arr (T.arr es)), (id, .tab { T with rows := T.rows.set r none })] hg x = hg x := fun x hx => by
    have e1 : ¬ nid = x := fun e => hx (.inl e.symm)
    have e2 : ¬ id = x := fun e => hx (.inr e.symm)
    simp [upd, e1, e2]
  have hrow : ∀ q xs, ({ T with rows := T.rows.set r none } : Tab).row q = some xs → q ≠ r ∧ T.row q = some xs := fun q xs hq => by
    by_cases hqr : q = r
    · subst hqr
      rw [row_set_self hrlt] at hq
      cases hq
    · rw [row_set_ne hqr] at hq
      exact ⟨hqr, hq⟩
  have hall : ∀ b, (rl r).has b → (Lc.tb lo rl).has b := fun b hb => .inr ⟨r, hb⟩
  have hpart : ∀ b, (Lc.tb lo (fun q => if q = r then Lc.no else rl q)).has b → (Lc.tb lo rl).has b ∧ ¬ (rl r).has b := fun b hb => by
    rcases hb with hb | ⟨q, hb⟩
    · exact ⟨.inl hb, hT.off r b hb⟩
    · dsimp only at hb
      by_cases hq : q = r
      · rw [if_pos hq] at hb; exact hb.elim
      · rw [if_neg hq] at hb
        exact ⟨.inr ⟨q, hb⟩, fun h2 => hq (hT.sep q r b hb h2)⟩
  refine Tr.many h (fun x => x = nid ∨ x = id) _ _ w (Nat.le_refl _) rfl rfl rfl (fun x hx => ⟨goth x hx, by rw [if_neg (fun e => hx (.inl e)), if_neg (fun e => hx (.inr e))]⟩) (fun x b hx hgx hb => ?_) (fun b hb hno => rfl) (fun y b o v hy hgy hb _ hno => ?_) (fun x y b hx hy hgx hgy hbx hby => ?_) ?_ (fun hC x ob hx hgx => ?_)
  · left
    refine ⟨id, .inr rfl, by simp [hi], ?_⟩
    rw [hl]
    rcases hx with rfl | rfl
    · rw [if_pos rfl] at hb; exact hall b hb
    · rw [if_neg hne, if_pos rfl] at hb; exact (hpart b hb).1
  · rcases hy with rfl | rfl
    · exact absurd hnn hgy
    · exact absurd ⟨y, _, hi, hb, hfz⟩ hno
  · rcases hx with rfl | rfl <;> rcases hy with rfl | rfl
    · rfl
    · rw [if_pos rfl] at hbx
      rw [if_neg hne, if_pos rfl] at hby
      exact absurd hbx (hpart b hby).2
    · rw [if_pos rfl] at hby
      rw [if_neg hne, if_pos rfl] at hbx
      exact absurd hby (hpart b hbx).2
    · rfl
  · refine ⟨fun x cs hk hx => ?_, fun x ar hk hx => ?_, fun x T' hk hx => ?_⟩
    · by_cases e : x = nid ∨ x = id
      · rcases e with rfl | rfl
        · exact absurd hk hn
        · rw [gid] at hx; cases hx
      · rw [goth x e] at hx
        exact ⟨⟨_, hx⟩, by rw [if_neg (fun e' => e (.inl e')), if_neg (fun e' => e (.inr e'))]⟩
    · by_cases e : x = nid ∨ x = id
      · rcases e with rfl | rfl
        · exact absurd hk hn
        · rw [gid] at hx; cases hx
      · rw [goth x e] at hx
        exact ⟨ar, hx, fun _ => ⟨rfl, rfl, by rw [if_neg (fun e' => e (.inl e')), if_neg (fun e' => e (.inr e'))]⟩, Nat.le_refl _⟩
    · by_cases e : x = nid ∨ x = id
      · rcases e with rfl | rfl
        · exact absurd hk hn
        · rw [gid] at hx
          cases hx
          refine ⟨T, hi, Nat.le_refl _, rfl, fun _ => rfl, by simp, fun q xs hq h2 => ⟨xs, (hrow q xs h2).2, rfl⟩, fun lo3 rl3 h3 => ?_⟩
          rw [if_neg hne, if_pos rfl] at h3
          cases h3
          exact ⟨lo, rl, hl, fun _ => rfl, fun q xs hq h2 => by dsimp only; rw [if_neg (hrow q xs h2).1]⟩
      · rw [goth x e] at hx
        refine ⟨T', hx, ?_⟩
        rw [if_neg (fun e' => e (.inl e')), if_neg (fun e' => e (.inr e'))]
        exact .refl _ _
  · rcases hx with rfl | rfl
    · rw [gn] at hgx
      cases hgx
      rw [if_pos rfl]
      exact ⟨hT.pos, (hT.row r es hr).le hC (fun _ _ => rfl)⟩
    · rw [gid] at hgx
      cases hgx
      rw [if_neg hne, if_pos rfl]
      refine ⟨hT.pos, ?_, fun q xs hq => ?_, fun q hq => ?_, fun q q' b hb hb' => ?_, fun q b hb hb' => ?_, fun i q hq => by rw [List.length_set]; exact hT.idx i q hq⟩
      · have hout := hT.out
        cases lo with
        | no => exact hout
        | tb _ _ => exact hout.elim
        | pl b cap =>
          obtain ⟨c, k1, k2, k3, k4, k5⟩ := hout
          refine ⟨c, k1, k2, k3, k4, fun i q xs hiq hq => ?_⟩
          obtain ⟨h2, h3⟩ := hrow q xs hq
          dsimp only
          rw [if_neg h2]
          exact k5 i q xs hiq h3
      · obtain ⟨h2, h3⟩ := hrow q xs hq
        skip
        rw [if_neg h2]
        exact (hT.row q xs h3).le hC (fun _ _ => rfl)
      · skip
        by_cases hqr : q = r
        · rw [if_pos hqr]
        · rw [if_neg hqr]
          rw [row_set_ne hqr] at hq
          exact hT.gone q hq
      · skip
        by_cases hq : q = r
        · rw [if_pos hq] at hb; exact hb.elim
        · by_cases hq' : q' = r
          · rw [if_pos hq'] at hb'; exact hb'.elim
          · rw [if_neg hq] at hb
            rw [if_neg hq'] at hb'
            exact hT.sep q q' b hb hb'
      · skip
        by_cases hq : q = r
        · rw [if_pos hq] at hb'; exact hb'.elim
        · rw [if_neg hq] at hb'
          exact hT.off q b hb hb'

/-- a table without rows -/
theorem Tr.newTab (h : MC E hg loc kn w) {id : Nat} (hid : ¬ kn id) (T : Tab) (hk : 0 < T.k) (ho : T.out = []) (hr : T.rows = []) :
    Tr E hg loc kn w (upd [(id, .tab T)] hg) (locAdd loc id (.tb .no fun _ => .no)) (knAdd kn id) w := by
  have hn : hg id = none := by
    cases e : hg id with
    | none => rfl
    | some x => exact absurd (h.objs id x e).1 hid
  have hno : ∀ b, ¬ (Lc.tb .no fun _ => .no).has b := fun b hb => by
    rcases hb with hb | ⟨_, hb⟩ <;> exact hb
  refine Tr.one h id _ (.tb .no fun _ => .no) w (Nat.le_refl _) rfl rfl rfl (fun b hb => absurd hb (hno b)) (fun b _ _ => rfl) (fun b o' v h1 => absurd hn h1) (fun cs _ hk => absurd hk hid) (fun a' _ hk => absurd hk hid) (fun T' _ hk => absurd hk hid) (fun _ _ => ?_)
  exact ⟨hk, ho, fun r es he => by simp [Tab.row, hr] at he, fun _ _ => rfl, fun _ _ _ hb => hb.elim, fun _ _ hb => hb.elim, fun i q hq => by rw [ho] at hq; cases hq⟩
end
end Go.Pm
