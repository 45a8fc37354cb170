/-
  The pure machine, part 12: code, loops, functions.
-/
import Derived.Test.YtaipmgpgklilkaaPmD
import Derived.Scope
set_option linter.unusedSimpArgs false
set_option linter.unusedVariables false
namespace Go.Pm
open Go.RowKit

/-! ### leaving a state for a smaller one -/
mutual
def refsLt (n : Nat) : PV → Prop
  | .sr id _ => id < n
  | .pr id _ _ _ => id < n
  | .st id _ => id < n
  | .tv id _ _ _ => id < n
  | .po id _ _ => id < n
  | .sw id _ => id < n
  | .pw id _ _ _ => id < n
  | .lt cs => refsLts n cs
  | .lp cs => refsLts n cs
  | .agg cs => refsLts n cs
  | .tup cs => refsLts n cs
  | .fn _ cs => refsLts n cs
  | .any => True
  | .d _ => True
  | .nl => True
  | .yd => True
  | .bw _ => True
def refsLts (n : Nat) : List PV → Prop
  | [] => True
  | p :: l => refsLt n p ∧ refsLts n l
end
theorem refsLts_get {n : Nat} : ∀ {l : List PV}, refsLts n l → ∀ (j : Nat) (p : PV), l[j]? = some p → refsLt n p
  | [], _, j, p, h => by cases h
  | q :: l, h, j, p, hj => by
    cases j with
    | zero => cases hj; exact h.1
    | succ j => exact refsLts_get h.2 j p hj
def slotsLt (n : Nat) : Slots → Prop
  | [] => True
  | (_, p) :: l => refsLt n p ∧ slotsLt n l
def heapLt (n : Nat) : Heap → Prop
  | [] => True
  | (id, .box cs) :: l => id < n ∧ refsLts n cs ∧ heapLt n l
  | (id, _) :: l => id < n ∧ heapLt n l
def subT (t : Slots) : Slots → Prop
  | [] => True
  | (u, p) :: l => get t u = p ∧ subT t l
def subH (h : Heap) : Heap → Prop
  | [] => True
  | (id, ob) :: l => hget h id = some ob ∧ subH h l
/-- τ says no more than σ -/
def Sub (τ σ : St) : Prop := τ.m = σ.m ∧ subT σ.t τ.t ∧ subH σ.h τ.h ∧ slotsLt τ.n τ.t ∧ heapLt τ.n τ.h

theorem get_sub {t : Slots} : ∀ {s : Slots}, subT t s → ∀ u, get s u = .any ∨ get s u = get t u
  | [], _, u => .inl rfl
  | (v, p) :: s, h, u => by
    simp only [get]
    split
    · rename_i e; subst e; exact .inr h.1.symm
    · exact get_sub h.2 u
theorem get_lt {n : Nat} : ∀ {s : Slots}, slotsLt n s → ∀ u, refsLt n (get s u)
  | [], _, u => trivial
  | (v, p) :: s, h, u => by
    simp only [get]
    split
    · exact h.1
    · exact get_lt h.2 u
theorem hget_sub {h : Heap} : ∀ {s : Heap}, subH h s → ∀ id ob, hget s id = some ob → hget h id = some ob
  | [], _, id, ob, e => by cases e
  | (v, p) :: s, hh, id, ob, e => by
    simp only [hget] at e
    split at e
    · rename_i e2; subst e2; rw [← e]; exact hh.1
    · exact hget_sub hh.2 id ob e
theorem hget_lt {n : Nat} : ∀ {s : Heap}, heapLt n s → ∀ id ob, hget s id = some ob → id < n ∧ (∀ cs, ob = .box cs → refsLts n cs)
  | [], _, id, ob, e => by cases e
  | (v, o) :: s, hh, id, ob, e => by
    simp only [hget] at e
    have h1 : v < n ∧ (∀ cs, o = .box cs → refsLts n cs) ∧ heapLt n s := by
      cases o with
      | box cs => exact ⟨hh.1, fun cs' h => by cases h; exact hh.2.1, hh.2.2⟩
      | arr a => exact ⟨hh.1, fun cs' h => (by cases h), hh.2⟩
      | tab a => exact ⟨hh.1, fun cs' h => (by cases h), hh.2⟩
      | dead => exact ⟨hh.1, fun cs' h => (by cases h), hh.2⟩
    split at e
    · rename_i e2
      subst e2
      simp only [Option.some.injEq] at e
      subst e
      exact ⟨h1.1, h1.2.1⟩
    · exact hget_lt h1.2.2 id ob e

section
variable {P : Program} {E : Env} {loc : Locs} {kn : Nat → Prop} {w : World} {a : Act} {σ : St}

theorem PRep.sub {C C' : Cx} {hg hg' : Nat → Option Ob} (hC : C.le C') (hh : ∀ id ob, hg' id = some ob → hg id = some ob) {n : Nat} {p : PV} {v : Value} (h : PRep C hg loc kn p v) (hl : refsLt n p) : PRep C' hg' loc (fun id => kn id ∧ id < n) p v := by
  induction h with
  | any v => exact .any v
  | d h => exact .d (h.le hC)
  | nl => exact .nl
  | yd h => exact .yd (hC.y ▸ h)
  | bw f hcell hrep =>
    refine .bw f (fun j p h1 => ?_) (fun j p h1 => (hrep j p h1).le hC)
    obtain ⟨a1, a2, a3⟩ := hcell j p h1
    exact ⟨hC.cell _ _ _ a1 a3, a2, hC.ow _ _ _ a1 a3⟩
  | sr hk ho hv h => exact .sr ⟨hk, by simpa [refsLt] using hl⟩ ho (fun a ha => hv a (hh _ _ ha)) (fun a ha => h a (hh _ _ ha))
  | pr hk ho hv hb ha => exact .pr ⟨hk, by simpa [refsLt] using hl⟩ ho (fun a h => hv a (hh _ _ h)) (fun cs h => hb cs (hh _ _ h)) (fun a h => ha a (hh _ _ h))
  | lt f hc hm hcell _ ih =>
    refine .lt f hc hm (fun j p h1 => ?_) (fun j p h1 => ih j p h1 (refsLts_get (by simpa [refsLt] using hl) j p h1))
    obtain ⟨a1, a2, a3, a4⟩ := hcell j p h1
    exact ⟨hC.cell _ _ _ a1 a3, a2, hC.ow _ _ _ a1 a3, hC.am _ _ _ a1 a3 a4⟩
  | lp f hcell _ ih =>
    refine .lp f (fun j p h1 => ?_) (fun j p h1 => ih j p h1 (refsLts_get (by simpa [refsLt] using hl) j p h1))
    obtain ⟨a1, a2, a3, a4⟩ := hcell j p h1
    exact ⟨hC.cell _ _ _ a1 a3, a2, hC.ow _ _ _ a1 a3, hC.am _ _ _ a1 a3 a4⟩
  | st hk ho hv h => exact .st ⟨hk, by simpa [refsLt] using hl⟩ ho (fun T hT => hv T (hh _ _ hT)) (fun T hT => h T (hh _ _ hT))
  | tv hk ho hv h => exact .tv ⟨hk, by simpa [refsLt] using hl⟩ ho (fun T hT => hv T (hh _ _ hT)) (fun T hT => h T (hh _ _ hT))
  | po hk ho hv h => exact .po ⟨hk, by simpa [refsLt] using hl⟩ ho (fun T hT => hv T (hh _ _ hT)) (fun T hT => h T (hh _ _ hT))
  | sw hk ho hv h => exact .sw ⟨hk, by simpa [refsLt] using hl⟩ ho (fun T hT => hv T (hh _ _ hT)) (fun T es hT => h T es (hh _ _ hT))
  | pw hk ho hv h => exact .pw ⟨hk, by simpa [refsLt] using hl⟩ ho (fun T hT => hv T (hh _ _ hT)) (fun T es hT => h T es (hh _ _ hT))
  | agg hln _ ih => exact .agg hln (fun j p v h1 h2 => ih j p v h1 h2 (refsLts_get (by simpa [refsLt] using hl) j p h1))
  | tup hln _ ih => exact .tup hln (fun j p v h1 h2 => ih j p v h1 h2 (refsLts_get (by simpa [refsLt] using hl) j p h1))
  | fn hln _ ih => exact .fn hln (fun j p v h1 h2 => ih j p v h1 h2 (refsLts_get (by simpa [refsLt] using hl) j p h1))

theorem Conc.sub {τ : St} (h : Conc E σ loc kn a w) (hs : Sub τ σ) : Conc E τ loc (fun id => kn id ∧ id < τ.n) a w := by
  obtain ⟨h1, h2, h3, h4, h5⟩ := hs
  have hh := fun id ob => hget_sub h3 id ob
  have hC : Cx.le (cxOf E (hget σ.h) loc w) (cxOf E (hget τ.h) loc w) := ⟨fun _ _ _ h _ => h, fun b o v _ g1 ⟨id, ob, g2, g3, g4⟩ => g1 ⟨id, ob, hh id ob g2, g3, g4⟩, fun _ _ _ _ _ h => h, rfl⟩
  refine ⟨⟨h.mc.ext, h.mc.amlt, fun id ob hi => ?_, fun id id' b g1 g2 => ?_, fun id b g1 => ?_, fun id b o g1 => ?_⟩, fun u => ?_, h.size.trans h1.symm, fun id hi => hi.2⟩
  · obtain ⟨g1, g2⟩ := h.mc.objs id ob (hh id ob hi)
    obtain ⟨g3, g4⟩ := hget_lt h5 id ob hi
    refine ⟨⟨g1, g3⟩, ?_⟩
    cases ob with
    | arr ar => exact ⟨g2.1, ArrAt.le hC (fun _ _ => rfl) g2.2⟩
    | tab T => exact TabAt.le hC (fun _ _ => rfl) g2
    | dead => exact g2
    | box cs =>
      have g2 : BoxAt _ _ _ _ cs (loc id) := g2
      show BoxAt _ _ _ _ cs (loc id)
      cases hl : loc id with
      | no => rw [hl] at g2; exact g2
      | tb lo rl => rw [hl] at g2; exact g2
      | pl b cap =>
        rw [hl] at g2
        obtain ⟨c, e, k1, k2, k3⟩ := g2
        refine ⟨c, e, k1, k2, fun j p hj => ?_⟩
        obtain ⟨u, k4, k5, k6⟩ := k3 j p hj
        exact ⟨u, k4, k5, k6.sub hC hh (refsLts_get (g4 cs rfl) j p hj)⟩
  · obtain ⟨x, hx⟩ := Option.ne_none_iff_exists'.1 g1
    obtain ⟨y, hy⟩ := Option.ne_none_iff_exists'.1 g2
    exact h.mc.sep id id' b (by simp [hh _ _ hx]) (by simp [hh _ _ hy])
  · obtain ⟨x, hx⟩ := Option.ne_none_iff_exists'.1 g1
    exact h.mc.fresh id b (by simp [hh _ _ hx])
  · obtain ⟨x, hx⟩ := Option.ne_none_iff_exists'.1 g1
    exact h.mc.amno id b o (by simp [hh _ _ hx])
  · rcases get_sub h2 u with e | e
    · rw [e]; exact .any _
    · have := get_lt h4 u
      rw [e] at this ⊢
      exact (h.slots u).sub hC hh this

/-- an abstract state, and how its frame came there -/
structure CI (E : Env) (Φ : Fr) (σ : St) (loc : Locs) (kn : Nat → Prop) (a : Act) (w : World) : Prop where
  c : Conc E σ loc kn a w
  i : In E Φ (hget σ.h) loc kn w
  le : Φ.n ≤ σ.n
  nod : DefsOk Φ.w.heap.size w a.defers
theorem CI.sub {Φ : Fr} {τ : St} (h : CI E Φ σ loc kn a w) (hs : Sub τ σ) (hn : Φ.n ≤ τ.n) : CI E Φ τ loc (fun id => kn id ∧ id < τ.n) a w :=
  ⟨h.c.sub hs, h.i.sub (fun id ob => hget_sub hs.2.2.1 id ob) hn, hn, h.nod⟩

/-! ### what may be said otherwise ahead of a loop -/
inductive Gh where
  | arr (u : Nat) (el : TypeId) (k : Nat)
  | tab (u : Nat) (el rel : TypeId) (k : Nat)
  | arrB (id j : Nat) (el : TypeId) (k : Nat)
  | tabB (id j : Nat) (el rel : TypeId) (k : Nat)
  | frz (id : Nat)
def ghost (g : Gh) (σ : St) (K : St → Prop) : Prop := match g with
  | .arr u el k => Side (get σ.t u = .nl ∧ 0 < k) σ fun σ => K ⟨σ.m, (u, .sr σ.n 0) :: σ.t, (σ.n, .arr ⟨el, k, 0, false, []⟩) :: σ.h, σ.n + 1⟩
  | .tab u el rel k => Side (get σ.t u = .nl ∧ 0 < k) σ fun σ => K ⟨σ.m, (u, .st σ.n 0) :: σ.t, (σ.n, .tab ⟨el, rel, k, 0, false, [], []⟩) :: σ.h, σ.n + 1⟩
  | .arrB id j el k => Got (hget σ.h id) σ fun σ ob => match ob with
    | .box cs => Side (cs[j]? = some .nl ∧ 0 < k) σ fun σ => K ⟨σ.m, σ.t, (id, .box (cs.set j (.sr σ.n 0))) :: (σ.n, .arr ⟨el, k, 0, false, []⟩) :: σ.h, σ.n + 1⟩
    | _ => False
  | .tabB id j el rel k => Got (hget σ.h id) σ fun σ ob => match ob with
    | .box cs => Side (cs[j]? = some .nl ∧ 0 < k) σ fun σ => K ⟨σ.m, σ.t, (id, .box (cs.set j (.st σ.n 0))) :: (σ.n, .tab ⟨el, rel, k, 0, false, [], []⟩) :: σ.h, σ.n + 1⟩
    | _ => False
  | .frz id => K ⟨σ.m, σ.t, frz (hget σ.h) [id] ++ σ.h, σ.n⟩
def ghosts : List Gh → St → (St → Prop) → Prop
  | [], σ, K => K σ
  | g :: gs, σ, K => ghost g σ fun σ => ghosts gs σ K

theorem Conc.tr0 {τ : St} {loc' : Locs} {kn' : Nat → Prop} (h : Conc E σ loc kn a w) (ht : Tr E (hget σ.h) loc kn w (hget τ.h) loc' kn' w) (hm : τ.m = σ.m) (hs : ∀ u, get τ.t u = get σ.t u ∨ PRep (cxOf E (hget τ.h) loc' w) (hget τ.h) loc' kn' (get τ.t u) (a.tmps.getD u undef)) (hk : ∀ id, kn' id → id < τ.n) : Conc E τ loc' kn' a w :=
  ⟨ht.mc, fun u => by
    rcases hs u with e | e
    · rw [e]; exact (h.slots u).le ht.cx ht.rf ht.kn
    · exact e, h.size.trans hm.symm, hk⟩
theorem CI.tr {Φ : Fr} {τ : St} {loc' : Locs} {kn' : Nat → Prop} (h : CI E Φ σ loc kn a w) (ht : Tr E (hget σ.h) loc kn w (hget τ.h) loc' kn' w) (hm : τ.m = σ.m) (hs : ∀ u, get τ.t u = get σ.t u ∨ PRep (cxOf E (hget τ.h) loc' w) (hget τ.h) loc' kn' (get τ.t u) (a.tmps.getD u undef)) (hk : ∀ id, kn' id → id < τ.n) (hn : σ.n ≤ τ.n) : CI E Φ τ loc' kn' a w :=
  ⟨h.c.tr0 ht hm hs hk, h.i.step h.c.mc ht, Nat.le_trans h.le hn, h.nod.tr h.c.mc ht⟩

theorem setBoxGhost {id b cap j : Nat} {cs : List PV} {p : PV} {hg : Nat → Option Ob} (h : MC E hg loc kn w) (hi : hg id = some (.box cs)) (hp : ∀ u, cs[j]? = some .nl → PRep (cxOf E hg loc w) hg loc kn .nl u → PRep (cxOf E hg loc w) hg loc kn p u) (hj : cs[j]? = some .nl) (hl : loc id = .pl b cap) :
    Tr E hg loc kn w (upd [(id, .box (cs.set j p))] hg) (locAdd loc id (.pl b cap)) (knAdd kn id) w := by
  obtain ⟨b', cap', c, e, hl', h1, h2, h3⟩ := h.box hi
  rw [hl] at hl'
  cases hl'
  refine Tr.one h id _ (.pl b cap) w (Nat.le_refl _) rfl rfl rfl (fun x hx => .inl ⟨by simp [hi], by rw [hl]; exact hx⟩) (fun x _ _ => rfl) (fun x o v _ hx _ hno => absurd ⟨id, _, hi, hx, trivial⟩ hno) (fun x _ _ => ⟨⟨cs, hi⟩, hl.symm⟩) (fun a ha _ => by cases ha) (fun T hT _ => by cases hT) (fun hC hR => ?_)
  refine ⟨c, e, h1, by simpa using h2, fun i q hq => ?_⟩
  by_cases hij : i = j
  · subst hij
    have hil : i < cs.length := (List.getElem?_eq_some_iff.1 hj).1
    rw [List.getElem?_set_self hil] at hq
    cases hq
    obtain ⟨u, g1, g2, g3⟩ := h3 i _ hj
    exact ⟨u, g1, g2, (hp u hj g3).le hC hR (fun _ h => .inl h)⟩
  · rw [List.getElem?_set_ne (Ne.symm hij)] at hq
    obtain ⟨u, g1, g2, g3⟩ := h3 i q hq
    exact ⟨u, g1, g2, g3.le hC hR (fun _ h => .inl h)⟩

theorem ghost_sound {Φ : Fr} {g : Gh} {K : St → Prop} (h : ghost g σ K) (hci : CI E Φ σ loc kn a w) : ∃ τ loc' kn', K τ ∧ CI E Φ τ loc' kn' a w := by
  have hc := hci.c
  have hnew : ¬ kn σ.n := fun hh => absurd (hc.known _ hh) (Nat.lt_irrefl _)
  have bound : ∀ x, knAdd kn σ.n x → x < σ.n + 1 := fun x hx => by
    rcases hx with hx | hx
    · have := hc.known x hx; omega
    · omega
  have newA : ∀ (el : TypeId) (k : Nat), 0 < k → Tr E (hget σ.h) loc kn w (upd [(σ.n, .arr ⟨el, k, 0, false, []⟩)] (hget σ.h)) (locAdd loc σ.n .no) (knAdd kn σ.n) w ∧ ∀ C u, PRep C (upd [(σ.n, .arr ⟨el, k, 0, false, []⟩)] (hget σ.h)) (locAdd loc σ.n .no) (knAdd kn σ.n) .nl u → PRep C (upd [(σ.n, .arr ⟨el, k, 0, false, []⟩)] (hget σ.h)) (locAdd loc σ.n .no) (knAdd kn σ.n) (.sr σ.n 0) u := fun el k hk => by
    refine ⟨Tr.newNil hc.mc hnew ⟨el, k, 0, false, []⟩ hk rfl, fun C u hu => ?_⟩
    cases hu
    refine .sr (.inr rfl) rfl (fun ar h' => Nat.zero_le _) (fun ar h' _ => ?_)
    rw [show locAdd loc σ.n .no σ.n = .no from if_pos rfl]
  have newT : ∀ (el rel : TypeId) (k : Nat), 0 < k → Tr E (hget σ.h) loc kn w (upd [(σ.n, .tab ⟨el, rel, k, 0, false, [], []⟩)] (hget σ.h)) (locAdd loc σ.n (.tb .no fun _ => .no)) (knAdd kn σ.n) w ∧ ∀ C u, PRep C (upd [(σ.n, .tab ⟨el, rel, k, 0, false, [], []⟩)] (hget σ.h)) (locAdd loc σ.n (.tb .no fun _ => .no)) (knAdd kn σ.n) .nl u → PRep C (upd [(σ.n, .tab ⟨el, rel, k, 0, false, [], []⟩)] (hget σ.h)) (locAdd loc σ.n (.tb .no fun _ => .no)) (knAdd kn σ.n) (.st σ.n 0) u := fun el rel k hk => by
    refine ⟨Tr.newTab hc.mc hnew ⟨el, rel, k, 0, false, [], []⟩ hk rfl rfl, fun C u hu => ?_⟩
    cases hu
    refine .st (.inr rfl) rfl (fun T h' => Nat.zero_le _) (fun T h' _ lo rl hl => ?_)
    rw [show locAdd loc σ.n (.tb .no fun _ => .no) σ.n = .tb .no fun _ => .no from if_pos rfl] at hl
    cases hl
    rfl
  cases g with
  | arr u el k =>
    obtain ⟨⟨h1, hk⟩, h⟩ := h
    obtain ⟨ht, hp⟩ := newA el k hk
    have hU : hget ((σ.n, .arr ⟨el, k, 0, false, []⟩) :: σ.h) = upd [(σ.n, .arr ⟨el, k, 0, false, []⟩)] (hget σ.h) := funext fun t => hget_append [_] σ.h t
    refine ⟨_, _, _, h, hci.tr (by rw [hU]; exact ht) rfl (fun v => ?_) bound (Nat.le_succ _)⟩
    simp only [get, hU]
    split
    · rename_i e
      subst e
      right
      have := (hc.slots u).le ht.cx ht.rf ht.kn
      rw [h1] at this
      exact hp _ _ this
    · exact .inl rfl
  | tab u el rel k =>
    obtain ⟨⟨h1, hk⟩, h⟩ := h
    obtain ⟨ht, hp⟩ := newT el rel k hk
    have hU : hget ((σ.n, .tab ⟨el, rel, k, 0, false, [], []⟩) :: σ.h) = upd [(σ.n, .tab ⟨el, rel, k, 0, false, [], []⟩)] (hget σ.h) := funext fun t => hget_append [_] σ.h t
    refine ⟨_, _, _, h, hci.tr (by rw [hU]; exact ht) rfl (fun v => ?_) bound (Nat.le_succ _)⟩
    simp only [get, hU]
    split
    · rename_i e
      subst e
      right
      have := (hc.slots u).le ht.cx ht.rf ht.kn
      rw [h1] at this
      exact hp _ _ this
    · exact .inl rfl
  | arrB id j el k =>
    unfold ghost at h
    dsimp only at h
    obtain ⟨ob, hob, h⟩ := got_spec h
    split at h
    · rename_i cs
      obtain ⟨⟨h1, hk⟩, h⟩ := h
      obtain ⟨ht, hp⟩ := newA el k hk
      have hid : ¬ σ.n = id := fun e => hnew (e ▸ (hc.mc.objs _ _ hob).1)
      have hob' : upd [(σ.n, .arr ⟨el, k, 0, false, []⟩)] (hget σ.h) id = some (.box cs) := by simp [upd, hid, hob]
      obtain ⟨b, cap, c, e, hl, _⟩ := ht.mc.box hob'
      have ht2 := ht.trans (setBoxGhost (j := j) (p := .sr σ.n 0) ht.mc hob' (fun u _ hu => hp _ u hu) h1 hl)
      rw [← upd_cons] at ht2
      have hU : hget ((id, .box (cs.set j (.sr σ.n 0))) :: (σ.n, .arr ⟨el, k, 0, false, []⟩) :: σ.h) = upd [(id, .box (cs.set j (.sr σ.n 0))), (σ.n, .arr ⟨el, k, 0, false, []⟩)] (hget σ.h) := funext fun t => hget_append [_, _] σ.h t
      refine ⟨_, _, _, h, hci.tr (by rw [hU]; exact ht2) rfl (fun v => .inl rfl) (fun x hx => ?_) (Nat.le_succ _)⟩
      rcases hx with hx | hx
      · exact bound x hx
      · subst hx; have := hc.known _ (hc.mc.objs _ _ hob).1; show _ < σ.n + 1; omega
    · exact h.elim
  | tabB id j el rel k =>
    unfold ghost at h
    dsimp only at h
    obtain ⟨ob, hob, h⟩ := got_spec h
    split at h
    · rename_i cs
      obtain ⟨⟨h1, hk⟩, h⟩ := h
      obtain ⟨ht, hp⟩ := newT el rel k hk
      have hid : ¬ σ.n = id := fun e => hnew (e ▸ (hc.mc.objs _ _ hob).1)
      have hob' : upd [(σ.n, .tab ⟨el, rel, k, 0, false, [], []⟩)] (hget σ.h) id = some (.box cs) := by simp [upd, hid, hob]
      obtain ⟨b, cap, c, e, hl, _⟩ := ht.mc.box hob'
      have ht2 := ht.trans (setBoxGhost (j := j) (p := .st σ.n 0) ht.mc hob' (fun u _ hu => hp _ u hu) h1 hl)
      rw [← upd_cons] at ht2
      have hU : hget ((id, .box (cs.set j (.st σ.n 0))) :: (σ.n, .tab ⟨el, rel, k, 0, false, [], []⟩) :: σ.h) = upd [(id, .box (cs.set j (.st σ.n 0))), (σ.n, .tab ⟨el, rel, k, 0, false, [], []⟩)] (hget σ.h) := funext fun t => hget_append [_, _] σ.h t
      refine ⟨_, _, _, h, hci.tr (by rw [hU]; exact ht2) rfl (fun v => .inl rfl) (fun x hx => ?_) (Nat.le_succ _)⟩
      rcases hx with hx | hx
      · exact bound x hx
      · subst hx; have := hc.known _ (hc.mc.objs _ _ hob).1; show _ < σ.n + 1; omega
    · exact h.elim
  | frz id =>
    obtain ⟨loc', kn', ht, hk⟩ := Tr.frz hc.mc [id]
    have hU : hget (frz (hget σ.h) [id] ++ σ.h) = upd (frz (hget σ.h) [id]) (hget σ.h) := funext fun t => hget_append _ σ.h t
    exact ⟨_, loc', kn', h, hci.tr (by rw [hU]; exact ht) rfl (fun v => .inl rfl) (fun x hx => hc.known x (hk x hx)) (Nat.le_refl _)⟩
theorem ghosts_sound {Φ : Fr} {K : St → Prop} : ∀ {gs : List Gh} {σ : St} {loc : Locs} {kn : Nat → Prop}, ghosts gs σ K → CI E Φ σ loc kn a w → ∃ τ loc' kn', K τ ∧ CI E Φ τ loc' kn' a w
  | [], σ, loc, kn, h, hc => ⟨σ, loc, kn, h, hc⟩
  | g :: gs, σ, loc, kn, h, hc => by
    obtain ⟨τ, l, k, h1, h2⟩ := ghost_sound h hc
    exact ghosts_sound h1 h2

/-! ### code -/
def seqK (k : St → Prop) (K : Exit → St → Prop) : Exit → St → Prop
  | .normal, σ => k σ
  | e, σ => K e σ
def blockK (id : Nat) (K : Exit → St → Prop) : Exit → St → Prop
  | .exit i, σ => if i = id then K .normal σ else K (.exit i) σ
  | e, σ => K e σ
def loopK {α : Type} (inv : α → St) (φ : α → Prop) (m : α → Nat) (x : α) (K : Exit → St → Prop) : Exit → St → Prop
  | .normal, σ => ∃ y, φ y ∧ m y < m x ∧ Sub (inv y) σ
  | e, σ => K e σ
def CondS (c : PV) (σ : St) (k1 k2 : St → Prop) : Prop := match c with
  | .d (.v (.bool b)) => IfB b σ k1 k2
  | _ => False
def scopeK (K : Exit → St → Prop) : Exit → St → Prop
  | .goto _, _ => False
  | e, σ => K e σ
def vc (P : Program) (M : Md) : Code → (Exit → St → Prop) → St → Prop
  | .skip, K, σ => K .normal σ
  | .region _ ops true, K, σ => vcOps P noM ops ops.toList 0 [] (fun τ log => Side (raceOk ops log = true) (bump τ ops.size) (K .normal)) σ
  | .region _ ops false, K, σ => vcOps P M ops ops.toList 0 [] (fun τ _ => K .normal (bump τ ops.size)) σ
  | .seq x y, K, σ => vc P M x (seqK (vc P M y K) K) σ
  | .cond c x y, K, σ => CondS (ev σ.t c) σ (vc P M x K) (vc P M y K)
  | .block id b, K, σ => vc P M b (blockK id K) σ
  | .loop b, K, σ => ∃ (gs : List Gh) (α : Type) (inv : α → St) (φ : α → Prop) (m : α → Nat) (x0 : α), φ x0 ∧ (∀ x, φ x → σ.n ≤ (inv x).n) ∧ ghosts gs σ (Sub (inv x0)) ∧ ∀ x, φ x → vc P M b (loopK inv φ m x K) (inv x)
  | .exit id, K, σ => K (.exit id) σ
  | .scope b, K, σ => vc P M b (scopeK K) σ
  | .label _, K, σ => K .normal σ
  | .ret, K, σ => K .ret σ
  | .rangeFunc g ps a b, K, σ => M.R g ps a b K σ
  | _, _, _ => False

/-- a state reached by way of e -/
def Reach (E : Env) (Φ : Fr) (K : Exit → St → Prop) (e : Exit) (a : Act) (w : World) : Prop := ∃ σ loc kn, K e σ ∧ CI E Φ σ loc kn a w
/-- what is asked of ranges over functions -/
def ROk (P : Program) (E : Env) (Φ : Fr) (ro : Option Nat) (n : Nat) (R : Operand → Array Tmp → Code → Code → (Exit → St → Prop) → St → Prop) : Prop :=
  ∀ (g : Operand) (ps : Array Tmp) (as b : Code) (K : Exit → St → Prop) (σ : St) (loc : Locs) (kn : Nat → Prop) (a : Act) (w : World), R g ps as b K σ → CI E Φ σ loc kn a w → (Code.rangeFunc g ps as b).wpIn (FW ro) n P (Reach E Φ K) a w
theorem ROk.no {Φ : Fr} {ro : Option Nat} {n : Nat} : ROk P E Φ ro n noM.R := fun _ _ _ _ _ _ _ _ _ _ h => h.elim

variable {Φ : Fr} {ro : Option Nat} {n : Nat} {M : Md}
theorem draw_sound {ops : Array Oper} {id : Nat} {K : Exit → St → Prop} (hmo : P.follows .mixedOrders = true) (h : vcOps P noM ops ops.toList 0 [] (fun τ log => Side (raceOk ops log = true) (bump τ ops.size) (K .normal)) σ) (hci : CI E Φ σ loc kn a w) :
    (Code.region id ops true).wpIn (FW ro) n P (Reach E Φ K) a w := by
  obtain ⟨xs, hx, ⟨hrace, hk⟩, hent⟩ := chain_of ops.toList 0 [] σ h
  have hc := hci.c
  have htd := Tr.drew hc.mc
  have hf : ∀ k, isL (Array.replicate ops.size false) k = false := fun k => by
    simp only [isL, Array.getD_eq_getD_getElem?, Array.getElem?_replicate]
    split <;> rfl
  have hrun : runL (isL (Array.replicate ops.size false)) 0 ops.toList xs σ = σ := by
    have : ∀ (l : List Oper) (xs : List Ent) (k : Nat) (σ : St), runL (isL (Array.replicate ops.size false)) k l xs σ = σ := fun l => by
      induction l with
      | nil => intros; rfl
      | cons o l ih =>
        intro xs k σ
        cases xs with
        | nil => rfl
        | cons x xs => simp only [runL, hf, Bool.false_eq_true, if_false]; exact ih xs _ σ
    exact this _ _ _ _
  have hcnt : ∀ n, cnt (isL (Array.replicate ops.size false)) n = n := fun n => by
    induction n with
    | zero => rfl
    | succ n ih => simp [cnt, ih, hf]
  refine wpIn_region_any hmo (any_sound (E := E) (σ := σ) (xs := xs) (Φ := Φ) (by simpa using hx) hrace (by simp) (fun k o x ho hxk => ?_) (fun loc kn a w hcc hii hdd => ⟨_, loc, kn, hk, ⟨hcc, hii, ?_, hdd⟩⟩) ops.size _ loc kn a _ (by simp) (Nat.le_of_eq (hcnt _)) (fun j o _ hL => by rw [hf] at hL; cases hL) ?_ ?_ hc.size (hci.nod.tr hc.mc htd) (fun id hid => .inl (hc.known id hid)) ?_)
  · have := hent k o x (by simpa using ho) hxk
    rw [Nat.zero_add] at this
    exact this
  · rw [hrun]; exact htd.mc
  · rw [hrun]; exact slots_tr htd hc.slots
  · rw [hrun]; exact hci.i.step hc.mc htd
  · show Φ.n ≤ (runL (fun _ => true) 0 ops.toList xs σ).n + 4 * ops.size
    rw [(runL_t (fun _ => true) ops.toList xs 0 σ).2.2.2]
    have := hci.le
    omega

theorem region_sound (hY : YOk P E Φ ro n M.Y) {ops : Array Oper} {id : Nat} {K : Exit → St → Prop} (h : vcOps P M ops ops.toList 0 [] (fun τ _ => K .normal (bump τ ops.size)) σ) (hci : CI E Φ σ loc kn a w) :
    (Code.region id ops false).wpIn (FW ro) n P (Reach E Φ K) a w := by
  have hc := hci.c
  refine wpIn_region_list (ops_sound hY ops.toList 0 [] σ loc kn a w h hc.mc hc.slots hc.size hci.nod (by simpa using hc.known) hci.i hci.le ?_)
  intro τ log loc' kn' a' w' hk h1 h2 h3 h4 h5 h6 h7
  exact ⟨_, loc', kn', hk, ⟨⟨h1, h2, h3, fun id hi => by have := h5 id hi; simp only [Nat.zero_add, Array.length_toList] at this; exact this⟩, h6, Nat.le_trans h7 (Nat.le_add_right _ _), h4⟩⟩

theorem stepR_scope {b : Frame} {k : List Item} {cs : List Frame} {c : Code} : step P (lone (b.atR a (.code (.scope c) :: k)) cs w) = .next (lone (b.atR a (.code c :: .inScope c :: k)) cs w) :=
  step_lone_go (by simp [stepG, stepG.exec, Frame.atR])
theorem stepR_inScope {b : Frame} {k : List Item} {cs : List Frame} {c : Code} : step P (lone (b.atR a (.inScope c :: k)) cs w) = .next (lone (b.atR a k) cs w) :=
  step_lone_go (by simp [stepG, stepG.exec, Frame.atR])
theorem wpIn_scope_straight {F : Fence} {Q : Exit → Act → World → Prop} {c : Code} (h : c.wpIn F n P (Exit.noGoto Q) a w) : (Code.scope c).wpIn F n P Q a w := by
  intro b k cs hro hb hr
  obtain ⟨e, a₁, w₁, hq, harr⟩ := h b (.inScope c :: k) cs hro hb hr
  have h0 : (lone (b.atR a (.code (.scope c) :: k)) cs w).fenced P F := fenced_calm hb hr rfl
  cases e with
  | normal => exact ⟨.normal, a₁, w₁, hq, .head h0 stepR_scope (StepsIn.trans harr (.one (fenced_calm hb hr rfl) stepR_inScope))⟩
  | exit id => exact ⟨.exit id, a₁, w₁, hq, .of_steps (.one h0 stepR_scope) ⟨fun k' hk => harr.1 k' (by simp [exitTo, hk]), fun g1 g2 => harr.2 g1 (by simp [exitTo, g2])⟩⟩
  | goto l => exact hq.elim
  | ret => exact ⟨_, a₁, w₁, hq, .of_steps (.one h0 stepR_scope) harr⟩
  | panic ch => exact ⟨_, a₁, w₁, hq, .of_steps (.one h0 stepR_scope) harr⟩
  | outgrown => exact ⟨_, a₁, w₁, hq, .of_steps (.one h0 stepR_scope) harr⟩

theorem vc_sound (hmo : P.follows .mixedOrders = true) (hY : YOk P E Φ ro n M.Y) (hR : ROk P E Φ ro n M.R) : ∀ (c : Code) (K : Exit → St → Prop) (σ : St) (loc : Locs) (kn : Nat → Prop) (a : Act) (w : World), vc P M c K σ → CI E Φ σ loc kn a w → c.wpIn (FW ro) n P (Reach E Φ K) a w
  | .skip, K, σ, loc, kn, a, w, h, hc => wpIn_skip ⟨σ, loc, kn, h, hc⟩
  | .region id ops false, K, σ, loc, kn, a, w, h, hc => region_sound hY h hc
  | .region id ops true, K, σ, loc, kn, a, w, h, hc => draw_sound hmo h hc
  | .seq x y, K, σ, loc, kn, a, w, h, hc => by
    refine wpIn_seq (wpIn_mono (vc_sound hmo hY hR x _ σ loc kn a w h hc) (fun e a' w' ⟨τ, l, k, h1, h2⟩ => ?_))
    cases e with
    | normal => exact vc_sound hmo hY hR y K τ l k a' w' h1 h2
    | _ => exact ⟨τ, l, k, h1, h2⟩
  | .cond c x y, K, σ, loc, kn, a, w, h, hc => by
    unfold vc CondS at h
    split at h
    · rename_i b hb
      have hv := evRep hc.c.slots c
      rw [hb] at hv
      have hv := hv.val
      refine wpIn_cond_split hv (fun e => vc_sound hmo hY hR x K σ loc kn a w (h.1 e) hc) (fun e => vc_sound hmo hY hR y K σ loc kn a w (h.2 e) hc)
    · exact h.elim
  | .block id b, K, σ, loc, kn, a, w, h, hc => by
    refine wpIn_block (wpIn_mono (vc_sound hmo hY hR b _ σ loc kn a w h hc) (fun e a' w' ⟨τ, l, k, h1, h2⟩ => ?_))
    cases e with
    | exit i =>
      simp only [blockK] at h1
      simp only [Exit.inBlock]
      split at h1
      · rename_i e; rw [if_pos e]; exact ⟨τ, l, k, h1, h2⟩
      · rename_i e; rw [if_neg e]; exact ⟨τ, l, k, h1, h2⟩
    | _ => exact ⟨τ, l, k, h1, h2⟩
  | .loop b, K, σ, loc, kn, a, w, h, hc => by
    obtain ⟨gs, α, inv, φ, m, x0, h0, hn, hs, hstep⟩ := h
    have hle := hc.le
    obtain ⟨σ', loc, kn, hs, hc⟩ := ghosts_sound hs hc
    intro b' k cs hro hb hr
    have key : ∀ n' x, m x = n' → φ x → ∀ loc kn a w, CI E Φ (inv x) loc kn a w →
        ∃ e a' w', Reach E Φ K e a' w' ∧ ArrivesIn (Machine.fenced P (FW ro)) P (lone (b'.atR a (.code b :: .inLoop b :: k)) cs w) b' k cs e a' w' := by
      intro n'
      induction n' using Nat.strongRecOn with
      | _ n' ih =>
        intro x hx hφ loc kn a w hc
        obtain ⟨e, a1, w1, ⟨τ, l, kk, h1, h2⟩, harr⟩ := vc_sound hmo hY hR b (loopK inv φ m x K) (inv x) loc kn a w (hstep x hφ) hc b' (.inLoop b :: k) cs hro hb hr
        cases e with
        | normal =>
          obtain ⟨y, hy1, hy2, hy3⟩ := h1
          obtain ⟨e2, a2, w2, hq, harr2⟩ := ih (m y) (by omega) y rfl hy1 l _ a1 w1 (h2.sub hy3 (Nat.le_trans hle (hn y hy1)))
          exact ⟨e2, a2, w2, hq, .of_steps (StepsIn.trans harr (.one (fenced_calm hb hr rfl) stepR_inLoop)) harr2⟩
        | exit id => exact ⟨_, a1, w1, ⟨τ, l, kk, h1, h2⟩, .pass (x := .inLoop b) rfl (fun _ _ => .inl (by simp)) harr⟩
        | goto l' => exact ⟨_, a1, w1, ⟨τ, l, kk, h1, h2⟩, .pass (x := .inLoop b) rfl (fun _ _ => .inl (by simp)) harr⟩
        | ret => exact ⟨_, a1, w1, ⟨τ, l, kk, h1, h2⟩, .pass (x := .inLoop b) rfl (fun _ _ => .inl (by simp)) harr⟩
        | panic ch => exact ⟨_, a1, w1, ⟨τ, l, kk, h1, h2⟩, .pass (x := .inLoop b) rfl (fun _ _ => .inl (by simp)) harr⟩
        | outgrown => exact ⟨_, a1, w1, ⟨τ, l, kk, h1, h2⟩, .pass (x := .inLoop b) rfl (fun _ _ => .inl (by simp)) harr⟩
    obtain ⟨e, a', w', hq, harr⟩ := key _ x0 rfl h0 loc _ a w (hc.sub hs (Nat.le_trans hle (hn x0 h0)))
    exact ⟨e, a', w', hq, .of_steps (.one (fenced_calm hb hr rfl) stepR_loop) harr⟩
  | .exit id, K, σ, loc, kn, a, w, h, hc => wpIn_exit ⟨σ, loc, kn, h, hc⟩
  | .scope b, K, σ, loc, kn, a, w, h, hc => by
    refine wpIn_scope_straight (wpIn_mono (vc_sound hmo hY hR b _ σ loc kn a w h hc) (fun e a' w' ⟨τ, l, k, h1, h2⟩ => ?_))
    cases e with
    | goto l' => exact h1.elim
    | _ => exact ⟨τ, l, k, h1, h2⟩
  | .label _, K, σ, loc, kn, a, w, h, hc => wpIn_label ⟨σ, loc, kn, h, hc⟩
  | .ret, K, σ, loc, kn, a, w, h, hc => wpIn_ret ⟨σ, loc, kn, h, hc⟩
  | .rangeFunc g ps as b, K, σ, loc, kn, a, w, h, hc => hR g ps as b K σ loc kn a w h hc
  | .goto _, _, _, _, _, _, _, h, _ => h.elim
  | .refuse _, _, _, _, _, _, _, h, _ => h.elim
end
end Go.Pm
